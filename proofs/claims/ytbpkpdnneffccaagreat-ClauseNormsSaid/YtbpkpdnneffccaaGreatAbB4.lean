/- Parts of the proof that the law returns true: walks of the functions, plain laws. -/
import Derived.Test.YtbpkpdnneffccaaGreatAbB3
set_option linter.unusedVariables false
set_option linter.unusedSimpArgs false
set_option linter.unusedSectionVars false
namespace Go.Proofs.YtbpkpdnneffccaaGreat
open Go Go.Ab Go.Proofs.Tryz
def hJ(e:zU):Prop:=e.type.Ok∧e.body.Ok∧e.cons.length≤1152921504606846976∧e.fields.length≤1152921504606846976
def zE:zU:=zU.mk 0 ⟨#[]⟩ zT zT 0 0 0 0 0 [] []
def zK(l:List zU)(n:Int):zU:=(l[n.toNat]?).getD zE
theorem yP{l:List zU}{n:Int}(h0:0≤n)(h1:n<l.length):zR l n=some (zK l n):=by
 unfold zR zK
 rw[if_pos h0]
 have:n.toNat<l.length:=by omega
 rw[List.getElem?_eq_getElem this];rfl
theorem nL{l:List zU}{n:Int}(h0:0≤n)(h1:n<l.length):zK l n∈l:=by
 unfold zK
 have:n.toNat<l.length:=by omega
 rw[List.getElem?_eq_getElem this]
 exact List.getElem_mem this
def kH(l:List zU)(n kind:Int):Bool:=decide (0≤n)&&decide (n<l.length)&&(zK l n).kind==kind
theorem wU{l:List zU}{n kind:Int}(h:kH l n kind=true):0≤n∧n<l.length∧(zK l n).kind=kind:=by
 unfold kH at h
 simp only[Bool.and_eq_true,decide_eq_true_eq,beq_iff_eq]at h
 exact⟨h.1.1,h.1.2,h.2⟩
theorem zSs(l:List zU)(n kind:Int):zG (fun q=>zJC q l n kind) (kH l n kind):=by
 simp only[zJC]
 unfold kH
 by_cases h0:n≥0
 ·refine zG.ifT (decide_eq_true h0) ?_
  by_cases h1:n<l.length
  ·exact zG.ifT (decide_eq_true h1) (zG.pure (yP h0 h1) (zG.ret.eq (by simp[show 0≤n from h0,h1])))
  ·exact zG.ifF (decide_eq_false h1) (zG.ret.eq (by simp[h1]))
 ·exact zG.ifF (decide_eq_false h0) (zG.ret.eq (by simp[show ¬0≤n from h0]))
def dV(t:Tm):Bool:=t.k==0&&t.n==0&&(t.sub.length:Int)==0
theorem zAW(t:Tm):zG (fun q=>zJA q t) (dV t):=by
 refine zG.mk fun q=>?_
 unfold zJA dV
 by_cases h1:t.k=0<;>by_cases h2:t.n=0<;>by_cases h3:t.sub.length=0<;>simp[h1,h2,h3]
def uV(t:Tm)(n:Int):Bool:=rV t 0 n&&(lK t 8 8).isEmpty
theorem V1(t:Tm)(n:Int)(ho:t.Ok):zG (fun q=>e99 q t n) (uV t n):=by
 simp only[e99]
 refine(kD t 0 n ho).bind ?_
 unfold uV
 by_cases h:rV t 0 n=true
 ·refine zG.ifT h ((T9 t ho).bind (zG.ret.eq ?_))
  have hs:zH t=true:=by
   unfold rV at h;simp at h;exact h.1.1
  unfold iT
  rw[if_pos hs,h,Bool.true_and,Bool.eq_iff_iff]
  simp only[beq_iff_eq,List.isEmpty_iff]
  constructor
  ·intro h6
   have h6':vI (lK t 8 8)=[]:=List.length_eq_zero_iff.1 (by omega)
   refine List.eq_nil_iff_forall_not_mem.2 fun x hx=>?_
   rw[←fC,h6']at hx;cases hx
  ·intro h6
   rw[h6];rfl
 ·exact zG.ifF (by simpa using h) (zG.ret.eq (by simp[h]))
def w8:List Int->Int->Bool
 | [],_=>true
 |n::r,m=>n==m&&w8 r (m+1)
theorem zDz(l:List Int)(f:Int)(hf:0≤f∧f≤1048576)(hl:l.length≤1152921504606846976):∀(r:List Int) (v:Nat),l.drop v=r->zG (fun q=>jO q l f (v:Int)) (w8 r (f+v))
 | [],v,hd=>by
  refine zG.succ ?_
  simp only[jO]
  exact zG.ifF (drop_nil hd) zG.ret
 |n::r,v,hd=>by
  have hlt:=yY hd
  refine zG.succ ?_
  simp only[jO]
  refine zG.ifT (yK hd) (zG.pure (yD hd) ?_)
  rw[yM (x:=f+v) (by omega) (by omega),w8]
  by_cases h:n=f+v
  ·refine zG.ifF (by simp[h]) ?_
   rw[yE v (by omega)]
   exact(zDz l f hf hl r (v+1) (zZ hd)).eq (by rw[show f+((v+1:Nat):Int)=f+v+1 by omega];simp[h])
  ·exact zG.ifT (by simp[h]) (zG.ret.eq (by simp[h]))
theorem zGX(l:List Int)(f:Int)(hf:0≤f∧f≤1048576)(hl:l.length≤1152921504606846976):zG (fun q=>zJB q l f) (w8 l f):=by
 simp only[zJB]
 exact(zDz l f hf hl l 0 rfl).eq (by simp)
def V2(l:List zU)(of kind:Int):List Int->Int->Bool
 | [],_=>true
 |n::r,k=>kH l n kind&&(zK l n).fam==of&&(zK l n).place==k&&V2 l of kind r (k+1)
theorem M1(l:List zU)(of kind:Int)(p:List Int)(hp:p.length≤1152921504606846976):∀(r:List Int) (v:Nat),p.drop v=r->zG (fun q=>jP q l of p kind (v:Int)) (V2 l of kind r v)
 | [],v,hd=>by
  refine zG.succ ?_
  simp only[jP]
  exact zG.ifF (drop_nil hd) zG.ret
 |n::r,v,hd=>by
  have hlt:=yY hd
  refine zG.succ ?_
  simp only[jP]
  refine zG.ifT (yK hd) (zG.pure (yD hd) ((zSs l n kind).bind ?_))
  rw[V2]
  by_cases h:kH l n kind=true
  ·have hs:=wU h
   refine zG.ifT h (zG.pure (yP hs.1 hs.2.1) ?_)
   by_cases h2:(zK l n).fam=of
   ·refine zG.ifF (by simp[h2]) ?_
    by_cases h3:(zK l n).place=v
    ·refine zG.ifF (by simp[h3]) ?_
     rw[yE v (by omega)]
     exact(M1 l of kind p hp r (v+1) (zZ hd)).eq (by simp[h,h2,h3])
    ·exact zG.ifT (by simp[h3]) (zG.ret.eq (by simp[h3]))
   ·exact zG.ifT (by simp[h2]) (zG.ret.eq (by simp[h2]))
  ·exact zG.ifF (by simpa using h) (zG.ret.eq (by simp[h]))
theorem V3(l:List zU)(of kind:Int)(p:List Int)(hp:p.length≤1152921504606846976):zG (fun q=>zJD q l of p kind) (V2 l of kind p 0):=by
 simp only[zJD]
 exact(M1 l of kind p hp p 0 rfl).eq (by simp)
def zFw(x:zU):Bool:=
 decide (0≤x.pars)&&decide (0≤x.inds)&&decide (x.pars≤24)&&decide (x.inds≤24-x.pars)&&x.fam==0&&x.place==0&&dV x.body
def zJE(x:zU):Bool:=
 (vY x.type (x.pars+x.inds)).2.2==0&&(vY x.type (x.pars+x.inds)).2.1.k==2&&(vY x.type (x.pars+x.inds)).2.1.n==x.level
def zDy(l:List zU)(i:Int)(x:zU):Bool:=
 decide (x.cons.length≤16)&&w8 x.cons (i+1)&&V2 l i 2 x.cons 0
def zTE(l:List zU)(i:Int)(x:zU):Bool:=
 x.inds==0&&decide (x.cons.length=1)&&w8 x.fields (i+2)&&V2 l i 4 x.fields 0&&(yR (zK l (i+1)).type).2.2==0&&((yR (zK l (i+1)).type).1.length:Int)==x.pars+x.fields.length
def nM(l:List zU)(i:Int):Bool:=
 zFw (zK l i)&&zJE (zK l i)&&zDy l i (zK l i)&&(decide ((zK l i).fields.length=0)||zTE l i (zK l i))
theorem zJF(l:List zU)(i:Int)(h0:0≤i)(h1:i<l.length)(hl:l.length≤65535)(he:∀e∈l,hJ e):zG (fun q=>zMt q l i) (nM l i):=by
 simp only[zMt]
 refine zG.pure (yP h0 h1) ?_
 have hx:=he _ (nL h0 h1)
 have hfl:(zK l i).fields.length≤1152921504606846976:=hx.2.2.2
 unfold nM
 by_cases hA:zFw (zK l i)=true
 ·have hA':=hA
  unfold zFw at hA'
  simp only[Bool.and_eq_true,decide_eq_true_eq,beq_iff_eq]at hA'
  obtain⟨⟨⟨⟨⟨⟨a1,a2⟩,a3⟩,a4⟩,a5⟩,a6⟩,a7⟩:=hA'
  refine zG.ifF (decide_eq_false (by omega)) (zG.ifF (decide_eq_false (by omega)) (zG.ifF (decide_eq_false (by omega)) (zG.ifF (decide_eq_false (by rw[yM (by omega) (by omega)];omega)) (zG.ifF (by simp[a5]) (zG.ifF (by simp[a6]) (((zAW _).eq a7).bind (zG.ifT rfl ?_)))))))
  rw[yM (by omega) (by omega)]
  refine(B9 (zK l i).type _ hx.1).bind ?_
  rw[hA]
  by_cases b1:(vY (zK l i).type ((zK l i).pars+(zK l i).inds)).2.2=0
  ·refine zG.ifF (by simp[b1]) ?_
   by_cases b2:(vY (zK l i).type ((zK l i).pars+(zK l i).inds)).2.1.k=2
   ·refine zG.ifF (by simp[b2]) ?_
    by_cases b3:(vY (zK l i).type ((zK l i).pars+(zK l i).inds)).2.1.n=(zK l i).level
    ·refine zG.ifF (by simp[b3]) ?_
     have hB:zJE (zK l i)=true:=by unfold zJE;simp[b1,b2,b3]
     rw[hB]
     by_cases c1:(zK l i).cons.length≤16
     ·refine zG.ifF (decide_eq_false (by omega)) ?_
      rw[yM (x:=i+1) (by omega) (by omega)]
      refine(zGX (zK l i).cons (i+1) (by omega) (by omega)).bind ?_
      by_cases c2:w8 (zK l i).cons (i+1)=true
      ·refine zG.ifT c2 ((V3 l i 2 (zK l i).cons (by omega)).bind ?_)
       by_cases c3:V2 l i 2 (zK l i).cons 0=true
       ·refine zG.ifT c3 ?_
        have hC:zDy l i (zK l i)=true:=by unfold zDy;simp[c1,c2,c3]
        rw[hC]
        by_cases d0:(zK l i).fields.length=0
        ·exact zG.ifT (by simp[d0]) (zG.ret.eq (by simp[d0]))
        ·refine zG.ifF (by have h:((zK l i).fields.length:Int)≠0:=(by omega);simpa using h) ?_
         rw[show decide ((zK l i).fields.length=0)=false by simp[d0]]
         simp only[Bool.true_and,Bool.false_or]
         unfold zTE
         by_cases d1:(zK l i).inds=0
         ·refine zG.ifF (by simp[d1]) ?_
          by_cases d2:(zK l i).cons.length=1
          ·refine zG.ifF (by simp[d2]) ?_
           rw[yM (x:=i+2) (by omega) (by omega)]
           refine(zGX (zK l i).fields (i+2) (by omega) hx.2.2.2).bind ?_
           by_cases d3:w8 (zK l i).fields (i+2)=true
           ·refine zG.ifT d3 ((V3 l i 4 (zK l i).fields hx.2.2.2).bind ?_)
            by_cases d4:V2 l i 4 (zK l i).fields 0=true
            ·have hi:i+1<l.length:=by
              obtain⟨y,hy⟩:∃y,(zK l i).cons=[y]:=by
               rcases hc:(zK l i).cons with _|⟨y,_|⟨z,r⟩⟩<;>rw[hc]at d2<;>simp at d2
               exact⟨y,rfl⟩
              rw[hy]at c2 c3
              rw[w8]at c2
              rw[V2]at c3
              simp only[Bool.and_eq_true,beq_iff_eq]at c2 c3
              have:=wU c3.1.1.1
              omega
             refine zG.ifT d4 (zG.pure (yP (by omega) hi) ((C1 _ (he _ (nL (by omega) hi)).1).bind ?_))
             by_cases d5:(yR (zK l (i+1)).type).2.2=0
             ·refine zG.ifT (by simp[d5]) (zG.ret.eq ?_)
              rw[yM (x:=(zK l i).pars+((zK l i).fields.length:Int)) (by omega) (by omega)]
              simp[d1,d2,d3,d4,d5]
             ·exact zG.ifF (by simp[d5]) (zG.ret.eq (by simp[d5]))
            ·exact zG.ifF (by simpa using d4) (zG.ret.eq (by simp[d4]))
           ·exact zG.ifF (by simpa using d3) (zG.ret.eq (by simp[d3]))
          ·exact zG.ifT (by simp<;>omega) (zG.ret.eq (by simp[d2]))
         ·exact zG.ifT (by simp[d1]) (zG.ret.eq (by simp[d1]))
       ·refine zG.ifF (by simpa using c3) (zG.ret.eq ?_)
        unfold zDy;simp[c3]
      ·refine zG.ifF (by simpa using c2) (zG.ret.eq ?_)
       unfold zDy;simp[c2]
     ·refine zG.ifT (decide_eq_true (by omega)) (zG.ret.eq ?_)
      unfold zDy;simp[c1]
    ·refine zG.ifT (by simp[b3]) (zG.ret.eq ?_)
     unfold zJE;simp[b3]
   ·refine zG.ifT (by simp[b2]) (zG.ret.eq ?_)
    unfold zJE;simp[b2]
  ·refine zG.ifT (by simp[b1]) (zG.ret.eq ?_)
   unfold zJE;simp[b1]
 ·rw[show zFw (zK l i)=false by simpa using hA]
  unfold zFw at hA
  simp only[Bool.and_eq_true,decide_eq_true_eq,beq_iff_eq]at hA
  by_cases a1:(zK l i).pars<0
  ·exact zG.ifT (decide_eq_true a1) zG.ret
  refine zG.ifF (decide_eq_false a1) ?_
  by_cases a2:(zK l i).inds<0
  ·exact zG.ifT (decide_eq_true a2) zG.ret
  refine zG.ifF (decide_eq_false a2) ?_
  by_cases a3:(zK l i).pars>24
  ·exact zG.ifT (decide_eq_true a3) zG.ret
  refine zG.ifF (decide_eq_false a3) ?_
  rw[yM (x:=24-(zK l i).pars) (by omega) (by omega)]
  by_cases a4:(zK l i).inds>24-(zK l i).pars
  ·exact zG.ifT (decide_eq_true a4) zG.ret
  refine zG.ifF (decide_eq_false a4) ?_
  by_cases a5:(zK l i).fam=0
  ·refine zG.ifF (by simp[a5]) ?_
   by_cases a6:(zK l i).place=0
   ·refine zG.ifF (by simp[a6]) ((zAW _).bind ?_)
    by_cases a7:dV (zK l i).body=true
    ·exact absurd ⟨⟨⟨⟨⟨⟨by omega,by omega⟩,by omega⟩,by omega⟩,a5⟩,a6⟩,a7⟩ hA
    ·exact zG.ifF (by simpa using a7) zG.ret
   ·exact zG.ifT (by simp[a6]) zG.ret
  ·exact zG.ifT (by simp[a5]) zG.ret
def zJG(qq:Nat)(p0:yU)(p1:Int):Option Bool:=
 zR p0 p1>>=fun x1=>
 zJC qq p0 x1.fam 1>>=fun r3=>
 if r3 then
 if decide (x1.fam≥p1)then
 some false
 else
 zR p0 x1.fam>>=fun x7=>
 if x1.pars != x7.pars then
 some false
 else
 zJA qq x1.body>>=fun r10=>
 if r10 then
 if x1.inds != 0 then
 some false
 else
 if x1.level != 0 then
 some false
 else
 if decide ((xL ((x1.cons.length:Int)+(x1.fields.length:Int)))>0)then
 some false
 else
 if x1.kind==4 then
 if decide (x1.place≥0)then
 if decide (x1.place<(x7.fields.length:Int))then
 zR x7.fields x1.place>>=fun x19=>
 some (x19==p1)
 else
 some false
 else
 some false
 else
 if decide (x1.place≥0)then
 if decide (x1.place<(x7.cons.length:Int))then
 zR x7.cons x1.place>>=fun x23=>
 some (x23==p1)
 else
 some false
 else
 some false
 else
 some false
 else
 some false
theorem I4:Qf 132 f132:=⟨func132,rfl⟩
theorem zQf{qq p0 p1 r}(h:zJG qq p0 p1=some r):Ct 132 [] [zO yZ p0 .no,ai p1] (ab r) [] 0:=⟨by
 unfold zJG at h
 obtain⟨x1,h2,h⟩:=zB h
 obtain⟨r3,h4,h⟩:=zB h
 have k:=oA 0 (wM (o:=.no) h2) o0
 obtain⟨h5,h⟩|⟨h5,h⟩:=zL h
 have k:=oK 3 [] h5 (zQi h4) k
 obtain⟨h6,h⟩|⟨h6,h⟩:=zL h
 cases h
 exact tF I4 0 [] (oB 2 h6 k)
 obtain⟨x7,h8,h⟩:=zB h
 have k:=oA 2 (wM (o:=.no) h8)<|oB 2 h6 k
 obtain⟨h9,h⟩|⟨h9,h⟩:=zL h
 cases h
 exact tF I4 0 [] (oB 1 h9 k)
 obtain⟨r10,h11,h⟩:=zB h
 have k:=oB 1 h9 k
 obtain⟨h12,h⟩|⟨h12,h⟩:=zL h
 have k:=oK 1 [] h12 (zQl h11) k
 obtain⟨h13,h⟩|⟨h13,h⟩:=zL h
 cases h
 exact tF I4 0 [] (oB 2 h13 k)
 have k:=oB 2 h13 k
 obtain⟨h14,h⟩|⟨h14,h⟩:=zL h
 cases h
 exact tF I4 0 [] (oB 1 h14 k)
 have k:=oB 1 h14 k
 obtain⟨h15,h⟩|⟨h15,h⟩:=zL h
 cases h
 exact tF I4 0 [] (oB 5 h15 k)
 have k:=oA 1 (wM (o:=.no) h8)<|oB 5 h15 k
 obtain⟨h16,h⟩|⟨h16,h⟩:=zL h
 have k:=oA 1 (wM (o:=.no) h8)<|oB 2 h16 k
 obtain⟨h17,h⟩|⟨h17,h⟩:=zL h
 have k:=oB 2 h17 k
 obtain⟨h18,h⟩|⟨h18,h⟩:=zL h
 obtain⟨x19,h20,h⟩:=zB h
 cases h
 exact tF I4 2 [] (oA 1 (I0 (o:=.no) h20)<|oB 2 h18 k)
 cases h
 exact tF I4 0 [] (oB 2 h18 k)
 cases h
 exact tF I4 0 [] (oB 2 h17 k)
 have k:=oB 2 h16 k
 obtain⟨h21,h⟩|⟨h21,h⟩:=zL h
 have k:=oB 1 h21 k
 obtain⟨h22,h⟩|⟨h22,h⟩:=zL h
 obtain⟨x23,h24,h⟩:=zB h
 cases h
 exact tF I4 2 [] (oA 1 (I0 (o:=.no) h24)<|oB 2 h22 k)
 cases h
 exact tF I4 0 [] (oB 2 h22 k)
 cases h
 exact tF I4 0 [] (oB 1 h21 k)
 cases h
 exact tF I4 1 [] (oK 1 [] h12 (zQl h11) k)
 cases h
 exact tF I4 1 [] (oK 3 [] h5 (zQi h4) k),⟨⟨tv,dE _⟩,tv,tv⟩,zA,tv,zA⟩
def zMs(qq:Nat)(p0:yU)(p1:Int):Option Bool:=
 zR p0 p1>>=fun x1=>
 zCV qq x1.type>>=fun r3=>
 zJG qq p0 p1>>=fun r5=>
 if r5 then
 if r3.2.2==0 then
 if decide ((r3.1.length:Int)≥x1.pars)then
 zR p0 x1.fam>>=fun x10=>
 zFy qq r3.2.1 x1.fam x1.pars x10.inds (r3.1.length:Int)>>=fun r12=>
 some r12
 else
 some false
 else
 some false
 else
 some false
theorem zQe:Qf 101 f101:=⟨func101,rfl⟩
theorem zYE{qq p0 p1 r}(h:zMs qq p0 p1=some r):Ct 101 [] [zO yZ p0 .no,ai p1] (ab r) [] 0:=⟨by
 unfold zMs at h
 obtain⟨x1,h2,h⟩:=zB h
 obtain⟨r3,h4,h⟩:=zB h
 obtain⟨r5,h6,h⟩:=zB h
 have k:=oC 1 [] (zQx h4)<|oA 0 (wM (o:=.no) h2) o0
 obtain⟨h7,h⟩|⟨h7,h⟩:=zL h
 have k:=oK 4 [] h7 (zQf h6) k
 obtain⟨h8,h⟩|⟨h8,h⟩:=zL h
 have k:=oA 1 (wM (o:=.no) h2)<|oB 0 h8 k
 obtain⟨h9,h⟩|⟨h9,h⟩:=zL h
 obtain⟨x10,h11,h⟩:=zB h
 obtain⟨r12,h13,h⟩:=zB h
 obtain rfl:=sj h
 exact tF zQe 0 [] (oC 2 [] (zQu h13)<|oA 1 (wM (o:=.no) h11)<|oA 1 (wM (o:=.no) h2)<|oA 1 (wM (o:=.no) h2)<|oA 1 (wM (o:=.no) h2)<|oB 1 h9 k)
 obtain rfl:=sj h
 exact tF zQe 0 [] (oB 1 h9 k)
 obtain rfl:=sj h
 exact tF zQe 0 [] (oB 0 h8 k)
 obtain rfl:=sj h
 exact tF zQe 0 [] (oK 4 [] h7 (zQf h6) k),⟨⟨tv,dE _⟩,tv,tv⟩,zA,tv,zA⟩
def zMr(qq:Nat)(p0:yU)(p1:Int):Option Bool:=
 zJG qq p0 p1>>=fun r1=>
 if r1 then
 zR p0 p1>>=fun x4=>
 U7 qq x4.type (xL (x4.pars+1))>>=fun r6=>
 if r6.2.2==0 then
 zR r6.1 x4.pars>>=fun x9=>
 zFy qq x9 x4.fam x4.pars 0 x4.pars>>=fun r11=>
 some r11
 else
 some false
 else
 some false
theorem zTF:Qf 102 f102:=⟨func102,rfl⟩
theorem zYF{qq p0 p1 r}(h:zMr qq p0 p1=some r):Ct 102 [] [zO yZ p0 .no,ai p1] (ab r) [] 0:=⟨by
 unfold zMr at h
 obtain⟨r1,h2,h⟩:=zB h
 obtain⟨h3,h⟩|⟨h3,h⟩:=zL h
 obtain⟨x4,h5,h⟩:=zB h
 obtain⟨r6,h7,h⟩:=zB h
 have k:=oC 2 [] (zLQ h7)<|oA 1 (wM (o:=.no) h5)<|oA 1 (wM (o:=.no) h5)<|oK 0 [] h3 (zQf h2) o0
 obtain⟨h8,h⟩|⟨h8,h⟩:=zL h
 obtain⟨x9,h10,h⟩:=zB h
 obtain⟨r11,h12,h⟩:=zB h
 obtain rfl:=sj h
 exact tF zTF 0 [] (oC 1 [] (zQu h12)<|oA 1 (wM (o:=.no) h5)<|oA 1 (wM (o:=.no) h5)<|oA 1 (wM (o:=.no) h5)<|oA 1 (wN (o:=.no) h10)<|oA 0 (wM (o:=.no) h5)<|oB 4 h8 k)
 obtain rfl:=sj h
 exact tF zTF 0 [] (oB 4 h8 k)
 obtain rfl:=sj h
 exact tF zTF 1 [] (oK 0 [] h3 (zQf h2) o0),⟨⟨tv,dE _⟩,tv,tv⟩,zA,tv,zA⟩
def zMq(qq:Nat)(p0:yU)(p1:Int):Option Bool:=
 zR p0 p1>>=fun x1=>
 e99 qq x1.body p1>>=fun r3=>
 if r3 then
 if x1.fam==0 then
 if x1.place==0 then
 if x1.pars==0 then
 if x1.inds==0 then
 if x1.level==0 then
 some ((xL ((x1.cons.length:Int)+(x1.fields.length:Int)))==0)
 else
 some false
 else
 some false
 else
 some false
 else
 some false
 else
 some false
 else
 some false
theorem zFv:Qf 103 f103:=⟨func103,rfl⟩
theorem zYG{qq p0 p1 r}(h:zMq qq p0 p1=some r):Ct 103 [] [zO yZ p0 .no,ai p1] (ab r) [] 0:=⟨by
 unfold zMq at h
 obtain⟨x1,h2,h⟩:=zB h
 obtain⟨r3,h4,h⟩:=zB h
 have k:=oA 0 (wM (o:=.no) h2) o0
 obtain⟨h5,h⟩|⟨h5,h⟩:=zL h
 have k:=oK 3 [] h5 (c99 h4) k
 obtain⟨h6,h⟩|⟨h6,h⟩:=zL h
 have k:=oB 1 h6 k
 obtain⟨h7,h⟩|⟨h7,h⟩:=zL h
 have k:=oB 1 h7 k
 obtain⟨h8,h⟩|⟨h8,h⟩:=zL h
 have k:=oB 1 h8 k
 obtain⟨h9,h⟩|⟨h9,h⟩:=zL h
 have k:=oB 1 h9 k
 obtain⟨h10,h⟩|⟨h10,h⟩:=zL h
 cases h
 exact tF zFv 6 [] (oB 1 h10 k)
 cases h
 exact tF zFv 0 [] (oB 1 h10 k)
 cases h
 exact tF zFv 0 [] (oB 1 h9 k)
 cases h
 exact tF zFv 0 [] (oB 1 h8 k)
 cases h
 exact tF zFv 0 [] (oB 1 h7 k)
 cases h
 exact tF zFv 0 [] (oB 1 h6 k)
 cases h
 exact tF zFv 0 [] (oK 3 [] h5 (c99 h4) k),⟨⟨tv,dE _⟩,tv,tv⟩,zA,tv,zA⟩
def V4(l:List zU)(x:zU):List Int:=if x.kind=4 then(zK l x.fam).fields else(zK l x.fam).cons
def zQd(l:List zU)(i:Int)(x:zU):Bool:=
 kH l x.fam 1&&decide (x.fam<i)&&x.pars==(zK l x.fam).pars&&dV x.body&&x.inds==0&&x.level==0&&decide (x.cons.length=0)&&decide (x.fields.length=0)
def zMp(l:List zU)(i:Int)(x:zU):Bool:=
 decide (0≤x.place)&&decide (x.place<(V4 l x).length)&&((V4 l x)[x.place.toNat]?).getD (-1)==i
def mG(l:List zU)(i:Int):Bool:=zQd l i (zK l i)&&zMp l i (zK l i)
theorem zJH{L:List Int}{n:Int}(h0:0≤n)(h1:n<L.length):zR L n=some ((L[n.toNat]?).getD (-1)):=by
 unfold zR
 rw[if_pos h0]
 have:n.toNat<L.length:=by omega
 rw[List.getElem?_eq_getElem this];rfl
theorem zDx(l:List zU)(i:Int)(h0:0≤i)(h1:i<l.length)(he:∀e∈l,hJ e):zG (fun q=>zJG q l i) (mG l i):=by
 simp only[zJG]
 refine zG.pure (yP h0 h1) ((zSs l _ 1).bind ?_)
 have hx:=he _ (nL h0 h1)
 have hc:(zK l i).cons.length≤1152921504606846976:=hx.2.2.1
 have hf:(zK l i).fields.length≤1152921504606846976:=hx.2.2.2
 unfold mG zQd
 by_cases a1:kH l (zK l i).fam 1=true
 ·have hs:=wU a1
  refine zG.ifT a1 ?_
  by_cases a2:(zK l i).fam≥i
  ·exact zG.ifT (decide_eq_true a2) (zG.ret.eq (by simp[show ¬(zK l i).fam<i by omega]))
  refine zG.ifF (decide_eq_false a2) (zG.pure (yP hs.1 hs.2.1) ?_)
  by_cases a3:(zK l i).pars=(zK l (zK l i).fam).pars
  ·refine zG.ifF (by simp[a3]) ((zAW _).bind ?_)
   by_cases a4:dV (zK l i).body=true
   ·refine zG.ifT a4 ?_
    by_cases a5:(zK l i).inds=0
    ·refine zG.ifF (by simp[a5]) ?_
     by_cases a6:(zK l i).level=0
     ·refine zG.ifF (by simp[a6]) ?_
      rw[yM (x:=((zK l i).cons.length:Int)+((zK l i).fields.length:Int)) (by omega) (by omega)]
      by_cases a7:(zK l i).cons.length=0∧(zK l i).fields.length=0
      ·refine zG.ifF (decide_eq_false (by omega)) ?_
       have last:∀L:List Int,V4 l (zK l i)=L->zG (fun _=>if decide ((zK l i).place≥0)=true then if decide ((zK l i).place<(List.length L:Int))=true then(zR L (zK l i).place)>>=fun x19=>some (x19==i)else some false else some false) (zMp l i (zK l i)):=fun L hL=>by
        unfold zMp
        rw[hL]
        by_cases b1:(zK l i).place≥0
        ·refine zG.ifT (decide_eq_true b1) ?_
         by_cases b2:(zK l i).place<(L.length:Int)
         ·exact zG.ifT (decide_eq_true b2) (zG.pure (zJH b1 b2) (zG.ret.eq (by simp[show 0≤(zK l i).place from b1,b2])))
         ·exact zG.ifF (decide_eq_false b2) (zG.ret.eq (by simp[b2]))
        ·exact zG.ifF (decide_eq_false b1) (zG.ret.eq (by simp[show ¬0≤(zK l i).place from b1]))
       have e:(kH l (zK l i).fam 1&&decide ((zK l i).fam<i)&&(zK l i).pars==(zK l (zK l i).fam).pars&&dV (zK l i).body&&(zK l i).inds==0&&(zK l i).level==0&&decide ((zK l i).cons.length=0)&&decide ((zK l i).fields.length=0))=true:=by
        simp[a1,show (zK l i).fam<i by omega,a3,a4,a5,a6,a7.1,a7.2]
       rw[e,Bool.true_and]
       by_cases a8:(zK l i).kind=4
       ·exact zG.ifT (by simp[a8]) (last _ (by unfold V4;rw[if_pos a8]))
       ·exact zG.ifF (by simp[a8]) (last _ (by unfold V4;rw[if_neg a8]))
      ·refine zG.ifT (decide_eq_true (by omega)) (zG.ret.eq ?_)
       have:decide ((zK l i).cons.length=0)=false∨decide ((zK l i).fields.length=0)=false:=by
        by_cases h:(zK l i).cons.length=0
        ·exact .inr (decide_eq_false fun h'=>a7 ⟨h,h'⟩)
        ·exact .inl (decide_eq_false h)
       rcases this with h|h<;>rw[h]<;>simp
     ·exact zG.ifT (by simp[a6]) (zG.ret.eq (by simp[a6]))
    ·exact zG.ifT (by simp[a5]) (zG.ret.eq (by simp[a5]))
   ·exact zG.ifF (by simpa using a4) (zG.ret.eq (by simp[a4]))
  ·exact zG.ifT (by simp[a3]) (zG.ret.eq (by simp[a3]))
 ·exact zG.ifF (by simpa using a1) (zG.ret.eq (by simp[a1]))
theorem wE{l:List zU}{i:Int}(h:nM l i=true):0≤(zK l i).pars∧0≤(zK l i).inds∧(zK l i).pars+(zK l i).inds≤24∧(zK l i).cons.length≤16:=by
 unfold nM zFw zDy at h
 simp only[Bool.and_eq_true,decide_eq_true_eq]at h
 exact⟨by omega,by omega,by omega,by omega⟩
theorem tZ{l:List zU}{i:Int}(h:mG l i=true):0≤(zK l i).fam∧(zK l i).fam<i∧(zK l (zK l i).fam).kind=1∧(zK l i).pars=(zK l (zK l i).fam).pars∧0≤(zK l i).place∧(zK l i).place<(V4 l (zK l i)).length:=by
 unfold mG zQd zMp at h
 simp only[Bool.and_eq_true,decide_eq_true_eq,beq_iff_eq]at h
 have hs:=wU h.1.1.1.1.1.1.1.1
 exact⟨hs.1,h.1.1.1.1.1.1.1.2,hs.2.2,h.1.1.1.1.1.1.2,h.2.1.1,h.2.1.2⟩
def zAX(l:List zU)(i:Int):Prop:=∀j,0≤j->j<i->(zK l j).kind=1->nM l j=true
def zFu(l:List zU)(i:Int):Bool:=
 mG l i&&((yR (zK l i).type).2.2==0&&(decide ((zK l i).pars≤(yR (zK l i).type).1.length)&&qU (yR (zK l i).type).2.1 (zK l i).fam (zK l i).pars (zK l (zK l i).fam).inds (yR (zK l i).type).1.length))
theorem zTG(l:List zU)(i:Int)(h0:0≤i)(h1:i<l.length)(he:∀e∈l,hJ e)(hF:zAX l i):zG (fun q=>zMs q l i) (zFu l i):=by
 simp only[zMs]
 have hx:=he _ (nL h0 h1)
 refine zG.pure (yP h0 h1) ((C1 _ hx.1).bind ((zDx l i h0 h1 he).bind ?_))
 unfold zFu
 by_cases a1:mG l i=true
 ·have hs:=tZ a1
  have hf:=wE (hF _ hs.1 hs.2.1 hs.2.2.1)
  refine zG.ifT a1 ?_
  rw[a1,Bool.true_and]
  by_cases a2:(yR (zK l i).type).2.2=0
  ·refine zG.ifT (by simp[a2]) ?_
   have hw:=rC (t:=(zK l i).type) (l:=(yR (zK l i).type).1) (y:=(yR (zK l i).type).2.1) (by rw[←a2])
   by_cases a3:(zK l i).pars≤(yR (zK l i).type).1.length
   ·refine zG.ifT (decide_eq_true a3) (zG.pure (yP hs.1 (by omega)) ((cZ _ _ _ _ _ hw.2.2.2.2.1 (by omega) (by omega) (by have:=hw.2.2.1;omega)).bind (zG.ret.eq (by simp[a2,a3]))))
   ·exact zG.ifF (decide_eq_false a3) (zG.ret.eq (by simp[a3]))
  ·exact zG.ifF (by simp[a2]) (zG.ret.eq (by simp[a2]))
 ·exact zG.ifF (by simpa using a1) (zG.ret.eq (by simp[a1]))
def nth(l:List Tm)(n:Int):Tm:=(l[n.toNat]?).getD zT
theorem tR{l:List Tm}{n:Int}(h0:0≤n)(h1:n<l.length):zR l n=some (nth l n):=by
 unfold zR nth
 rw[if_pos h0]
 have:n.toNat<l.length:=by omega
 rw[List.getElem?_eq_getElem this];rfl
theorem rD{l:List Tm}{n:Int}(h0:0≤n)(h1:n<l.length):nth l n∈l:=by
 unfold nth
 have:n.toNat<l.length:=by omega
 rw[List.getElem?_eq_getElem this]
 exact List.getElem_mem this
def dW(l:List zU)(i:Int):Bool:=
 mG l i&&((vY (zK l i).type ((zK l i).pars+1)).2.2==0&&qU (nth (vY (zK l i).type ((zK l i).pars+1)).1 (zK l i).pars) (zK l i).fam (zK l i).pars 0 (zK l i).pars)
theorem zQc(l:List zU)(i:Int)(h0:0≤i)(h1:i<l.length)(he:∀e∈l,hJ e)(hF:zAX l i):zG (fun q=>zMr q l i) (dW l i):=by
 simp only[zMr]
 have hx:=he _ (nL h0 h1)
 refine(zDx l i h0 h1 he).bind ?_
 unfold dW
 by_cases a1:mG l i=true
 ·have hs:=tZ a1
  have hf:=wE (hF _ hs.1 hs.2.1 hs.2.2.1)
  refine zG.ifT a1 (zG.pure (yP h0 h1) ?_)
  rw[a1,Bool.true_and,yM (x:=(zK l i).pars+1) (by omega) (by omega)]
  refine(B9 _ _ hx.1).bind ?_
  by_cases a2:(vY (zK l i).type ((zK l i).pars+1)).2.2=0
  ·have hw:=j7 (t:=(zK l i).type) (n:=(zK l i).pars+1) (l:=(vY (zK l i).type ((zK l i).pars+1)).1) (y:=(vY (zK l i).type ((zK l i).pars+1)).2.1) (by rw[←a2])
   refine zG.ifT (by simp[a2]) (zG.pure (tR (by omega) (by omega)) ((cZ _ _ _ _ _ (hw.2.2.2.2.2.2 _ (rD (by omega) (by omega))) (by omega) (by omega) (by omega)).bind (zG.ret.eq (by simp[a2]))))
  ·exact zG.ifF (by simp[a2]) (zG.ret.eq (by simp[a2]))
 ·exact zG.ifF (by simpa using a1) (zG.ret.eq (by simp[a1]))
def zDw(l:List zU)(i:Int):Bool:=
 uV (zK l i).body i&&((zK l i).fam==0&&((zK l i).place==0&&((zK l i).pars==0&&((zK l i).inds==0&&((zK l i).level==0&&(decide ((zK l i).cons.length=0)&&decide ((zK l i).fields.length=0)))))))
theorem zTH(l:List zU)(i:Int)(h0:0≤i)(h1:i<l.length)(he:∀e∈l,hJ e):zG (fun q=>zMq q l i) (zDw l i):=by
 simp only[zMq]
 have hx:=he _ (nL h0 h1)
 have hc:(zK l i).cons.length≤1152921504606846976:=hx.2.2.1
 have hf:(zK l i).fields.length≤1152921504606846976:=hx.2.2.2
 refine zG.pure (yP h0 h1) ((V1 _ i hx.2.1).bind ?_)
 unfold zDw
 by_cases a1:uV (zK l i).body i=true
 ·refine zG.ifT a1 ?_
  rw[a1,Bool.true_and,yM (x:=((zK l i).cons.length:Int)+((zK l i).fields.length:Int)) (by omega) (by omega)]
  have e:(((zK l i).cons.length:Int)+((zK l i).fields.length:Int)==0)=(decide ((zK l i).cons.length=0)&&decide ((zK l i).fields.length=0)):=by
   rw[Bool.eq_iff_iff]
   simp only[beq_iff_eq,Bool.and_eq_true,decide_eq_true_eq]
   omega
  rw[e]
  refine zG.mk fun q=>?_
  generalize (decide ((zK l i).cons.length=0)&&decide ((zK l i).fields.length=0))=z
  by_cases b1:(zK l i).fam=0<;>by_cases b2:(zK l i).place=0<;>by_cases b3:(zK l i).pars=0<;>by_cases b4:(zK l i).inds=0<;>by_cases b5:(zK l i).level=0<;>simp[b1,b2,b3,b4,b5]
 ·exact zG.ifF (by simpa using a1) (zG.ret.eq (by simp[a1]))
def zSr(qq:Nat)(p0:yV):Option yV:=
 some []
theorem zWe{qq p0 r}(h:zSr qq p0=some r):Ct 44 [] [zO yH p0 .nl] (.sl (flat yH r) r.length .no) [] 0:=⟨by
 unfold zSr at h
 cases h
 exact tF ⟨func44,rfl⟩ 1 [] (oD (dI ([]:yV)) o0),⟨⟨tv,dI _⟩,tv⟩,zA,dI _,zA⟩
def zGY(qq:Nat)(p0:yV):Option yV:=
 xQ 8 ([]:yV) p0>>=fun l1=>
 some l1
theorem zSq:Qf 44 f44:=⟨func44,rfl⟩
theorem zWd{qq p0 r}(h:zGY qq p0=some r):Ct 44 [] [zO yH p0 .nn] (.sl (flat yH r) r.length .no) [] 0:=⟨by
 unfold zGY at h
 obtain⟨l1,h2,h⟩:=zB h
 by_cases h3:List.length p0=0
 obtain rfl:=sj h
 exact tF zSq 0 [] (oD (dI l1)<|oP 2 (zGB h2 h3) o0)
 obtain rfl:=sj h
 exact tF zSq 0 [] (oD (dI l1)<|oP 2 (kB h2 h3) o0),⟨⟨tv,dI _⟩,tv⟩,zA,dI _,zA⟩
def zMo(qq:Nat)(p0:yV):Option Unit:=
 some ()
theorem zTI{qq p0 r}(h:zMo qq p0=some r):Ct 44 [] [zO yH p0 .nl] (zO yH ([]:yV) .full) [] 0:=⟨by
 unfold zMo at h
 cases h
 exact tG ⟨func44,rfl⟩ 1 [] [] [] true (oD (dI ([]:yV)) o0),⟨⟨tv,dI _⟩,tv⟩,zA,dI _,zA⟩
def zFt(qq:Nat)(p0:yV):Option ((Unit) ⊕ yV):=
 if decide (List.length p0=0)then
 some (.inl ())
 else
 xQ 8 ([]:yV) p0>>=fun l2=>
 some (.inr l2)
abbrev zMn (p0:yV) (C:Cf):Prop:=C 44 [] [zO yH p0 .nn] (zO yH ([]:yV) .full) [] 0
abbrev zMm (p0 r:yV) (C:Cf):Prop:=C 44 [] [zO yH p0 .nn] (.ms 0 0 r.length r.length 1) [.row (flat yH r)] 0
theorem zMl:Qf 44 f44:=⟨func44,rfl⟩
theorem zMk{qq p0 r}(h:zFt qq p0=some r):(match (generalizing:=false) r with | .inl x=>zMn p0 Ct | .inr x=>zMm p0 x Ct):=by
 unfold zFt at h
 obtain⟨h1,h⟩|⟨h1,h⟩:=zL h
 cases h
 exact⟨tG zMl 0 [] [] [] true (oD (dI ([]:yV))<|oQ 2 (zVS (of_decide_eq_true h1)) o0),⟨⟨tv,dI _⟩,tv⟩,zA,dI _,zA⟩
 obtain⟨l2,h3,h⟩:=zB h
 cases h
 exact⟨tF zMl 0 [0] (oD (dI l2)<|oM 2 (zVV h3 (of_decide_eq_false h1)) o0),⟨⟨tv,dI _⟩,tv⟩,zA,(lz rfl),(zC (dI _) zA)⟩
def e44(_qq:Nat)(p0:yV):Option yV:=xQ 8 [] p0
theorem c44{qq:Nat}{p0:yV}{r:yV}(h:e44 qq p0=some r):CT prog 44 [] [.sl (flat yH p0) p0.length .no] (.sl (flat yH r) r.length .no) [] 0:=by
 have hr:r=p0:=by have:=(qE h).2;simpa using this
 have h1:zGY qq p0=some r:=by unfold zGY;rw[show xQ 8 ([]:yV) p0=some r from h];rfl
 have k1:=zWd h1
 refine⟨uH.nilcase (fun hn=>?_) k1.tri,⟨⟨trivial,dI _⟩,trivial⟩,(fun _ h=>nomatch h),dI _,(fun _ h=>nomatch h)⟩
 have hp:p0=[]:=aV kX (by decide) hn
 subst hr
 subst hp
 exact(zWe (qq:=qq) rfl).tri
def zMj(qq:Nat)(p0:yV):Option (Unit ⊕ yV):=if decide (List.length p0=0)=true then some (.inl ())else(xQ 8 [] p0)>>=fun r=>some (.inr r)
theorem zSp{qq:Nat}{p0:yV}{r:Unit ⊕ yV}(h:zMj qq p0=some r):(match (generalizing:=false) r with | .inl _=>CT prog 44 [] [.sl (flat yH p0) p0.length .no] (.sl (flat yH ([]:yV)) (List.length ([]:yV)) .full) [] 0 | .inr x=>CT prog 44 [] [.sl (flat yH p0) p0.length .no] (.ms 0 0 x.length x.length 1) [.row (flat yH x)] 0):=by
 unfold zMj at h
 obtain⟨h1,h⟩|⟨h1,h⟩:=zL h
 ·obtain rfl:=sj h
  have hp:p0=[]:=List.length_eq_zero_iff.1 (of_decide_eq_true h1)
  subst hp
  have k0:=zTI (qq:=qq) (p0:=[]) (r:=()) rfl
  have k1:=zMk (qq:=qq) (p0:=[]) (r:=.inl ()) rfl
  exact⟨uH.nilcase (fun _=>k0.tri) k1.tri,⟨⟨trivial,dI _⟩,trivial⟩,(fun _ h=>nomatch h),dI _,(fun _ h=>nomatch h)⟩
 ·obtain⟨x,h2,h⟩:=zB h
  cases h
  have k1:=zMk (qq:=qq) (p0:=p0) (r:=.inr x) (by unfold zFt;rw[if_neg (by rw[h1];decide),h2];rfl)
  refine⟨uH.nilcase (fun hn=>?_) k1.tri,⟨⟨trivial,dI _⟩,trivial⟩,(fun _ h=>nomatch h),(show 0<1 by decide),zC (dI _) zA⟩
  have hp:p0=[]:=aV kX (by decide) hn
  subst hp
  cases h1
def bC:Nat->yU->yU->Int->Option yU
 |0,_,_,_=>none
 |qq+1,p0,v3,v8=>
 if decide (v8<(p0.length:Int))then
 zR p0 v8>>=fun x2=>
 e26 qq x2.type>>=fun r4=>
 e26 qq x2.body>>=fun r6=>
 e44 qq x2.cons>>=fun r8=>
 e44 qq x2.fields>>=fun r10=>
 xQ 192 v3 [(zU.mk x2.kind x2.name r4 r6 x2.fam x2.place x2.pars x2.inds x2.level r8 r10)]>>=fun l12=>
 bC qq p0 l12 (xL (v8+1))
 else
 some v3
def e20(qq:Nat)(p0:yU):Option yU:=
 bC qq p0 [] 0
theorem zTJ:∀qq:Nat,(∀ {p0 v3 v8 r},bC qq p0 v3 v8=some r->(∀j,dL 0 (pt 4021 Tryz.f20) (sp j 34 0 [(3,zO yZ v3 (.st 0 15)),(6,zO yZ p0 .no),(7,ai (p0.length:Int)),(8,ai v8)]) (⟨[],0,[0],1,[]⟩) (fQ 0 (nQ 0 Tryz.f20 (.sl (flat yZ r) r.length .no) [] 0) [.blk 0,.seq (pt 63 Tryz.f20)]))):=by
 intro qq
 induction qq with
 |zero=>
  exact fun h=>nn h
 |succ qq ih=>
  intro p0 v3 v8 r h
  rw[bC]at h
  obtain⟨h1,h⟩|⟨h1,h⟩:=zL h
  obtain⟨x2,h3,h⟩:=zB h
  obtain⟨r4,h5,h⟩:=zB h
  obtain⟨r6,h7,h⟩:=zB h
  obtain⟨r8,h9,h⟩:=zB h
  obtain⟨r10,h11,h⟩:=zB h
  obtain⟨l12,h13,h⟩:=zB h
  exact fun j=>lH 1 [] [] [1] [3,6,7,8] (oD (dE p0)<|oD (dE l12)<|oP 4 (zVU h13 (by simp))<|oC 0 [] (c44 h11)<|oCl 0<|oC 3 [] (c44 h9)<|oC 1 [] (c26 h7)<|oC 3 [] (c26 h5)<|oA 0 (wM (o:=.no) h3)<|oB 0 h1 o0) (ih h)
  obtain rfl:=sj h
  exact fun j=>lF 0 [] (oD (dE v3)<|oB 0 h1 o0)
theorem c20{qq p0 r}(h:e20 qq p0=some r):Ct 20 [] [zO yZ p0 .no] (.sl (flat yZ r) r.length .no) [] 0:=⟨by
 unfold e20 at h
 exact tH ⟨func20,rfl⟩ 1 [(none,3,15)] [] [0] [3,6,7,8] (oD (dE p0)<|oD (dE ([]:yU)) o0) (zTJ _ h),⟨⟨tv,dE _⟩,tv⟩,zA,dE _,zA⟩
def bD:Nat->yU->List ByteArray->Int->Option (List ByteArray)
 |0,_,_,_=>none
 |qq+1,p0,v3,v8=>
 if decide (v8<(p0.length:Int))then
 zR p0 v8>>=fun x2=>
 xQ 16 v3 [x2.name]>>=fun l4=>
 bD qq p0 l4 (xL (v8+1))
 else
 some v3
def e68(qq:Nat)(p0:yU):Option (List ByteArray):=
 bD qq p0 [] 0
theorem zTK:∀qq:Nat,(∀ {p0 v3 v8 r},bD qq p0 v3 v8=some r->(∀j,dL 0 (pt 4021 f68) (sp j 19 0 [(3,zO H5 v3 (.st 0 1)),(6,zO yZ p0 .no),(7,ai (p0.length:Int)),(8,ai v8)]) (⟨[],0,[0],1,[]⟩) (fQ 0 (nQ 0 f68 (.sl (flat H5 r) r.length .no) [] 0) [.blk 0,.seq (pt 63 f68)]))):=by
 intro qq
 induction qq with
 |zero=>
  exact fun h=>nn h
 |succ qq ih=>
  intro p0 v3 v8 r h
  rw[bD]at h
  obtain⟨h1,h⟩|⟨h1,h⟩:=zL h
  obtain⟨x2,h3,h⟩:=zB h
  obtain⟨l4,h5,h⟩:=zB h
  exact fun j=>lH 1 [] [] [1] [3,6,7,8] (oD (dE p0)<|oD (dS l4)<|oP 4 (zTz h5 (by simp))<|oA 0 (wM (o:=.no) h3)<|oB 0 h1 o0) (ih h)
  obtain rfl:=sj h
  exact fun j=>lF 0 [] (oD (dS v3)<|oB 0 h1 o0)
theorem c68{qq p0 r}(h:e68 qq p0=some r):Ct 68 [] [zO yZ p0 .no] (.sl (flat H5 r) r.length .no) [] 0:=⟨by
 unfold e68 at h
 exact tH ⟨func68,rfl⟩ 1 [(none,3,1)] [] [0] [3,6,7,8] (oD (dE p0)<|oD (dS ([]:List ByteArray)) o0) (zTK _ h),⟨⟨tv,dE _⟩,tv⟩,zA,dS _,zA⟩
def e69(qq:Nat)(p0:yU)(p1:Int):Option Bool:=
 zR p0 p1>>=fun x1=>
 e98 qq x1.name>>=fun r3=>
 if r3 then
 e99 qq x1.type p1>>=fun r6=>
 if r6 then
 if x1.kind==1 then
 zMt qq p0 p1>>=fun r10=>
 some r10
 else
 if x1.kind==2 then
 zMs qq p0 p1>>=fun r13=>
 some r13
 else
 if x1.kind==4 then
 zMr qq p0 p1>>=fun r16=>
 some r16
 else
 if x1.kind==3 then
 zMq qq p0 p1>>=fun r19=>
 some r19
 else
 some false
 else
 some false
 else
 some false
theorem q69:Qf 69 f69:=⟨func69,rfl⟩
theorem c69{qq p0 p1 r}(h:e69 qq p0 p1=some r):Ct 69 [] [zO yZ p0 .no,ai p1] (ab r) [] 0:=⟨by
 unfold e69 at h
 obtain⟨x1,h2,h⟩:=zB h
 obtain⟨r3,h4,h⟩:=zB h
 have k:=oA 0 (wM (o:=.no) h2) o0
 obtain⟨h5,h⟩|⟨h5,h⟩:=zL h
 obtain⟨r6,h7,h⟩:=zB h
 have k:=oA 1 (wM (o:=.no) h2)<|oK 1 [] h5 (c98 h4) k
 obtain⟨h8,h⟩|⟨h8,h⟩:=zL h
 have k:=oA 1 (wM (o:=.no) h2)<|oK 1 [] h8 (c99 h7) k
 obtain⟨h9,h⟩|⟨h9,h⟩:=zL h
 obtain⟨r10,h11,h⟩:=zB h
 obtain rfl:=sj h
 exact tF q69 0 [] (oC 0 [] (zYD h11)<|oB 1 h9 k)
 have k:=oB 1 h9 k
 obtain⟨h12,h⟩|⟨h12,h⟩:=zL h
 obtain⟨r13,h14,h⟩:=zB h
 obtain rfl:=sj h
 exact tF q69 0 [] (oC 0 [] (zYE h14)<|oB 0 h12 k)
 have k:=oB 0 h12 k
 obtain⟨h15,h⟩|⟨h15,h⟩:=zL h
 obtain⟨r16,h17,h⟩:=zB h
 obtain rfl:=sj h
 exact tF q69 0 [] (oC 0 [] (zYF h17)<|oB 0 h15 k)
 have k:=oB 0 h15 k
 obtain⟨h18,h⟩|⟨h18,h⟩:=zL h
 obtain⟨r19,h20,h⟩:=zB h
 obtain rfl:=sj h
 exact tF q69 0 [] (oC 0 [] (zYG h20)<|oB 0 h18 k)
 obtain rfl:=sj h
 exact tF q69 0 [] (oB 0 h18 k)
 obtain rfl:=sj h
 exact tF q69 1 [] (oK 1 [] h8 (c99 h7) k)
 obtain rfl:=sj h
 exact tF q69 1 [] (oK 1 [] h5 (c98 h4) k),⟨⟨tv,dE _⟩,tv,tv⟩,zA,tv,zA⟩
def bE:Nat->yU->Int->Option Bool
 |0,_,_=>none
 |qq+1,p0,v15=>
 if decide (v15<(p0.length:Int))then
 e69 qq p0 v15>>=fun r8=>
 if r8 then
 bE qq p0 (xL (v15+1))
 else
 some false
 else
 some true
def e42(qq:Nat)(p0:yU):Option Bool:=
 if decide ((p0.length:Int)>256)then
 some false
 else
 e68 qq p0>>=fun r2=>
 e67 qq r2>>=fun r4=>
 if r4 then
 bE qq p0 0
 else
 some false
theorem q42:Qf 42 f42:=⟨func42,rfl⟩
theorem zTM:∀qq:Nat,(∀ {p0 v15 r},bE qq p0 v15=some r->(∀j,dL 0 (pt 4021 f42) (sp j 23 0 [(0,zO yZ p0 .no),(14,ai (p0.length:Int)),(15,ai v15)]) (⟨[],0,[],0,[]⟩) (fQ 0 (nQ 0 f42 (ab r) [] 0) [.blk 0,.seq (pt 63 f42)]))):=by
 intro qq
 induction qq with
 |zero=>
  exact fun h=>nn h
 |succ qq ih=>
  intro p0 v15 r h
  rw[bE]at h
  obtain⟨h7,h⟩|⟨h7,h⟩:=zL h
  obtain⟨r8,h9,h⟩:=zB h
  have k:=oB 0 h7 o0
  obtain⟨h10,h⟩|⟨h10,h⟩:=zL h
  exact fun j=>lH 2 [] [] [] [0,14,15] (oD (dE p0)<|oK 0 [] h10 (c69 h9) k) (ih h)
  cases h
  exact fun j=>lF 1 [] (oK 0 [] h10 (c69 h9) k)
  cases h
  exact fun j=>lF 0 [] (oB 0 h7 o0)
theorem c42{qq p0 r}(h:e42 qq p0=some r):Ct 42 [] [zO yZ p0 .no] (ab r) [] 0:=⟨by
 unfold e42 at h
 obtain⟨h1,h⟩|⟨h1,h⟩:=zL h
 cases h
 exact tF q42 0 [] (oB 1 h1 o0)
 obtain⟨r2,h3,h⟩:=zB h
 obtain⟨r4,h5,h⟩:=zB h
 have k:=oC 0 [] (c68 h3)<|oB 1 h1 o0
 obtain⟨h6,h⟩|⟨h6,h⟩:=zL h
 exact tH q42 2 [] [] [] [0,14,15] (oD (dE p0)<|oK 0 [] h6 (c67 h5) k) (zTM _ h)
 cases h
 exact tF q42 1 [] (oK 0 [] h6 (c67 h5) k),⟨⟨tv,dE _⟩,tv⟩,zA,tv,zA⟩
def lL(N:ByteArray->Bool)(l:List zU)(i:Int):Bool:=
 N (zK l i).name&&(uV (zK l i).type i &&
  (if (zK l i).kind=1 then nM l i else if (zK l i).kind=2 then zFu l i else if (zK l i).kind=4 then dW l i else if (zK l i).kind=3 then zDw l i else false))
def zJI(N:ByteArray->Bool)(l:List zU):Nat->Nat->Bool
 |0,_=>true
 |m+1,v=>lL N l v&&zJI N l m (v+1)
def eI(N:ByteArray->Bool):Prop:=∀s,zG (fun q=>e98 q s) (N s)
theorem zMi:∃N,eI N:=by
 have h:∀s,∃b,zG (fun q=>e98 q s) b:=fun s=>by
  obtain⟨b,hb,_⟩:=zFx s
  exact⟨b,hb⟩
 exact⟨fun s=>Classical.choose (h s),fun s=>Classical.choose_spec (h s)⟩
theorem zMh(N:ByteArray->Bool)(hN:eI N)(l:List zU)(i:Int)(h0:0≤i)(h1:i<l.length)(hl:l.length≤65535)(he:∀e∈l,hJ e)(hF:zAX l i):zG (fun q=>e69 q l i) (lL N l i):=by
 simp only[e69]
 have hx:=he _ (nL h0 h1)
 refine zG.pure (yP h0 h1) ((hN _).bind ?_)
 unfold lL
 by_cases a1:N (zK l i).name=true
 ·refine zG.ifT a1 ((V1 _ i hx.1).bind ?_)
  rw[a1,Bool.true_and]
  by_cases a2:uV (zK l i).type i=true
  ·refine zG.ifT a2 ?_
   rw[a2,Bool.true_and]
   by_cases k1:(zK l i).kind=1
   ·rw[if_pos k1];exact zG.ifT (by simp[k1]) ((zJF l i h0 h1 hl he).bind zG.ret)
   rw[if_neg k1]
   refine zG.ifF (by simp[k1]) ?_
   by_cases k2:(zK l i).kind=2
   ·rw[if_pos k2];exact zG.ifT (by simp[k2]) ((zTG l i h0 h1 he hF).bind zG.ret)
   rw[if_neg k2]
   refine zG.ifF (by simp[k2]) ?_
   by_cases k4:(zK l i).kind=4
   ·rw[if_pos k4];exact zG.ifT (by simp[k4]) ((zQc l i h0 h1 he hF).bind zG.ret)
   rw[if_neg k4]
   refine zG.ifF (by simp[k4]) ?_
   by_cases k3:(zK l i).kind=3
   ·rw[if_pos k3];exact zG.ifT (by simp[k3]) ((zTH l i h0 h1 he).bind zG.ret)
   ·rw[if_neg k3];exact zG.ifF (by simp[k3]) zG.ret
  ·exact zG.ifF (by simpa using a2) (zG.ret.eq (by simp[a2]))
 ·exact zG.ifF (by simpa using a1) (zG.ret.eq (by simp[a1]))
theorem j8:∀(r l:List zU) (v:Nat) (acc:List ByteArray),l.drop v=r->l.length≤65535->acc.length≤v->zG (fun q=>bD q l acc (v:Int)) (acc++r.map zU.name)
 | [],l,v,acc,hd,hl,ha=>by
  refine zG.succ ?_
  simp only[bD]
  exact zG.ifF (drop_nil hd) (zG.ret.eq (by simp))
 |x::r,l,v,acc,hd,hl,ha=>by
  have hlt:=yY hd
  refine zG.succ ?_
  simp only[bD]
  refine zG.ifT (yK hd) (zG.pure (yD hd) (zG.pure (xB (by simp<;>omega)) ?_))
  rw[yE v (by omega)]
  exact(j8 r l (v+1) _ (zZ hd) hl (by simp<;>omega)).eq (by simp)
theorem zMg(l:List zU)(hl:l.length≤65535):zG (fun q=>e68 q l) (l.map zU.name):=by
 simp only[e68]
 exact(j8 l l 0 [] rfl hl (by simp)).eq (by simp)
theorem zFr(N:ByteArray->Bool)(hN:eI N)(l:List zU)(hl:l.length≤65535)(he:∀e∈l,hJ e):∀(m v:Nat),v+m=l.length->zAX l v->zG (fun q=>bE q l (v:Int)) (zJI N l m v):=by
 intro m
 induction m with
 |zero=>
  intro v hm hF
  refine zG.succ ?_
  simp only[bE]
  exact zG.ifF (decide_eq_false (by omega)) zG.ret
 |succ m ih=>
  intro v hm hF
  refine zG.succ ?_
  simp only[bE]
  refine zG.ifT (decide_eq_true (by omega)) ((zMh N hN l v (by omega) (by omega) hl he hF).bind ?_)
  rw[zJI]
  by_cases h:lL N l v=true
  ·refine zG.ifT h ?_
   rw[yE v (by omega),h,Bool.true_and]
   refine ih (v+1) (by omega) fun j hj0 hj1 hk=>?_
   by_cases e:j=v
   ·subst e
    unfold lL at h
    simp only[Bool.and_eq_true]at h
    have:=h.2.2
    rwa[if_pos hk]at this
   ·exact hF j hj0 (by omega) hk
  ·exact zG.ifF (by simpa using h) (zG.ret.eq (by simp[h]))
def C2(N:ByteArray->Bool)(d:Bool)(l:List zU):Bool:=decide (l.length≤256)&&(d&&zJI N l l.length 0)
theorem zJJ(N:ByteArray->Bool)(hN:eI N)(l:List zU)(hl:l.length≤65535)(he:∀e∈l,hJ e):∃d,zG (fun q=>e67 q (l.map zU.name)) d∧zG (fun q=>e42 q l) (C2 N d l):=by
 obtain⟨d,hd,_⟩:=zAV (l.map zU.name) (by simpa using hl)
 refine⟨d,hd,?_⟩
 simp only[e42]
 unfold C2
 by_cases h:l.length≤256
 ·refine zG.ifF (decide_eq_false (by omega)) ((zMg l hl).bind (hd.bind ?_))
  cases d with
  |false=>exact zG.ifF rfl (zG.ret.eq (by simp))
  |true=>exact zG.ifT rfl ((zFr N hN l hl he l.length 0 (by omega) (fun j h0 h1=>by omega)).eq (by simp[h]))
 ·exact zG.ifT (decide_eq_true (by omega)) (zG.ret.eq (by simp[h]))
theorem j9{N:ByteArray->Bool}{l:List zU}:∀ {m v:Nat},zJI N l m v=true->∀j,v≤j->j<v+m->lL N l (j:Int)=true
 |0,v,_,j,h0,h1=>by omega
 |m+1,v,h,j,h0,h1=>by
  rw[zJI]at h
  simp only[Bool.and_eq_true]at h
  by_cases e:j=v
  ·subst e;exact h.1
  ·exact j9 h.2 j (by omega) (by omega)
def xA(N:ByteArray->Bool)(l:List zU):Prop:=l.length≤256∧∀i:Int,0≤i->i<l.length->lL N l i=true
theorem C3{N:ByteArray->Bool}{d:Bool}{l:List zU}(h:C2 N d l=true):xA N l:=by
 unfold C2 at h
 simp only[Bool.and_eq_true,decide_eq_true_eq]at h
 refine⟨h.1,fun i h0 h1=>?_⟩
 have:=j9 h.2.2 i.toNat (by omega) (by omega)
 rwa[show ((i.toNat:Nat):Int)=i by omega]at this
theorem yQ{N:ByteArray->Bool}{l:List zU}{i:Int}(h:lL N l i=true):uV (zK l i).type i=true ∧
  ((zK l i).kind=1->nM l i=true)∧((zK l i).kind=2->zFu l i=true)∧((zK l i).kind=4->dW l i=true)∧((zK l i).kind=3->zDw l i=true)∧((zK l i).kind=1∨(zK l i).kind=2∨(zK l i).kind=3∨(zK l i).kind=4):=by
 unfold lL at h
 simp only[Bool.and_eq_true]at h
 obtain⟨_,h2,h3⟩:=h
 refine⟨h2,fun k=>by rwa[if_pos k]at h3,fun k=>?_,fun k=>?_,fun k=>?_,?_⟩
 ·rwa[if_neg (by omega),if_pos k]at h3
 ·rwa[if_neg (by omega),if_neg (by omega),if_pos k]at h3
 ·rwa[if_neg (by omega),if_neg (by omega),if_neg (by omega),if_pos k]at h3
 ·split at h3
  ·exact .inl (by assumption)
  ·split at h3
   ·exact .inr (.inl (by assumption))
   ·split at h3
    ·exact .inr (.inr (.inr (by assumption)))
    ·split at h3
     ·exact .inr (.inr (.inl (by assumption)))
     ·cases h3
def zDv(e:zU):zU:=zU.mk e.kind e.name (iZ e.type) (iZ e.body) e.fam e.place e.pars e.inds e.level e.cons e.fields
def ECl(e:zU):Prop:=e.cons.length≤17592186044416∧e.fields.length≤17592186044416
theorem zDu:∀(r l acc:List zU) (v:Nat),l.drop v=r->l.length≤65535->(∀e∈l,hJ e)->(∀e∈l,ECl e)->acc.length≤v->zG (fun q=>bC q l acc (v:Int)) (acc++r.map zDv)
 | [],l,acc,v,hd,hl,he,hc,ha=>by
  refine zG.succ ?_
  simp only[bC]
  exact zG.ifF (drop_nil hd) (zG.ret.eq (by simp))
 |x::r,l,acc,v,hd,hl,he,hc,ha=>by
  have hlt:=yY hd
  have hx:x∈l:=by
   have:x∈l.drop v:=by rw[hd];simp
   exact List.mem_of_mem_drop this
  have hE:=he x hx
  have hC:=hc x hx
  refine zG.succ ?_
  simp only[bC]
  refine zG.ifT (yK hd) (zG.pure (yD hd) ((nJ _ hE.1).bind ((nJ _ hE.2.1).bind ?_)))
  refine zG.bind (a:=x.cons) (zG.mk fun q=>(xB (by have:=hC.1;simp<;>omega)).trans (by simp)) (zG.bind (a:=x.fields) (zG.mk fun q=>(xB (by have:=hC.2;simp<;>omega)).trans (by simp)) (zG.pure (xB (by simp<;>omega)) ?_))
  rw[yE v (by omega)]
  exact(zDu r l _ (v+1) (zZ hd) hl he hc (by simp<;>omega)).eq (by simp[zDv])
theorem C4(l:List zU)(hl:l.length≤65535)(he:∀e∈l,hJ e)(hc:∀e∈l,ECl e):zG (fun q=>e20 q l) (l.map zDv):=by
 simp only[e20]
 exact(zDu l l [] 0 rfl hl he hc (by simp)).eq (by simp)
theorem sL{t:Tm}{n:Int}(h:uV t n=true):zH t=true:=by
 unfold uV rV at h
 simp only[Bool.and_eq_true]at h
 exact h.1.1.1
theorem zFq{t:Tm}(h:dV t=true):t=zT:=by
 unfold dV at h
 simp only[Bool.and_eq_true,beq_iff_eq]at h
 obtain⟨k,n,l⟩:=t
 have h1:k=0:=h.1.1
 have h2:n=0:=h.1.2
 have h3:l=[]:=List.length_eq_zero_iff.1 (by have:(l.length:Int)=0:=h.2;omega)
 subst h1;subst h2;subst h3;rfl
theorem i6{t:Tm}(h:dV t=true):iZ t=t:=by
 rw[zFq h]
 unfold iZ
 split
 ·rfl
 ·rfl
theorem i7{N:ByteArray->Bool}{l:List zU}{i:Int}(h:lL N l i=true):zDv (zK l i)=zK l i:=by
 have hs:=yQ h
 have h1:iZ (zK l i).type=(zK l i).type:=by unfold iZ;rw[if_pos (sL hs.1)]
 have own:mG l i=true->iZ (zK l i).body=(zK l i).body:=fun ho=>by
  unfold mG zQd at ho
  simp only[Bool.and_eq_true]at ho
  exact i6 ho.1.1.1.1.1.2
 have h2:iZ (zK l i).body=(zK l i).body:=by
  rcases hs.2.2.2.2.2 with k|k|k|k
  ·have:=hs.2.1 k
   unfold nM zFw at this
   simp only[Bool.and_eq_true]at this
   exact i6 this.1.1.1.2
  ·have:=hs.2.2.1 k
   unfold zFu at this
   simp only[Bool.and_eq_true]at this
   exact own this.1
  ·have:=hs.2.2.2.2.1 k
   unfold zDw at this
   simp only[Bool.and_eq_true]at this
   unfold iZ;rw[if_pos (sL this.1)]
  ·have:=hs.2.2.2.1 k
   unfold dW at this
   simp only[Bool.and_eq_true]at this
   exact own this.1
 unfold zDv
 rw[h1,h2]
theorem I5{N:ByteArray->Bool}{l:List zU}(h:xA N l):l.map zDv=l:=by
 refine List.ext_getElem (by simp) fun i h1 h2=>?_
 simp only[List.getElem_map]
 have:=i7 (h.2 (i:Int) (by omega) (by omega))
 have e:zK l (i:Int)=l[i]:=by
  unfold zK
  rw[show (i:Int).toNat=i by omega,List.getElem?_eq_getElem h2];rfl
 rwa[e]at this
def zSn(qq:Nat)(p0:zQ):Option zQ:=
 some []
theorem zWA{qq p0 r}(h:zSn qq p0=some r):Ct 23 [] [zO zD p0 .nl] (.sl (flat zD r) r.length .no) [] 0:=⟨by
 unfold zSn at h
 cases h
 exact tF ⟨func23,rfl⟩ 1 [] (oD (dT ([]:zQ)) o0),⟨⟨tv,dT _⟩,tv⟩,zA,dT _,zA⟩
def zGZ(qq:Nat)(p0:zQ):Option zQ:=
 xQ 40 ([]:zQ) p0>>=fun l1=>
 some l1
theorem zSm:Qf 23 f23:=⟨func23,rfl⟩
theorem zWB{qq p0 r}(h:zGZ qq p0=some r):Ct 23 [] [zO zD p0 .nn] (.sl (flat zD r) r.length .no) [] 0:=⟨by
 unfold zGZ at h
 obtain⟨l1,h2,h⟩:=zB h
 by_cases h3:List.length p0=0
 obtain rfl:=sj h
 exact tF zSm 0 [] (oD (dT l1)<|oP 2 (dP h2 h3) o0)
 obtain rfl:=sj h
 exact tF zSm 0 [] (oD (dT l1)<|oP 2 (sE h2 h3) o0),⟨⟨tv,dT _⟩,tv⟩,zA,dT _,zA⟩
def zMe(qq:Nat)(p0:zQ):Option Unit:=
 some ()
theorem zTO{qq p0 r}(h:zMe qq p0=some r):Ct 23 [] [zO zD p0 .nl] (zO zD ([]:zQ) .full) [] 0:=⟨by
 unfold zMe at h
 cases h
 exact tG ⟨func23,rfl⟩ 1 [] [] [] true (oD (dT ([]:zQ)) o0),⟨⟨tv,dT _⟩,tv⟩,zA,dT _,zA⟩
def zFp(qq:Nat)(p0:zQ):Option ((Unit) ⊕ zQ):=
 if decide (List.length p0=0)then
 some (.inl ())
 else
 xQ 40 ([]:zQ) p0>>=fun l2=>
 some (.inr l2)
abbrev zMd (p0:zQ) (C:Cf):Prop:=C 23 [] [zO zD p0 .nn] (zO zD ([]:zQ) .full) [] 0
abbrev zMc (p0 r:zQ) (C:Cf):Prop:=C 23 [] [zO zD p0 .nn] (.ms 0 0 r.length r.length 3) [.row (flat zD r)] 0
theorem zMb:Qf 23 f23:=⟨func23,rfl⟩
theorem zMa{qq p0 r}(h:zFp qq p0=some r):(match (generalizing:=false) r with | .inl x=>zMd p0 Ct | .inr x=>zMc p0 x Ct):=by
 unfold zFp at h
 obtain⟨h1,h⟩|⟨h1,h⟩:=zL h
 cases h
 exact⟨tG zMb 0 [] [] [] true (oD (dT ([]:zQ))<|oQ 2 (zVR (of_decide_eq_true h1)) o0),⟨⟨tv,dT _⟩,tv⟩,zA,dT _,zA⟩
 obtain⟨l2,h3,h⟩:=zB h
 cases h
 exact⟨tF zMb 0 [0] (oD (dT l2)<|oM 2 (zRZ h3 (of_decide_eq_false h1)) o0),⟨⟨tv,dT _⟩,tv⟩,zA,(lz rfl),(zC (dT _) zA)⟩
def e23(_qq:Nat)(p0:zQ):Option zQ:=xQ 40 [] p0
theorem c23{qq:Nat}{p0:zQ}{r:zQ}(h:e23 qq p0=some r):CT prog 23 [] [.sl (flat zD p0) p0.length .no] (.sl (flat zD r) r.length .no) [] 0:=by
 have hr:r=p0:=by have:=(qE h).2;simpa using this
 have h1:zGZ qq p0=some r:=by unfold zGZ;rw[show xQ 40 ([]:zQ) p0=some r from h];rfl
 have k1:=zWB h1
 refine⟨uH.nilcase (fun hn=>?_) k1.tri,⟨⟨trivial,dT _⟩,trivial⟩,(fun _ h=>nomatch h),dT _,(fun _ h=>nomatch h)⟩
 have hp:p0=[]:=aV vV (by decide) hn
 subst hr
 subst hp
 exact(zWA (qq:=qq) rfl).tri
def M2(qq:Nat)(p0:zQ):Option (Unit ⊕ zQ):=if decide (List.length p0=0)=true then some (.inl ())else(xQ 40 [] p0)>>=fun r=>some (.inr r)
theorem iU{qq:Nat}{p0:zQ}{r:Unit ⊕ zQ}(h:M2 qq p0=some r):(match (generalizing:=false) r with | .inl _=>CT prog 23 [] [.sl (flat zD p0) p0.length .no] (.sl (flat zD ([]:zQ)) (List.length ([]:zQ)) .full) [] 0 | .inr x=>CT prog 23 [] [.sl (flat zD p0) p0.length .no] (.ms 0 0 x.length x.length 3) [.row (flat zD x)] 0):=by
 unfold M2 at h
 obtain⟨h1,h⟩|⟨h1,h⟩:=zL h
 ·obtain rfl:=sj h
  have hp:p0=[]:=List.length_eq_zero_iff.1 (of_decide_eq_true h1)
  subst hp
  have k0:=zTO (qq:=qq) (p0:=[]) (r:=()) rfl
  have k1:=zMa (qq:=qq) (p0:=[]) (r:=.inl ()) rfl
  exact⟨uH.nilcase (fun _=>k0.tri) k1.tri,⟨⟨trivial,dT _⟩,trivial⟩,(fun _ h=>nomatch h),dT _,(fun _ h=>nomatch h)⟩
 ·obtain⟨x,h2,h⟩:=zB h
  cases h
  have k1:=zMa (qq:=qq) (p0:=p0) (r:=.inr x) (by unfold zFp;rw[if_neg (by rw[h1];decide),h2];rfl)
  refine⟨uH.nilcase (fun hn=>?_) k1.tri,⟨⟨trivial,dT _⟩,trivial⟩,(fun _ h=>nomatch h),(show 0<1 by decide),zC (dT _) zA⟩
  have hp:p0=[]:=aV vV (by decide) hn
  subst hp
  cases h1
def zMA(qq:Nat)(p0:yU)(p1:Tm)(p2 p3:Int):Option uT:=
 zCV qq p1>>=fun r1=>
 e62 qq r1.2.1>>=fun r3=>
 if r1.2.2 != 0 then
 some (uT.mk false [] [])
 else
 if r3.1.k != 6 then
 some (uT.mk false [] [])
 else
 if r3.1.n != p2 then
 some (uT.mk false [] [])
 else
 zR p0 p2>>=fun x8=>
 zFy qq r1.2.1 p2 x8.pars x8.inds (xL (p3+(r1.1.length:Int)))>>=fun r10=>
 if r10 then
 kY r3.2 x8.pars (r3.2.length:Int)>>=fun x13=>
 e23 qq x13>>=fun r15=>
 some (uT.mk true r1.1 r15)
 else
 some (uT.mk false [] [])
theorem zMB:Qf 105 f105:=⟨func105,rfl⟩
theorem zYJ{qq p0 p1 p2 p3 r}(h:zMA qq p0 p1 p2 p3=some r):Ct 105 [] [zO yZ p0 .no,xF p1,ai p2,ai p3] (zVI r) [] 0:=⟨by
 unfold zMA at h
 have z {os ob} (k:Oz os ob):=oD (dT ([]:zQ))<|oD (dT ([]:zQ))<|k
 obtain⟨r1,h2,h⟩:=zB h
 obtain⟨r3,h4,h⟩:=zB h
 have k:=oC 5 [] (c62 h4)<|oC 1 [] (zQx h2) o0
 obtain⟨h5,h⟩|⟨h5,h⟩:=zL h
 cases h
 exact tF zMB 1 [] (z<|oB 3 h5 k)
 have k:=oB 3 h5 k
 obtain⟨h6,h⟩|⟨h6,h⟩:=zL h
 cases h
 exact tF zMB 1 [] (z<|oB 1 h6 k)
 have k:=oB 1 h6 k
 obtain⟨h7,h⟩|⟨h7,h⟩:=zL h
 cases h
 exact tF zMB 1 [] (z<|oB 1 h7 k)
 obtain⟨x8,h9,h⟩:=zB h
 obtain⟨r10,h11,h⟩:=zB h
 have k:=oA 1 (wM (o:=.no) h9)<|oA 1 (wM (o:=.no) h9)<|oB 1 h7 k
 obtain⟨h12,h⟩|⟨h12,h⟩:=zL h
 obtain⟨x13,h14,h⟩:=zB h
 obtain⟨r15,h16,h⟩:=zB h
 cases h
 exact tF zMB 1 [] (oD (dT r15)<|oD (dT r1.1)<|oC 0 [] (c23 h16)<|oA 1 (rK h14)<|oA 1 (wM (o:=.no) h9)<|oK 3 [] h12 (zQu h11) k)
 cases h
 exact tF zMB 2 [] (z<|oK 3 [] h12 (zQu h11) k),⟨⟨tv,dE _⟩,⟨tv,tv,⟨tv,dT _⟩,tv⟩,tv,tv,tv⟩,zA,⟨tv,dT _,dT _,tv⟩,zA⟩
def bF:Nat->yU->zU->zQ->zQ->Int->List uT->Option sZ
 |0,_,_,_,_,_,_=>none
 |qq+1,p0,x1,x7,r11,v43,pJ=>
 if decide (v43<(x7.length:Int))then
 zR x7 v43>>=fun x14=>
 zMA qq p0 x14 x1.fam (xL (x1.pars+v43))>>=fun r16=>
 xQ 56 pJ [r16]>>=fun l18=>
 bF qq p0 x1 x7 r11 (xL (v43+1)) l18
 else
 some (sZ.mk x7 r11 pJ)
def e70(qq:Nat)(p0:yU)(p1:Int):Option sZ:=
 zR p0 p1>>=fun x1=>
 zCV qq x1.type>>=fun r3=>
 e62 qq r3.2.1>>=fun r5=>
 kY r3.1 x1.pars (r3.1.length:Int)>>=fun x7=>
 kY r5.2 x1.pars (r5.2.length:Int)>>=fun x9=>
 e23 qq x9>>=fun r11=>
 bF qq p0 x1 x7 r11 0 []
theorem zTP:∀qq:Nat,(∀ {p0 x1 x7 r11 v43 pJ r},bF qq p0 x1 x7 r11 v43 pJ=some r->(∀j,dL 0 (pt 262069 f70) (sp j 64 0 [(0,zO yZ p0 .no),(4,.mp 0 0),(5,.mp 1 0),(11,.mp 2 0),(41,zO zD x7 .no),(42,ai (x7.length:Int)),(43,ai v43)]) (⟨[(0,.cells [zO zD ([]:zQ) .nl,zO zD ([]:zQ) .nl,zO aU ([]:List uT) .nl]),(1,.cells [ai x1.kind,at' x1.name,ai x1.type.k,ai x1.type.n,zO zD x1.type.sub .no,ai x1.body.k,ai x1.body.n,zO zD x1.body.sub .no,ai x1.fam,ai x1.place,ai x1.pars,ai x1.inds,ai x1.level,zO yH x1.cons .no,zO yH x1.fields .no]),(2,.cells [zO zD x7 .no,zO zD r11 .no,zO aU pJ (.st 0 3)])],3,[0],1,[]⟩) (fQ 0 (nQ 0 f70 (zVJ r) [] 0) [.blk 0,.seq (pt 4095 f70)]))):=by
 intro qq
 induction qq with
 |zero=>
  exact fun h=>nn h
 |succ qq ih=>
  intro p0 x1 x7 r11 v43 pJ r h
  rw[bF]at h
  obtain⟨h13,h⟩|⟨h13,h⟩:=zL h
  obtain⟨x14,h15,h⟩:=zB h
  obtain⟨r16,h17,h⟩:=zB h
  obtain⟨l18,h19,h⟩:=zB h
  exact fun j=>lH 2 [] [0,1,2] [1] [0,4,5,11,41,42,43] (oD (dT x7)<|oD (dE p0)<|oD (dR l18)<|oD (dT r11)<|oD (dT x7)<|oD (dI x1.fields)<|oD (dI x1.cons)<|oD (dT x1.body.sub)<|oD (dT x1.type.sub)<|oD (dR ([]:List uT))<|oD (dT ([]:zQ))<|oD (dT ([]:zQ))<|oP 1 (zTy h19 (by simp))<|oC 4 [] (zYJ h17)<|oCl 2<|oA 0 (wN (o:=.no) h15)<|oB 0 h13 o0) (ih h)
  cases h
  exact fun j=>lF 2 [] (oD (dR pJ)<|oD (dT r11)<|oD (dT x7)<|oB 0 h13 o0)
theorem c70{qq p0 p1 r}(h:e70 qq p0 p1=some r):Ct 70 [] [zO yZ p0 .no,ai p1] (zVJ r) [] 0:=⟨by
 unfold e70 at h
 obtain⟨x1,h2,h⟩:=zB h
 obtain⟨r3,h4,h⟩:=zB h
 obtain⟨r5,h6,h⟩:=zB h
 obtain⟨x7,h8,h⟩:=zB h
 obtain⟨x9,h10,h⟩:=zB h
 obtain⟨r11,h12,h⟩:=zB h
 exact tH ⟨func70,rfl⟩ 3 [(some 4,2,3)] [0,1,4] [0] [0,4,5,11,41,42,43] (oD (dT x7)<|oD (dE p0)<|oD (dR ([]:List uT))<|oD (dT r11)<|oD (dT x7)<|oD (dI x1.fields)<|oD (dI x1.cons)<|oD (dT x1.body.sub)<|oD (dT x1.type.sub)<|oD (dR ([]:List uT))<|oD (dT ([]:zQ))<|oD (dT ([]:zQ))<|oC 0 [] (c23 h12)<|oA 1 (rK h10)<|oA 0 (rK h8)<|oCl 3<|oC 5 [] (c62 h6)<|oC 3 [] (zQx h4)<|oA 0 (wM (o:=.no) h2) o0) (zTP _ h),⟨⟨tv,dE _⟩,tv,tv⟩,zA,⟨dT _,dT _,dR _,tv⟩,zA⟩
def fE:Nat->yU->tW->Int->tW->Option ((tW×Int) ⊕ (tW×Int))
 |0,_,_,_,_=>none
 |qq+1,p0,x4,v14,yB=>
 if decide (v14<(p0.length:Int))then
 zR p0 v14>>=fun x7=>
 if x7.kind==2 then
 e70 qq p0 v14>>=fun r10=>
 A0 x4.length v14>>=fun x12=>
 A4 yB x12 r10>>=fun x14=>
 fE qq p0 x4 (xL (v14+1)) x14
 else
 fE qq p0 x4 (xL (v14+1)) yB
 else
 gfz x4.length yB>>=fun l16=>
 some (.inr (l16,0))
def e43(qq:Nat)(p0:yU):Option ((tW×Int) ⊕ (tW×Int)):=
 e42 qq p0>>=fun r1=>
 if r1 then
 gmk 72 (default:sZ) (p0.length:Int)>>=fun x4=>
 fE qq p0 x4 0 x4
 else
 some (.inl ([],5))
abbrev zWD (p0:yU) (r:tW×Int) (C:Cf):Prop:=C 43 [] [zO yZ p0 .no] (.tup [.sl (flat oE r.1) r.1.length .no,ai r.2]) [] 0
abbrev zWE (p0:yU) (r:tW×Int) (C:Cf):Prop:=C 43 [] [zO yZ p0 .no] (.tup [.ms 0 0 r.1.length r.1.length 3,ai r.2]) [.row (flat oE r.1)] 0
theorem q43:Qf 43 Tryz.f43:=⟨func43,rfl⟩
theorem zMC:∀qq:Nat,(∀ {p0 x4 v14 yB r},fE qq p0 x4 v14 yB=some r->(∀j,dL 0 (pt 16309 Tryz.f43) (sp j 31 0 [(0,zO yZ p0 .no),(4,.ms 0 0 x4.length x4.length 3),(13,ai (p0.length:Int)),(14,ai v14)]) (⟨[(0,.row (flat oE yB))],1,[],0,[]⟩) (fQ 0 ((match (generalizing:=false) r with | .inl x=>nQ 0 Tryz.f43 (.tup [.sl (flat oE x.1) x.1.length .no,ai x.2]) [] 0 | .inr x=>nQ 0 Tryz.f43 (.tup [.ms 0 0 x.1.length x.1.length 3,ai x.2]) [.row (flat oE x.1)] 0)) [.blk 0,.seq (pt 255 Tryz.f43)]))):=by
 intro qq
 induction qq with
 |zero=>
  exact fun h=>nn h
 |succ qq ih=>
  intro p0 x4 v14 yB r h
  rw[fE]at h
  obtain⟨h6,h⟩|⟨h6,h⟩:=zL h
  obtain⟨x7,h8,h⟩:=zB h
  have k:=oA 0 (wM (o:=.no) h8)<|oB 0 h6 o0
  obtain⟨h9,h⟩|⟨h9,h⟩:=zL h
  obtain⟨r10,h11,h⟩:=zB h
  obtain⟨x12,h13,h⟩:=zB h
  obtain⟨x14,h15,h⟩:=zB h
  exact fun j=>lH 1 [] [0] [] [0,4,13,14] (oD (dE p0)<|oD (dC x14)<|oW 0 (wtE (x:=r10) (cs:=[zO zD r10.args .no,zO zD r10.inds .no,zO aU r10.recs .no]) zEN rfl h15)<|oA 0 (zTt (b:=0) (c:=List.length x4) (z:=3) h13)<|oC 0 [] (c70 h11)<|oB 1 h9 k) (ih h)
  exact fun j=>lH 1 [] [0] [] [0,4,13,14] (oD (dE p0)<|oD (dC yB)<|oB 1 h9 k) (ih h)
  obtain⟨l16,h17,h⟩:=zB h
  obtain⟨h17a,h17b⟩:=gZ h17
  cases h
  obtain rfl:=h17a.symm
  try dsimp only
  rw[←h17b]
  exact fun j=>lF 0 [0] (oD (dC yB)<|oB 0 h6 o0)
theorem zYL{qq p0 r}(h:e43 qq p0=some r):(match (generalizing:=false) r with | .inl x=>zWD p0 x Ct | .inr x=>zWE p0 x Ct):=by
 unfold e43 at h
 obtain⟨r1,h2,h⟩:=zB h
 obtain⟨h3,h⟩|⟨h3,h⟩:=zL h
 obtain⟨x4,h5,h⟩:=zB h
 rcases r with y0|y1
 exact⟨tH q43 1 [] [0] [] [0,4,13,14] (oD (dE p0)<|oD (dC x4)<|oM 2 (zLl h5)<|oK 0 [] h3 (c42 h2) o0) (zMC _ h),⟨⟨tv,dE _⟩,tv⟩,zA,⟨dC _,tv,tv⟩,zA⟩
 exact⟨tH q43 1 [] [0] [] [0,4,13,14] (oD (dE p0)<|oD (dC x4)<|oM 2 (zLl h5)<|oK 0 [] h3 (c42 h2) o0) (zMC _ h),⟨⟨tv,dE _⟩,tv⟩,zA,⟨(lz rfl),tv,tv⟩,(zC (dC _) zA)⟩
 cases h
 exact⟨tF q43 1 [] (oD (dC ([]:tW))<|oK 0 [] h3 (c42 h2) o0),⟨⟨tv,dE _⟩,tv⟩,zA,⟨dC _,tv,tv⟩,zA⟩
theorem c43{qq p0 r}(h:e43 qq p0=some r):(match (generalizing:=false) r with | .inl x=>CT prog 43 [] [zO yZ p0 .no] (.tup [.sl (flat oE x.1) x.1.length .no,ai x.2]) [] 0 | .inr x=>CT prog 43 [] [zO yZ p0 .no] (.tup [.sl (flat oE x.1) x.1.length .no,ai x.2]) [] 0):=by
 have k:=zYL h
 rcases r with y0|y1
 ·exact k
 ·exact CT.freeze (H1:=[]) (cs:=flat oE y1.1) (res':=(.tup [.sl (flat oE y1.1) y1.1.length .no,ai y1.2])) k (Nat.le_of_ble_eq_true rfl) zA (dC _) ⟨(.inl ⟨rfl,rfl⟩),trivial,tv⟩ (by rfl) rfl
theorem zFo{t:Tm}{n:Int}(h:(vY t n).2.2≠0):(vY t n).2.1=zT∧(vY t n).1=[]:=by
 unfold vY at h ⊢
 split
 ·split
  ·exact⟨rfl,rfl⟩
  ·split
   ·exact⟨rfl,rfl⟩
   ·rename_i h1 h2 h3
    rw[if_pos h1,if_neg h2,if_neg h3]at h
    cases hr:kF n.toNat t with
    |none=>exact⟨rfl,rfl⟩
    |some r=>rw[hr]at h;exact absurd rfl h
 ·exact⟨rfl,rfl⟩
theorem zQb:zG (fun q=>e62 q zT) (zN zT,yG zT):=by
 refine zG.mk fun q=>?_
 show kE zT zT []=_
 unfold zT kE zN yG
 simp
theorem i8(t:Tm):zG (fun q=>e62 q (yR t).2.1) (zN (yR t).2.1,yG (yR t).2.1):=by
 by_cases h:(yR t).2.2=0
 ·have hw:=rC (t:=t) (l:=(yR t).1) (y:=(yR t).2.1) (by rw[←h])
  exact oI _ hw.2.2.2.2.1
 ·have:=(zFo (t:=t) (n:=((min (vZ t) 25:Nat):Int)) h).1
  have e:(yR t).2.1=zT:=this
  rw[e];exact zQb
def N3(l:List zU)(t:Tm)(of b:Int):uT:=
 if (yR t).2.2=0∧qU (yR t).2.1 of (zK l of).pars (zK l of).inds (b+(yR t).1.length)=true then uT.mk true (yR t).1 ((yG (yR t).2.1).drop (zK l of).pars.toNat)else uT.mk false [] []
theorem oO{α:Type}{L:List α}{n:Int}(h0:0≤n)(h1:n≤L.length):kY L n (L.length:Int)=some (L.drop n.toNat):=by
 unfold kY
 rw[if_pos ⟨h0,h1,by omega⟩]
 congr 1
 exact List.take_of_length_le (by simp;omega)
theorem dX{t:Tm}{of pars more b:Int}(h:qU t of pars more b=true):(zN t).k=6∧(zN t).n=of∧((yG t).length:Int)=pars+more:=by
 unfold qU at h
 simp only[Bool.and_eq_true,beq_iff_eq]at h
 exact⟨h.1.1.1,h.1.1.2,h.1.2⟩
theorem zTQ(l:List zU)(t:Tm)(of b:Int)(ho:t.Ok)(h0:0≤of)(h1:of<l.length)(hp:0≤(zK l of).pars∧0≤(zK l of).inds∧(zK l of).pars+(zK l of).inds≤24)(hb:0≤b∧b≤1048576) :
  zG (fun q=>zMA q l t of b) (N3 l t of b):=by
 simp only[zMA]
 refine(C1 t ho).bind ((i8 t).bind ?_)
 unfold N3
 by_cases a1:(yR t).2.2=0
 ·have hw:=rC (t:=t) (l:=(yR t).1) (y:=(yR t).2.1) (by rw[←a1])
  refine zG.ifF (by simp[a1]) ?_
  have hlen:=hw.2.2.1
  rw[yM (x:=b+((yR t).1.length:Int)) (by omega) (by omega)]
  have ha:=cZ (yR t).2.1 of (zK l of).pars (zK l of).inds (b+(yR t).1.length) hw.2.2.2.2.1 (by omega) (by omega) (by omega)
  by_cases a2:qU (yR t).2.1 of (zK l of).pars (zK l of).inds (b+(yR t).1.length)=true
  ·have hs:=dX a2
   rw[if_pos ⟨a1,a2⟩]
   refine zG.ifF (by simp[hs.1]) (zG.ifF (by simp[hs.2.1]) (zG.pure (yP h0 h1) (ha.bind (zG.ifT a2 (zG.pure (oO hp.1 (by show _≤((yG (yR t).2.1).length:Int);omega)) ?_)))))
   have hal:=sB _ (zI hw.2.2.2.2.1).2.2
   have hn:=(zI hw.2.2.2.2.1).1
   refine zG.bind (a:=(yG (yR t).2.1).drop (zK l of).pars.toNat) (zG.mk fun q=>(xB (by simp<;>omega)).trans (by simp)) zG.ret
  ·rw[if_neg (fun h=>a2 h.2)]
   refine zG.iff (fun _=>zG.ret) fun _=>zG.iff (fun _=>zG.ret) fun _=>zG.pure (yP h0 h1) (ha.bind (zG.ifF (by simpa using a2) zG.ret))
 ·rw[if_neg (fun h=>a1 h.1)]
  exact zG.ifT (by simp[a1]) zG.ret
def nB(l:List zU)(of:Int):List Tm->Int->List uT
 | [],_=>[]
 |a::r,b=>N3 l a of b::nB l of r (b+1)
theorem kI(l:List zU)(of:Int):∀(r:List Tm) (b:Int),(nB l of r b).length=r.length
 | [],_=>rfl
 |a::r,b=>congrArg (· + 1) (kI l of r (b+1))
def xU(l:List zU)(i:Int):sZ:=
 sZ.mk ((yR (zK l i).type).1.drop (zK l i).pars.toNat) ((yG (yR (zK l i).type).2.1).drop (zK l i).pars.toNat) (nB l (zK l i).fam ((yR (zK l i).type).1.drop (zK l i).pars.toNat) (zK l i).pars)
theorem i9(l:List zU)(x:zU)(A I:List Tm)(hA:∀t∈A,t.Ok)(hl:A.length≤24)(h0:0≤x.fam)(h1:x.fam<l.length)(hp:0≤(zK l x.fam).pars∧0≤(zK l x.fam).inds∧(zK l x.fam).pars+(zK l x.fam).inds≤24)(hb:0≤x.pars∧x.pars≤24) :
  ∀(r:List Tm) (v:Nat) (acc:List uT),A.drop v=r->acc.length≤v->zG (fun q=>bF q l x A I (v:Int) acc) (sZ.mk A I (acc++nB l x.fam r (x.pars+v)))
 | [],v,acc,hd,ha=>by
  refine zG.succ ?_
  simp only[bF]
  exact zG.ifF (drop_nil hd) (zG.ret.eq (by simp[nB]))
 |t::r,v,acc,hd,ha=>by
  have hlt:=yY hd
  have ht:t∈A:=by
   have:t∈A.drop v:=by rw[hd];simp
   exact List.mem_of_mem_drop this
  refine zG.succ ?_
  simp only[bF]
  rw[yM (x:=x.pars+v) (by omega) (by omega)]
  refine zG.ifT (yK hd) (zG.pure (yD hd) ((zTQ l t x.fam (x.pars+v) (hA t ht) h0 h1 hp (by omega)).bind (zG.pure (xB (by simp<;>omega)) ?_)))
  rw[yE v (by omega)]
  refine(i9 l x A I hA hl h0 h1 hp hb r (v+1) _ (zZ hd) (by simp<;>omega)).eq ?_
  rw[nB,show x.pars+((v+1:Nat):Int)=x.pars+v+1 by omega];simp
theorem vB{N:ByteArray->Bool}{l:List zU}{i:Int}(hE:xA N l)(h0:0≤i)(h1:i<l.length)(hk:(zK l i).kind=2) :
  ∃(A:List Tm) (y:Tm),yR (zK l i).type=(A,y,0)∧zH y=true∧(∀t∈A,zH t=true)∧A.length=vZ (zK l i).type∧A.length≤24∧0≤(zK l i).pars∧(zK l i).pars≤A.length ∧
   0≤(zK l i).fam∧(zK l i).fam<i∧(zK l (zK l i).fam).kind=1∧(zK l i).pars=(zK l (zK l i).fam).pars∧0≤(zK l (zK l i).fam).inds∧(zK l (zK l i).fam).pars+(zK l (zK l i).fam).inds≤24 ∧
   qU y (zK l i).fam (zK l i).pars (zK l (zK l i).fam).inds A.length=true∧0≤(zK l i).place∧(zK l i).place<(zK l (zK l i).fam).cons.length:=by
 have hc:=(yQ (hE.2 i h0 h1)).2.2.1 hk
 unfold zFu at hc
 simp only[Bool.and_eq_true,beq_iff_eq,decide_eq_true_eq]at hc
 obtain⟨a1,a2,a3,a4⟩:=hc
 have ho:=tZ a1
 have hf:=wE ((yQ (hE.2 _ ho.1 (by omega))).2.1 ho.2.2.1)
 have hw:=rC (t:=(zK l i).type) (l:=(yR (zK l i).type).1) (y:=(yR (zK l i).type).2.1) (by rw[←a2])
 have hown:V4 l (zK l i)=(zK l (zK l i).fam).cons:=by unfold V4;rw[if_neg (by omega)]
 have h6:=ho.2.2.2.2.2
 rw[hown]at h6
 exact⟨_,_,by rw[←a2],hw.2.2.2.2.1,hw.2.2.2.2.2,hw.2.1,hw.2.2.1,by omega,a3,ho.1,ho.2.1,ho.2.2.1,ho.2.2.2.1,hf.2.1,hf.2.2.1,a4,ho.2.2.2.2.1,h6⟩
theorem zX{t:Tm}(h:zH t=true):t.Ok:=rS t (zI h).2.2
theorem zMD{N:ByteArray->Bool}(l:List zU)(i:Int)(hE:xA N l)(h0:0≤i)(h1:i<l.length)(hk:(zK l i).kind=2)(he:∀e∈l,hJ e):zG (fun q=>e70 q l i) (xU l i):=by
 simp only[e70]
 obtain⟨A,y,hw,hy,hA,hAp,hA24,p0,p1,f0,f1,fk,fp,fi,fs,hap,-,-⟩:=vB hE h0 h1 hk
 have hsp:=dX hap
 refine zG.pure (yP h0 h1) ((C1 _ (he _ (nL h0 h1)).1).bind ((i8 _).bind ?_))
 unfold xU
 rw[hw]
 have hal:=sB _ (zI hy).2.2
 have hn:=(zI hy).1
 refine zG.pure (oO p0 p1) (zG.pure (oO p0 (by show _≤((yG y).length:Int);omega)) (zG.bind (a:=(yG y).drop (zK l i).pars.toNat) (zG.mk fun q=>(xB (by simp<;>omega)).trans (by simp)) ?_))
 refine(i9 l (zK l i) (A.drop (zK l i).pars.toNat) ((yG y).drop (zK l i).pars.toNat) (fun t ht=>zX (hA t (List.mem_of_mem_drop ht))) (by simp;omega) f0 (by omega) (by omega) (by omega) _ 0 [] rfl (by simp)).eq ?_
 simp
def jQ(l:List zU):Nat->Nat->List sZ
 |0,_=>[]
 |m+1,v=>(if (zK l v).kind=2 then xU l v else default)::jQ l m (v+1)
theorem zHz(l:List zU):∀(m v j:Nat),j<m->(jQ l m v)[j]? = some (if (zK l ((v+j:Nat):Int)).kind=2 then xU l ((v+j:Nat):Int)else default)
 |m+1,v,0,_=>by simp[jQ]
 |m+1,v,j+1,h=>by
  rw[jQ,List.getElem?_cons_succ,zHz l m (v+1) j (by omega),show v+1+j=v+(j+1) by omega]
theorem zJK{N:ByteArray->Bool}(l:List zU)(x4:List sZ)(hx:x4.length=l.length)(hE:xA N l)(he:∀e∈l,hJ e):∀(m v:Nat) (acc:List sZ),v+m=l.length->acc.length=v ->
  zG (fun q=>fE q l x4 (v:Int) (acc++List.replicate m default)) (.inr (acc++jQ l m v,0)):=by
 intro m
 induction m with
 |zero=>
  intro v acc hm ha
  refine zG.succ ?_
  simp only[fE]
  refine zG.ifF (decide_eq_false (by omega)) (zG.pure (a:=acc++List.replicate 0 default) (by unfold gfz;rw[if_pos (by simp;omega)]) (zG.ret.eq (by simp[jQ])))
 |succ m ih=>
  intro v acc hm ha
  refine zG.succ ?_
  simp only[fE]
  refine zG.ifT (decide_eq_true (by omega)) (zG.pure (yP (by omega) (by omega)) ?_)
  have hl:=hE.1
  rw[yE v (by omega),jQ]
  by_cases k:(zK l v).kind=2
  ·rw[if_pos k]
   refine zG.ifT (by simp[k]) ((zMD l v hE (by omega) (by omega) k he).bind ?_)
   refine zG.pure (a:=v) (by unfold A0;rw[if_pos (by omega)];simp) ?_
   refine zG.pure (a:=acc++xU l v::List.replicate m default) ?_ ?_
   ·unfold A4
    rw[if_pos (by simp;omega),List.set_append_right _ _ (by omega),show v-acc.length=0 by omega,List.replicate_succ];rfl
   ·have:=ih (v+1) (acc++[xU l v]) (by omega) (by simp;omega)
    simpa using this
  ·rw[if_neg k]
   refine zG.ifF (by simp[k]) ?_
   have:=ih (v+1) (acc++[default]) (by omega) (by simp;omega)
   rw[List.replicate_succ]
   simpa using this
def e19(qq:Nat)(p0:yU):Option ((Int) ⊕ (Int×yU×tW)):=
 e20 qq p0>>=fun r1=>
 e42 qq p0>>=fun r3=>
 if r3 then
 e43 qq r1>>=fun r6=>
 match r6 with
 | .inl y8=>
  if y8.2 != 0 then
  some (.inl y8.2)
  else
  some (.inr (0,r1,y8.1))
 | .inr y10=>
  if y10.2 != 0 then
  some (.inl y10.2)
  else
  some (.inr (0,r1,y10.1))
 else
 some (.inl 5)
abbrev zME (p0:yU) (r:Int) (C:Cf):Prop:=C 19 [] [zO yZ p0 .no] (.tup [.val (.pointer none),ai r]) [] 0
abbrev zMF (p0:yU) (r:Int×yU×tW) (C:Cf):Prop:=C 19 [] [zO yZ p0 .no] (.tup [.mp 0 0,ai r.1]) [.cells [zO yZ r.2.1 .no,zO oE r.2.2 .no]] 0
theorem q19:Qf 19 Tryz.f19:=⟨func19,rfl⟩
theorem zMG{p0 r}(h:zME p0 r Ci):zME p0 r Ct:=⟨h,⟨⟨tv,dE _⟩,tv⟩,zA,⟨tv,tv,tv⟩,zA⟩
theorem zSl{p0 r}(h:zMF p0 r Ci):zMF p0 r Ct:=⟨h,⟨⟨tv,dE _⟩,tv⟩,zA,⟨(lz rfl),tv,tv⟩,(zC ⟨dE _,dC _,tv⟩ zA)⟩
theorem c19{qq p0 r}(h:e19 qq p0=some r):(match (generalizing:=false) r with | .inl x=>zME p0 x Ct | .inr x=>zMF p0 x Ct):=by
 unfold e19 at h
 obtain⟨r1,h2,h⟩:=zB h
 obtain⟨r3,h4,h⟩:=zB h
 have k:=oC 0 [] (c20 h2) o0
 obtain⟨h5,h⟩|⟨h5,h⟩:=zL h
 obtain⟨r6,h7,h⟩:=zB h
 have k:=oK 0 [] h5 (c42 h4) k
 rcases r6 with y8|y10
 dsimp only at h
 have k:=oC 1 [] (c43 h7) k
 obtain⟨h9,h⟩|⟨h9,h⟩:=zL h
 cases h
 exact zMG (tF q19 0 [] (oB 2 h9 k))
 cases h
 exact zSl (tF q19 0 [0] (oD (dC y8.1)<|oD (dE r1)<|oB 2 h9 k))
 dsimp only at h
 have k:=oC 1 [] (c43 h7) k
 obtain⟨h11,h⟩|⟨h11,h⟩:=zL h
 cases h
 exact zMG (tF q19 0 [] (oB 2 h11 k))
 cases h
 exact zSl (tF q19 0 [0] (oD (dC y10.1)<|oD (dE r1)<|oB 2 h11 k))
 cases h
 exact zMG (tF q19 1 [] (oK 0 [] h5 (c42 h4) k))
mutual
def dY:Nat->yU->(Int×yU×tW)->Int->yU->yV->yV->Option ((Int) ⊕ (Int×yU×yV×yV×yU×tW))
 |0,_,_,_,_,_,_=>none
 |qq+1,p0,y3,v27,yB,xC,uF=>
 if decide (v27<(p0.length:Int))then
 zR p0 v27>>=fun x8=>
 if x8.kind==1 then
 xQ 8 xC [(xL ((xL ((xL (x8.pars+2))+(x8.cons.length:Int)))+x8.inds))]>>=fun l11=>
 xQ 8 uF [0]>>=fun l13=>
 dY qq p0 y3 (xL (v27+1)) yB l11 l13
 else
 if x8.kind==2 then
 V5 qq p0 y3 v27 yB xC uF 0 x8.type.k x8.type.n x8.type.sub
 else
 xQ 8 xC [0]>>=fun l16=>
 xQ 8 uF [0]>>=fun l18=>
 dY qq p0 y3 (xL (v27+1)) yB l16 l18
 else
 some (.inr (0,yB,xC,uF,y3.2.1,y3.2.2))
def V5:Nat->yU->(Int×yU×tW)->Int->yU->yV->yV->Int->Int->Int->zQ->Option ((Int) ⊕ (Int×yU×yV×yV×yU×tW))
 |0,_,_,_,_,_,_,_,_,_,_=>none
 |qq+1,p0,y3,v27,yB,xC,uF,v10,qT,oN,uM=>
 if qT==3 then
 zR uM 1>>=fun x17=>
 V5 qq p0 y3 v27 yB xC uF (xL (v10+1)) x17.k x17.n x17.sub
 else
 xQ 8 xC [0]>>=fun l19=>
 xQ 8 uF [v10]>>=fun l21=>
 dY qq p0 y3 (xL (v27+1)) yB l19 l21
end
def e8(qq:Nat)(p0:yU):Option ((Int) ⊕ (Int×yU×yV×yV×yU×tW)):=
 e19 qq p0>>=fun r1=>
 match r1 with
 | .inl y7=>
  if y7 != 0 then
  some (.inl y7)
  else
  none
 | .inr y3=>
  if y3.1 != 0 then
  some (.inl y3.1)
  else
  e20 qq p0>>=fun r5=>
  dY qq p0 y3 0 r5 [] []
abbrev zTR (p0:yU) (r:Int) (C:Cf):Prop:=C 8 [] [zO yZ p0 .no] (.tup [.val (.pointer none),ai r]) [] 0
abbrev zYM (p0:yU) (r:Int×yU×yV×yV×yU×tW) (C:Cf):Prop:=C 8 [] [zO yZ p0 .no] (.tup [.mp 0 0,ai r.1]) [.cells [zO yZ r.2.1 .no,.mp 1 0,zO yH r.2.2.1 .no,zO yH r.2.2.2.1 .no],.cells [zO yZ r.2.2.2.2.1 .no,zO oE r.2.2.2.2.2 .no]] 0
theorem q8:Qf 8 Tryz.f8:=⟨func8,rfl⟩
theorem zTS{p0 r}(h:zTR p0 r Ci):zTR p0 r Ct:=⟨h,⟨⟨tv,dE _⟩,tv⟩,zA,⟨tv,tv,tv⟩,zA⟩
theorem V6:∀qq:Nat,(∀ {p0 y3 v27 yB xC uF r},dY qq p0 y3 v27 yB xC uF=some r->(∀j,dL 0 (pt 65461 Tryz.f8) (sp j 81 0 [(6,.mp 0 0),(25,zO yZ p0 .no),(26,ai (p0.length:Int)),(27,ai v27)]) (⟨[(0,.cells [zO yZ yB .no,.mp 1 0,zO yH xC (.st 0 1),zO yH uF (.st 1 1)]),(1,.cells [zO yZ y3.2.1 .no,zO oE y3.2.2 .no])],2,[0,1],2,[]⟩) (fQ 0 ((match (generalizing:=false) r with | .inl x=>nQ 0 Tryz.f8 (.tup [.val (.pointer none),ai x]) [] 0 | .inr x=>nQ 0 Tryz.f8 (.tup [.mp 0 0,ai x.1]) [.cells [zO yZ x.2.1 .no,.mp 1 0,zO yH x.2.2.1 .no,zO yH x.2.2.2.1 .no],.cells [zO yZ x.2.2.2.2.1 .no,zO oE x.2.2.2.2.2 .no]] 0)) [.blk 0,.seq (pt 1023 Tryz.f8)])))∧(∀ {p0 y3 v27 yB xC uF v10 qT oN uM r},V5 qq p0 y3 v27 yB xC uF v10 qT oN uM=some r->(∀j,dL 0 (pt 281157048172469 Tryz.f8) (sp j 81 0 [(6,.mp 0 0),(9,ai 0),(10,ai v10),(11,.mp 1 0),(25,zO yZ p0 .no),(26,ai (p0.length:Int)),(27,ai v27)]) (⟨[(0,.cells [zO yZ yB .no,.mp 2 0,zO yH xC (.st 0 1),zO yH uF (.st 1 1)]),(1,.cells [ai qT,ai oN,zO zD uM .no]),(2,.cells [zO yZ y3.2.1 .no,zO oE y3.2.2 .no])],3,[0,1],2,[]⟩) (fQ 0 ((match (generalizing:=false) r with | .inl x=>nQ 0 Tryz.f8 (.tup [.val (.pointer none),ai x]) [] 0 | .inr x=>nQ 0 Tryz.f8 (.tup [.mp 0 0,ai x.1]) [.cells [zO yZ x.2.1 .no,.mp 1 0,zO yH x.2.2.1 .no,zO yH x.2.2.2.1 .no],.cells [zO yZ x.2.2.2.2.1 .no,zO oE x.2.2.2.2.2 .no]] 0)) [.blk 3,.blk 2,.seq (pt 1072529023 Tryz.f8),.blk 1,.seq (pt 4189567 Tryz.f8),.loop (pt 65461 Tryz.f8),.blk 0,.seq (pt 1023 Tryz.f8)]))):=by
 intro qq
 induction qq with
 |zero=>
  exact⟨fun h=>nn h,fun h=>nn h⟩
 |succ qq ih=>
  obtain⟨zFn,zMH⟩:=ih
  refine⟨?_,?_⟩
  intro p0 y3 v27 yB xC uF r h
  rw[dY]at h
  obtain⟨h7,h⟩|⟨h7,h⟩:=zL h
  obtain⟨x8,h9,h⟩:=zB h
  have k:=oA 0 (wM (o:=.no) h9)<|oB 0 h7 o0
  obtain⟨h10,h⟩|⟨h10,h⟩:=zL h
  obtain⟨l11,h12,h⟩:=zB h
  obtain⟨l13,h14,h⟩:=zB h
  exact fun j=>lH 3 [] [0,1] [2,3] [6,25,26,27] (oD (dE p0)<|oD (dC y3.2.2)<|oD (dE y3.2.1)<|oD (dI l13)<|oD (dI l11)<|oD (dE yB)<|oP 2 (kB h14 (by simp))<|oP 9 (kB h12 (by simp))<|oB 3 h10 k) (zFn h)
  have k:=oB 3 h10 k
  obtain⟨h15,h⟩|⟨h15,h⟩:=zL h
  exact fun j=>lH 2 [] [0,3,1] [0,1] [6,9,10,11,25,26,27] (oD (dE p0)<|oD (dC y3.2.2)<|oD (dE y3.2.1)<|oD (dT x8.type.sub)<|oD (dI uF)<|oD (dI xC)<|oD (dE yB)<|oB 0 h15 k) (zMH h)
  obtain⟨l16,h17,h⟩:=zB h
  obtain⟨l18,h19,h⟩:=zB h
  exact fun j=>lH 3 [] [0,1] [2,3] [6,25,26,27] (oD (dE p0)<|oD (dC y3.2.2)<|oD (dE y3.2.1)<|oD (dI l18)<|oD (dI l16)<|oD (dE yB)<|oP 2 (kB h19 (by simp))<|oP 2 (kB h17 (by simp))<|oB 0 h15 k) (zFn h)
  cases h
  exact fun j=>lF 0 [0,1] (oD (dC y3.2.2)<|oD (dE y3.2.1)<|oD (dI uF)<|oD (dI xC)<|oD (dE yB)<|oB 0 h7 o0)
  intro p0 y3 v27 yB xC uF v10 qT oN uM r h
  rw[V5]at h
  obtain⟨h16,h⟩|⟨h16,h⟩:=zL h
  obtain⟨x17,h18,h⟩:=zB h
  exact fun j=>lH 2 [] [0,3,2] [0,1] [6,9,10,11,25,26,27] (oD (dE p0)<|oD (dC y3.2.2)<|oD (dE y3.2.1)<|oD (dT x17.sub)<|oD (dI uF)<|oD (dI xC)<|oD (dE yB)<|oA 4 (wN (o:=.no) h18)<|oB 1 h16 o0) (zMH h)
  obtain⟨l19,h20,h⟩:=zB h
  obtain⟨l21,h22,h⟩:=zB h
  exact fun j=>lH 3 [] [0,2] [2,3] [6,25,26,27] (oD (dE p0)<|oD (dC y3.2.2)<|oD (dE y3.2.1)<|oD (dI l21)<|oD (dI l19)<|oD (dE yB)<|oP 2 (kB h22 (by simp))<|oP 2 (kB h20 (by simp))<|oB 1 h16 o0) (zFn h)
theorem c8{qq p0 r}(h:e8 qq p0=some r):(match (generalizing:=false) r with | .inl x=>zTR p0 x Ct | .inr x=>zYM p0 x Ct):=by
 unfold e8 at h
 obtain⟨r1,h2,h⟩:=zB h
 rcases r1 with y7|y3
 dsimp only at h
 have k:=oC 0 [] (c19 h2) o0
 obtain⟨h8,h⟩:=O0 h
 cases h
 exact zTS (tF q8 0 [] (oB 2 h8 k))
 dsimp only at h
 have k:=oC 0 [] (c19 h2) o0
 obtain⟨h4,h⟩|⟨h4,h⟩:=zL h
 cases h
 exact zTS (tF q8 0 [] (oB 2 h4 k))
 obtain⟨r5,h6,h⟩:=zB h
 rcases r with y0|y1
 exact zTS (tH q8 1 [(some 1,2,1),(some 1,3,1)] [1,0] [0,1] [6,25,26,27] (oD (dE p0)<|oD (dC y3.2.2)<|oD (dE y3.2.1)<|oD (dI ([]:yV))<|oD (dI ([]:yV))<|oD (dE r5)<|oC 0 [] (c20 h6)<|oB 2 h4 k) ((V6 _).1 h))
 exact⟨tH q8 1 [(some 1,2,1),(some 1,3,1)] [1,0] [0,1] [6,25,26,27] (oD (dE p0)<|oD (dC y3.2.2)<|oD (dE y3.2.1)<|oD (dI ([]:yV))<|oD (dI ([]:yV))<|oD (dE r5)<|oC 0 [] (c20 h6)<|oB 2 h4 k) ((V6 _).1 h),⟨⟨tv,dE _⟩,tv⟩,zA,⟨(lz rfl),tv,tv⟩,(iY (lz rfl) zA)⟩
theorem zMI{N:ByteArray->Bool}(l:List zU)(hf:zG (fun q=>e42 q l) true)(hE:xA N l)(he:∀e∈l,hJ e):zG (fun q=>e43 q l) (.inr (jQ l l.length 0,0)):=by
 simp only[e43]
 have hl:=hE.1
 refine hf.bind (zG.ifT rfl (zG.pure (a:=List.replicate l.length default) ?_ ?_))
 ·unfold gmk;rw[if_pos (by omega)];rfl
 ·exact(zJK l (List.replicate l.length default) (by simp) hE he l.length 0 [] (by omega) rfl).eq (by simp)
def zFm(l:List zU)(b:Bool):(Int) ⊕ (Int×List zU×List sZ):=if b=true then .inr (0,l,jQ l l.length 0)else .inl 5
theorem zQa(N:ByteArray->Bool)(hN:eI N)(l:List zU)(hl:l.length≤65535)(he:∀e∈l,hJ e)(hc:∀e∈l,ECl e):∃b,zG (fun q=>e42 q l) b∧(b=true->xA N l)∧zG (fun q=>e19 q l) (zFm l b):=by
 obtain⟨d,-,hd⟩:=zJJ N hN l hl he
 refine⟨_,hd,C3,?_⟩
 simp only[e19]
 refine(C4 l hl he hc).bind (hd.bind ?_)
 unfold zFm
 by_cases h:C2 N d l=true
 ·rw[if_pos h]
  have hA:=C3 h
  rw[I5 hA]
  refine zG.ifT h ((zMI l (hd.eq h) hA he).bind ?_)
  exact zG.ifF (by simp) zG.ret
 ·rw[if_neg h]
  exact zG.ifF (by simpa using h) zG.ret
theorem g7(t:Tm)(hg:xG t=true):vZ t≤t.nodes:=by
 have key:∀(m:Nat) (t:Tm),t.nodes≤m->xG t=true->vZ t≤t.nodes:=by
  intro m
  induction m with
  |zero=>intro t h;have:=uS t;omega
  |succ m ih=>
   intro t hm hg
   by_cases k:t.k=3
   ·obtain⟨x,y,e,hx,hy⟩:=jL hg k
    rw[e]at hm ⊢
    rw[C0]
    rw[Tm.nodes,yN,yN,yN]at hm ⊢
    have:=uS x
    have:=ih y (by omega) hy
    omega
   ·rw[zAU k];omega
 exact key t.nodes t (Nat.le_refl _) hg
def xI(e:zU):Int:=if e.kind=1 then e.pars+2+e.cons.length+e.inds else 0
def pD(e:zU):Int:=if e.kind=2 then(vZ e.type:Int)else 0
theorem zQA(l:List zU)(y3:Int×List zU×List sZ)(v27:Int)(vb:List zU)(a o:List Int)(r:(Int) ⊕ (Int×List zU×List Int×List Int×List zU×List sZ))(ha:a.length≤65535)(ho:o.length≤65535)(tot:Int)(ht:tot≤4611686018427387904)
  (hk:zG (fun q=>dY q l y3 (xL (v27+1)) vb (a++[0]) (o++[tot])) r) :
  ∀(t:Tm) (v:Int),xG t=true->0≤v->v+vZ t=tot->zG (fun q=>V5 q l y3 v27 vb a o v t.k t.n t.sub) r:=by
 have key:∀(m:Nat) (t:Tm) (v:Int),t.nodes≤m->xG t=true->0≤v->v+vZ t=tot->zG (fun q=>V5 q l y3 v27 vb a o v t.k t.n t.sub) r:=by
  intro m
  induction m with
  |zero=>intro t v h;have:=uS t;omega
  |succ m ih=>
   intro t v hm hg h0 hv
   refine zG.succ ?_
   simp only[V5]
   by_cases k:t.k=3
   ·obtain⟨x,y,e,hx,hy⟩:=jL hg k
    rw[e]at hv hm ⊢
    rw[C0]at hv
    refine zG.ifT (by simp[Tm.k]) (zG.pure (a:=y) (by simp[zR,Tm.sub]) ?_)
    rw[yM (x:=v+1) (by omega) (by omega)]
    refine ih y (v+1) ?_ hy (by omega) (by omega)
    rw[Tm.nodes,yN,yN,yN]at hm
    have:=uS x
    omega
   ·rw[zAU k]at hv
    refine zG.ifF (by simp[k]) (zG.pure (xB (by simp<;>omega)) (zG.pure (xB (by simp<;>omega)) ?_))
    rw[show v=tot by omega];exact hk
 exact fun t v=>key t.nodes t v (Nat.le_refl _)
theorem C5{N:ByteArray->Bool}(l vb:List zU)(y3:Int×List zU×List sZ)(hE:xA N l):∀(r:List zU) (v:Nat) (a o:List Int),l.drop v=r->a.length≤v->o.length≤v ->
  zG (fun q=>dY q l y3 (v:Int) vb a o) (.inr (0,vb,a++r.map xI,o++r.map pD,y3.2.1,y3.2.2))
 | [],v,a,o,hd,ha,ho=>by
  refine zG.succ ?_
  simp only[dY]
  exact zG.ifF (drop_nil hd) (zG.ret.eq (by simp))
 |x::r,v,a,o,hd,ha,ho=>by
  have hlt:=yY hd
  have hl:=hE.1
  have hx:zK l v=x:=by
   have h1:=yD hd
   rw[yP (by omega) (by omega)]at h1
   exact Option.some.inj h1
  have hs:=yQ (hE.2 v (by omega) (by omega))
  rw[hx]at hs
  refine zG.succ ?_
  simp only[dY]
  refine zG.ifT (yK hd) (zG.pure (yD hd) ?_)
  by_cases k1:x.kind=1
  ·have hf:=wE (hs.2.1 k1)
   rw[hx]at hf
   rw[yM (x:=x.pars+2) (by omega) (by omega),yM (x:=x.pars+2+x.cons.length) (by omega) (by omega),yM (x:=x.pars+2+x.cons.length+x.inds) (by omega) (by omega),yE v (by omega)]
   refine zG.ifT (by simp[k1]) (zG.pure (xB (by simp<;>omega)) (zG.pure (xB (by simp<;>omega)) ?_))
   refine(C5 l vb y3 hE r (v+1) _ _ (zZ hd) (by simp<;>omega) (by simp<;>omega)).eq ?_
   simp[xI,pD,k1]
  ·refine zG.ifF (by simp[k1]) ?_
   by_cases k2:x.kind=2
   ·refine zG.ifT (by simp[k2]) ?_
    have hsh:=(zI (sL hs.1))
    have hp:vZ x.type≤8192:=Nat.le_trans (g7 x.type hsh.2.2) hsh.1
    refine zQA l y3 v vb a o _ (by omega) (by omega) (vZ x.type) (by omega) ?_ x.type 0 hsh.2.2 (by omega) (by omega)
    rw[yE v (by omega)]
    refine(C5 l vb y3 hE r (v+1) _ _ (zZ hd) (by simp<;>omega) (by simp<;>omega)).eq ?_
    simp[xI,pD,k2]
   ·refine zG.ifF (by simp[k2]) (zG.pure (xB (by simp<;>omega)) (zG.pure (xB (by simp<;>omega)) ?_))
    rw[yE v (by omega)]
    refine(C5 l vb y3 hE r (v+1) _ _ (zZ hd) (by simp<;>omega) (by simp<;>omega)).eq ?_
    simp[xI,pD,k1,k2]
def yX(l:List zU):wF:=wF.mk l l (jQ l l.length 0) (l.map xI) (l.map pD)
def zAY(l:List zU)(b:Bool):(Int) ⊕ (Int×List zU×List Int×List Int×List zU×List sZ):=if b=true then .inr (0,l,l.map xI,l.map pD,l,jQ l l.length 0)else .inl 5
theorem zQB(N:ByteArray->Bool)(hN:eI N)(l:List zU)(hl:l.length≤65535)(he:∀e∈l,hJ e)(hc:∀e∈l,ECl e):∃b,zG (fun q=>e42 q l) b∧(b=true->xA N l)∧zG (fun q=>e8 q l) (zAY l b):=by
 obtain⟨b,h1,h2,h3⟩:=zQa N hN l hl he hc
 refine⟨b,h1,h2,?_⟩
 simp only[e8]
 refine h3.bind ?_
 unfold zFm zAY
 cases b with
 |false=>exact zG.ifT (by decide) zG.ret
 |true=>
  refine zG.ifF (by simp) ((C4 l hl he hc).bind ?_)
  rw[I5 (h2 rfl)]
  exact(C5 l l _ (h2 rfl) l 0 [] [] rfl (by simp) (by simp)).eq (by simp)
theorem C6{t:Tm}{k c:Int}(h:(uK t k c).2=0):zH t=true∧0≤k∧0≤c∧zH (vS t 0 c k)=true∧(uK t k c).1=vS t 0 c k:=by
 unfold uK at h ⊢
 by_cases a:zH t=true∧dQ k=true∧dQ c=true
 ·rw[if_pos a]at h ⊢
  by_cases b:zH (vS t 0 c k)=true
  ·rw[if_pos b]
   have a2:=a.2.1
   have a3:=a.2.2
   unfold dQ at a2 a3
   simp only[Bool.and_eq_true,decide_eq_true_eq]at a2 a3
   exact⟨a.1,a2.1,a3.1,b,rfl⟩
  ·rw[if_neg b]at h;simp at h
 ·rw[if_neg a]at h;simp at h
theorem V7(t:Tm)(k c:Int):(uK t k c).2≠8:=by
 unfold uK
 split
 ·split<;>simp
 ·simp
mutual
def vQ(ls:List Tm):Tm->Int->Tm
 | .mk kd n l,b=>if kd=1∧b≤n then(if h:(n-b).toNat<ls.length then vS (ls[(n-b).toNat]) 0 0 b else .mk 1 (n-ls.length) [])else .mk kd n (rN ls l kd 0 b)
def rN(ls:List Tm):List Tm->Int->Nat->Int->List Tm
 | [],_,_,_=>[]
 |t::l,kd,i,b=>vQ ls t (xZ kd i b)::rN ls l kd (i+1) b
end
theorem zTT{a:Tm}{b left:Int}{long:Bool}(h:(raT a b left long).2.2=false):long=false∧(raT a b left long).1=vS a 0 0 b:=by
 unfold raT at h ⊢
 by_cases h1:left-Z1 a 0<0
 ·rw[if_pos h1]at h;simp at h
 ·rw[if_neg h1]at h ⊢
  by_cases h2:(uK a b 0).2≠0
  ·rw[if_pos h2]at h;simp at h
  ·rw[if_neg h2]at h ⊢
   exact⟨h,(C6 (by simpa using h2)).2.2.2.2⟩
theorem zMJ(ls:List Tm):∀(t:Tm) (b left:Int),(aI ls t b left true).2.2=true
 | .mk kd n l,b,left=>by rw[aI,if_pos rfl]
mutual
theorem zMK(ls:List Tm):∀(t:Tm) (b left:Int) (long:Bool),(aI ls t b left long).2.2=false->long=false∧(aI ls t b left long).1=vQ ls t b
 | .mk kd n l,b,left,long,h=>by
  cases long with
  |true=>rw[zMJ]at h;cases h
  |false=>
   refine⟨rfl,?_⟩
   rw[aI,if_neg (by simp)]at h ⊢
   rw[vQ]
   by_cases h1:kd=1∧b≤n
   ·rw[if_pos h1]at h
    rw[if_pos h1,if_pos h1]
    by_cases h2:(n-b).toNat<ls.length
    ·rw[dif_pos h2]at h
     rw[dif_pos h2,dif_pos h2]
     exact(zTT h).2
    ·rw[dif_neg h2,dif_neg h2]
   ·rw[if_neg h1]at h
    rw[if_neg h1,if_neg h1]
    exact congrArg (Tm.mk kd n) (zML ls l kd 0 b (left-1) (decide (left-1<0)) h).2
theorem zML(ls:List Tm):∀(l:List Tm) (kd:Int) (i:Nat) (b left:Int) (long:Bool),(L9 ls l kd i b left long).2.2=false->long=false∧(L9 ls l kd i b left long).1=rN ls l kd i b
 | [],kd,i,b,left,long,h=>by
  rw[L9]at h ⊢
  rw[rN]
  exact⟨h,rfl⟩
 |t::l,kd,i,b,left,long,h=>by
  rw[L9]at h ⊢
  have k:=zML ls l kd (i+1) b (aI ls t (xZ kd i b) left long).2.1 (aI ls t (xZ kd i b) left long).2.2 h
  have k2:=zMK ls t (xZ kd i b) left long k.1
  refine⟨k2.1,?_⟩
  show (aI ls t (xZ kd i b) left long).1::(L9 ls l kd (i+1) b (aI ls t (xZ kd i b) left long).2.1 (aI ls t (xZ kd i b) left long).2.2).1=_
  rw[k2.2,k.2,rN]
end
theorem eJ{t:Tm}{ls:List Tm}(h:(oJ t ls).2=0):zH t=true∧ls.all zH=true∧zH (vQ ls t 0)=true∧(oJ t ls).1=vQ ls t 0:=by
 unfold oJ at h ⊢
 by_cases a:zH t=true∧ls.all zH=true
 ·rw[if_pos a]at h ⊢
  by_cases b:(aI ls t 0 8192 false).2.2=true
  ·rw[if_pos b]at h;simp at h
  ·rw[if_neg b]at h ⊢
   have e:=(zMK ls t 0 8192 false (by simpa using b)).2
   rw[e]at h ⊢
   by_cases c:zH (vQ ls t 0)=true
   ·rw[if_pos c];exact⟨a.1,a.2,c,rfl⟩
   ·rw[if_neg c]at h;simp at h
 ·rw[if_neg a]at h;simp at h
theorem zHy(t:Tm)(ls:List Tm):(oJ t ls).2≠8:=by
 unfold oJ
 split
 ·split
  ·simp
  ·split<;>simp
 ·simp
mutual
def xH(P:Int->Int->Prop):Tm->Prop
 | .mk k n l=>(k=1∨P k n)∧vF P l
def vF(P:Int->Int->Prop):List Tm->Prop
 | []=>True
 |t::l=>xH P t∧vF P l
end
section
variable {P:Int->Int->Prop}
theorem eK:∀ {l:List Tm},vF P l ↔ ∀t∈l,xH P t
 | []=>by rw[vF];simp
 |t::l=>by rw[vF,eK];simp
theorem zAZ{k n:Int}{a b:Tm}(h:k=1∨P k n)(ha:xH P a)(hb:xH P b):xH P (.mk k n [a,b]):=by
 rw[xH,vF,vF,vF];exact⟨h,ha,hb,trivial⟩
theorem zTU{k n:Int}{a:Tm}(h:k=1∨P k n)(ha:xH P a):xH P (.mk k n [a]):=by
 rw[xH,vF,vF];exact⟨h,ha,trivial⟩
theorem bG{k n:Int}(h:k=1∨P k n):xH P (.mk k n []):=by
 rw[xH,vF];exact⟨h,trivial⟩
mutual
theorem O6:∀(t:Tm) (b c k:Int),xH P t->xH P (vS t b c k)
 | .mk kd n l,b,c,k,h=>by
  rw[xH]at h
  rw[vS]
  split
  ·exact bG (.inl rfl)
  ·rw[xH];exact⟨h.1,zDt l kd 0 b c k h.2⟩
theorem zDt:∀(l:List Tm) (kd:Int) (i:Nat) (b c k:Int),vF P l->vF P (sC l kd i b c k)
 | [],_,_,_,_,_,_=>by rw[sC,vF];trivial
 |t::l,kd,i,b,c,k,h=>by
  rw[vF]at h
  rw[sC,vF]
  exact⟨O6 t _ c k h.1,zDt l kd (i+1) b c k h.2⟩
end
mutual
theorem zBz(ls:List Tm)(hls:∀a∈ls,xH P a):∀(t:Tm) (b:Int),xH P t->xH P (vQ ls t b)
 | .mk kd n l,b,h=>by
  rw[xH]at h
  rw[vQ]
  split
  ·split
   ·exact O6 _ 0 0 b (hls _ (List.getElem_mem _))
   ·exact bG (.inl rfl)
  ·rw[xH];exact⟨h.1,zDs ls hls l kd 0 b h.2⟩
theorem zDs(ls:List Tm)(hls:∀a∈ls,xH P a):∀(l:List Tm) (kd:Int) (i:Nat) (b:Int),vF P l->vF P (rN ls l kd i b)
 | [],_,_,_,_=>by rw[rN,vF];trivial
 |t::l,kd,i,b,h=>by
  rw[vF]at h
  rw[rN,vF]
  exact⟨zBz ls hls t _ h.1,zDs ls hls l kd (i+1) b h.2⟩
end
theorem mX:∀(l:List Tm) (f:Tm),P 5 0->xH P f->(∀a∈l,xH P a)->xH P (wJ f l)
 | [],f,_,hf,_=>by rw[wJ];exact hf
 |a::l,f,h5,hf,hl=>by
  rw[wJ]
  exact mX l _ h5 (zAZ (.inr h5) hf (hl a (by simp))) fun x hx=>hl x (by simp[hx])
theorem jR:∀t:Tm,xG t=true->xH P t->xH P (zN t)∧∀a∈yG t,xH P a:=by
 refine jG ?_ ?_
 ·intro t hg hk h
  rw[vH hk,tL hk]
  exact⟨h,fun x hx=>by cases hx⟩
 ·intro n a b hg ha hb ih h
  rw[qO,rB]
  rw[xH,vF,vF,vF]at h
  refine⟨(ih h.2.1).1,fun x hx=>?_⟩
  rcases List.mem_append.1 hx with hx|hx
  ·exact(ih h.2.1).2 x hx
  ·rw[List.mem_singleton.1 hx];exact h.2.2.1
theorem V8:∀(n:Nat) (t:Tm) (r:List Tm×Tm),xG t=true->kF n t=some r->xH P t->xH P r.2∧∀x∈r.1,xH P x
 |0,t,r,hg,h,ha=>by
  rw[kF]at h;cases h
  exact⟨ha,fun x hx=>by cases hx⟩
 |n+1,t,r,hg,h,ha=>by
  by_cases h3:t.k=3
  ·obtain⟨a,b,hx,hga,hgb⟩:=jL hg h3
   rw[hx]at h ha
   rw[O5]at h
   obtain⟨r',h1,rfl⟩:=Option.map_eq_some_iff.1 h
   rw[xH,vF,vF,vF]at ha
   have ih:=V8 n b r' hgb h1 ha.2.2.1
   refine⟨ih.1,fun x hx=>?_⟩
   rcases List.mem_cons.1 hx with rfl|hx
   ·exact ha.2.1
   ·exact ih.2 x hx
  ·rw[B8 h3]at h;cases h
end
mutual
theorem eL{P Q R:Int->Int->Prop}(h:∀k n,P k n->Q k n->R k n):∀t:Tm,xH P t->xH Q t->xH R t
 | .mk k n l,hp,hq=>by
  rw[xH]at hp hq ⊢
  refine⟨?_,V9 h l hp.2 hq.2⟩
  rcases hp.1 with h1|h1
  ·exact .inl h1
  ·rcases hq.1 with h2|h2
   ·exact .inl h2
   ·exact .inr (h k n h1 h2)
theorem V9{P Q R:Int->Int->Prop}(h:∀k n,P k n->Q k n->R k n):∀l:List Tm,vF P l->vF Q l->vF R l
 | [],_,_=>by rw[vF];trivial
 |t::l,hp,hq=>by
  rw[vF]at hp hq ⊢
  exact⟨eL h t hp.1 hq.1,V9 h l hp.2 hq.2⟩
end
theorem eM{P R:Int->Int->Prop}{t:Tm}(h:∀k n,P k n->R k n)(hp:xH P t):xH R t:=eL (fun k n a _=>h k n a) t hp hp
mutual
theorem kJ{a b:Int}{Q:Int->Prop}(ha:a≠1)(hb:b≠1):∀t:Tm,(∀x∈lK t a b,Q x)↔xH (fun k n=>k=a∨k=b->Q n) t
 | .mk k n l=>by
  have ih:=g9 (Q:=Q) ha hb l
  rw[lK,xH,←ih]
  constructor
  ·intro h
   refine⟨?_,fun x hx=>h x (List.mem_append_right _ hx)⟩
   by_cases h1:k=a∨k=b
   ·exact .inr fun _=>h n (by rw[if_pos h1];simp)
   ·exact .inr fun h2=>absurd h2 h1
  ·rintro ⟨h1,h2⟩ x hx
   rcases List.mem_append.1 hx with hx|hx
   ·by_cases h3:k=a∨k=b
    ·rw[if_pos h3,List.mem_singleton]at hx
     rcases h1 with h1|h1
     ·omega
     ·rw[hx];exact h1 h3
    ·rw[if_neg h3]at hx;cases hx
   ·exact h2 x hx
theorem g9{a b:Int}{Q:Int->Prop}(ha:a≠1)(hb:b≠1):∀l:List Tm,(∀x∈T7 l a b,Q x)↔vF (fun k n=>k=a∨k=b->Q n) l
 | []=>by rw[T7,vF];simp
 |t::l=>by
  rw[T7,vF,←kJ ha hb t,←g9 ha hb l]
  constructor
  ·intro h
   exact⟨fun x hx=>h x (List.mem_append_left _ hx),fun x hx=>h x (List.mem_append_right _ hx)⟩
  ·rintro ⟨h1,h2⟩ x hx
   rcases List.mem_append.1 hx with hx|hx
   ·exact h1 x hx
   ·exact h2 x hx
end
mutual
def tC:Tm->Int->List Int
 | .mk k n l,b=>if k=1 then(if b≤n then [n-b]else [])else w9 l k 0 b
def w9:List Tm->Int->Nat->Int->List Int
 | [],_,_,_=>[]
 |t::l,k,i,b=>tC t (xZ k i b)++w9 l k (i+1) b
end
theorem sF(k:Int)(i:Nat)(d x:Int):xZ k i (d+x)=xZ k i d+x:=by
 unfold xZ
 by_cases h:i=1∧k≠5
 ·rw[if_pos h,if_pos h];omega
 ·rw[if_neg h,if_neg h]
theorem eN(k:Int)(i:Nat)(d:Int):d≤xZ k i d:=by
 unfold xZ;split<;>omega
theorem rG{n b j:Int}{l:List Tm}:j∈tC (.mk 1 n l) b↔b≤n∧j=n-b:=by
 rw[tC,if_pos rfl]
 by_cases h:b≤n
 ·rw[if_pos h];simp[h]
 ·rw[if_neg h];simp[h]
theorem tM{k n b j:Int}{l:List Tm}(h:k≠1):j∈tC (.mk k n l) b↔j∈w9 l k 0 b:=by
 rw[tC,if_neg h]
theorem wO{t:Tm}{l:List Tm}{k b j:Int}{i:Nat}:j∈w9 (t::l) k i b↔j∈tC t (xZ k i b)∨j∈w9 l k (i+1) b:=by
 rw[w9,List.mem_append]
theorem pW{k b j:Int}{i:Nat}:¬j∈w9 [] k i b:=by
 rw[w9];simp
mutual
theorem W0:∀(t:Tm) (b j:Int),j∈tC t b->0≤j
 | .mk k n l,b,j,h=>by
  by_cases hk:k=1
  ·subst hk;have:=rG.1 h;omega
  ·exact zMM l k 0 b j ((tM hk).1 h)
theorem zMM:∀(l:List Tm) (k:Int) (i:Nat) (b j:Int),j∈w9 l k i b->0≤j
 | [],k,i,b,j,h=>absurd h pW
 |t::l,k,i,b,j,h=>(wO.1 h).elim (W0 t _ j) (zMM l k (i+1) b j)
end
mutual
theorem qV:∀(t:Tm) (d b j:Int),0≤b->(j∈tC t (d+b)↔0≤j∧j+b∈tC t d)
 | .mk k n l,d,b,j,hb=>by
  by_cases hk:k=1
  ·subst hk;rw[rG,rG];omega
  ·rw[tM hk,tM hk];exact d7 l k 0 d b j hb
theorem d7:∀(l:List Tm) (k:Int) (i:Nat) (d b j:Int),0≤b->(j∈w9 l k i (d+b)↔0≤j∧j+b∈w9 l k i d)
 | [],k,i,d,b,j,hb=>⟨fun h=>absurd h pW,fun h=>absurd h.2 pW⟩
 |t::l,k,i,d,b,j,hb=>by
  rw[wO,wO,sF,qV t _ b j hb,d7 l k (i+1) d b j hb]
  constructor
  ·rintro (h|h)
   ·exact⟨h.1,.inl h.2⟩
   ·exact⟨h.1,.inr h.2⟩
  ·rintro ⟨h,h1|h1⟩
   ·exact .inl ⟨h,h1⟩
   ·exact .inr ⟨h,h1⟩
end
mutual
theorem zSk:∀(t:Tm) (b c k j:Int),0≤k->j∈tC (vS t b c k) b->∃i∈tC t b,j=if i<c then i else i+k
 | .mk kd n l,b,c,k,j,hk,h=>by
  rw[vS]at h
  by_cases h1:kd=1
  ·subst h1
   rw[if_pos rfl]at h
   have h2:=rG.1 h
   by_cases h3:b≤n
   ·rw[if_pos h3]at h2
    exact⟨n-b,rG.2 ⟨h3,rfl⟩,by omega⟩
   ·rw[if_neg h3]at h2;omega
  ·rw[if_neg h1]at h
   obtain⟨i,hi,e⟩:=zMN l kd 0 b c k j hk ((tM h1).1 h)
   exact⟨i,(tM h1).2 hi,e⟩
theorem zMN:∀(l:List Tm) (kd:Int) (i:Nat) (b c k j:Int),0≤k->j∈w9 (sC l kd i b c k) kd i b->∃x∈w9 l kd i b,j=if x<c then x else x+k
 | [],kd,i,b,c,k,j,hk,h=>by rw[sC]at h;exact absurd h pW
 |t::l,kd,i,b,c,k,j,hk,h=>by
  rw[sC]at h
  rcases wO.1 h with h|h
  ·obtain⟨x,hx,e⟩:=zSk t _ c k j hk h
   exact⟨x,wO.2 (.inl hx),e⟩
  ·obtain⟨x,hx,e⟩:=zMN l kd (i+1) b c k j hk h
   exact⟨x,wO.2 (.inr hx),e⟩
end
mutual
theorem zHx:∀(t:Tm) (d k j:Int),0≤k->j∈tC (vS t d 0 k) (d+k)->j∈tC t d
 | .mk kd n l,d,k,j,hk,h=>by
  rw[vS]at h
  by_cases h1:kd=1
  ·subst h1
   rw[if_pos rfl]at h
   have h2:=rG.1 h
   by_cases h3:d≤n
   ·rw[if_pos h3,if_neg (by omega)]at h2
    exact rG.2 ⟨h3,by omega⟩
   ·rw[if_neg h3]at h2;omega
  ·rw[if_neg h1]at h
   exact(tM h1).2 (zMO l kd 0 d k j hk ((tM h1).1 h))
theorem zMO:∀(l:List Tm) (kd:Int) (i:Nat) (d k j:Int),0≤k->j∈w9 (sC l kd i d 0 k) kd i (d+k)->j∈w9 l kd i d
 | [],kd,i,d,k,j,hk,h=>by rw[sC]at h;exact absurd h pW
 |t::l,kd,i,d,k,j,hk,h=>by
  rw[sC]at h
  rcases wO.1 h with h|h
  ·rw[sF]at h
   exact wO.2 (.inl (zHx t _ k j hk h))
  ·exact wO.2 (.inr (zMO l kd (i+1) d k j hk h))
end
mutual
theorem zMP(ls:List Tm):∀(t:Tm) (b j:Int),0≤b->j∈tC (vQ ls t b) b->∃i∈tC t b,((ls.length:Int)≤i∧j=i-ls.length)∨∃h:i.toNat<ls.length,j∈tC ls[i.toNat] 0
 | .mk kd n l,b,j,hb,h=>by
  rw[vQ]at h
  by_cases h1:kd=1∧b≤n
  ·rw[if_pos h1]at h
   obtain⟨rfl,h1⟩:=h1
   refine⟨n-b,rG.2 ⟨h1,rfl⟩,?_⟩
   by_cases h2:(n-b).toNat<ls.length
   ·rw[dif_pos h2]at h
    exact .inr ⟨h2,zHx _ 0 b j hb (by rwa[Int.zero_add])⟩
   ·rw[dif_neg h2]at h
    have:=rG.1 h
    exact .inl (by omega)
  ·rw[if_neg h1]at h
   by_cases h2:kd=1
   ·subst h2
    have:=rG.1 h
    exact absurd ⟨rfl,this.1⟩ h1
   ·obtain⟨i,hi,e⟩:=zMQ ls l kd 0 b j hb ((tM h2).1 h)
    exact⟨i,(tM h2).2 hi,e⟩
theorem zMQ(ls:List Tm):∀(l:List Tm) (kd:Int) (i:Nat) (b j:Int),0≤b->j∈w9 (rN ls l kd i b) kd i b->∃x∈w9 l kd i b,((ls.length:Int)≤x∧j=x-ls.length)∨∃h:x.toNat<ls.length,j∈tC ls[x.toNat] 0
 | [],kd,i,b,j,hb,h=>by rw[rN]at h;exact absurd h pW
 |t::l,kd,i,b,j,hb,h=>by
  rw[rN]at h
  rcases wO.1 h with h|h
  ·obtain⟨x,hx,e⟩:=zMP ls t _ j (by have:=eN kd i b;omega) h
   exact⟨x,wO.2 (.inl hx),e⟩
  ·obtain⟨x,hx,e⟩:=zMQ ls l kd (i+1) b j hb h
   exact⟨x,wO.2 (.inr hx),e⟩
end
theorem zMR{k n:Int}{a b:Tm}{d j:Int}(hk:k≠1):j∈tC (.mk k n [a,b]) d↔j∈tC a d∨j∈tC b (xZ k 1 d):=by
 rw[tM hk,wO,wO]
 have e:xZ k 0 d=d:=by unfold xZ;simp
 rw[e]
 exact⟨fun h=>h.elim .inl fun h=>h.elim .inr fun h=>absurd h pW,fun h=>h.elim .inl fun h=>.inr (.inl h)⟩
theorem I6{n:Int}{a b:Tm}{d j:Int}:j∈tC (.mk 5 n [a,b]) d↔j∈tC a d∨j∈tC b d:=by
 rw[zMR (by decide)]
 have e:xZ 5 1 d=d:=by unfold xZ;simp
 rw[e]
theorem zMS{n:Int}{a b:Tm}{d j:Int}:j∈tC (.mk 3 n [a,b]) d↔j∈tC a d∨j∈tC b (d+1):=by
 rw[zMR (by decide)]
 have e:xZ 3 1 d=d+1:=by unfold xZ;simp
 rw[e]
theorem zMT{n:Int}{a b:Tm}{d j:Int}:j∈tC (.mk 4 n [a,b]) d↔j∈tC a d∨j∈tC b (d+1):=by
 rw[zMR (by decide)]
 have e:xZ 4 1 d=d+1:=by unfold xZ;simp
 rw[e]
theorem zHw{k n d j:Int}(hk:k≠1):¬j∈tC (.mk k n []) d:=by
 rw[tM hk];exact pW
theorem zWH{k n m d j:Int}(hk:k≠1):¬j∈tC (.mk k n [.mk 2 m []]) d:=by
 rw[tM hk,wO]
 exact fun h=>h.elim (zHw (by decide)) pW
theorem W1:∀(l:List Tm) (f:Tm) (d j:Int),j∈tC (wJ f l) d↔j∈tC f d∨∃a∈l,j∈tC a d
 | [],f,d,j=>by rw[wJ];simp
 |a::l,f,d,j=>by
  rw[wJ,W1 l,I6]
  simp[or_assoc]
theorem C7:∀t:Tm,xG t=true->∀d j,(j∈tC (zN t) d->j∈tC t d)∧∀a∈yG t,j∈tC a d->j∈tC t d:=by
 refine jG ?_ ?_
 ·intro t hg hk d j
  rw[vH hk,tL hk]
  exact⟨id,fun x hx=>by cases hx⟩
 ·intro n a b hg ha hb ih d j
  rw[qO,rB]
  refine⟨fun h=>I6.2 (.inl ((ih d j).1 h)),fun x hx h=>?_⟩
  rcases List.mem_append.1 hx with hx|hx
  ·exact I6.2 (.inl ((ih d j).2 x hx h))
  ·rw[List.mem_singleton.1 hx]at h
   exact I6.2 (.inr h)
theorem zBy:∀(n:Nat) (t:Tm) (r:List Tm×Tm),xG t=true->kF n t=some r->∀d j,(j∈tC r.2 (d+n)->j∈tC t d)∧∀(i:Nat) (h:i<r.1.length),j∈tC r.1[i] (d+i)->j∈tC t d
 |0,t,r,hg,h,d,j=>by
  rw[kF]at h;cases h
  exact⟨fun h=>by simpa using h,fun i h=>by simp at h⟩
 |n+1,t,r,hg,h,d,j=>by
  by_cases h3:t.k=3
  ·obtain⟨a,b,hx,hga,hgb⟩:=jL hg h3
   rw[hx]at h ⊢
   rw[O5]at h
   obtain⟨r',h1,rfl⟩:=Option.map_eq_some_iff.1 h
   have ih:=zBy n b r' hgb h1 (d+1) j
   refine⟨fun h=>zMS.2 (.inr (ih.1 ?_)),fun i h hj=>?_⟩
   ·rwa[show d+1+(n:Int)=d+((n+1:Nat):Int) by omega]
   ·cases i with
    |zero=>exact zMS.2 (.inl (by simpa using hj))
    |succ i=>
     refine zMS.2 (.inr (ih.2 i (by simpa using h) ?_))
     rw[show d+1+(i:Int)=d+((i+1:Nat):Int) by omega]
     simpa using hj
  ·rw[B8 h3]at h;cases h
theorem zMU{k:Int}{i:Nat}{b:Int}(h:k=3∨k=4∨k=5∨i=0):xZ k i b=b+N1 k i:=by
 unfold xZ N1
 rcases h with h|h|h|h
 ·subst h;by_cases hi:i=1<;>simp[hi]
 ·subst h;by_cases hi:i=1<;>simp[hi]
 ·subst h;simp
 ·subst h;simp
mutual
theorem zFl:∀(t:Tm) (b j:Int),xG t=true->j∈tC t b->j<cP t b
 | .mk k n l,b,j,hg,h=>by
  rw[cP]
  by_cases hk:k=1
  ·subst hk;rw[if_pos rfl];have:=rG.1 h;omega
  ·rw[if_neg hk]
   have hh:=xV hg
   have hs:=wQ hh.1
   refine zHv l k 0 b j hh.2 ?_ ((tM hk).1 h)
   have e1:k=3∨k=4∨k=5∨l.length≤1:=by
    by_cases h7:k=7
    ·obtain⟨x,hx,-⟩:=hs.2.2.2.2.2.2.1 h7
     have hx':l=[x]:=hx
     rw[hx'];simp
    ·by_cases h1:k=1∨k=2∨k=6∨k=8
     ·have hx:=hs.2.2.2.2.2.2.2.1 h1
      have hx':l=[]:=hx
      rw[hx'];simp
     ·have a1:1≤k:=hs.1
      have a2:k≤8:=hs.2.1
      omega
   omega
theorem zHv:∀(l:List Tm) (k:Int) (i:Nat) (b j:Int),qF l=true->(k=3∨k=4∨k=5∨i+l.length≤1)->j∈w9 l k i b->j<dB l k i b
 | [],k,i,b,j,hg,hl,h=>absurd h pW
 |t::l,k,i,b,j,hg,hl,h=>by
  rw[dB]
  have hc:=wC hg
  rw[List.length_cons]at hl
  rcases wO.1 h with h|h
  ·rw[zMU (by omega)]at h
   have:=zFl t _ j hc.1 h
   omega
  ·have:=zHv l k (i+1) b j hc.2 (by omega) h
   omega
end
theorem I7{t:Tm}{n:Int}(h:uV t n=true)(d j:Int)(hd:0≤d):¬j∈tC t d:=by
 intro hj
 have hs:=zI (sL h)
 have h0:j+d∈tC t 0:=((qV t 0 d j hd).1 (by rwa[Int.zero_add])).2
 have h1:=zFl t 0 _ hs.2.2 h0
 have h2:=W0 t d j hj
 unfold uV rV at h
 simp only[Bool.and_eq_true,decide_eq_true_eq]at h
 omega
theorem C8{t:Tm}{n:Int}(h:uV t n=true):xH (fun k x=>(k=6∨k=7->x<n)∧k≠8) t:=by
 have h6:xH (fun k x=>k=6∨k=7->x<n) t:=by
  refine(kJ (by decide) (by decide) t).1 ?_
  unfold uV rV at h
  simp only[Bool.and_eq_true,List.all_eq_true,decide_eq_true_eq]at h
  exact h.1.2
 have h8:xH (fun k x=>k=8∨k=8->False) t:=by
  refine(kJ (Q:=fun _=>False) (by decide) (by decide) t).1 ?_
  unfold uV at h
  simp only[Bool.and_eq_true,List.isEmpty_iff]at h
  rw[h.2]
  exact fun x hx=>by cases hx
 exact eL (fun k n a b=>⟨a,fun h=>b (.inl h)⟩) t h6 h8
def zFk(qq:Nat)(p0:yU)(p1 p2:Int):Option Bool:=
 if decide (p1≥0)then
 if decide (p1<(p0.length:Int))then
 zR p0 p1>>=fun x3=>
 some (x3.kind==p2)
 else
 some false
 else
 some false
theorem zTV:Qf 183 f183:=⟨func183,rfl⟩
theorem zJL{qq p0 p1 p2 r}(h:zFk qq p0 p1 p2=some r):Ct 183 [] [zO yZ p0 .no,ai p1,ai p2] (ab r) [] 0:=⟨by
 unfold zFk at h
 obtain⟨h1,h⟩|⟨h1,h⟩:=zL h
 have k:=oB 0 h1 o0
 obtain⟨h2,h⟩|⟨h2,h⟩:=zL h
 obtain⟨x3,h4,h⟩:=zB h
 cases h
 exact tF zTV 2 [] (oA 0 (wM (o:=.no) h4)<|oB 1 h2 k)
 cases h
 exact tF zTV 0 [] (oB 1 h2 k)
 cases h
 exact tF zTV 0 [] (oB 0 h1 o0),⟨⟨tv,dE _⟩,tv,tv,tv⟩,zA,tv,zA⟩
def jS:Nat->zQ->Int->Option Bool
 |0,_,_=>none
 |qq+1,p0,v7=>
 if decide (v7<(p0.length:Int))then
 zR p0 v7>>=fun x2=>
 G3 qq x2>>=fun r4=>
 if r4 then
 jS qq p0 (xL (v7+1))
 else
 some false
 else
 some true
def zFj(qq:Nat)(p0:zQ):Option Bool:=
 jS qq p0 0
theorem zQC:∀qq:Nat,(∀ {p0 v7 r},jS qq p0 v7=some r->(∀j,dL 0 (pt 949 f184) (sp j 15 0 [(5,zO zD p0 .no),(6,ai (p0.length:Int)),(7,ai v7)]) (⟨[],0,[],0,[]⟩) (fQ 0 (nQ 0 f184 (ab r) [] 0) [.blk 0,.seq (pt 15 f184)]))):=by
 intro qq
 induction qq with
 |zero=>
  exact fun h=>nn h
 |succ qq ih=>
  intro p0 v7 r h
  rw[jS]at h
  obtain⟨h1,h⟩|⟨h1,h⟩:=zL h
  obtain⟨x2,h3,h⟩:=zB h
  obtain⟨r4,h5,h⟩:=zB h
  have k:=oA 0 (wN (o:=.no) h3)<|oB 0 h1 o0
  obtain⟨h6,h⟩|⟨h6,h⟩:=zL h
  exact fun j=>lH 2 [] [] [] [5,6,7] (oD (dT p0)<|oK 3 [] h6 (mO h5) k) (ih h)
  cases h
  exact fun j=>lF 1 [] (oK 3 [] h6 (mO h5) k)
  cases h
  exact fun j=>lF 0 [] (oB 0 h1 o0)
theorem zJM{qq p0 r}(h:zFj qq p0=some r):Ct 184 [] [zO zD p0 .no] (ab r) [] 0:=⟨by
 unfold zFj at h
 exact tH ⟨func184,rfl⟩ 1 [] [] [] [5,6,7] (oD (dT p0) o0) (zQC _ h),⟨⟨tv,dT _⟩,tv⟩,zA,tv,zA⟩
def zMV(qq:Nat)(q0_e:Int)(p1:zQ)(p2:Int):Option (zQ×Int):=
 if q0_e==0 then
 some (p1,p2)
 else
 some (p1,q0_e)
theorem zWI:Qf 198 f198:=⟨func198,rfl⟩
theorem zYN{qq q0_e p1 p2 r}(h:zMV qq q0_e p1 p2=some r):Ct 198 [.cells [ai q0_e]] [.mp 0 0,zO zD p1 .no,ai p2] (.sl (flat zD r.1) r.1.length .no) [.cells [ai r.2]] 0:=⟨by
 unfold zMV at h
 obtain⟨h1,h⟩|⟨h1,h⟩:=zL h
 cases h
 exact tF zWI 1 [0] (oD (dT p1)<|oB 1 h1 o0)
 cases h
 exact tF zWI 0 [0] (oD (dT p1)<|oB 1 h1 o0),⟨(lz rfl),⟨tv,dT _⟩,tv,tv⟩,(zC ⟨tv,tv⟩ zA),dT _,(zC ⟨tv,tv⟩ zA)⟩
def jT:Nat->zQ->Int->Int->Int->zQ->Option (zQ×Int)
 |0,_,_,_,_,_=>none
 |qq+1,p0,p1,p2,v15,v8=>
 if decide (v15<(p0.length:Int))then
 zR p0 v15>>=fun x2=>
 zJj qq x2 p1 p2>>=fun r4=>
 if r4.2 != 0 then
 some ([],r4.2)
 else
 xQ 40 v8 [r4.1]>>=fun l7=>
 jT qq p0 p1 p2 (xL (v15+1)) l7
 else
 some (v8,0)
def zMW(qq:Nat)(p0:zQ)(p1 p2:Int):Option (zQ×Int):=
 jT qq p0 p1 p2 0 []
theorem zQD:∀qq:Nat,(∀ {p0 p1 p2 v15 v8 r},jT qq p0 p1 p2 v15 v8=some r->(∀j,dL 0 (pt 4021 f199) (sp j 35 0 [(1,ai p1),(2,ai p2),(8,zO zD v8 (.st 0 3)),(13,zO zD p0 .no),(14,ai (p0.length:Int)),(15,ai v15)]) (⟨[],0,[0],1,[]⟩) (fQ 0 (nQ 0 f199 (.tup [.sl (flat zD r.1) r.1.length .no,ai r.2]) [] 0) [.blk 0,.seq (pt 63 f199)]))):=by
 intro qq
 induction qq with
 |zero=>
  exact fun h=>nn h
 |succ qq ih=>
  intro p0 p1 p2 v15 v8 r h
  rw[jT]at h
  obtain⟨h1,h⟩|⟨h1,h⟩:=zL h
  obtain⟨x2,h3,h⟩:=zB h
  obtain⟨r4,h5,h⟩:=zB h
  have k:=oC 3 [] (zWn h5)<|oA 0 (wN (o:=.no) h3)<|oB 0 h1 o0
  obtain⟨h6,h⟩|⟨h6,h⟩:=zL h
  cases h
  exact fun j=>lF 0 [] (oD (dT ([]:zQ))<|oB 3 h6 k)
  obtain⟨l7,h8,h⟩:=zB h
  exact fun j=>lH 1 [] [] [1] [1,2,8,13,14,15] (oD (dT p0)<|oD (dT l7)<|oP 0 (sE h8 (by simp))<|oS 1 (xJ xM [r4.1])<|oB 3 h6 k) (ih h)
  cases h
  exact fun j=>lF 0 [] (oD (dT v8)<|oB 0 h1 o0)
theorem zYO{qq p0 p1 p2 r}(h:zMW qq p0 p1 p2=some r):Ct 199 [] [zO zD p0 .no,ai p1,ai p2] (.tup [.sl (flat zD r.1) r.1.length .no,ai r.2]) [] 0:=⟨by
 unfold zMW at h
 exact tH ⟨func199,rfl⟩ 1 [(none,8,3)] [] [0] [1,2,8,13,14,15] (oD (dT p0)<|oD (dT ([]:zQ)) o0) (zQD _ h),⟨⟨tv,dT _⟩,tv,tv,tv⟩,zA,⟨dT _,tv,tv⟩,zA⟩
def zJN(qq:Nat)(q0_e:Int)(p1:zQ)(p2:Int):Option (zQ×Int):=
 zMW qq p1 p2 0>>=fun r1=>
 zMV qq q0_e r1.1 r1.2>>=fun r3=>
 some (r3.1,r3.2)
theorem zWJ{qq q0_e p1 p2 r}(h:zJN qq q0_e p1 p2=some r):Ct 190 [.cells [ai q0_e]] [.mp 0 0,zO zD p1 .no,ai p2] (.sl (flat zD r.1) r.1.length .no) [.cells [ai r.2]] 0:=⟨by
 unfold zJN at h
 obtain⟨r1,h2,h⟩:=zB h
 obtain⟨r3,h4,h⟩:=zB h
 cases h
 exact tF ⟨func190,rfl⟩ 0 [0] (oD (dT r3.1)<|oC 2 [0] (zYN h4)<|oC 0 [] (zYO h2) o0),⟨(lz rfl),⟨tv,dT _⟩,tv,tv⟩,(zC ⟨tv,tv⟩ zA),dT _,(zC ⟨tv,tv⟩ zA)⟩
def zFi(qq:Nat)(q0_e:Int)(p1:Tm)(p2:Int):Option (Tm×Int):=
 if q0_e==0 then
 some (p1,p2)
 else
 some (p1,q0_e)
theorem zWK:Qf 194 f194:=⟨func194,rfl⟩
theorem zTW{qq q0_e p1 p2 r}(h:zFi qq q0_e p1 p2=some r):Ct 194 [.cells [ai q0_e]] [.mp 0 0,xF p1,ai p2] (xF r.1) [.cells [ai r.2]] 0:=⟨by
 unfold zFi at h
 obtain⟨h1,h⟩|⟨h1,h⟩:=zL h
 cases h
 exact tF zWK 3 [0] (oD (dT p1.sub)<|oB 1 h1 o0)
 cases h
 exact tF zWK 2 [0] (oD (dT p1.sub)<|oB 1 h1 o0),⟨(lz rfl),⟨tv,tv,⟨tv,dT _⟩,tv⟩,tv,tv⟩,(zC ⟨tv,tv⟩ zA),⟨tv,tv,dT _,tv⟩,(zC ⟨tv,tv⟩ zA)⟩
def jU:Nat->Tm->(zQ×Int)->Int->zQ->Option (Tm×Int)
 |0,_,_,_,_=>none
 |qq+1,p1,r6,v12,v9=>
 if decide (v12≥0)then
 zR r6.1 v12>>=fun x9=>
 xQ 40 v9 [x9]>>=fun l11=>
 jU qq p1 r6 (xL (v12-1)) l11
 else
 e51 qq p1 v9>>=fun r13=>
 zFi qq r6.2 r13.1 r13.2>>=fun r15=>
 some (r15.1,r15.2)
def jV:Nat->Int->Tm->Int->zQ->Int->zQ->Option (Tm×Int)
 |0,_,_,_,_,_,_=>none
 |qq+1,q0_e,p1,p2,p3,v14,v9=>
 if decide (v14<p2)then
 e86 qq v14>>=fun r2=>
 xQ 40 v9 [r2]>>=fun l4=>
 jV qq q0_e p1 p2 p3 (xL (v14+1)) l4
 else
 zJN qq q0_e p3 p2>>=fun r6=>
 jU qq p1 r6 (xL ((r6.1.length:Int)-1)) v9
def zJO(qq:Nat)(q0_e:Int)(p1:Tm)(p2:Int)(p3:zQ):Option (Tm×Int):=
 jV qq q0_e p1 p2 p3 0 []
theorem zQE:∀qq:Nat,(∀ {p1 r6 v12 v9 r},jU qq p1 r6 v12 v9=some r->(∀j,dL 1 (pt 65461 f191) (sp j 48 0 [(0,.mp 0 0),(5,.mp 1 0),(8,.mp 2 0),(9,zO zD v9 (.st 0 3)),(11,zO zD r6.1 .no),(12,ai v12)]) (⟨[(0,.cells [ai r6.2]),(1,.cells [ai p1.k,ai p1.n,zO zD p1.sub .no]),(2,.cells [ai 0,ai 0,zO zD ([]:zQ) .nl])],3,[0],1,[]⟩) (fQ 1 (nQ 1 f191 (xF r.1) [.cells [ai r.2]] 0) [.blk 2,.seq (pt 1023 f191)]))):=by
 intro qq
 induction qq with
 |zero=>
  exact fun h=>nn h
 |succ qq ih=>
  intro p1 r6 v12 v9 r h
  rw[jU]at h
  obtain⟨h8,h⟩|⟨h8,h⟩:=zL h
  obtain⟨x9,h10,h⟩:=zB h
  obtain⟨l11,h12,h⟩:=zB h
  exact fun j=>lH 1 [] [0,1,2] [1] [0,5,8,9,11,12] (oD (dT r6.1)<|oD (dT l11)<|oD (dT ([]:zQ))<|oD (dT p1.sub)<|oP 0 (sE h12 (by simp))<|oS 1 (xJ xM [x9])<|oA 0 (wN (o:=.no) h10)<|oB 0 h8 o0) (ih h)
  obtain⟨r13,h14,h⟩:=zB h
  obtain⟨r15,h16,h⟩:=zB h
  cases h
  exact fun j=>lF 1 [0] (oD (dT r15.1.sub)<|oC 2 [0] (zTW h16)<|oC 1 [] (c51 h14)<|oB 0 h8 o0)
theorem zQF:∀qq:Nat,(∀ {q0_e p1 p2 p3 v14 v9 r},jV qq q0_e p1 p2 p3 v14 v9=some r->(∀j,dL 1 (pt 4021 f191) (sp j 48 0 [(0,.mp 0 0),(2,ai p2),(3,zO zD p3 .no),(5,.mp 1 0),(8,.mp 2 0),(9,zO zD v9 (.st 0 3)),(13,ai p2),(14,ai v14)]) (⟨[(0,.cells [ai q0_e]),(1,.cells [ai p1.k,ai p1.n,zO zD p1.sub .no]),(2,.cells [ai 0,ai 0,zO zD ([]:zQ) .nl])],3,[0],1,[]⟩) (fQ 1 (nQ 1 f191 (xF r.1) [.cells [ai r.2]] 0) [.blk 0,.seq (pt 63 f191)]))):=by
 intro qq
 induction qq with
 |zero=>
  exact fun h=>nn h
 |succ qq ih=>
  intro q0_e p1 p2 p3 v14 v9 r h
  rw[jV]at h
  obtain⟨h1,h⟩|⟨h1,h⟩:=zL h
  obtain⟨r2,h3,h⟩:=zB h
  obtain⟨l4,h5,h⟩:=zB h
  exact fun j=>lH 1 [] [0,1,2] [1] [0,2,3,5,8,9,13,14] (oD (dT l4)<|oD (dT p3)<|oD (dT ([]:zQ))<|oD (dT p1.sub)<|oP 0 (sE h5 (by simp))<|oS 0 (xJ xM [r2])<|oC 0 [] (c86 h3)<|oB 0 h1 o0) (ih h)
  obtain⟨r6,h7,h⟩:=zB h
  exact fun j=>lH 2 [] [0,1,2] [0] [0,5,8,9,11,12] (oD (dT r6.1)<|oD (dT v9)<|oD (dT ([]:zQ))<|oD (dT p1.sub)<|oC 0 [0] (zWJ h7)<|oB 0 h1 o0) (zQE _ h)
theorem zWL{qq q0_e p1 p2 p3 r}(h:zJO qq q0_e p1 p2 p3=some r):Ct 191 [.cells [ai q0_e]] [.mp 0 0,xF p1,ai p2,zO zD p3 .no] (xF r.1) [.cells [ai r.2]] 0:=⟨by
 unfold zJO at h
 exact tH ⟨func191,rfl⟩ 0 [(none,9,3)] [0,1,2] [0] [0,2,3,5,8,9,13,14] (oD (dT ([]:zQ))<|oD (dT p3)<|oD (dT ([]:zQ))<|oD (dT p1.sub) o0) (zQF _ h),⟨(lz rfl),⟨tv,tv,⟨tv,dT _⟩,tv⟩,tv,⟨tv,dT _⟩,tv⟩,(zC ⟨tv,tv⟩ zA),⟨tv,tv,dT _,tv⟩,(zC ⟨tv,tv⟩ zA)⟩
def zMX(qq:Nat)(q0_e:Int)(p1:Tm)(p2:Int):Option (Tm×Int):=
 zEY qq p1 p2>>=fun r1=>
 zFi qq q0_e r1.1 r1.2>>=fun r3=>
 some (r3.1,r3.2)
theorem zYP{qq q0_e p1 p2 r}(h:zMX qq q0_e p1 p2=some r):Ct 192 [.cells [ai q0_e]] [.mp 0 0,xF p1,ai p2] (xF r.1) [.cells [ai r.2]] 0:=⟨by
 unfold zMX at h
 obtain⟨r1,h2,h⟩:=zB h
 obtain⟨r3,h4,h⟩:=zB h
 cases h
 exact tF ⟨func192,rfl⟩ 1 [0] (oD (dT r3.1.sub)<|oC 2 [0] (zTW h4)<|oC 1 [] (zTf h2) o0),⟨(lz rfl),⟨tv,tv,⟨tv,dT _⟩,tv⟩,tv,tv⟩,(zC ⟨tv,tv⟩ zA),⟨tv,tv,dT _,tv⟩,(zC ⟨tv,tv⟩ zA)⟩
def jW:Nat->zQ->Int->Option zQ
 |0,_,_=>none
 |qq+1,v3,v4=>
 if decide (v4≥0)then
 e86 qq v4>>=fun r4=>
 xQ 40 v3 [r4]>>=fun l6=>
 jW qq l6 (xL (v4-1))
 else
 some v3
def zMY(qq:Nat)(p0:Int):Option zQ:=
 if decide (p0<0)then
 some []
 else
 if decide (p0>1048576)then
 some []
 else
 jW qq [] (xL (p0-1))
theorem zTX:Qf 193 f193:=⟨func193,rfl⟩
theorem zQG:∀qq:Nat,(∀ {v3 v4 r},jW qq v3 v4=some r->(∀j,dL 0 (pt 16309 f193) (sp j 23 0 [(3,zO zD v3 (.st 0 3)),(4,ai v4)]) (⟨[],0,[0],1,[]⟩) (fQ 0 (nQ 0 f193 (.sl (flat zD r) r.length .no) [] 0) [.blk 0,.seq (pt 255 f193)]))):=by
 intro qq
 induction qq with
 |zero=>
  exact fun h=>nn h
 |succ qq ih=>
  intro v3 v4 r h
  rw[jW]at h
  obtain⟨h3,h⟩|⟨h3,h⟩:=zL h
  obtain⟨r4,h5,h⟩:=zB h
  obtain⟨l6,h7,h⟩:=zB h
  exact fun j=>lH 1 [] [] [1] [3,4] (oD (dT l6)<|oP 0 (sE h7 (by simp))<|oS 0 (xJ xM [r4])<|oC 0 [] (c86 h5)<|oB 0 h3 o0) (ih h)
  obtain rfl:=sj h
  exact fun j=>lF 0 [] (oD (dT v3)<|oB 0 h3 o0)
theorem zYQ{qq p0 r}(h:zMY qq p0=some r):Ct 193 [] [ai p0] (.sl (flat zD r) r.length .no) [] 0:=⟨by
 unfold zMY at h
 obtain⟨h1,h⟩|⟨h1,h⟩:=zL h
 obtain rfl:=sj h
 exact tF zTX 0 [] (oD (dT ([]:zQ))<|oB 0 h1 o0)
 have k:=oB 0 h1 o0
 obtain⟨h2,h⟩|⟨h2,h⟩:=zL h
 obtain rfl:=sj h
 exact tF zTX 0 [] (oD (dT ([]:zQ))<|oB 0 h2 k)
 exact tH zTX 1 [(none,3,3)] [] [0] [3,4] (oD (dT ([]:zQ))<|oB 0 h2 k) (zQG _ h),⟨tv,tv⟩,zA,dT _,zA⟩
def zTY(qq:Nat)(p0 p1:Tm):Option Tm:=
 zCQ qq 4 0 [p0,p1]>>=fun r1=>
 some r1
theorem zYR{qq p0 p1 r}(h:zTY qq p0 p1=some r):Ct 201 [] [xF p0,xF p1] (xF r) [] 0:=⟨by
 unfold zTY at h
 obtain⟨r1,h2,h⟩:=zB h
 obtain rfl:=sj h
 exact tF ⟨func201,rfl⟩ 1 [] (oD (dT r1.sub)<|oC 0 [] (zJl h2)<|oS 2 (xJ xM [p0,p1]) o0),⟨⟨tv,tv,⟨tv,dT _⟩,tv⟩,⟨tv,tv,⟨tv,dT _⟩,tv⟩,tv⟩,zA,⟨tv,tv,dT _,tv⟩,zA⟩
def sS:Nat->zQ->Int->Int->Int->zQ->Option (Tm×Int)
 |0,_,_,_,_,_=>none
 |qq+1,p0,v32,yB,vO,xC=>
 if decide (v32<(p0.length:Int))then
 zR p0 (xL ((xL ((p0.length:Int)-1))-v32))>>=fun x12=>
 zTY qq x12 (Tm.mk yB vO xC)>>=fun r14=>
 sS qq p0 (xL (v32+1)) r14.k r14.n r14.sub
 else
 G3 qq (Tm.mk yB vO xC)>>=fun r16=>
 if r16 then
 e26 qq (Tm.mk yB vO xC)>>=fun r19=>
 some (r19,0)
 else
 some ((Tm.mk 0 0 []),2)
def sT:Nat->zQ->Tm->Int->Option (Tm×Int)
 |0,_,_,_=>none
 |qq+1,p0,p1,v17=>
 if decide (v17<(p0.length:Int))then
 zR p0 v17>>=fun x3=>
 G3 qq x3>>=fun r5=>
 if r5 then
 sT qq p0 p1 (xL (v17+1))
 else
 some ((Tm.mk 0 0 []),5)
 else
 G3 qq p1>>=fun r8=>
 if r8 then
 sS qq p0 0 p1.k p1.n p1.sub
 else
 some ((Tm.mk 0 0 []),5)
def C9(qq:Nat)(p0:zQ)(p1:Tm):Option (Tm×Int):=
 if decide ((p0.length:Int)>24)then
 some ((Tm.mk 0 0 []),2)
 else
 sT qq p0 p1 0
theorem zDr:Qf 200 f200:=⟨func200,rfl⟩
theorem zDq:∀qq:Nat,(∀ {p0 v32 yB vO xC r},sS qq p0 v32 yB vO xC=some r->(∀j,dL 0 (pt 65461 f200) (sp j 53 0 [(0,zO zD p0 .no),(2,.clo 201 [] []),(4,.mp 0 0),(6,.mp 1 0),(31,ai (p0.length:Int)),(32,ai v32)]) (⟨[(0,.cells [ai yB,ai vO,zO zD xC .no]),(1,.cells [ai 0,ai 0,zO zD ([]:zQ) .nl])],2,[],0,[]⟩) (fQ 0 (nQ 0 f200 (.tup [xF r.1,ai r.2]) [] 0) [.blk 2,.seq (pt 1023 f200)]))):=by
 intro qq
 induction qq with
 |zero=>
  exact fun h=>nn h
 |succ qq ih=>
  intro p0 v32 yB vO xC r h
  rw[sS]at h
  obtain⟨h11,h⟩|⟨h11,h⟩:=zL h
  obtain⟨x12,h13,h⟩:=zB h
  obtain⟨r14,h15,h⟩:=zB h
  exact fun j=>lH 2 [] [0,1] [] [0,2,4,6,31,32] (oD (dT p0)<|oD (dT ([]:zQ))<|oD (dT r14.sub)<|oC 2 [] (zYR h15)<|oA 3 (wN (o:=.no) h13)<|oB 0 h11 o0) (ih h)
  obtain⟨r16,h17,h⟩:=zB h
  have k:=oB 0 h11 o0
  obtain⟨h18,h⟩|⟨h18,h⟩:=zL h
  obtain⟨r19,h20,h⟩:=zB h
  cases h
  exact fun j=>lF 1 [] (oD (dT r19.sub)<|oC 2 [] (c26 h20)<|oK 1 [] h18 (mO h17) k)
  cases h
  exact fun j=>lF 2 [] (oD (dT ([]:zQ))<|oK 1 [] h18 (mO h17) k)
theorem zDp:∀qq:Nat,(∀ {p0 p1 v17 r},sT qq p0 p1 v17=some r->(∀j,dL 0 (pt 4021 f200) (sp j 53 0 [(0,zO zD p0 .no),(2,.clo 201 [] []),(4,.mp 0 0),(6,.mp 1 0),(15,zO zD p0 .no),(16,ai (p0.length:Int)),(17,ai v17)]) (⟨[(0,.cells [ai p1.k,ai p1.n,zO zD p1.sub .no]),(1,.cells [ai 0,ai 0,zO zD ([]:zQ) .nl])],2,[],0,[]⟩) (fQ 0 (nQ 0 f200 (.tup [xF r.1,ai r.2]) [] 0) [.blk 0,.seq (pt 63 f200)]))):=by
 intro qq
 induction qq with
 |zero=>
  exact fun h=>nn h
 |succ qq ih=>
  intro p0 p1 v17 r h
  rw[sT]at h
  have z {os ob} (k:Oz os ob):=oD (dT p0)<|oD (dT ([]:zQ))<|oD (dT p1.sub)<|k
  obtain⟨h2,h⟩|⟨h2,h⟩:=zL h
  obtain⟨x3,h4,h⟩:=zB h
  obtain⟨r5,h6,h⟩:=zB h
  have k:=oA 0 (wN (o:=.no) h4)<|oB 0 h2 o0
  obtain⟨h7,h⟩|⟨h7,h⟩:=zL h
  exact fun j=>lH 2 [] [0,1] [] [0,2,4,6,15,16,17] (oD (dT p0)<|z<|oK 3 [] h7 (mO h6) k) (ih h)
  cases h
  exact fun j=>lF 2 [] (oD (dT ([]:zQ))<|oK 3 [] h7 (mO h6) k)
  obtain⟨r8,h9,h⟩:=zB h
  have k:=oB 0 h2 o0
  obtain⟨h10,h⟩|⟨h10,h⟩:=zL h
  exact fun j=>lH 2 [] [0,1] [] [0,2,4,6,31,32] (z<|oK 1 [] h10 (mO h9) k) (zDq _ h)
  cases h
  exact fun j=>lF 2 [] (oD (dT ([]:zQ))<|oK 1 [] h10 (mO h9) k)
theorem zMZ{qq p0 p1 r}(h:C9 qq p0 p1=some r):Ct 200 [] [zO zD p0 .no,xF p1,.clo 201 [] []] (.tup [xF r.1,ai r.2]) [] 0:=⟨by
 unfold C9 at h
 obtain⟨h1,h⟩|⟨h1,h⟩:=zL h
 cases h
 exact tF zDr 1 [] (oD (dT ([]:zQ))<|oB 1 h1 o0)
 exact tH zDr 1 [] [0,1] [] [0,2,4,6,15,16,17] (oD (dT p0)<|oD (dT p0)<|oD (dT ([]:zQ))<|oD (dT p1.sub)<|oB 1 h1 o0) (zDp _ h),⟨⟨tv,dT _⟩,⟨tv,tv,⟨tv,dT _⟩,tv⟩,⟨tv,tv⟩,tv⟩,zA,⟨⟨tv,tv,dT _,tv⟩,tv,tv⟩,zA⟩
def zNz(qq:Nat)(p0:zQ)(p1:Tm):Option (Tm×Int):=
 C9 qq p0 p1>>=fun r1=>
 some (r1.1,r1.2)
theorem zYS{qq p0 p1 r}(h:zNz qq p0 p1=some r):Ct 195 [] [zO zD p0 .no,xF p1] (.tup [xF r.1,ai r.2]) [] 0:=⟨by
 unfold zNz at h
 obtain⟨r1,h2,h⟩:=zB h
 cases h
 exact tF ⟨func195,rfl⟩ 3 [] (oD (dT r1.1.sub)<|oC 1 [] (zMZ h2) o0),⟨⟨tv,dT _⟩,⟨tv,tv,⟨tv,dT _⟩,tv⟩,tv⟩,zA,⟨⟨tv,tv,dT _,tv⟩,tv,tv⟩,zA⟩
def jX:Nat->zQ->zQ->Int->zQ->Int->Option (zQ×Int)
 |0,_,_,_,_,_=>none
 |qq+1,p1,p2,v12,v7,yB=>
 if decide (v12<(p1.length:Int))then
 zR p1 v12>>=fun x2=>
 zJO qq yB x2 v12 p2>>=fun r4=>
 xQ 40 v7 [r4.1]>>=fun l6=>
 jX qq p1 p2 (xL (v12+1)) l6 r4.2
 else
 some (v7,yB)
def zNy(qq:Nat)(q0_e:Int)(p1 p2:zQ):Option (zQ×Int):=
 jX qq p1 p2 0 [] q0_e
theorem zQH:∀qq:Nat,(∀ {p1 p2 v12 v7 yB r},jX qq p1 p2 v12 v7 yB=some r->(∀j,dL 1 (pt 4021 f196) (sp j 27 0 [(0,.mp 0 0),(2,zO zD p2 .no),(7,zO zD v7 (.st 0 3)),(10,zO zD p1 .no),(11,ai (p1.length:Int)),(12,ai v12)]) (⟨[(0,.cells [ai yB])],1,[0],1,[]⟩) (fQ 1 (nQ 1 f196 (.sl (flat zD r.1) r.1.length .no) [.cells [ai r.2]] 0) [.blk 0,.seq (pt 63 f196)]))):=by
 intro qq
 induction qq with
 |zero=>
  exact fun h=>nn h
 |succ qq ih=>
  intro p1 p2 v12 v7 yB r h
  rw[jX]at h
  obtain⟨h1,h⟩|⟨h1,h⟩:=zL h
  obtain⟨x2,h3,h⟩:=zB h
  obtain⟨r4,h5,h⟩:=zB h
  obtain⟨l6,h7,h⟩:=zB h
  exact fun j=>lH 1 [] [0] [1] [0,2,7,10,11,12] (oD (dT p1)<|oD (dT l6)<|oD (dT p2)<|oP 0 (sE h7 (by simp))<|oS 0 (xJ xM [r4.1])<|oC 3 [0] (zWL h5)<|oA 0 (wN (o:=.no) h3)<|oB 0 h1 o0) (ih h)
  cases h
  exact fun j=>lF 0 [0] (oD (dT v7)<|oB 0 h1 o0)
theorem zYT{qq q0_e p1 p2 r}(h:zNy qq q0_e p1 p2=some r):Ct 196 [.cells [ai q0_e]] [.mp 0 0,zO zD p1 .no,zO zD p2 .no] (.sl (flat zD r.1) r.1.length .no) [.cells [ai r.2]] 0:=⟨by
 unfold zNy at h
 exact tH ⟨func196,rfl⟩ 1 [(none,7,3)] [0] [0] [0,2,7,10,11,12] (oD (dT p1)<|oD (dT ([]:zQ))<|oD (dT p2) o0) (zQH _ h),⟨(lz rfl),⟨tv,dT _⟩,⟨tv,dT _⟩,tv⟩,(zC ⟨tv,tv⟩ zA),dT _,(zC ⟨tv,tv⟩ zA)⟩
def jY:Nat->zQ->uT->Tm->Int->Int->Int->Int->zQ->Option (Tm×Int)
 |0,_,_,_,_,_,_,_,_=>none
 |qq+1,p3,p4,p5,v29,yB,oR,d8,vP=>
 if decide (v29<(p4.at'.length:Int))then
 zR p4.at' v29>>=fun x6=>
 zJO qq yB x6 (p4.around.length:Int) p3>>=fun r8=>
 e94 qq (Tm.mk oR d8 vP) r8.1>>=fun r10=>
 jY qq p3 p4 p5 (xL (v29+1)) r8.2 r10.k r10.n r10.sub
 else
 zMX qq yB p5 (p4.around.length:Int)>>=fun r12=>
 zMY qq (p4.around.length:Int)>>=fun r14=>
 e63 qq r12.1 r14>>=fun r16=>
 e94 qq (Tm.mk oR d8 vP) r16>>=fun r18=>
 zNy qq r12.2 p4.around p3>>=fun r20=>
 zNz qq r20.1 r18>>=fun r22=>
 zFi qq r20.2 r22.1 r22.2>>=fun r24=>
 some (r24.1,r24.2)
def zNx(qq:Nat)(q0_e:Int)(p1:Tm)(p2 p3:zQ)(p4:uT)(p5:Tm):Option (Tm×Int):=
 zJN qq q0_e p2 (p4.around.length:Int)>>=fun r1=>
 e63 qq p1 r1.1>>=fun r3=>
 jY qq p3 p4 p5 0 r1.2 r3.k r3.n r3.sub
theorem zQI:∀qq:Nat,(∀ {p3 p4 p5 v29 yB oR d8 vP r},jY qq p3 p4 p5 v29 yB oR d8 vP=some r->(∀j,dL 1 (pt 16309 f185) (sp j 61 0 [(0,.mp 0 0),(3,zO zD p3 .no),(10,.mp 1 0),(11,.mp 2 0),(12,.mp 3 0),(13,ai (p4.around.length:Int)),(14,.mp 4 0),(27,zO zD p4.at' .no),(28,ai (p4.at'.length:Int)),(29,ai v29)]) (⟨[(0,.cells [ai yB]),(1,.cells [ab p4.is,zO zD p4.around .no,zO zD p4.at' .no]),(2,.cells [ai p5.k,ai p5.n,zO zD p5.sub .no]),(3,.cells [ai 0,ai 0,zO zD ([]:zQ) .nl]),(4,.cells [ai oR,ai d8,zO zD vP .no])],5,[],0,[]⟩) (fQ 1 (nQ 1 f185 (xF r.1) [.cells [ai r.2]] 0) [.blk 0,.seq (pt 255 f185)]))):=by
 intro qq
 induction qq with
 |zero=>
  exact fun h=>nn h
 |succ qq ih=>
  intro p3 p4 p5 v29 yB oR d8 vP r h
  rw[jY]at h
  obtain⟨h5,h⟩|⟨h5,h⟩:=zL h
  obtain⟨x6,h7,h⟩:=zB h
  obtain⟨r8,h9,h⟩:=zB h
  obtain⟨r10,h11,h⟩:=zB h
  exact fun j=>lH 2 [] [0,1,2,3,4] [] [0,3,10,11,12,13,14,27,28,29] (oD (dT p4.at')<|oD (dT p3)<|oD (dT r10.sub)<|oD (dT ([]:zQ))<|oD (dT p5.sub)<|oD (dT p4.at')<|oD (dT p4.around)<|oC 0 [] (c94 h11)<|oC 4 [0] (zWL h9)<|oA 0 (wN (o:=.no) h7)<|oB 0 h5 o0) (ih h)
  obtain⟨r12,h13,h⟩:=zB h
  obtain⟨r14,h15,h⟩:=zB h
  obtain⟨r16,h17,h⟩:=zB h
  obtain⟨r18,h19,h⟩:=zB h
  obtain⟨r20,h21,h⟩:=zB h
  obtain⟨r22,h23,h⟩:=zB h
  obtain⟨r24,h25,h⟩:=zB h
  cases h
  exact fun j=>lF 1 [0] (oD (dT r24.1.sub)<|oC 2 [0] (zTW h25)<|oC 1 [] (zYS h23)<|oC 2 [0] (zYT h21)<|oC 0 [] (c94 h19)<|oC 0 [] (c63 h17)<|oC 0 [] (zYQ h15)<|oC 2 [0] (zYP h13)<|oB 0 h5 o0)
theorem zQJ{qq q0_e p1 p2 p3 p4 p5 r}(h:zNx qq q0_e p1 p2 p3 p4 p5=some r):Ct 185 [.cells [ai q0_e]] [.mp 0 0,xF p1,zO zD p2 .no,zO zD p3 .no,zVI p4,xF p5] (xF r.1) [.cells [ai r.2]] 0:=⟨by
 unfold zNx at h
 obtain⟨r1,h2,h⟩:=zB h
 obtain⟨r3,h4,h⟩:=zB h
 exact tH ⟨func185,rfl⟩ 3 [] [0,2,3,4,5] [] [0,3,10,11,12,13,14,27,28,29] (oD (dT p4.at')<|oD (dT p3)<|oD (dT r3.sub)<|oD (dT ([]:zQ))<|oD (dT p5.sub)<|oD (dT p4.at')<|oD (dT p4.around)<|oC 0 [] (c63 h4)<|oC 3 [0] (zWJ h2) o0) (zQI _ h),⟨(lz rfl),⟨tv,tv,⟨tv,dT _⟩,tv⟩,⟨tv,dT _⟩,⟨tv,dT _⟩,⟨tv,⟨tv,dT _⟩,⟨tv,dT _⟩,tv⟩,⟨tv,tv,⟨tv,dT _⟩,tv⟩,tv⟩,(zC ⟨tv,tv⟩ zA),⟨tv,tv,dT _,tv⟩,(zC ⟨tv,tv⟩ zA)⟩
def zNw(qq:Nat)(q0_e:Int)(p1:Tm):Option (Tm×Int×Int):=
 if q0_e==0 then
 G3 qq p1>>=fun r2=>
 if r2 then
 if q0_e != 0 then
 some ((Tm.mk 0 0 []),q0_e,q0_e)
 else
 some (p1,0,q0_e)
 else
 some ((Tm.mk 0 0 []),2,2)
 else
 if q0_e != 0 then
 some ((Tm.mk 0 0 []),q0_e,q0_e)
 else
 some (p1,0,q0_e)
theorem zNv:Qf 187 f187:=⟨func187,rfl⟩
theorem zYU{qq q0_e p1 r}(h:zNw qq q0_e p1=some r):Ct 187 [.cells [ai q0_e]] [.mp 0 0,xF p1] (.tup [xF r.1,ai r.2.1]) [.cells [ai r.2.2]] 0:=⟨by
 unfold zNw at h
 obtain⟨h1,h⟩|⟨h1,h⟩:=zL h
 obtain⟨r2,h3,h⟩:=zB h
 have k:=oB 1 h1 o0
 obtain⟨h4,h⟩|⟨h4,h⟩:=zL h
 have k:=oK 1 [] h4 (mO h3) k
 obtain⟨h5,h⟩|⟨h5,h⟩:=zL h
 cases h
 exact tF zNv 2 [0] (oD (dT ([]:zQ))<|oB 2 h5 k)
 cases h
 exact tF zNv 2 [0] (oD (dT p1.sub)<|oB 2 h5 k)
 cases h
 exact tF zNv 6 [0] (oD (dT ([]:zQ))<|oK 1 [] h4 (mO h3) k)
 have k:=oB 1 h1 o0
 obtain⟨h6,h⟩|⟨h6,h⟩:=zL h
 cases h
 exact tF zNv 2 [0] (oD (dT ([]:zQ))<|oB 1 h6 k)
 cases h
 exact tF zNv 2 [0] (oD (dT p1.sub)<|oB 1 h6 k),⟨(lz rfl),⟨tv,tv,⟨tv,dT _⟩,tv⟩,tv⟩,(zC ⟨tv,tv⟩ zA),⟨⟨tv,tv,dT _,tv⟩,tv,tv⟩,(zC ⟨tv,tv⟩ zA)⟩
def vK(l:List Tm):Prop:=∀x∈l,x.Ok
theorem vK.nil:vK []:=fun _ h=>nomatch h
theorem vK.app{l m:List Tm}(h:vK l)(k:vK m):vK (l++m):=fun x hx=>(List.mem_append.1 hx).elim (h x) (k x)
theorem vK.one{t:Tm}(h:t.Ok):vK [t]:=fun x hx=>by
 rw[List.mem_singleton.1 hx];exact h
theorem vK.drop{l:List Tm}(h:vK l)(n:Nat):vK (l.drop n):=fun x hx=>h x (List.mem_of_mem_drop hx)
theorem vK.take{l:List Tm}(h:vK l)(n:Nat):vK (l.take n):=fun x hx=>h x (List.mem_of_mem_take hx)
theorem vK.at{l r:List Tm}{v:Nat}{x:Tm}(h:vK l)(hd:l.drop v=x::r):x.Ok:=h x (by
 have:x∈l.drop v:=by rw[hd];simp
 exact List.mem_of_mem_drop this)
theorem zTZ{k n:Int}{a:Tm}(h:a.Ok):(Tm.mk k n [a]).Ok:=by
 rw[Tm.Ok,mN,mN];exact⟨by simp,h,trivial⟩
theorem fF{k n:Int}{a b:Tm}(h:a.Ok)(i:b.Ok):(Tm.mk k n [a,b]).Ok:=by
 rw[Tm.Ok,mN,mN,mN];exact⟨by simp,h,i,trivial⟩
theorem O7{α:Type}{l:List α}{a b:Int}(h0:0≤a)(h1:a≤b)(h2:b≤l.length):kY l a b=some ((l.drop a.toNat).take (b-a).toNat):=by
 unfold kY;rw[if_pos ⟨h0,h1,h2⟩]
def MT(e:Int)(v:Tm)(x:Tm×Int):Prop:=x.1.Ok∧(e≠8->x.2≠8)∧(x.2=0->e=0∧x.1=v)
def ML(e:Int)(v:List Tm)(x:List Tm×Int):Prop:=vK x.1∧(e≠8->x.2≠8)∧(x.2=0->e=0∧x.1=v)
def M3(k:Int)(l:List Tm):List Tm:=l.map fun t=>vS t 0 0 k
theorem d9(p1 p2:Int):∀(r l acc:List Tm) (v:Nat),l.drop v=r->l.length≤1073741824->vK l->vK acc->acc.length+r.length≤l.length->zM (fun q=>jT q l p1 p2 (v:Int) acc) (fun x=>ML 0 (acc++r.map fun t=>vS t 0 p2 p1) x∧x.1.length≤l.length)
 | [],l,acc,v,hd,hl,ho,ha,hv=>by
  refine zM.succ ?_
  simp only[jT]
  refine zM.ite (fun h=>?_) fun _=>zM.ret ⟨⟨ha,by simp,by simp⟩,by simpa using hv⟩
  rw[drop_nil hd]at h;cases h
 |t::r,l,acc,v,hd,hl,ho,ha,hv=>by
  have hlt:=yY hd
  refine zM.succ ?_
  simp only[jT]
  refine zM.ite (fun _=>?_) fun h=>?_
  ·refine zM.pure (yD hd) (zM.bind (P:=fun r=>r=uK t p1 p2) ((zGT t p1 p2 (ho.at hd)).tot rfl) fun r4 h4=>?_)
   subst h4
   refine zM.ite (fun h=>?_) fun h=>?_
   ·have hne:(uK t p1 p2).2≠0:=by simpa using h
    exact zM.ret ⟨⟨vK.nil,fun _=>V7 t p1 p2,fun h0=>absurd h0 hne⟩,by simp⟩
   ·have he:(uK t p1 p2).2=0:=by simpa using h
    rw[List.length_cons]at hv
    refine zM.pure (xB (by simp<;>omega)) ?_
    rw[yE v (by omega)]
    refine(d9 p1 p2 r l _ (v+1) (zZ hd) hl ho (ha.app (vK.one (fD t p1 p2 (ho.at hd)))) (by simp<;>omega)).mono fun x hx=>?_
    rw[(C6 he).2.2.2.2]at hx
    simpa using hx
  ·rw[yK hd]at h;cases h
theorem zNu(l:List Tm)(p1 p2:Int)(hl:l.length≤1073741824)(ho:vK l):zM (fun q=>zMW q l p1 p2) (fun x=>ML 0 (l.map fun t=>vS t 0 p2 p1) x∧x.1.length≤l.length):=by
 simp only[zMW]
 exact d9 p1 p2 l l [] 0 rfl hl ho vK.nil (by simp)
theorem zBx(e:Int)(t:Tm)(p:Int):zM (fun q=>zFi q e t p) (fun x=>x.1=t∧x.2=if e=0 then p else e):=by
 simp only[zFi]
 refine zM.ite (fun h=>zM.ret ⟨rfl,?_⟩) fun h=>zM.ret ⟨rfl,?_⟩
 ·rw[if_pos (by simpa using h)]
 ·rw[if_neg (by simpa using h)]
theorem zQK(e:Int)(t:List Tm)(p:Int):zM (fun q=>zMV q e t p) (fun x=>x.1=t∧x.2=if e=0 then p else e):=by
 simp only[zMV]
 refine zM.ite (fun h=>zM.ret ⟨rfl,?_⟩) fun h=>zM.ret ⟨rfl,?_⟩
 ·rw[if_pos (by simpa using h)]
 ·rw[if_neg (by simpa using h)]
theorem zFh{e:Int}{v:Tm}{r x:Tm×Int}(hr:MT 0 v r)(hx:x.1=r.1∧x.2=if e=0 then r.2 else e):MT e v x:=by
 obtain⟨h1,h2⟩:=hx
 refine⟨by rw[h1];exact hr.1,?_,?_⟩
 ·intro he
  rw[h2]
  split
  ·exact hr.2.1 (by decide)
  ·exact he
 ·intro he
  rw[h2]at he
  by_cases h:e=0
  ·rw[if_pos h]at he
   exact⟨h,by rw[h1];exact(hr.2.2 he).2⟩
  ·rw[if_neg h]at he;exact absurd he h
theorem zUz{e:Int}{v:List Tm}{r x:List Tm×Int}(hr:ML 0 v r)(hx:x.1=r.1∧x.2=if e=0 then r.2 else e):ML e v x:=by
 obtain⟨h1,h2⟩:=hx
 refine⟨by rw[h1];exact hr.1,?_,?_⟩
 ·intro he
  rw[h2]
  split
  ·exact hr.2.1 (by decide)
  ·exact he
 ·intro he
  rw[h2]at he
  by_cases h:e=0
  ·rw[if_pos h]at he
   exact⟨h,by rw[h1];exact(hr.2.2 he).2⟩
  ·rw[if_neg h]at he;exact absurd he h
theorem zHu(e:Int)(l:List Tm)(p:Int)(hl:l.length≤1073741824)(ho:vK l):zM (fun q=>zJN q e l p) (fun x=>ML e (M3 p l) x∧x.1.length≤l.length):=by
 simp only[zJN]
 exact(zNu l p 0 hl ho).bind fun r h=>(zQK e r.1 r.2).bind fun r3 h3=>zM.ret ⟨zUz h.1 h3,by rw[h3.1];exact h.2⟩
theorem zQL(t:Tm)(k c:Int)(h:t.Ok):MT 0 (vS t 0 c k) (uK t k c):=⟨fD t k c h,fun _=>V7 t k c,fun h=>⟨rfl,(C6 h).2.2.2.2⟩⟩
theorem zUy(t:Tm)(ls:List Tm)(h:t.Ok)(ho:vK ls):MT 0 (vQ ls t 0) (oJ t ls):=⟨zGW t ls h ho,fun _=>zHy t ls,fun h=>⟨rfl,(eJ h).2.2.2⟩⟩
theorem zUx(e:Int)(t:Tm)(p:Int)(h:t.Ok):zM (fun q=>zMX q e t p) (MT e (vS t 0 0 p)):=by
 simp only[zMX]
 exact zM.bind (P:=fun r=>r=uK t p 0) ((zLK t p h).tot rfl) fun r hr=>(zBx e r.1 r.2).bind fun r3 h3=>zM.ret (by subst hr;exact zFh (zQL t p 0 h) h3)
def kK:Nat->List Tm
 |0=>[]
 |m+1=>.mk 1 (m:Int) []::kK m
def I8:Nat->Nat->List Tm
 |0,_=>[]
 |m+1,v=>.mk 1 (v:Int) []::I8 m (v+1)
theorem zHt:∀m,vK (kK m)
 |0=>vK.nil
 |m+1=>fun x hx=>by
  rcases List.mem_cons.1 hx with rfl|hx
  ·exact vX _ _
  ·exact zHt m x hx
theorem zDo:∀m,(kK m).length=m
 |0=>rfl
 |m+1=>congrArg (· + 1) (zDo m)
theorem jZ:∀m v,(I8 m v).length=m
 |0,_=>rfl
 |m+1,v=>congrArg (· + 1) (jZ m (v+1))
theorem zDn:∀(m:Nat) (acc:List Tm),m+acc.length≤1048576->zG (fun q=>jW q acc ((m:Int)-1)) (acc++kK m)
 |0,acc,hm=>by
  refine zG.succ ?_
  simp only[jW]
  exact zG.ifF (decide_eq_false (by omega)) (zG.ret.eq (by simp[kK]))
 |m+1,acc,hm=>by
  refine zG.succ ?_
  simp only[jW]
  refine zG.ifT (decide_eq_true (by omega)) ((I2 _).bind (zG.pure (xB (by simp<;>omega)) ?_))
  rw[yM (by omega) (by omega),show ((m+1:Nat):Int)-1-1=(m:Int)-1 by omega]
  refine(zDn m _ (by simp<;>omega)).eq ?_
  rw[kK,show ((m+1:Nat):Int)-1=(m:Int) by omega];simp
theorem zQM(n:Nat)(hn:n≤1048576):zG (fun q=>zMY q (n:Int)) (kK n):=by
 simp only[zMY]
 refine zG.ifF (decide_eq_false (by omega)) (zG.ifF (decide_eq_false (by omega)) ?_)
 rw[yM (by omega) (by omega)]
 exact(zDn n [] (by simpa using hn)).eq (by simp)
def oZ(t:Tm)(own:Nat)(outer:List Tm):Tm:=vQ (I8 own 0++(M3 own outer).reverse) t 0
def sU(outer:List Tm):List Tm->Nat->List Tm
 | [],_=>[]
 |t::r,v=>oZ t v outer::sU outer r (v+1)
theorem zDm(p1:Tm)(r6:List Tm×Int)(h1:p1.Ok)(h6:vK r6.1):∀(m:Nat) (acc:List Tm),m≤r6.1.length->m+acc.length≤4294967296->vK acc->zM (fun q=>jU q p1 r6 ((m:Int)-1) acc) (MT r6.2 (vQ (acc++(r6.1.take m).reverse) p1 0))
 |0,acc,hm,hl,ho=>by
  refine zM.succ ?_
  simp only[jU]
  refine zM.ite (fun h=>?_) fun _=>?_
  ·have:=of_decide_eq_true h
   omega
  ·refine zM.bind (P:=fun r=>r=oJ p1 acc) ((O4 p1 acc h1 ho (by omega)).tot rfl) fun r h=>(zBx _ r.1 r.2).bind fun x hx=>zM.ret ?_
   subst h
   have:=zFh (zUy p1 acc h1 ho) hx
   simpa using this
 |m+1,acc,hm,hl,ho=>by
  refine zM.succ ?_
  simp only[jU]
  refine zM.ite (fun _=>?_) fun h=>?_
  ·have hlt:m<r6.1.length:=by omega
   have hx:zR r6.1 (((m+1:Nat):Int)-1)=some r6.1[m]:=by
    unfold zR
    rw[if_pos (by omega),show (((m+1:Nat):Int)-1).toNat=m by omega,List.getElem?_eq_getElem hlt]
   refine zM.pure hx (zM.pure (xB (by simp<;>omega)) ?_)
   rw[yM (by omega) (by omega),show ((m+1:Nat):Int)-1-1=(m:Int)-1 by omega]
   refine(zDm p1 r6 h1 h6 m _ (by omega) (by simp<;>omega) (ho.app (vK.one (h6 _ (List.getElem_mem hlt))))).mono fun x hx=>?_
   have e:r6.1.take (m+1)=r6.1.take m++[r6.1[m]]:=by rw[List.take_add_one,List.getElem?_eq_getElem hlt];rfl
   rw[e,List.reverse_append]
   simpa using hx
  ·have:=of_decide_eq_false h
   omega
theorem zNt(e:Int)(p1:Tm)(own:Nat)(p3:List Tm)(h1:p1.Ok)(h2:own≤1073741824)(h3:vK p3)(hl:p3.length≤1073741824):∀(m v:Nat) (acc:List Tm),v+m=own->acc.length≤v->vK acc->zM (fun q=>jV q e p1 (own:Int) p3 (v:Int) acc) (MT e (vQ (acc++I8 m v++(M3 own p3).reverse) p1 0)):=by
 intro m
 induction m with
 |zero=>
  intro v acc hm ha ho
  refine zM.succ ?_
  simp only[jV]
  refine zM.ite (fun h=>?_) fun _=>(zHu e p3 own hl h3).bind fun r6 h6=>?_
  ·have:=of_decide_eq_true h
   omega
  ·rw[yM (by omega) (by omega)]
   refine(zDm p1 r6 h1 h6.1.1 r6.1.length acc (Nat.le_refl _) (by omega) ho).mono fun x hx=>⟨hx.1,fun he=>hx.2.1 (h6.1.2.1 he),fun he=>?_⟩
   have k:=hx.2.2 he
   have k6:=h6.1.2.2 k.1
   refine⟨k6.1,?_⟩
   rw[k.2,List.take_length,k6.2,I8];simp
 |succ m ih=>
  intro v acc hm ha ho
  refine zM.succ ?_
  simp only[jV]
  refine zM.ite (fun _=>?_) fun h=>?_
  ·refine zM.bind (P:=fun r=>r=Tm.mk 1 (v:Int) []) ((I2 v).tot rfl) fun r h=>zM.pure (xB (by simp<;>omega)) ?_
   subst h
   rw[yE v (by omega)]
   refine(ih (v+1) _ (by omega) (by simp<;>omega) (ho.app (vK.one (vX _ _)))).mono fun x hx=>?_
   rw[I8]
   simpa using hx
  ·have:=of_decide_eq_false h
   omega
theorem M4(e:Int)(p1:Tm)(own:Nat)(p3:List Tm)(h1:p1.Ok)(h2:own≤1073741824)(h3:vK p3)(hl:p3.length≤1073741824):zM (fun q=>zJO q e p1 (own:Int) p3) (MT e (oZ p1 own p3)):=by
 simp only[zJO]
 exact zNt e p1 own p3 h1 h2 h3 hl own 0 [] (by omega) (by simp) vK.nil
theorem dZ(p2:List Tm)(h2:vK p2)(hl2:p2.length≤1073741824):∀(r l acc:List Tm) (v:Nat) (e:Int),l.drop v=r->l.length≤1073741824->vK l->vK acc->acc.length≤v->zM (fun q=>jX q l p2 (v:Int) acc e) (fun x=>vK x.1∧x.1.length=acc.length+r.length∧(e≠8->x.2≠8)∧(x.2=0->e=0∧x.1=acc++sU p2 r v))
 | [],l,acc,v,e,hd,hl,ho,ha,hv=>by
  refine zM.succ ?_
  simp only[jX]
  refine zM.ite (fun h=>?_) fun _=>zM.ret ⟨ha,by simp,id,fun h=>⟨h,by simp[sU]⟩⟩
  rw[drop_nil hd]at h;cases h
 |t::r,l,acc,v,e,hd,hl,ho,ha,hv=>by
  have hlt:=yY hd
  refine zM.succ ?_
  simp only[jX]
  refine zM.ite (fun _=>?_) fun h=>?_
  ·refine zM.pure (yD hd) ((M4 e t v p2 (ho.at hd) (by omega) h2 hl2).bind fun r4 h4=>?_)
   refine zM.pure (xB (by simp<;>omega)) ?_
   rw[yE v (by omega)]
   refine(dZ p2 h2 hl2 r l _ (v+1) r4.2 (zZ hd) hl ho (ha.app (vK.one h4.1)) (by simp<;>omega)).mono fun x hx=>?_
   obtain⟨a1,a2,a3,a4⟩:=hx
   refine⟨a1,by rw[a2];simp<;>omega,fun he=>a3 (h4.2.1 he),fun he=>?_⟩
   have k:=a4 he
   have k4:=h4.2.2 k.1
   refine⟨k4.1,?_⟩
   rw[k.2,k4.2,sU];simp
  ·rw[yK hd]at h;cases h
theorem zBw(e:Int)(l p2:List Tm)(h2:vK p2)(hl2:p2.length≤1073741824)(hl:l.length≤1073741824)(ho:vK l):zM (fun q=>zNy q e l p2) (fun x=>ML e (sU p2 l 0) x∧x.1.length=l.length):=by
 simp only[zNy]
 refine(dZ p2 h2 hl2 l l [] 0 e rfl hl ho vK.nil (by simp)).mono fun x hx=>?_
 obtain⟨a1,a2,a3,a4⟩:=hx
 exact⟨⟨a1,a3,fun he=>by simpa using a4 he⟩,by simpa using a2⟩
def lM(l:List Tm)(t:Tm):Tm:=l.foldr (fun a x=>.mk 4 0 [a,x]) t
theorem zNs(l:List Tm)(hl:l.length≤24)(ho:vK l):∀(m v:Nat) (t:Tm),v+m=l.length->t.Ok->zM (fun q=>sS q l (v:Int) t.k t.n t.sub) (MT 0 (lM (l.take m) t)):=by
 intro m
 induction m with
 |zero=>
  intro v t hm ht
  refine zM.succ ?_
  simp only[sS,uQ]
  refine zM.ite (fun h=>?_) fun _=>?_
  ·have:=of_decide_eq_true h
   omega
  ·refine zM.bind (P:=fun b=>b=zH t) ((xR t ht).tot rfl) fun r hr=>zM.ite (fun h=>?_) fun _=>zM.ret ⟨vX 0 0,by simp,by simp⟩
   refine zM.bind (P:=fun x=>x=iZ t) ((nJ t ht).tot rfl) fun x hx=>zM.ret ?_
   subst hx
   have e:iZ t=t:=by unfold iZ;rw[if_pos (by rw[←hr];exact h)]
   rw[e]
   exact⟨ht,by simp,fun _=>⟨rfl,by simp[lM]⟩⟩
 |succ m ih=>
  intro v t hm ht
  refine zM.succ ?_
  simp only[sS,uQ]
  refine zM.ite (fun _=>?_) fun h=>?_
  ·have hlt:m<l.length:=by omega
   rw[yM (x:=(l.length:Int)-1) (by omega) (by omega),yM (x:=(l.length:Int)-1-v) (by omega) (by omega)]
   have hx:zR l ((l.length:Int)-1-v)=some l[m]:=by
    unfold zR
    rw[if_pos (by omega),show ((l.length:Int)-1-v).toNat=m by omega,List.getElem?_eq_getElem hlt]
   refine zM.pure hx (zM.bind (P:=fun r=>r=Tm.mk 4 0 [l[m],t]) (zG.tot (zG.mk fun _=>rfl) rfl) fun r hr=>?_)
   subst hr
   rw[yE v (by omega)]
   refine(ih (v+1) _ (by omega) (fF (ho _ (List.getElem_mem hlt)) ht)).mono fun x hx=>?_
   have e:l.take (m+1)=l.take m++[l[m]]:=by rw[List.take_add_one,List.getElem?_eq_getElem hlt];rfl
   rw[e]
   unfold lM at hx ⊢
   rw[List.foldr_append]
   exact hx
  ·have:=of_decide_eq_false h
   omega
theorem zHs(t:Tm)(ht:t.Ok):∀(r l:List Tm) (v:Nat),l.drop v=r->l.length≤24->vK l->zM (fun q=>sT q l t (v:Int)) (MT 0 (lM l t))
 | [],l,v,hd,hl,ho=>by
  refine zM.succ ?_
  simp only[sT]
  refine zM.ite (fun h=>?_) fun _=>?_
  ·rw[drop_nil hd]at h;cases h
  ·refine zM.bind (P:=fun _=>True) ((xR t ht).tot trivial) fun r _=>zM.ite (fun _=>?_) fun _=>zM.ret ⟨vX 0 0,by simp,by simp⟩
   have:=zNs l hl ho l.length 0 t (by omega) ht
   rwa[List.take_length]at this
 |x::r,l,v,hd,hl,ho=>by
  have hlt:=yY hd
  refine zM.succ ?_
  simp only[sT]
  refine zM.ite (fun _=>?_) fun h=>?_
  ·refine zM.pure (yD hd) (zM.bind (P:=fun _=>True) ((xR x (ho.at hd)).tot trivial) fun _ _=>zM.ite (fun _=>?_) fun _=>zM.ret ⟨vX 0 0,by simp,by simp⟩)
   rw[yE v (by omega)]
   exact zHs t ht r l (v+1) (zZ hd) hl ho
  ·rw[yK hd]at h;cases h
theorem zNr(l:List Tm)(t:Tm)(ho:vK l)(ht:t.Ok):zM (fun q=>zNz q l t) (MT 0 (lM l t)):=by
 simp only[zNz]
 refine zM.bind (P:=MT 0 (lM l t)) ?_ fun x hx=>zM.ret hx
 simp only[C9]
 refine zM.ite (fun _=>zM.ret ⟨vX 0 0,by simp,by simp⟩) fun h=>?_
 have:=of_decide_eq_false h
 exact zHs t ht l l 0 rfl (by omega) ho
def zDl(r:uT):Prop:=vK r.around∧vK r.at'∧r.around.length≤1048576∧r.at'.length≤1048576
def I9(head:Tm)(args outer:List Tm)(r:uT)(a:Tm):Tm:=
 lM (sU outer r.around 0) (.mk 5 0 [wJ (wJ head (M3 r.around.length args)) (r.at'.map fun t=>oZ t r.around.length outer),wJ (vS a 0 0 r.around.length) (kK r.around.length)])
theorem zDk(p3:List Tm)(p4:uT)(p5:Tm)(h3:vK p3)(hl3:p3.length≤1073741824)(h4:zDl p4)(h5:p5.Ok):∀(r:List Tm) (v:Nat) (e:Int) (t:Tm),p4.at'.drop v=r->t.Ok->zM (fun q=>jY q p3 p4 p5 (v:Int) e t.k t.n t.sub)
  (MT e (lM (sU p3 p4.around 0) (.mk 5 0 [wJ t (r.map fun t=>oZ t p4.around.length p3),wJ (vS p5 0 0 p4.around.length) (kK p4.around.length)])))
 | [],v,e,t,hd,ht=>by
  refine zM.succ ?_
  simp only[jY,uQ]
  refine zM.ite (fun h=>?_) fun _=>?_
  ·rw[drop_nil hd]at h;cases h
  ·have:=h4.2.2.1
   refine(zUx e p5 _ h5).bind fun r12 h12=>zM.bind (P:=fun x=>x=kK p4.around.length) ((zQM _ this).tot rfl) fun r14 h14=>?_
   subst h14
   refine zM.bind (P:=fun x=>x=wJ r12.1 (kK p4.around.length)) ((rM r12.1 _ (by rw[zDo];omega)).tot rfl) fun r16 h16=>?_
   subst h16
   refine zM.bind (P:=fun x=>x=Tm.mk 5 0 [t,wJ r12.1 (kK p4.around.length)]) ((cX t _).tot rfl) fun r18 h18=>?_
   subst h18
   refine(zBw r12.2 p4.around p3 h3 hl3 (by omega) h4.1).bind fun r20 h20=>(zNr r20.1 _ h20.1.1 (fF ht (pQ _ _ h12.1 (zHt _)))).bind fun r22 h22=>(zBx r20.2 r22.1 r22.2).bind fun r24 h24=>zM.ret ?_
   have m:=zFh h22 h24
   refine⟨m.1,fun he=>m.2.1 (h20.1.2.1 (h12.2.1 he)),fun he=>?_⟩
   have k:=m.2.2 he
   have k20:=h20.1.2.2 k.1
   have k12:=h12.2.2 k20.1
   refine⟨k12.1,?_⟩
   rw[k.2,k20.2,k12.2];rfl
 |x::r,v,e,t,hd,ht=>by
  have hlt:=yY hd
  have:=h4.2.2.1
  have:=h4.2.2.2
  refine zM.succ ?_
  simp only[jY,uQ]
  refine zM.ite (fun _=>?_) fun h=>?_
  ·refine zM.pure (yD hd) ((M4 e x _ p3 (h4.2.1.at hd) (by omega) h3 hl3).bind fun r8 h8=>?_)
   refine zM.bind (P:=fun x=>x=Tm.mk 5 0 [t,r8.1]) ((cX t r8.1).tot rfl) fun r10 h10=>?_
   subst h10
   rw[yE v (by omega)]
   refine(zDk p3 p4 p5 h3 hl3 h4 h5 r (v+1) r8.2 (.mk 5 0 [t,r8.1]) (zZ hd) (fF ht h8.1)).mono fun y hy=>⟨hy.1,fun he=>hy.2.1 (h8.2.1 he),fun he=>?_⟩
   have k:=hy.2.2 he
   have k8:=h8.2.2 k.1
   refine⟨k8.1,?_⟩
   rw[k.2,k8.2,List.map_cons,wJ]
  ·rw[yK hd]at h;cases h
theorem W2(e:Int)(p1:Tm)(p2 p3:List Tm)(p4:uT)(p5:Tm)(h1:p1.Ok)(h2:vK p2)(hl2:p2.length≤1073741824)(h3:vK p3)(hl3:p3.length≤1073741824)(h4:zDl p4)(h5:p5.Ok):zM (fun q=>zNx q e p1 p2 p3 p4 p5) (MT e (I9 p1 p2 p3 p4 p5)):=by
 simp only[zNx]
 refine(zHu e p2 _ hl2 h2).bind fun r1 hr1=>?_
 refine zM.bind (P:=fun x=>x=wJ p1 r1.1) ((rM p1 r1.1 (by omega)).tot rfl) fun r3 hr3=>?_
 subst hr3
 refine(zDk p3 p4 p5 h3 hl3 h4 h5 p4.at' 0 r1.2 (wJ p1 r1.1) rfl (pQ _ _ h1 hr1.1.1)).mono fun y hy=>⟨hy.1,fun he=>hy.2.1 (hr1.1.2.1 he),fun he=>?_⟩
 have k:=hy.2.2 he
 have k1:=hr1.1.2.2 k.1
 refine⟨k1.1,?_⟩
 rw[k.2,k1.2];rfl
theorem zNq(e:Int)(t:Tm)(h:t.Ok):zM (fun q=>zNw q e t) (fun x=>x.1.Ok∧(e≠8->x.2.1≠8)∧(x.2.1=0->e=0∧x.1=t∧zH t=true)):=by
 simp only[zNw]
 refine zM.ite (fun he=>?_) fun he=>?_
 ·have he':e=0:=by simpa using he
  refine zM.bind (P:=fun b=>b=zH t) ((xR t h).tot rfl) fun b hb=>zM.ite (fun hs=>?_) fun _=>zM.ret ⟨vX 0 0,by simp,by simp⟩
  refine zM.ite (fun h2=>absurd he' (by simpa using h2)) fun _=>zM.ret ⟨h,by simp,fun _=>⟨he',rfl,by rw[←hb];exact hs⟩⟩
 ·have he':e≠0:=by simpa using he
  exact zM.ite (fun _=>zM.ret ⟨vX 0 0,id,fun h0=>absurd h0 he'⟩) fun h2=>absurd (by simpa using h2) he'
theorem zFg(l:List zU)(n kind:Int):zG (fun q=>zFk q l n kind) (kH l n kind):=by
 simp only[zFk]
 unfold kH
 by_cases h:0≤n
 ·refine zG.ifT (decide_eq_true h) ?_
  by_cases k:n<l.length
  ·exact zG.ifT (decide_eq_true k) (zG.pure (yP h k) (zG.ret.eq (by simp[h,k])))
  ·exact zG.ifF (decide_eq_false k) (zG.ret.eq (by simp[k]))
 ·exact zG.ifF (decide_eq_false h) (zG.ret.eq (by simp[h]))
theorem M5:∀(r l:List Tm) (v:Nat),l.drop v=r->l.length≤1073741824->vK l->zG (fun q=>jS q l (v:Int)) (r.all zH)
 | [],l,v,hd,hl,ho=>by
  refine zG.succ ?_
  simp only[jS]
  exact zG.ifF (drop_nil hd) zG.ret
 |x::r,l,v,hd,hl,ho=>by
  have hlt:=yY hd
  refine zG.succ ?_
  simp only[jS]
  refine zG.ifT (yK hd) (zG.pure (yD hd) ((xR x (ho.at hd)).bind ?_))
  by_cases h:zH x=true
  ·refine zG.ifT h ?_
   rw[yE v (by omega)]
   exact(M5 r l (v+1) (zZ hd) hl ho).eq (by simp[h])
  ·exact zG.ifF (by simpa using h) (zG.ret.eq (by simp[h]))
theorem bH(l:List Tm)(hl:l.length≤1073741824)(ho:vK l):zG (fun q=>zFj q l) (l.all zH):=by
 simp only[zFj]
 exact M5 l l 0 rfl hl ho
def zDj(qq:Nat)(rl:yU)(parts:tW)(p1:Int)(p2:zQ):Option (Tm×Int):=
 zFk qq rl p1 4>>=fun r1=>
 if r1 then
 zR rl p1>>=fun x4=>
 zR rl x4.fam>>=fun x6=>
 if (p2.length:Int) != (x6.fields.length:Int)then
 some ((Tm.mk 0 0 []),5)
 else
 zFj qq p2>>=fun r9=>
 if r9 then
 zR p2 x4.place>>=fun x12=>
 some (x12,0)
 else
 some ((Tm.mk 0 0 []),5)
 else
 some ((Tm.mk 0 0 []),16)
theorem zQN:Qf 172 f172:=⟨func172,rfl⟩
theorem zYV{qq rl parts p1 p2 r}(h:zDj qq rl parts p1 p2=some r):Ct 172 [qR rl parts] [.mp 0 0,ai p1,zO zD p2 .no] (.tup [xF r.1,ai r.2]) [qR rl parts] 0:=⟨by
 unfold zDj at h
 have z {os ob} (k:Oz os ob):=oD (dT ([]:zQ))<|oD (dC parts)<|oD (dE rl)<|k
 obtain⟨r1,h2,h⟩:=zB h
 obtain⟨h3,h⟩|⟨h3,h⟩:=zL h
 obtain⟨x4,h5,h⟩:=zB h
 obtain⟨x6,h7,h⟩:=zB h
 have k:=oA 1 (wM (o:=.no) h7)<|oA 2 (wM (o:=.no) h5)<|oK 2 [] h3 (zJL h2) o0
 obtain⟨h8,h⟩|⟨h8,h⟩:=zL h
 cases h
 exact tF zQN 1 [0] (z<|oB 2 h8 k)
 obtain⟨r9,h10,h⟩:=zB h
 have k:=oB 2 h8 k
 obtain⟨h11,h⟩|⟨h11,h⟩:=zL h
 obtain⟨x12,h13,h⟩:=zB h
 cases h
 exact tF zQN 2 [0] (oD (dT x12.sub)<|oD (dC parts)<|oD (dE rl)<|oA 1 (wN (o:=.no) h13)<|oA 1 (wM (o:=.no) h5)<|oK 0 [] h11 (zJM h10) k)
 cases h
 exact tF zQN 2 [0] (z<|oK 0 [] h11 (zJM h10) k)
 cases h
 exact tF zQN 2 [0] (z<|oK 2 [] h3 (zJL h2) o0),⟨(lz rfl),tv,⟨tv,dT _⟩,tv⟩,(zC ⟨⟨tv,dE _⟩,⟨tv,dC _⟩,tv⟩ zA),⟨⟨tv,tv,dT _,tv⟩,tv,tv⟩,(zC ⟨dE _,dC _,tv⟩ zA)⟩
def zUw(qq:Nat)(p0 p1:Int):Option Tm:=
 zEX qq p1>>=fun r1=>
 zCQ qq 7 p0 [r1]>>=fun r3=>
 some r3
theorem zQO{qq p0 p1 r}(h:zUw qq p0 p1=some r):Ct 186 [] [ai p0,ai p1] (xF r) [] 0:=⟨by
 unfold zUw at h
 obtain⟨r1,h2,h⟩:=zB h
 obtain⟨r3,h4,h⟩:=zB h
 obtain rfl:=sj h
 exact tF ⟨func186,rfl⟩ 1 [] (oD (dT r3.sub)<|oC 0 [] (zJl h4)<|oS 0 (xJ xM [r1])<|oC 0 [] (zPS h2) o0),⟨tv,tv,tv⟩,zA,⟨tv,tv,dT _,tv⟩,zA⟩
def mY:Nat->yU->tW->Int->Int->zQ->zQ->sZ->Int->Int->Int->Int->zQ->Option (Tm×Int)
 |0,_,_,_,_,_,_,_,_,_,_,_,_=>none
 |qq+1,rl,parts,p1,p2,p4,p5,x12,v120,vA,xP,xX,nC=>
 if decide (v120<(x12.recs.length:Int))then
 zR x12.recs v120>>=fun x29=>
 if x29.is then
 zR rl p1>>=fun x32=>
 kY p4 0 x32.pars>>=fun x34=>
 xQ 40 ([]:zQ) x34>>=fun l36=>
 kY p5 0 v120>>=fun x39=>
 xQ 40 l36 x39>>=fun l41=>
 zUw qq p1 p2>>=fun r44=>
 zR p5 v120>>=fun x46=>
 zNx qq vA r44 p4 l41 x29 x46>>=fun r48=>
 e94 qq (Tm.mk xP xX nC) r48.1>>=fun r50=>
 mY qq rl parts p1 p2 p4 p5 x12 (xL (v120+1)) r48.2 r50.k r50.n r50.sub
 else
 mY qq rl parts p1 p2 p4 p5 x12 (xL (v120+1)) vA xP xX nC
 else
 zNw qq vA (Tm.mk xP xX nC)>>=fun r52=>
 some (r52.1,r52.2.1)
def zDi(qq:Nat)(rl:yU)(parts:tW)(p1 p2 p3:Int)(p4 p5:zQ):Option (Tm×Int):=
 zFk qq rl p1 1>>=fun r1=>
 if r1 then
 if decide (p2<0)then
 some ((Tm.mk 0 0 []),16)
 else
 if decide (p2>7)then
 some ((Tm.mk 0 0 []),16)
 else
 zFk qq rl p3 2>>=fun r6=>
 if r6 then
 zR rl p3>>=fun x9=>
 if x9.fam != p1 then
 some ((Tm.mk 0 0 []),16)
 else
 zR parts p3>>=fun x12=>
 zR rl p1>>=fun x14=>
 if (p4.length:Int) != (xL ((xL (x14.pars+1))+(x14.cons.length:Int)))then
 some ((Tm.mk 0 0 []),5)
 else
 if (p5.length:Int) != (x12.args.length:Int)then
 some ((Tm.mk 0 0 []),5)
 else
 zFj qq p4>>=fun r18=>
 if r18 then
 zFj qq p5>>=fun r21=>
 if r21 then
 zR p4 (xL ((xL (x14.pars+1))+x9.place))>>=fun x24=>
 e63 qq x24 p5>>=fun r26=>
 mY qq rl parts p1 p2 p4 p5 x12 0 0 r26.k r26.n r26.sub
 else
 some ((Tm.mk 0 0 []),5)
 else
 some ((Tm.mk 0 0 []),5)
 else
 some ((Tm.mk 0 0 []),16)
 else
 some ((Tm.mk 0 0 []),16)
theorem u5:Qf 173 f173:=⟨func173,rfl⟩
theorem zQP:∀qq:Nat,(∀ {rl parts p1 p2 p4 p5 x12 v120 vA xP xX nC r},mY qq rl parts p1 p2 p4 p5 x12 v120 vA xP xX nC=some r->(∀j,dL 1 (pt 16777141 f173) (sp j 160 0 [(1,ai p1),(2,ai p2),(4,zO zD p4 .no),(5,zO zD p5 .no),(12,.mp 1 0),(14,zO yZ rl .no),(16,.mp 2 0),(17,.mp 3 0),(118,zO aU x12.recs .no),(119,ai (x12.recs.length:Int)),(120,ai v120)]) (⟨[(0,qR rl parts),(1,.cells [ai 0,ai 0,zO zD ([]:zQ) .nl]),(2,.cells [ai vA]),(3,.cells [ai xP,ai xX,zO zD nC .no])],4,[],0,[]⟩) (fQ 1 (nQ 1 f173 (.tup [xF r.1,ai r.2]) [qR rl parts] 0) [.blk 0,.seq (pt 262143 f173)]))):=by
 intro qq
 induction qq with
 |zero=>
  exact fun h=>nn h
 |succ qq ih=>
  intro rl parts p1 p2 p4 p5 x12 v120 vA xP xX nC r h
  rw[mY]at h
  have z {os ob} (k:Oz os ob):=oD (dT ([]:zQ))<|oD (dC parts)<|oD (dE rl)<|k
  obtain⟨h28,h⟩|⟨h28,h⟩:=zL h
  obtain⟨x29,h30,h⟩:=zB h
  have k:=oA 0 (zVY (o:=.no) h30)<|oB 0 h28 o0
  obtain⟨h31,h⟩|⟨h31,h⟩:=zL h
  obtain⟨x32,h33,h⟩:=zB h
  obtain⟨x34,h35,h⟩:=zB h
  obtain⟨l36,h37,h⟩:=zB h
  have k:=oA 1 (mD h35)<|oA 1 (wM (o:=.no) h33)<|oB 2 h31 k
  by_cases h38:List.length x34=0
  obtain⟨x39,h40,h⟩:=zB h
  obtain⟨l41,h42,h⟩:=zB h
  have k:=oA 0 (mD h40)<|oP 0 (dP h37 h38) k
  by_cases h43:List.length x39=0
  obtain⟨r44,h45,h⟩:=zB h
  obtain⟨x46,h47,h⟩:=zB h
  obtain⟨r48,h49,h⟩:=zB h
  obtain⟨r50,h51,h⟩:=zB h
  exact fun j=>lH 2 [] [0,1,2,3] [] [1,2,4,5,12,14,16,17,118,119,120] (oD (dR x12.recs)<|oD (dE rl)<|oD (dT p5)<|oD (dT p4)<|oD (dT r50.sub)<|z<|oC 0 [] (c94 h51)<|oC 1 [2] (zQJ h49)<|oA 1 (wN (o:=.no) h47)<|oC 1 [] (zQO h45)<|oP 0 (dP h42 h43) k) (ih h)
  obtain⟨r44,h45,h⟩:=zB h
  obtain⟨x46,h47,h⟩:=zB h
  obtain⟨r48,h49,h⟩:=zB h
  obtain⟨r50,h51,h⟩:=zB h
  exact fun j=>lH 2 [] [0,1,2,3] [] [1,2,4,5,12,14,16,17,118,119,120] (oD (dR x12.recs)<|oD (dE rl)<|oD (dT p5)<|oD (dT p4)<|oD (dT r50.sub)<|z<|oC 0 [] (c94 h51)<|oC 1 [2] (zQJ h49)<|oA 1 (wN (o:=.no) h47)<|oC 1 [] (zQO h45)<|oP 0 (sE h42 h43) k) (ih h)
  obtain⟨x39,h40,h⟩:=zB h
  obtain⟨l41,h42,h⟩:=zB h
  have k:=oA 0 (mD h40)<|oP 0 (sE h37 h38) k
  by_cases h43:List.length x39=0
  obtain⟨r44,h45,h⟩:=zB h
  obtain⟨x46,h47,h⟩:=zB h
  obtain⟨r48,h49,h⟩:=zB h
  obtain⟨r50,h51,h⟩:=zB h
  exact fun j=>lH 2 [] [0,1,2,3] [] [1,2,4,5,12,14,16,17,118,119,120] (oD (dR x12.recs)<|oD (dE rl)<|oD (dT p5)<|oD (dT p4)<|oD (dT r50.sub)<|z<|oC 0 [] (c94 h51)<|oC 1 [2] (zQJ h49)<|oA 1 (wN (o:=.no) h47)<|oC 1 [] (zQO h45)<|oP 0 (dP h42 h43) k) (ih h)
  obtain⟨r44,h45,h⟩:=zB h
  obtain⟨x46,h47,h⟩:=zB h
  obtain⟨r48,h49,h⟩:=zB h
  obtain⟨r50,h51,h⟩:=zB h
  exact fun j=>lH 2 [] [0,1,2,3] [] [1,2,4,5,12,14,16,17,118,119,120] (oD (dR x12.recs)<|oD (dE rl)<|oD (dT p5)<|oD (dT p4)<|oD (dT r50.sub)<|z<|oC 0 [] (c94 h51)<|oC 1 [2] (zQJ h49)<|oA 1 (wN (o:=.no) h47)<|oC 1 [] (zQO h45)<|oP 0 (sE h42 h43) k) (ih h)
  exact fun j=>lH 1 [] [0,1,2,3] [] [1,2,4,5,12,14,16,17,118,119,120] (oD (dR x12.recs)<|oD (dE rl)<|oD (dT p5)<|oD (dT p4)<|oD (dT nC)<|z<|oB 2 h31 k) (ih h)
  obtain⟨r52,h53,h⟩:=zB h
  cases h
  exact fun j=>lF 3 [0] (oD (dT r52.1.sub)<|oD (dC parts)<|oD (dE rl)<|oC 1 [2] (zYU h53)<|oB 0 h28 o0)
theorem zYW{qq rl parts p1 p2 p3 p4 p5 r}(h:zDi qq rl parts p1 p2 p3 p4 p5=some r):Ct 173 [qR rl parts] [.mp 0 0,ai p1,ai p2,ai p3,zO zD p4 .no,zO zD p5 .no] (.tup [xF r.1,ai r.2]) [qR rl parts] 0:=⟨by
 unfold zDi at h
 have z {os ob} (k:Oz os ob):=oD (dT ([]:zQ))<|oD (dC parts)<|oD (dE rl)<|k
 obtain⟨r1,h2,h⟩:=zB h
 obtain⟨h3,h⟩|⟨h3,h⟩:=zL h
 have k:=oK 2 [] h3 (zJL h2) o0
 obtain⟨h4,h⟩|⟨h4,h⟩:=zL h
 cases h
 exact tF u5 1 [0] (z<|oB 1 h4 k)
 have k:=oB 1 h4 k
 obtain⟨h5,h⟩|⟨h5,h⟩:=zL h
 cases h
 exact tF u5 1 [0] (z<|oB 0 h5 k)
 obtain⟨r6,h7,h⟩:=zB h
 have k:=oB 0 h5 k
 obtain⟨h8,h⟩|⟨h8,h⟩:=zL h
 obtain⟨x9,h10,h⟩:=zB h
 have k:=oA 1 (wM (o:=.no) h10)<|oK 0 [] h8 (zJL h7) k
 obtain⟨h11,h⟩|⟨h11,h⟩:=zL h
 cases h
 exact tF u5 1 [0] (z<|oB 1 h11 k)
 obtain⟨x12,h13,h⟩:=zB h
 obtain⟨x14,h15,h⟩:=zB h
 have k:=oA 2 (wM (o:=.no) h15)<|oA 3 (wM (o:=.no) h15)<|oA 1 (zVW (o:=.no) h13)<|oB 1 h11 k
 obtain⟨h16,h⟩|⟨h16,h⟩:=zL h
 cases h
 exact tF u5 1 [0] (z<|oB 3 h16 k)
 have k:=oB 3 h16 k
 obtain⟨h17,h⟩|⟨h17,h⟩:=zL h
 cases h
 exact tF u5 1 [0] (z<|oB 3 h17 k)
 obtain⟨r18,h19,h⟩:=zB h
 have k:=oB 3 h17 k
 obtain⟨h20,h⟩|⟨h20,h⟩:=zL h
 obtain⟨r21,h22,h⟩:=zB h
 have k:=oK 0 [] h20 (zJM h19) k
 obtain⟨h23,h⟩|⟨h23,h⟩:=zL h
 obtain⟨x24,h25,h⟩:=zB h
 obtain⟨r26,h27,h⟩:=zB h
 exact tH u5 3 [] [0,1,3,4] [] [1,2,4,5,12,14,16,17,118,119,120] (oD (dR x12.recs)<|oD (dE rl)<|oD (dT p5)<|oD (dT p4)<|oD (dT r26.sub)<|z<|oC 1 [] (c63 h27)<|oA 2 (wN (o:=.no) h25)<|oA 2 (wM (o:=.no) h10)<|oA 1 (wM (o:=.no) h15)<|oK 1 [] h23 (zJM h22) k) (zQP _ h)
 cases h
 exact tF u5 2 [0] (z<|oK 1 [] h23 (zJM h22) k)
 cases h
 exact tF u5 2 [0] (z<|oK 0 [] h20 (zJM h19) k)
 cases h
 exact tF u5 2 [0] (z<|oK 0 [] h8 (zJL h7) k)
 cases h
 exact tF u5 2 [0] (z<|oK 2 [] h3 (zJL h2) o0),⟨(lz rfl),tv,tv,tv,⟨tv,dT _⟩,⟨tv,dT _⟩,tv⟩,(zC ⟨⟨tv,dE _⟩,⟨tv,dC _⟩,tv⟩ zA),⟨⟨tv,tv,dT _,tv⟩,tv,tv⟩,(zC ⟨dE _,dC _,tv⟩ zA)⟩
theorem zQQ(l:List zU)(i:Int)(h0:0≤i)(h1:i<l.length)(hk:(zK l i).kind=2):zR (jQ l l.length 0) i=some (xU l i):=by
 unfold zR
 rw[if_pos h0,zHz l l.length 0 i.toNat (by omega),show ((0+i.toNat:Nat):Int)=i by omega,if_pos hk]
theorem zUv(l:List zU)(t:Tm)(of b:Int):zDl (N3 l t of b):=by
 unfold N3
 split
 ·rename_i h
  have hw:=rC (t:=t) (l:=(yR t).1) (y:=(yR t).2.1) (by rw[←h.1])
  have hs:=zI hw.2.2.2.2.1
  have hal:=sB _ hs.2.2
  refine⟨fun x hx=>zX (hw.2.2.2.2.2 x hx),fun x hx=>zX (yW hw.2.2.2.2.1 (List.mem_of_mem_drop hx)),?_,?_⟩
  ·show (yR t).1.length≤_
   omega
  ·show ((yG (yR t).2.1).drop _).length≤_
   rw[List.length_drop];omega
 ·exact⟨vK.nil,vK.nil,by simp,by simp⟩
theorem zHr(l:List zU)(of:Int):∀(r:List Tm) (b:Int),∀x∈nB l of r b,zDl x
 | [],_,x,h=>nomatch h
 |a::r,b,x,h=>by
  rcases List.mem_cons.1 h with h|h
  ·rw[h];exact zUv l a of b
  ·exact zHr l of r (b+1) x h
def zBv(l:List zU)(i:Int)(a:List Tm)(x:Tm×Int):Prop:=
 x.1.Ok∧x.2≠8∧(x.2=0->(a.length:Int)=(zK l (zK l i).fam).fields.length∧0≤(zK l i).place∧(zK l i).place<a.length∧x.1=nth a (zK l i).place)
theorem zJP{N:ByteArray->Bool}(l:List zU)(parts:List sZ)(i:Int)(a:List Tm)(hE:xA N l)(ho:vK a)(hl:a.length≤1073741824):zM (fun q=>zDj q l parts i a) (zBv l i a):=by
 simp only[zDj]
 have bad:∀e:Int,e≠8->e≠0->zBv l i a (.mk 0 0 [],e):=fun e h8 h0=>⟨vX 0 0,h8,fun h=>absurd h h0⟩
 refine zM.bind (P:=fun b=>b=kH l i 4) ((zFg l i 4).tot rfl) fun b hb=>zM.ite (fun hT=>?_) fun _=>zM.ret (bad _ (by decide) (by decide))
 rw[hT]at hb
 have hi:=wU hb.symm
 have hp:=(yQ (hE.2 i hi.1 hi.2.1)).2.2.2.1 hi.2.2
 unfold dW at hp
 simp only[Bool.and_eq_true]at hp
 have hw:=tZ hp.1
 have h6:=hw.2.2.2.2.2
 unfold V4 at h6
 rw[if_pos hi.2.2]at h6
 refine zM.pure (yP hi.1 hi.2.1) (zM.pure (yP hw.1 (by omega)) (zM.ite (fun _=>zM.ret (bad _ (by decide) (by decide))) fun hn=>?_))
 have hn':(a.length:Int)=(zK l (zK l i).fam).fields.length:=by simpa using hn
 refine zM.bind (P:=fun _=>True) ((bH a hl ho).tot trivial) fun _ _=>zM.ite (fun _=>?_) fun _=>zM.ret (bad _ (by decide) (by decide))
 have h7:(zK l i).place<a.length:=by omega
 have hx:=tR (l:=a) hw.2.2.2.2.1 h7
 exact zM.pure hx (zM.ret ⟨ho _ (rD hw.2.2.2.2.1 h7),by simp,fun _=>⟨hn',hw.2.2.2.2.1,h7,rfl⟩⟩)
def tD(d lev:Int)(args own:List Tm)(pars:Nat):List uT->Nat->Tm->Tm
 | [],_,t=>t
 |r::rs,v,t=>tD d lev args own pars rs (v+1) (if r.is=true then .mk 5 0 [t,I9 (.mk 7 d [.mk 2 lev []]) args (args.take pars++own.take v) r (nth own v)]else t)
def kL(l:List zU)(d lev c:Int)(args own:List Tm):Tm:=
 tD d lev args own (zK l d).pars.toNat (xU l c).recs 0 (wJ (nth args ((zK l d).pars+1+(zK l c).place)) own)
theorem zJQ{N:ByteArray->Bool}(l:List zU)(parts:List sZ)(i p2:Int)(p4 p5:List Tm)(x:sZ)(hE:xA N l)(h0:0≤i)(h1:i<l.length)(hk:(zK l i).kind=1)(hp:(zK l i).pars≤p4.length)(hl4:p4.length≤65535)(h5:p5.length=x.recs.length)(hl5:p5.length≤65535)
  (ho4:vK p4) (ho5:vK p5) (hx:∀r∈x.recs,zDl r):∀(r:List uT) (v:Nat) (e:Int) (t:Tm),x.recs.drop v=r->t.Ok->zM (fun q=>mY q l parts i p2 p4 p5 x (v:Int) e t.k t.n t.sub)
   (fun y=>y.1.Ok∧(e≠8->y.2≠8)∧(y.2=0->e=0∧y.1=tD i p2 p4 p5 (zK l i).pars.toNat r v t∧zH y.1=true)):=by
 have hf:=wE ((yQ (hE.2 i h0 h1)).2.1 hk)
 intro r
 induction r with
 |nil=>
  intro v e t hd ht
  refine zM.succ ?_
  simp only[mY,uQ]
  refine zM.ite (fun h=>?_) fun _=>(zNq e t ht).bind fun r h=>zM.ret ⟨h.1,h.2.1,fun h0=>?_⟩
  ·rw[drop_nil hd]at h;cases h
  ·have k:=h.2.2 h0
   exact⟨k.1,k.2.1,by show zH r.1=true;rw[k.2.1];exact k.2.2⟩
 |cons z r ih=>
  intro v e t hd ht
  have hlt:=yY hd
  have hz:z∈x.recs:=by
   have:z∈x.recs.drop v:=by rw[hd];simp
   exact List.mem_of_mem_drop this
  refine zM.succ ?_
  simp only[mY,uQ]
  refine zM.ite (fun _=>?_) fun h=>?_
  ·refine zM.pure (yD hd) (zM.ite (fun hzi=>?_) fun hzi=>?_)
   ·refine zM.pure (yP h0 h1) (zM.pure (O7 (by omega) (by omega) hp) (zM.pure (xB (by simp<;>omega)) (zM.pure (O7 (by omega) (by omega) (by omega)) (zM.pure (xB (by simp<;>omega)) ?_))))
    refine zM.bind (P:=fun y=>y=Tm.mk 7 i [Tm.mk 2 p2 []]) (zG.tot (r:=Tm.mk 7 i [Tm.mk 2 p2 []]) (zG.mk fun _=>rfl) rfl) fun r44 h44=>?_
    subst h44
    have hnv:(v:Int)<p5.length:=by omega
    refine zM.pure (tR (l:=p5) (n:=(v:Int)) (by omega) hnv) ?_
    refine(W2 e (.mk 7 i [.mk 2 p2 []]) p4 _ z (nth p5 v) (zTZ (vX _ _)) ho4 (by omega) ?_ ?_ (hx z hz) (ho5 _ (rD (by omega) hnv))).bind fun r48 h48=>?_
    ·exact(vK.nil.app ((ho4.drop _).take _)).app ((ho5.drop _).take _)
    ·simp only[List.length_append,List.length_take,List.length_drop,List.length_nil];omega
    refine zM.bind (P:=fun y=>y=Tm.mk 5 0 [t,r48.1]) ((cX t r48.1).tot rfl) fun r50 h50=>?_
    subst h50
    rw[yE v (by omega)]
    refine(ih (v+1) r48.2 (.mk 5 0 [t,r48.1]) (zZ hd) (fF ht h48.1)).mono fun y hy=>⟨hy.1,fun he=>hy.2.1 (h48.2.1 he),fun he=>?_⟩
    have k:=hy.2.2 he
    have k4:=h48.2.2 k.1
    refine⟨k4.1,?_,k.2.2⟩
    rw[k.2.1,k4.2,tD,if_pos hzi]
    simp
   ·rw[yE v (by omega)]
    refine(ih (v+1) e t (zZ hd) ht).mono fun y hy=>⟨hy.1,hy.2.1,fun he=>?_⟩
    have k:=hy.2.2 he
    refine⟨k.1,?_,k.2.2⟩
    rw[k.2.1,tD,if_neg (by simpa using hzi)]
  ·rw[yK hd]at h;cases h
def zFf(l:List zU)(d lev c:Int)(args own:List Tm)(x:Tm×Int):Prop:=
 x.1.Ok∧x.2≠8∧(x.2=0->(0≤lev∧lev≤7)∧kH l d 1=true∧kH l c 2=true∧(zK l c).fam=d∧(args.length:Int)=(zK l d).pars+1+(zK l d).cons.length∧own.length=(xU l c).args.length∧args.all zH=true∧own.all zH=true∧x.1=kL l d lev c args own∧zH x.1=true)
theorem zNp{N:ByteArray->Bool}(l:List zU)(i p2 c:Int)(p4 p5:List Tm)(hE:xA N l)(ho4:vK p4)(ho5:vK p5)(hl4:p4.length≤65535)(hl5:p5.length≤65535):zM (fun q=>zDi q l (jQ l l.length 0) i p2 c p4 p5) (zFf l i p2 c p4 p5):=by
 have bad:∀e:Int,e≠8->e≠0->zFf l i p2 c p4 p5 (.mk 0 0 [],e):=fun e h8 h0=>⟨vX 0 0,h8,fun h=>absurd h h0⟩
 simp only[zDi]
 refine zM.bind (P:=fun b=>b=kH l i 1) ((zFg l i 1).tot rfl) fun b hb=>zM.ite (fun hT=>?_) fun _=>zM.ret (bad _ (by decide) (by decide))
 rw[hT]at hb
 have hi:=wU hb.symm
 refine zM.ite (fun _=>zM.ret (bad _ (by decide) (by decide))) fun hv0=>zM.ite (fun _=>zM.ret (bad _ (by decide) (by decide))) fun hv1=>?_
 have hv0':=of_decide_eq_false hv0
 have hv1':=of_decide_eq_false hv1
 refine zM.bind (P:=fun b=>b=kH l c 2) ((zFg l c 2).tot rfl) fun b2 hb2=>zM.ite (fun hT=>?_) fun _=>zM.ret (bad _ (by decide) (by decide))
 rw[hT]at hb2
 have hc:=wU hb2.symm
 have hf:=wE ((yQ (hE.2 i hi.1 hi.2.1)).2.1 hi.2.2)
 obtain⟨A,y,hw,hy,hA,hAp,hA24,p0,p1,f0,f1,fk,fp,fi,fs,hap,q0,q1⟩:=vB hE hc.1 hc.2.1 hc.2.2
 refine zM.pure (yP hc.1 hc.2.1) (zM.ite (fun _=>zM.ret (bad _ (by decide) (by decide))) fun hn=>?_)
 have hfam:(zK l c).fam=i:=by simpa using hn
 refine zM.pure (zQQ l c hc.1 hc.2.1 hc.2.2) (zM.pure (yP hi.1 hi.2.1) ?_)
 rw[hfam]at fp q1 fi fs
 rw[yM (x:=(zK l i).pars+1) (by omega) (by omega),yM (x:=(zK l i).pars+1+(zK l i).cons.length) (by omega) (by omega),yM (x:=(zK l i).pars+1+(zK l c).place) (by omega) (by omega)]
 refine zM.ite (fun _=>zM.ret (bad _ (by decide) (by decide))) fun hn4=>zM.ite (fun _=>zM.ret (bad _ (by decide) (by decide))) fun hn5=>?_
 have hn4':(p4.length:Int)=(zK l i).pars+1+(zK l i).cons.length:=by simpa using hn4
 have hn5':(p5.length:Int)=(xU l c).args.length:=by simpa using hn5
 refine zM.bind (P:=fun b=>b=p4.all zH) ((bH p4 (by omega) ho4).tot rfl) fun b4 hb4=>zM.ite (fun hs4=>?_) fun _=>zM.ret (bad _ (by decide) (by decide))
 refine zM.bind (P:=fun b=>b=p5.all zH) ((bH p5 (by omega) ho5).tot rfl) fun b5 hb5=>zM.ite (fun hs5=>?_) fun _=>zM.ret (bad _ (by decide) (by decide))
 have h7:(zK l i).pars+1+(zK l c).place<p4.length:=by omega
 refine zM.pure (tR (l:=p4) (by omega) h7) (zM.bind (P:=fun z=>z=wJ (nth p4 ((zK l i).pars+1+(zK l c).place)) p5) ((rM _ p5 (by omega)).tot rfl) fun r26 h26=>?_)
 subst h26
 have hlen:(xU l c).recs.length=(xU l c).args.length:=by unfold xU;exact kI l _ _ _
 refine(zJQ l _ i p2 p4 p5 (xU l c) hE hi.1 hi.2.1 hi.2.2 (by omega) hl4 (by omega) hl5 ho4 ho5 (by unfold xU;exact zHr l _ _ _) _ 0 0 _ rfl (pQ _ _ (ho4 _ (rD (by omega) h7)) ho5)).mono fun x hx=>⟨hx.1,hx.2.1 (by decide),fun h0=>?_⟩
 have k:=hx.2.2 h0
 exact⟨⟨by omega,by omega⟩,hb.symm,hb2.symm,hfam,hn4',by omega,by rw[←hb4];exact hs4,by rw[←hb5];exact hs5,k.2.1,k.2.2⟩
section
variable {P:Int->Int->Prop}
theorem zHq{k:Int}{l:List Tm}(h:∀a∈l,xH P a):∀a∈M3 k l,xH P a:=fun a ha=>by
 obtain⟨x,hx,rfl⟩:=List.mem_map.1 ha
 exact O6 x 0 0 k (h x hx)
theorem zDh:∀m,∀a∈kK m,xH P a
 |0,a,h=>nomatch h
 |m+1,a,h=>by
  rcases List.mem_cons.1 h with rfl|h
  ·exact bG (.inl rfl)
  ·exact zDh m a h
theorem zHp:∀m v,∀a∈I8 m v,xH P a
 |0,_,a,h=>nomatch h
 |m+1,v,a,h=>by
  rcases List.mem_cons.1 h with rfl|h
  ·exact bG (.inl rfl)
  ·exact zHp m (v+1) a h
theorem zDg{t:Tm}{own:Nat}{outer:List Tm}(h:xH P t)(ho:∀a∈outer,xH P a):xH P (oZ t own outer):=by
 refine zBz _ (fun a ha=>?_) t 0 h
 rcases List.mem_append.1 ha with ha|ha
 ·exact zHp _ _ a ha
 ·exact zHq ho a (List.mem_reverse.1 ha)
theorem b7{outer:List Tm}(ho:∀a∈outer,xH P a):∀(l:List Tm) (v:Nat),(∀a∈l,xH P a)->∀a∈sU outer l v,xH P a
 | [],v,h,a,ha=>nomatch ha
 |t::l,v,h,a,ha=>by
  rcases List.mem_cons.1 ha with rfl|ha
  ·exact zDg (h t (by simp)) ho
  ·exact b7 ho l (v+1) (fun x hx=>h x (by simp[hx])) a ha
theorem zDf(h4:P 4 0):∀(l:List Tm) (t:Tm),(∀a∈l,xH P a)->xH P t->xH P (lM l t)
 | [],t,_,ht=>ht
 |a::l,t,h,ht=>zAZ (.inr h4) (h a (by simp)) (zDf h4 l t (fun x hx=>h x (by simp[hx])) ht)
theorem zNo{head:Tm}{args outer:List Tm}{r:uT}{a:Tm}(h4:P 4 0)(h5:P 5 0)(hh:xH P head)(hargs:∀a∈args,xH P a)(hout:∀a∈outer,xH P a)(hr:(∀t∈r.around,xH P t)∧∀t∈r.at',xH P t)(ha:xH P a):xH P (I9 head args outer r a):=by
 refine zDf h4 _ _ (b7 hout _ 0 hr.1) (zAZ (.inr h5) ?_ ?_)
 ·refine mX _ _ h5 (mX _ _ h5 hh (zHq hargs)) fun x hx=>?_
  obtain⟨t,ht,rfl⟩:=List.mem_map.1 hx
  exact zDg (hr.2 t ht) hout
 ·exact mX _ _ h5 (O6 a 0 0 _ ha) (zDh _)
theorem zBu{Q:Tm->Prop}{l:List Tm}{n:Int}(h:∀a∈l,Q a)(hz:Q zT):Q (nth l n):=by
 unfold nth
 cases e:l[n.toNat]? with
 |none=>exact hz
 |some x=>exact h x (List.mem_of_getElem? e)
theorem W3{d lev:Int}{args own:List Tm}{pars:Nat}(h4:P 4 0)(h5:P 5 0)(h0:P 0 0)(h2:P 2 lev)(h7:P 7 d)(hargs:∀a∈args,xH P a)(hown:∀a∈own,xH P a) :
  ∀(rs:List uT) (v:Nat) (t:Tm),(∀r∈rs,(∀t∈r.around,xH P t)∧∀t∈r.at',xH P t)->xH P t->xH P (tD d lev args own pars rs v t)
 | [],v,t,_,ht=>ht
 |r::rs,v,t,hr,ht=>by
  rw[tD]
  refine W3 h4 h5 h0 h2 h7 hargs hown rs (v+1) _ (fun x hx=>hr x (by simp[hx])) ?_
  split
  ·refine zAZ (.inr h5) ht (zNo h4 h5 (zTU (.inr h7) (bG (.inr h2))) hargs ?_ (hr r (by simp)) (zBu hown (bG (.inr h0))))
   intro a ha
   rcases List.mem_append.1 ha with ha|ha
   ·exact hargs a (List.mem_of_mem_take ha)
   ·exact hown a (List.mem_of_mem_take ha)
  ·exact ht
theorem zJR{l:List zU}{d lev c:Int}{args own:List Tm}(h4:P 4 0)(h5:P 5 0)(h0:P 0 0)(h2:P 2 lev)(h7:P 7 d)(hargs:∀a∈args,xH P a)(hown:∀a∈own,xH P a)(hr:∀r∈(xU l c).recs,(∀t∈r.around,xH P t)∧∀t∈r.at',xH P t):xH P (kL l d lev c args own):=
 W3 h4 h5 h0 h2 h7 hargs hown _ 0 _ hr (mX _ _ h5 (zBu hargs (bG (.inr h0))) hown)
theorem eO{t:Tm}{l:List Tm}{y:Tm}(h:yR t=(l,y,0)):xG t=true∧kF l.length t=some (l,y):=by
 have hw:=rC h
 have hg:=(zI hw.1).2.2
 unfold yR vY at h
 rw[if_pos hw.1,if_neg (by omega),if_neg (by omega)]at h
 rw[show (((min (vZ t) 25:Nat):Int)).toNat=l.length by omega]at h
 cases e:kF l.length t with
 |none=>rw[e]at h;simp[zAT]at h
 |some r=>
  rw[e]at h
  simp only[zAT,List.nil_append,Prod.mk.injEq,and_true]at h
  exact⟨hg,by rw[←h.1,←h.2]⟩
theorem zNn{l:List zU}{t:Tm}{of b:Int}(h:xH P t):(∀x∈(N3 l t of b).around,xH P x)∧∀x∈(N3 l t of b).at',xH P x:=by
 unfold N3
 split
 ·rename_i a
  have hw:=eO (t:=t) (l:=(yR t).1) (y:=(yR t).2.1) (by rw[←a.1])
  have hs:=V8 _ _ _ hw.1 hw.2 h
  have hy:=(zI (rC (t:=t) (l:=(yR t).1) (y:=(yR t).2.1) (by rw[←a.1])).2.2.2.2.1).2.2
  exact⟨hs.2,fun x hx=>(jR _ hy hs.1).2 x (List.mem_of_mem_drop hx)⟩
 ·exact⟨fun x hx=>(nomatch hx),fun x hx=>(nomatch hx)⟩
theorem b8{l:List zU}{of:Int}:∀(r:List Tm) (b:Int),(∀t∈r,xH P t)->∀x∈nB l of r b,(∀t∈x.around,xH P t)∧∀t∈x.at',xH P t
 | [],b,h,x,hx=>nomatch hx
 |a::r,b,h,x,hx=>by
  rcases List.mem_cons.1 hx with hx|hx
  ·rw[hx];exact zNn (h a (by simp))
  ·exact b8 r (b+1) (fun t ht=>h t (by simp[ht])) x hx
theorem zFe{l:List zU}{i:Int}(hw:(yR (zK l i).type).2.2=0)(h:xH P (zK l i).type):∀r∈(xU l i).recs,(∀t∈r.around,xH P t)∧∀t∈r.at',xH P t:=by
 have hs:=eO (t:=(zK l i).type) (l:=(yR (zK l i).type).1) (y:=(yR (zK l i).type).2.1) (by rw[←hw])
 have ha:=V8 _ _ _ hs.1 hs.2 h
 unfold xU
 exact b8 _ _ fun t ht=>ha.2 t (List.mem_of_mem_drop ht)
end
theorem zNm:∀(m v i:Nat) (h:i<(I8 m v).length),(I8 m v)[i] = .mk 1 ((v+i:Nat):Int) []
 |0,v,i,h=>by simp[I8]at h
 |m+1,v,0,h=>by simp[I8]
 |m+1,v,i+1,h=>by
  have:=zNm m (v+1) i (by simpa[I8]using h)
  simp only[I8,List.getElem_cons_succ]
  rw[this,show v+1+i=v+(i+1) by omega]
theorem zNl:∀(m:Nat) (k j:Int),(m:Int)≤k->∀a∈kK m,¬j∈tC a k
 |0,k,j,_,a,h=>nomatch h
 |m+1,k,j,hk,a,h=>by
  rcases List.mem_cons.1 h with rfl|h
  ·intro hj;have:=rG.1 hj;omega
  ·exact zNl m k j (by omega) a h
theorem zHo:∀(l:List Tm) (t:Tm) (d j:Int),j∈tC (lM l t) d->(∃(i:Nat) (h:i<l.length),j∈tC l[i] (d+i))∨j∈tC t (d+l.length)
 | [],t,d,j,h=>.inr (by simpa[lM]using h)
 |a::l,t,d,j,h=>by
  rcases zMT.1 h with h|h
  ·exact .inl ⟨0,by simp,by simpa using h⟩
  ·rcases zHo l t (d+1) j h with⟨i,hi,h⟩|h
   ·refine .inl ⟨i+1,by simp;omega,?_⟩
    rw[show d+((i+1:Nat):Int)=d+1+i by omega]
    simpa using h
   ·refine .inr ?_
    rw[show d+((a::l).length:Int)=d+1+l.length by simp;omega]
    exact h
theorem zNk{t:Tm}{own:Nat}{outer:List Tm}{j:Int}(hs:∀i∈tC t own,i<outer.length)(h:j∈tC (oZ t own outer) own):∃a∈outer,j∈tC a 0:=by
 have hj:=W0 _ _ _ h
 have h0:j+own∈tC (oZ t own outer) 0:=((qV _ 0 own j (by omega)).1 (by rwa[Int.zero_add])).2
 obtain⟨i,hi,h1⟩:=zMP _ t 0 _ (Int.le_refl 0) h0
 have hi0:=W0 _ _ _ hi
 have hb:i<own+outer.length:=by
  by_cases hio:(own:Int)≤i
  ·have:=hs (i-own) (by
    have:=(qV t 0 own (i-own) (by omega)).2 ⟨by omega,by rwa[show i-own+own=i by omega]⟩
    rwa[Int.zero_add]at this)
   omega
  ·omega
 have hlen:(I8 own 0++(M3 own outer).reverse).length=own+outer.length:=by simp[jZ,M3]
 rcases h1 with h1|⟨h1,h2⟩
 ·rw[hlen]at h1;omega
 ·by_cases hio:(own:Int)≤i
  ·rw[List.getElem_append_right (by rw[jZ];omega)]at h2
   have hm:=List.getElem_mem (l:=(M3 own outer).reverse) (n:=i.toNat-(I8 own 0).length) (by rw[hlen]at h1;simp[jZ,M3];omega)
   rw[List.mem_reverse]at hm
   obtain⟨a,ha,e⟩:=List.mem_map.1 hm
   rw[←e]at h2
   obtain⟨x,hx,e2⟩:=zSk a 0 0 own _ (by omega) h2
   have:=W0 _ _ _ hx
   rw[if_neg (by omega)]at e2
   exact⟨a,ha,by rwa[show j=x by omega]⟩
  ·rw[List.getElem_append_left (by rw[jZ];omega),zNm]at h2
   have:=rG.1 h2
   omega
theorem fG(outer:List Tm):∀(l:List Tm) (v:Nat),(sU outer l v).length=l.length
 | [],_=>rfl
 |t::l,v=>congrArg (· + 1) (fG outer l (v+1))
theorem zDe(outer:List Tm):∀(l:List Tm) (v i:Nat) (h:i<(sU outer l v).length) (h':i<l.length),(sU outer l v)[i]=oZ l[i] (v+i) outer
 | [],v,i,h,h'=>by simp at h'
 |t::l,v,0,h,h'=>by simp[sU]
 |t::l,v,i+1,h,h'=>by
  simp only[sU,List.getElem_cons_succ]
  rw[zDe outer l (v+1) i _ (by simpa using h'),show v+1+i=v+(i+1) by omega]
def D0(r:uT)(n:Nat):Prop:=(∀(i:Nat) (h:i<r.around.length),∀j∈tC r.around[i] i,j<n)∧∀t∈r.at',∀j∈tC t r.around.length,j<n
theorem zUu{head:Tm}{args outer:List Tm}{r:uT}{a:Tm}{j:Int}(hr:D0 r outer.length)(hh:∀d j,¬j∈tC head d)(h:j∈tC (I9 head args outer r a) 0):(∃x∈args,j∈tC x 0)∨(∃x∈outer,j∈tC x 0)∨j∈tC a 0:=by
 rcases zHo _ _ 0 j h with⟨i,hi,h⟩|h
 ·rw[fG]at hi
  rw[zDe outer r.around 0 i _ hi,Nat.zero_add,Int.zero_add]at h
  exact .inr (.inl (zNk (hr.1 i hi) h))
 ·rw[fG,Int.zero_add]at h
  rcases I6.1 h with h|h
  ·rcases(W1 _ _ _ _).1 h with h|⟨x,hx,h⟩
   ·rcases(W1 _ _ _ _).1 h with h|⟨x,hx,h⟩
    ·exact absurd h (hh _ _)
    ·obtain⟨y,hy,rfl⟩:=List.mem_map.1 hx
     exact .inl ⟨y,hy,zHx y 0 (r.around.length:Int) j (by omega) (by rwa[Int.zero_add])⟩
   ·obtain⟨y,hy,rfl⟩:=List.mem_map.1 hx
    exact .inr (.inl (zNk (hr.2 y hy) h))
  ·rcases(W1 _ _ _ _).1 h with h|⟨x,hx,h⟩
   ·exact .inr (.inr (zHx a 0 (r.around.length:Int) j (by omega) (by rwa[Int.zero_add])))
   ·exact absurd h (zNl _ _ _ (Int.le_refl _) x hx)
theorem zNj{l:List Tm}{n d j:Int}(h:j∈tC (nth l n) d):∃a∈l,j∈tC a d:=by
 unfold nth at h
 cases e:l[n.toNat]? with
 |none=>rw[e]at h;exact absurd h (zHw (by decide))
 |some x=>rw[e]at h;exact⟨x,List.mem_of_getElem? e,h⟩
theorem zDd{d lev:Int}{args own:List Tm}{pars:Nat}{j:Int}(hp:pars≤args.length):∀(rs:List uT) (v:Nat) (t:Tm),v+rs.length≤own.length->(∀(i:Nat) (h:i<rs.length),D0 rs[i] (pars+(v+i)))->j∈tC (tD d lev args own pars rs v t) 0->j∈tC t 0∨(∃x∈args,j∈tC x 0)∨∃x∈own,j∈tC x 0
 | [],v,t,_,_,h=>.inl h
 |r::rs,v,t,hl,hr,h=>by
  rw[List.length_cons]at hl
  rw[tD]at h
  rcases zDd hp rs (v+1) _ (by omega) (fun i hi=>by
   have:=hr (i+1) (by simp;omega)
   rw[show v+1+i=v+(i+1) by omega]
   simpa using this) h with h|h|h
  ·split at h
   ·rcases I6.1 h with h|h
    ·exact .inl h
    ·have hsc:=hr 0 (by simp)
     rcases zUu (j:=j) (by
      rw[List.length_append,List.length_take,List.length_take,show min pars args.length+min v own.length=pars+(v+0) by omega]
      simpa using hsc) (fun d j=>zWH (by decide)) h with h|⟨x,hx,h⟩|h
     ·exact .inr (.inl h)
     ·rcases List.mem_append.1 hx with hx|hx
      ·exact .inr (.inl ⟨x,List.mem_of_mem_take hx,h⟩)
      ·exact .inr (.inr ⟨x,List.mem_of_mem_take hx,h⟩)
     ·exact .inr (.inr (zNj h))
   ·exact .inl h
  ·exact .inr (.inl h)
  ·exact .inr (.inr h)
theorem zUt{l:List zU}{t:Tm}{of b:Int}{n:Nat}(h:∀j,j∈tC t 0->j<n):D0 (N3 l t of b) n:=by
 unfold N3
 split
 ·rename_i a
  have hw:=eO (t:=t) (l:=(yR t).1) (y:=(yR t).2.1) (by rw[←a.1])
  have hy:=(zI (rC (t:=t) (l:=(yR t).1) (y:=(yR t).2.1) (by rw[←a.1])).2.2.2.2.1).2.2
  refine⟨fun i hi j hj=>?_,fun x hx j hj=>?_⟩
  ·exact h j ((zBy _ _ _ hw.1 hw.2 0 j).2 i hi (by rwa[Int.zero_add]))
  ·exact h j ((zBy _ _ _ hw.1 hw.2 0 j).1 (by rw[Int.zero_add];exact(C7 _ hy _ j).2 x (List.mem_of_mem_drop hx) hj))
 ·exact⟨fun i hi=>by simp at hi,fun x hx=>(nomatch hx)⟩
theorem zHn{l:List zU}{of:Int}:∀(r:List Tm) (B:Int) (b:Nat),(∀(i:Nat) (h:i<r.length),∀j,j∈tC r[i] 0->j<(b+i:Nat))->∀(i:Nat) (h:i<(nB l of r B).length),D0 (nB l of r B)[i] (b+i)
 | [],B,b,h,i,hi=>by simp[nB]at hi
 |a::r,B,b,h,0,hi=>by
  simp only[nB,List.getElem_cons_zero]
  exact zUt fun j hj=>h 0 (by simp) j (by simpa using hj)
 |a::r,B,b,h,i+1,hi=>by
  simp only[nB,List.getElem_cons_succ]
  have:=zHn (l:=l) (of:=of) r (B+1) (b+1) (fun i hi j hj=>by
   have:=h (i+1) (by simp;omega) j (by simpa using hj)
   omega) i (by simpa[nB]using hi)
  rw[show b+(i+1)=b+1+i by omega]
  exact this
theorem W4{N:ByteArray->Bool}{l:List zU}{i:Int}(hE:xA N l)(h0:0≤i)(h1:i<l.length)(hk:(zK l i).kind=2):∀(v:Nat) (h:v<(xU l i).recs.length),D0 (xU l i).recs[v] ((zK l i).pars.toNat+v):=by
 obtain⟨A,y,hw,hy,hA,hAp,hA24,p0,p1,-⟩:=vB hE h0 h1 hk
 have hc:=(yQ (hE.2 i h0 h1)).1
 have hs:=eO hw
 have hsc:∀(n:Nat) (h:n<(A.drop (zK l i).pars.toNat).length),∀j,j∈tC (A.drop (zK l i).pars.toNat)[n] 0->j<((zK l i).pars.toNat+n:Nat):=fun n h j hj=>by
  rw[List.getElem_drop]at hj
  have hn:(zK l i).pars.toNat+n<A.length:=by simp at h;omega
  have hj0:=W0 _ _ _ hj
  rcases Int.lt_or_le j (((zK l i).pars.toNat+n:Nat):Int)with hlt|hge
  ·exact hlt
  ·have h2:j-(((zK l i).pars.toNat+n:Nat):Int)∈tC A[(zK l i).pars.toNat+n] (0+(((zK l i).pars.toNat+n:Nat):Int)):=(qV _ 0 _ _ (by omega)).2 ⟨by omega,by rwa[show j-(((zK l i).pars.toNat+n:Nat):Int)+(((zK l i).pars.toNat+n:Nat):Int)=j by omega]⟩
   have h3:=(zBy _ _ _ hs.1 hs.2 0 _).2 _ hn h2
   exact absurd h3 (I7 hc 0 _ (Int.le_refl 0))
 have hr:=zHn (l:=l) (of:=(zK l i).fam) (A.drop (zK l i).pars.toNat) (zK l i).pars (zK l i).pars.toNat hsc
 have e:(xU l i).recs=nB l (zK l i).fam (A.drop (zK l i).pars.toNat) (zK l i).pars:=by
  unfold xU
  rw[hw]
 intro v h
 have:=hr v (by rw[←e];exact h)
 simpa[e]using this
theorem zQR{N:ByteArray->Bool}{l:List zU}{d lev c:Int}{args own:List Tm}{j:Int}(hE:xA N l)(hc:kH l c 2=true)(hf:(zK l c).fam=d)(ha:(args.length:Int)=(zK l d).pars+1+(zK l d).cons.length)(ho:own.length=(xU l c).args.length)(h:j∈tC (kL l d lev c args own) 0):(∃x∈args,j∈tC x 0)∨∃x∈own,j∈tC x 0:=by
 have hi:=wU hc
 obtain⟨A,y,hw,hy,hA,hAp,hA24,p0,p1,f0,f1,fk,fp,-⟩:=vB hE hi.1 hi.2.1 hi.2.2
 rw[hf]at fp
 have hlen:(xU l c).recs.length=(xU l c).args.length:=by unfold xU;exact kI l _ _ _
 have hsc:=W4 hE hi.1 hi.2.1 hi.2.2
 rcases zDd (pars:=(zK l d).pars.toNat) (by omega) _ 0 _ (by omega) (fun i hi=>by
  have:=hsc i hi
  rwa[fp,show (zK l d).pars.toNat+i=(zK l d).pars.toNat+(0+i) by omega]at this) h with h|h
 ·rcases(W1 _ _ _ _).1 h with h|h
  ·exact .inl (zNj h)
  ·exact .inr h
 ·exact h
def zBt(qq:Nat)(M:wF)(p1:Tm):Option Int:=
 if p1.k != 6 then
 some 0
 else
 if decide (p1.n≥(M.l.length:Int))then
 some 0
 else
 zR M.l p1.n>>=fun x3=>
 some x3.kind
theorem zUs:Qf 142 f142:=⟨func142,rfl⟩
theorem zNi{qq M p1 r}(h:zBt qq M p1=some r):Ct 142 [mB M 1,mR M] [.mp 0 0,xF p1] (ai r) [mB M 1,mR M] 0:=⟨by
 unfold zBt at h
 obtain⟨h1,h⟩|⟨h1,h⟩:=zL h
 obtain rfl:=sj h
 exact tF zUs 0 [0,1] (rF M<|oB 1 h1 o0)
 have k:=oB 1 h1 o0
 obtain⟨h2,h⟩|⟨h2,h⟩:=zL h
 obtain rfl:=sj h
 exact tF zUs 0 [0,1] (rF M<|oB 3 h2 k)
 obtain⟨x3,h4,h⟩:=zB h
 obtain rfl:=sj h
 exact tF zUs 1 [0,1] (rF M<|oA 2 (wM (o:=.no) h4)<|oB 3 h2 k),⟨(lz rfl),⟨tv,tv,⟨tv,dT _⟩,tv⟩,tv⟩,(eH (lz rfl) zA),tv,(iY (lz rfl) zA)⟩
def zFd(qq:Nat)(M:wF)(p1:Tm):Option (Int×zQ×Bool):=
 e62 qq p1>>=fun r1=>
 zBt qq M r1.1>>=fun r3=>
 if r3 != 2 then
 some (0,[],false)
 else
 zR M.own r1.1.n>>=fun x6=>
 if (r1.2.length:Int) != x6 then
 some (0,[],false)
 else
 some (r1.1.n,r1.2,true)
theorem zUr:Qf 112 f112:=⟨func112,rfl⟩
theorem zUq{qq M p1 r}(h:zFd qq M p1=some r):Ct 112 [mB M 1,mR M] [.mp 0 0,xF p1] (.tup [ai r.1,.sl (flat zD r.2.1) r.2.1.length .no,ab r.2.2]) [mB M 1,mR M] 0:=⟨by
 unfold zFd at h
 obtain⟨r1,h2,h⟩:=zB h
 obtain⟨r3,h4,h⟩:=zB h
 have k:=oC 4 [0,1] (zNi h4)<|oC 1 [] (c62 h2) o0
 obtain⟨h5,h⟩|⟨h5,h⟩:=zL h
 cases h
 exact tF zUr 0 [0,1] (oD (dT ([]:zQ))<|rF M<|oB 0 h5 k)
 obtain⟨x6,h7,h⟩:=zB h
 have k:=oA 3 (I0 (o:=.no) h7)<|oB 0 h5 k
 obtain⟨h8,h⟩|⟨h8,h⟩:=zL h
 cases h
 exact tF zUr 0 [0,1] (oD (dT ([]:zQ))<|rF M<|oB 1 h8 k)
 cases h
 exact tF zUr 1 [0,1] (oD (dT r1.2)<|rF M<|oB 1 h8 k),⟨(lz rfl),⟨tv,tv,⟨tv,dT _⟩,tv⟩,tv⟩,(eH (lz rfl) zA),⟨tv,dT _,tv,tv⟩,(iY (lz rfl) zA)⟩
def fH(qq:Nat)(q0 q1 p1:Int):Option (Int×Int):=
 some ((xL (q0+p1)),(xL (q0+p1)))
theorem zNh{qq q0 q1 p1 r}(h:fH qq q0 q1 p1=some r):Ct 188 [.cells [ai q0,ai q1]] [.mp 0 0,ai p1] (ai r.1) [.cells [ai r.2,ai q1]] 0:=⟨by
 unfold fH at h
 cases h
 exact tF ⟨func188,rfl⟩ 1 [0] (o0),⟨(lz rfl),tv,tv⟩,(zC ⟨tv,tv,tv⟩ zA),tv,(zC ⟨tv,tv,tv⟩ zA)⟩
def fI(qq:Nat)(q0 q1 p1:Int):Option (Int×Int):=
 some ((xL (q1+p1)),(xL (q1+p1)))
theorem zNg{qq q0 q1 p1 r}(h:fI qq q0 q1 p1=some r):Ct 188 [.cells [ai q0,ai q1]] [.mp 0 1,ai p1] (ai r.1) [.cells [ai q0,ai r.2]] 0:=⟨by
 unfold fI at h
 cases h
 exact tF ⟨func188,rfl⟩ 1 [0] (o0),⟨(lz rfl),tv,tv⟩,(zC ⟨tv,tv,tv⟩ zA),tv,(zC ⟨tv,tv,tv⟩ zA)⟩
def D1(qq:Nat)(q0 q1:Int):Option Int:=
 some q0
theorem zQS{qq q0 q1 r}(h:D1 qq q0 q1=some r):Ct 41 [.cells [ai q0,ai q1]] [.mp 0 0] (ai r) [.cells [ai q0,ai q1]] 0:=⟨by
 unfold D1 at h
 obtain rfl:=sj h
 exact tF ⟨func41,rfl⟩ 1 [0] (o0),⟨(lz rfl),tv⟩,(zC ⟨tv,tv,tv⟩ zA),tv,(zC ⟨tv,tv,tv⟩ zA)⟩
def zNf(qq:Nat)(fl fu p1:Int):Option (Int×Int×Int):=
 if decide (p1<0)then
 some (8,fl,fu)
 else
 D1 qq fl fu>>=fun r2=>
 if decide (p1>r2)then
 some (8,fl,fu)
 else
 fH qq fl fu (xL (0-p1))>>=fun r5=>
 fI qq r5.2 fu p1>>=fun r7=>
 some (0,r5.2,r7.2)
theorem zUp:Qf 174 f174:=⟨func174,rfl⟩
theorem zYX{qq fl fu p1 r}(h:zNf qq fl fu p1=some r):Ct 174 [.cells [ai fl,ai fu]] [.mp 0 0,ai p1] (ai r.1) [.cells [ai r.2.1,ai r.2.2]] 0:=⟨by
 unfold zNf at h
 obtain⟨h1,h⟩|⟨h1,h⟩:=zL h
 cases h
 exact tF zUp 0 [0] (oB 1 h1 o0)
 obtain⟨r2,h3,h⟩:=zB h
 have k:=oC 0 [0] (zQS h3)<|oB 1 h1 o0
 obtain⟨h4,h⟩|⟨h4,h⟩:=zL h
 cases h
 exact tF zUp 0 [0] (oB 0 h4 k)
 obtain⟨r5,h6,h⟩:=zB h
 obtain⟨r7,h8,h⟩:=zB h
 cases h
 exact tF zUp 0 [0] (oC 0 [0] (zNg h8)<|oC 1 [0] (zNh h6)<|oB 0 h4 k),⟨(lz rfl),tv,tv⟩,(zC ⟨tv,tv,tv⟩ zA),tv,(zC ⟨tv,tv,tv⟩ zA)⟩
def dJ(qq:Nat)(fl fu:Int):Option (Int×Int×Int):=
 zNf qq fl fu 1>>=fun r1=>
 some (r1.1,r1.2.1,r1.2.2)
theorem zFc{qq fl fu r}(h:dJ qq fl fu=some r):Ct 148 [.cells [ai fl,ai fu]] [.mp 0 0] (ai r.1) [.cells [ai r.2.1,ai r.2.2]] 0:=⟨by
 unfold dJ at h
 obtain⟨r1,h2,h⟩:=zB h
 cases h
 exact tF ⟨func148,rfl⟩ 0 [0] (oC 0 [0] (zYX h2) o0),⟨(lz rfl),tv⟩,(zC ⟨tv,tv,tv⟩ zA),tv,(zC ⟨tv,tv,tv⟩ zA)⟩
def J0(qq:Nat)(p0:Tm):Option (Tm×Int):=
 G3 qq p0>>=fun r1=>
 if r1 then
 some (p0,0)
 else
 some ((Tm.mk 0 0 []),2)
theorem zWM:Qf 149 f149:=⟨func149,rfl⟩
theorem zFb{qq p0 r}(h:J0 qq p0=some r):Ct 149 [] [xF p0] (.tup [xF r.1,ai r.2]) [] 0:=⟨by
 unfold J0 at h
 obtain⟨r1,h2,h⟩:=zB h
 obtain⟨h3,h⟩|⟨h3,h⟩:=zL h
 cases h
 exact tF zWM 3 [] (oD (dT p0.sub)<|oK 1 [] h3 (mO h2) o0)
 cases h
 exact tF zWM 2 [] (oD (dT ([]:zQ))<|oK 1 [] h3 (mO h2) o0),⟨⟨tv,tv,⟨tv,dT _⟩,tv⟩,tv⟩,zA,⟨⟨tv,tv,dT _,tv⟩,tv,tv⟩,zA⟩
def zWN{ρ:Type}(f:Int->Int->Nat->Option ρ)(er:ρ->Int)(R:Int->Int->ρ)(k:Int):Prop:=
 (∀L U,k≤L->0≤U->L+U≤1099511627776->zG (f L U) (R (L-k) (U+k)))∧(∀L U,0≤L->L<k->0≤U->L+U≤1099511627776->∃r,zG (f L U) r∧er r=8)
def zUo{ρ:Type}(f:Int->Int->Nat->Option ρ)(er:ρ->Int)(l:Int):Prop:=∀U,0≤U->l+U≤1099511627776->∃r,zG (f l U) r∧er r=8
def Ou{ρ:Type}(f:Int->Int->Nat->Option ρ)(er:ρ->Int)(Q:(Int->Int->ρ)->Int->Prop)(S:Prop)(l:Int):Prop:=
 (∃R k,0≤k∧k≤l∧Q R k∧zWN f er R k)∨(zUo f er l∧S)
section
variable {ρ σ τ:Type} {er:ρ->Int} {er':σ->Int} {Q:(Int->Int->ρ)->Int->Prop} {Q':(Int->Int->σ)->Int->Prop} {S S':Prop} {l:Int}
theorem Ou.imp{f g:Int->Int->Nat->Option ρ}(h:Ou f er Q S l)(k:∀L U r,zG (f L U) r->zG (g L U) r):Ou g er Q S l:=by
 rcases h with⟨R,n,h0,h1,h2,h3,h4⟩|⟨h,s⟩
 ·exact .inl ⟨R,n,h0,h1,h2,fun L U a b c=>k _ _ _ (h3 L U a b c),fun L U a b c d=>by obtain⟨r,x,y⟩:=h4 L U a b c d;exact⟨r,k _ _ _ x,y⟩⟩
 ·exact .inr ⟨fun U a b=>by obtain⟨r,x,y⟩:=h U a b;exact⟨r,k _ _ _ x,y⟩,s⟩
theorem Ou.mono{f:Int->Int->Nat->Option ρ}{Q2:(Int->Int->ρ)->Int->Prop}(h:Ou f er Q S l)(k:∀R n,0≤n->n≤l->Q R n->Q2 R n)(hs:S->S'):Ou f er Q2 S' l:=by
 rcases h with⟨R,n,h0,h1,h2,h3⟩|⟨h,s⟩
 ·exact .inl ⟨R,n,h0,h1,k R n h0 h1 h2,h3⟩
 ·exact .inr ⟨h,hs s⟩
theorem Ou.succ{f:Int->Int->Nat->Option ρ}(h:Ou (fun L U q=>f L U (q+1)) er Q S l):Ou f er Q S l:=h.imp fun _ _ _ h=>h.succ
theorem Ou.pure{x:Option τ}{a:τ}{c:Int->Int->Nat->τ->Option ρ}(h:x=some a)(g:Ou (fun L U q=>c L U q a) er Q S l):Ou (fun L U q=>x>>=c L U q) er Q S l:=g.imp fun _ _ _ k=>zG.pure h k
theorem Ou.evt{x:Nat->Option τ}{a:τ}{c:Int->Int->Nat->τ->Option ρ}(h:zG x a)(g:Ou (fun L U q=>c L U q a) er Q S l):Ou (fun L U q=>x q>>=c L U q) er Q S l:=g.imp fun _ _ _ k=>zG.bind h k
theorem Ou.ite{b:Bool}{f g:Int->Int->Nat->Option ρ}(h:b=true->Ou f er Q S l)(k:b=false->Ou g er Q S l):Ou (fun L U q=>if b=true then f L U q else g L U q) er Q S l:=by
 cases b with
 |true=>exact(h rfl).imp fun _ _ _ x=>zG.ifT rfl x
 |false=>exact(k rfl).imp fun _ _ _ x=>zG.ifF rfl x
theorem Ou.ifT{b:Bool}{f g:Int->Int->Nat->Option ρ}(h:b=true)(k:Ou f er Q S l):Ou (fun L U q=>if b=true then f L U q else g L U q) er Q S l:=Ou.ite (fun _=>k) fun h'=>by rw[h]at h';cases h'
theorem Ou.ifF{b:Bool}{f g:Int->Int->Nat->Option ρ}(h:b=false)(k:Ou g er Q S l):Ou (fun L U q=>if b=true then f L U q else g L U q) er Q S l:=Ou.ite (fun h'=>by rw[h]at h';cases h') fun _=>k
theorem Ou.ret{R:Int->Int->ρ}(h:0≤l)(k:Q R 0):Ou (fun L U _=>some (R L U)) er Q S l:=
 .inl ⟨R,0,by omega,h,k,fun L U _ _ _=>by rw[show L-0=L by omega,show U+0=U by omega];exact zG.ret,fun L U _ _=>by omega⟩
theorem Ou.bind{f:Int->Int->Nat->Option ρ}{c:Nat->ρ->Option σ}(h:Ou f er Q S l)(hs:S->S')(he:∀r,er r=8->∃r',zG (fun q=>c q r) r'∧er' r'=8)
  (hg:∀R k,0≤k->k≤l->Q R k->Ou (fun L U q=>c q (R L U)) er' (fun R' n=>Q' R' (k+n)) S' (l-k)):Ou (fun L U q=>f L U q>>=c q) er' Q' S' l:=by
 rcases h with⟨R,k,h0,h1,h2,h3,h4⟩|⟨h,s⟩
 ·rcases hg R k h0 h1 h2 with⟨R',n,g0,g1,g2,g3,g4⟩|⟨g,s⟩
  ·refine .inl ⟨R',k+n,by omega,by omega,g2,fun L U a b c=>?_,fun L U a b c d=>?_⟩
   ·have:=g3 (L-k) (U+k) (by omega) (by omega) (by omega)
    rw[show L-(k+n)=L-k-n by omega,show U+(k+n)=U+k+n by omega]
    exact(h3 L U (by omega) b c).bind this
   ·by_cases e:L<k
    ·obtain⟨r,x,y⟩:=h4 L U a e c d
     obtain⟨r',x',y'⟩:=he r y
     exact⟨r',x.bind x',y'⟩
    ·obtain⟨r',x',y'⟩:=g4 (L-k) (U+k) (by omega) (by omega) (by omega) (by omega)
     exact⟨r',(h3 L U (by omega) c d).bind x',y'⟩
  ·refine .inr ⟨fun U a b=>?_,s⟩
   obtain⟨r',x',y'⟩:=g (U+k) (by omega) (by omega)
   exact⟨r',(h3 l U h1 a b).bind x',y'⟩
 ·refine .inr ⟨fun U a b=>?_,hs s⟩
  obtain⟨r,x,y⟩:=h U a b
  obtain⟨r',x',y'⟩:=he r y
  exact⟨r',x.bind x',y'⟩
end
theorem W5(L U:Int)(h0:0≤L)(h1:0≤U)(h2:L+U≤1099511627776):zG (fun q=>dJ q L U) (if 1≤L then(0,L-1,U+1)else(8,L,U)):=by
 simp only[dJ,zNf,D1,fH,fI]
 refine zG.bind (a:=if 1≤L then(0,L-1,U+1)else(8,L,U)) ?_ zG.ret
 refine zG.ifF (by decide) (zG.pure rfl ?_)
 by_cases h:1≤L
 ·rw[if_pos h]
  refine zG.ifF (decide_eq_false (by omega)) (zG.pure rfl (zG.pure rfl (zG.ret.eq ?_)))
  have e:xL (0-1) = -1:=by decide
  rw[e,yM (x:=U+1) (by omega) (by omega)]
  show ((0:Int),xL (L + -1),U+1)=_
  rw[yM (by omega) (by omega)];rfl
 ·rw[if_neg h]
  exact zG.ifT (decide_eq_true (by omega)) zG.ret
theorem zQT(l:Int)(h:0≤l):Ou (fun L U q=>dJ q L U) (fun r=>r.1) (fun R k=>k=1∧R=fun L U=>(0,L,U)) (l<1) l:=by
 by_cases h1:1≤l
 ·refine .inl ⟨fun L U=>(0,L,U),1,by omega,h1,⟨rfl,rfl⟩,fun L U a b c=>(W5 L U (by omega) b c).eq (if_pos a),fun L U a b c d=>⟨_,W5 L U a c d,?_⟩⟩
  rw[if_neg (by omega)]
 ·refine .inr ⟨fun U a b=>⟨_,W5 l U h a b,?_⟩,by omega⟩
  rw[if_neg h1]
def wR(l:List zU)(t:Tm):Int:=if t.k=6 then(if t.n<l.length then(zK l t.n).kind else 0)else 0
theorem fJ(l:List zU)(t:Tm)(h:0≤t.n):zG (fun q=>zBt q (yX l) t) (wR l t):=by
 simp only[zBt,yX]
 unfold wR
 by_cases k:t.k=6
 ·rw[if_pos k]
  refine zG.ifF (by simp[k]) ?_
  by_cases n:t.n<l.length
  ·rw[if_pos n];exact zG.ifF (decide_eq_false (by omega)) (zG.pure (yP h n) zG.ret)
  ·rw[if_neg n];exact zG.ifT (decide_eq_true (by omega)) zG.ret
 ·rw[if_neg k];exact zG.ifT (by simp[k]) zG.ret
theorem wD{l:List zU}{t:Tm}{k:Int}(h:wR l t=k)(hk:k≠0):t.k=6∧t.n<l.length∧(zK l t.n).kind=k:=by
 unfold wR at h
 split at h
 ·rename_i a
  split at h
  ·rename_i b;exact⟨a,b,h⟩
  ·exact absurd h.symm hk
 ·exact absurd h.symm hk
def zUn(t:Tm):Tm×Int:=if zH t=true then(t,0)else(zT,2)
theorem zFa(t:Tm)(ho:t.Ok):zG (fun q=>J0 q t) (zUn t):=by
 simp only[J0]
 refine(xR t ho).bind ?_
 unfold zUn
 by_cases h:zH t=true
 ·rw[if_pos h,if_pos h];exact zG.ret
 ·rw[if_neg h,if_neg h];exact zG.ret
theorem mH{t:Tm}(h:xG t=true):0≤t.n:=by
 obtain⟨k,n,l⟩:=t
 exact(cT (xV h).1).1
theorem zQU{l:List zU}{i:Int}(h0:0≤i)(h1:i<l.length):zR (yX l).own i=some (pD (zK l i)):=by
 have h:=yP (l:=l) h0 h1
 unfold zR at h ⊢
 rw[if_pos h0]at h ⊢
 show (l.map pD)[i.toNat]? = _
 rw[List.getElem?_map,h];rfl
theorem zNe{l:List zU}{i:Int}(h0:0≤i)(h1:i<l.length):zR (yX l).args i=some (xI (zK l i)):=by
 have h:=yP (l:=l) h0 h1
 unfold zR at h ⊢
 rw[if_pos h0]at h ⊢
 show (l.map xI)[i.toNat]? = _
 rw[List.getElem?_map,h];rfl
def vJ(l:List zU)(t:Tm):Prop:=wR l (zN t)=2∧(yG t).length=vZ (zK l (zN t).n).type
instance (l:List zU) (t:Tm):Decidable (vJ l t):=inferInstanceAs (Decidable (_∧_))
def N4(l:List zU)(t:Tm):Int×List Tm×Bool:=if vJ l t then((zN t).n,yG t,true)else(0,[],false)
theorem O8(l:List zU)(t:Tm)(hs:zH t=true):zG (fun q=>zFd q (yX l) t) (N4 l t):=by
 simp only[zFd]
 have hn:=mH (zI (wG hs)).2.2
 refine(oI t hs).bind ((fJ l _ hn).bind ?_)
 by_cases h:wR l (zN t)=2
 ·have hk:=wD h (by decide)
  refine zG.ifF (by simp[h]) (zG.pure (zQU hn hk.2.1) ?_)
  have e:pD (zK l (zN t).n)=vZ (zK l (zN t).n).type:=by unfold pD;rw[if_pos hk.2.2]
  by_cases h2:(yG t).length=vZ (zK l (zN t).n).type
  ·have c:N4 l t=((zN t).n,yG t,true):=if_pos ⟨h,h2⟩
   rw[c]
   exact zG.ifF (by rw[e];simp[h2]) zG.ret
  ·have c:N4 l t=(0,[],false):=if_neg (fun h'=>h2 h'.2)
   rw[c]
   exact zG.ifT (by rw[e];simp;omega) zG.ret
 ·have c:N4 l t=(0,[],false):=if_neg (fun h'=>h h'.1)
  rw[c]
  exact zG.ifT (by simp[h]) zG.ret
theorem rW{l:List zU}{t:Tm}(hs:zH t=true)(h:vJ l t):0≤(zN t).n∧(zN t).n<l.length∧(zK l (zN t).n).kind=2∧(yG t).length=vZ (zK l (zN t).n).type:=by
 have hk:=wD h.1 (by decide)
 exact⟨mH (zI (wG hs)).2.2,hk.2.1,hk.2.2,h.2⟩
mutual
def e93:Nat->wF->Tm->Int->Int->Option (Tm×Int×Int×Int)
 |0,_,_,_,_=>none
 |qq+1,M,p1,fl,fu=>
 fK qq M fl fu p1.k p1.n p1.sub
def fK:Nat->wF->Int->Int->Int->Int->zQ->Option (Tm×Int×Int×Int)
 |0,_,_,_,_,_,_=>none
 |qq+1,M,vA,uN,xP,xX,nC=>
 zFA qq M (Tm.mk xP xX nC) vA uN>>=fun r1=>
 if r1.2.1 then
 if r1.2.2.1 != 0 then
 some ((Tm.mk 0 0 []),r1.2.2.1,r1.2.2.2.1,r1.2.2.2.2)
 else
 fK qq M r1.2.2.2.1 r1.2.2.2.2 r1.1.k r1.1.n r1.1.sub
 else
 if r1.2.2.1 != 0 then
 some ((Tm.mk 0 0 []),r1.2.2.1,r1.2.2.2.1,r1.2.2.2.2)
 else
 some ((Tm.mk xP xX nC),0,r1.2.2.2.1,r1.2.2.2.2)
def zFA:Nat->wF->Tm->Int->Int->Option (Tm×Bool×Int×Int×Int)
 |0,_,_,_,_=>none
 |qq+1,M,p1,fl,fu=>
 e62 qq p1>>=fun r1=>
 if r1.1.k==4 then
 if decide ((r1.2.length:Int)>0)then
 zR r1.1.sub 1>>=fun x5=>
 zR r1.2 0>>=fun x7=>
 zLN qq x5 x7>>=fun r9=>
 kY r1.2 1 (r1.2.length:Int)>>=fun x11=>
 e63 qq r9.1 x11>>=fun r13=>
 if r9.2 != 0 then
 some (p1,false,r9.2,fl,fu)
 else
 dJ qq fl fu>>=fun r16=>
 if r16.1 != 0 then
 some (p1,false,r16.1,r16.2.1,r16.2.2)
 else
 J0 qq r13>>=fun r19=>
 some (r19.1,true,r19.2,r16.2.1,r16.2.2)
 else
 zBt qq M r1.1>>=fun r21=>
 if r21==3 then
 zR M.l r1.1.n>>=fun x24=>
 e63 qq x24.body r1.2>>=fun r26=>
 dJ qq fl fu>>=fun r28=>
 if r28.1 != 0 then
 some (p1,false,r28.1,r28.2.1,r28.2.2)
 else
 J0 qq r26>>=fun r31=>
 some (r31.1,true,r31.2,r28.2.1,r28.2.2)
 else
 zBt qq M r1.1>>=fun r33=>
 if r33==4 then
 zDc qq M r1.1 r1.2 fl fu>>=fun r36=>
 if r36.2.1 then
 if r36.2.2.1 != 0 then
 some (p1,false,r36.2.2.1,r36.2.2.2.1,r36.2.2.2.2)
 else
 dJ qq r36.2.2.2.1 r36.2.2.2.2>>=fun r40=>
 if r40.1 != 0 then
 some (p1,false,r40.1,r40.2.1,r40.2.2)
 else
 J0 qq r36.1>>=fun r43=>
 some (r43.1,true,r43.2,r40.2.1,r40.2.2)
 else
 if r36.2.2.1 != 0 then
 some (p1,false,r36.2.2.1,r36.2.2.2.1,r36.2.2.2.2)
 else
 some (p1,false,r36.2.2.1,r36.2.2.2.1,r36.2.2.2.2)
 else
 if r1.1.k==7 then
 zDb qq M r1.1 r1.2 fl fu>>=fun r47=>
 if r47.2.1 then
 if r47.2.2.1 != 0 then
 some (p1,false,r47.2.2.1,r47.2.2.2.1,r47.2.2.2.2)
 else
 dJ qq r47.2.2.2.1 r47.2.2.2.2>>=fun r51=>
 if r51.1 != 0 then
 some (p1,false,r51.1,r51.2.1,r51.2.2)
 else
 J0 qq r47.1>>=fun r54=>
 some (r54.1,true,r54.2,r51.2.1,r51.2.2)
 else
 if r47.2.2.1 != 0 then
 some (p1,false,r47.2.2.1,r47.2.2.2.1,r47.2.2.2.2)
 else
 some (p1,false,r47.2.2.1,r47.2.2.2.1,r47.2.2.2.2)
 else
 some (p1,false,0,fl,fu)
 else
 zBt qq M r1.1>>=fun r57=>
 if r57==3 then
 zR M.l r1.1.n>>=fun x60=>
 e63 qq x60.body r1.2>>=fun r62=>
 dJ qq fl fu>>=fun r64=>
 if r64.1 != 0 then
 some (p1,false,r64.1,r64.2.1,r64.2.2)
 else
 J0 qq r62>>=fun r67=>
 some (r67.1,true,r67.2,r64.2.1,r64.2.2)
 else
 zBt qq M r1.1>>=fun r69=>
 if r69==4 then
 zDc qq M r1.1 r1.2 fl fu>>=fun r72=>
 if r72.2.1 then
 if r72.2.2.1 != 0 then
 some (p1,false,r72.2.2.1,r72.2.2.2.1,r72.2.2.2.2)
 else
 dJ qq r72.2.2.2.1 r72.2.2.2.2>>=fun r76=>
 if r76.1 != 0 then
 some (p1,false,r76.1,r76.2.1,r76.2.2)
 else
 J0 qq r72.1>>=fun r79=>
 some (r79.1,true,r79.2,r76.2.1,r76.2.2)
 else
 if r72.2.2.1 != 0 then
 some (p1,false,r72.2.2.1,r72.2.2.2.1,r72.2.2.2.2)
 else
 some (p1,false,r72.2.2.1,r72.2.2.2.1,r72.2.2.2.2)
 else
 if r1.1.k==7 then
 zDb qq M r1.1 r1.2 fl fu>>=fun r83=>
 if r83.2.1 then
 if r83.2.2.1 != 0 then
 some (p1,false,r83.2.2.1,r83.2.2.2.1,r83.2.2.2.2)
 else
 dJ qq r83.2.2.2.1 r83.2.2.2.2>>=fun r87=>
 if r87.1 != 0 then
 some (p1,false,r87.1,r87.2.1,r87.2.2)
 else
 J0 qq r83.1>>=fun r90=>
 some (r90.1,true,r90.2,r87.2.1,r87.2.2)
 else
 if r83.2.2.1 != 0 then
 some (p1,false,r83.2.2.1,r83.2.2.2.1,r83.2.2.2.2)
 else
 some (p1,false,r83.2.2.1,r83.2.2.2.1,r83.2.2.2.2)
 else
 some (p1,false,0,fl,fu)
def zDc:Nat->wF->Tm->zQ->Int->Int->Option (Tm×Bool×Int×Int×Int)
 |0,_,_,_,_,_=>none
 |qq+1,M,p1,p2,fl,fu=>
 zR M.l p1.n>>=fun x1=>
 if decide ((p2.length:Int)≤x1.pars)then
 some ((Tm.mk 0 0 []),false,0,fl,fu)
 else
 zR p2 x1.pars>>=fun x4=>
 e93 qq M x4 fl fu>>=fun r6=>
 if r6.2.1 != 0 then
 some ((Tm.mk 0 0 []),false,r6.2.1,r6.2.2.1,r6.2.2.2)
 else
 zFd qq M r6.1>>=fun r9=>
 if r9.2.2 then
 zR M.l r9.1>>=fun x12=>
 if x12.fam != x1.fam then
 some ((Tm.mk 0 0 []),false,0,r6.2.2.1,r6.2.2.2)
 else
 kY r9.2.1 x12.pars (r9.2.1.length:Int)>>=fun x15=>
 zDj qq M.rl M.parts p1.n x15>>=fun r17=>
 kY p2 (xL (x1.pars+1)) (p2.length:Int)>>=fun x19=>
 e63 qq r17.1 x19>>=fun r21=>
 some (r21,true,r17.2,r6.2.2.1,r6.2.2.2)
 else
 some ((Tm.mk 0 0 []),false,0,r6.2.2.1,r6.2.2.2)
def zDb:Nat->wF->Tm->zQ->Int->Int->Option (Tm×Bool×Int×Int×Int)
 |0,_,_,_,_,_=>none
 |qq+1,M,p1,p2,fl,fu=>
 if decide (p1.n≥(M.l.length:Int))then
 some ((Tm.mk 0 0 []),false,0,fl,fu)
 else
 zR M.l p1.n>>=fun x2=>
 if x2.kind != 1 then
 some ((Tm.mk 0 0 []),false,0,fl,fu)
 else
 zR M.args p1.n>>=fun x5=>
 if decide ((p2.length:Int)<x5)then
 some ((Tm.mk 0 0 []),false,0,fl,fu)
 else
 zR p2 (xL (x5-1))>>=fun x8=>
 e93 qq M x8 fl fu>>=fun r10=>
 if r10.2.1 != 0 then
 some ((Tm.mk 0 0 []),false,r10.2.1,r10.2.2.1,r10.2.2.2)
 else
 zFd qq M r10.1>>=fun r13=>
 if r13.2.2 then
 zR M.l r13.1>>=fun x16=>
 if x16.fam != p1.n then
 some ((Tm.mk 0 0 []),false,0,r10.2.2.1,r10.2.2.2)
 else
 zR p1.sub 0>>=fun x19=>
 kY p2 0 (xL ((xL (x2.pars+1))+(x2.cons.length:Int)))>>=fun x21=>
 kY r13.2.1 x2.pars (r13.2.1.length:Int)>>=fun x23=>
 zDi qq M.rl M.parts p1.n x19.n r13.1 x21 x23>>=fun r25=>
 kY p2 x5 (p2.length:Int)>>=fun x27=>
 e63 qq r25.1 x27>>=fun r29=>
 some (r29,true,r25.2,r10.2.2.1,r10.2.2.2)
 else
 some ((Tm.mk 0 0 []),false,0,r10.2.2.1,r10.2.2.2)
end
abbrev K93 (M:wF) (p1:Tm) (fl fu:Int) (r:Tm×Int×Int×Int) (C:Cf):Prop:=C 93 [mB M 1,mR M,.cells [ai fl,ai fu]] [.mp 0 0,xF p1,.mp 2 0] (.tup [xF r.1,ai r.2.1]) [mB M 1,mR M,.cells [ai r.2.2.1,ai r.2.2.2]] 0
abbrev zUm (M:wF) (p1:Tm) (fl fu:Int) (r:Tm×Bool×Int×Int×Int) (C:Cf):Prop:=C 122 [mB M 1,mR M,.cells [ai fl,ai fu]] [.mp 0 0,xF p1,.mp 2 0] (.tup [xF r.1,ab r.2.1,ai r.2.2.1]) [mB M 1,mR M,.cells [ai r.2.2.2.1,ai r.2.2.2.2]] 0
abbrev zUl (M:wF) (p1:Tm) (p2:zQ) (fl fu:Int) (r:Tm×Bool×Int×Int×Int) (C:Cf):Prop:=C 146 [mB M 1,mR M,.cells [ai fl,ai fu]] [.mp 0 0,xF p1,zO zD p2 .no,.mp 2 0] (.tup [xF r.1,ab r.2.1,ai r.2.2.1]) [mB M 1,mR M,.cells [ai r.2.2.2.1,ai r.2.2.2.2]] 0
abbrev zUk (M:wF) (p1:Tm) (p2:zQ) (fl fu:Int) (r:Tm×Bool×Int×Int×Int) (C:Cf):Prop:=C 147 [mB M 1,mR M,.cells [ai fl,ai fu]] [.mp 0 0,xF p1,zO zD p2 .no,.mp 2 0] (.tup [xF r.1,ab r.2.1,ai r.2.2.1]) [mB M 1,mR M,.cells [ai r.2.2.2.1,ai r.2.2.2.2]] 0
theorem qW:Qf 122 f122:=⟨func122,rfl⟩
theorem qX{M p1 fl fu r}(h:zUm M p1 fl fu r Ci):zUm M p1 fl fu r Ct:=⟨h,⟨(lz rfl),⟨tv,tv,⟨tv,dT _⟩,tv⟩,(lz rfl),tv⟩,(eH (lz rfl) (zC ⟨tv,tv,tv⟩ zA)),⟨⟨tv,tv,dT _,tv⟩,tv,tv,tv⟩,(iY (lz rfl) (zC ⟨tv,tv,tv⟩ zA))⟩
theorem zNc:Qf 146 f146:=⟨func146,rfl⟩
theorem zNb{M p1 p2 fl fu r}(h:zUl M p1 p2 fl fu r Ci):zUl M p1 p2 fl fu r Ct:=⟨h,⟨(lz rfl),⟨tv,tv,⟨tv,dT _⟩,tv⟩,⟨tv,dT _⟩,(lz rfl),tv⟩,(eH (lz rfl) (zC ⟨tv,tv,tv⟩ zA)),⟨⟨tv,tv,dT _,tv⟩,tv,tv,tv⟩,(iY (lz rfl) (zC ⟨tv,tv,tv⟩ zA))⟩
theorem zFB:Qf 147 f147:=⟨func147,rfl⟩
theorem zFC{M p1 p2 fl fu r}(h:zUk M p1 p2 fl fu r Ci):zUk M p1 p2 fl fu r Ct:=⟨h,⟨(lz rfl),⟨tv,tv,⟨tv,dT _⟩,tv⟩,⟨tv,dT _⟩,(lz rfl),tv⟩,(eH (lz rfl) (zC ⟨tv,tv,tv⟩ zA)),⟨⟨tv,tv,dT _,tv⟩,tv,tv,tv⟩,(iY (lz rfl) (zC ⟨tv,tv,tv⟩ zA))⟩
theorem gA:∀qq:Nat,(∀ {M p1 fl fu r},e93 qq M p1 fl fu=some r->K93 M p1 fl fu r Ct)∧(∀ {M vA uN xP xX nC r},fK qq M vA uN xP xX nC=some r->(∀j,dL 3 (pt 885 f93) (sp j 28 0 [(0,.mp 0 0),(2,.mp 2 0),(4,.mp 3 0),(6,.mp 4 0)]) (⟨[(0,mB M 1),(1,mR M),(2,.cells [ai vA,ai uN]),(3,.cells [ai xP,ai xX,zO zD nC .no]),(4,.cells [ai 0,ai 0,zO zD ([]:zQ) .nl])],5,[],0,[]⟩) (fQ 3 (nQ 3 f93 (.tup [xF r.1,ai r.2.1]) [mB M 1,mR M,.cells [ai r.2.2.1,ai r.2.2.2]] 0) [.blk 0])))∧(∀ {M p1 fl fu r},zFA qq M p1 fl fu=some r->zUm M p1 fl fu r Ct)∧(∀ {M p1 p2 fl fu r},zDc qq M p1 p2 fl fu=some r->zUl M p1 p2 fl fu r Ct)∧(∀ {M p1 p2 fl fu r},zDb qq M p1 p2 fl fu=some r->zUk M p1 p2 fl fu r Ct):=by
 intro qq
 induction qq with
 |zero=>
  exact⟨fun h=>nn h,fun h=>nn h,fun h=>nn h,fun h=>nn h,fun h=>nn h⟩
 |succ qq ih=>
  obtain⟨zWO,zHm,zWP,zSj,zSi⟩:=ih
  refine⟨?_,?_,?_,?_,?_⟩
  intro M p1 fl fu r h
  rw[e93]at h
  exact⟨tH ⟨func93,rfl⟩ 0 [] [0,1,2,3,4] [] [0,2,4,6] (oD (dT ([]:zQ))<|oD (dT p1.sub)<|oD (dC M.parts)<|oD (dE M.rl)<|oD (dI M.own)<|oD (dI M.args)<|oD (dE M.l) o0) (zHm h),⟨(lz rfl),⟨tv,tv,⟨tv,dT _⟩,tv⟩,(lz rfl),tv⟩,(eH (lz rfl) (zC ⟨tv,tv,tv⟩ zA)),⟨⟨tv,tv,dT _,tv⟩,tv,tv⟩,(iY (lz rfl) (zC ⟨tv,tv,tv⟩ zA))⟩
  intro M vA uN xP xX nC r h
  rw[fK]at h
  obtain⟨r1,h2,h⟩:=zB h
  have k:=oC 1 [0,1,2] (zWP h2) o0
  obtain⟨h3,h⟩|⟨h3,h⟩:=zL h
  have k:=oB 1 h3 k
  obtain⟨h4,h⟩|⟨h4,h⟩:=zL h
  cases h
  exact fun j=>lF 1 [0,1,2] (oD (dT ([]:zQ))<|rF M<|oB 2 h4 k)
  exact fun j=>lH 2 [] [0,1,2,3,4] [] [0,2,4,6] (oD (dT ([]:zQ))<|oD (dT r1.1.sub)<|rF M<|oB 2 h4 k) (zHm h)
  have k:=oB 1 h3 k
  obtain⟨h5,h⟩|⟨h5,h⟩:=zL h
  cases h
  exact fun j=>lF 1 [0,1,2] (oD (dT ([]:zQ))<|rF M<|oB 2 h5 k)
  cases h
  exact fun j=>lF 2 [0,1,2] (oD (dT nC)<|rF M<|oB 2 h5 k)
  intro M p1 fl fu r h
  rw[zFA]at h
  have z {os ob} (k:Oz os ob):=oD (dT p1.sub)<|rF M<|k
  obtain⟨r1,h2,h⟩:=zB h
  have k:=oC 1 [] (c62 h2) o0
  obtain⟨h3,h⟩|⟨h3,h⟩:=zL h
  have k:=oB 5 h3 k
  obtain⟨h4,h⟩|⟨h4,h⟩:=zL h
  obtain⟨x5,h6,h⟩:=zB h
  obtain⟨x7,h8,h⟩:=zB h
  obtain⟨r9,h10,h⟩:=zB h
  obtain⟨x11,h12,h⟩:=zB h
  obtain⟨r13,h14,h⟩:=zB h
  have k:=oC 0 [] (c63 h14)<|oA 4 (rK h12)<|oC 1 [] (zYb h10)<|oA 1 (wN (o:=.no) h8)<|oA 1 (wN (o:=.no) h6)<|oB 1 h4 k
  obtain⟨h15,h⟩|⟨h15,h⟩:=zL h
  cases h
  exact qX (tF qW 2 [0,1,2] (z<|oB 1 h15 k))
  obtain⟨r16,h17,h⟩:=zB h
  have k:=oC 1 [2] (zFc h17)<|oB 1 h15 k
  obtain⟨h18,h⟩|⟨h18,h⟩:=zL h
  cases h
  exact qX (tF qW 2 [0,1,2] (z<|oB 0 h18 k))
  obtain⟨r19,h20,h⟩:=zB h
  cases h
  exact qX (tF qW 5 [0,1,2] (oD (dT r19.1.sub)<|rF M<|oC 1 [] (zFb h20)<|oB 0 h18 k))
  obtain⟨r21,h22,h⟩:=zB h
  have k:=oC 1 [0,1] (zNi h22)<|oB 1 h4 k
  obtain⟨h23,h⟩|⟨h23,h⟩:=zL h
  obtain⟨x24,h25,h⟩:=zB h
  obtain⟨r26,h27,h⟩:=zB h
  obtain⟨r28,h29,h⟩:=zB h
  have k:=oC 3 [2] (zFc h29)<|oC 1 [] (c63 h27)<|oA 2 (wM (o:=.no) h25)<|oB 0 h23 k
  obtain⟨h30,h⟩|⟨h30,h⟩:=zL h
  cases h
  exact qX (tF qW 2 [0,1,2] (z<|oB 0 h30 k))
  obtain⟨r31,h32,h⟩:=zB h
  cases h
  exact qX (tF qW 5 [0,1,2] (oD (dT r31.1.sub)<|rF M<|oC 1 [] (zFb h32)<|oB 0 h30 k))
  obtain⟨r33,h34,h⟩:=zB h
  have k:=oC 1 [0,1] (zNi h34)<|oB 0 h23 k
  obtain⟨h35,h⟩|⟨h35,h⟩:=zL h
  obtain⟨r36,h37,h⟩:=zB h
  have k:=oC 1 [0,1,2] (zSj h37)<|oB 0 h35 k
  obtain⟨h38,h⟩|⟨h38,h⟩:=zL h
  have k:=oB 1 h38 k
  obtain⟨h39,h⟩|⟨h39,h⟩:=zL h
  cases h
  exact qX (tF qW 2 [0,1,2] (z<|oB 2 h39 k))
  obtain⟨r40,h41,h⟩:=zB h
  have k:=oC 1 [2] (zFc h41)<|oB 2 h39 k
  obtain⟨h42,h⟩|⟨h42,h⟩:=zL h
  cases h
  exact qX (tF qW 2 [0,1,2] (z<|oB 0 h42 k))
  obtain⟨r43,h44,h⟩:=zB h
  cases h
  exact qX (tF qW 5 [0,1,2] (oD (dT r43.1.sub)<|rF M<|oC 1 [] (zFb h44)<|oB 0 h42 k))
  have k:=oB 1 h38 k
  obtain⟨h45,h⟩|⟨h45,h⟩:=zL h
  cases h
  exact qX (tF qW 2 [0,1,2] (z<|oB 2 h45 k))
  cases h
  exact qX (tF qW 3 [0,1,2] (z<|oB 2 h45 k))
  have k:=oB 0 h35 k
  obtain⟨h46,h⟩|⟨h46,h⟩:=zL h
  obtain⟨r47,h48,h⟩:=zB h
  have k:=oC 1 [0,1,2] (zSi h48)<|oB 1 h46 k
  obtain⟨h49,h⟩|⟨h49,h⟩:=zL h
  have k:=oB 1 h49 k
  obtain⟨h50,h⟩|⟨h50,h⟩:=zL h
  cases h
  exact qX (tF qW 2 [0,1,2] (z<|oB 2 h50 k))
  obtain⟨r51,h52,h⟩:=zB h
  have k:=oC 1 [2] (zFc h52)<|oB 2 h50 k
  obtain⟨h53,h⟩|⟨h53,h⟩:=zL h
  cases h
  exact qX (tF qW 2 [0,1,2] (z<|oB 0 h53 k))
  obtain⟨r54,h55,h⟩:=zB h
  cases h
  exact qX (tF qW 5 [0,1,2] (oD (dT r54.1.sub)<|rF M<|oC 1 [] (zFb h55)<|oB 0 h53 k))
  have k:=oB 1 h49 k
  obtain⟨h56,h⟩|⟨h56,h⟩:=zL h
  cases h
  exact qX (tF qW 2 [0,1,2] (z<|oB 2 h56 k))
  cases h
  exact qX (tF qW 3 [0,1,2] (z<|oB 2 h56 k))
  cases h
  exact qX (tF qW 4 [0,1,2] (z<|oB 1 h46 k))
  obtain⟨r57,h58,h⟩:=zB h
  have k:=oC 1 [0,1] (zNi h58)<|oB 5 h3 k
  obtain⟨h59,h⟩|⟨h59,h⟩:=zL h
  obtain⟨x60,h61,h⟩:=zB h
  obtain⟨r62,h63,h⟩:=zB h
  obtain⟨r64,h65,h⟩:=zB h
  have k:=oC 3 [2] (zFc h65)<|oC 1 [] (c63 h63)<|oA 2 (wM (o:=.no) h61)<|oB 0 h59 k
  obtain⟨h66,h⟩|⟨h66,h⟩:=zL h
  cases h
  exact qX (tF qW 2 [0,1,2] (z<|oB 0 h66 k))
  obtain⟨r67,h68,h⟩:=zB h
  cases h
  exact qX (tF qW 5 [0,1,2] (oD (dT r67.1.sub)<|rF M<|oC 1 [] (zFb h68)<|oB 0 h66 k))
  obtain⟨r69,h70,h⟩:=zB h
  have k:=oC 1 [0,1] (zNi h70)<|oB 0 h59 k
  obtain⟨h71,h⟩|⟨h71,h⟩:=zL h
  obtain⟨r72,h73,h⟩:=zB h
  have k:=oC 1 [0,1,2] (zSj h73)<|oB 0 h71 k
  obtain⟨h74,h⟩|⟨h74,h⟩:=zL h
  have k:=oB 1 h74 k
  obtain⟨h75,h⟩|⟨h75,h⟩:=zL h
  cases h
  exact qX (tF qW 2 [0,1,2] (z<|oB 2 h75 k))
  obtain⟨r76,h77,h⟩:=zB h
  have k:=oC 1 [2] (zFc h77)<|oB 2 h75 k
  obtain⟨h78,h⟩|⟨h78,h⟩:=zL h
  cases h
  exact qX (tF qW 2 [0,1,2] (z<|oB 0 h78 k))
  obtain⟨r79,h80,h⟩:=zB h
  cases h
  exact qX (tF qW 5 [0,1,2] (oD (dT r79.1.sub)<|rF M<|oC 1 [] (zFb h80)<|oB 0 h78 k))
  have k:=oB 1 h74 k
  obtain⟨h81,h⟩|⟨h81,h⟩:=zL h
  cases h
  exact qX (tF qW 2 [0,1,2] (z<|oB 2 h81 k))
  cases h
  exact qX (tF qW 3 [0,1,2] (z<|oB 2 h81 k))
  have k:=oB 0 h71 k
  obtain⟨h82,h⟩|⟨h82,h⟩:=zL h
  obtain⟨r83,h84,h⟩:=zB h
  have k:=oC 1 [0,1,2] (zSi h84)<|oB 1 h82 k
  obtain⟨h85,h⟩|⟨h85,h⟩:=zL h
  have k:=oB 1 h85 k
  obtain⟨h86,h⟩|⟨h86,h⟩:=zL h
  cases h
  exact qX (tF qW 2 [0,1,2] (z<|oB 2 h86 k))
  obtain⟨r87,h88,h⟩:=zB h
  have k:=oC 1 [2] (zFc h88)<|oB 2 h86 k
  obtain⟨h89,h⟩|⟨h89,h⟩:=zL h
  cases h
  exact qX (tF qW 2 [0,1,2] (z<|oB 0 h89 k))
  obtain⟨r90,h91,h⟩:=zB h
  cases h
  exact qX (tF qW 5 [0,1,2] (oD (dT r90.1.sub)<|rF M<|oC 1 [] (zFb h91)<|oB 0 h89 k))
  have k:=oB 1 h85 k
  obtain⟨h92,h⟩|⟨h92,h⟩:=zL h
  cases h
  exact qX (tF qW 2 [0,1,2] (z<|oB 2 h92 k))
  cases h
  exact qX (tF qW 3 [0,1,2] (z<|oB 2 h92 k))
  cases h
  exact qX (tF qW 4 [0,1,2] (z<|oB 1 h82 k))
  intro M p1 p2 fl fu r h
  rw[zDc]at h
  have z {os ob} (k:Oz os ob):=oD (dT ([]:zQ))<|rF M<|k
  obtain⟨x1,h2,h⟩:=zB h
  have k:=oA 2 (wM (o:=.no) h2) o0
  obtain⟨h3,h⟩|⟨h3,h⟩:=zL h
  cases h
  exact zNb (tF zNc 1 [0,1,2] (z<|oB 2 h3 k))
  obtain⟨x4,h5,h⟩:=zB h
  obtain⟨r6,h7,h⟩:=zB h
  have k:=oC 1 [0,1,2] (zWO h7)<|oA 0 (wN (o:=.no) h5)<|oB 2 h3 k
  obtain⟨h8,h⟩|⟨h8,h⟩:=zL h
  cases h
  exact zNb (tF zNc 1 [0,1,2] (z<|oB 3 h8 k))
  obtain⟨r9,h10,h⟩:=zB h
  have k:=oC 1 [0,1] (zUq h10)<|oB 3 h8 k
  obtain⟨h11,h⟩|⟨h11,h⟩:=zL h
  obtain⟨x12,h13,h⟩:=zB h
  have k:=oA 3 (wM (o:=.no) h2)<|oA 2 (wM (o:=.no) h13)<|oB 2 h11 k
  obtain⟨h14,h⟩|⟨h14,h⟩:=zL h
  cases h
  exact zNb (tF zNc 1 [0,1,2] (z<|oB 1 h14 k))
  obtain⟨x15,h16,h⟩:=zB h
  obtain⟨r17,h18,h⟩:=zB h
  obtain⟨x19,h20,h⟩:=zB h
  obtain⟨r21,h22,h⟩:=zB h
  cases h
  exact zNb (tF zNc 1 [0,1,2] (oD (dT r21.sub)<|rF M<|oC 0 [] (c63 h22)<|oA 5 (rK h20)<|oC 0 [1] (zYV h18)<|oA 1 (rK h16)<|oA 3 (wM (o:=.no) h13)<|oB 1 h14 k))
  cases h
  exact zNb (tF zNc 2 [0,1,2] (z<|oB 2 h11 k))
  intro M p1 p2 fl fu r h
  rw[zDb]at h
  have z {os ob} (k:Oz os ob):=oD (dT ([]:zQ))<|rF M<|k
  obtain⟨h1,h⟩|⟨h1,h⟩:=zL h
  cases h
  exact zFC (tF zFB 1 [0,1,2] (z<|oB 3 h1 o0))
  obtain⟨x2,h3,h⟩:=zB h
  have k:=oA 2 (wM (o:=.no) h3)<|oB 3 h1 o0
  obtain⟨h4,h⟩|⟨h4,h⟩:=zL h
  cases h
  exact zFC (tF zFB 1 [0,1,2] (z<|oB 1 h4 k))
  obtain⟨x5,h6,h⟩:=zB h
  have k:=oA 3 (I0 (o:=.no) h6)<|oB 1 h4 k
  obtain⟨h7,h⟩|⟨h7,h⟩:=zL h
  cases h
  exact zFC (tF zFB 1 [0,1,2] (z<|oB 1 h7 k))
  obtain⟨x8,h9,h⟩:=zB h
  obtain⟨r10,h11,h⟩:=zB h
  have k:=oC 1 [0,1,2] (zWO h11)<|oA 2 (wN (o:=.no) h9)<|oA 2 (I0 (o:=.no) h6)<|oB 1 h7 k
  obtain⟨h12,h⟩|⟨h12,h⟩:=zL h
  cases h
  exact zFC (tF zFB 1 [0,1,2] (z<|oB 3 h12 k))
  obtain⟨r13,h14,h⟩:=zB h
  have k:=oC 1 [0,1] (zUq h14)<|oB 3 h12 k
  obtain⟨h15,h⟩|⟨h15,h⟩:=zL h
  obtain⟨x16,h17,h⟩:=zB h
  have k:=oA 2 (wM (o:=.no) h17)<|oB 2 h15 k
  obtain⟨h18,h⟩|⟨h18,h⟩:=zL h
  cases h
  exact zFC (tF zFB 1 [0,1,2] (z<|oB 2 h18 k))
  obtain⟨x19,h20,h⟩:=zB h
  obtain⟨x21,h22,h⟩:=zB h
  obtain⟨x23,h24,h⟩:=zB h
  obtain⟨r25,h26,h⟩:=zB h
  obtain⟨x27,h28,h⟩:=zB h
  obtain⟨r29,h30,h⟩:=zB h
  cases h
  exact zFC (tF zFB 1 [0,1,2] (oD (dT r29.sub)<|rF M<|oC 0 [] (c63 h30)<|oA 4 (rK h28)<|oC 0 [1] (zYW h26)<|oA 1 (rK h24)<|oA 6 (mD h22)<|oA 5 (wN (o:=.no) h20)<|oA 2 (wM (o:=.no) h3)<|oB 2 h18 k))
  cases h
  exact zFC (tF zFB 2 [0,1,2] (z<|oB 2 h15 k))
theorem c93{qq M p1 fl fu r}(h:e93 qq M p1 fl fu=some r):K93 M p1 fl fu r Ct:=(gA _).1 h
abbrev er4 (r:Tm×Int×Int×Int):Int:=r.2.1
abbrev er5 (r:Tm×Bool×Int×Int×Int):Int:=r.2.2.1
theorem eP(l:List zU):(yX l).l=l:=rfl
theorem W6(l:List zU):(yX l).rl=l:=rfl
theorem fL(l:List zU):(yX l).parts=jQ l l.length 0:=rfl
noncomputable def fM(l:List zU)(i:Int)(a:List Tm):Tm×Int:=
 open Classical in if h:∃r,zG (fun q=>zDj q l (jQ l l.length 0) i a) r then h.choose else(zT,5)
theorem mZ{N:ByteArray->Bool}(l:List zU)(i:Int)(a:List Tm)(hE:xA N l)(ho:vK a)(hl:a.length≤1073741824):zG (fun q=>zDj q l (jQ l l.length 0) i a) (fM l i a)∧zBv l i a (fM l i a):=by
 obtain⟨r,hr,hk⟩:=zJP l (jQ l l.length 0) i a hE ho hl
 have hx:∃r,zG (fun q=>zDj q l (jQ l l.length 0) i a) r:=⟨r,hr⟩
 have e:fM l i a=r:=by
  unfold fM
  rw[dif_pos hx]
  exact hx.choose_spec.det hr
 rw[e];exact⟨hr,hk⟩
noncomputable def M6(l:List zU)(d lev c:Int)(args own:List Tm):Tm×Int:=
 open Classical in if h:∃r,zG (fun q=>zDi q l (jQ l l.length 0) d lev c args own) r then h.choose else(zT,5)
theorem iA{N:ByteArray->Bool}(l:List zU)(d lev c:Int)(args own:List Tm)(hE:xA N l)(ho4:vK args)(ho5:vK own)(hl4:args.length≤65535)(hl5:own.length≤65535):zG (fun q=>zDi q l (jQ l l.length 0) d lev c args own) (M6 l d lev c args own)∧zFf l d lev c args own (M6 l d lev c args own):=by
 obtain⟨r,hr,hk⟩:=zNp l d lev c args own hE ho4 ho5 hl4 hl5
 have hx:∃r,zG (fun q=>zDi q l (jQ l l.length 0) d lev c args own) r:=⟨r,hr⟩
 have e:M6 l d lev c args own=r:=by
  unfold M6
  rw[dif_pos hx]
  exact hx.choose_spec.det hr
 rw[e];exact⟨hr,hk⟩
inductive Act where
 |none
 |red (Y:Tm) (e:Int)
 |tgt (a:Tm)
noncomputable def wW(l:List zU)(x:Tm):Act:=
 if (zN x).k=4∧0<(yG x).length then .red (wJ (oJ (nth (zN x).sub 1) [nth (yG x) 0]).1 ((yG x).drop 1)) (oJ (nth (zN x).sub 1) [nth (yG x) 0]).2
 else if wR l (zN x)=3 then .red (wJ (zK l (zN x).n).body (yG x)) 0
 else if wR l (zN x)=4 then(if ((yG x).length:Int)≤(zK l (zN x).n).pars then .none else .tgt (nth (yG x) (zK l (zN x).n).pars))
 else if (zN x).k=7 then(if kH l (zN x).n 1=true∧xI (zK l (zN x).n)≤(yG x).length then .tgt (nth (yG x) (xI (zK l (zN x).n)-1))else .none)
 else .none
noncomputable def uA(l:List zU)(x y:Tm):Option (Tm×Int):=
 if wR l (zN x)=4 then
  (if vJ l y∧(zK l (zN y).n).fam=(zK l (zN x).n).fam then
   some (wJ (fM l (zN x).n ((yG y).drop (zK l (zN y).n).pars.toNat)).1 ((yG x).drop ((zK l (zN x).n).pars+1).toNat),(fM l (zN x).n ((yG y).drop (zK l (zN y).n).pars.toNat)).2)
  else none)
 else
  (if vJ l y∧(zK l (zN y).n).fam=(zN x).n then
   some (wJ (M6 l (zN x).n (nth (zN x).sub 0).n (zN y).n ((yG x).take ((zK l (zN x).n).pars+1+(zK l (zN x).n).cons.length).toNat) ((yG y).drop (zK l (zN x).n).pars.toNat)).1 ((yG x).drop (xI (zK l (zN x).n)).toNat),
    (M6 l (zN x).n (nth (zN x).sub 0).n (zN y).n ((yG x).take ((zK l (zN x).n).pars+1+(zK l (zN x).n).cons.length).toNat) ((yG y).drop (zK l (zN x).n).pars.toNat)).2)
  else none)
inductive Br (l:List zU):Tm->Tm->Int->Int->Prop
 |stop {x:Tm}:wW l x = .none->Br l x x 0 0
 |redE {x Y:Tm} {e:Int}:wW l x = .red Y e->e≠0->Br l x zT e 0
 |redL {x Y:Tm}:wW l x = .red Y 0->zH Y=false->Br l x zT 2 1
 |red {x Y y:Tm} {e k:Int}:wW l x = .red Y 0->zH Y=true->Br l Y y e k->Br l x y e (1+k)
 |tgtE {x a z:Tm} {e k:Int}:wW l x = .tgt a->Br l a z e k->e≠0->Br l x zT e k
 |tgtN {x a z:Tm} {k:Int}:wW l x = .tgt a->Br l a z 0 k->uA l x z=none->Br l x x 0 k
 |tgtRE {x a z Y:Tm} {e k:Int}:wW l x = .tgt a->Br l a z 0 k->uA l x z=some (Y,e)->e≠0->Br l x zT e k
 |tgtRL {x a z Y:Tm} {k:Int}:wW l x = .tgt a->Br l a z 0 k->uA l x z=some (Y,0)->zH Y=false->Br l x zT 2 (k+1)
 |tgtR {x a z Y y:Tm} {e k k':Int}:wW l x = .tgt a->Br l a z 0 k->uA l x z=some (Y,0)->zH Y=true->Br l Y y e k'->Br l x y e (k+1+k')
inductive On (l:List zU) (x:Tm):Tm->Bool->Int->Int->Prop
 |stop:wW l x = .none->On l x x false 0 0
 |redE {Y:Tm} {e:Int}:wW l x = .red Y e->e≠0->On l x x false e 0
 |redL {Y:Tm}:wW l x = .red Y 0->zH Y=false->On l x zT true 2 1
 |red {Y:Tm}:wW l x = .red Y 0->zH Y=true->On l x Y true 0 1
 |tgtE {a z:Tm} {e k:Int}:wW l x = .tgt a->Br l a z e k->e≠0->On l x x false e k
 |tgtN {a z:Tm} {k:Int}:wW l x = .tgt a->Br l a z 0 k->uA l x z=none->On l x x false 0 k
 |tgtRE {a z Y:Tm} {e k:Int}:wW l x = .tgt a->Br l a z 0 k->uA l x z=some (Y,e)->e≠0->On l x x false e k
 |tgtRL {a z Y:Tm} {k:Int}:wW l x = .tgt a->Br l a z 0 k->uA l x z=some (Y,0)->zH Y=false->On l x zT true 2 (k+1)
 |tgtR {a z Y:Tm} {k:Int}:wW l x = .tgt a->Br l a z 0 k->uA l x z=some (Y,0)->zH Y=true->On l x Y true 0 (k+1)
theorem Br.nn{l:List zU}{x y:Tm}{e k:Int}(h:Br l x y e k):0≤k:=by
 induction h<;>omega
theorem On.still{l:List zU}{x y:Tm}{k:Int}(h:On l x y false 0 k):y=x∧Br l x x 0 k:=by
 cases h with
 |stop h=>exact⟨rfl,.stop h⟩
 |redE _ h=>exact absurd rfl h
 |tgtE _ _ h=>exact absurd rfl h
 |tgtN a b c=>exact⟨rfl,.tgtN a b c⟩
 |tgtRE _ _ _ h=>exact absurd rfl h
theorem On.err{l:List zU}{x y:Tm}{d:Bool}{e k:Int}(h:On l x y d e k)(he:e≠0):Br l x zT e k:=by
 cases h with
 |redE a b=>exact .redE a b
 |redL a b=>exact .redL a b
 |tgtE a b c=>exact .tgtE a b c
 |tgtRE a b c d=>exact .tgtRE a b c d
 |tgtRL a b c d=>exact .tgtRL a b c d
 |_=>exact absurd rfl he
theorem On.step{l:List zU}{x Y:Tm}{k:Int}(h:On l x Y true 0 k):zH Y=true∧1≤k∧∀y e k',Br l Y y e k'->Br l x y e (k+k'):=by
 cases h with
 |red a b=>exact⟨b,by omega,fun y e k' h=>.red a b h⟩
 |tgtR a b c d=>exact⟨d,by have:=b.nn;omega,fun y e k' h=>.tgtR a b c d h⟩
def HB(l:List zU)(x:Tm)(f:Int):Prop:=Ou (fun L U q=>e93 q (yX l) x L U) er4 (fun R k=>∃y e,Br l x y e k∧R=fun L U=>(y,e,L,U)) (∀y e k,Br l x y e k->f<k) f
def QO(l:List zU)(x:Tm)(R:Int->Int->Tm×Bool×Int×Int×Int)(k:Int):Prop:=∃Y d e,On l x Y d e k∧R=fun L U=>(Y,d,e,L,U)
def QF(l:List zU)(x:Tm)(R:Int->Int->Tm×Bool×Int×Int×Int)(k:Int):Prop:=
 (wW l x = .none∧k=0∧∃Y,R=fun L U=>(Y,false,0,L,U)) ∨
 ∃a z e,wW l x = .tgt a∧Br l a z e k∧((e≠0∧∃Y,R=fun L U=>(Y,false,e,L,U))∨(e=0∧((uA l x z=none∧∃Y,R=fun L U=>(Y,false,0,L,U))∨∃Y e',Y.Ok∧uA l x z=some (Y,e')∧R=fun L U=>(Y,true,e',L,U))))
theorem tS{t:Tm}(hg:xG t=true)(h:t.k=3∨t.k=4∨t.k=5):∃a b,t.sub=[a,b]∧xG a=true∧xG b=true:=by
 obtain⟨k,n,l⟩:=t
 have hh:=xV hg
 obtain⟨a,b,rfl⟩:=zLE ((wQ hh.1).2.2.2.2.2.1 h).1
 have hc:=wC hh.2
 exact⟨a,b,rfl,hc.1,(wC hc.2).1⟩
theorem zJS{N:ByteArray->Bool}(l:List zU)(hE:xA N l)(x:Tm)(hs:zH x=true)(f:Int)(hf:0≤f)(h3:(zN x).k≠4)(hk:wR l (zN x)=4)(hb:∀a∈yG x,HB l a f)(hB:∀a y k,zH a=true->Br l a y 0 k->zH y=true) :
  Ou (fun L U q=>zDc q (yX l) (zN x) (yG x) L U) er5 (QF l x) (∃a,wW l x = .tgt a∧∀z e k,Br l a z e k->f<k) f:=by
 have hh:=wG hs
 have h0:=mH (zI hh).2.2
 have hks:=wD hk (by decide)
 have h1:=hks.2.1
 have ho:vK (yG x):=fun y hy=>zX (yW hs hy)
 have hl:(yG x).length≤8192:=by
  have h:=zI hs
  have:=sB _ h.2.2
  omega
 have hp:=(yQ (hE.2 _ h0 h1)).2.2.2.1 hks.2.2
 unfold dW at hp
 simp only[Bool.and_eq_true]at hp
 have hw:=tZ hp.1
 have hfam:=wE ((yQ (hE.2 _ hw.1 (by omega))).2.1 hw.2.2.1)
 have hact:wW l x=if ((yG x).length:Int)≤(zK l (zN x).n).pars then .none else .tgt (nth (yG x) (zK l (zN x).n).pars):=by
  unfold wW
  rw[if_neg (fun h=>h3 h.1),if_neg (by omega),if_pos hk]
 have hre:∀y,uA l x y=if vJ l y∧(zK l (zN y).n).fam=(zK l (zN x).n).fam then
   some (wJ (fM l (zN x).n ((yG y).drop (zK l (zN y).n).pars.toNat)).1 ((yG x).drop ((zK l (zN x).n).pars+1).toNat),(fM l (zN x).n ((yG y).drop (zK l (zN y).n).pars.toNat)).2)
  else none:=fun y=>by
  unfold uA
  rw[if_pos hk]
 refine Ou.succ ?_
 simp only[zDc,eP,W6,fL]
 refine Ou.pure (yP h0 h1) (Ou.ite (fun hn=>Ou.ret hf (.inl ⟨by rw[hact,if_pos (of_decide_eq_true hn)],rfl,_,rfl⟩)) fun hn=>?_)
 have hn':=of_decide_eq_false hn
 rw[if_neg hn']at hact
 have hlt:(zK l (zN x).n).pars<(yG x).length:=by omega
 have hp0:0≤(zK l (zN x).n).pars:=by omega
 refine Ou.pure (tR hp0 hlt) (Ou.bind (hb _ (rD hp0 hlt)) (fun h=>⟨_,hact,h⟩) (fun r hr=>⟨_,zG.ifT (by show (r.2.1 != 0)=true;rw[show r.2.1=8 from hr];decide) zG.ret,hr⟩) ?_)
 rintro R k k0 k1 ⟨y,e,hbr,rfl⟩
 dsimp only
 refine Ou.ite (fun h=>Ou.ret (by omega) (.inr ⟨_,y,e,hact,by rwa[Int.add_zero],.inl ⟨by simpa using h,_,rfl⟩⟩)) fun h=>?_
 have he:e=0:=by simpa using h
 subst he
 have hy:=hB _ _ _ (yW hs (rD hp0 hlt)) hbr
 refine Ou.evt (O8 l y hy) ?_
 unfold N4
 by_cases hc:vJ l y
 ·rw[if_pos hc]
  have hcs:=rW hy hc
  obtain⟨A,z,a1,-,-,a4,a5,a6,a7,-⟩:=vB hE hcs.1 hcs.2.1 hcs.2.2.1
  refine Ou.ifT rfl (Ou.pure (yP hcs.1 hcs.2.1) (Ou.ite (fun hf'=>Ou.ret (by omega) (.inr ⟨_,y,0,hact,by rwa[Int.add_zero],.inr ⟨rfl,.inl ⟨?_,_,rfl⟩⟩⟩)) fun hf'=>?_))
  ·rw[hre,if_neg (fun h=>by simp[h.2]at hf')]
  ·have hf2:(zK l (zN y).n).fam=(zK l (zN x).n).fam:=by simpa using hf'
   have hra:vK (yG y):=fun x hx=>zX (yW hy hx)
   have hrl:(yG y).length≤8192:=by
    have h:=zI hy
    have:=sB _ h.2.2
    omega
   have hlen:=hcs.2.2.2
   have hX:=mZ l (zN x).n ((yG y).drop (zK l (zN y).n).pars.toNat) hE (hra.drop _) (by rw[List.length_drop];omega)
   refine Ou.pure (oO a6 (by show (zK l (zN y).n).pars≤((yG y).length:Int);omega)) (Ou.evt hX.1 ?_)
   rw[yM (x:=(zK l (zN x).n).pars+1) (by omega) (by omega)]
   refine Ou.pure (oO (by omega) (by omega)) (Ou.evt (rM _ _ (by rw[List.length_drop];omega)) (Ou.ret (by omega) (.inr ⟨_,y,0,hact,by rwa[Int.add_zero],.inr ⟨rfl,.inr ⟨_,_,?_,?_,rfl⟩⟩⟩)))
   ·exact pQ _ _ hX.2.1 (ho.drop _)
   ·rw[hre,if_pos ⟨hc,hf2⟩]
 ·rw[if_neg hc]
  refine Ou.ifF rfl (Ou.ret (by omega) (.inr ⟨_,y,0,hact,by rwa[Int.add_zero],.inr ⟨rfl,.inl ⟨?_,_,rfl⟩⟩⟩))
  rw[hre,if_neg (fun h=>hc h.1)]
theorem zNa{N:ByteArray->Bool}(l:List zU)(hE:xA N l)(x:Tm)(hs:zH x=true)(f:Int)(hf:0≤f)(hk:(zN x).k=7)(hb:∀a∈yG x,HB l a f)(hB:∀a y k,zH a=true->Br l a y 0 k->zH y=true) :
  Ou (fun L U q=>zDb q (yX l) (zN x) (yG x) L U) er5 (QF l x) (∃a,wW l x = .tgt a∧∀z e k,Br l a z e k->f<k) f:=by
 have hh:=wG hs
 have hg:=(zI hh).2.2
 have h0:=mH hg
 have ho:vK (yG x):=fun y hy=>zX (yW hs hy)
 have hl:(yG x).length≤8192:=by
  have h:=zI hs
  have:=sB _ h.2.2
  omega
 have hkk:∀n:Int,n≠0->wR l (zN x)≠n:=fun n hn e=>by have:=(wD e hn).1;omega
 have hact:wW l x=if kH l (zN x).n 1=true∧xI (zK l (zN x).n)≤(yG x).length then .tgt (nth (yG x) (xI (zK l (zN x).n)-1))else .none:=by
  unfold wW
  rw[if_neg (fun h=>by omega),if_neg (hkk 3 (by decide)),if_neg (hkk 4 (by decide)),if_pos hk]
 have hre:∀y,uA l x y=if vJ l y∧(zK l (zN y).n).fam=(zN x).n then
   some (wJ (M6 l (zN x).n (nth (zN x).sub 0).n (zN y).n ((yG x).take ((zK l (zN x).n).pars+1+(zK l (zN x).n).cons.length).toNat) ((yG y).drop (zK l (zN x).n).pars.toNat)).1 ((yG x).drop (xI (zK l (zN x).n)).toNat),
    (M6 l (zN x).n (nth (zN x).sub 0).n (zN y).n ((yG x).take ((zK l (zN x).n).pars+1+(zK l (zN x).n).cons.length).toNat) ((yG y).drop (zK l (zN x).n).pars.toNat)).2)
  else none:=fun y=>by
  unfold uA
  rw[if_neg (hkk 4 (by decide))]
 refine Ou.succ ?_
 simp only[zDb,eP,W6,fL]
 refine Ou.ite (fun hn=>Ou.ret hf (.inl ⟨?_,rfl,_,rfl⟩)) fun hn=>?_
 ·rw[hact,if_neg]
  intro h
  have:=(wU h.1).2.1
  have:=of_decide_eq_true hn
  omega
 have h1:(zN x).n<l.length:=by have:=of_decide_eq_false hn;omega
 refine Ou.pure (yP h0 h1) (Ou.ite (fun hk1=>Ou.ret hf (.inl ⟨?_,rfl,_,rfl⟩)) fun hk1=>?_)
 ·rw[hact,if_neg]
  intro h
  have h2:=(wU h.1).2.2
  rw[h2]at hk1
  simp at hk1
 have hk1':(zK l (zN x).n).kind=1:=by simpa using hk1
 have hfam:=wE ((yQ (hE.2 _ h0 h1)).2.1 hk1')
 have hisT:kH l (zN x).n 1=true:=by unfold kH;simp[h0,h1,hk1']
 have hargs:xI (zK l (zN x).n)=(zK l (zN x).n).pars+2+(zK l (zN x).n).cons.length+(zK l (zN x).n).inds:=by unfold xI;rw[if_pos hk1']
 refine Ou.pure (zNe h0 h1) (Ou.ite (fun hn=>Ou.ret hf (.inl ⟨?_,rfl,_,rfl⟩)) fun hn=>?_)
 ·rw[hact,if_neg]
  intro h
  have:=of_decide_eq_true hn
  omega
 have hn':=of_decide_eq_false hn
 rw[if_pos ⟨hisT,by omega⟩]at hact
 rw[yM (x:=xI (zK l (zN x).n)-1) (by omega) (by omega)]
 have hp0:0≤xI (zK l (zN x).n)-1:=by omega
 have hlt:xI (zK l (zN x).n)-1<(yG x).length:=by omega
 refine Ou.pure (tR hp0 hlt) (Ou.bind (hb _ (rD hp0 hlt)) (fun h=>⟨_,hact,h⟩) (fun r hr=>⟨_,zG.ifT (by show (r.2.1 != 0)=true;rw[show r.2.1=8 from hr];decide) zG.ret,hr⟩) ?_)
 rintro R k k0 k1 ⟨y,e,hbr,rfl⟩
 dsimp only
 refine Ou.ite (fun h=>Ou.ret (by omega) (.inr ⟨_,y,e,hact,by rwa[Int.add_zero],.inl ⟨by simpa using h,_,rfl⟩⟩)) fun h=>?_
 have he:e=0:=by simpa using h
 subst he
 have hy:=hB _ _ _ (yW hs (rD hp0 hlt)) hbr
 refine Ou.evt (O8 l y hy) ?_
 unfold N4
 by_cases hc:vJ l y
 ·rw[if_pos hc]
  have hcs:=rW hy hc
  obtain⟨A,z,a1,-,-,a4,a5,a6,a7,-,-,-,a8,-⟩:=vB hE hcs.1 hcs.2.1 hcs.2.2.1
  refine Ou.ifT rfl (Ou.pure (yP hcs.1 hcs.2.1) (Ou.ite (fun hf'=>Ou.ret (by omega) (.inr ⟨_,y,0,hact,by rwa[Int.add_zero],.inr ⟨rfl,.inl ⟨?_,_,rfl⟩⟩⟩)) fun hf'=>?_))
  ·rw[hre,if_neg (fun h=>by simp[h.2]at hf')]
  ·have hf2:(zK l (zN y).n).fam=(zN x).n:=by simpa using hf'
   rw[hf2]at a8
   have hra:vK (yG y):=fun x hx=>zX (yW hy hx)
   have hrl:(yG y).length≤8192:=by
    have h:=zI hy
    have:=sB _ h.2.2
    omega
   have hlen:=hcs.2.2.2
   have hsub:∃s,(zN x).sub=[s]:=by
    revert hg hk
    generalize zN x=y
    intro hk hg
    obtain⟨kk,nn,ss⟩:=y
    obtain⟨s,hs,-⟩:=(wQ (xV hg).1).2.2.2.2.2.2.1 hk
    exact⟨s,hs⟩
   obtain⟨s,hsb⟩:=hsub
   rw[yM (x:=(zK l (zN x).n).pars+1) (by omega) (by omega),yM (x:=(zK l (zN x).n).pars+1+(zK l (zN x).n).cons.length) (by omega) (by omega)]
   have hX:=iA l (zN x).n (nth (zN x).sub 0).n (zN y).n ((yG x).take ((zK l (zN x).n).pars+1+(zK l (zN x).n).cons.length).toNat) ((yG y).drop (zK l (zN x).n).pars.toNat) hE (ho.take _) (hra.drop _) (by rw[List.length_take];omega) (by rw[List.length_drop];omega)
   refine Ou.pure (tR (by omega) (by rw[hsb];simp)) (Ou.pure (a:=(yG x).take ((zK l (zN x).n).pars+1+(zK l (zN x).n).cons.length).toNat) ?_ (Ou.pure (oO (by omega) (by show _≤((yG y).length:Int);omega)) (Ou.evt hX.1 ?_)))
   ·rw[O7 (by omega) (by omega) (by omega)];simp
   refine Ou.pure (oO (by omega) (by omega)) (Ou.evt (rM _ _ (by rw[List.length_drop];omega)) (Ou.ret (by omega) (.inr ⟨_,y,0,hact,by rwa[Int.add_zero],.inr ⟨rfl,.inr ⟨_,_,?_,?_,rfl⟩⟩⟩)))
   ·exact pQ _ _ hX.2.1 (ho.drop _)
   ·rw[hre,if_pos ⟨hc,hf2⟩]
 ·rw[if_neg hc]
  refine Ou.ifF rfl (Ou.ret (by omega) (.inr ⟨_,y,0,hact,by rwa[Int.add_zero],.inr ⟨rfl,.inl ⟨?_,_,rfl⟩⟩⟩))
  rw[hre,if_neg (fun h=>hc h.1)]
def zWQ(l:List zU)(Y:Tm)(e0 k0:Int)(y:Tm)(e k:Int):Prop:=
 (e0≠0∧y=zT∧e=e0∧k=k0)∨(e0=0∧zH Y=false∧y=zT∧e=2∧k=k0+1)∨(e0=0∧zH Y=true∧∃k',Br l Y y e k'∧k=k0+1+k')
section
variable {l:List zU} {x y:Tm} {e k:Int}
theorem Br.inv_none(h:Br l x y e k)(ha:wW l x = .none):y=x∧e=0∧k=0:=by
 cases h with
 |stop _=>exact⟨rfl,rfl,rfl⟩
 |redE a=>rw[ha]at a;cases a
 |redL a=>rw[ha]at a;cases a
 |red a=>rw[ha]at a;cases a
 |tgtE a=>rw[ha]at a;cases a
 |tgtN a=>rw[ha]at a;cases a
 |tgtRE a=>rw[ha]at a;cases a
 |tgtRL a=>rw[ha]at a;cases a
 |tgtR a=>rw[ha]at a;cases a
theorem Br.inv_red{Y:Tm}{e0:Int}(h:Br l x y e k)(ha:wW l x = .red Y e0):zWQ l Y e0 0 y e k:=by
 cases h with
 |stop a=>rw[ha]at a;cases a
 |redE a b=>rw[ha]at a;cases a;exact .inl ⟨b,rfl,rfl,rfl⟩
 |redL a b=>rw[ha]at a;cases a;exact .inr (.inl ⟨rfl,b,rfl,rfl,rfl⟩)
 |red a b c=>rw[ha]at a;cases a;exact .inr (.inr ⟨rfl,b,_,c,by omega⟩)
 |tgtE a=>rw[ha]at a;cases a
 |tgtN a=>rw[ha]at a;cases a
 |tgtRE a=>rw[ha]at a;cases a
 |tgtRL a=>rw[ha]at a;cases a
 |tgtR a=>rw[ha]at a;cases a
theorem Br.inv_tgt{a:Tm}(h:Br l x y e k)(ha:wW l x = .tgt a):∃z ea ka,Br l a z ea ka∧((ea≠0∧y=zT∧e=ea∧k=ka)∨(ea=0∧((uA l x z=none∧y=x∧e=0∧k=ka)∨∃Y e0,uA l x z=some (Y,e0)∧zWQ l Y e0 ka y e k))):=by
 cases h with
 |stop a=>rw[ha]at a;cases a
 |redE a b=>rw[ha]at a;cases a
 |redL a b=>rw[ha]at a;cases a
 |red a b c=>rw[ha]at a;cases a
 |tgtE a b c=>rw[ha]at a;cases a;exact⟨_,_,_,b,.inl ⟨c,rfl,rfl,rfl⟩⟩
 |tgtN a b c=>rw[ha]at a;cases a;exact⟨_,_,_,b,.inr ⟨rfl,.inl ⟨c,rfl,rfl,rfl⟩⟩⟩
 |tgtRE a b c d=>rw[ha]at a;cases a;exact⟨_,_,_,b,.inr ⟨rfl,.inr ⟨_,_,c,.inl ⟨d,rfl,rfl,rfl⟩⟩⟩⟩
 |tgtRL a b c d=>rw[ha]at a;cases a;exact⟨_,_,_,b,.inr ⟨rfl,.inr ⟨_,_,c,.inr (.inl ⟨rfl,d,rfl,rfl,rfl⟩)⟩⟩⟩
 |tgtR a b c d f=>rw[ha]at a;cases a;exact⟨_,_,_,b,.inr ⟨rfl,.inr ⟨_,_,c,.inr (.inr ⟨rfl,d,_,f,rfl⟩)⟩⟩⟩
theorem Br.det(h:Br l x y e k):∀ {y':Tm} {e' k':Int},Br l x y' e' k'->y'=y∧e'=e∧k'=k:=by
 induction h with
 |stop a=>intro y' e' k' h2;exact h2.inv_none a
 |redE a b=>
  intro y' e' k' h2
  rcases h2.inv_red a with⟨c,d⟩|⟨c,d⟩|⟨c,d⟩
  ·exact d
  ·exact absurd c b
  ·exact absurd c b
 |redL a b=>
  intro y' e' k' h2
  rcases h2.inv_red a with⟨c,d⟩|⟨c,d,f⟩|⟨c,d,f⟩
  ·exact absurd rfl c
  ·exact f
  ·rw[b]at d;cases d
 |red a b c ih=>
  intro y' e' k' h2
  rcases h2.inv_red a with⟨c,d⟩|⟨c,d,f⟩|⟨c,d,n,f,g⟩
  ·exact absurd rfl c
  ·rw[b]at d;cases d
  ·obtain⟨rfl,rfl,rfl⟩:=ih f;exact⟨rfl,rfl,by omega⟩
 |tgtE a b c ih=>
  intro y' e' k' h2
  obtain⟨z',ea,ka,hb',h3⟩:=h2.inv_tgt a
  obtain⟨rfl,rfl,rfl⟩:=ih hb'
  rcases h3 with⟨_,d⟩|⟨d,_⟩
  ·exact d
  ·exact absurd d c
 |tgtN a b c ih=>
  intro y' e' k' h2
  obtain⟨z',ea,ka,hb',h3⟩:=h2.inv_tgt a
  obtain⟨rfl,rfl,rfl⟩:=ih hb'
  rcases h3 with⟨d,_⟩|⟨_,⟨_,d⟩|⟨Y,e0,d,_⟩⟩
  ·exact absurd rfl d
  ·exact d
  ·rw[c]at d;cases d
 |tgtRE a b c d ih=>
  intro y' e' k' h2
  obtain⟨z',ea,ka,hb',h3⟩:=h2.inv_tgt a
  obtain⟨rfl,rfl,rfl⟩:=ih hb'
  rcases h3 with⟨f,_⟩|⟨_,⟨f,_⟩|⟨Y,e0,f,g⟩⟩
  ·exact absurd rfl f
  ·rw[c]at f;cases f
  ·rw[c]at f;cases f
   rcases g with⟨_,g⟩|⟨g,_⟩|⟨g,_⟩
   ·exact g
   ·exact absurd g d
   ·exact absurd g d
 |tgtRL a b c d ih=>
  intro y' e' k' h2
  obtain⟨z',ea,ka,hb',h3⟩:=h2.inv_tgt a
  obtain⟨rfl,rfl,rfl⟩:=ih hb'
  rcases h3 with⟨f,_⟩|⟨_,⟨f,_⟩|⟨Y,e0,f,g⟩⟩
  ·exact absurd rfl f
  ·rw[c]at f;cases f
  ·rw[c]at f;cases f
   rcases g with⟨g,_⟩|⟨_,_,g⟩|⟨_,g,_⟩
   ·exact absurd rfl g
   ·exact g
   ·rw[d]at g;cases g
 |tgtR a b c d f ih ih2=>
  intro y' e' k' h2
  obtain⟨z',ea,ka,hb',h3⟩:=h2.inv_tgt a
  obtain⟨rfl,rfl,rfl⟩:=ih hb'
  rcases h3 with⟨f,_⟩|⟨_,⟨f,_⟩|⟨Y,e0,f,g⟩⟩
  ·exact absurd rfl f
  ·rw[c]at f;cases f
  ·rw[c]at f;cases f
   rcases g with⟨g,_⟩|⟨_,g,_⟩|⟨_,_,n,g,rfl⟩
   ·exact absurd rfl g
   ·rw[d]at g;cases g
   ·obtain⟨rfl,rfl,rfl⟩:=ih2 g;exact⟨rfl,rfl,rfl⟩
theorem Br.last(h:Br l x y e k):e=0->∃j,j≤k∧On l y y false 0 j:=by
 induction h with
 |stop a=>exact fun _=>⟨0,by omega,.stop a⟩
 |redE _ h=>exact fun he=>absurd he h
 |redL _ _=>exact fun he=>absurd he (by decide)
 |red _ _ _ ih=>exact fun he=>by obtain⟨j,a,b⟩:=ih he;exact⟨j,by omega,b⟩
 |tgtE _ _ h _=>exact fun he=>absurd he h
 |tgtN a b c _=>exact fun _=>⟨_,by omega,.tgtN a b c⟩
 |tgtRE _ _ _ h _=>exact fun he=>absurd he h
 |tgtRL _ _ _ _ _=>exact fun he=>absurd he (by decide)
 |tgtR _ b _ _ _ _ ih=>exact fun he=>by obtain⟨j,a,c⟩:=ih he;exact⟨j,by have:=b.nn;omega,c⟩
theorem On.det{Y Y':Tm}{d d':Bool}{e e' k k':Int}(h:On l x Y d e k)(h':On l x Y' d' e' k'):Y'=Y∧d'=d∧e'=e∧k'=k:=by
 cases h with
 |stop a=>
  cases h' with
  |stop _=>exact⟨rfl,rfl,rfl,rfl⟩
  |redE b=>rw[a]at b;cases b
  |redL b=>rw[a]at b;cases b
  |red b=>rw[a]at b;cases b
  |tgtE b=>rw[a]at b;cases b
  |tgtN b=>rw[a]at b;cases b
  |tgtRE b=>rw[a]at b;cases b
  |tgtRL b=>rw[a]at b;cases b
  |tgtR b=>rw[a]at b;cases b
 |redE a c=>
  cases h' with
  |redE b=>rw[a]at b;cases b;exact⟨rfl,rfl,rfl,rfl⟩
  |redL b=>rw[a]at b;cases b;exact absurd rfl c
  |red b=>rw[a]at b;cases b;exact absurd rfl c
  |stop b=>rw[a]at b;cases b
  |tgtE b=>rw[a]at b;cases b
  |tgtN b=>rw[a]at b;cases b
  |tgtRE b=>rw[a]at b;cases b
  |tgtRL b=>rw[a]at b;cases b
  |tgtR b=>rw[a]at b;cases b
 |redL a c=>
  cases h' with
  |redE b d=>rw[a]at b;cases b;exact absurd rfl d
  |redL b=>exact⟨rfl,rfl,rfl,rfl⟩
  |red b d=>rw[a]at b;cases b;rw[c]at d;cases d
  |stop b=>rw[a]at b;cases b
  |tgtE b=>rw[a]at b;cases b
  |tgtN b=>rw[a]at b;cases b
  |tgtRE b=>rw[a]at b;cases b
  |tgtRL b=>rw[a]at b;cases b
  |tgtR b=>rw[a]at b;cases b
 |red a c=>
  cases h' with
  |redE b d=>rw[a]at b;cases b;exact absurd rfl d
  |redL b d=>rw[a]at b;cases b;rw[c]at d;cases d
  |red b d=>rw[a]at b;cases b;exact⟨rfl,rfl,rfl,rfl⟩
  |stop b=>rw[a]at b;cases b
  |tgtE b=>rw[a]at b;cases b
  |tgtN b=>rw[a]at b;cases b
  |tgtRE b=>rw[a]at b;cases b
  |tgtRL b=>rw[a]at b;cases b
  |tgtR b=>rw[a]at b;cases b
 |tgtE a c f=>
  cases h' with
  |stop b=>rw[a]at b;cases b
  |redE b=>rw[a]at b;cases b
  |redL b=>rw[a]at b;cases b
  |red b=>rw[a]at b;cases b
  |tgtE b g=>rw[a]at b;cases b;obtain⟨-,rfl,rfl⟩:=c.det g;exact⟨rfl,rfl,rfl,rfl⟩
  |tgtN b g=>rw[a]at b;cases b;exact absurd (c.det g).2.1.symm f
  |tgtRE b g=>rw[a]at b;cases b;exact absurd (c.det g).2.1.symm f
  |tgtRL b g=>rw[a]at b;cases b;exact absurd (c.det g).2.1.symm f
  |tgtR b g=>rw[a]at b;cases b;exact absurd (c.det g).2.1.symm f
 |tgtN a c f=>
  cases h' with
  |stop b=>rw[a]at b;cases b
  |redE b=>rw[a]at b;cases b
  |redL b=>rw[a]at b;cases b
  |red b=>rw[a]at b;cases b
  |tgtE b g n=>rw[a]at b;cases b;exact absurd (c.det g).2.1 n
  |tgtN b g=>rw[a]at b;cases b;obtain⟨-,-,rfl⟩:=c.det g;exact⟨rfl,rfl,rfl,rfl⟩
  |tgtRE b g n=>rw[a]at b;cases b;obtain⟨rfl,-,-⟩:=c.det g;rw[f]at n;cases n
  |tgtRL b g n=>rw[a]at b;cases b;obtain⟨rfl,-,-⟩:=c.det g;rw[f]at n;cases n
  |tgtR b g n=>rw[a]at b;cases b;obtain⟨rfl,-,-⟩:=c.det g;rw[f]at n;cases n
 |tgtRE a c f n0=>
  cases h' with
  |stop b=>rw[a]at b;cases b
  |redE b=>rw[a]at b;cases b
  |redL b=>rw[a]at b;cases b
  |red b=>rw[a]at b;cases b
  |tgtE b g n=>rw[a]at b;cases b;exact absurd (c.det g).2.1 n
  |tgtN b g n=>rw[a]at b;cases b;obtain⟨rfl,-,-⟩:=c.det g;rw[f]at n;cases n
  |tgtRE b g n=>rw[a]at b;cases b;obtain⟨rfl,-,rfl⟩:=c.det g;rw[f]at n;cases n;exact⟨rfl,rfl,rfl,rfl⟩
  |tgtRL b g n=>rw[a]at b;cases b;obtain⟨rfl,-,-⟩:=c.det g;rw[f]at n;cases n;exact absurd rfl n0
  |tgtR b g n=>rw[a]at b;cases b;obtain⟨rfl,-,-⟩:=c.det g;rw[f]at n;cases n;exact absurd rfl n0
 |tgtRL a c f n0=>
  cases h' with
  |stop b=>rw[a]at b;cases b
  |redE b=>rw[a]at b;cases b
  |redL b=>rw[a]at b;cases b
  |red b=>rw[a]at b;cases b
  |tgtE b g n=>rw[a]at b;cases b;exact absurd (c.det g).2.1 n
  |tgtN b g n=>rw[a]at b;cases b;obtain⟨rfl,-,-⟩:=c.det g;rw[f]at n;cases n
  |tgtRE b g n m=>rw[a]at b;cases b;obtain⟨rfl,-,-⟩:=c.det g;rw[f]at n;cases n;exact absurd rfl m
  |tgtRL b g n=>rw[a]at b;cases b;obtain⟨rfl,-,rfl⟩:=c.det g;exact⟨rfl,rfl,rfl,rfl⟩
  |tgtR b g n m=>rw[a]at b;cases b;obtain⟨rfl,-,-⟩:=c.det g;rw[f]at n;cases n;rw[n0]at m;cases m
 |tgtR a c f n0=>
  cases h' with
  |stop b=>rw[a]at b;cases b
  |redE b=>rw[a]at b;cases b
  |redL b=>rw[a]at b;cases b
  |red b=>rw[a]at b;cases b
  |tgtE b g n=>rw[a]at b;cases b;exact absurd (c.det g).2.1 n
  |tgtN b g n=>rw[a]at b;cases b;obtain⟨rfl,-,-⟩:=c.det g;rw[f]at n;cases n
  |tgtRE b g n m=>rw[a]at b;cases b;obtain⟨rfl,-,-⟩:=c.det g;rw[f]at n;cases n;exact absurd rfl m
  |tgtRL b g n m=>rw[a]at b;cases b;obtain⟨rfl,-,-⟩:=c.det g;rw[f]at n;cases n;rw[n0]at m;cases m
  |tgtR b g n=>rw[a]at b;cases b;obtain⟨rfl,-,rfl⟩:=c.det g;rw[f]at n;cases n;exact⟨rfl,rfl,rfl,rfl⟩
end
section
variable {l:List zU} {x y:Tm} {e k:Int}
theorem On.tgt_lt{a Y:Tm}{d:Bool}{f:Int}(h:On l x Y d e k)(ha:wW l x = .tgt a)(hl:∀z e k,Br l a z e k->f<k):f<k:=by
 cases h with
 |stop b=>rw[ha]at b;cases b
 |redE b=>rw[ha]at b;cases b
 |redL b=>rw[ha]at b;cases b
 |red b=>rw[ha]at b;cases b
 |tgtE b g=>rw[ha]at b;cases b;exact hl _ _ _ g
 |tgtN b g=>rw[ha]at b;cases b;exact hl _ _ _ g
 |tgtRE b g=>rw[ha]at b;cases b;exact hl _ _ _ g
 |tgtRL b g=>rw[ha]at b;cases b;have:=hl _ _ _ g;omega
 |tgtR b g=>rw[ha]at b;cases b;have:=hl _ _ _ g;omega
theorem On.red_lt{Y Z:Tm}{d:Bool}{e0:Int}(h:On l x Y d e k)(ha:wW l x = .red Z e0)(h0:e0=0):k=1:=by
 subst h0
 cases h with
 |stop b=>rw[ha]at b;cases b
 |redE b c=>rw[ha]at b;cases b;exact absurd rfl c
 |redL b=>rfl
 |red b=>rfl
 |tgtE b g=>rw[ha]at b;cases b
 |tgtN b g=>rw[ha]at b;cases b
 |tgtRE b g=>rw[ha]at b;cases b
 |tgtRL b g=>rw[ha]at b;cases b
 |tgtR b g=>rw[ha]at b;cases b
theorem Br.first(h:Br l x y e k):∃Y d e1 k1,On l x Y d e1 k1∧k1≤k:=by
 cases h with
 |stop a=>exact⟨_,_,_,_,.stop a,by omega⟩
 |redE a b=>exact⟨_,_,_,_,.redE a b,by omega⟩
 |redL a b=>exact⟨_,_,_,_,.redL a b,by omega⟩
 |red a b c=>exact⟨_,_,_,_,.red a b,by have:=c.nn;omega⟩
 |tgtE a b c=>exact⟨_,_,_,_,.tgtE a b c,by omega⟩
 |tgtN a b c=>exact⟨_,_,_,_,.tgtN a b c,by omega⟩
 |tgtRE a b c d=>exact⟨_,_,_,_,.tgtRE a b c d,by omega⟩
 |tgtRL a b c d=>exact⟨_,_,_,_,.tgtRL a b c d,by omega⟩
 |tgtR a b c d f=>exact⟨_,_,_,_,.tgtR a b c d,by have:=f.nn;omega⟩
theorem Br.after{Y:Tm}{k1:Int}(h:Br l x y e k)(hO:On l x Y true 0 k1):∃k2,Br l Y y e k2∧k=k1+k2:=by
 cases hO with
 |red a b=>
  rcases h.inv_red a with⟨c,-⟩|⟨-,c,-⟩|⟨-,-,n,f,g⟩
  ·exact absurd rfl c
  ·rw[b]at c;cases c
  ·exact⟨n,f,by omega⟩
 |tgtR a b c d=>
  obtain⟨z',ea,ka,hb',h3⟩:=h.inv_tgt a
  obtain⟨rfl,rfl,rfl⟩:=b.det hb'
  rcases h3 with⟨f,_⟩|⟨_,⟨f,_⟩|⟨Y,e0,f,g⟩⟩
  ·exact absurd rfl f
  ·rw[c]at f;cases f
  ·rw[c]at f;cases f
   rcases g with⟨g,_⟩|⟨_,g,_⟩|⟨_,_,n,g,rfl⟩
   ·exact absurd rfl g
   ·rw[d]at g;cases g
   ·exact⟨n,g,by omega⟩
end
def e92(qq:Nat)(M:wF)(p1:Tm):Option Bool:=
 e48 qq p1 1048577 (M.l.length:Int)>>=fun r1=>
 some r1
theorem c92{qq M p1 r}(h:e92 qq M p1=some r):Ct 92 [mB M 1,mR M] [.mp 0 0,xF p1] (ab r) [mB M 1,mR M] 0:=⟨by
 unfold e92 at h
 obtain⟨r1,h2,h⟩:=zB h
 obtain rfl:=sj h
 exact tF ⟨func92,rfl⟩ 0 [0,1] (rF M<|oC 4 [] (c48 h2) o0),⟨(lz rfl),⟨tv,tv,⟨tv,dT _⟩,tv⟩,tv⟩,(eH (lz rfl) zA),tv,(iY (lz rfl) zA)⟩
def e60(qq:Nat)(M:wF)(p1:Tm)(fl fu:Int):Option (Tm×Int×Int×Int):=
 e92 qq M p1>>=fun r1=>
 if r1 then
 e93 qq M p1 fl fu>>=fun r4=>
 if r4.2.1 != 0 then
 some ((Tm.mk 0 0 []),r4.2.1,r4.2.2.1,r4.2.2.2)
 else
 e26 qq r4.1>>=fun r7=>
 some (r7,0,r4.2.2.1,r4.2.2.2)
 else
 some ((Tm.mk 0 0 []),5,fl,fu)
theorem q60:Qf 60 f60:=⟨func60,rfl⟩
theorem c60{qq M p1 fl fu r}(h:e60 qq M p1 fl fu=some r):Ct 60 [mB M 1,mR M,.cells [ai fl,ai fu]] [.mp 0 0,xF p1,.mp 2 0] (.tup [xF r.1,ai r.2.1]) [mB M 1,mR M,.cells [ai r.2.2.1,ai r.2.2.2]] 0:=⟨by
 unfold e60 at h
 obtain⟨r1,h2,h⟩:=zB h
 obtain⟨h3,h⟩|⟨h3,h⟩:=zL h
 obtain⟨r4,h5,h⟩:=zB h
 have k:=oC 2 [0,1,2] (c93 h5)<|oK 1 [0,1] h3 (c92 h2) o0
 obtain⟨h6,h⟩|⟨h6,h⟩:=zL h
 cases h
 exact tF q60 1 [0,1,2] (oD (dT ([]:zQ))<|rF M<|oB 3 h6 k)
 obtain⟨r7,h8,h⟩:=zB h
 cases h
 exact tF q60 1 [0,1,2] (oD (dT r7.sub)<|rF M<|oC 1 [] (c26 h8)<|oB 3 h6 k)
 cases h
 exact tF q60 2 [0,1,2] (oD (dT ([]:zQ))<|rF M<|oK 1 [0,1] h3 (c92 h2) o0),⟨(lz rfl),⟨tv,tv,⟨tv,dT _⟩,tv⟩,(lz rfl),tv⟩,(eH (lz rfl) (zC ⟨tv,tv,tv⟩ zA)),⟨⟨tv,tv,dT _,tv⟩,tv,tv⟩,(iY (lz rfl) (zC ⟨tv,tv,tv⟩ zA))⟩
theorem Br.shaped{l:List zU}{x y:Tm}{e k:Int}(h:Br l x y e k):zH x=true->e=0->zH y=true:=by
 induction h with
 |stop _=>exact fun hs _=>hs
 |redE _ h=>exact fun _ he=>absurd he h
 |redL _ _=>exact fun _ he=>absurd he (by decide)
 |red _ hY _ ih=>exact fun _ he=>ih hY he
 |tgtE _ _ h _=>exact fun _ he=>absurd he h
 |tgtN _ _ _ _=>exact fun hs _=>hs
 |tgtRE _ _ _ h _=>exact fun _ he=>absurd he h
 |tgtRL _ _ _ _ _=>exact fun _ he=>absurd he (by decide)
 |tgtR _ _ _ hY _ _ ih=>exact fun _ he=>ih hY he
theorem zBs{Q:(Int->Int->Tm×Bool×Int×Int×Int)->Int->Prop}(p Y:Tm)(f:Int)(hf:0≤f)(ho:Y.Ok)(hL:zH Y=false->Q (fun L U=>(zT,true,2,L,U)) 1)(hS:zH Y=true->Q (fun L U=>(Y,true,0,L,U)) 1){S:Prop}(hsh:f<1->S) :
  Ou (fun L U q=>(dJ q L U)>>=fun r28=>if (r28.1 != 0)=true then some (p,false,r28.1,r28.2.1,r28.2.2)else(J0 q Y)>>=fun r31=>some (r31.1,true,r31.2,r28.2.1,r28.2.2)) er5 Q S f:=by
 refine Ou.bind (zQT f hf) hsh (fun r hr=>⟨_,zG.ifT (by show (r.1 != 0)=true;rw[show r.1=8 from hr];decide) zG.ret,hr⟩) ?_
 rintro R k k0 k1 ⟨rfl,rfl⟩
 dsimp only
 refine Ou.ifF rfl (Ou.evt (zFa Y ho) ?_)
 unfold zUn
 cases h:zH Y with
 |true=>exact Ou.ret (by omega) (hS h)
 |false=>exact Ou.ret (by omega) (hL h)
theorem zDa(l:List zU)(p:Tm)(f:Int)(hf:0≤f){g:Int->Int->Nat->Option (Tm×Bool×Int×Int×Int)}(h:Ou g er5 (QF l p) (∃a,wW l p = .tgt a∧∀z e k,Br l a z e k->f<k) f) :
  Ou (fun L U q=>g L U q>>=fun r36=>if r36.2.1=true then(if (r36.2.2.1 != 0)=true then some (p,false,r36.2.2.1,r36.2.2.2.1,r36.2.2.2.2)else
   (dJ q r36.2.2.2.1 r36.2.2.2.2)>>=fun r40=>if (r40.1 != 0)=true then some (p,false,r40.1,r40.2.1,r40.2.2)else(J0 q r36.1)>>=fun r43=>some (r43.1,true,r43.2,r40.2.1,r40.2.2))
   else(if (r36.2.2.1 != 0)=true then some (p,false,r36.2.2.1,r36.2.2.2.1,r36.2.2.2.2)else some (p,false,r36.2.2.1,r36.2.2.2.1,r36.2.2.2.2))) er5 (QO l p) (∀Y d e k,On l p Y d e k->f<k) f:=by
 refine Ou.bind h (fun⟨a,ha,h⟩ Y d e k hO=>hO.tgt_lt ha h) (fun r hr=>?_) ?_
 ·have hr':(r.2.2.1 != 0)=true:=by rw[show r.2.2.1=8 from hr];decide
  cases hd:r.2.1 with
  |true=>exact⟨_,zG.ifT rfl (zG.ifT hr' zG.ret),hr⟩
  |false=>exact⟨_,zG.ifF rfl (zG.ifT hr' zG.ret),hr⟩
 ·rintro R k k0 k1 (⟨ha,rfl,Y,rfl⟩|⟨a,z,e,ha,hb,⟨he,Y,rfl⟩|⟨rfl,⟨hr,Y,rfl⟩|⟨Y,e',hY,hr,rfl⟩⟩⟩)
  ·exact Ou.ifF rfl (Ou.ifF rfl (Ou.ret (by omega) ⟨p,false,0,On.stop ha,rfl⟩))
  ·dsimp only
   exact Ou.ifF rfl (Ou.ifT (by simpa using he) (Ou.ret (by omega) ⟨p,false,e,by rw[Int.add_zero];exact On.tgtE ha hb he,rfl⟩))
  ·exact Ou.ifF rfl (Ou.ifF rfl (Ou.ret (by omega) ⟨p,false,0,by rw[Int.add_zero];exact On.tgtN ha hb hr,rfl⟩))
  ·dsimp only
   refine Ou.ifT rfl (Ou.ite (fun h=>?_) fun h=>?_)
   ·exact Ou.ret (by omega) ⟨p,false,e',by rw[Int.add_zero];exact On.tgtRE ha hb hr (by simpa using h),rfl⟩
   ·have he:e'=0:=by simpa using h
    subst he
    refine zBs p Y (f-k) (by omega) hY (fun hs=>⟨_,_,_,On.tgtRL ha hb hr hs,rfl⟩) (fun hs=>⟨_,_,_,On.tgtR ha hb hr hs,rfl⟩) (fun h Y' d' e' k' hO=>?_)
    cases hsY:zH Y with
    |true=>have:=(On.tgtR ha hb hr hsY).det hO;omega
    |false=>have:=(On.tgtRL ha hb hr hsY).det hO;omega
theorem zNA{N:ByteArray->Bool}(l:List zU)(hE:xA N l)(he:∀e∈l,hJ e)(x:Tm)(hs:zH x=true)(f:Int)(hf:0≤f)(hb:∀a∈yG x,HB l a f):Ou (fun L U q=>zFA q (yX l) x L U) er5 (QO l x) (∀Y d e k,On l x Y d e k->f<k) f:=by
 have hB:∀a y k,zH a=true->Br l a y 0 k->zH y=true:=fun a y k h1 h2=>h2.shaped h1 rfl
 have hh:=wG hs
 have hg:=(zI hh).2.2
 have hn:=mH hg
 have ho:vK (yG x):=fun y hy=>zX (yW hs hy)
 have hl:(yG x).length≤8192:=by
  have h:=zI hs
  have:=sB _ h.2.2
  omega
 refine Ou.succ ?_
 simp only[zFA,eP,W6,fL]
 refine Ou.evt (oI x hs) (Ou.ite (fun h4=>?_) fun h4=>?_)
 ·have h4':(zN x).k=4:=by simpa using h4
  have hkk:∀k:Int,k≠0->wR l (zN x)≠k:=fun k hk e=>by have:=(wD e hk).1;omega
  refine Ou.ite (fun hlen=>?_) fun hlen=>?_
  ·have hlen':((yG x).length:Int)>0:=of_decide_eq_true hlen
   obtain⟨a,b,hab,-,hgb⟩:=tS hg (.inr (.inl h4'))
   have hm:nth (yG x) 0∈yG x:=rD (by omega) (by omega)
   have hbo:(nth (zN x).sub 1).Ok:=by rw[hab];exact rS b hgb
   have hact:wW l x = .red (wJ (oJ (nth (zN x).sub 1) [nth (yG x) 0]).1 ((yG x).drop 1)) (oJ (nth (zN x).sub 1) [nth (yG x) 0]).2:=by
    unfold wW
    rw[if_pos ⟨h4',by omega⟩]
   refine Ou.pure (tR (by omega) (by rw[hab];simp)) (Ou.pure (tR (by omega) (by show (0:Int)<((yG x).length:Int);omega)) (Ou.evt (zTb _ _ hbo (ho _ hm)) (Ou.pure (oO (by omega) (by show (1:Int)≤((yG x).length:Int);omega)) (Ou.evt (rM _ _ (by show (List.drop _ (yG x)).length<_;rw[List.length_drop];omega)) ?_))))
   refine Ou.ite (fun h=>Ou.ret hf ⟨_,_,_,On.redE hact (by simpa using h),rfl⟩) fun h=>?_
   have he0:(oJ (nth (zN x).sub 1) [nth (yG x) 0]).2=0:=by simpa using h
   rw[he0]at hact
   exact zBs x _ f hf (pQ _ _ (zGW _ _ hbo (vK.one (ho _ hm))) (ho.drop _)) (fun hs=>⟨_,_,_,On.redL hact hs,rfl⟩) (fun hs=>⟨_,_,_,On.red hact hs,rfl⟩) (fun h Y' d' e' k' hO=>by have:=hO.red_lt hact rfl;omega)
  ·have hlen':¬((yG x).length:Int)>0:=of_decide_eq_false hlen
   have hact:wW l x = .none:=by
    unfold wW
    rw[if_neg (fun h=>by omega),if_neg (hkk 3 (by decide)),if_neg (hkk 4 (by decide)),if_neg (by omega)]
   refine Ou.evt (fJ l _ hn) (Ou.ifF (by simpa using hkk 3 (by decide)) ?_)
   refine Ou.evt (fJ l _ hn) (Ou.ifF (by simpa using hkk 4 (by decide)) ?_)
   exact Ou.ifF (by show ((zN x).k==7)=false;rw[h4'];decide) (Ou.ret hf ⟨_,_,_,On.stop hact,rfl⟩)
 ·have h4':(zN x).k≠4:=by simpa using h4
  refine Ou.evt (fJ l _ hn) (Ou.ite (fun h=>?_) fun h=>?_)
  ·have h3:wR l (zN x)=3:=by simpa using h
   have hk:=wD h3 (by decide)
   have hact:wW l x = .red (wJ (zK l (zN x).n).body (yG x)) 0:=by
    unfold wW
    rw[if_neg (fun h=>h4' h.1),if_pos h3]
   refine Ou.pure (yP hn hk.2.1) (Ou.evt (rM _ _ (by show (yG x).length<_;omega)) ?_)
   exact zBs x _ f hf (pQ _ _ (he _ (nL hn hk.2.1)).2.1 ho) (fun hs=>⟨_,_,_,On.redL hact hs,rfl⟩) (fun hs=>⟨_,_,_,On.red hact hs,rfl⟩) (fun h Y' d' e' k' hO=>by have:=hO.red_lt hact rfl;omega)
  ·have h3:wR l (zN x)≠3:=by simpa using h
   refine Ou.evt (fJ l _ hn) (Ou.ite (fun h=>?_) fun h=>?_)
   ·exact zDa l x f hf (zJS l hE x hs f hf h4' (by simpa using h) hb hB)
   ·have h4k:wR l (zN x)≠4:=by simpa using h
    refine Ou.ite (fun h=>zDa l x f hf (zNa l hE x hs f hf (by simpa using h) hb hB)) fun h=>?_
    have h7:(zN x).k≠7:=by simpa using h
    have hact:wW l x = .none:=by
     unfold wW
     rw[if_neg (fun h=>h4' h.1),if_neg h3,if_neg h4k,if_neg h7]
    exact Ou.ret hf ⟨_,_,_,On.stop hact,rfl⟩
theorem zJT{N:ByteArray->Bool}(l:List zU)(hE:xA N l)(he:∀e∈l,hJ e):∀(F n:Nat) (x:Tm),zH x=true->x.nodes≤n->Ou (fun L U q=>fK q (yX l) L U x.k x.n x.sub) er4 (fun R k=>∃y e,Br l x y e k∧R=fun L U=>(y,e,L,U)) (∀y e k,Br l x y e k->(F:Int)<k) (F:Int):=by
 intro F
 induction F using Nat.strongRecOn with
 |ind F IH=>
  intro n
  induction n with
  |zero=>intro x _ h;have:=uS x;omega
  |succ n ih=>
   intro x hs hn
   have hg:=(zI hs).2.2
   have hb:∀a∈yG x,HB l a F:=fun a ha=>by
    have:=((mW x hg).2.2.2.2 a ha).2.1
    refine Ou.succ ?_
    simp only[e93]
    exact ih a (yW hs ha) (by omega)
   refine Ou.succ ?_
   simp only[fK,uQ]
   refine Ou.bind (zNA l hE he x hs F (by omega) hb) (fun h y e k hbr=>by obtain⟨Y,d,e1,k1,h1,h2⟩:=hbr.first;have:=h _ _ _ _ h1;omega) (fun r hr=>?_) ?_
   ·have hr':(r.2.2.1 != 0)=true:=by rw[show r.2.2.1=8 from hr];decide
    cases hd:r.2.1 with
    |true=>exact⟨_,zG.ifT rfl (zG.ifT hr' zG.ret),hr⟩
    |false=>exact⟨_,zG.ifF rfl (zG.ifT hr' zG.ret),hr⟩
   ·rintro R k k0 k1 ⟨Y,d,e,hO,rfl⟩
    dsimp only
    by_cases e0:e=0
    ·subst e0
     cases d with
     |true=>
      obtain⟨hY,hk1,hst⟩:=hO.step
      refine Ou.ifT rfl (Ou.ifF rfl ?_)
      have:=IH ((F:Int)-k).toNat (by omega) Y.nodes Y hY (Nat.le_refl _)
      rw[show ((((F:Int)-k).toNat:Nat):Int)=F-k by omega]at this
      refine this.mono ?_ fun h y e k' hbr=>?_
      ·rintro R n _ _ ⟨y,e,hbr,rfl⟩
       exact⟨y,e,hst y e n hbr,rfl⟩
      ·obtain⟨k2,h2,h3⟩:=hbr.after hO
       have:=h _ _ _ h2
       omega
     |false=>
      obtain⟨rfl,hbr⟩:=hO.still
      exact Ou.ifF rfl (Ou.ifF rfl (Ou.ret (by omega) ⟨Y,0,by rwa[Int.add_zero],rfl⟩))
    ·have hb:=hO.err e0
     have hr':(e != 0)=true:=by simpa using e0
     cases d with
     |true=>exact Ou.ifT rfl (Ou.ifT hr' (Ou.ret (by omega) ⟨zT,e,by rwa[Int.add_zero],rfl⟩))
     |false=>exact Ou.ifF rfl (Ou.ifT hr' (Ou.ret (by omega) ⟨zT,e,by rwa[Int.add_zero],rfl⟩))
theorem zUi{N:ByteArray->Bool}(l:List zU)(hE:xA N l)(he:∀e∈l,hJ e)(x:Tm)(hs:zH x=true)(f:Int)(hf:0≤f):HB l x f:=by
 refine Ou.succ ?_
 simp only[e93]
 have:=zJT l hE he f.toNat x.nodes x hs (Nat.le_refl _)
 rwa[show ((f.toNat:Nat):Int)=f by omega]at this
def wA(l:List zU)(x:Tm):Prop:=rV x 1048577 l.length=true
instance (l:List zU) (x:Tm):Decidable (wA l x):=inferInstanceAs (Decidable (_=true))
theorem wA.shaped{l:List zU}{x:Tm}(h:wA l x):zH x=true:=by
 unfold wA rV at h
 simp only[Bool.and_eq_true]at h
 exact h.1.1
def QBR(l:List zU)(x:Tm)(R:Int->Int->Tm×Int×Int×Int)(k:Int):Prop:=
 (¬wA l x∧k=0∧R=fun L U=>(zT,5,L,U))∨(wA l x∧∃y e,Br l x y e k∧R=fun L U=>(if e=0 then y else zT,e,L,U))
theorem J1{N:ByteArray->Bool}(l:List zU)(hE:xA N l)(he:∀e∈l,hJ e)(x:Tm)(ho:x.Ok)(f:Int)(hf:0≤f):Ou (fun L U q=>e60 q (yX l) x L U) er4 (QBR l x) (wA l x∧∀y e k,Br l x y e k->f<k) f:=by
 simp only[e60,e92,eP]
 refine Ou.evt (a:=rV x 1048577 l.length) ((kD x _ _ ho).bind zG.ret) (Ou.ite (fun h=>?_) fun h=>?_)
 ·have hR:wA l x:=h
  refine Ou.bind (zUi l hE he x hR.shaped f hf) (fun h=>⟨hR,h⟩) (fun r hr=>⟨_,zG.ifT (by show (r.2.1 != 0)=true;rw[show r.2.1=8 from hr];decide) zG.ret,hr⟩) ?_
  rintro R k k0 k1 ⟨y,e,hbr,rfl⟩
  dsimp only
  by_cases e0:e=0
  ·subst e0
   have hy:=hbr.shaped hR.shaped rfl
   refine Ou.ifF rfl (Ou.evt (a:=y) ((nJ y (zX hy)).eq (by unfold iZ;rw[if_pos hy])) (Ou.ret (by omega) (.inr ⟨hR,y,0,by rwa[Int.add_zero],rfl⟩)))
  ·refine Ou.ifT (by simpa using e0) (Ou.ret (by omega) (.inr ⟨hR,y,e,by rwa[Int.add_zero],?_⟩))
   rw[if_neg e0];rfl
 ·exact Ou.ret hf (.inl ⟨by unfold wA;rw[h];simp,rfl,rfl⟩)
structure Inv (l:List zU) (I:Tm->Prop):Prop where
 spine:∀t,xG t=true->I t->I (zN t)∧∀a∈yG t,I a
 ap:∀f as0,I f->(∀a∈as0,I a)->I (wJ f as0)
 beta:∀(n:Int) (a b x:Tm),I (.mk 4 n [a,b])->I x->I (vQ [x] b 0)
 body:∀i:Int,0≤i->i<l.length->(zK l i).kind=3->I (zK l i).body
 step:∀(d:Int) (s:Tm) (lev c:Int) (args own:List Tm),I (.mk 7 d [s])->kH l c 2=true->(zK l c).fam=d->(args.length:Int)=(zK l d).pars+1+(zK l d).cons.length->own.length=(xU l c).args.length->(∀a∈args,I a)->(∀a∈own,I a)->I (kL l d lev c args own)
theorem zQW{l:List zU}{I:Tm->Prop}(hI:Inv l I){x Y:Tm}(hs:zH x=true)(hx:I x)(h:wW l x = .red Y 0):I Y:=by
 have hsp:=hI.spine x (zI hs).2.2 hx
 have hg:=(zI (wG hs)).2.2
 unfold wW at h
 by_cases h1:(zN x).k=4∧0<(yG x).length
 ·rw[if_pos h1]at h
  have hm:nth (yG x) 0∈yG x:=rD (by omega) (by omega)
  obtain⟨a,b,hab,-,-⟩:=tS hg (.inr (.inl h1.1))
  have hhd:zN x = .mk 4 (zN x).n [a,b]:=by rw[←h1.1,←hab,uQ]
  injection h with hY he
  rw[(eJ he).2.2.2]at hY
  rw[←hY]
  refine hI.ap _ _ ?_ fun y hy=>hsp.2 y (List.mem_of_mem_drop hy)
  have hb:nth (zN x).sub 1=b:=by rw[hab];rfl
  rw[hb]
  exact hI.beta (zN x).n a b _ (by rw[←hhd];exact hsp.1) (hsp.2 _ hm)
 ·rw[if_neg h1]at h
  by_cases h2:wR l (zN x)=3
  ·rw[if_pos h2]at h
   injection h with hY he
   rw[←hY]
   have hk:=wD h2 (by decide)
   exact hI.ap _ _ (hI.body _ (mH hg) hk.2.1 hk.2.2) hsp.2
  ·rw[if_neg h2]at h
   split at h
   ·split at h<;>cases h
   ·split at h
    ·split at h<;>cases h
    ·cases h
theorem iB{N:ByteArray->Bool}{l:List zU}(hE:xA N l){x a:Tm}(hs:zH x=true)(h:wW l x = .tgt a):a∈yG x∧(wR l (zN x)=4∨((zN x).k=7∧kH l (zN x).n 1=true∧xI (zK l (zN x).n)≤(yG x).length)):=by
 have hn:=mH (zI (wG hs)).2.2
 unfold wW at h
 by_cases h1:(zN x).k=4∧0<(yG x).length
 ·rw[if_pos h1]at h;cases h
 ·rw[if_neg h1]at h
  by_cases h2:wR l (zN x)=3
  ·rw[if_pos h2]at h;cases h
  ·rw[if_neg h2]at h
   by_cases h3:wR l (zN x)=4
   ·rw[if_pos h3]at h
    split at h
    ·cases h
    ·injection h with h
     have hk:=wD h3 (by decide)
     have hp:=(yQ (hE.2 _ hn hk.2.1)).2.2.2.1 hk.2.2
     unfold dW at hp
     simp only[Bool.and_eq_true]at hp
     have hw:=tZ hp.1
     have hfam:=wE ((yQ (hE.2 _ hw.1 (by omega))).2.1 hw.2.2.1)
     rw[←h]
     exact⟨rD (by omega) (by omega),.inl h3⟩
   ·rw[if_neg h3]at h
    by_cases h4:(zN x).k=7
    ·rw[if_pos h4]at h
     split at h
     ·rename_i h5
      injection h with h
      have hi:=wU h5.1
      have hfam:=wE ((yQ (hE.2 _ hi.1 hi.2.1)).2.1 hi.2.2)
      have h6:=h5.2
      unfold xI at h6 h
      rw[if_pos hi.2.2]at h6 h
      rw[←h]
      exact⟨rD (by omega) (by omega),.inr ⟨h4,h5⟩⟩
     ·cases h
    ·rw[if_neg h4]at h;cases h
theorem zJU{N:ByteArray->Bool}{l:List zU}{I:Tm->Prop}(hE:xA N l)(hI:Inv l I){x y Y a:Tm}(hs:zH x=true)(hsy:zH y=true)(hx:I x)(hy:I y)(ha:wW l x = .tgt a)(h:uA l x y=some (Y,0)):I Y:=by
 have hsp:=hI.spine x (zI hs).2.2 hx
 have hsy2:=hI.spine y (zI hsy).2.2 hy
 have hg:=(zI (wG hs)).2.2
 have hox:vK (yG x):=fun z hz=>zX (yW hs hz)
 have hoy:vK (yG y):=fun z hz=>zX (yW hsy hz)
 have hlx:(yG x).length≤8192:=by
  have h:=zI hs
  have:=sB _ h.2.2
  omega
 have hly:(yG y).length≤8192:=by
  have h:=zI hsy
  have:=sB _ h.2.2
  omega
 have hca:=(iB hE hs ha).2
 unfold uA at h
 by_cases h4:wR l (zN x)=4
 ·rw[if_pos h4]at h
  split at h
  ·simp only[Option.some.injEq,Prod.mk.injEq]at h
   have hX:=(mZ l (zN x).n ((yG y).drop (zK l (zN y).n).pars.toNat) hE (hoy.drop _) (by rw[List.length_drop];omega)).2.2.2 h.2
   rw[←h.1]
   refine hI.ap _ _ ?_ fun z hz=>hsp.2 z (List.mem_of_mem_drop hz)
   rw[hX.2.2.2]
   exact hsy2.2 _ (List.mem_of_mem_drop (rD hX.2.1 hX.2.2.1))
  ·cases h
 ·rw[if_neg h4]at h
  obtain⟨h7,-,-⟩:=hca.resolve_left h4
  split at h
  ·simp only[Option.some.injEq,Prod.mk.injEq]at h
   have hX:=(iA l (zN x).n (nth (zN x).sub 0).n (zN y).n ((yG x).take ((zK l (zN x).n).pars+1+(zK l (zN x).n).cons.length).toNat) ((yG y).drop (zK l (zN x).n).pars.toNat) hE (hox.take _) (hoy.drop _) (by rw[List.length_take];omega) (by rw[List.length_drop];omega)).2.2.2 h.2
   rw[←h.1]
   refine hI.ap _ _ ?_ fun z hz=>hsp.2 z (List.mem_of_mem_drop hz)
   obtain⟨-,-,b1,b2,b3,b4,-,-,b5,-⟩:=hX
   rw[b5]
   obtain⟨s,hsb⟩:∃s,(zN x).sub=[s]:=by
    revert hg h7
    generalize zN x=w
    intro hg h7
    obtain⟨kk,nn,ss⟩:=w
    obtain⟨s,hs,-⟩:=(wQ (xV hg).1).2.2.2.2.2.2.1 h7
    exact⟨s,hs⟩
   have hhd:zN x = .mk 7 (zN x).n [s]:=by rw[←h7,←hsb,uQ]
   exact hI.step _ s _ _ _ _ (by rw[←hhd];exact hsp.1) b1 b2 b3 b4 (fun z hz=>hsp.2 z (List.mem_of_mem_take hz)) (fun z hz=>hsy2.2 z (List.mem_of_mem_drop hz))
  ·cases h
theorem Br.inv{N:ByteArray->Bool}{l:List zU}{I:Tm->Prop}(hE:xA N l)(hI:Inv l I){x y:Tm}{e k:Int}(h:Br l x y e k):zH x=true->e=0->I x->I y:=by
 induction h with
 |stop _=>exact fun _ _ hx=>hx
 |redE _ h=>exact fun _ he=>absurd he h
 |redL _ _=>exact fun _ he=>absurd he (by decide)
 |red a hY _ ih=>exact fun hs he hx=>ih hY he (zQW hI hs hx a)
 |tgtE _ _ h _=>exact fun _ he=>absurd he h
 |tgtN _ _ _ _=>exact fun _ _ hx=>hx
 |tgtRE _ _ _ h _=>exact fun _ he=>absurd he h
 |tgtRL _ _ _ _ _=>exact fun _ he=>absurd he (by decide)
 |tgtR a b c hY _ ih ih2=>
  intro hs he hx
  have hm:=(iB hE hs a).1
  have hsa:=yW hs hm
  exact ih2 hY he (zJU hE hI hs (b.shaped hsa rfl) hx (ih hsa rfl ((hI.spine _ (zI hs).2.2 hx).2 _ hm)) a c)
theorem b9{N:ByteArray->Bool}{l:List zU}(hE:xA N l){P:Int->Int->Prop}(hP:∀k n:Int,k≠8->(k=6∨k=7->n<l.length)->P k n):Inv l (xH P) where
 spine:=fun t hg h=>jR t hg h
 ap:=fun f as0 hf ha=>mX as0 f (hP 5 0 (by decide) (by omega)) hf ha
 beta:=fun n a b x h hx=>by
  rw[xH,vF,vF,vF]at h
  exact zBz [x] (fun y hy=>by rw[List.mem_singleton.1 hy];exact hx) b 0 h.2.2.1
 body:=fun i h0 h1 hk=>by
  have hd:=(yQ (hE.2 i h0 h1)).2.2.2.2.1 hk
  unfold zDw at hd
  simp only[Bool.and_eq_true]at hd
  exact eM (fun k n h=>hP k n h.2 fun h'=>by have:=h.1 h';omega) (C8 hd.1)
 step:=fun d s lev c args own h7 hc hf ha ho h1 h2=>by
  have hi:=wU hc
  obtain⟨A,y,hw,-⟩:=vB hE hi.1 hi.2.1 hi.2.2
  rw[xH]at h7
  refine zJR (hP 4 0 (by decide) (by omega)) (hP 5 0 (by decide) (by omega)) (hP 0 0 (by decide) (by omega)) (hP 2 _ (by decide) (by omega)) (h7.1.resolve_left (by decide)) h1 h2 ?_
  exact zFe (by rw[hw]) (eM (fun k n h=>hP k n h.2 fun h'=>by have:=h.1 h';omega) (C8 (yQ (hE.2 _ hi.1 hi.2.1)).1))
theorem zUh{N:ByteArray->Bool}{l:List zU}(hE:xA N l)(V:Int->Prop):Inv l (fun t=>∀j∈tC t 0,V j) where
 spine:=fun t hg h=>⟨fun j hj=>h j ((C7 t hg 0 j).1 hj),fun a ha j hj=>h j ((C7 t hg 0 j).2 a ha hj)⟩
 ap:=fun f as0 hf ha j hj=>by
  rcases(W1 as0 f 0 j).1 hj with h|⟨a,h1,h2⟩
  ·exact hf j h
  ·exact ha a h1 j h2
 beta:=fun n a b x h hx j hj=>by
  obtain⟨i,hi,h1|⟨h1,h2⟩⟩:=zMP [x] b 0 j (Int.le_refl 0) hj
  ·refine h j (zMT.2 (.inr ?_))
   simp only[List.length_cons,List.length_nil]at h1
   have:=(qV b 0 1 j (by omega)).2 ⟨by omega,by rwa[show j+1=i by omega]⟩
   exact this
  ·simp only[List.length_cons,List.length_nil]at h1
   refine hx j ?_
   have e:i.toNat=0:=by omega
   simpa[e]using h2
 body:=fun i h0 h1 hk j hj=>by
  have hd:=(yQ (hE.2 i h0 h1)).2.2.2.2.1 hk
  unfold zDw at hd
  simp only[Bool.and_eq_true]at hd
  exact absurd hj (I7 hd.1 0 j (Int.le_refl 0))
 step:=fun d s lev c args own h7 hc hf ha ho h1 h2 j hj=>by
  rcases zQR hE hc hf ha ho hj with⟨a,h3,h4⟩|⟨a,h3,h4⟩
  ·exact h1 a h3 j h4
  ·exact h2 a h3 j h4
def bI:Nat->zQ->Int->Option Int
 |0,_,_=>none
 |qq+1,v3,v4=>
 if decide ((v3.length:Int)>0)then
 if decide (v4≤8192)then
 zR v3 (xL ((v3.length:Int)-1))>>=fun x3=>
 kY v3 0 (xL ((v3.length:Int)-1))>>=fun x5=>
 xQ 40 ([]:zQ) x5>>=fun l7=>
 kY x3.sub 0 (zSW (x3.sub.length:Int) 8193)>>=fun x10=>
 xQ 40 l7 x10>>=fun l12=>
 bI qq l12 (xL (v4+1))
 else
 some v4
 else
 some v4
def e13(qq:Nat)(p0:Tm):Option Int:=
 bI qq [p0] 0
theorem zUg:∀qq:Nat,(∀ {v3 v4 r},bI qq v3 v4=some r->(∀j,dL 0 (pt 4069 Tryz.f13) (sp j 39 0 [(3,zO zD v3 .full),(4,ai v4)]) (⟨[],0,[],0,[]⟩) (fQ 0 (nQ 0 Tryz.f13 (ai r) [] 0) [.blk 0,.seq (pt 255 Tryz.f13)]))∧(∀j,dL 0 (pt 4069 Tryz.f13) (sp j 39 0 [(3,zO zD v3 (.st 0 3)),(4,ai v4)]) (⟨[],0,[0],1,[]⟩) (fQ 0 (nQ 0 Tryz.f13 (ai r) [] 0) [.blk 0,.seq (pt 255 Tryz.f13)]))):=by
 intro qq
 induction qq with
 |zero=>
  exact fun h=>nn h
 |succ qq ih=>
  intro v3 v4 r h
  rw[bI]at h
  refine⟨?_,?_⟩
  obtain⟨h1,h⟩|⟨h1,h⟩:=zL h
  have k:=oB 1 h1 o0
  obtain⟨h2,h⟩|⟨h2,h⟩:=zL h
  obtain⟨x3,h4,h⟩:=zB h
  obtain⟨x5,h6,h⟩:=zB h
  obtain⟨l7,h8,h⟩:=zB h
  have k:=oF 5 (zGD (o:=.full) h6)<|oA 2 (wN (o:=.full) h4)<|oB 0 h2 k
  by_cases h9:List.length x5=0
  obtain⟨x10,h11,h⟩:=zB h
  obtain⟨l12,h13,h⟩:=zB h
  have k:=oA 4 (mD h11)<|oP 0 (dP h8 h9) k
  by_cases h14:List.length x10=0
  exact fun j=>lH 1 [] [] [] [3,4] (oD (dT l12)<|oP 0 (dP h13 h14) k) ((ih h).1)
  exact fun j=>lH 1 [] [] [0] [3,4] (oD (dT l12)<|oP 0 (sE h13 h14) k) ((ih h).2)
  obtain⟨x10,h11,h⟩:=zB h
  obtain⟨l12,h13,h⟩:=zB h
  have k:=oA 4 (mD h11)<|oP 0 (sE h8 h9) k
  by_cases h14:List.length x10=0
  exact fun j=>lH 1 [] [] [0] [3,4] (oD (dT l12)<|oP 0 (dP h13 h14) k) ((ih h).2)
  exact fun j=>lH 1 [] [] [1] [3,4] (oD (dT l12)<|oP 0 (sE h13 h14) k) ((ih h).2)
  obtain rfl:=sj h
  exact fun j=>lF 0 [] (oB 0 h2 k)
  obtain rfl:=sj h
  exact fun j=>lF 0 [] (oB 1 h1 o0)
  obtain⟨h1,h⟩|⟨h1,h⟩:=zL h
  have k:=oB 1 h1 o0
  obtain⟨h2,h⟩|⟨h2,h⟩:=zL h
  obtain⟨x3,h4,h⟩:=zB h
  obtain⟨x5,h6,h⟩:=zB h
  obtain⟨l7,h8,h⟩:=zB h
  have k:=oF 5 (zGD (o:=(.st 0 3)) h6)<|oA 2 (wN (o:=(.st 0 3)) h4)<|oB 0 h2 k
  by_cases h9:List.length x5=0
  obtain⟨x10,h11,h⟩:=zB h
  obtain⟨l12,h13,h⟩:=zB h
  have k:=oA 4 (mD h11)<|oP 0 (dP h8 h9) k
  by_cases h14:List.length x10=0
  exact fun j=>lH 1 [] [] [] [3,4] (oD (dT l12)<|oP 0 (dP h13 h14) k) ((ih h).1)
  exact fun j=>lH 1 [] [] [1] [3,4] (oD (dT l12)<|oP 0 (sE h13 h14) k) ((ih h).2)
  obtain⟨x10,h11,h⟩:=zB h
  obtain⟨l12,h13,h⟩:=zB h
  have k:=oA 4 (mD h11)<|oP 0 (sE h8 h9) k
  by_cases h14:List.length x10=0
  exact fun j=>lH 1 [] [] [1] [3,4] (oD (dT l12)<|oP 0 (dP h13 h14) k) ((ih h).2)
  exact fun j=>lH 1 [] [] [2] [3,4] (oD (dT l12)<|oP 0 (sE h13 h14) k) ((ih h).2)
  obtain rfl:=sj h
  exact fun j=>lF 0 [] (oB 0 h2 k)
  obtain rfl:=sj h
  exact fun j=>lF 0 [] (oB 1 h1 o0)
theorem m7{qq p0 r}(h:e13 qq p0=some r):Ct 13 [] [xF p0] (ai r) [] 0:=⟨by
 unfold e13 at h
 exact tH ⟨func13,rfl⟩ 0 [] [] [] [3,4] (oD (dT [p0])<|oS 1 (xJ xM [p0]) o0) ((zUg _ h).1),⟨⟨tv,tv,⟨tv,dT _⟩,tv⟩,tv⟩,zA,tv,zA⟩
theorem W7:∀a b:List Tm,yN (a++b)=yN a+yN b
 | [],b=>by simp[yN]
 |t::a,b=>by simp only[List.cons_append,yN,W7 a b];omega
theorem bJ:∀l:List Tm,l.length≤yN l
 | []=>by simp[yN]
 |t::l=>by rw[yN];have:=bJ l;have:=uS t;simp;omega
theorem zAz(t:Tm):t.nodes=1+yN t.sub:=by cases t;rw[Tm.nodes,Tm.sub]
theorem zFD{α:Type}{l:List α}{a b:Nat}(h1:a≤b)(h2:b≤l.length):kY l (a:Int) (b:Int)=some ((l.drop a).take (b-a)):=by
 unfold kY
 rw[if_pos (by omega),show ((b:Int)-(a:Int)).toNat=b-a by omega,show (a:Int).toNat=a by omega]
theorem zJV{α:Type}(l:List α)(x:α):zR (l++[x]) (l.length:Int)=some x:=by
 unfold zR
 rw[if_pos (by omega)];simp
theorem zJW:∀(m h:Nat) (todo:List Tm),h+m=8193->todo.length≤1+h*8193->zG (fun q=>bI q todo (h:Int)) ((min (h+yN todo) 8193:Nat):Int):=by
 intro m
 induction m with
 |zero=>
  intro h todo hm hl
  refine zG.succ ?_
  simp only[bI]
  have:h=8193:=by omega
  subst this
  rcases todo with _|⟨x,todo⟩
  ·exact zG.ifF (by simp) (zG.ret.eq (by simp))
  ·refine zG.ifT (by simp<;>omega) (zG.ifF (by simp) (zG.ret.eq ?_))
   have:min (8193+yN (x::todo)) 8193=8193:=by omega
   rw[this]
 |succ m ih=>
  intro h todo hm hl
  refine zG.succ ?_
  simp only[bI]
  rcases List.eq_nil_or_concat todo with rfl|⟨ini,x,rfl⟩
  ·refine zG.ifF (by simp) (zG.ret.eq ?_)
   have:min (h+yN []) 8193=h:=by rw[yN];omega
   rw[this]
  ·simp only[List.concat_eq_append]at hl ⊢
   have hlen:(ini++[x]).length=ini.length+1:=by simp
   have hb:h*8193≤8192*8193:=Nat.mul_le_mul_right _ (by omega)
   have e1:xL (((ini++[x]).length:Int)-1)=(ini.length:Int):=by rw[yM (by omega) (by omega),hlen];omega
   refine zG.ifT (by simp<;>omega) (zG.ifT (by simp<;>omega) ?_)
   rw[e1]
   refine zG.pure (zJV ini x) ?_
   have e2:kY (ini++[x]) 0 (ini.length:Int)=some ini:=by
    have:=zFD (l:=ini++[x]) (a:=0) (b:=ini.length) (by omega) (by omega)
    simpa using this
   refine zG.pure e2 (zG.pure (xB (by simp<;>omega)) ?_)
   have e3:zSW (x.sub.length:Int) 8193=((min x.sub.length 8193:Nat):Int):=by unfold zSW;split<;>omega
   rw[e3]
   have e4:=zFD (l:=x.sub) (a:=0) (b:=min x.sub.length 8193) (by omega) (by omega)
   refine zG.pure (by simpa using e4) (zG.pure (xB (by simp<;>omega)) ?_)
   rw[yE h (by omega)]
   refine(ih (h+1) _ (by omega) (by simp<;>omega)).eq ?_
   have hn:=zAz x
   simp only[List.nil_append,W7,yN,Nat.add_zero]
   by_cases hs:x.sub.length≤8193
   ·rw[show min x.sub.length 8193=x.sub.length by omega,List.take_length]
    omega
   ·have h1:=bJ (x.sub.take (min x.sub.length 8193))
    have h2:=bJ x.sub
    simp only[List.length_take]at h1
    omega
theorem zDA(t:Tm):zG (fun q=>e13 q t) ((min t.nodes 8193:Nat):Int):=by
 simp only[e13]
 refine(zJW 8193 0 [t] (by omega) (by simp)).eq ?_
 simp[yN]
def zBr(qq:Nat)(q0 q1 p1:Int):Option Int:=
 some p1
theorem zQX{qq q0 q1 p1 r}(h:zBr qq q0 q1 p1=some r):Ct 21 [.cells [ai q0,ai q1]] [.mp 0 0,ai p1] (.tup []) [.cells [ai r,ai q1]] 0:=⟨by
 unfold zBr at h
 obtain rfl:=sj h
 exact tF ⟨func21,rfl⟩ 1 [0] (o0),⟨(lz rfl),tv,tv⟩,(zC ⟨tv,tv,tv⟩ zA),tv,(zC ⟨tv,tv,tv⟩ zA)⟩
def e9(qq:Nat)(p0:Int):Option ((Int) ⊕ (Int×Int×Int)):=
 if decide (p0<0)then
 some (.inl 5)
 else
 if decide (p0>1048576)then
 some (.inl 5)
 else
 zBr qq 0 0 p0>>=fun r3=>
 some (.inr (0,r3,0))
abbrev zZz (p0 r:Int) (C:Cf):Prop:=C 9 [] [ai p0] (.tup [.val (.pointer none),ai r]) [] 0
abbrev zZy (p0:Int) (r:Int×Int×Int) (C:Cf):Prop:=C 9 [] [ai p0] (.tup [.mp 0 0,ai r.1]) [.cells [ai r.2.1,ai r.2.2]] 0
theorem q9:Qf 9 Tryz.f9:=⟨func9,rfl⟩
theorem c9{qq p0 r}(h:e9 qq p0=some r):(match (generalizing:=false) r with | .inl x=>zZz p0 x Ct | .inr x=>zZy p0 x Ct):=by
 unfold e9 at h
 obtain⟨h1,h⟩|⟨h1,h⟩:=zL h
 cases h
 exact⟨tF q9 0 [] (oB 0 h1 o0),⟨tv,tv⟩,zA,⟨tv,tv,tv⟩,zA⟩
 have k:=oB 0 h1 o0
 obtain⟨h2,h⟩|⟨h2,h⟩:=zL h
 cases h
 exact⟨tF q9 0 [] (oB 0 h2 k),⟨tv,tv⟩,zA,⟨tv,tv,tv⟩,zA⟩
 obtain⟨r3,h4,h⟩:=zB h
 cases h
 exact⟨tF q9 0 [0] (oC 0 [0] (zQX h4)<|oB 0 h2 k),⟨tv,tv⟩,zA,⟨(lz rfl),tv,tv⟩,(zC ⟨tv,tv,tv⟩ zA)⟩
theorem O9(f:Int)(h0:0≤f)(h1:f≤1048576):zG (fun q=>e9 q f) (.inr (0,f,0)):=by
 simp only[e9]
 exact zG.ifF (decide_eq_false (by omega)) (zG.ifF (decide_eq_false (by omega)) (zG.bind (a:=f) (zG.mk fun _=>rfl) zG.ret))
mutual
theorem zHl:∀(t:Tm) (b:Int),xG t=true->0≤b->cP t b≤1048577
 | .mk k n l,b,hg,hb=>by
  have hh:=xV hg
  have hn:=cT hh.1
  rw[cP]
  split
  ·omega
  ·exact zHk l k 0 b hh.2 hb
theorem zHk:∀(l:List Tm) (k:Int) (i:Nat) (b:Int),qF l=true->0≤b->dB l k i b≤1048577
 | [],k,i,b,_,_=>by rw[dB];omega
 |t::l,k,i,b,hg,hb=>by
  have hc:=wC hg
  have hu:=zGP k i
  have h1:=zHl t (b+N1 k i) hc.1 (by omega)
  have h2:=zHk l k (i+1) b hc.2 hb
  rw[dB];omega
end
theorem mI{l:List zU}{t:Tm}:wA l t↔zH t=true∧xH (fun k n=>k=6∨k=7->n<l.length) t:=by
 unfold wA rV
 rw[←kJ (Q:=fun n=>n<(l.length:Int)) (by decide) (by decide) t]
 simp only[Bool.and_eq_true,decide_eq_true_eq,List.all_eq_true]
 constructor
 ·rintro ⟨⟨h1,-⟩,h2⟩;exact⟨h1,h2⟩
 ·rintro ⟨h1,h2⟩;exact⟨⟨h1,zHl t 0 (zI h1).2.2 (by omega)⟩,h2⟩
theorem Br.right{N:ByteArray->Bool}{l:List zU}(hE:xA N l){x y:Tm}{k:Int}(h:Br l x y 0 k)(hR:wA l x):wA l y:=by
 have hr:=mI.1 hR
 exact mI.2 ⟨h.shaped hr.1 rfl,h.inv hE (b9 hE fun k n _ h=>h) hr.1 rfl hr.2⟩
end Go.Proofs.YtbpkpdnneffccaaGreat
