/- Parts of the proof that the law returns true: walks of the functions, plain laws. -/
import Derived.Test.YtfbkefchjcocmaaGreatAbB3
set_option linter.unusedVariables false
set_option linter.unusedSimpArgs false
set_option linter.unusedSectionVars false
namespace Go.Proofs.YtfbkefchjcocmaaGreat
open Go Go.Ab
def EOk(e:Ent):Prop:=e.type.Ok∧e.body.Ok∧e.cons.length≤1152921504606846976∧e.fields.length≤1152921504606846976
def zE:Ent:=Ent.mk 0 ⟨#[]⟩ zT zT 0 0 0 0 0 [] []
def ent(l:List Ent)(n:Int):Ent:=(l[n.toNat]?).getD zE
theorem yL{l:List Ent}{n:Int}(h0:0≤n)(h1:n<l.length):zS l n=some (ent l n):=by
 unfold zS ent
 rw[if_pos h0]
 have:n.toNat<l.length:=by omega
 rw[List.getElem?_eq_getElem this];rfl
theorem pC{l:List Ent}{n:Int}(h0:0≤n)(h1:n<l.length):ent l n∈l:=by
 unfold ent
 have:n.toNat<l.length:=by omega
 rw[List.getElem?_eq_getElem this]
 exact List.getElem_mem this
def isT(l:List Ent)(n kind:Int):Bool:=decide (0≤n)&&decide (n<l.length)&&(ent l n).kind==kind
theorem uJ{l:List Ent}{n kind:Int}(h:isT l n kind=true):0≤n∧n<l.length∧(ent l n).kind=kind:=by
 unfold isT at h
 simp only[Bool.and_eq_true,decide_eq_true_eq,beq_iff_eq]at h
 exact⟨h.1.1,h.1.2,h.2⟩
theorem zME(l:List Ent)(n kind:Int):Evt (fun q=>zFJ q l n kind) (isT l n kind):=by
 simp only[zFJ]
 unfold isT
 by_cases h0:n≥0
 ·refine Evt.ifT (decide_eq_true h0) ?_
  by_cases h1:n<l.length
  ·exact Evt.ifT (decide_eq_true h1) (Evt.pure (yL h0 h1) (Evt.ret.eq (by simp[show 0≤n from h0,h1])))
  ·exact Evt.ifF (decide_eq_false h1) (Evt.ret.eq (by simp[h1]))
 ·exact Evt.ifF (decide_eq_false h0) (Evt.ret.eq (by simp[show ¬0≤n from h0]))
def eY(t:Tm):Bool:=t.k==0&&t.n==0&&(t.sub.length:Int)==0
theorem zBy(t:Tm):Evt (fun q=>zJA q t) (eY t):=by
 refine Evt.mk fun q=>?_
 unfold zJA eY
 by_cases h1:t.k=0<;>by_cases h2:t.n=0<;>by_cases h3:t.sub.length=0<;>simp[h1,h2,h3]
def uK(t:Tm)(n:Int):Bool:=sU t 0 n&&(sQ t 8 8).isEmpty
theorem U0(t:Tm)(n:Int)(ho:t.Ok):Evt (fun q=>zJa q t n) (uK t n):=by
 simp only[zJa]
 refine(lJ t 0 n ho).bind ?_
 unfold uK
 by_cases h:sU t 0 n=true
 ·refine Evt.ifT h ((lI t ho).bind (Evt.ret.eq ?_))
  have hs:zL t=true:=by
   unfold sU at h;simp at h;exact h.1.1
  unfold lE
  rw[if_pos hs,h,Bool.true_and,Bool.eq_iff_iff]
  simp only[beq_iff_eq,List.isEmpty_iff]
  constructor
  ·intro h6
   have h6':wG (sQ t 8 8)=[]:=List.length_eq_zero_iff.1 (by omega)
   refine List.eq_nil_iff_forall_not_mem.2 fun x hx=>?_
   rw[←rT,h6']at hx;cases hx
  ·intro h6
   rw[h6];rfl
 ·exact Evt.ifF (by simpa using h) (Evt.ret.eq (by simp[h]))
def w8:List Int->Int->Bool
 | [],_=>true
 |n::r,m=>n==m&&w8 r (m+1)
theorem zDm(l:List Int)(f:Int)(hf:0≤f∧f≤1048576)(hl:l.length≤1152921504606846976):∀(r:List Int) (v:Nat),l.drop v=r->Evt (fun q=>kZ q l f (v:Int)) (w8 r (f+v))
 | [],v,hd=>by
  refine Evt.succ ?_
  simp only[kZ]
  exact Evt.ifF (zZ hd) Evt.ret
 |n::r,v,hd=>by
  have hlt:=yC hd
  refine Evt.succ ?_
  simp only[kZ]
  refine Evt.ifT (zY hd) (Evt.pure (zX hd) ?_)
  rw[yJ (x:=f+v) (by omega) (by omega),w8]
  by_cases h:n=f+v
  ·refine Evt.ifF (by simp[h]) ?_
   rw[zW v (by omega)]
   exact(zDm l f hf hl r (v+1) (zU hd)).eq (by rw[show f+((v+1:Nat):Int)=f+v+1 by omega];simp[h])
  ·exact Evt.ifT (by simp[h]) (Evt.ret.eq (by simp[h]))
theorem zHc(l:List Int)(f:Int)(hf:0≤f∧f≤1048576)(hl:l.length≤1152921504606846976):Evt (fun q=>zJB q l f) (w8 l f):=by
 simp only[zJB]
 exact(zDm l f hf hl l 0 rfl).eq (by simp)
def U1(l:List Ent)(of kind:Int):List Int->Int->Bool
 | [],_=>true
 |n::r,k=>isT l n kind&&(ent l n).fam==of&&(ent l n).place==k&&U1 l of kind r (k+1)
theorem J9(l:List Ent)(of kind:Int)(p:List Int)(hp:p.length≤1152921504606846976):∀(r:List Int) (v:Nat),p.drop v=r->Evt (fun q=>jA q l of p kind (v:Int)) (U1 l of kind r v)
 | [],v,hd=>by
  refine Evt.succ ?_
  simp only[jA]
  exact Evt.ifF (zZ hd) Evt.ret
 |n::r,v,hd=>by
  have hlt:=yC hd
  refine Evt.succ ?_
  simp only[jA]
  refine Evt.ifT (zY hd) (Evt.pure (zX hd) ((zME l n kind).bind ?_))
  rw[U1]
  by_cases h:isT l n kind=true
  ·have hs:=uJ h
   refine Evt.ifT h (Evt.pure (yL hs.1 hs.2.1) ?_)
   by_cases h2:(ent l n).fam=of
   ·refine Evt.ifF (by simp[h2]) ?_
    by_cases h3:(ent l n).place=v
    ·refine Evt.ifF (by simp[h3]) ?_
     rw[zW v (by omega)]
     exact(J9 l of kind p hp r (v+1) (zU hd)).eq (by simp[h,h2,h3])
    ·exact Evt.ifT (by simp[h3]) (Evt.ret.eq (by simp[h3]))
   ·exact Evt.ifT (by simp[h2]) (Evt.ret.eq (by simp[h2]))
  ·exact Evt.ifF (by simpa using h) (Evt.ret.eq (by simp[h]))
theorem U2(l:List Ent)(of kind:Int)(p:List Int)(hp:p.length≤1152921504606846976):Evt (fun q=>zJD q l of p kind) (U1 l of kind p 0):=by
 simp only[zJD]
 exact(J9 l of kind p hp p 0 rfl).eq (by simp)
def zFK(x:Ent):Bool:=
 decide (0≤x.pars)&&decide (0≤x.inds)&&decide (x.pars≤24)&&decide (x.inds≤24-x.pars)&&x.fam==0&&x.place==0&&eY x.body
def zJE(x:Ent):Bool:=
 (vQ x.type (x.pars+x.inds)).2.2==0&&(vQ x.type (x.pars+x.inds)).2.1.k==2&&(vQ x.type (x.pars+x.inds)).2.1.n==x.level
def zDl(l:List Ent)(i:Int)(x:Ent):Bool:=
 decide (x.cons.length≤16)&&w8 x.cons (i+1)&&U1 l i 2 x.cons 0
def zSH(l:List Ent)(i:Int)(x:Ent):Bool:=
 x.inds==0&&decide (x.cons.length=1)&&w8 x.fields (i+2)&&U1 l i 4 x.fields 0&&(yM (ent l (i+1)).type).2.2==0&&((yM (ent l (i+1)).type).1.length:Int)==x.pars+x.fields.length
def pW(l:List Ent)(i:Int):Bool:=
 zFK (ent l i)&&zJE (ent l i)&&zDl l i (ent l i)&&(decide ((ent l i).fields.length=0)||zSH l i (ent l i))
theorem zJF(l:List Ent)(i:Int)(h0:0≤i)(h1:i<l.length)(hl:l.length≤65535)(he:∀e∈l,EOk e):Evt (fun q=>zMD q l i) (pW l i):=by
 simp only[zMD]
 refine Evt.pure (yL h0 h1) ?_
 have hx:=he _ (pC h0 h1)
 have hfl:(ent l i).fields.length≤1152921504606846976:=hx.2.2.2
 unfold pW
 by_cases hA:zFK (ent l i)=true
 ·have hA':=hA
  unfold zFK at hA'
  simp only[Bool.and_eq_true,decide_eq_true_eq,beq_iff_eq]at hA'
  obtain⟨⟨⟨⟨⟨⟨a1,a2⟩,a3⟩,a4⟩,a5⟩,a6⟩,a7⟩:=hA'
  refine Evt.ifF (decide_eq_false (by omega)) (Evt.ifF (decide_eq_false (by omega)) (Evt.ifF (decide_eq_false (by omega)) (Evt.ifF (decide_eq_false (by rw[yJ (by omega) (by omega)];omega)) (Evt.ifF (by simp[a5]) (Evt.ifF (by simp[a6]) (((zBy _).eq a7).bind (Evt.ifT rfl ?_)))))))
  rw[yJ (by omega) (by omega)]
  refine(aP (ent l i).type _ hx.1).bind ?_
  rw[hA]
  by_cases b1:(vQ (ent l i).type ((ent l i).pars+(ent l i).inds)).2.2=0
  ·refine Evt.ifF (by simp[b1]) ?_
   by_cases b2:(vQ (ent l i).type ((ent l i).pars+(ent l i).inds)).2.1.k=2
   ·refine Evt.ifF (by simp[b2]) ?_
    by_cases b3:(vQ (ent l i).type ((ent l i).pars+(ent l i).inds)).2.1.n=(ent l i).level
    ·refine Evt.ifF (by simp[b3]) ?_
     have hB:zJE (ent l i)=true:=by unfold zJE;simp[b1,b2,b3]
     rw[hB]
     by_cases c1:(ent l i).cons.length≤16
     ·refine Evt.ifF (decide_eq_false (by omega)) ?_
      rw[yJ (x:=i+1) (by omega) (by omega)]
      refine(zHc (ent l i).cons (i+1) (by omega) (by omega)).bind ?_
      by_cases c2:w8 (ent l i).cons (i+1)=true
      ·refine Evt.ifT c2 ((U2 l i 2 (ent l i).cons (by omega)).bind ?_)
       by_cases c3:U1 l i 2 (ent l i).cons 0=true
       ·refine Evt.ifT c3 ?_
        have hC:zDl l i (ent l i)=true:=by unfold zDl;simp[c1,c2,c3]
        rw[hC]
        by_cases d0:(ent l i).fields.length=0
        ·exact Evt.ifT (by simp[d0]) (Evt.ret.eq (by simp[d0]))
        ·refine Evt.ifF (by have h:((ent l i).fields.length:Int)≠0:=(by omega);simpa using h) ?_
         rw[show decide ((ent l i).fields.length=0)=false by simp[d0]]
         simp only[Bool.true_and,Bool.false_or]
         unfold zSH
         by_cases d1:(ent l i).inds=0
         ·refine Evt.ifF (by simp[d1]) ?_
          by_cases d2:(ent l i).cons.length=1
          ·refine Evt.ifF (by simp[d2]) ?_
           rw[yJ (x:=i+2) (by omega) (by omega)]
           refine(zHc (ent l i).fields (i+2) (by omega) hx.2.2.2).bind ?_
           by_cases d3:w8 (ent l i).fields (i+2)=true
           ·refine Evt.ifT d3 ((U2 l i 4 (ent l i).fields hx.2.2.2).bind ?_)
            by_cases d4:U1 l i 4 (ent l i).fields 0=true
            ·have hi:i+1<l.length:=by
              obtain⟨y,hy⟩:∃y,(ent l i).cons=[y]:=by
               rcases hc:(ent l i).cons with _|⟨y,_|⟨z,r⟩⟩<;>rw[hc]at d2<;>simp at d2
               exact⟨y,rfl⟩
              rw[hy]at c2 c3
              rw[w8]at c2
              rw[U1]at c3
              simp only[Bool.and_eq_true,beq_iff_eq]at c2 c3
              have:=uJ c3.1.1.1
              omega
             refine Evt.ifT d4 (Evt.pure (yL (by omega) hi) ((aQ _ (he _ (pC (by omega) hi)).1).bind ?_))
             by_cases d5:(yM (ent l (i+1)).type).2.2=0
             ·refine Evt.ifT (by simp[d5]) (Evt.ret.eq ?_)
              rw[yJ (x:=(ent l i).pars+((ent l i).fields.length:Int)) (by omega) (by omega)]
              simp[d1,d2,d3,d4,d5]
             ·exact Evt.ifF (by simp[d5]) (Evt.ret.eq (by simp[d5]))
            ·exact Evt.ifF (by simpa using d4) (Evt.ret.eq (by simp[d4]))
           ·exact Evt.ifF (by simpa using d3) (Evt.ret.eq (by simp[d3]))
          ·exact Evt.ifT (by simp<;>omega) (Evt.ret.eq (by simp[d2]))
         ·exact Evt.ifT (by simp[d1]) (Evt.ret.eq (by simp[d1]))
       ·refine Evt.ifF (by simpa using c3) (Evt.ret.eq ?_)
        unfold zDl;simp[c3]
      ·refine Evt.ifF (by simpa using c2) (Evt.ret.eq ?_)
       unfold zDl;simp[c2]
     ·refine Evt.ifT (decide_eq_true (by omega)) (Evt.ret.eq ?_)
      unfold zDl;simp[c1]
    ·refine Evt.ifT (by simp[b3]) (Evt.ret.eq ?_)
     unfold zJE;simp[b3]
   ·refine Evt.ifT (by simp[b2]) (Evt.ret.eq ?_)
    unfold zJE;simp[b2]
  ·refine Evt.ifT (by simp[b1]) (Evt.ret.eq ?_)
   unfold zJE;simp[b1]
 ·rw[show zFK (ent l i)=false by simpa using hA]
  unfold zFK at hA
  simp only[Bool.and_eq_true,decide_eq_true_eq,beq_iff_eq]at hA
  by_cases a1:(ent l i).pars<0
  ·exact Evt.ifT (decide_eq_true a1) Evt.ret
  refine Evt.ifF (decide_eq_false a1) ?_
  by_cases a2:(ent l i).inds<0
  ·exact Evt.ifT (decide_eq_true a2) Evt.ret
  refine Evt.ifF (decide_eq_false a2) ?_
  by_cases a3:(ent l i).pars>24
  ·exact Evt.ifT (decide_eq_true a3) Evt.ret
  refine Evt.ifF (decide_eq_false a3) ?_
  rw[yJ (x:=24-(ent l i).pars) (by omega) (by omega)]
  by_cases a4:(ent l i).inds>24-(ent l i).pars
  ·exact Evt.ifT (decide_eq_true a4) Evt.ret
  refine Evt.ifF (decide_eq_false a4) ?_
  by_cases a5:(ent l i).fam=0
  ·refine Evt.ifF (by simp[a5]) ?_
   by_cases a6:(ent l i).place=0
   ·refine Evt.ifF (by simp[a6]) ((zBy _).bind ?_)
    by_cases a7:eY (ent l i).body=true
    ·exact absurd ⟨⟨⟨⟨⟨⟨by omega,by omega⟩,by omega⟩,by omega⟩,a5⟩,a6⟩,a7⟩ hA
    ·exact Evt.ifF (by simpa using a7) Evt.ret
   ·exact Evt.ifT (by simp[a6]) Evt.ret
  ·exact Evt.ifT (by simp[a5]) Evt.ret
def zJG(qq:Nat)(p0:List Ent)(p1:Int):Option Bool:=
 zS p0 p1>>=fun x1=>
 zFJ qq p0 x1.fam 1>>=fun r3=>
 if r3 then
 if decide (x1.fam≥p1)then
 some false
 else
 zS p0 x1.fam>>=fun x7=>
 if x1.pars != x7.pars then
 some false
 else
 zJA qq x1.body>>=fun r10=>
 if r10 then
 if x1.inds != 0 then
 some false
 else
 if x1.level != 0 then
 some false
 else
 if decide ((w64 ((x1.cons.length:Int)+(x1.fields.length:Int)))>0)then
 some false
 else
 if x1.kind==4 then
 if decide (x1.place≥0)then
 if decide (x1.place<(x7.fields.length:Int))then
 zS x7.fields x1.place>>=fun x19=>
 some (x19==p1)
 else
 some false
 else
 some false
 else
 if decide (x1.place≥0)then
 if decide (x1.place<(x7.cons.length:Int))then
 zS x7.cons x1.place>>=fun x23=>
 some (x23==p1)
 else
 some false
 else
 some false
 else
 some false
 else
 some false
theorem E8:Qf 193 Tryz.f193:=⟨Tryz.func193,rfl⟩
theorem zPU{qq p0 p1 r}(h:zJG qq p0 p1=some r):Ct 193 [] [slv yP p0 .no,ai p1] (ab r) [] 0:=⟨by
 unfold zJG at h
 obtain⟨x1,h2,h⟩:=zC h
 obtain⟨r3,h4,h⟩:=zC h
 have k:=oA 0 (xL (o:=.no) h2) o0
 obtain⟨h5,h⟩|⟨h5,h⟩:=spl h
 have k:=oK 3 [] h5 (zJC h4) k
 obtain⟨h6,h⟩|⟨h6,h⟩:=spl h
 cases h
 exact tF E8 0 [] (oB 2 h6 k)
 obtain⟨x7,h8,h⟩:=zC h
 have k:=oA 2 (xL (o:=.no) h8)<|oB 2 h6 k
 obtain⟨h9,h⟩|⟨h9,h⟩:=spl h
 cases h
 exact tF E8 0 [] (oB 1 h9 k)
 obtain⟨r10,h11,h⟩:=zC h
 have k:=oB 1 h9 k
 obtain⟨h12,h⟩|⟨h12,h⟩:=spl h
 have k:=oK 1 [] h12 (zPP h11) k
 obtain⟨h13,h⟩|⟨h13,h⟩:=spl h
 cases h
 exact tF E8 0 [] (oB 2 h13 k)
 have k:=oB 2 h13 k
 obtain⟨h14,h⟩|⟨h14,h⟩:=spl h
 cases h
 exact tF E8 0 [] (oB 1 h14 k)
 have k:=oB 1 h14 k
 obtain⟨h15,h⟩|⟨h15,h⟩:=spl h
 cases h
 exact tF E8 0 [] (oB 5 h15 k)
 have k:=oA 1 (xL (o:=.no) h8)<|oB 5 h15 k
 obtain⟨h16,h⟩|⟨h16,h⟩:=spl h
 have k:=oA 1 (xL (o:=.no) h8)<|oB 2 h16 k
 obtain⟨h17,h⟩|⟨h17,h⟩:=spl h
 have k:=oB 2 h17 k
 obtain⟨h18,h⟩|⟨h18,h⟩:=spl h
 obtain⟨x19,h20,h⟩:=zC h
 cases h
 exact tF E8 2 [] (oA 1 (nU (o:=.no) h20)<|oB 2 h18 k)
 cases h
 exact tF E8 0 [] (oB 2 h18 k)
 cases h
 exact tF E8 0 [] (oB 2 h17 k)
 have k:=oB 2 h16 k
 obtain⟨h21,h⟩|⟨h21,h⟩:=spl h
 have k:=oB 1 h21 k
 obtain⟨h22,h⟩|⟨h22,h⟩:=spl h
 obtain⟨x23,h24,h⟩:=zC h
 cases h
 exact tF E8 2 [] (oA 1 (nU (o:=.no) h24)<|oB 2 h22 k)
 cases h
 exact tF E8 0 [] (oB 2 h22 k)
 cases h
 exact tF E8 0 [] (oB 1 h21 k)
 cases h
 exact tF E8 1 [] (oK 1 [] h12 (zPP h11) k)
 cases h
 exact tF E8 1 [] (oK 3 [] h5 (zJC h4) k),⟨⟨tv,dE _⟩,tv,tv⟩,zB,tv,zB⟩
def zMF(qq:Nat)(p0:List Ent)(p1:Int):Option Bool:=
 zS p0 p1>>=fun x1=>
 zDr qq x1.type>>=fun r3=>
 zJG qq p0 p1>>=fun r5=>
 if r5 then
 if r3.2.2==0 then
 if decide ((r3.1.length:Int)≥x1.pars)then
 zS p0 x1.fam>>=fun x10=>
 zFF qq r3.2.1 x1.fam x1.pars x10.inds (r3.1.length:Int)>>=fun r12=>
 some r12
 else
 some false
 else
 some false
 else
 some false
theorem zPV:Qf 155 Tryz.f155:=⟨Tryz.func155,rfl⟩
theorem zWU{qq p0 p1 r}(h:zMF qq p0 p1=some r):Ct 155 [] [slv yP p0 .no,ai p1] (ab r) [] 0:=⟨by
 unfold zMF at h
 obtain⟨x1,h2,h⟩:=zC h
 obtain⟨r3,h4,h⟩:=zC h
 obtain⟨r5,h6,h⟩:=zC h
 have k:=oC 1 [] (zPA h4)<|oA 0 (xL (o:=.no) h2) o0
 obtain⟨h7,h⟩|⟨h7,h⟩:=spl h
 have k:=oK 4 [] h7 (zPU h6) k
 obtain⟨h8,h⟩|⟨h8,h⟩:=spl h
 have k:=oA 1 (xL (o:=.no) h2)<|oB 0 h8 k
 obtain⟨h9,h⟩|⟨h9,h⟩:=spl h
 obtain⟨x10,h11,h⟩:=zC h
 obtain⟨r12,h13,h⟩:=zC h
 obtain rfl:=sj h
 exact tF zPV 0 [] (oC 2 [] (zPD h13)<|oA 1 (xL (o:=.no) h11)<|oA 1 (xL (o:=.no) h2)<|oA 1 (xL (o:=.no) h2)<|oA 1 (xL (o:=.no) h2)<|oB 1 h9 k)
 obtain rfl:=sj h
 exact tF zPV 0 [] (oB 1 h9 k)
 obtain rfl:=sj h
 exact tF zPV 0 [] (oB 0 h8 k)
 obtain rfl:=sj h
 exact tF zPV 0 [] (oK 4 [] h7 (zPU h6) k),⟨⟨tv,dE _⟩,tv,tv⟩,zB,tv,zB⟩
def zMG(qq:Nat)(p0:List Ent)(p1:Int):Option Bool:=
 zJG qq p0 p1>>=fun r1=>
 if r1 then
 zS p0 p1>>=fun x4=>
 T7 qq x4.type (w64 (x4.pars+1))>>=fun r6=>
 if r6.2.2==0 then
 zS r6.1 x4.pars>>=fun x9=>
 zFF qq x9 x4.fam x4.pars 0 x4.pars>>=fun r11=>
 some r11
 else
 some false
 else
 some false
theorem zSI:Qf 156 Tryz.f156:=⟨Tryz.func156,rfl⟩
theorem zWV{qq p0 p1 r}(h:zMG qq p0 p1=some r):Ct 156 [] [slv yP p0 .no,ai p1] (ab r) [] 0:=⟨by
 unfold zMG at h
 obtain⟨r1,h2,h⟩:=zC h
 obtain⟨h3,h⟩|⟨h3,h⟩:=spl h
 obtain⟨x4,h5,h⟩:=zC h
 obtain⟨r6,h7,h⟩:=zC h
 have k:=oC 2 [] (zMn h7)<|oA 1 (xL (o:=.no) h5)<|oA 1 (xL (o:=.no) h5)<|oK 0 [] h3 (zPU h2) o0
 obtain⟨h8,h⟩|⟨h8,h⟩:=spl h
 obtain⟨x9,h10,h⟩:=zC h
 obtain⟨r11,h12,h⟩:=zC h
 obtain rfl:=sj h
 exact tF zSI 0 [] (oC 1 [] (zPD h12)<|oA 1 (xL (o:=.no) h5)<|oA 1 (xL (o:=.no) h5)<|oA 1 (xL (o:=.no) h5)<|oA 1 (xB (o:=.no) h10)<|oA 0 (xL (o:=.no) h5)<|oB 4 h8 k)
 obtain rfl:=sj h
 exact tF zSI 0 [] (oB 4 h8 k)
 obtain rfl:=sj h
 exact tF zSI 1 [] (oK 0 [] h3 (zPU h2) o0),⟨⟨tv,dE _⟩,tv,tv⟩,zB,tv,zB⟩
def zMH(qq:Nat)(p0:List Ent)(p1:Int):Option Bool:=
 zS p0 p1>>=fun x1=>
 zJa qq x1.body p1>>=fun r3=>
 if r3 then
 if x1.fam==0 then
 if x1.place==0 then
 if x1.pars==0 then
 if x1.inds==0 then
 if x1.level==0 then
 some ((w64 ((x1.cons.length:Int)+(x1.fields.length:Int)))==0)
 else
 some false
 else
 some false
 else
 some false
 else
 some false
 else
 some false
 else
 some false
theorem zFL:Qf 157 Tryz.f157:=⟨Tryz.func157,rfl⟩
theorem zWW{qq p0 p1 r}(h:zMH qq p0 p1=some r):Ct 157 [] [slv yP p0 .no,ai p1] (ab r) [] 0:=⟨by
 unfold zMH at h
 obtain⟨x1,h2,h⟩:=zC h
 obtain⟨r3,h4,h⟩:=zC h
 have k:=oA 0 (xL (o:=.no) h2) o0
 obtain⟨h5,h⟩|⟨h5,h⟩:=spl h
 have k:=oK 3 [] h5 (zPO h4) k
 obtain⟨h6,h⟩|⟨h6,h⟩:=spl h
 have k:=oB 1 h6 k
 obtain⟨h7,h⟩|⟨h7,h⟩:=spl h
 have k:=oB 1 h7 k
 obtain⟨h8,h⟩|⟨h8,h⟩:=spl h
 have k:=oB 1 h8 k
 obtain⟨h9,h⟩|⟨h9,h⟩:=spl h
 have k:=oB 1 h9 k
 obtain⟨h10,h⟩|⟨h10,h⟩:=spl h
 cases h
 exact tF zFL 6 [] (oB 1 h10 k)
 cases h
 exact tF zFL 0 [] (oB 1 h10 k)
 cases h
 exact tF zFL 0 [] (oB 1 h9 k)
 cases h
 exact tF zFL 0 [] (oB 1 h8 k)
 cases h
 exact tF zFL 0 [] (oB 1 h7 k)
 cases h
 exact tF zFL 0 [] (oB 1 h6 k)
 cases h
 exact tF zFL 0 [] (oK 3 [] h5 (zPO h4) k),⟨⟨tv,dE _⟩,tv,tv⟩,zB,tv,zB⟩
def U3(l:List Ent)(x:Ent):List Int:=if x.kind=4 then(ent l x.fam).fields else(ent l x.fam).cons
def zPW(l:List Ent)(i:Int)(x:Ent):Bool:=
 isT l x.fam 1&&decide (x.fam<i)&&x.pars==(ent l x.fam).pars&&eY x.body&&x.inds==0&&x.level==0&&decide (x.cons.length=0)&&decide (x.fields.length=0)
def zMI(l:List Ent)(i:Int)(x:Ent):Bool:=
 decide (0≤x.place)&&decide (x.place<(U3 l x).length)&&((U3 l x)[x.place.toNat]?).getD (-1)==i
def nI(l:List Ent)(i:Int):Bool:=zPW l i (ent l i)&&zMI l i (ent l i)
theorem zJH{L:List Int}{n:Int}(h0:0≤n)(h1:n<L.length):zS L n=some ((L[n.toNat]?).getD (-1)):=by
 unfold zS
 rw[if_pos h0]
 have:n.toNat<L.length:=by omega
 rw[List.getElem?_eq_getElem this];rfl
theorem zDk(l:List Ent)(i:Int)(h0:0≤i)(h1:i<l.length)(he:∀e∈l,EOk e):Evt (fun q=>zJG q l i) (nI l i):=by
 simp only[zJG]
 refine Evt.pure (yL h0 h1) ((zME l _ 1).bind ?_)
 have hx:=he _ (pC h0 h1)
 have hc:(ent l i).cons.length≤1152921504606846976:=hx.2.2.1
 have hf:(ent l i).fields.length≤1152921504606846976:=hx.2.2.2
 unfold nI zPW
 by_cases a1:isT l (ent l i).fam 1=true
 ·have hs:=uJ a1
  refine Evt.ifT a1 ?_
  by_cases a2:(ent l i).fam≥i
  ·exact Evt.ifT (decide_eq_true a2) (Evt.ret.eq (by simp[show ¬(ent l i).fam<i by omega]))
  refine Evt.ifF (decide_eq_false a2) (Evt.pure (yL hs.1 hs.2.1) ?_)
  by_cases a3:(ent l i).pars=(ent l (ent l i).fam).pars
  ·refine Evt.ifF (by simp[a3]) ((zBy _).bind ?_)
   by_cases a4:eY (ent l i).body=true
   ·refine Evt.ifT a4 ?_
    by_cases a5:(ent l i).inds=0
    ·refine Evt.ifF (by simp[a5]) ?_
     by_cases a6:(ent l i).level=0
     ·refine Evt.ifF (by simp[a6]) ?_
      rw[yJ (x:=((ent l i).cons.length:Int)+((ent l i).fields.length:Int)) (by omega) (by omega)]
      by_cases a7:(ent l i).cons.length=0∧(ent l i).fields.length=0
      ·refine Evt.ifF (decide_eq_false (by omega)) ?_
       have last:∀L:List Int,U3 l (ent l i)=L->Evt (fun _=>if decide ((ent l i).place≥0)=true then if decide ((ent l i).place<(List.length L:Int))=true then(zS L (ent l i).place)>>=fun x19=>some (x19==i)else some false else some false) (zMI l i (ent l i)):=fun L hL=>by
        unfold zMI
        rw[hL]
        by_cases b1:(ent l i).place≥0
        ·refine Evt.ifT (decide_eq_true b1) ?_
         by_cases b2:(ent l i).place<(L.length:Int)
         ·exact Evt.ifT (decide_eq_true b2) (Evt.pure (zJH b1 b2) (Evt.ret.eq (by simp[show 0≤(ent l i).place from b1,b2])))
         ·exact Evt.ifF (decide_eq_false b2) (Evt.ret.eq (by simp[b2]))
        ·exact Evt.ifF (decide_eq_false b1) (Evt.ret.eq (by simp[show ¬0≤(ent l i).place from b1]))
       have e:(isT l (ent l i).fam 1&&decide ((ent l i).fam<i)&&(ent l i).pars==(ent l (ent l i).fam).pars&&eY (ent l i).body&&(ent l i).inds==0&&(ent l i).level==0&&decide ((ent l i).cons.length=0)&&decide ((ent l i).fields.length=0))=true:=by
        simp[a1,show (ent l i).fam<i by omega,a3,a4,a5,a6,a7.1,a7.2]
       rw[e,Bool.true_and]
       by_cases a8:(ent l i).kind=4
       ·exact Evt.ifT (by simp[a8]) (last _ (by unfold U3;rw[if_pos a8]))
       ·exact Evt.ifF (by simp[a8]) (last _ (by unfold U3;rw[if_neg a8]))
      ·refine Evt.ifT (decide_eq_true (by omega)) (Evt.ret.eq ?_)
       have:decide ((ent l i).cons.length=0)=false∨decide ((ent l i).fields.length=0)=false:=by
        by_cases h:(ent l i).cons.length=0
        ·exact .inr (decide_eq_false fun h'=>a7 ⟨h,h'⟩)
        ·exact .inl (decide_eq_false h)
       rcases this with h|h<;>rw[h]<;>simp
     ·exact Evt.ifT (by simp[a6]) (Evt.ret.eq (by simp[a6]))
    ·exact Evt.ifT (by simp[a5]) (Evt.ret.eq (by simp[a5]))
   ·exact Evt.ifF (by simpa using a4) (Evt.ret.eq (by simp[a4]))
  ·exact Evt.ifT (by simp[a3]) (Evt.ret.eq (by simp[a3]))
 ·exact Evt.ifF (by simpa using a1) (Evt.ret.eq (by simp[a1]))
theorem wP{l:List Ent}{i:Int}(h:pW l i=true):0≤(ent l i).pars∧0≤(ent l i).inds∧(ent l i).pars+(ent l i).inds≤24∧(ent l i).cons.length≤16:=by
 unfold pW zFK zDl at h
 simp only[Bool.and_eq_true,decide_eq_true_eq]at h
 exact⟨by omega,by omega,by omega,by omega⟩
theorem rL{l:List Ent}{i:Int}(h:nI l i=true):0≤(ent l i).fam∧(ent l i).fam<i∧(ent l (ent l i).fam).kind=1∧(ent l i).pars=(ent l (ent l i).fam).pars∧0≤(ent l i).place∧(ent l i).place<(U3 l (ent l i)).length:=by
 unfold nI zPW zMI at h
 simp only[Bool.and_eq_true,decide_eq_true_eq,beq_iff_eq]at h
 have hs:=uJ h.1.1.1.1.1.1.1.1
 exact⟨hs.1,h.1.1.1.1.1.1.1.2,hs.2.2,h.1.1.1.1.1.1.2,h.2.1.1,h.2.1.2⟩
def zBx(l:List Ent)(i:Int):Prop:=∀j,0≤j->j<i->(ent l j).kind=1->pW l j=true
def zFM(l:List Ent)(i:Int):Bool:=
 nI l i&&((yM (ent l i).type).2.2==0&&(decide ((ent l i).pars≤(yM (ent l i).type).1.length)&&rX (yM (ent l i).type).2.1 (ent l i).fam (ent l i).pars (ent l (ent l i).fam).inds (yM (ent l i).type).1.length))
theorem zSJ(l:List Ent)(i:Int)(h0:0≤i)(h1:i<l.length)(he:∀e∈l,EOk e)(hF:zBx l i):Evt (fun q=>zMF q l i) (zFM l i):=by
 simp only[zMF]
 have hx:=he _ (pC h0 h1)
 refine Evt.pure (yL h0 h1) ((aQ _ hx.1).bind ((zDk l i h0 h1 he).bind ?_))
 unfold zFM
 by_cases a1:nI l i=true
 ·have hs:=rL a1
  have hf:=wP (hF _ hs.1 hs.2.1 hs.2.2.1)
  refine Evt.ifT a1 ?_
  rw[a1,Bool.true_and]
  by_cases a2:(yM (ent l i).type).2.2=0
  ·refine Evt.ifT (by simp[a2]) ?_
   have hw:=rK (t:=(ent l i).type) (l:=(yM (ent l i).type).1) (y:=(yM (ent l i).type).2.1) (by rw[←a2])
   by_cases a3:(ent l i).pars≤(yM (ent l i).type).1.length
   ·refine Evt.ifT (decide_eq_true a3) (Evt.pure (yL hs.1 (by omega)) ((cC _ _ _ _ _ hw.2.2.2.2.1 (by omega) (by omega) (by have:=hw.2.2.1;omega)).bind (Evt.ret.eq (by simp[a2,a3]))))
   ·exact Evt.ifF (decide_eq_false a3) (Evt.ret.eq (by simp[a3]))
  ·exact Evt.ifF (by simp[a2]) (Evt.ret.eq (by simp[a2]))
 ·exact Evt.ifF (by simpa using a1) (Evt.ret.eq (by simp[a1]))
def nth(l:List Tm)(n:Int):Tm:=(l[n.toNat]?).getD zT
theorem uL{l:List Tm}{n:Int}(h0:0≤n)(h1:n<l.length):zS l n=some (nth l n):=by
 unfold zS nth
 rw[if_pos h0]
 have:n.toNat<l.length:=by omega
 rw[List.getElem?_eq_getElem this];rfl
theorem sS{l:List Tm}{n:Int}(h0:0≤n)(h1:n<l.length):nth l n∈l:=by
 unfold nth
 have:n.toNat<l.length:=by omega
 rw[List.getElem?_eq_getElem this]
 exact List.getElem_mem this
def K0(l:List Ent)(i:Int):Bool:=
 nI l i&&((vQ (ent l i).type ((ent l i).pars+1)).2.2==0&&rX (nth (vQ (ent l i).type ((ent l i).pars+1)).1 (ent l i).pars) (ent l i).fam (ent l i).pars 0 (ent l i).pars)
theorem zPX(l:List Ent)(i:Int)(h0:0≤i)(h1:i<l.length)(he:∀e∈l,EOk e)(hF:zBx l i):Evt (fun q=>zMG q l i) (K0 l i):=by
 simp only[zMG]
 have hx:=he _ (pC h0 h1)
 refine(zDk l i h0 h1 he).bind ?_
 unfold K0
 by_cases a1:nI l i=true
 ·have hs:=rL a1
  have hf:=wP (hF _ hs.1 hs.2.1 hs.2.2.1)
  refine Evt.ifT a1 (Evt.pure (yL h0 h1) ?_)
  rw[a1,Bool.true_and,yJ (x:=(ent l i).pars+1) (by omega) (by omega)]
  refine(aP _ _ hx.1).bind ?_
  by_cases a2:(vQ (ent l i).type ((ent l i).pars+1)).2.2=0
  ·have hw:=m7 (t:=(ent l i).type) (n:=(ent l i).pars+1) (l:=(vQ (ent l i).type ((ent l i).pars+1)).1) (y:=(vQ (ent l i).type ((ent l i).pars+1)).2.1) (by rw[←a2])
   refine Evt.ifT (by simp[a2]) (Evt.pure (uL (by omega) (by omega)) ((cC _ _ _ _ _ (hw.2.2.2.2.2.2 _ (sS (by omega) (by omega))) (by omega) (by omega) (by omega)).bind (Evt.ret.eq (by simp[a2]))))
  ·exact Evt.ifF (by simp[a2]) (Evt.ret.eq (by simp[a2]))
 ·exact Evt.ifF (by simpa using a1) (Evt.ret.eq (by simp[a1]))
def zFN(l:List Ent)(i:Int):Bool:=
 uK (ent l i).body i&&((ent l i).fam==0&&((ent l i).place==0&&((ent l i).pars==0&&((ent l i).inds==0&&((ent l i).level==0&&(decide ((ent l i).cons.length=0)&&decide ((ent l i).fields.length=0)))))))
theorem zSK(l:List Ent)(i:Int)(h0:0≤i)(h1:i<l.length)(he:∀e∈l,EOk e):Evt (fun q=>zMH q l i) (zFN l i):=by
 simp only[zMH]
 have hx:=he _ (pC h0 h1)
 have hc:(ent l i).cons.length≤1152921504606846976:=hx.2.2.1
 have hf:(ent l i).fields.length≤1152921504606846976:=hx.2.2.2
 refine Evt.pure (yL h0 h1) ((U0 _ i hx.2.1).bind ?_)
 unfold zFN
 by_cases a1:uK (ent l i).body i=true
 ·refine Evt.ifT a1 ?_
  rw[a1,Bool.true_and,yJ (x:=((ent l i).cons.length:Int)+((ent l i).fields.length:Int)) (by omega) (by omega)]
  have e:(((ent l i).cons.length:Int)+((ent l i).fields.length:Int)==0)=(decide ((ent l i).cons.length=0)&&decide ((ent l i).fields.length=0)):=by
   rw[Bool.eq_iff_iff]
   simp only[beq_iff_eq,Bool.and_eq_true,decide_eq_true_eq]
   omega
  rw[e]
  refine Evt.mk fun q=>?_
  generalize (decide ((ent l i).cons.length=0)&&decide ((ent l i).fields.length=0))=z
  by_cases b1:(ent l i).fam=0<;>by_cases b2:(ent l i).place=0<;>by_cases b3:(ent l i).pars=0<;>by_cases b4:(ent l i).inds=0<;>by_cases b5:(ent l i).level=0<;>simp[b1,b2,b3,b4,b5]
 ·exact Evt.ifF (by simpa using a1) (Evt.ret.eq (by simp[a1]))
def jB:Nat->List Ent->List ByteArray->Int->Option (List ByteArray)
 |0,_,_,_=>none
 |qq+1,p0,v3,v8=>
 if decide (v8<(p0.length:Int))then
 zS p0 v8>>=fun x2=>
 yN 16 v3 [x2.name]>>=fun l4=>
 jB qq p0 l4 (w64 (v8+1))
 else
 some v3
def zMJ(qq:Nat)(p0:List Ent):Option (List ByteArray):=
 jB qq p0 [] 0
theorem zPY:∀qq:Nat,(∀ {p0 v3 v8 r},jB qq p0 v3 v8=some r->(∀j,dL 0 (pt 4021 Tryz.f119) (sp j 19 0 [(3,slv D5 v3 (.st 0 1)),(6,slv yP p0 .no),(7,ai (p0.length:Int)),(8,ai v8)]) (⟨[],0,[0],1,[]⟩) (fQ 0 (nQ 0 Tryz.f119 (.sl (zK D5 r) r.length .no) [] 0) [.blk 0,.seq (pt 63 Tryz.f119)]))):=by
 intro qq
 induction qq with
 |zero=>
  exact fun h=>nn h
 |succ qq ih=>
  intro p0 v3 v8 r h
  rw[jB]at h
  obtain⟨h1,h⟩|⟨h1,h⟩:=spl h
  obtain⟨x2,h3,h⟩:=zC h
  obtain⟨l4,h5,h⟩:=zC h
  exact fun j=>lH 1 [] [] [1] [3,6,7,8] (oD (dE p0)<|oD (dS l4)<|oP 4 (zSj h5 (by simp))<|oA 0 (xL (o:=.no) h3)<|oB 0 h1 o0) (ih h)
  obtain rfl:=sj h
  exact fun j=>lF 0 [] (oD (dS v3)<|oB 0 h1 o0)
theorem zWX{qq p0 r}(h:zMJ qq p0=some r):Ct 119 [] [slv yP p0 .no] (.sl (zK D5 r) r.length .no) [] 0:=⟨by
 unfold zMJ at h
 exact tH ⟨Tryz.func119,rfl⟩ 1 [(none,3,1)] [] [0] [3,6,7,8] (oD (dE p0)<|oD (dS ([]:List ByteArray)) o0) (zPY _ h),⟨⟨tv,dE _⟩,tv⟩,zB,dS _,zB⟩
def zMK(qq:Nat)(p0:List Ent)(p1:Int):Option Bool:=
 zS p0 p1>>=fun x1=>
 zFH qq x1.name>>=fun r3=>
 if r3 then
 zJa qq x1.type p1>>=fun r6=>
 if r6 then
 if x1.kind==1 then
 zMD qq p0 p1>>=fun r10=>
 some r10
 else
 if x1.kind==2 then
 zMF qq p0 p1>>=fun r13=>
 some r13
 else
 if x1.kind==4 then
 zMG qq p0 p1>>=fun r16=>
 some r16
 else
 if x1.kind==3 then
 zMH qq p0 p1>>=fun r19=>
 some r19
 else
 some false
 else
 some false
 else
 some false
theorem zFO:Qf 120 Tryz.f120:=⟨Tryz.func120,rfl⟩
theorem zVp{qq p0 p1 r}(h:zMK qq p0 p1=some r):Ct 120 [] [slv yP p0 .no,ai p1] (ab r) [] 0:=⟨by
 unfold zMK at h
 obtain⟨x1,h2,h⟩:=zC h
 obtain⟨r3,h4,h⟩:=zC h
 have k:=oA 0 (xL (o:=.no) h2) o0
 obtain⟨h5,h⟩|⟨h5,h⟩:=spl h
 obtain⟨r6,h7,h⟩:=zC h
 have k:=oA 1 (xL (o:=.no) h2)<|oK 1 [] h5 (zVr h4) k
 obtain⟨h8,h⟩|⟨h8,h⟩:=spl h
 have k:=oA 1 (xL (o:=.no) h2)<|oK 1 [] h8 (zPO h7) k
 obtain⟨h9,h⟩|⟨h9,h⟩:=spl h
 obtain⟨r10,h11,h⟩:=zC h
 obtain rfl:=sj h
 exact tF zFO 0 [] (oC 0 [] (zWT h11)<|oB 1 h9 k)
 have k:=oB 1 h9 k
 obtain⟨h12,h⟩|⟨h12,h⟩:=spl h
 obtain⟨r13,h14,h⟩:=zC h
 obtain rfl:=sj h
 exact tF zFO 0 [] (oC 0 [] (zWU h14)<|oB 0 h12 k)
 have k:=oB 0 h12 k
 obtain⟨h15,h⟩|⟨h15,h⟩:=spl h
 obtain⟨r16,h17,h⟩:=zC h
 obtain rfl:=sj h
 exact tF zFO 0 [] (oC 0 [] (zWV h17)<|oB 0 h15 k)
 have k:=oB 0 h15 k
 obtain⟨h18,h⟩|⟨h18,h⟩:=spl h
 obtain⟨r19,h20,h⟩:=zC h
 obtain rfl:=sj h
 exact tF zFO 0 [] (oC 0 [] (zWW h20)<|oB 0 h18 k)
 obtain rfl:=sj h
 exact tF zFO 0 [] (oB 0 h18 k)
 obtain rfl:=sj h
 exact tF zFO 1 [] (oK 1 [] h8 (zPO h7) k)
 obtain rfl:=sj h
 exact tF zFO 1 [] (oK 1 [] h5 (zVr h4) k),⟨⟨tv,dE _⟩,tv,tv⟩,zB,tv,zB⟩
def zRJ(qq:Nat)(p0:List Int):Option (List Int):=
 some []
theorem zVo{qq p0 r}(h:zRJ qq p0=some r):Ct 89 [] [slv yB p0 .nl] (.sl (zK yB r) r.length .no) [] 0:=⟨by
 unfold zRJ at h
 cases h
 exact tF ⟨Tryz.func89,rfl⟩ 1 [] (oD (dI ([]:List Int)) o0),⟨⟨tv,dI _⟩,tv⟩,zB,dI _,zB⟩
def zHb(qq:Nat)(p0:List Int):Option (List Int):=
 yN 8 ([]:List Int) p0>>=fun l1=>
 some l1
theorem zRK:Qf 89 Tryz.f89:=⟨Tryz.func89,rfl⟩
theorem zVn{qq p0 r}(h:zHb qq p0=some r):Ct 89 [] [slv yB p0 .nn] (.sl (zK yB r) r.length .no) [] 0:=⟨by
 unfold zHb at h
 obtain⟨l1,h2,h⟩:=zC h
 by_cases h3:List.length p0=0
 obtain rfl:=sj h
 exact tF zRK 0 [] (oD (dI l1)<|oP 2 (zLB h2 h3) o0)
 obtain rfl:=sj h
 exact tF zRK 0 [] (oD (dI l1)<|oP 2 (lD h2 h3) o0),⟨⟨tv,dI _⟩,tv⟩,zB,dI _,zB⟩
def e89(_qq:Nat)(p0:List Int):Option (List Int):=yN 8 [] p0
theorem c89{qq:Nat}{p0:List Int}{r:List Int}(h:e89 qq p0=some r):CT Tryz.prog 89 [] [.sl (zK yB p0) p0.length .no] (.sl (zK yB r) r.length .no) [] 0:=by
 have hr:r=p0:=by have:=(qP h).2;simpa using this
 have h1:zHb qq p0=some r:=by unfold zHb;rw[show yN 8 ([]:List Int) p0=some r from h];rfl
 have k1:=zVn h1
 refine⟨uG.nilcase (fun hn=>?_) k1.tri,⟨⟨trivial,dI _⟩,trivial⟩,(fun _ h=>nomatch h),dI _,(fun _ h=>nomatch h)⟩
 have hp:p0=[]:=R2 dQ (by decide) hn
 subst hr
 subst hp
 exact(zVo (qq:=qq) rfl).tri
def cD:Nat->List Ent->List Ent->Int->Option (List Ent)
 |0,_,_,_=>none
 |qq+1,p0,v3,v8=>
 if decide (v8<(p0.length:Int))then
 zS p0 v8>>=fun x2=>
 e53 qq x2.type>>=fun r4=>
 e53 qq x2.body>>=fun r6=>
 e89 qq x2.cons>>=fun r8=>
 e89 qq x2.fields>>=fun r10=>
 yN 192 v3 [(Ent.mk x2.kind x2.name r4 r6 x2.fam x2.place x2.pars x2.inds x2.level r8 r10)]>>=fun l12=>
 cD qq p0 l12 (w64 (v8+1))
 else
 some v3
def e58(qq:Nat)(p0:List Ent):Option (List Ent):=
 cD qq p0 [] 0
theorem zSL:∀qq:Nat,(∀ {p0 v3 v8 r},cD qq p0 v3 v8=some r->(∀j,dL 0 (pt 4021 Tryz.f58) (sp j 34 0 [(3,slv yP v3 (.st 0 15)),(6,slv yP p0 .no),(7,ai (p0.length:Int)),(8,ai v8)]) (⟨[],0,[0],1,[]⟩) (fQ 0 (nQ 0 Tryz.f58 (.sl (zK yP r) r.length .no) [] 0) [.blk 0,.seq (pt 63 Tryz.f58)]))):=by
 intro qq
 induction qq with
 |zero=>
  exact fun h=>nn h
 |succ qq ih=>
  intro p0 v3 v8 r h
  rw[cD]at h
  obtain⟨h1,h⟩|⟨h1,h⟩:=spl h
  obtain⟨x2,h3,h⟩:=zC h
  obtain⟨r4,h5,h⟩:=zC h
  obtain⟨r6,h7,h⟩:=zC h
  obtain⟨r8,h9,h⟩:=zC h
  obtain⟨r10,h11,h⟩:=zC h
  obtain⟨l12,h13,h⟩:=zC h
  exact fun j=>lH 1 [] [] [1] [3,6,7,8] (oD (dE p0)<|oD (dE l12)<|oP 4 (zUc h13 (by simp))<|oC 0 [] (c89 h11)<|oCl 0<|oC 3 [] (c89 h9)<|oC 1 [] (c53 h7)<|oC 3 [] (c53 h5)<|oA 0 (xL (o:=.no) h3)<|oB 0 h1 o0) (ih h)
  obtain rfl:=sj h
  exact fun j=>lF 0 [] (oD (dE v3)<|oB 0 h1 o0)
theorem c58{qq p0 r}(h:e58 qq p0=some r):Ct 58 [] [slv yP p0 .no] (.sl (zK yP r) r.length .no) [] 0:=⟨by
 unfold e58 at h
 exact tH ⟨Tryz.func58,rfl⟩ 1 [(none,3,15)] [] [0] [3,6,7,8] (oD (dE p0)<|oD (dE ([]:List Ent)) o0) (zSL _ h),⟨⟨tv,dE _⟩,tv⟩,zB,dE _,zB⟩
def cE:Nat->List Ent->Int->Option Bool
 |0,_,_=>none
 |qq+1,p0,v15=>
 if decide (v15<(p0.length:Int))then
 zMK qq p0 v15>>=fun r8=>
 if r8 then
 cE qq p0 (w64 (v15+1))
 else
 some false
 else
 some true
def e87(qq:Nat)(p0:List Ent):Option Bool:=
 if decide ((p0.length:Int)>256)then
 some false
 else
 zMJ qq p0>>=fun r2=>
 zJh qq r2>>=fun r4=>
 if r4 then
 cE qq p0 0
 else
 some false
theorem q87:Qf 87 Tryz.f87:=⟨Tryz.func87,rfl⟩
theorem zSM:∀qq:Nat,(∀ {p0 v15 r},cE qq p0 v15=some r->(∀j,dL 0 (pt 4021 Tryz.f87) (sp j 23 0 [(0,slv yP p0 .no),(14,ai (p0.length:Int)),(15,ai v15)]) (⟨[],0,[],0,[]⟩) (fQ 0 (nQ 0 Tryz.f87 (ab r) [] 0) [.blk 0,.seq (pt 63 Tryz.f87)]))):=by
 intro qq
 induction qq with
 |zero=>
  exact fun h=>nn h
 |succ qq ih=>
  intro p0 v15 r h
  rw[cE]at h
  obtain⟨h7,h⟩|⟨h7,h⟩:=spl h
  obtain⟨r8,h9,h⟩:=zC h
  have k:=oB 0 h7 o0
  obtain⟨h10,h⟩|⟨h10,h⟩:=spl h
  exact fun j=>lH 2 [] [] [] [0,14,15] (oD (dE p0)<|oK 0 [] h10 (zVp h9) k) (ih h)
  cases h
  exact fun j=>lF 1 [] (oK 0 [] h10 (zVp h9) k)
  cases h
  exact fun j=>lF 0 [] (oB 0 h7 o0)
theorem c87{qq p0 r}(h:e87 qq p0=some r):Ct 87 [] [slv yP p0 .no] (ab r) [] 0:=⟨by
 unfold e87 at h
 obtain⟨h1,h⟩|⟨h1,h⟩:=spl h
 cases h
 exact tF q87 0 [] (oB 1 h1 o0)
 obtain⟨r2,h3,h⟩:=zC h
 obtain⟨r4,h5,h⟩:=zC h
 have k:=oC 0 [] (zWX h3)<|oB 1 h1 o0
 obtain⟨h6,h⟩|⟨h6,h⟩:=spl h
 exact tH q87 2 [] [] [] [0,14,15] (oD (dE p0)<|oK 0 [] h6 (zVy h5) k) (zSM _ h)
 cases h
 exact tF q87 1 [] (oK 0 [] h6 (zVy h5) k),⟨⟨tv,dE _⟩,tv⟩,zB,tv,zB⟩
def mT(N:ByteArray->Bool)(l:List Ent)(i:Int):Bool:=
 N (ent l i).name&&(uK (ent l i).type i &&
  (if (ent l i).kind=1 then pW l i else if (ent l i).kind=2 then zFM l i else if (ent l i).kind=4 then K0 l i else if (ent l i).kind=3 then zFN l i else false))
def zJI(N:ByteArray->Bool)(l:List Ent):Nat->Nat->Bool
 |0,_=>true
 |m+1,v=>mT N l v&&zJI N l m (v+1)
def fX(N:ByteArray->Bool):Prop:=∀s,Evt (fun q=>zFH q s) (N s)
theorem zML:∃N,fX N:=by
 have h:∀s,∃b,Evt (fun q=>zFH q s) b:=fun s=>by
  obtain⟨b,hb,_⟩:=zFI s
  exact⟨b,hb⟩
 exact⟨fun s=>Classical.choose (h s),fun s=>Classical.choose_spec (h s)⟩
theorem zMM(N:ByteArray->Bool)(hN:fX N)(l:List Ent)(i:Int)(h0:0≤i)(h1:i<l.length)(hl:l.length≤65535)(he:∀e∈l,EOk e)(hF:zBx l i):Evt (fun q=>zMK q l i) (mT N l i):=by
 simp only[zMK]
 have hx:=he _ (pC h0 h1)
 refine Evt.pure (yL h0 h1) ((hN _).bind ?_)
 unfold mT
 by_cases a1:N (ent l i).name=true
 ·refine Evt.ifT a1 ((U0 _ i hx.1).bind ?_)
  rw[a1,Bool.true_and]
  by_cases a2:uK (ent l i).type i=true
  ·refine Evt.ifT a2 ?_
   rw[a2,Bool.true_and]
   by_cases k1:(ent l i).kind=1
   ·rw[if_pos k1];exact Evt.ifT (by simp[k1]) ((zJF l i h0 h1 hl he).bind Evt.ret)
   rw[if_neg k1]
   refine Evt.ifF (by simp[k1]) ?_
   by_cases k2:(ent l i).kind=2
   ·rw[if_pos k2];exact Evt.ifT (by simp[k2]) ((zSJ l i h0 h1 he hF).bind Evt.ret)
   rw[if_neg k2]
   refine Evt.ifF (by simp[k2]) ?_
   by_cases k4:(ent l i).kind=4
   ·rw[if_pos k4];exact Evt.ifT (by simp[k4]) ((zPX l i h0 h1 he hF).bind Evt.ret)
   rw[if_neg k4]
   refine Evt.ifF (by simp[k4]) ?_
   by_cases k3:(ent l i).kind=3
   ·rw[if_pos k3];exact Evt.ifT (by simp[k3]) ((zSK l i h0 h1 he).bind Evt.ret)
   ·rw[if_neg k3];exact Evt.ifF (by simp[k3]) Evt.ret
  ·exact Evt.ifF (by simpa using a2) (Evt.ret.eq (by simp[a2]))
 ·exact Evt.ifF (by simpa using a1) (Evt.ret.eq (by simp[a1]))
theorem m9:∀(r l:List Ent) (v:Nat) (acc:List ByteArray),l.drop v=r->l.length≤65535->acc.length≤v->Evt (fun q=>jB q l acc (v:Int)) (acc++r.map Ent.name)
 | [],l,v,acc,hd,hl,ha=>by
  refine Evt.succ ?_
  simp only[jB]
  exact Evt.ifF (zZ hd) (Evt.ret.eq (by simp))
 |x::r,l,v,acc,hd,hl,ha=>by
  have hlt:=yC hd
  refine Evt.succ ?_
  simp only[jB]
  refine Evt.ifT (zY hd) (Evt.pure (zX hd) (Evt.pure (yG (by simp<;>omega)) ?_))
  rw[zW v (by omega)]
  exact(m9 r l (v+1) _ (zU hd) hl (by simp<;>omega)).eq (by simp)
theorem zMN(l:List Ent)(hl:l.length≤65535):Evt (fun q=>zMJ q l) (l.map Ent.name):=by
 simp only[zMJ]
 exact(m9 l l 0 [] rfl hl (by simp)).eq (by simp)
theorem zFP(N:ByteArray->Bool)(hN:fX N)(l:List Ent)(hl:l.length≤65535)(he:∀e∈l,EOk e):∀(m v:Nat),v+m=l.length->zBx l v->Evt (fun q=>cE q l (v:Int)) (zJI N l m v):=by
 intro m
 induction m with
 |zero=>
  intro v hm hF
  refine Evt.succ ?_
  simp only[cE]
  exact Evt.ifF (decide_eq_false (by omega)) Evt.ret
 |succ m ih=>
  intro v hm hF
  refine Evt.succ ?_
  simp only[cE]
  refine Evt.ifT (decide_eq_true (by omega)) ((zMM N hN l v (by omega) (by omega) hl he hF).bind ?_)
  rw[zJI]
  by_cases h:mT N l v=true
  ·refine Evt.ifT h ?_
   rw[zW v (by omega),h,Bool.true_and]
   refine ih (v+1) (by omega) fun j hj0 hj1 hk=>?_
   by_cases e:j=v
   ·subst e
    unfold mT at h
    simp only[Bool.and_eq_true]at h
    have:=h.2.2
    rwa[if_pos hk]at this
   ·exact hF j hj0 (by omega) hk
  ·exact Evt.ifF (by simpa using h) (Evt.ret.eq (by simp[h]))
def aR(N:ByteArray->Bool)(d:Bool)(l:List Ent):Bool:=decide (l.length≤256)&&(d&&zJI N l l.length 0)
theorem zJJ(N:ByteArray->Bool)(hN:fX N)(l:List Ent)(hl:l.length≤65535)(he:∀e∈l,EOk e):∃d,Evt (fun q=>zJh q (l.map Ent.name)) d∧Evt (fun q=>e87 q l) (aR N d l):=by
 obtain⟨d,hd,_⟩:=zBz (l.map Ent.name) (by simpa using hl)
 refine⟨d,hd,?_⟩
 simp only[e87]
 unfold aR
 by_cases h:l.length≤256
 ·refine Evt.ifF (decide_eq_false (by omega)) ((zMN l hl).bind (hd.bind ?_))
  cases d with
  |false=>exact Evt.ifF rfl (Evt.ret.eq (by simp))
  |true=>exact Evt.ifT rfl ((zFP N hN l hl he l.length 0 (by omega) (fun j h0 h1=>by omega)).eq (by simp[h]))
 ·exact Evt.ifT (decide_eq_true (by omega)) (Evt.ret.eq (by simp[h]))
theorem l0{N:ByteArray->Bool}{l:List Ent}:∀ {m v:Nat},zJI N l m v=true->∀j,v≤j->j<v+m->mT N l (j:Int)=true
 |0,v,_,j,h0,h1=>by omega
 |m+1,v,h,j,h0,h1=>by
  rw[zJI]at h
  simp only[Bool.and_eq_true]at h
  by_cases e:j=v
  ·subst e;exact h.1
  ·exact l0 h.2 j (by omega) (by omega)
def wS(N:ByteArray->Bool)(l:List Ent):Prop:=l.length≤256∧∀i:Int,0≤i->i<l.length->mT N l i=true
theorem aS{N:ByteArray->Bool}{d:Bool}{l:List Ent}(h:aR N d l=true):wS N l:=by
 unfold aR at h
 simp only[Bool.and_eq_true,decide_eq_true_eq]at h
 refine⟨h.1,fun i h0 h1=>?_⟩
 have:=l0 h.2.2 i.toNat (by omega) (by omega)
 rwa[show ((i.toNat:Nat):Int)=i by omega]at this
theorem yV{N:ByteArray->Bool}{l:List Ent}{i:Int}(h:mT N l i=true):uK (ent l i).type i=true ∧
  ((ent l i).kind=1->pW l i=true)∧((ent l i).kind=2->zFM l i=true)∧((ent l i).kind=4->K0 l i=true)∧((ent l i).kind=3->zFN l i=true)∧((ent l i).kind=1∨(ent l i).kind=2∨(ent l i).kind=3∨(ent l i).kind=4):=by
 unfold mT at h
 simp only[Bool.and_eq_true]at h
 obtain⟨_,h2,h3⟩:=h
 refine⟨h2,fun k=>by rwa[if_pos k]at h3,fun k=>?_,fun k=>?_,fun k=>?_,?_⟩
 ·rwa[if_neg (by omega),if_pos k]at h3
 ·rwa[if_neg (by omega),if_neg (by omega),if_pos k]at h3
 ·rwa[if_neg (by omega),if_neg (by omega),if_neg (by omega),if_pos k]at h3
 ·split at h3
  ·exact .inl (by assumption)
  ·split at h3
   ·exact .inr (.inl (by assumption))
   ·split at h3
    ·exact .inr (.inr (.inr (by assumption)))
    ·split at h3
     ·exact .inr (.inr (.inl (by assumption)))
     ·cases h3
def zJK(e:Ent):Ent:=Ent.mk e.kind e.name (nE e.type) (nE e.body) e.fam e.place e.pars e.inds e.level e.cons e.fields
def ECl(e:Ent):Prop:=e.cons.length≤17592186044416∧e.fields.length≤17592186044416
theorem zDj:∀(r l acc:List Ent) (v:Nat),l.drop v=r->l.length≤65535->(∀e∈l,EOk e)->(∀e∈l,ECl e)->acc.length≤v->Evt (fun q=>cD q l acc (v:Int)) (acc++r.map zJK)
 | [],l,acc,v,hd,hl,he,hc,ha=>by
  refine Evt.succ ?_
  simp only[cD]
  exact Evt.ifF (zZ hd) (Evt.ret.eq (by simp))
 |x::r,l,acc,v,hd,hl,he,hc,ha=>by
  have hlt:=yC hd
  have hx:x∈l:=by
   have:x∈l.drop v:=by rw[hd];simp
   exact List.mem_of_mem_drop this
  have hE:=he x hx
  have hC:=hc x hx
  refine Evt.succ ?_
  simp only[cD]
  refine Evt.ifT (zY hd) (Evt.pure (zX hd) ((sR _ hE.1).bind ((sR _ hE.2.1).bind ?_)))
  refine Evt.bind (a:=x.cons) (Evt.mk fun q=>(yG (by have:=hC.1;simp<;>omega)).trans (by simp)) (Evt.bind (a:=x.fields) (Evt.mk fun q=>(yG (by have:=hC.2;simp<;>omega)).trans (by simp)) (Evt.pure (yG (by simp<;>omega)) ?_))
  rw[zW v (by omega)]
  exact(zDj r l _ (v+1) (zU hd) hl he hc (by simp<;>omega)).eq (by simp[zJK])
theorem aT(l:List Ent)(hl:l.length≤65535)(he:∀e∈l,EOk e)(hc:∀e∈l,ECl e):Evt (fun q=>e58 q l) (l.map zJK):=by
 simp only[e58]
 exact(zDj l l [] 0 rfl hl he hc (by simp)).eq (by simp)
theorem pD{t:Tm}{n:Int}(h:uK t n=true):zL t=true:=by
 unfold uK sU at h
 simp only[Bool.and_eq_true]at h
 exact h.1.1.1
theorem zFQ{t:Tm}(h:eY t=true):t=zT:=by
 unfold eY at h
 simp only[Bool.and_eq_true,beq_iff_eq]at h
 obtain⟨k,n,l⟩:=t
 have h1:k=0:=h.1.1
 have h2:n=0:=h.1.2
 have h3:l=[]:=List.length_eq_zero_iff.1 (by have:(l.length:Int)=0:=h.2;omega)
 subst h1;subst h2;subst h3;rfl
theorem l3{t:Tm}(h:eY t=true):nE t=t:=by
 rw[zFQ h]
 unfold nE
 split
 ·rfl
 ·rfl
theorem zJL{N:ByteArray->Bool}{l:List Ent}{i:Int}(h:mT N l i=true):zJK (ent l i)=ent l i:=by
 have hs:=yV h
 have h1:nE (ent l i).type=(ent l i).type:=by unfold nE;rw[if_pos (pD hs.1)]
 have own:nI l i=true->nE (ent l i).body=(ent l i).body:=fun ho=>by
  unfold nI zPW at ho
  simp only[Bool.and_eq_true]at ho
  exact l3 ho.1.1.1.1.1.2
 have h2:nE (ent l i).body=(ent l i).body:=by
  rcases hs.2.2.2.2.2 with k|k|k|k
  ·have:=hs.2.1 k
   unfold pW zFK at this
   simp only[Bool.and_eq_true]at this
   exact l3 this.1.1.1.2
  ·have:=hs.2.2.1 k
   unfold zFM at this
   simp only[Bool.and_eq_true]at this
   exact own this.1
  ·have:=hs.2.2.2.2.1 k
   unfold zFN at this
   simp only[Bool.and_eq_true]at this
   unfold nE;rw[if_pos (pD this.1)]
  ·have:=hs.2.2.2.1 k
   unfold K0 at this
   simp only[Bool.and_eq_true]at this
   exact own this.1
 unfold zJK
 rw[h1,h2]
theorem fY{N:ByteArray->Bool}{l:List Ent}(h:wS N l):l.map zJK=l:=by
 refine List.ext_getElem (by simp) fun i h1 h2=>?_
 simp only[List.getElem_map]
 have:=zJL (h.2 (i:Int) (by omega) (by omega))
 have e:ent l (i:Int)=l[i]:=by
  unfold ent
  rw[show (i:Int).toNat=i by omega,List.getElem?_eq_getElem h2];rfl
 rwa[e]at this
def zHa(qq:Nat)(p0:List Tm):Option Unit:=
 some ()
theorem zPZ{qq p0 r}(h:zHa qq p0=some r):Ct 159 [] [slv zG p0 .nl] (slv zG ([]:List Tm) .full) [] 0:=⟨by
 unfold zHa at h
 cases h
 exact tG ⟨Tryz.func159,rfl⟩ 1 [] [] [] true (oD (dT ([]:List Tm)) o0),⟨⟨tv,dT _⟩,tv⟩,zB,dT _,zB⟩
def zBw(qq:Nat)(p0:List Tm):Option ((Unit) ⊕ (List Tm)):=
 if decide (List.length p0=0)then
 some (.inl ())
 else
 yN 40 ([]:List Tm) p0>>=fun l2=>
 some (.inr l2)
abbrev zJM (p0:List Tm) (C:Cf):Prop:=C 159 [] [slv zG p0 .nn] (slv zG ([]:List Tm) .full) [] 0
abbrev zJN (p0 r:List Tm) (C:Cf):Prop:=C 159 [] [slv zG p0 .nn] (.ms 0 0 r.length r.length 3) [.row (zK zG r)] 0
theorem zHA:Qf 159 Tryz.f159:=⟨Tryz.func159,rfl⟩
theorem zHB{qq p0 r}(h:zBw qq p0=some r):(match (generalizing:=false) r with | .inl x=>zJM p0 Ct | .inr x=>zJN p0 x Ct):=by
 unfold zBw at h
 obtain⟨h1,h⟩|⟨h1,h⟩:=spl h
 cases h
 exact⟨tG zHA 0 [] [] [] true (oD (dT ([]:List Tm))<|oQ 2 (zUf (of_decide_eq_true h1)) o0),⟨⟨tv,dT _⟩,tv⟩,zB,dT _,zB⟩
 obtain⟨l2,h3,h⟩:=zC h
 cases h
 exact⟨tF zHA 0 [0] (oD (dT l2)<|oM 2 (zUA h3 (of_decide_eq_false h1)) o0),⟨⟨tv,dT _⟩,tv⟩,zB,(lz rfl),(zA (dT _) zB)⟩
def E9(qq:Nat)(p0:List Tm):Option (Unit ⊕ List Tm):=if decide (List.length p0=0)=true then some (.inl ())else(yN 40 [] p0)>>=fun r=>some (.inr r)
theorem zBv{qq:Nat}{p0:List Tm}{r:Unit ⊕ List Tm}(h:E9 qq p0=some r):(match (generalizing:=false) r with | .inl _=>CT Tryz.prog 159 [] [.sl (zK zG p0) p0.length .no] (.sl (zK zG ([]:List Tm)) (List.length ([]:List Tm)) .full) [] 0 | .inr x=>CT Tryz.prog 159 [] [.sl (zK zG p0) p0.length .no] (.ms 0 0 x.length x.length 3) [.row (zK zG x)] 0):=by
 unfold E9 at h
 obtain⟨h1,h⟩|⟨h1,h⟩:=spl h
 ·obtain rfl:=sj h
  have hp:p0=[]:=List.length_eq_zero_iff.1 (of_decide_eq_true h1)
  subst hp
  have k0:=zPZ (qq:=qq) (p0:=[]) (r:=()) rfl
  have k1:=zHB (qq:=qq) (p0:=[]) (r:=.inl ()) rfl
  exact⟨uG.nilcase (fun _=>k0.tri) k1.tri,⟨⟨trivial,dT _⟩,trivial⟩,(fun _ h=>nomatch h),dT _,(fun _ h=>nomatch h)⟩
 ·obtain⟨x,h2,h⟩:=zC h
  cases h
  have k1:=zHB (qq:=qq) (p0:=p0) (r:=.inr x) (by unfold zBw;rw[if_neg (by rw[h1];decide),h2];rfl)
  refine⟨uG.nilcase (fun hn=>?_) k1.tri,⟨⟨trivial,dT _⟩,trivial⟩,(fun _ h=>nomatch h),(show 0<1 by decide),zA (dT _) zB⟩
  have hp:p0=[]:=R2 tU (by decide) hn
  subst hp
  cases h1
def zJO(_qq:Nat)(p0:List Tm):Option (List Tm):=yN 40 [] p0
theorem zSN{qq:Nat}{p0:List Tm}{r:List Tm}(h:zJO qq p0=some r):CT Tryz.prog 159 [] [.sl (zK zG p0) p0.length .no] (.sl (zK zG r) r.length (.st 0 3)) [] 1:=by
 have hr:r=p0:=by have:=(qP h).2;simpa using this
 subst hr
 by_cases h1:List.length r=0
 ·have hp:r=[]:=List.length_eq_zero_iff.1 h1
  subst hp
  exact CT.stampNil (zBv (qq:=qq) (p0:=[]) (r:=.inl ()) rfl)
 ·exact CT.freezeS (zBv (qq:=qq) (p0:=r) (r:=.inr r) (by unfold E9;rw[if_neg (by simpa using h1),show yN 40 ([]:List Tm) r=some r from h];rfl)) (dT _) (xZ tU.len _)
def zMO(qq:Nat)(p0:List Ent)(p1:Tm)(p2 p3:Int):Option tL:=
 zDr qq p1>>=fun r1=>
 L4 qq r1.2.1>>=fun r3=>
 if r1.2.2 != 0 then
 some (tL.mk false [] [])
 else
 if r3.1.k != 6 then
 some (tL.mk false [] [])
 else
 if r3.1.n != p2 then
 some (tL.mk false [] [])
 else
 zS p0 p2>>=fun x8=>
 zFF qq r1.2.1 p2 x8.pars x8.inds (w64 (p3+(r1.1.length:Int)))>>=fun r10=>
 if r10 then
 gsl r3.2 x8.pars (r3.2.length:Int)>>=fun x13=>
 zJO qq x13>>=fun r15=>
 some (tL.mk true r1.1 r15)
 else
 some (tL.mk false [] [])
theorem zMP:Qf 160 Tryz.f160:=⟨Tryz.func160,rfl⟩
theorem zWY{qq p0 p1 p2 p3 r}(h:zMO qq p0 p1 p2 p3=some r):Ct 160 [] [slv yP p0 .no,tmA p1,ai p2,ai p3] (zUn r) [] 0:=⟨by
 unfold zMO at h
 have z {os ob} (k:Oz os ob):=oD (dT ([]:List Tm))<|oD (dT ([]:List Tm))<|k
 obtain⟨r1,h2,h⟩:=zC h
 obtain⟨r3,h4,h⟩:=zC h
 have k:=oC 5 [] (zDx h4)<|oC 1 [] (zPA h2) o0
 obtain⟨h5,h⟩|⟨h5,h⟩:=spl h
 cases h
 exact tF zMP 1 [] (z<|oB 3 h5 k)
 have k:=oB 3 h5 k
 obtain⟨h6,h⟩|⟨h6,h⟩:=spl h
 cases h
 exact tF zMP 1 [] (z<|oB 1 h6 k)
 have k:=oB 1 h6 k
 obtain⟨h7,h⟩|⟨h7,h⟩:=spl h
 cases h
 exact tF zMP 1 [] (z<|oB 1 h7 k)
 obtain⟨x8,h9,h⟩:=zC h
 obtain⟨r10,h11,h⟩:=zC h
 have k:=oA 1 (xL (o:=.no) h9)<|oA 1 (xL (o:=.no) h9)<|oB 1 h7 k
 obtain⟨h12,h⟩|⟨h12,h⟩:=spl h
 obtain⟨x13,h14,h⟩:=zC h
 obtain⟨r15,h16,h⟩:=zC h
 cases h
 exact tF zMP 1 [] (oD (dT r15)<|oD (dT r1.1)<|oC 0 [] (zSN h16)<|oA 1 (sX h14)<|oA 1 (xL (o:=.no) h9)<|oK 3 [] h12 (zPD h11) k)
 cases h
 exact tF zMP 2 [] (z<|oK 3 [] h12 (zPD h11) k),⟨⟨tv,dE _⟩,⟨tv,tv,⟨tv,dT _⟩,tv⟩,tv,tv,tv⟩,zB,⟨tv,dT _,dT _,tv⟩,zB⟩
def jC:Nat->List Ent->Ent->List Tm->List Tm->Int->List tL->Option yX
 |0,_,_,_,_,_,_=>none
 |qq+1,p0,x1,x7,r11,v43,mE=>
 if decide (v43<(x7.length:Int))then
 zS x7 v43>>=fun x14=>
 zMO qq p0 x14 x1.fam (w64 (x1.pars+v43))>>=fun r16=>
 yN 56 mE [r16]>>=fun l18=>
 jC qq p0 x1 x7 r11 (w64 (v43+1)) l18
 else
 some (yX.mk x7 r11 mE)
def zJP(qq:Nat)(p0:List Ent)(p1:Int):Option yX:=
 zS p0 p1>>=fun x1=>
 zDr qq x1.type>>=fun r3=>
 L4 qq r3.2.1>>=fun r5=>
 gsl r3.1 x1.pars (r3.1.length:Int)>>=fun x7=>
 gsl r5.2 x1.pars (r5.2.length:Int)>>=fun x9=>
 zJO qq x9>>=fun r11=>
 jC qq p0 x1 x7 r11 0 []
theorem zQz:∀qq:Nat,(∀ {p0 x1 x7 r11 v43 mE r},jC qq p0 x1 x7 r11 v43 mE=some r->(∀j,dL 0 (pt 262069 Tryz.f121) (sp j 64 0 [(0,slv yP p0 .no),(4,.mp 0 0),(5,.mp 1 0),(11,.mp 2 0),(41,slv zG x7 .no),(42,ai (x7.length:Int)),(43,ai v43)]) (⟨[(0,.cells [slv zG ([]:List Tm) .nl,slv zG ([]:List Tm) .nl,slv bQ ([]:List tL) .nl]),(1,.cells [ai x1.kind,at' x1.name,ai x1.type.k,ai x1.type.n,slv zG x1.type.sub .no,ai x1.body.k,ai x1.body.n,slv zG x1.body.sub .no,ai x1.fam,ai x1.place,ai x1.pars,ai x1.inds,ai x1.level,slv yB x1.cons .no,slv yB x1.fields .no]),(2,.cells [slv zG x7 .no,slv zG r11 (.st 0 3),slv bQ mE (.st 1 3)])],3,[0,1],2,[]⟩) (fQ 0 (nQ 0 Tryz.f121 (zSu r) [] 0) [.blk 0,.seq (pt 4095 Tryz.f121)]))):=by
 intro qq
 induction qq with
 |zero=>
  exact fun h=>nn h
 |succ qq ih=>
  intro p0 x1 x7 r11 v43 mE r h
  rw[jC]at h
  obtain⟨h13,h⟩|⟨h13,h⟩:=spl h
  obtain⟨x14,h15,h⟩:=zC h
  obtain⟨r16,h17,h⟩:=zC h
  obtain⟨l18,h19,h⟩:=zC h
  exact fun j=>lH 2 [] [0,1,2] [0,2] [0,4,5,11,41,42,43] (oD (dT x7)<|oD (dE p0)<|oD (dR l18)<|oD (dT r11)<|oD (dT x7)<|oD (dI x1.fields)<|oD (dI x1.cons)<|oD (dT x1.body.sub)<|oD (dT x1.type.sub)<|oD (dR ([]:List tL))<|oD (dT ([]:List Tm))<|oD (dT ([]:List Tm))<|oP 1 (zSi h19 (by simp))<|oC 4 [] (zWY h17)<|oCl 2<|oA 0 (xB (o:=.no) h15)<|oB 0 h13 o0) (ih h)
  cases h
  exact fun j=>lF 2 [] (oD (dR mE)<|oD (dT r11)<|oD (dT x7)<|oB 0 h13 o0)
theorem zVm{qq p0 p1 r}(h:zJP qq p0 p1=some r):Ct 121 [] [slv yP p0 .no,ai p1] (zSu r) [] 0:=⟨by
 unfold zJP at h
 obtain⟨x1,h2,h⟩:=zC h
 obtain⟨r3,h4,h⟩:=zC h
 obtain⟨r5,h6,h⟩:=zC h
 obtain⟨x7,h8,h⟩:=zC h
 obtain⟨x9,h10,h⟩:=zC h
 obtain⟨r11,h12,h⟩:=zC h
 exact tH ⟨Tryz.func121,rfl⟩ 3 [(some 4,2,3)] [0,1,4] [0,1] [0,4,5,11,41,42,43] (oD (dT x7)<|oD (dE p0)<|oD (dR ([]:List tL))<|oD (dT r11)<|oD (dT x7)<|oD (dI x1.fields)<|oD (dI x1.cons)<|oD (dT x1.body.sub)<|oD (dT x1.type.sub)<|oD (dR ([]:List tL))<|oD (dT ([]:List Tm))<|oD (dT ([]:List Tm))<|oC 0 [] (zSN h12)<|oA 1 (sX h10)<|oA 0 (sX h8)<|oCl 3<|oC 5 [] (zDx h6)<|oC 3 [] (zPA h4)<|oA 0 (xL (o:=.no) h2) o0) (zQz _ h),⟨⟨tv,dE _⟩,tv,tv⟩,zB,⟨dT _,dT _,dR _,tv⟩,zB⟩
def gE:Nat->List Ent->List yX->Int->List yX->Option ((List yX × Int) ⊕ (List yX × Int))
 |0,_,_,_,_=>none
 |qq+1,p0,x4,v14,yA=>
 if decide (v14<(p0.length:Int))then
 zS p0 v14>>=fun x7=>
 if x7.kind==2 then
 zJP qq p0 v14>>=fun r10=>
 nT x4.length v14>>=fun x12=>
 iZ yA x12 r10>>=fun x14=>
 gE qq p0 x4 (w64 (v14+1)) x14
 else
 gE qq p0 x4 (w64 (v14+1)) yA
 else
 gfz x4.length yA>>=fun l16=>
 some (.inr (l16,0))
def e88(qq:Nat)(p0:List Ent):Option ((List yX × Int) ⊕ (List yX × Int)):=
 e87 qq p0>>=fun r1=>
 if r1 then
 gmk 72 (default:yX) (p0.length:Int)>>=fun x4=>
 gE qq p0 x4 0 x4
 else
 some (.inl ([],5))
abbrev zVl (p0:List Ent) (r:List yX × Int) (C:Cf):Prop:=C 88 [] [slv yP p0 .no] (.tup [.sl (zK pH r.1) r.1.length .no,ai r.2]) [] 0
abbrev zVk (p0:List Ent) (r:List yX × Int) (C:Cf):Prop:=C 88 [] [slv yP p0 .no] (.tup [.ms 0 0 r.1.length r.1.length 3,ai r.2]) [.row (zK pH r.1)] 0
theorem q88:Qf 88 Tryz.f88:=⟨Tryz.func88,rfl⟩
theorem zMQ:∀qq:Nat,(∀ {p0 x4 v14 yA r},gE qq p0 x4 v14 yA=some r->(∀j,dL 0 (pt 16309 Tryz.f88) (sp j 31 0 [(0,slv yP p0 .no),(4,.ms 0 0 x4.length x4.length 3),(13,ai (p0.length:Int)),(14,ai v14)]) (⟨[(0,.row (zK pH yA))],1,[],0,[]⟩) (fQ 0 ((match (generalizing:=false) r with | .inl x=>nQ 0 Tryz.f88 (.tup [.sl (zK pH x.1) x.1.length .no,ai x.2]) [] 0 | .inr x=>nQ 0 Tryz.f88 (.tup [.ms 0 0 x.1.length x.1.length 3,ai x.2]) [.row (zK pH x.1)] 0)) [.blk 0,.seq (pt 255 Tryz.f88)]))):=by
 intro qq
 induction qq with
 |zero=>
  exact fun h=>nn h
 |succ qq ih=>
  intro p0 x4 v14 yA r h
  rw[gE]at h
  obtain⟨h6,h⟩|⟨h6,h⟩:=spl h
  obtain⟨x7,h8,h⟩:=zC h
  have k:=oA 0 (xL (o:=.no) h8)<|oB 0 h6 o0
  obtain⟨h9,h⟩|⟨h9,h⟩:=spl h
  obtain⟨r10,h11,h⟩:=zC h
  obtain⟨x12,h13,h⟩:=zC h
  obtain⟨x14,h15,h⟩:=zC h
  exact fun j=>lH 1 [] [0] [] [0,4,13,14] (oD (dE p0)<|oD (dC x14)<|oW 0 (wtE (x:=r10) (cs:=[slv zG r10.args .no,slv zG r10.inds .no,slv bQ r10.recs .no]) zFn rfl h15)<|oA 0 (zSh (b:=0) (c:=List.length x4) (z:=3) h13)<|oC 0 [] (zVm h11)<|oB 1 h9 k) (ih h)
  exact fun j=>lH 1 [] [0] [] [0,4,13,14] (oD (dE p0)<|oD (dC yA)<|oB 1 h9 k) (ih h)
  obtain⟨l16,h17,h⟩:=zC h
  obtain⟨h17a,h17b⟩:=sA h17
  cases h
  obtain rfl:=h17a.symm
  dsimp only
  rw[←h17b]
  exact fun j=>lF 0 [0] (oD (dC yA)<|oB 0 h6 o0)
theorem zWZ{qq p0 r}(h:e88 qq p0=some r):(match (generalizing:=false) r with | .inl x=>zVl p0 x Ct | .inr x=>zVk p0 x Ct):=by
 unfold e88 at h
 obtain⟨r1,h2,h⟩:=zC h
 obtain⟨h3,h⟩|⟨h3,h⟩:=spl h
 obtain⟨x4,h5,h⟩:=zC h
 rcases r with y0|y1
 exact⟨tH q88 1 [] [0] [] [0,4,13,14] (oD (dE p0)<|oD (dC x4)<|oM 2 (zLJ h5)<|oK 0 [] h3 (c87 h2) o0) (zMQ _ h),⟨⟨tv,dE _⟩,tv⟩,zB,⟨dC _,tv,tv⟩,zB⟩
 exact⟨tH q88 1 [] [0] [] [0,4,13,14] (oD (dE p0)<|oD (dC x4)<|oM 2 (zLJ h5)<|oK 0 [] h3 (c87 h2) o0) (zMQ _ h),⟨⟨tv,dE _⟩,tv⟩,zB,⟨(lz rfl),tv,tv⟩,(zA (dC _) zB)⟩
 cases h
 exact⟨tF q88 1 [] (oD (dC ([]:List yX))<|oK 0 [] h3 (c87 h2) o0),⟨⟨tv,dE _⟩,tv⟩,zB,⟨dC _,tv,tv⟩,zB⟩
theorem c88{qq p0 r}(h:e88 qq p0=some r):(match (generalizing:=false) r with | .inl x=>CT Tryz.prog 88 [] [slv yP p0 .no] (.tup [.sl (zK pH x.1) x.1.length .no,ai x.2]) [] 0 | .inr x=>CT Tryz.prog 88 [] [slv yP p0 .no] (.tup [.sl (zK pH x.1) x.1.length .no,ai x.2]) [] 0):=by
 have k:=zWZ h
 rcases r with y0|y1
 ·exact k
 ·exact CT.freeze (H1:=[]) (cs:=zK pH y1.1) (res':=(.tup [.sl (zK pH y1.1) y1.1.length .no,ai y1.2])) k (Nat.le_of_ble_eq_true rfl) zB (dC _) ⟨(.inl ⟨rfl,rfl⟩),trivial,tv⟩ (by rfl) rfl
theorem zFR{t:Tm}{n:Int}(h:(vQ t n).2.2≠0):(vQ t n).2.1=zT∧(vQ t n).1=[]:=by
 unfold vQ at h ⊢
 split
 ·split
  ·exact⟨rfl,rfl⟩
  ·split
   ·exact⟨rfl,rfl⟩
   ·rename_i h1 h2 h3
    rw[if_pos h1,if_neg h2,if_neg h3]at h
    cases hr:lL n.toNat t with
    |none=>exact⟨rfl,rfl⟩
    |some r=>rw[hr]at h;exact absurd rfl h
 ·exact⟨rfl,rfl⟩
theorem zQy:Evt (fun q=>L4 q zT) (hdT zT,arT zT):=by
 refine Evt.mk fun q=>?_
 show qU zT zT []=_
 unfold zT qU hdT arT
 simp
theorem j4(t:Tm):Evt (fun q=>L4 q (yM t).2.1) (hdT (yM t).2.1,arT (yM t).2.1):=by
 by_cases h:(yM t).2.2=0
 ·have hw:=rK (t:=t) (l:=(yM t).1) (y:=(yM t).2.1) (by rw[←h])
  exact nF _ hw.2.2.2.2.1
 ·have:=(zFR (t:=t) (n:=((min (uW t) 25:Nat):Int)) h).1
  have e:(yM t).2.1=zT:=this
  rw[e];exact zQy
def w9(l:List Ent)(t:Tm)(of b:Int):tL:=
 if (yM t).2.2=0∧rX (yM t).2.1 of (ent l of).pars (ent l of).inds (b+(yM t).1.length)=true then tL.mk true (yM t).1 ((arT (yM t).2.1).drop (ent l of).pars.toNat)else tL.mk false [] []
theorem sZ{α:Type}{L:List α}{n:Int}(h0:0≤n)(h1:n≤L.length):gsl L n (L.length:Int)=some (L.drop n.toNat):=by
 unfold gsl
 rw[if_pos ⟨h0,h1,by omega⟩]
 congr 1
 exact List.take_of_length_le (by simp;omega)
theorem eZ{t:Tm}{of pars more b:Int}(h:rX t of pars more b=true):(hdT t).k=6∧(hdT t).n=of∧((arT t).length:Int)=pars+more:=by
 unfold rX at h
 simp only[Bool.and_eq_true,beq_iff_eq]at h
 exact⟨h.1.1.1,h.1.1.2,h.1.2⟩
theorem zSO(l:List Ent)(t:Tm)(of b:Int)(ho:t.Ok)(h0:0≤of)(h1:of<l.length)(hp:0≤(ent l of).pars∧0≤(ent l of).inds∧(ent l of).pars+(ent l of).inds≤24)(hb:0≤b∧b≤1048576) :
  Evt (fun q=>zMO q l t of b) (w9 l t of b):=by
 simp only[zMO]
 refine(aQ t ho).bind ((j4 t).bind ?_)
 unfold w9
 by_cases a1:(yM t).2.2=0
 ·have hw:=rK (t:=t) (l:=(yM t).1) (y:=(yM t).2.1) (by rw[←a1])
  refine Evt.ifF (by simp[a1]) ?_
  have hlen:=hw.2.2.1
  rw[yJ (x:=b+((yM t).1.length:Int)) (by omega) (by omega)]
  have ha:=cC (yM t).2.1 of (ent l of).pars (ent l of).inds (b+(yM t).1.length) hw.2.2.2.2.1 (by omega) (by omega) (by omega)
  by_cases a2:rX (yM t).2.1 of (ent l of).pars (ent l of).inds (b+(yM t).1.length)=true
  ·have hs:=eZ a2
   rw[if_pos ⟨a1,a2⟩]
   refine Evt.ifF (by simp[hs.1]) (Evt.ifF (by simp[hs.2.1]) (Evt.pure (yL h0 h1) (ha.bind (Evt.ifT a2 (Evt.pure (sZ hp.1 (by show _≤((arT (yM t).2.1).length:Int);omega)) ?_)))))
   have hal:=uV _ (zQ hw.2.2.2.2.1).2.2
   have hn:=(zQ hw.2.2.2.2.1).1
   refine Evt.bind (a:=(arT (yM t).2.1).drop (ent l of).pars.toNat) (Evt.mk fun q=>(yG (by simp<;>omega)).trans (by simp)) Evt.ret
  ·rw[if_neg (fun h=>a2 h.2)]
   refine Evt.iff (fun _=>Evt.ret) fun _=>Evt.iff (fun _=>Evt.ret) fun _=>Evt.pure (yL h0 h1) (ha.bind (Evt.ifF (by simpa using a2) Evt.ret))
 ·rw[if_neg (fun h=>a1 h.1)]
  exact Evt.ifT (by simp[a1]) Evt.ret
def nJ(l:List Ent)(of:Int):List Tm->Int->List tL
 | [],_=>[]
 |a::r,b=>w9 l a of b::nJ l of r (b+1)
theorem F1(l:List Ent)(of:Int):∀(r:List Tm) (b:Int),(nJ l of r b).length=r.length
 | [],_=>rfl
 |a::r,b=>congrArg (· + 1) (F1 l of r (b+1))
def wH(l:List Ent)(i:Int):yX:=
 yX.mk ((yM (ent l i).type).1.drop (ent l i).pars.toNat) ((arT (yM (ent l i).type).2.1).drop (ent l i).pars.toNat) (nJ l (ent l i).fam ((yM (ent l i).type).1.drop (ent l i).pars.toNat) (ent l i).pars)
theorem j5(l:List Ent)(x:Ent)(A I:List Tm)(hA:∀t∈A,t.Ok)(hl:A.length≤24)(h0:0≤x.fam)(h1:x.fam<l.length)(hp:0≤(ent l x.fam).pars∧0≤(ent l x.fam).inds∧(ent l x.fam).pars+(ent l x.fam).inds≤24)(hb:0≤x.pars∧x.pars≤24) :
  ∀(r:List Tm) (v:Nat) (acc:List tL),A.drop v=r->acc.length≤v->Evt (fun q=>jC q l x A I (v:Int) acc) (yX.mk A I (acc++nJ l x.fam r (x.pars+v)))
 | [],v,acc,hd,ha=>by
  refine Evt.succ ?_
  simp only[jC]
  exact Evt.ifF (zZ hd) (Evt.ret.eq (by simp[nJ]))
 |t::r,v,acc,hd,ha=>by
  have hlt:=yC hd
  have ht:t∈A:=by
   have:t∈A.drop v:=by rw[hd];simp
   exact List.mem_of_mem_drop this
  refine Evt.succ ?_
  simp only[jC]
  rw[yJ (x:=x.pars+v) (by omega) (by omega)]
  refine Evt.ifT (zY hd) (Evt.pure (zX hd) ((zSO l t x.fam (x.pars+v) (hA t ht) h0 h1 hp (by omega)).bind (Evt.pure (yG (by simp<;>omega)) ?_)))
  rw[zW v (by omega)]
  refine(j5 l x A I hA hl h0 h1 hp hb r (v+1) _ (zU hd) (by simp<;>omega)).eq ?_
  rw[nJ,show x.pars+((v+1:Nat):Int)=x.pars+v+1 by omega];simp
theorem vY{N:ByteArray->Bool}{l:List Ent}{i:Int}(hE:wS N l)(h0:0≤i)(h1:i<l.length)(hk:(ent l i).kind=2) :
  ∃(A:List Tm) (y:Tm),yM (ent l i).type=(A,y,0)∧zL y=true∧(∀t∈A,zL t=true)∧A.length=uW (ent l i).type∧A.length≤24∧0≤(ent l i).pars∧(ent l i).pars≤A.length ∧
   0≤(ent l i).fam∧(ent l i).fam<i∧(ent l (ent l i).fam).kind=1∧(ent l i).pars=(ent l (ent l i).fam).pars∧0≤(ent l (ent l i).fam).inds∧(ent l (ent l i).fam).pars+(ent l (ent l i).fam).inds≤24 ∧
   rX y (ent l i).fam (ent l i).pars (ent l (ent l i).fam).inds A.length=true∧0≤(ent l i).place∧(ent l i).place<(ent l (ent l i).fam).cons.length:=by
 have hc:=(yV (hE.2 i h0 h1)).2.2.1 hk
 unfold zFM at hc
 simp only[Bool.and_eq_true,beq_iff_eq,decide_eq_true_eq]at hc
 obtain⟨a1,a2,a3,a4⟩:=hc
 have ho:=rL a1
 have hf:=wP ((yV (hE.2 _ ho.1 (by omega))).2.1 ho.2.2.1)
 have hw:=rK (t:=(ent l i).type) (l:=(yM (ent l i).type).1) (y:=(yM (ent l i).type).2.1) (by rw[←a2])
 have hown:U3 l (ent l i)=(ent l (ent l i).fam).cons:=by unfold U3;rw[if_neg (by omega)]
 have h6:=ho.2.2.2.2.2
 rw[hown]at h6
 exact⟨_,_,by rw[←a2],hw.2.2.2.2.1,hw.2.2.2.2.2,hw.2.1,hw.2.2.1,by omega,a3,ho.1,ho.2.1,ho.2.2.1,ho.2.2.2.1,hf.2.1,hf.2.2.1,a4,ho.2.2.2.2.1,h6⟩
theorem zV{t:Tm}(h:zL t=true):t.Ok:=rD t (zQ h).2.2
theorem zDi{N:ByteArray->Bool}(l:List Ent)(i:Int)(hE:wS N l)(h0:0≤i)(h1:i<l.length)(hk:(ent l i).kind=2)(he:∀e∈l,EOk e):Evt (fun q=>zJP q l i) (wH l i):=by
 simp only[zJP]
 obtain⟨A,y,hw,hy,hA,hAp,hA24,p0,p1,f0,f1,fk,fp,fi,fs,hap,-,-⟩:=vY hE h0 h1 hk
 have hsp:=eZ hap
 refine Evt.pure (yL h0 h1) ((aQ _ (he _ (pC h0 h1)).1).bind ((j4 _).bind ?_))
 unfold wH
 rw[hw]
 have hal:=uV _ (zQ hy).2.2
 have hn:=(zQ hy).1
 refine Evt.pure (sZ p0 p1) (Evt.pure (sZ p0 (by show _≤((arT y).length:Int);omega)) (Evt.bind (a:=(arT y).drop (ent l i).pars.toNat) (Evt.mk fun q=>(yG (by simp<;>omega)).trans (by simp)) ?_))
 refine(j5 l (ent l i) (A.drop (ent l i).pars.toNat) ((arT y).drop (ent l i).pars.toNat) (fun t ht=>zV (hA t (List.mem_of_mem_drop ht))) (by simp;omega) f0 (by omega) (by omega) (by omega) _ 0 [] rfl (by simp)).eq ?_
 simp
def evA(l:List Ent):Nat->Nat->List yX
 |0,_=>[]
 |m+1,v=>(if (ent l v).kind=2 then wH l v else default)::evA l m (v+1)
theorem zHC(l:List Ent):∀(m v j:Nat),j<m->(evA l m v)[j]? = some (if (ent l ((v+j:Nat):Int)).kind=2 then wH l ((v+j:Nat):Int)else default)
 |m+1,v,0,_=>by simp[evA]
 |m+1,v,j+1,h=>by
  rw[evA,List.getElem?_cons_succ,zHC l m (v+1) j (by omega),show v+1+j=v+(j+1) by omega]
theorem zJQ{N:ByteArray->Bool}(l:List Ent)(x4:List yX)(hx:x4.length=l.length)(hE:wS N l)(he:∀e∈l,EOk e):∀(m v:Nat) (acc:List yX),v+m=l.length->acc.length=v ->
  Evt (fun q=>gE q l x4 (v:Int) (acc++List.replicate m default)) (.inr (acc++evA l m v,0)):=by
 intro m
 induction m with
 |zero=>
  intro v acc hm ha
  refine Evt.succ ?_
  simp only[gE]
  refine Evt.ifF (decide_eq_false (by omega)) (Evt.pure (a:=acc++List.replicate 0 default) (by unfold gfz;rw[if_pos (by simp;omega)]) (Evt.ret.eq (by simp[evA])))
 |succ m ih=>
  intro v acc hm ha
  refine Evt.succ ?_
  simp only[gE]
  refine Evt.ifT (decide_eq_true (by omega)) (Evt.pure (yL (by omega) (by omega)) ?_)
  have hl:=hE.1
  rw[zW v (by omega),evA]
  by_cases k:(ent l v).kind=2
  ·rw[if_pos k]
   refine Evt.ifT (by simp[k]) ((zDi l v hE (by omega) (by omega) k he).bind ?_)
   refine Evt.pure (a:=v) (by unfold nT;rw[if_pos (by omega)];simp) ?_
   refine Evt.pure (a:=acc++wH l v::List.replicate m default) ?_ ?_
   ·unfold iZ
    rw[if_pos (by simp;omega),List.set_append_right _ _ (by omega),show v-acc.length=0 by omega,List.replicate_succ];rfl
   ·have:=ih (v+1) (acc++[wH l v]) (by omega) (by simp;omega)
    simpa using this
  ·rw[if_neg k]
   refine Evt.ifF (by simp[k]) ?_
   have:=ih (v+1) (acc++[default]) (by omega) (by simp;omega)
   rw[List.replicate_succ]
   simpa using this
def e57(qq:Nat)(p0:List Ent):Option ((Int) ⊕ (Int×List Ent×List yX)):=
 e58 qq p0>>=fun r1=>
 e87 qq p0>>=fun r3=>
 if r3 then
 e88 qq r1>>=fun r6=>
 match r6 with
 | .inl y8=>
  if y8.2 != 0 then
  some (.inl y8.2)
  else
  some (.inr (0,r1,y8.1))
 | .inr y10=>
  if y10.2 != 0 then
  some (.inl y10.2)
  else
  some (.inr (0,r1,y10.1))
 else
 some (.inl 5)
abbrev zMR (p0:List Ent) (r:Int) (C:Cf):Prop:=C 57 [] [slv yP p0 .no] (.tup [.val (.pointer none),ai r]) [] 0
abbrev zMS (p0:List Ent) (r:Int×List Ent×List yX) (C:Cf):Prop:=C 57 [] [slv yP p0 .no] (.tup [.mp 0 0,ai r.1]) [.cells [slv yP r.2.1 .no,slv pH r.2.2 .no]] 0
theorem q57:Qf 57 Tryz.f57:=⟨Tryz.func57,rfl⟩
theorem zMT{p0 r}(h:zMR p0 r Ci):zMR p0 r Ct:=⟨h,⟨⟨tv,dE _⟩,tv⟩,zB,⟨tv,tv,tv⟩,zB⟩
theorem zRL{p0 r}(h:zMS p0 r Ci):zMS p0 r Ct:=⟨h,⟨⟨tv,dE _⟩,tv⟩,zB,⟨(lz rfl),tv,tv⟩,(zA ⟨dE _,dC _,tv⟩ zB)⟩
theorem c57{qq p0 r}(h:e57 qq p0=some r):(match (generalizing:=false) r with | .inl x=>zMR p0 x Ct | .inr x=>zMS p0 x Ct):=by
 unfold e57 at h
 obtain⟨r1,h2,h⟩:=zC h
 obtain⟨r3,h4,h⟩:=zC h
 have k:=oC 0 [] (c58 h2) o0
 obtain⟨h5,h⟩|⟨h5,h⟩:=spl h
 obtain⟨r6,h7,h⟩:=zC h
 have k:=oK 0 [] h5 (c87 h4) k
 rcases r6 with y8|y10
 dsimp only at h
 have k:=oC 1 [] (c88 h7) k
 obtain⟨h9,h⟩|⟨h9,h⟩:=spl h
 cases h
 exact zMT (tF q57 0 [] (oB 2 h9 k))
 cases h
 exact zRL (tF q57 0 [0] (oD (dC y8.1)<|oD (dE r1)<|oB 2 h9 k))
 dsimp only at h
 have k:=oC 1 [] (c88 h7) k
 obtain⟨h11,h⟩|⟨h11,h⟩:=spl h
 cases h
 exact zMT (tF q57 0 [] (oB 2 h11 k))
 cases h
 exact zRL (tF q57 0 [0] (oD (dC y10.1)<|oD (dE r1)<|oB 2 h11 k))
 cases h
 exact zMT (tF q57 1 [] (oK 0 [] h5 (c87 h4) k))
mutual
def mU:Nat->List Ent->(Int×List Ent×List yX)->Int->List Ent->List Int->List Int->Option ((Int) ⊕ (Int×List Ent×List Int×List Int×List Ent×List yX))
 |0,_,_,_,_,_,_=>none
 |qq+1,p0,y3,v27,yA,wD,vV=>
 if decide (v27<(p0.length:Int))then
 zS p0 v27>>=fun x8=>
 if x8.kind==1 then
 yN 8 wD [(w64 ((w64 ((w64 (x8.pars+2))+(x8.cons.length:Int)))+x8.inds))]>>=fun l11=>
 yN 8 vV [0]>>=fun l13=>
 mU qq p0 y3 (w64 (v27+1)) yA l11 l13
 else
 if x8.kind==2 then
 cF qq p0 y3 v27 yA wD vV 0 x8.type.k x8.type.n x8.type.sub
 else
 yN 8 wD [0]>>=fun l16=>
 yN 8 vV [0]>>=fun l18=>
 mU qq p0 y3 (w64 (v27+1)) yA l16 l18
 else
 some (.inr (0,yA,wD,vV,y3.2.1,y3.2.2))
def cF:Nat->List Ent->(Int×List Ent×List yX)->Int->List Ent->List Int->List Int->Int->Int->Int->List Tm->Option ((Int) ⊕ (Int×List Ent×List Int×List Int×List Ent×List yX))
 |0,_,_,_,_,_,_,_,_,_,_=>none
 |qq+1,p0,y3,v27,yA,wD,vV,v10,tM,pK,uF=>
 if tM==3 then
 zS uF 1>>=fun x17=>
 cF qq p0 y3 v27 yA wD vV (w64 (v10+1)) x17.k x17.n x17.sub
 else
 yN 8 wD [0]>>=fun l19=>
 yN 8 vV [v10]>>=fun l21=>
 mU qq p0 y3 (w64 (v27+1)) yA l19 l21
end
def e27(qq:Nat)(p0:List Ent):Option ((Int) ⊕ (Int×List Ent×List Int×List Int×List Ent×List yX)):=
 e57 qq p0>>=fun r1=>
 match r1 with
 | .inl y7=>
  if y7 != 0 then
  some (.inl y7)
  else
  none
 | .inr y3=>
  if y3.1 != 0 then
  some (.inl y3.1)
  else
  e58 qq p0>>=fun r5=>
  mU qq p0 y3 0 r5 [] []
abbrev zMU (p0:List Ent) (r:Int) (C:Cf):Prop:=C 27 [] [slv yP p0 .no] (.tup [.val (.pointer none),ai r]) [] 0
abbrev zVj (p0:List Ent) (r:Int×List Ent×List Int×List Int×List Ent×List yX) (C:Cf):Prop:=C 27 [] [slv yP p0 .no] (.tup [.mp 0 0,ai r.1]) [.cells [slv yP r.2.1 .no,.mp 1 0,slv yB r.2.2.1 .no,slv yB r.2.2.2.1 .no],.cells [slv yP r.2.2.2.2.1 .no,slv pH r.2.2.2.2.2 .no]] 0
theorem q27:Qf 27 Tryz.f27:=⟨Tryz.func27,rfl⟩
theorem zMV{p0 r}(h:zMU p0 r Ci):zMU p0 r Ct:=⟨h,⟨⟨tv,dE _⟩,tv⟩,zB,⟨tv,tv,tv⟩,zB⟩
theorem aU:∀qq:Nat,(∀ {p0 y3 v27 yA wD vV r},mU qq p0 y3 v27 yA wD vV=some r->(∀j,dL 0 (pt 65461 Tryz.f27) (sp j 81 0 [(6,.mp 0 0),(25,slv yP p0 .no),(26,ai (p0.length:Int)),(27,ai v27)]) (⟨[(0,.cells [slv yP yA .no,.mp 1 0,slv yB wD (.st 0 1),slv yB vV (.st 1 1)]),(1,.cells [slv yP y3.2.1 .no,slv pH y3.2.2 .no])],2,[0,1],2,[]⟩) (fQ 0 ((match (generalizing:=false) r with | .inl x=>nQ 0 Tryz.f27 (.tup [.val (.pointer none),ai x]) [] 0 | .inr x=>nQ 0 Tryz.f27 (.tup [.mp 0 0,ai x.1]) [.cells [slv yP x.2.1 .no,.mp 1 0,slv yB x.2.2.1 .no,slv yB x.2.2.2.1 .no],.cells [slv yP x.2.2.2.2.1 .no,slv pH x.2.2.2.2.2 .no]] 0)) [.blk 0,.seq (pt 1023 Tryz.f27)])))∧(∀ {p0 y3 v27 yA wD vV v10 tM pK uF r},cF qq p0 y3 v27 yA wD vV v10 tM pK uF=some r->(∀j,dL 0 (pt 281157048172469 Tryz.f27) (sp j 81 0 [(6,.mp 0 0),(9,ai 0),(10,ai v10),(11,.mp 1 0),(25,slv yP p0 .no),(26,ai (p0.length:Int)),(27,ai v27)]) (⟨[(0,.cells [slv yP yA .no,.mp 2 0,slv yB wD (.st 0 1),slv yB vV (.st 1 1)]),(1,.cells [ai tM,ai pK,slv zG uF .no]),(2,.cells [slv yP y3.2.1 .no,slv pH y3.2.2 .no])],3,[0,1],2,[]⟩) (fQ 0 ((match (generalizing:=false) r with | .inl x=>nQ 0 Tryz.f27 (.tup [.val (.pointer none),ai x]) [] 0 | .inr x=>nQ 0 Tryz.f27 (.tup [.mp 0 0,ai x.1]) [.cells [slv yP x.2.1 .no,.mp 1 0,slv yB x.2.2.1 .no,slv yB x.2.2.2.1 .no],.cells [slv yP x.2.2.2.2.1 .no,slv pH x.2.2.2.2.2 .no]] 0)) [.blk 3,.blk 2,.seq (pt 1072529023 Tryz.f27),.blk 1,.seq (pt 4189567 Tryz.f27),.loop (pt 65461 Tryz.f27),.blk 0,.seq (pt 1023 Tryz.f27)]))):=by
 intro qq
 induction qq with
 |zero=>
  exact⟨fun h=>nn h,fun h=>nn h⟩
 |succ qq ih=>
  obtain⟨zBu,zHD⟩:=ih
  refine⟨?_,?_⟩
  intro p0 y3 v27 yA wD vV r h
  rw[mU]at h
  obtain⟨h7,h⟩|⟨h7,h⟩:=spl h
  obtain⟨x8,h9,h⟩:=zC h
  have k:=oA 0 (xL (o:=.no) h9)<|oB 0 h7 o0
  obtain⟨h10,h⟩|⟨h10,h⟩:=spl h
  obtain⟨l11,h12,h⟩:=zC h
  obtain⟨l13,h14,h⟩:=zC h
  exact fun j=>lH 3 [] [0,1] [2,3] [6,25,26,27] (oD (dE p0)<|oD (dC y3.2.2)<|oD (dE y3.2.1)<|oD (dI l13)<|oD (dI l11)<|oD (dE yA)<|oP 2 (lD h14 (by simp))<|oP 9 (lD h12 (by simp))<|oB 3 h10 k) (zBu h)
  have k:=oB 3 h10 k
  obtain⟨h15,h⟩|⟨h15,h⟩:=spl h
  exact fun j=>lH 2 [] [0,3,1] [0,1] [6,9,10,11,25,26,27] (oD (dE p0)<|oD (dC y3.2.2)<|oD (dE y3.2.1)<|oD (dT x8.type.sub)<|oD (dI vV)<|oD (dI wD)<|oD (dE yA)<|oB 0 h15 k) (zHD h)
  obtain⟨l16,h17,h⟩:=zC h
  obtain⟨l18,h19,h⟩:=zC h
  exact fun j=>lH 3 [] [0,1] [2,3] [6,25,26,27] (oD (dE p0)<|oD (dC y3.2.2)<|oD (dE y3.2.1)<|oD (dI l18)<|oD (dI l16)<|oD (dE yA)<|oP 2 (lD h19 (by simp))<|oP 2 (lD h17 (by simp))<|oB 0 h15 k) (zBu h)
  cases h
  exact fun j=>lF 0 [0,1] (oD (dC y3.2.2)<|oD (dE y3.2.1)<|oD (dI vV)<|oD (dI wD)<|oD (dE yA)<|oB 0 h7 o0)
  intro p0 y3 v27 yA wD vV v10 tM pK uF r h
  rw[cF]at h
  obtain⟨h16,h⟩|⟨h16,h⟩:=spl h
  obtain⟨x17,h18,h⟩:=zC h
  exact fun j=>lH 2 [] [0,3,2] [0,1] [6,9,10,11,25,26,27] (oD (dE p0)<|oD (dC y3.2.2)<|oD (dE y3.2.1)<|oD (dT x17.sub)<|oD (dI vV)<|oD (dI wD)<|oD (dE yA)<|oA 4 (xB (o:=.no) h18)<|oB 1 h16 o0) (zHD h)
  obtain⟨l19,h20,h⟩:=zC h
  obtain⟨l21,h22,h⟩:=zC h
  exact fun j=>lH 3 [] [0,2] [2,3] [6,25,26,27] (oD (dE p0)<|oD (dC y3.2.2)<|oD (dE y3.2.1)<|oD (dI l21)<|oD (dI l19)<|oD (dE yA)<|oP 2 (lD h22 (by simp))<|oP 2 (lD h20 (by simp))<|oB 1 h16 o0) (zBu h)
theorem c27{qq p0 r}(h:e27 qq p0=some r):(match (generalizing:=false) r with | .inl x=>zMU p0 x Ct | .inr x=>zVj p0 x Ct):=by
 unfold e27 at h
 obtain⟨r1,h2,h⟩:=zC h
 rcases r1 with y7|y3
 dsimp only at h
 have k:=oC 0 [] (c57 h2) o0
 obtain⟨h8,h⟩:=spT h
 cases h
 exact zMV (tF q27 0 [] (oB 2 h8 k))
 dsimp only at h
 have k:=oC 0 [] (c57 h2) o0
 obtain⟨h4,h⟩|⟨h4,h⟩:=spl h
 cases h
 exact zMV (tF q27 0 [] (oB 2 h4 k))
 obtain⟨r5,h6,h⟩:=zC h
 rcases r with y0|y1
 exact zMV (tH q27 1 [(some 1,2,1),(some 1,3,1)] [1,0] [0,1] [6,25,26,27] (oD (dE p0)<|oD (dC y3.2.2)<|oD (dE y3.2.1)<|oD (dI ([]:List Int))<|oD (dI ([]:List Int))<|oD (dE r5)<|oC 0 [] (c58 h6)<|oB 2 h4 k) ((aU _).1 h))
 exact⟨tH q27 1 [(some 1,2,1),(some 1,3,1)] [1,0] [0,1] [6,25,26,27] (oD (dE p0)<|oD (dC y3.2.2)<|oD (dE y3.2.1)<|oD (dI ([]:List Int))<|oD (dI ([]:List Int))<|oD (dE r5)<|oC 0 [] (c58 h6)<|oB 2 h4 k) ((aU _).1 h),⟨⟨tv,dE _⟩,tv⟩,zB,⟨(lz rfl),tv,tv⟩,(fMf (lz rfl) zB)⟩
theorem zMW{N:ByteArray->Bool}(l:List Ent)(hf:Evt (fun q=>e87 q l) true)(hE:wS N l)(he:∀e∈l,EOk e):Evt (fun q=>e88 q l) (.inr (evA l l.length 0,0)):=by
 simp only[e88]
 have hl:=hE.1
 refine hf.bind (Evt.ifT rfl (Evt.pure (a:=List.replicate l.length default) ?_ ?_))
 ·unfold gmk;rw[if_pos (by omega)];rfl
 ·exact(zJQ l (List.replicate l.length default) (by simp) hE he l.length 0 [] (by omega) rfl).eq (by simp)
def zFS(l:List Ent)(b:Bool):(Int) ⊕ (Int×List Ent×List yX):=if b=true then .inr (0,l,evA l l.length 0)else .inl 5
theorem zQx(N:ByteArray->Bool)(hN:fX N)(l:List Ent)(hl:l.length≤65535)(he:∀e∈l,EOk e)(hc:∀e∈l,ECl e):∃b,Evt (fun q=>e87 q l) b∧(b=true->wS N l)∧Evt (fun q=>e57 q l) (zFS l b):=by
 obtain⟨d,-,hd⟩:=zJJ N hN l hl he
 refine⟨_,hd,aS,?_⟩
 simp only[e57]
 refine(aT l hl he hc).bind (hd.bind ?_)
 unfold zFS
 by_cases h:aR N d l=true
 ·rw[if_pos h]
  have hA:=aS h
  rw[fY hA]
  refine Evt.ifT h ((zMW l (hd.eq h) hA he).bind ?_)
  exact Evt.ifF (by simp) Evt.ret
 ·rw[if_neg h]
  exact Evt.ifF (by simpa using h) Evt.ret
theorem zJR(t:Tm)(hg:xA t=true):uW t≤t.nodes:=by
 have key:∀(m:Nat) (t:Tm),t.nodes≤m->xA t=true->uW t≤t.nodes:=by
  intro m
  induction m with
  |zero=>intro t h;have:=rJ t;omega
  |succ m ih=>
   intro t hm hg
   by_cases k:t.k=3
   ·obtain⟨x,y,e,hx,hy⟩:=fW hg k
    rw[e]at hm ⊢
    rw[N5]
    rw[Tm.nodes,yQ,yQ,yQ]at hm ⊢
    have:=rJ x
    have:=ih y (by omega) hy
    omega
   ·rw[zFG k];omega
 exact key t.nodes t (Nat.le_refl _) hg
def xS(e:Ent):Int:=if e.kind=1 then e.pars+2+e.cons.length+e.inds else 0
def sD(e:Ent):Int:=if e.kind=2 then(uW e.type:Int)else 0
theorem zQw(l:List Ent)(y3:Int×List Ent×List yX)(v27:Int)(vb:List Ent)(a o:List Int)(r:(Int) ⊕ (Int×List Ent×List Int×List Int×List Ent×List yX))(ha:a.length≤65535)(ho:o.length≤65535)(tot:Int)(ht:tot≤4611686018427387904)
  (hk:Evt (fun q=>mU q l y3 (w64 (v27+1)) vb (a++[0]) (o++[tot])) r) :
  ∀(t:Tm) (v:Int),xA t=true->0≤v->v+uW t=tot->Evt (fun q=>cF q l y3 v27 vb a o v t.k t.n t.sub) r:=by
 have key:∀(m:Nat) (t:Tm) (v:Int),t.nodes≤m->xA t=true->0≤v->v+uW t=tot->Evt (fun q=>cF q l y3 v27 vb a o v t.k t.n t.sub) r:=by
  intro m
  induction m with
  |zero=>intro t v h;have:=rJ t;omega
  |succ m ih=>
   intro t v hm hg h0 hv
   refine Evt.succ ?_
   simp only[cF]
   by_cases k:t.k=3
   ·obtain⟨x,y,e,hx,hy⟩:=fW hg k
    rw[e]at hv hm ⊢
    rw[N5]at hv
    refine Evt.ifT (by simp[Tm.k]) (Evt.pure (a:=y) (by simp[zS,Tm.sub]) ?_)
    rw[yJ (x:=v+1) (by omega) (by omega)]
    refine ih y (v+1) ?_ hy (by omega) (by omega)
    rw[Tm.nodes,yQ,yQ,yQ]at hm
    have:=rJ x
    omega
   ·rw[zFG k]at hv
    refine Evt.ifF (by simp[k]) (Evt.pure (yG (by simp<;>omega)) (Evt.pure (yG (by simp<;>omega)) ?_))
    rw[show v=tot by omega];exact hk
 exact fun t v=>key t.nodes t v (Nat.le_refl _)
theorem aV{N:ByteArray->Bool}(l vb:List Ent)(y3:Int×List Ent×List yX)(hE:wS N l):∀(r:List Ent) (v:Nat) (a o:List Int),l.drop v=r->a.length≤v->o.length≤v ->
  Evt (fun q=>mU q l y3 (v:Int) vb a o) (.inr (0,vb,a++r.map xS,o++r.map sD,y3.2.1,y3.2.2))
 | [],v,a,o,hd,ha,ho=>by
  refine Evt.succ ?_
  simp only[mU]
  exact Evt.ifF (zZ hd) (Evt.ret.eq (by simp))
 |x::r,v,a,o,hd,ha,ho=>by
  have hlt:=yC hd
  have hl:=hE.1
  have hx:ent l v=x:=by
   have h1:=zX hd
   rw[yL (by omega) (by omega)]at h1
   exact Option.some.inj h1
  have hs:=yV (hE.2 v (by omega) (by omega))
  rw[hx]at hs
  refine Evt.succ ?_
  simp only[mU]
  refine Evt.ifT (zY hd) (Evt.pure (zX hd) ?_)
  by_cases k1:x.kind=1
  ·have hf:=wP (hs.2.1 k1)
   rw[hx]at hf
   rw[yJ (x:=x.pars+2) (by omega) (by omega),yJ (x:=x.pars+2+x.cons.length) (by omega) (by omega),yJ (x:=x.pars+2+x.cons.length+x.inds) (by omega) (by omega),zW v (by omega)]
   refine Evt.ifT (by simp[k1]) (Evt.pure (yG (by simp<;>omega)) (Evt.pure (yG (by simp<;>omega)) ?_))
   refine(aV l vb y3 hE r (v+1) _ _ (zU hd) (by simp<;>omega) (by simp<;>omega)).eq ?_
   simp[xS,sD,k1]
  ·refine Evt.ifF (by simp[k1]) ?_
   by_cases k2:x.kind=2
   ·refine Evt.ifT (by simp[k2]) ?_
    have hsh:=(zQ (pD hs.1))
    have hp:uW x.type≤8192:=Nat.le_trans (zJR x.type hsh.2.2) hsh.1
    refine zQw l y3 v vb a o _ (by omega) (by omega) (uW x.type) (by omega) ?_ x.type 0 hsh.2.2 (by omega) (by omega)
    rw[zW v (by omega)]
    refine(aV l vb y3 hE r (v+1) _ _ (zU hd) (by simp<;>omega) (by simp<;>omega)).eq ?_
    simp[xS,sD,k2]
   ·refine Evt.ifF (by simp[k2]) (Evt.pure (yG (by simp<;>omega)) (Evt.pure (yG (by simp<;>omega)) ?_))
    rw[zW v (by omega)]
    refine(aV l vb y3 hE r (v+1) _ _ (zU hd) (by simp<;>omega) (by simp<;>omega)).eq ?_
    simp[xS,sD,k1,k2]
def xH(l:List Ent):yY:=yY.mk l l (evA l l.length 0) (l.map xS) (l.map sD)
def zJS(l:List Ent)(b:Bool):(Int) ⊕ (Int×List Ent×List Int×List Int×List Ent×List yX):=if b=true then .inr (0,l,l.map xS,l.map sD,l,evA l l.length 0)else .inl 5
theorem zQv(N:ByteArray->Bool)(hN:fX N)(l:List Ent)(hl:l.length≤65535)(he:∀e∈l,EOk e)(hc:∀e∈l,ECl e):∃b,Evt (fun q=>e87 q l) b∧(b=true->wS N l)∧Evt (fun q=>e27 q l) (zJS l b):=by
 obtain⟨b,h1,h2,h3⟩:=zQx N hN l hl he hc
 refine⟨b,h1,h2,?_⟩
 simp only[e27]
 refine h3.bind ?_
 unfold zFS zJS
 cases b with
 |false=>exact Evt.ifT (by decide) Evt.ret
 |true=>
  refine Evt.ifF (by simp) ((aT l hl he hc).bind ?_)
  rw[fY (h2 rfl)]
  exact(aV l l _ (h2 rfl) l 0 [] [] rfl (by simp) (by simp)).eq (by simp)
theorem gF{t:Tm}{k c:Int}(h:(vU t k c).2=0):zL t=true∧0≤k∧0≤c∧zL (lfT t 0 c k)=true∧(vU t k c).1=lfT t 0 c k:=by
 unfold vU at h ⊢
 by_cases a:zL t=true∧eW k=true∧eW c=true
 ·rw[if_pos a]at h ⊢
  by_cases b:zL (lfT t 0 c k)=true
  ·rw[if_pos b]
   have a2:=a.2.1
   have a3:=a.2.2
   unfold eW at a2 a3
   simp only[Bool.and_eq_true,decide_eq_true_eq]at a2 a3
   exact⟨a.1,a2.1,a3.1,b,rfl⟩
  ·rw[if_neg b]at h;simp at h
 ·rw[if_neg a]at h;simp at h
theorem U4(t:Tm)(k c:Int):(vU t k c).2≠8:=by
 unfold vU
 split
 ·split<;>simp
 ·simp
mutual
def siT(ls:List Tm):Tm->Int->Tm
 | .mk kd n l,b=>if kd=1∧b≤n then(if h:(n-b).toNat<ls.length then lfT (ls[(n-b).toNat]) 0 0 b else .mk 1 (n-ls.length) [])else .mk kd n (siL ls l kd 0 b)
def siL(ls:List Tm):List Tm->Int->Nat->Int->List Tm
 | [],_,_,_=>[]
 |t::l,kd,i,b=>siT ls t (xO kd i b)::siL ls l kd (i+1) b
end
theorem zSP{a:Tm}{b left:Int}{long:Bool}(h:(raT a b left long).2.2=false):long=false∧(raT a b left long).1=lfT a 0 0 b:=by
 unfold raT at h ⊢
 by_cases h1:left-szT a 0<0
 ·rw[if_pos h1]at h;simp at h
 ·rw[if_neg h1]at h ⊢
  by_cases h2:(vU a b 0).2≠0
  ·rw[if_pos h2]at h;simp at h
  ·rw[if_neg h2]at h ⊢
   exact⟨h,(gF (by simpa using h2)).2.2.2.2⟩
theorem zMX(ls:List Tm):∀(t:Tm) (b left:Int),(sbT ls t b left true).2.2=true
 | .mk kd n l,b,left=>by rw[sbT,if_pos rfl]
mutual
theorem zMY(ls:List Tm):∀(t:Tm) (b left:Int) (long:Bool),(sbT ls t b left long).2.2=false->long=false∧(sbT ls t b left long).1=siT ls t b
 | .mk kd n l,b,left,long,h=>by
  cases long with
  |true=>rw[zMX]at h;cases h
  |false=>
   refine⟨rfl,?_⟩
   rw[sbT,if_neg (by simp)]at h ⊢
   rw[siT]
   by_cases h1:kd=1∧b≤n
   ·rw[if_pos h1]at h
    rw[if_pos h1,if_pos h1]
    by_cases h2:(n-b).toNat<ls.length
    ·rw[dif_pos h2]at h
     rw[dif_pos h2,dif_pos h2]
     exact(zSP h).2
    ·rw[dif_neg h2,dif_neg h2]
   ·rw[if_neg h1]at h
    rw[if_neg h1,if_neg h1]
    exact congrArg (Tm.mk kd n) (zMZ ls l kd 0 b (left-1) (decide (left-1<0)) h).2
theorem zMZ(ls:List Tm):∀(l:List Tm) (kd:Int) (i:Nat) (b left:Int) (long:Bool),(sbL ls l kd i b left long).2.2=false->long=false∧(sbL ls l kd i b left long).1=siL ls l kd i b
 | [],kd,i,b,left,long,h=>by
  rw[sbL]at h ⊢
  rw[siL]
  exact⟨h,rfl⟩
 |t::l,kd,i,b,left,long,h=>by
  rw[sbL]at h ⊢
  have k:=zMZ ls l kd (i+1) b (sbT ls t (xO kd i b) left long).2.1 (sbT ls t (xO kd i b) left long).2.2 h
  have k2:=zMY ls t (xO kd i b) left long k.1
  refine⟨k2.1,?_⟩
  show (sbT ls t (xO kd i b) left long).1::(sbL ls l kd (i+1) b (sbT ls t (xO kd i b) left long).2.1 (sbT ls t (xO kd i b) left long).2.2).1=_
  rw[k2.2,k.2,siL]
end
theorem zBt{t:Tm}{ls:List Tm}(h:(gD t ls).2=0):zL t=true∧ls.all zL=true∧zL (siT ls t 0)=true∧(gD t ls).1=siT ls t 0:=by
 unfold gD at h ⊢
 by_cases a:zL t=true∧ls.all zL=true
 ·rw[if_pos a]at h ⊢
  by_cases b:(sbT ls t 0 8192 false).2.2=true
  ·rw[if_pos b]at h;simp at h
  ·rw[if_neg b]at h ⊢
   have e:=(zMY ls t 0 8192 false (by simpa using b)).2
   rw[e]at h ⊢
   by_cases c:zL (siT ls t 0)=true
   ·rw[if_pos c];exact⟨a.1,a.2,c,rfl⟩
   ·rw[if_neg c]at h;simp at h
 ·rw[if_neg a]at h;simp at h
theorem zHE(t:Tm)(ls:List Tm):(gD t ls).2≠8:=by
 unfold gD
 split
 ·split
  ·simp
  ·split<;>simp
 ·simp
mutual
def yT(P:Int->Int->Prop):Tm->Prop
 | .mk k n l=>(k=1∨P k n)∧xU P l
def xU(P:Int->Int->Prop):List Tm->Prop
 | []=>True
 |t::l=>yT P t∧xU P l
end
section
variable {P:Int->Int->Prop}
theorem zBs{k n:Int}{a b:Tm}(h:k=1∨P k n)(ha:yT P a)(hb:yT P b):yT P (.mk k n [a,b]):=by
 rw[yT,xU,xU,xU];exact⟨h,ha,hb,trivial⟩
theorem zSQ{k n:Int}{a:Tm}(h:k=1∨P k n)(ha:yT P a):yT P (.mk k n [a]):=by
 rw[yT,xU,xU];exact⟨h,ha,trivial⟩
theorem gG{k n:Int}(h:k=1∨P k n):yT P (.mk k n []):=by
 rw[yT,xU];exact⟨h,trivial⟩
mutual
theorem aW:∀(t:Tm) (b c k:Int),yT P t->yT P (lfT t b c k)
 | .mk kd n l,b,c,k,h=>by
  rw[yT]at h
  rw[lfT]
  split
  ·exact gG (.inl rfl)
  ·rw[yT];exact⟨h.1,zDh l kd 0 b c k h.2⟩
theorem zDh:∀(l:List Tm) (kd:Int) (i:Nat) (b c k:Int),xU P l->xU P (lfL l kd i b c k)
 | [],_,_,_,_,_,_=>by rw[lfL,xU];trivial
 |t::l,kd,i,b,c,k,h=>by
  rw[xU]at h
  rw[lfL,xU]
  exact⟨aW t _ c k h.1,zDh l kd (i+1) b c k h.2⟩
end
mutual
theorem N6(ls:List Tm)(hls:∀a∈ls,yT P a):∀(t:Tm) (b:Int),yT P t->yT P (siT ls t b)
 | .mk kd n l,b,h=>by
  rw[yT]at h
  rw[siT]
  split
  ·split
   ·exact aW _ 0 0 b (hls _ (List.getElem_mem _))
   ·exact gG (.inl rfl)
  ·rw[yT];exact⟨h.1,zDg ls hls l kd 0 b h.2⟩
theorem zDg(ls:List Tm)(hls:∀a∈ls,yT P a):∀(l:List Tm) (kd:Int) (i:Nat) (b:Int),xU P l->xU P (siL ls l kd i b)
 | [],_,_,_,_=>by rw[siL,xU];trivial
 |t::l,kd,i,b,h=>by
  rw[xU]at h
  rw[siL,xU]
  exact⟨N6 ls hls t _ h.1,zDg ls hls l kd (i+1) b h.2⟩
end
theorem jD:∀(l:List Tm) (f:Tm),P 5 0->yT P f->(∀a∈l,yT P a)->yT P (apT f l)
 | [],f,_,hf,_=>by rw[apT];exact hf
 |a::l,f,h5,hf,hl=>by
  rw[apT]
  exact jD l _ h5 (zBs (.inr h5) hf (hl a (by simp))) fun x hx=>hl x (by simp[hx])
theorem qV:∀t:Tm,xA t=true->yT P t->yT P (hdT t)∧∀a∈arT t,yT P a:=by
 refine fU ?_ ?_
 ·intro t hg hk h
  rw[aF hk,fT hk]
  exact⟨h,fun x hx=>by cases hx⟩
 ·intro n a b hg ha hb ih h
  rw[aE,fS]
  rw[yT,xU,xU,xU]at h
  refine⟨(ih h.2.1).1,fun x hx=>?_⟩
  rcases List.mem_append.1 hx with hx|hx
  ·exact(ih h.2.1).2 x hx
  ·rw[List.mem_singleton.1 hx];exact h.2.2.1
theorem aX:∀(n:Nat) (t:Tm) (r:List Tm×Tm),xA t=true->lL n t=some r->yT P t->yT P r.2∧∀x∈r.1,yT P x
 |0,t,r,hg,h,ha=>by
  rw[lL]at h;cases h
  exact⟨ha,fun x hx=>by cases hx⟩
 |n+1,t,r,hg,h,ha=>by
  by_cases h3:t.k=3
  ·obtain⟨a,b,hx,hga,hgb⟩:=fW hg h3
   rw[hx]at h ha
   rw[N4]at h
   obtain⟨r',h1,rfl⟩:=Option.map_eq_some_iff.1 h
   rw[yT,xU,xU,xU]at ha
   have ih:=aX n b r' hgb h1 ha.2.2.1
   refine⟨ih.1,fun x hx=>?_⟩
   rcases List.mem_cons.1 hx with rfl|hx
   ·exact ha.2.1
   ·exact ih.2 x hx
  ·rw[aO h3]at h;cases h
end
mutual
theorem F2{P Q R:Int->Int->Prop}(h:∀k n,P k n->Q k n->R k n):∀t:Tm,yT P t->yT Q t->yT R t
 | .mk k n l,hp,hq=>by
  rw[yT]at hp hq ⊢
  refine⟨?_,U5 h l hp.2 hq.2⟩
  rcases hp.1 with h1|h1
  ·exact .inl h1
  ·rcases hq.1 with h2|h2
   ·exact .inl h2
   ·exact .inr (h k n h1 h2)
theorem U5{P Q R:Int->Int->Prop}(h:∀k n,P k n->Q k n->R k n):∀l:List Tm,xU P l->xU Q l->xU R l
 | [],_,_=>by rw[xU];trivial
 |t::l,hp,hq=>by
  rw[xU]at hp hq ⊢
  exact⟨F2 h t hp.1 hq.1,U5 h l hp.2 hq.2⟩
end
theorem tR{P R:Int->Int->Prop}{t:Tm}(h:∀k n,P k n->R k n)(hp:yT P t):yT R t:=F2 (fun k n a _=>h k n a) t hp hp
mutual
theorem gH{a b:Int}{Q:Int->Prop}(ha:a≠1)(hb:b≠1):∀t:Tm,(∀x∈sQ t a b,Q x)↔yT (fun k n=>k=a∨k=b->Q n) t
 | .mk k n l=>by
  have ih:=j6 (Q:=Q) ha hb l
  rw[sQ,yT,←ih]
  constructor
  ·intro h
   refine⟨?_,fun x hx=>h x (List.mem_append_right _ hx)⟩
   by_cases h1:k=a∨k=b
   ·exact .inr fun _=>h n (by rw[if_pos h1];simp)
   ·exact .inr fun h2=>absurd h2 h1
  ·rintro ⟨h1,h2⟩ x hx
   rcases List.mem_append.1 hx with hx|hx
   ·by_cases h3:k=a∨k=b
    ·rw[if_pos h3,List.mem_singleton]at hx
     rcases h1 with h1|h1
     ·omega
     ·rw[hx];exact h1 h3
    ·rw[if_neg h3]at hx;cases hx
   ·exact h2 x hx
theorem j6{a b:Int}{Q:Int->Prop}(ha:a≠1)(hb:b≠1):∀l:List Tm,(∀x∈aA l a b,Q x)↔xU (fun k n=>k=a∨k=b->Q n) l
 | []=>by rw[aA,xU];simp
 |t::l=>by
  rw[aA,xU,←gH ha hb t,←j6 ha hb l]
  constructor
  ·intro h
   exact⟨fun x hx=>h x (List.mem_append_left _ hx),fun x hx=>h x (List.mem_append_right _ hx)⟩
  ·rintro ⟨h1,h2⟩ x hx
   rcases List.mem_append.1 hx with hx|hx
   ·exact h1 x hx
   ·exact h2 x hx
end
mutual
def lvT:Tm->Int->List Int
 | .mk k n l,b=>if k=1 then(if b≤n then [n-b]else [])else lvL l k 0 b
def lvL:List Tm->Int->Nat->Int->List Int
 | [],_,_,_=>[]
 |t::l,k,i,b=>lvT t (xO k i b)++lvL l k (i+1) b
end
theorem zDf(k:Int)(i:Nat)(d x:Int):xO k i (d+x)=xO k i d+x:=by
 unfold xO
 by_cases h:i=1∧k≠5
 ·rw[if_pos h,if_pos h];omega
 ·rw[if_neg h,if_neg h]
theorem zHF(k:Int)(i:Nat)(d:Int):d≤xO k i d:=by
 unfold xO;split<;>omega
theorem sV{n b j:Int}{l:List Tm}:j∈lvT (.mk 1 n l) b↔b≤n∧j=n-b:=by
 rw[lvT,if_pos rfl]
 by_cases h:b≤n
 ·rw[if_pos h];simp[h]
 ·rw[if_neg h];simp[h]
theorem uP{k n b j:Int}{l:List Tm}(h:k≠1):j∈lvT (.mk k n l) b↔j∈lvL l k 0 b:=by
 rw[lvT,if_neg h]
theorem wB{t:Tm}{l:List Tm}{k b j:Int}{i:Nat}:j∈lvL (t::l) k i b↔j∈lvT t (xO k i b)∨j∈lvL l k (i+1) b:=by
 rw[lvL,List.mem_append]
theorem rY{k b j:Int}{i:Nat}:¬j∈lvL [] k i b:=by
 rw[lvL];simp
mutual
theorem U6:∀(t:Tm) (b j:Int),j∈lvT t b->0≤j
 | .mk k n l,b,j,h=>by
  by_cases hk:k=1
  ·subst hk;have:=sV.1 h;omega
  ·exact zNz l k 0 b j ((uP hk).1 h)
theorem zNz:∀(l:List Tm) (k:Int) (i:Nat) (b j:Int),j∈lvL l k i b->0≤j
 | [],k,i,b,j,h=>absurd h rY
 |t::l,k,i,b,j,h=>(wB.1 h).elim (U6 t _ j) (zNz l k (i+1) b j)
end
mutual
theorem lN:∀(t:Tm) (d b j:Int),0≤b->(j∈lvT t (d+b)↔0≤j∧j+b∈lvT t d)
 | .mk k n l,d,b,j,hb=>by
  by_cases hk:k=1
  ·subst hk;rw[sV,sV];omega
  ·rw[uP hk,uP hk];exact j7 l k 0 d b j hb
theorem j7:∀(l:List Tm) (k:Int) (i:Nat) (d b j:Int),0≤b->(j∈lvL l k i (d+b)↔0≤j∧j+b∈lvL l k i d)
 | [],k,i,d,b,j,hb=>⟨fun h=>absurd h rY,fun h=>absurd h.2 rY⟩
 |t::l,k,i,d,b,j,hb=>by
  rw[wB,wB,zDf,lN t _ b j hb,j7 l k (i+1) d b j hb]
  constructor
  ·rintro (h|h)
   ·exact⟨h.1,.inl h.2⟩
   ·exact⟨h.1,.inr h.2⟩
  ·rintro ⟨h,h1|h1⟩
   ·exact .inl ⟨h,h1⟩
   ·exact .inr ⟨h,h1⟩
end
mutual
theorem zRM:∀(t:Tm) (b c k j:Int),0≤k->j∈lvT (lfT t b c k) b->∃i∈lvT t b,j=if i<c then i else i+k
 | .mk kd n l,b,c,k,j,hk,h=>by
  rw[lfT]at h
  by_cases h1:kd=1
  ·subst h1
   rw[if_pos rfl]at h
   have h2:=sV.1 h
   by_cases h3:b≤n
   ·rw[if_pos h3]at h2
    exact⟨n-b,sV.2 ⟨h3,rfl⟩,by omega⟩
   ·rw[if_neg h3]at h2;omega
  ·rw[if_neg h1]at h
   obtain⟨i,hi,e⟩:=zNy l kd 0 b c k j hk ((uP h1).1 h)
   exact⟨i,(uP h1).2 hi,e⟩
theorem zNy:∀(l:List Tm) (kd:Int) (i:Nat) (b c k j:Int),0≤k->j∈lvL (lfL l kd i b c k) kd i b->∃x∈lvL l kd i b,j=if x<c then x else x+k
 | [],kd,i,b,c,k,j,hk,h=>by rw[lfL]at h;exact absurd h rY
 |t::l,kd,i,b,c,k,j,hk,h=>by
  rw[lfL]at h
  rcases wB.1 h with h|h
  ·obtain⟨x,hx,e⟩:=zRM t _ c k j hk h
   exact⟨x,wB.2 (.inl hx),e⟩
  ·obtain⟨x,hx,e⟩:=zNy l kd (i+1) b c k j hk h
   exact⟨x,wB.2 (.inr hx),e⟩
end
mutual
theorem zDe:∀(t:Tm) (d k j:Int),0≤k->j∈lvT (lfT t d 0 k) (d+k)->j∈lvT t d
 | .mk kd n l,d,k,j,hk,h=>by
  rw[lfT]at h
  by_cases h1:kd=1
  ·subst h1
   rw[if_pos rfl]at h
   have h2:=sV.1 h
   by_cases h3:d≤n
   ·rw[if_pos h3,if_neg (by omega)]at h2
    exact sV.2 ⟨h3,by omega⟩
   ·rw[if_neg h3]at h2;omega
  ·rw[if_neg h1]at h
   exact(uP h1).2 (zNx l kd 0 d k j hk ((uP h1).1 h))
theorem zNx:∀(l:List Tm) (kd:Int) (i:Nat) (d k j:Int),0≤k->j∈lvL (lfL l kd i d 0 k) kd i (d+k)->j∈lvL l kd i d
 | [],kd,i,d,k,j,hk,h=>by rw[lfL]at h;exact absurd h rY
 |t::l,kd,i,d,k,j,hk,h=>by
  rw[lfL]at h
  rcases wB.1 h with h|h
  ·rw[zDf]at h
   exact wB.2 (.inl (zDe t _ k j hk h))
  ·exact wB.2 (.inr (zNx l kd (i+1) d k j hk h))
end
mutual
theorem zNw(ls:List Tm):∀(t:Tm) (b j:Int),0≤b->j∈lvT (siT ls t b) b->∃i∈lvT t b,((ls.length:Int)≤i∧j=i-ls.length)∨∃h:i.toNat<ls.length,j∈lvT ls[i.toNat] 0
 | .mk kd n l,b,j,hb,h=>by
  rw[siT]at h
  by_cases h1:kd=1∧b≤n
  ·rw[if_pos h1]at h
   obtain⟨rfl,h1⟩:=h1
   refine⟨n-b,sV.2 ⟨h1,rfl⟩,?_⟩
   by_cases h2:(n-b).toNat<ls.length
   ·rw[dif_pos h2]at h
    exact .inr ⟨h2,zDe _ 0 b j hb (by rwa[Int.zero_add])⟩
   ·rw[dif_neg h2]at h
    have:=sV.1 h
    exact .inl (by omega)
  ·rw[if_neg h1]at h
   by_cases h2:kd=1
   ·subst h2
    have:=sV.1 h
    exact absurd ⟨rfl,this.1⟩ h1
   ·obtain⟨i,hi,e⟩:=zNv ls l kd 0 b j hb ((uP h2).1 h)
    exact⟨i,(uP h2).2 hi,e⟩
theorem zNv(ls:List Tm):∀(l:List Tm) (kd:Int) (i:Nat) (b j:Int),0≤b->j∈lvL (siL ls l kd i b) kd i b->∃x∈lvL l kd i b,((ls.length:Int)≤x∧j=x-ls.length)∨∃h:x.toNat<ls.length,j∈lvT ls[x.toNat] 0
 | [],kd,i,b,j,hb,h=>by rw[siL]at h;exact absurd h rY
 |t::l,kd,i,b,j,hb,h=>by
  rw[siL]at h
  rcases wB.1 h with h|h
  ·obtain⟨x,hx,e⟩:=zNw ls t _ j (by have:=zHF kd i b;omega) h
   exact⟨x,wB.2 (.inl hx),e⟩
  ·obtain⟨x,hx,e⟩:=zNv ls l kd (i+1) b j hb h
   exact⟨x,wB.2 (.inr hx),e⟩
end
theorem zSR{k n:Int}{a b:Tm}{d j:Int}(hk:k≠1):j∈lvT (.mk k n [a,b]) d↔j∈lvT a d∨j∈lvT b (xO k 1 d):=by
 rw[uP hk,wB,wB]
 have e:xO k 0 d=d:=by unfold xO;simp
 rw[e]
 exact⟨fun h=>h.elim .inl fun h=>h.elim .inr fun h=>absurd h rY,fun h=>h.elim .inl fun h=>.inr (.inl h)⟩
theorem F3{n:Int}{a b:Tm}{d j:Int}:j∈lvT (.mk 5 n [a,b]) d↔j∈lvT a d∨j∈lvT b d:=by
 rw[zSR (by decide)]
 have e:xO 5 1 d=d:=by unfold xO;simp
 rw[e]
theorem zNu{n:Int}{a b:Tm}{d j:Int}:j∈lvT (.mk 3 n [a,b]) d↔j∈lvT a d∨j∈lvT b (d+1):=by
 rw[zSR (by decide)]
 have e:xO 3 1 d=d+1:=by unfold xO;simp
 rw[e]
theorem zNt{n:Int}{a b:Tm}{d j:Int}:j∈lvT (.mk 4 n [a,b]) d↔j∈lvT a d∨j∈lvT b (d+1):=by
 rw[zSR (by decide)]
 have e:xO 4 1 d=d+1:=by unfold xO;simp
 rw[e]
theorem zBr{k n d j:Int}(hk:k≠1):¬j∈lvT (.mk k n []) d:=by
 rw[uP hk];exact rY
theorem zVi{k n m d j:Int}(hk:k≠1):¬j∈lvT (.mk k n [.mk 2 m []]) d:=by
 rw[uP hk,wB]
 exact fun h=>h.elim (zBr (by decide)) rY
theorem j8:∀(l:List Tm) (f:Tm) (d j:Int),j∈lvT (apT f l) d↔j∈lvT f d∨∃a∈l,j∈lvT a d
 | [],f,d,j=>by rw[apT];simp
 |a::l,f,d,j=>by
  rw[apT,j8 l,F3]
  simp[or_assoc]
theorem aY:∀t:Tm,xA t=true->∀d j,(j∈lvT (hdT t) d->j∈lvT t d)∧∀a∈arT t,j∈lvT a d->j∈lvT t d:=by
 refine fU ?_ ?_
 ·intro t hg hk d j
  rw[aF hk,fT hk]
  exact⟨id,fun x hx=>by cases hx⟩
 ·intro n a b hg ha hb ih d j
  rw[aE,fS]
  refine⟨fun h=>F3.2 (.inl ((ih d j).1 h)),fun x hx h=>?_⟩
  rcases List.mem_append.1 hx with hx|hx
  ·exact F3.2 (.inl ((ih d j).2 x hx h))
  ·rw[List.mem_singleton.1 hx]at h
   exact F3.2 (.inr h)
theorem zBq:∀(n:Nat) (t:Tm) (r:List Tm×Tm),xA t=true->lL n t=some r->∀d j,(j∈lvT r.2 (d+n)->j∈lvT t d)∧∀(i:Nat) (h:i<r.1.length),j∈lvT r.1[i] (d+i)->j∈lvT t d
 |0,t,r,hg,h,d,j=>by
  rw[lL]at h;cases h
  exact⟨fun h=>by simpa using h,fun i h=>by simp at h⟩
 |n+1,t,r,hg,h,d,j=>by
  by_cases h3:t.k=3
  ·obtain⟨a,b,hx,hga,hgb⟩:=fW hg h3
   rw[hx]at h ⊢
   rw[N4]at h
   obtain⟨r',h1,rfl⟩:=Option.map_eq_some_iff.1 h
   have ih:=zBq n b r' hgb h1 (d+1) j
   refine⟨fun h=>zNu.2 (.inr (ih.1 ?_)),fun i h hj=>?_⟩
   ·rwa[show d+1+(n:Int)=d+((n+1:Nat):Int) by omega]
   ·cases i with
    |zero=>exact zNu.2 (.inl (by simpa using hj))
    |succ i=>
     refine zNu.2 (.inr (ih.2 i (by simpa using h) ?_))
     rw[show d+1+(i:Int)=d+((i+1:Nat):Int) by omega]
     simpa using hj
  ·rw[aO h3]at h;cases h
theorem zNs{k:Int}{i:Nat}{b:Int}(h:k=3∨k=4∨k=5∨i=0):xO k i b=b+dY k i:=by
 unfold xO dY
 rcases h with h|h|h|h
 ·subst h;by_cases hi:i=1<;>simp[hi]
 ·subst h;by_cases hi:i=1<;>simp[hi]
 ·subst h;simp
 ·subst h;simp
mutual
theorem zFT:∀(t:Tm) (b j:Int),xA t=true->j∈lvT t b->j<nC t b
 | .mk k n l,b,j,hg,h=>by
  rw[nC]
  by_cases hk:k=1
  ·subst hk;rw[if_pos rfl];have:=sV.1 h;omega
  ·rw[if_neg hk]
   have hh:=wV hg
   have hs:=uT hh.1
   refine zHG l k 0 b j hh.2 ?_ ((uP hk).1 h)
   have e1:k=3∨k=4∨k=5∨l.length≤1:=by
    by_cases h7:k=7
    ·obtain⟨x,hx,-⟩:=hs.2.2.2.2.2.2.1 h7
     have hx':l=[x]:=hx
     rw[hx'];simp
    ·by_cases h1:k=1∨k=2∨k=6∨k=8
     ·have hx:=hs.2.2.2.2.2.2.2.1 h1
      have hx':l=[]:=hx
      rw[hx'];simp
     ·have a1:1≤k:=hs.1
      have a2:k≤8:=hs.2.1
      omega
   omega
theorem zHG:∀(l:List Tm) (k:Int) (i:Nat) (b j:Int),wK l=true->(k=3∨k=4∨k=5∨i+l.length≤1)->j∈lvL l k i b->j<iK l k i b
 | [],k,i,b,j,hg,hl,h=>absurd h rY
 |t::l,k,i,b,j,hg,hl,h=>by
  rw[iK]
  have hc:=xW hg
  rw[List.length_cons]at hl
  rcases wB.1 h with h|h
  ·rw[zNs (by omega)]at h
   have:=zFT t _ j hc.1 h
   omega
  ·have:=zHG l k (i+1) b j hc.2 (by omega) h
   omega
end
theorem j9{t:Tm}{n:Int}(h:uK t n=true)(d j:Int)(hd:0≤d):¬j∈lvT t d:=by
 intro hj
 have hs:=zQ (pD h)
 have h0:j+d∈lvT t 0:=((lN t 0 d j hd).1 (by rwa[Int.zero_add])).2
 have h1:=zFT t 0 _ hs.2.2 h0
 have h2:=U6 t d j hj
 unfold uK sU at h
 simp only[Bool.and_eq_true,decide_eq_true_eq]at h
 omega
theorem jE{t:Tm}{n:Int}(h:uK t n=true):yT (fun k x=>(k=6∨k=7->x<n)∧k≠8) t:=by
 have h6:yT (fun k x=>k=6∨k=7->x<n) t:=by
  refine(gH (by decide) (by decide) t).1 ?_
  unfold uK sU at h
  simp only[Bool.and_eq_true,List.all_eq_true,decide_eq_true_eq]at h
  exact h.1.2
 have h8:yT (fun k x=>k=8∨k=8->False) t:=by
  refine(gH (Q:=fun _=>False) (by decide) (by decide) t).1 ?_
  unfold uK at h
  simp only[Bool.and_eq_true,List.isEmpty_iff]at h
  rw[h.2]
  exact fun x hx=>by cases hx
 exact F2 (fun k n a b=>⟨a,fun h=>b (.inl h)⟩) t h6 h8
def jF:Nat->List Tm->Int->Int->Int->List Tm->Option (List Tm×Int)
 |0,_,_,_,_,_=>none
 |qq+1,p0,p1,p2,v15,v8=>
 if decide (v15<(p0.length:Int))then
 zS p0 v15>>=fun x2=>
 zJl qq x2 p1 p2>>=fun r4=>
 if r4.2 != 0 then
 some ([],r4.2)
 else
 yN 40 v8 [r4.1]>>=fun l7=>
 jF qq p0 p1 p2 (w64 (v15+1)) l7
 else
 some (v8,0)
def zFU(qq:Nat)(p0:List Tm)(p1 p2:Int):Option (List Tm×Int):=
 jF qq p0 p1 p2 0 []
theorem zQu:∀qq:Nat,(∀ {p0 p1 p2 v15 v8 r},jF qq p0 p1 p2 v15 v8=some r->(∀j,dL 0 (pt 4021 Tryz.f198) (sp j 35 0 [(1,ai p1),(2,ai p2),(8,slv zG v8 (.st 0 3)),(13,slv zG p0 .no),(14,ai (p0.length:Int)),(15,ai v15)]) (⟨[],0,[0],1,[]⟩) (fQ 0 (nQ 0 Tryz.f198 (.tup [.sl (zK zG r.1) r.1.length .no,ai r.2]) [] 0) [.blk 0,.seq (pt 63 Tryz.f198)]))):=by
 intro qq
 induction qq with
 |zero=>
  exact fun h=>nn h
 |succ qq ih=>
  intro p0 p1 p2 v15 v8 r h
  rw[jF]at h
  obtain⟨h1,h⟩|⟨h1,h⟩:=spl h
  obtain⟨x2,h3,h⟩:=zC h
  obtain⟨r4,h5,h⟩:=zC h
  have k:=oC 3 [] (zUZ h5)<|oA 0 (xB (o:=.no) h3)<|oB 0 h1 o0
  obtain⟨h6,h⟩|⟨h6,h⟩:=spl h
  cases h
  exact fun j=>lF 0 [] (oD (dT ([]:List Tm))<|oB 3 h6 k)
  obtain⟨l7,h8,h⟩:=zC h
  exact fun j=>lH 1 [] [] [1] [1,2,8,13,14,15] (oD (dT p0)<|oD (dT l7)<|oP 0 (vD h8 (by simp))<|oS 1 (xI xN [r4.1])<|oB 3 h6 k) (ih h)
  cases h
  exact fun j=>lF 0 [] (oD (dT v8)<|oB 0 h1 o0)
theorem zSS{qq p0 p1 p2 r}(h:zFU qq p0 p1 p2=some r):Ct 198 [] [slv zG p0 .no,ai p1,ai p2] (.tup [.sl (zK zG r.1) r.1.length .no,ai r.2]) [] 0:=⟨by
 unfold zFU at h
 exact tH ⟨Tryz.func198,rfl⟩ 1 [(none,8,3)] [] [0] [1,2,8,13,14,15] (oD (dT p0)<|oD (dT ([]:List Tm)) o0) (zQu _ h),⟨⟨tv,dT _⟩,tv,tv,tv⟩,zB,⟨dT _,tv,tv⟩,zB⟩
def jG:Nat->List Tm->Int->Option (List Tm)
 |0,_,_=>none
 |qq+1,v3,v4=>
 if decide (v4≥0)then
 zAW qq v4>>=fun r4=>
 yN 40 v3 [r4]>>=fun l6=>
 jG qq l6 (w64 (v4-1))
 else
 some v3
def zDd(qq:Nat)(p0:Int):Option (List Tm):=
 if decide (p0<0)then
 some []
 else
 if decide (p0>1048576)then
 some []
 else
 jG qq [] (w64 (p0-1))
theorem zST:Qf 200 Tryz.f200:=⟨Tryz.func200,rfl⟩
theorem zQt:∀qq:Nat,(∀ {v3 v4 r},jG qq v3 v4=some r->(∀j,dL 0 (pt 16309 Tryz.f200) (sp j 23 0 [(3,slv zG v3 (.st 0 3)),(4,ai v4)]) (⟨[],0,[0],1,[]⟩) (fQ 0 (nQ 0 Tryz.f200 (.sl (zK zG r) r.length .no) [] 0) [.blk 0,.seq (pt 255 Tryz.f200)]))):=by
 intro qq
 induction qq with
 |zero=>
  exact fun h=>nn h
 |succ qq ih=>
  intro v3 v4 r h
  rw[jG]at h
  obtain⟨h3,h⟩|⟨h3,h⟩:=spl h
  obtain⟨r4,h5,h⟩:=zC h
  obtain⟨l6,h7,h⟩:=zC h
  exact fun j=>lH 1 [] [] [1] [3,4] (oD (dT l6)<|oP 0 (vD h7 (by simp))<|oS 0 (xI xN [r4])<|oC 0 [] (zJm h5)<|oB 0 h3 o0) (ih h)
  obtain rfl:=sj h
  exact fun j=>lF 0 [] (oD (dT v3)<|oB 0 h3 o0)
theorem zSU{qq p0 r}(h:zDd qq p0=some r):Ct 200 [] [ai p0] (.sl (zK zG r) r.length .no) [] 0:=⟨by
 unfold zDd at h
 obtain⟨h1,h⟩|⟨h1,h⟩:=spl h
 obtain rfl:=sj h
 exact tF zST 0 [] (oD (dT ([]:List Tm))<|oB 0 h1 o0)
 have k:=oB 0 h1 o0
 obtain⟨h2,h⟩|⟨h2,h⟩:=spl h
 obtain rfl:=sj h
 exact tF zST 0 [] (oD (dT ([]:List Tm))<|oB 0 h2 k)
 exact tH zST 1 [(none,3,3)] [] [0] [3,4] (oD (dT ([]:List Tm))<|oB 0 h2 k) (zQt _ h),⟨tv,tv⟩,zB,dT _,zB⟩
def zFV(qq:Nat)(p0:List Ent)(p1 p2:Int):Option Bool:=
 if decide (p1≥0)then
 if decide (p1<(p0.length:Int))then
 zS p0 p1>>=fun x3=>
 some (x3.kind==p2)
 else
 some false
 else
 some false
theorem zSV:Qf 242 Tryz.f242:=⟨Tryz.func242,rfl⟩
theorem zJT{qq p0 p1 p2 r}(h:zFV qq p0 p1 p2=some r):Ct 242 [] [slv yP p0 .no,ai p1,ai p2] (ab r) [] 0:=⟨by
 unfold zFV at h
 obtain⟨h1,h⟩|⟨h1,h⟩:=spl h
 have k:=oB 0 h1 o0
 obtain⟨h2,h⟩|⟨h2,h⟩:=spl h
 obtain⟨x3,h4,h⟩:=zC h
 cases h
 exact tF zSV 2 [] (oA 0 (xL (o:=.no) h4)<|oB 1 h2 k)
 cases h
 exact tF zSV 0 [] (oB 1 h2 k)
 cases h
 exact tF zSV 0 [] (oB 0 h1 o0),⟨⟨tv,dE _⟩,tv,tv,tv⟩,zB,tv,zB⟩
def jH:Nat->List Tm->Int->Option Bool
 |0,_,_=>none
 |qq+1,p0,v7=>
 if decide (v7<(p0.length:Int))then
 zS p0 v7>>=fun x2=>
 e52 qq x2>>=fun r4=>
 if r4 then
 jH qq p0 (w64 (v7+1))
 else
 some false
 else
 some true
def zFW(qq:Nat)(p0:List Tm):Option Bool:=
 jH qq p0 0
theorem zQs:∀qq:Nat,(∀ {p0 v7 r},jH qq p0 v7=some r->(∀j,dL 0 (pt 949 Tryz.f243) (sp j 15 0 [(5,slv zG p0 .no),(6,ai (p0.length:Int)),(7,ai v7)]) (⟨[],0,[],0,[]⟩) (fQ 0 (nQ 0 Tryz.f243 (ab r) [] 0) [.blk 0,.seq (pt 15 Tryz.f243)]))):=by
 intro qq
 induction qq with
 |zero=>
  exact fun h=>nn h
 |succ qq ih=>
  intro p0 v7 r h
  rw[jH]at h
  obtain⟨h1,h⟩|⟨h1,h⟩:=spl h
  obtain⟨x2,h3,h⟩:=zC h
  obtain⟨r4,h5,h⟩:=zC h
  have k:=oA 0 (xB (o:=.no) h3)<|oB 0 h1 o0
  obtain⟨h6,h⟩|⟨h6,h⟩:=spl h
  exact fun j=>lH 2 [] [] [] [5,6,7] (oD (dT p0)<|oK 3 [] h6 (c52 h5) k) (ih h)
  cases h
  exact fun j=>lF 1 [] (oK 3 [] h6 (c52 h5) k)
  cases h
  exact fun j=>lF 0 [] (oB 0 h1 o0)
theorem zJU{qq p0 r}(h:zFW qq p0=some r):Ct 243 [] [slv zG p0 .no] (ab r) [] 0:=⟨by
 unfold zFW at h
 exact tH ⟨Tryz.func243,rfl⟩ 1 [] [] [] [5,6,7] (oD (dT p0) o0) (zQs _ h),⟨⟨tv,dT _⟩,tv⟩,zB,tv,zB⟩
def zNr(qq:Nat)(q0_e:Int)(p1:List Tm)(p2:Int):Option (List Tm×Int):=
 if q0_e==0 then
 some (p1,p2)
 else
 some (p1,q0_e)
theorem zVh:Qf 260 Tryz.f260:=⟨Tryz.func260,rfl⟩
theorem zXz{qq q0_e p1 p2 r}(h:zNr qq q0_e p1 p2=some r):Ct 260 [.cells [ai q0_e]] [.mp 0 0,slv zG p1 .no,ai p2] (.sl (zK zG r.1) r.1.length .no) [.cells [ai r.2]] 0:=⟨by
 unfold zNr at h
 obtain⟨h1,h⟩|⟨h1,h⟩:=spl h
 cases h
 exact tF zVh 1 [0] (oD (dT p1)<|oB 1 h1 o0)
 cases h
 exact tF zVh 0 [0] (oD (dT p1)<|oB 1 h1 o0),⟨(lz rfl),⟨tv,dT _⟩,tv,tv⟩,(zA ⟨tv,tv⟩ zB),dT _,(zA ⟨tv,tv⟩ zB)⟩
def zJV(qq:Nat)(q0_e:Int)(p1:List Tm)(p2:Int):Option (List Tm×Int):=
 zFU qq p1 p2 0>>=fun r1=>
 zNr qq q0_e r1.1 r1.2>>=fun r3=>
 some (r3.1,r3.2)
theorem zVg{qq q0_e p1 p2 r}(h:zJV qq q0_e p1 p2=some r):Ct 253 [.cells [ai q0_e]] [.mp 0 0,slv zG p1 .no,ai p2] (.sl (zK zG r.1) r.1.length .no) [.cells [ai r.2]] 0:=⟨by
 unfold zJV at h
 obtain⟨r1,h2,h⟩:=zC h
 obtain⟨r3,h4,h⟩:=zC h
 cases h
 exact tF ⟨Tryz.func253,rfl⟩ 0 [0] (oD (dT r3.1)<|oC 2 [0] (zXz h4)<|oC 0 [] (zSS h2) o0),⟨(lz rfl),⟨tv,dT _⟩,tv,tv⟩,(zA ⟨tv,tv⟩ zB),dT _,(zA ⟨tv,tv⟩ zB)⟩
def zFX(qq:Nat)(q0_e:Int)(p1:Tm)(p2:Int):Option (Tm×Int):=
 if q0_e==0 then
 some (p1,p2)
 else
 some (p1,q0_e)
theorem zVf:Qf 256 Tryz.f256:=⟨Tryz.func256,rfl⟩
theorem zSW{qq q0_e p1 p2 r}(h:zFX qq q0_e p1 p2=some r):Ct 256 [.cells [ai q0_e]] [.mp 0 0,tmA p1,ai p2] (tmA r.1) [.cells [ai r.2]] 0:=⟨by
 unfold zFX at h
 obtain⟨h1,h⟩|⟨h1,h⟩:=spl h
 cases h
 exact tF zVf 3 [0] (oD (dT p1.sub)<|oB 1 h1 o0)
 cases h
 exact tF zVf 2 [0] (oD (dT p1.sub)<|oB 1 h1 o0),⟨(lz rfl),⟨tv,tv,⟨tv,dT _⟩,tv⟩,tv,tv⟩,(zA ⟨tv,tv⟩ zB),⟨tv,tv,dT _,tv⟩,(zA ⟨tv,tv⟩ zB)⟩
def jI:Nat->Tm->(List Tm×Int)->Int->List Tm->Option (Tm×Int)
 |0,_,_,_,_=>none
 |qq+1,p1,r6,v12,v9=>
 if decide (v12≥0)then
 zS r6.1 v12>>=fun x9=>
 yN 40 v9 [x9]>>=fun l11=>
 jI qq p1 r6 (w64 (v12-1)) l11
 else
 eJ qq p1 v9>>=fun r13=>
 zFX qq r6.2 r13.1 r13.2>>=fun r15=>
 some (r15.1,r15.2)
def jJ:Nat->Int->Tm->Int->List Tm->Int->List Tm->Option (Tm×Int)
 |0,_,_,_,_,_,_=>none
 |qq+1,q0_e,p1,p2,p3,v14,v9=>
 if decide (v14<p2)then
 zAW qq v14>>=fun r2=>
 yN 40 v9 [r2]>>=fun l4=>
 jJ qq q0_e p1 p2 p3 (w64 (v14+1)) l4
 else
 zJV qq q0_e p3 p2>>=fun r6=>
 jI qq p1 r6 (w64 ((r6.1.length:Int)-1)) v9
def zJW(qq:Nat)(q0_e:Int)(p1:Tm)(p2:Int)(p3:List Tm):Option (Tm×Int):=
 jJ qq q0_e p1 p2 p3 0 []
theorem zQr:∀qq:Nat,(∀ {p1 r6 v12 v9 r},jI qq p1 r6 v12 v9=some r->(∀j,dL 1 (pt 65461 Tryz.f254) (sp j 48 0 [(0,.mp 0 0),(5,.mp 1 0),(8,.mp 2 0),(9,slv zG v9 (.st 0 3)),(11,slv zG r6.1 .no),(12,ai v12)]) (⟨[(0,.cells [ai r6.2]),(1,.cells [ai p1.k,ai p1.n,slv zG p1.sub .no]),(2,.cells [ai 0,ai 0,slv zG ([]:List Tm) .nl])],3,[0],1,[]⟩) (fQ 1 (nQ 1 Tryz.f254 (tmA r.1) [.cells [ai r.2]] 0) [.blk 2,.seq (pt 1023 Tryz.f254)]))):=by
 intro qq
 induction qq with
 |zero=>
  exact fun h=>nn h
 |succ qq ih=>
  intro p1 r6 v12 v9 r h
  rw[jI]at h
  obtain⟨h8,h⟩|⟨h8,h⟩:=spl h
  obtain⟨x9,h10,h⟩:=zC h
  obtain⟨l11,h12,h⟩:=zC h
  exact fun j=>lH 1 [] [0,1,2] [1] [0,5,8,9,11,12] (oD (dT r6.1)<|oD (dT l11)<|oD (dT ([]:List Tm))<|oD (dT p1.sub)<|oP 0 (vD h12 (by simp))<|oS 1 (xI xN [x9])<|oA 0 (xB (o:=.no) h10)<|oB 0 h8 o0) (ih h)
  obtain⟨r13,h14,h⟩:=zC h
  obtain⟨r15,h16,h⟩:=zC h
  cases h
  exact fun j=>lF 1 [0] (oD (dT r15.1.sub)<|oC 2 [0] (zSW h16)<|oC 1 [] (L6 h14)<|oB 0 h8 o0)
theorem zQq:∀qq:Nat,(∀ {q0_e p1 p2 p3 v14 v9 r},jJ qq q0_e p1 p2 p3 v14 v9=some r->(∀j,dL 1 (pt 4021 Tryz.f254) (sp j 48 0 [(0,.mp 0 0),(2,ai p2),(3,slv zG p3 .no),(5,.mp 1 0),(8,.mp 2 0),(9,slv zG v9 (.st 0 3)),(13,ai p2),(14,ai v14)]) (⟨[(0,.cells [ai q0_e]),(1,.cells [ai p1.k,ai p1.n,slv zG p1.sub .no]),(2,.cells [ai 0,ai 0,slv zG ([]:List Tm) .nl])],3,[0],1,[]⟩) (fQ 1 (nQ 1 Tryz.f254 (tmA r.1) [.cells [ai r.2]] 0) [.blk 0,.seq (pt 63 Tryz.f254)]))):=by
 intro qq
 induction qq with
 |zero=>
  exact fun h=>nn h
 |succ qq ih=>
  intro q0_e p1 p2 p3 v14 v9 r h
  rw[jJ]at h
  obtain⟨h1,h⟩|⟨h1,h⟩:=spl h
  obtain⟨r2,h3,h⟩:=zC h
  obtain⟨l4,h5,h⟩:=zC h
  exact fun j=>lH 1 [] [0,1,2] [1] [0,2,3,5,8,9,13,14] (oD (dT l4)<|oD (dT p3)<|oD (dT ([]:List Tm))<|oD (dT p1.sub)<|oP 0 (vD h5 (by simp))<|oS 0 (xI xN [r2])<|oC 0 [] (zJm h3)<|oB 0 h1 o0) (ih h)
  obtain⟨r6,h7,h⟩:=zC h
  exact fun j=>lH 2 [] [0,1,2] [0] [0,5,8,9,11,12] (oD (dT r6.1)<|oD (dT v9)<|oD (dT ([]:List Tm))<|oD (dT p1.sub)<|oC 0 [0] (zVg h7)<|oB 0 h1 o0) (zQr _ h)
theorem zVe{qq q0_e p1 p2 p3 r}(h:zJW qq q0_e p1 p2 p3=some r):Ct 254 [.cells [ai q0_e]] [.mp 0 0,tmA p1,ai p2,slv zG p3 .no] (tmA r.1) [.cells [ai r.2]] 0:=⟨by
 unfold zJW at h
 exact tH ⟨Tryz.func254,rfl⟩ 0 [(none,9,3)] [0,1,2] [0] [0,2,3,5,8,9,13,14] (oD (dT ([]:List Tm))<|oD (dT p3)<|oD (dT ([]:List Tm))<|oD (dT p1.sub) o0) (zQq _ h),⟨(lz rfl),⟨tv,tv,⟨tv,dT _⟩,tv⟩,tv,⟨tv,dT _⟩,tv⟩,(zA ⟨tv,tv⟩ zB),⟨tv,tv,dT _,tv⟩,(zA ⟨tv,tv⟩ zB)⟩
def zNq(qq:Nat)(q0_e:Int)(p1:Tm)(p2:Int):Option (Tm×Int):=
 zDv qq p1 p2>>=fun r1=>
 zFX qq q0_e r1.1 r1.2>>=fun r3=>
 some (r3.1,r3.2)
theorem zXy{qq q0_e p1 p2 r}(h:zNq qq q0_e p1 p2=some r):Ct 255 [.cells [ai q0_e]] [.mp 0 0,tmA p1,ai p2] (tmA r.1) [.cells [ai r.2]] 0:=⟨by
 unfold zNq at h
 obtain⟨r1,h2,h⟩:=zC h
 obtain⟨r3,h4,h⟩:=zC h
 cases h
 exact tF ⟨Tryz.func255,rfl⟩ 1 [0] (oD (dT r3.1.sub)<|oC 2 [0] (zSW h4)<|oC 1 [] (zPg h2) o0),⟨(lz rfl),⟨tv,tv,⟨tv,dT _⟩,tv⟩,tv,tv⟩,(zA ⟨tv,tv⟩ zB),⟨tv,tv,dT _,tv⟩,(zA ⟨tv,tv⟩ zB)⟩
def zSX(qq:Nat)(p0 p1:Tm):Option Tm:=
 zAV qq 4 0 [p0,p1]>>=fun r1=>
 some r1
theorem zXx{qq p0 p1 r}(h:zSX qq p0 p1=some r):Ct 262 [] [tmA p0,tmA p1] (tmA r) [] 0:=⟨by
 unfold zSX at h
 obtain⟨r1,h2,h⟩:=zC h
 obtain rfl:=sj h
 exact tF ⟨Tryz.func262,rfl⟩ 1 [] (oD (dT r1.sub)<|oC 0 [] (zFB h2)<|oS 2 (xI xN [p0,p1]) o0),⟨⟨tv,tv,⟨tv,dT _⟩,tv⟩,⟨tv,tv,⟨tv,dT _⟩,tv⟩,tv⟩,zB,⟨tv,tv,dT _,tv⟩,zB⟩
def sE:Nat->List Tm->Int->Int->Int->List Tm->Option (Tm×Int)
 |0,_,_,_,_,_=>none
 |qq+1,p0,v32,yA,wO,wD=>
 if decide (v32<(p0.length:Int))then
 zS p0 (w64 ((w64 ((p0.length:Int)-1))-v32))>>=fun x12=>
 zSX qq x12 (Tm.mk yA wO wD)>>=fun r14=>
 sE qq p0 (w64 (v32+1)) r14.k r14.n r14.sub
 else
 e52 qq (Tm.mk yA wO wD)>>=fun r16=>
 if r16 then
 e53 qq (Tm.mk yA wO wD)>>=fun r19=>
 some (r19,0)
 else
 some ((Tm.mk 0 0 []),2)
def sF:Nat->List Tm->Tm->Int->Option (Tm×Int)
 |0,_,_,_=>none
 |qq+1,p0,p1,v17=>
 if decide (v17<(p0.length:Int))then
 zS p0 v17>>=fun x3=>
 e52 qq x3>>=fun r5=>
 if r5 then
 sF qq p0 p1 (w64 (v17+1))
 else
 some ((Tm.mk 0 0 []),5)
 else
 e52 qq p1>>=fun r8=>
 if r8 then
 sE qq p0 0 p1.k p1.n p1.sub
 else
 some ((Tm.mk 0 0 []),5)
def aZ(qq:Nat)(p0:List Tm)(p1:Tm):Option (Tm×Int):=
 if decide ((p0.length:Int)>24)then
 some ((Tm.mk 0 0 []),2)
 else
 sF qq p0 p1 0
theorem zDc:Qf 261 Tryz.f261:=⟨Tryz.func261,rfl⟩
theorem zDb:∀qq:Nat,(∀ {p0 v32 yA wO wD r},sE qq p0 v32 yA wO wD=some r->(∀j,dL 0 (pt 65461 Tryz.f261) (sp j 53 0 [(0,slv zG p0 .no),(2,.clo 262 [] []),(4,.mp 0 0),(6,.mp 1 0),(31,ai (p0.length:Int)),(32,ai v32)]) (⟨[(0,.cells [ai yA,ai wO,slv zG wD .no]),(1,.cells [ai 0,ai 0,slv zG ([]:List Tm) .nl])],2,[],0,[]⟩) (fQ 0 (nQ 0 Tryz.f261 (.tup [tmA r.1,ai r.2]) [] 0) [.blk 2,.seq (pt 1023 Tryz.f261)]))):=by
 intro qq
 induction qq with
 |zero=>
  exact fun h=>nn h
 |succ qq ih=>
  intro p0 v32 yA wO wD r h
  rw[sE]at h
  obtain⟨h11,h⟩|⟨h11,h⟩:=spl h
  obtain⟨x12,h13,h⟩:=zC h
  obtain⟨r14,h15,h⟩:=zC h
  exact fun j=>lH 2 [] [0,1] [] [0,2,4,6,31,32] (oD (dT p0)<|oD (dT ([]:List Tm))<|oD (dT r14.sub)<|oC 2 [] (zXx h15)<|oA 3 (xB (o:=.no) h13)<|oB 0 h11 o0) (ih h)
  obtain⟨r16,h17,h⟩:=zC h
  have k:=oB 0 h11 o0
  obtain⟨h18,h⟩|⟨h18,h⟩:=spl h
  obtain⟨r19,h20,h⟩:=zC h
  cases h
  exact fun j=>lF 1 [] (oD (dT r19.sub)<|oC 2 [] (c53 h20)<|oK 1 [] h18 (c52 h17) k)
  cases h
  exact fun j=>lF 2 [] (oD (dT ([]:List Tm))<|oK 1 [] h18 (c52 h17) k)
theorem zDa:∀qq:Nat,(∀ {p0 p1 v17 r},sF qq p0 p1 v17=some r->(∀j,dL 0 (pt 4021 Tryz.f261) (sp j 53 0 [(0,slv zG p0 .no),(2,.clo 262 [] []),(4,.mp 0 0),(6,.mp 1 0),(15,slv zG p0 .no),(16,ai (p0.length:Int)),(17,ai v17)]) (⟨[(0,.cells [ai p1.k,ai p1.n,slv zG p1.sub .no]),(1,.cells [ai 0,ai 0,slv zG ([]:List Tm) .nl])],2,[],0,[]⟩) (fQ 0 (nQ 0 Tryz.f261 (.tup [tmA r.1,ai r.2]) [] 0) [.blk 0,.seq (pt 63 Tryz.f261)]))):=by
 intro qq
 induction qq with
 |zero=>
  exact fun h=>nn h
 |succ qq ih=>
  intro p0 p1 v17 r h
  rw[sF]at h
  have z {os ob} (k:Oz os ob):=oD (dT p0)<|oD (dT ([]:List Tm))<|oD (dT p1.sub)<|k
  obtain⟨h2,h⟩|⟨h2,h⟩:=spl h
  obtain⟨x3,h4,h⟩:=zC h
  obtain⟨r5,h6,h⟩:=zC h
  have k:=oA 0 (xB (o:=.no) h4)<|oB 0 h2 o0
  obtain⟨h7,h⟩|⟨h7,h⟩:=spl h
  exact fun j=>lH 2 [] [0,1] [] [0,2,4,6,15,16,17] (oD (dT p0)<|z<|oK 3 [] h7 (c52 h6) k) (ih h)
  cases h
  exact fun j=>lF 2 [] (oD (dT ([]:List Tm))<|oK 3 [] h7 (c52 h6) k)
  obtain⟨r8,h9,h⟩:=zC h
  have k:=oB 0 h2 o0
  obtain⟨h10,h⟩|⟨h10,h⟩:=spl h
  exact fun j=>lH 2 [] [0,1] [] [0,2,4,6,31,32] (z<|oK 1 [] h10 (c52 h9) k) (zDb _ h)
  cases h
  exact fun j=>lF 2 [] (oD (dT ([]:List Tm))<|oK 1 [] h10 (c52 h9) k)
theorem zNp{qq p0 p1 r}(h:aZ qq p0 p1=some r):Ct 261 [] [slv zG p0 .no,tmA p1,.clo 262 [] []] (.tup [tmA r.1,ai r.2]) [] 0:=⟨by
 unfold aZ at h
 obtain⟨h1,h⟩|⟨h1,h⟩:=spl h
 cases h
 exact tF zDc 1 [] (oD (dT ([]:List Tm))<|oB 1 h1 o0)
 exact tH zDc 1 [] [0,1] [] [0,2,4,6,15,16,17] (oD (dT p0)<|oD (dT p0)<|oD (dT ([]:List Tm))<|oD (dT p1.sub)<|oB 1 h1 o0) (zDa _ h),⟨⟨tv,dT _⟩,⟨tv,tv,⟨tv,dT _⟩,tv⟩,⟨tv,tv⟩,tv⟩,zB,⟨⟨tv,tv,dT _,tv⟩,tv,tv⟩,zB⟩
def zNo(qq:Nat)(p0:List Tm)(p1:Tm):Option (Tm×Int):=
 aZ qq p0 p1>>=fun r1=>
 some (r1.1,r1.2)
theorem zXw{qq p0 p1 r}(h:zNo qq p0 p1=some r):Ct 257 [] [slv zG p0 .no,tmA p1] (.tup [tmA r.1,ai r.2]) [] 0:=⟨by
 unfold zNo at h
 obtain⟨r1,h2,h⟩:=zC h
 cases h
 exact tF ⟨Tryz.func257,rfl⟩ 3 [] (oD (dT r1.1.sub)<|oC 1 [] (zNp h2) o0),⟨⟨tv,dT _⟩,⟨tv,tv,⟨tv,dT _⟩,tv⟩,tv⟩,zB,⟨⟨tv,tv,dT _,tv⟩,tv,tv⟩,zB⟩
def jK:Nat->List Tm->List Tm->Int->List Tm->Int->Option (List Tm×Int)
 |0,_,_,_,_,_=>none
 |qq+1,p1,p2,v12,v7,yA=>
 if decide (v12<(p1.length:Int))then
 zS p1 v12>>=fun x2=>
 zJW qq yA x2 v12 p2>>=fun r4=>
 yN 40 v7 [r4.1]>>=fun l6=>
 jK qq p1 p2 (w64 (v12+1)) l6 r4.2
 else
 some (v7,yA)
def zNn(qq:Nat)(q0_e:Int)(p1 p2:List Tm):Option (List Tm×Int):=
 jK qq p1 p2 0 [] q0_e
theorem zQp:∀qq:Nat,(∀ {p1 p2 v12 v7 yA r},jK qq p1 p2 v12 v7 yA=some r->(∀j,dL 1 (pt 4021 Tryz.f258) (sp j 27 0 [(0,.mp 0 0),(2,slv zG p2 .no),(7,slv zG v7 (.st 0 3)),(10,slv zG p1 .no),(11,ai (p1.length:Int)),(12,ai v12)]) (⟨[(0,.cells [ai yA])],1,[0],1,[]⟩) (fQ 1 (nQ 1 Tryz.f258 (.sl (zK zG r.1) r.1.length .no) [.cells [ai r.2]] 0) [.blk 0,.seq (pt 63 Tryz.f258)]))):=by
 intro qq
 induction qq with
 |zero=>
  exact fun h=>nn h
 |succ qq ih=>
  intro p1 p2 v12 v7 yA r h
  rw[jK]at h
  obtain⟨h1,h⟩|⟨h1,h⟩:=spl h
  obtain⟨x2,h3,h⟩:=zC h
  obtain⟨r4,h5,h⟩:=zC h
  obtain⟨l6,h7,h⟩:=zC h
  exact fun j=>lH 1 [] [0] [1] [0,2,7,10,11,12] (oD (dT p1)<|oD (dT l6)<|oD (dT p2)<|oP 0 (vD h7 (by simp))<|oS 0 (xI xN [r4.1])<|oC 3 [0] (zVe h5)<|oA 0 (xB (o:=.no) h3)<|oB 0 h1 o0) (ih h)
  cases h
  exact fun j=>lF 0 [0] (oD (dT v7)<|oB 0 h1 o0)
theorem zXv{qq q0_e p1 p2 r}(h:zNn qq q0_e p1 p2=some r):Ct 258 [.cells [ai q0_e]] [.mp 0 0,slv zG p1 .no,slv zG p2 .no] (.sl (zK zG r.1) r.1.length .no) [.cells [ai r.2]] 0:=⟨by
 unfold zNn at h
 exact tH ⟨Tryz.func258,rfl⟩ 1 [(none,7,3)] [0] [0] [0,2,7,10,11,12] (oD (dT p1)<|oD (dT ([]:List Tm))<|oD (dT p2) o0) (zQp _ h),⟨(lz rfl),⟨tv,dT _⟩,⟨tv,dT _⟩,tv⟩,(zA ⟨tv,tv⟩ zB),dT _,(zA ⟨tv,tv⟩ zB)⟩
def jL:Nat->List Tm->tL->Tm->Int->Int->Int->Int->List Tm->Option (Tm×Int)
 |0,_,_,_,_,_,_,_,_=>none
 |qq+1,p3,p4,p5,v29,yA,wW,i4,xQ=>
 if decide (v29<(p4.at'.length:Int))then
 zS p4.at' v29>>=fun x6=>
 zJW qq yA x6 (p4.around.length:Int) p3>>=fun r8=>
 S7 qq (Tm.mk wW i4 xQ) r8.1>>=fun r10=>
 jL qq p3 p4 p5 (w64 (v29+1)) r8.2 r10.k r10.n r10.sub
 else
 zNq qq yA p5 (p4.around.length:Int)>>=fun r12=>
 zDd qq (p4.around.length:Int)>>=fun r14=>
 gC qq r12.1 r14>>=fun r16=>
 S7 qq (Tm.mk wW i4 xQ) r16>>=fun r18=>
 zNn qq r12.2 p4.around p3>>=fun r20=>
 zNo qq r20.1 r18>>=fun r22=>
 zFX qq r20.2 r22.1 r22.2>>=fun r24=>
 some (r24.1,r24.2)
def zNm(qq:Nat)(q0_e:Int)(p1:Tm)(p2 p3:List Tm)(p4:tL)(p5:Tm):Option (Tm×Int):=
 zJV qq q0_e p2 (p4.around.length:Int)>>=fun r1=>
 gC qq p1 r1.1>>=fun r3=>
 jL qq p3 p4 p5 0 r1.2 r3.k r3.n r3.sub
theorem zQo:∀qq:Nat,(∀ {p3 p4 p5 v29 yA wW i4 xQ r},jL qq p3 p4 p5 v29 yA wW i4 xQ=some r->(∀j,dL 1 (pt 16309 Tryz.f244) (sp j 61 0 [(0,.mp 0 0),(3,slv zG p3 .no),(10,.mp 1 0),(11,.mp 2 0),(12,.mp 3 0),(13,ai (p4.around.length:Int)),(14,.mp 4 0),(27,slv zG p4.at' .no),(28,ai (p4.at'.length:Int)),(29,ai v29)]) (⟨[(0,.cells [ai yA]),(1,.cells [ab p4.is,slv zG p4.around .no,slv zG p4.at' .no]),(2,.cells [ai p5.k,ai p5.n,slv zG p5.sub .no]),(3,.cells [ai 0,ai 0,slv zG ([]:List Tm) .nl]),(4,.cells [ai wW,ai i4,slv zG xQ .no])],5,[],0,[]⟩) (fQ 1 (nQ 1 Tryz.f244 (tmA r.1) [.cells [ai r.2]] 0) [.blk 0,.seq (pt 255 Tryz.f244)]))):=by
 intro qq
 induction qq with
 |zero=>
  exact fun h=>nn h
 |succ qq ih=>
  intro p3 p4 p5 v29 yA wW i4 xQ r h
  rw[jL]at h
  obtain⟨h5,h⟩|⟨h5,h⟩:=spl h
  obtain⟨x6,h7,h⟩:=zC h
  obtain⟨r8,h9,h⟩:=zC h
  obtain⟨r10,h11,h⟩:=zC h
  exact fun j=>lH 2 [] [0,1,2,3,4] [] [0,3,10,11,12,13,14,27,28,29] (oD (dT p4.at')<|oD (dT p3)<|oD (dT r10.sub)<|oD (dT ([]:List Tm))<|oD (dT p5.sub)<|oD (dT p4.at')<|oD (dT p4.around)<|oC 0 [] (w5 h11)<|oC 4 [0] (zVe h9)<|oA 0 (xB (o:=.no) h7)<|oB 0 h5 o0) (ih h)
  obtain⟨r12,h13,h⟩:=zC h
  obtain⟨r14,h15,h⟩:=zC h
  obtain⟨r16,h17,h⟩:=zC h
  obtain⟨r18,h19,h⟩:=zC h
  obtain⟨r20,h21,h⟩:=zC h
  obtain⟨r22,h23,h⟩:=zC h
  obtain⟨r24,h25,h⟩:=zC h
  cases h
  exact fun j=>lF 1 [0] (oD (dT r24.1.sub)<|oC 2 [0] (zSW h25)<|oC 1 [] (zXw h23)<|oC 2 [0] (zXv h21)<|oC 0 [] (w5 h19)<|oC 0 [] (L5 h17)<|oC 0 [] (zSU h15)<|oC 2 [0] (zXy h13)<|oB 0 h5 o0)
theorem zQn{qq q0_e p1 p2 p3 p4 p5 r}(h:zNm qq q0_e p1 p2 p3 p4 p5=some r):Ct 244 [.cells [ai q0_e]] [.mp 0 0,tmA p1,slv zG p2 .no,slv zG p3 .no,zUn p4,tmA p5] (tmA r.1) [.cells [ai r.2]] 0:=⟨by
 unfold zNm at h
 obtain⟨r1,h2,h⟩:=zC h
 obtain⟨r3,h4,h⟩:=zC h
 exact tH ⟨Tryz.func244,rfl⟩ 3 [] [0,2,3,4,5] [] [0,3,10,11,12,13,14,27,28,29] (oD (dT p4.at')<|oD (dT p3)<|oD (dT r3.sub)<|oD (dT ([]:List Tm))<|oD (dT p5.sub)<|oD (dT p4.at')<|oD (dT p4.around)<|oC 0 [] (L5 h4)<|oC 3 [0] (zVg h2) o0) (zQo _ h),⟨(lz rfl),⟨tv,tv,⟨tv,dT _⟩,tv⟩,⟨tv,dT _⟩,⟨tv,dT _⟩,⟨tv,⟨tv,dT _⟩,⟨tv,dT _⟩,tv⟩,⟨tv,tv,⟨tv,dT _⟩,tv⟩,tv⟩,(zA ⟨tv,tv⟩ zB),⟨tv,tv,dT _,tv⟩,(zA ⟨tv,tv⟩ zB)⟩
def zNl(qq:Nat)(q0_e:Int)(p1:Tm):Option (Tm×Int×Int):=
 if q0_e==0 then
 e52 qq p1>>=fun r2=>
 if r2 then
 if q0_e != 0 then
 some ((Tm.mk 0 0 []),q0_e,q0_e)
 else
 some (p1,0,q0_e)
 else
 some ((Tm.mk 0 0 []),2,2)
 else
 if q0_e != 0 then
 some ((Tm.mk 0 0 []),q0_e,q0_e)
 else
 some (p1,0,q0_e)
theorem zNk:Qf 246 Tryz.f246:=⟨Tryz.func246,rfl⟩
theorem zXu{qq q0_e p1 r}(h:zNl qq q0_e p1=some r):Ct 246 [.cells [ai q0_e]] [.mp 0 0,tmA p1] (.tup [tmA r.1,ai r.2.1]) [.cells [ai r.2.2]] 0:=⟨by
 unfold zNl at h
 obtain⟨h1,h⟩|⟨h1,h⟩:=spl h
 obtain⟨r2,h3,h⟩:=zC h
 have k:=oB 1 h1 o0
 obtain⟨h4,h⟩|⟨h4,h⟩:=spl h
 have k:=oK 1 [] h4 (c52 h3) k
 obtain⟨h5,h⟩|⟨h5,h⟩:=spl h
 cases h
 exact tF zNk 2 [0] (oD (dT ([]:List Tm))<|oB 2 h5 k)
 cases h
 exact tF zNk 2 [0] (oD (dT p1.sub)<|oB 2 h5 k)
 cases h
 exact tF zNk 6 [0] (oD (dT ([]:List Tm))<|oK 1 [] h4 (c52 h3) k)
 have k:=oB 1 h1 o0
 obtain⟨h6,h⟩|⟨h6,h⟩:=spl h
 cases h
 exact tF zNk 2 [0] (oD (dT ([]:List Tm))<|oB 1 h6 k)
 cases h
 exact tF zNk 2 [0] (oD (dT p1.sub)<|oB 1 h6 k),⟨(lz rfl),⟨tv,tv,⟨tv,dT _⟩,tv⟩,tv⟩,(zA ⟨tv,tv⟩ zB),⟨⟨tv,tv,dT _,tv⟩,tv,tv⟩,(zA ⟨tv,tv⟩ zB)⟩
def OkA(l:List Tm):Prop:=∀x∈l,x.Ok
theorem OkA.nil:OkA []:=fun _ h=>nomatch h
theorem OkA.app{l m:List Tm}(h:OkA l)(k:OkA m):OkA (l++m):=fun x hx=>(List.mem_append.1 hx).elim (h x) (k x)
theorem OkA.one{t:Tm}(h:t.Ok):OkA [t]:=fun x hx=>by
 rw[List.mem_singleton.1 hx];exact h
theorem OkA.drop{l:List Tm}(h:OkA l)(n:Nat):OkA (l.drop n):=fun x hx=>h x (List.mem_of_mem_drop hx)
theorem OkA.take{l:List Tm}(h:OkA l)(n:Nat):OkA (l.take n):=fun x hx=>h x (List.mem_of_mem_take hx)
theorem OkA.at{l r:List Tm}{v:Nat}{x:Tm}(h:OkA l)(hd:l.drop v=x::r):x.Ok:=h x (by
 have:x∈l.drop v:=by rw[hd];simp
 exact List.mem_of_mem_drop this)
theorem zSY{k n:Int}{a:Tm}(h:a.Ok):(Tm.mk k n [a]).Ok:=by
 rw[Tm.Ok,OkL,OkL];exact⟨by simp,h,trivial⟩
theorem gI{k n:Int}{a b:Tm}(h:a.Ok)(i:b.Ok):(Tm.mk k n [a,b]).Ok:=by
 rw[Tm.Ok,OkL,OkL,OkL];exact⟨by simp,h,i,trivial⟩
theorem N7{α:Type}{l:List α}{a b:Int}(h0:0≤a)(h1:a≤b)(h2:b≤l.length):gsl l a b=some ((l.drop a.toNat).take (b-a).toNat):=by
 unfold gsl;rw[if_pos ⟨h0,h1,h2⟩]
def MT(e:Int)(v:Tm)(x:Tm×Int):Prop:=x.1.Ok∧(e≠8->x.2≠8)∧(x.2=0->e=0∧x.1=v)
def ML(e:Int)(v:List Tm)(x:List Tm×Int):Prop:=OkA x.1∧(e≠8->x.2≠8)∧(x.2=0->e=0∧x.1=v)
def upI(k:Int)(l:List Tm):List Tm:=l.map fun t=>lfT t 0 0 k
theorem i5(p1 p2:Int):∀(r l acc:List Tm) (v:Nat),l.drop v=r->l.length≤1073741824->OkA l->OkA acc->acc.length+r.length≤l.length->Tot (fun q=>jF q l p1 p2 (v:Int) acc) (fun x=>ML 0 (acc++r.map fun t=>lfT t 0 p2 p1) x∧x.1.length≤l.length)
 | [],l,acc,v,hd,hl,ho,ha,hv=>by
  refine Tot.succ ?_
  simp only[jF]
  refine Tot.ite (fun h=>?_) fun _=>Tot.ret ⟨⟨ha,by simp,by simp⟩,by simpa using hv⟩
  rw[zZ hd]at h;cases h
 |t::r,l,acc,v,hd,hl,ho,ha,hv=>by
  have hlt:=yC hd
  refine Tot.succ ?_
  simp only[jF]
  refine Tot.ite (fun _=>?_) fun h=>?_
  ·refine Tot.pure (zX hd) (Tot.bind (P:=fun r=>r=vU t p1 p2) ((zHh t p1 p2 (ho.at hd)).tot rfl) fun r4 h4=>?_)
   subst h4
   refine Tot.ite (fun h=>?_) fun h=>?_
   ·have hne:(vU t p1 p2).2≠0:=by simpa using h
    exact Tot.ret ⟨⟨OkA.nil,fun _=>U4 t p1 p2,fun h0=>absurd h0 hne⟩,by simp⟩
   ·have he:(vU t p1 p2).2=0:=by simpa using h
    rw[List.length_cons]at hv
    refine Tot.pure (yG (by simp<;>omega)) ?_
    rw[zW v (by omega)]
    refine(i5 p1 p2 r l _ (v+1) (zU hd) hl ho (ha.app (OkA.one (lK t p1 p2 (ho.at hd)))) (by simp<;>omega)).mono fun x hx=>?_
    rw[(gF he).2.2.2.2]at hx
    simpa using hx
  ·rw[zY hd]at h;cases h
theorem U7(l:List Tm)(p1 p2:Int)(hl:l.length≤1073741824)(ho:OkA l):Tot (fun q=>zFU q l p1 p2) (fun x=>ML 0 (l.map fun t=>lfT t 0 p2 p1) x∧x.1.length≤l.length):=by
 simp only[zFU]
 exact i5 p1 p2 l l [] 0 rfl hl ho OkA.nil (by simp)
theorem zBp(e:Int)(t:Tm)(p:Int):Tot (fun q=>zFX q e t p) (fun x=>x.1=t∧x.2=if e=0 then p else e):=by
 simp only[zFX]
 refine Tot.ite (fun h=>Tot.ret ⟨rfl,?_⟩) fun h=>Tot.ret ⟨rfl,?_⟩
 ·rw[if_pos (by simpa using h)]
 ·rw[if_neg (by simpa using h)]
theorem zQm(e:Int)(t:List Tm)(p:Int):Tot (fun q=>zNr q e t p) (fun x=>x.1=t∧x.2=if e=0 then p else e):=by
 simp only[zNr]
 refine Tot.ite (fun h=>Tot.ret ⟨rfl,?_⟩) fun h=>Tot.ret ⟨rfl,?_⟩
 ·rw[if_pos (by simpa using h)]
 ·rw[if_neg (by simpa using h)]
theorem zFY{e:Int}{v:Tm}{r x:Tm×Int}(hr:MT 0 v r)(hx:x.1=r.1∧x.2=if e=0 then r.2 else e):MT e v x:=by
 obtain⟨h1,h2⟩:=hx
 refine⟨by rw[h1];exact hr.1,?_,?_⟩
 ·intro he
  rw[h2]
  split
  ·exact hr.2.1 (by decide)
  ·exact he
 ·intro he
  rw[h2]at he
  by_cases h:e=0
  ·rw[if_pos h]at he
   exact⟨h,by rw[h1];exact(hr.2.2 he).2⟩
  ·rw[if_neg h]at he;exact absurd he h
theorem zSZ{e:Int}{v:List Tm}{r x:List Tm×Int}(hr:ML 0 v r)(hx:x.1=r.1∧x.2=if e=0 then r.2 else e):ML e v x:=by
 obtain⟨h1,h2⟩:=hx
 refine⟨by rw[h1];exact hr.1,?_,?_⟩
 ·intro he
  rw[h2]
  split
  ·exact hr.2.1 (by decide)
  ·exact he
 ·intro he
  rw[h2]at he
  by_cases h:e=0
  ·rw[if_pos h]at he
   exact⟨h,by rw[h1];exact(hr.2.2 he).2⟩
  ·rw[if_neg h]at he;exact absurd he h
theorem zHH(e:Int)(l:List Tm)(p:Int)(hl:l.length≤1073741824)(ho:OkA l):Tot (fun q=>zJV q e l p) (fun x=>ML e (upI p l) x∧x.1.length≤l.length):=by
 simp only[zJV]
 exact(U7 l p 0 hl ho).bind fun r h=>(zQm e r.1 r.2).bind fun r3 h3=>Tot.ret ⟨zSZ h.1 h3,by rw[h3.1];exact h.2⟩
theorem zQl(t:Tm)(k c:Int)(h:t.Ok):MT 0 (lfT t 0 c k) (vU t k c):=⟨lK t k c h,fun _=>U4 t k c,fun h=>⟨rfl,(gF h).2.2.2.2⟩⟩
theorem zTz(t:Tm)(ls:List Tm)(h:t.Ok)(ho:OkA ls):MT 0 (siT ls t 0) (gD t ls):=⟨N3 t ls h ho,fun _=>zHE t ls,fun h=>⟨rfl,(zBt h).2.2.2⟩⟩
theorem zTy(e:Int)(t:Tm)(p:Int)(h:t.Ok):Tot (fun q=>zNq q e t p) (MT e (lfT t 0 0 p)):=by
 simp only[zNq]
 exact Tot.bind (P:=fun r=>r=vU t p 0) ((zHg t p h).tot rfl) fun r hr=>(zBp e r.1 r.2).bind fun r3 h3=>Tot.ret (by subst hr;exact zFY (zQl t p 0 h) h3)
def lO:Nat->List Tm
 |0=>[]
 |m+1=>.mk 1 (m:Int) []::lO m
def vuT:Nat->Nat->List Tm
 |0,_=>[]
 |m+1,v=>.mk 1 (v:Int) []::vuT m (v+1)
theorem zHI:∀m,OkA (lO m)
 |0=>OkA.nil
 |m+1=>fun x hx=>by
  rcases List.mem_cons.1 hx with rfl|hx
  ·exact xK _ _
  ·exact zHI m x hx
theorem zDA:∀m,(lO m).length=m
 |0=>rfl
 |m+1=>congrArg (· + 1) (zDA m)
theorem A0:∀m v,(vuT m v).length=m
 |0,_=>rfl
 |m+1,v=>congrArg (· + 1) (A0 m (v+1))
theorem zDB:∀(m:Nat) (acc:List Tm),m+acc.length≤1048576->Evt (fun q=>jG q acc ((m:Int)-1)) (acc++lO m)
 |0,acc,hm=>by
  refine Evt.succ ?_
  simp only[jG]
  exact Evt.ifF (decide_eq_false (by omega)) (Evt.ret.eq (by simp[lO]))
 |m+1,acc,hm=>by
  refine Evt.succ ?_
  simp only[jG]
  refine Evt.ifT (decide_eq_true (by omega)) ((E6 _).bind (Evt.pure (yG (by simp<;>omega)) ?_))
  rw[yJ (by omega) (by omega),show ((m+1:Nat):Int)-1-1=(m:Int)-1 by omega]
  refine(zDB m _ (by simp<;>omega)).eq ?_
  rw[lO,show ((m+1:Nat):Int)-1=(m:Int) by omega];simp
theorem zHJ(n:Nat)(hn:n≤1048576):Evt (fun q=>zDd q (n:Int)) (lO n):=by
 simp only[zDd]
 refine Evt.ifF (decide_eq_false (by omega)) (Evt.ifF (decide_eq_false (by omega)) ?_)
 rw[yJ (by omega) (by omega)]
 exact(zDB n [] (by simpa using hn)).eq (by simp)
def zDC(t:Tm)(own:Nat)(outer:List Tm):Tm:=siT (vuT own 0++(upI own outer).reverse) t 0
def lP(outer:List Tm):List Tm->Nat->List Tm
 | [],_=>[]
 |t::r,v=>zDC t v outer::lP outer r (v+1)
theorem zDD(p1:Tm)(r6:List Tm×Int)(h1:p1.Ok)(h6:OkA r6.1):∀(m:Nat) (acc:List Tm),m≤r6.1.length->m+acc.length≤4294967296->OkA acc->Tot (fun q=>jI q p1 r6 ((m:Int)-1) acc) (MT r6.2 (siT (acc++(r6.1.take m).reverse) p1 0))
 |0,acc,hm,hl,ho=>by
  refine Tot.succ ?_
  simp only[jI]
  refine Tot.ite (fun h=>?_) fun _=>?_
  ·have:=of_decide_eq_true h
   omega
  ·refine Tot.bind (P:=fun r=>r=gD p1 acc) ((N2 p1 acc h1 ho (by omega)).tot rfl) fun r h=>(zBp _ r.1 r.2).bind fun x hx=>Tot.ret ?_
   subst h
   have:=zFY (zTz p1 acc h1 ho) hx
   simpa using this
 |m+1,acc,hm,hl,ho=>by
  refine Tot.succ ?_
  simp only[jI]
  refine Tot.ite (fun _=>?_) fun h=>?_
  ·have hlt:m<r6.1.length:=by omega
   have hx:zS r6.1 (((m+1:Nat):Int)-1)=some r6.1[m]:=by
    unfold zS
    rw[if_pos (by omega),show (((m+1:Nat):Int)-1).toNat=m by omega,List.getElem?_eq_getElem hlt]
   refine Tot.pure hx (Tot.pure (yG (by simp<;>omega)) ?_)
   rw[yJ (by omega) (by omega),show ((m+1:Nat):Int)-1-1=(m:Int)-1 by omega]
   refine(zDD p1 r6 h1 h6 m _ (by omega) (by simp<;>omega) (ho.app (OkA.one (h6 _ (List.getElem_mem hlt))))).mono fun x hx=>?_
   have e:r6.1.take (m+1)=r6.1.take m++[r6.1[m]]:=by rw[List.take_add_one,List.getElem?_eq_getElem hlt];rfl
   rw[e,List.reverse_append]
   simpa using hx
  ·have:=of_decide_eq_false h
   omega
theorem zNj(e:Int)(p1:Tm)(own:Nat)(p3:List Tm)(h1:p1.Ok)(h2:own≤1073741824)(h3:OkA p3)(hl:p3.length≤1073741824):∀(m v:Nat) (acc:List Tm),v+m=own->acc.length≤v->OkA acc->Tot (fun q=>jJ q e p1 (own:Int) p3 (v:Int) acc) (MT e (siT (acc++vuT m v++(upI own p3).reverse) p1 0)):=by
 intro m
 induction m with
 |zero=>
  intro v acc hm ha ho
  refine Tot.succ ?_
  simp only[jJ]
  refine Tot.ite (fun h=>?_) fun _=>(zHH e p3 own hl h3).bind fun r6 h6=>?_
  ·have:=of_decide_eq_true h
   omega
  ·rw[yJ (by omega) (by omega)]
   refine(zDD p1 r6 h1 h6.1.1 r6.1.length acc (Nat.le_refl _) (by omega) ho).mono fun x hx=>⟨hx.1,fun he=>hx.2.1 (h6.1.2.1 he),fun he=>?_⟩
   have k:=hx.2.2 he
   have k6:=h6.1.2.2 k.1
   refine⟨k6.1,?_⟩
   rw[k.2,List.take_length,k6.2,vuT];simp
 |succ m ih=>
  intro v acc hm ha ho
  refine Tot.succ ?_
  simp only[jJ]
  refine Tot.ite (fun _=>?_) fun h=>?_
  ·refine Tot.bind (P:=fun r=>r=Tm.mk 1 (v:Int) []) ((E6 v).tot rfl) fun r h=>Tot.pure (yG (by simp<;>omega)) ?_
   subst h
   rw[zW v (by omega)]
   refine(ih (v+1) _ (by omega) (by simp<;>omega) (ho.app (OkA.one (xK _ _)))).mono fun x hx=>?_
   rw[vuT]
   simpa using hx
  ·have:=of_decide_eq_false h
   omega
theorem K1(e:Int)(p1:Tm)(own:Nat)(p3:List Tm)(h1:p1.Ok)(h2:own≤1073741824)(h3:OkA p3)(hl:p3.length≤1073741824):Tot (fun q=>zJW q e p1 (own:Int) p3) (MT e (zDC p1 own p3)):=by
 simp only[zJW]
 exact zNj e p1 own p3 h1 h2 h3 hl own 0 [] (by omega) (by simp) OkA.nil
theorem dA(p2:List Tm)(h2:OkA p2)(hl2:p2.length≤1073741824):∀(r l acc:List Tm) (v:Nat) (e:Int),l.drop v=r->l.length≤1073741824->OkA l->OkA acc->acc.length≤v->Tot (fun q=>jK q l p2 (v:Int) acc e) (fun x=>OkA x.1∧x.1.length=acc.length+r.length∧(e≠8->x.2≠8)∧(x.2=0->e=0∧x.1=acc++lP p2 r v))
 | [],l,acc,v,e,hd,hl,ho,ha,hv=>by
  refine Tot.succ ?_
  simp only[jK]
  refine Tot.ite (fun h=>?_) fun _=>Tot.ret ⟨ha,by simp,id,fun h=>⟨h,by simp[lP]⟩⟩
  rw[zZ hd]at h;cases h
 |t::r,l,acc,v,e,hd,hl,ho,ha,hv=>by
  have hlt:=yC hd
  refine Tot.succ ?_
  simp only[jK]
  refine Tot.ite (fun _=>?_) fun h=>?_
  ·refine Tot.pure (zX hd) ((K1 e t v p2 (ho.at hd) (by omega) h2 hl2).bind fun r4 h4=>?_)
   refine Tot.pure (yG (by simp<;>omega)) ?_
   rw[zW v (by omega)]
   refine(dA p2 h2 hl2 r l _ (v+1) r4.2 (zU hd) hl ho (ha.app (OkA.one h4.1)) (by simp<;>omega)).mono fun x hx=>?_
   obtain⟨a1,a2,a3,a4⟩:=hx
   refine⟨a1,by rw[a2];simp<;>omega,fun he=>a3 (h4.2.1 he),fun he=>?_⟩
   have k:=a4 he
   have k4:=h4.2.2 k.1
   refine⟨k4.1,?_⟩
   rw[k.2,k4.2,lP];simp
  ·rw[zY hd]at h;cases h
theorem zBo(e:Int)(l p2:List Tm)(h2:OkA p2)(hl2:p2.length≤1073741824)(hl:l.length≤1073741824)(ho:OkA l):Tot (fun q=>zNn q e l p2) (fun x=>ML e (lP p2 l 0) x∧x.1.length=l.length):=by
 simp only[zNn]
 refine(dA p2 h2 hl2 l l [] 0 e rfl hl ho OkA.nil (by simp)).mono fun x hx=>?_
 obtain⟨a1,a2,a3,a4⟩:=hx
 exact⟨⟨a1,a3,fun he=>by simpa using a4 he⟩,by simpa using a2⟩
def U9(l:List Tm)(t:Tm):Tm:=l.foldr (fun a x=>.mk 4 0 [a,x]) t
theorem zNi(l:List Tm)(hl:l.length≤24)(ho:OkA l):∀(m v:Nat) (t:Tm),v+m=l.length->t.Ok->Tot (fun q=>sE q l (v:Int) t.k t.n t.sub) (MT 0 (U9 (l.take m) t)):=by
 intro m
 induction m with
 |zero=>
  intro v t hm ht
  refine Tot.succ ?_
  simp only[sE,sC]
  refine Tot.ite (fun h=>?_) fun _=>?_
  ·have:=of_decide_eq_true h
   omega
  ·refine Tot.bind (P:=fun b=>b=zL t) ((yO t ht).tot rfl) fun r hr=>Tot.ite (fun h=>?_) fun _=>Tot.ret ⟨xK 0 0,by simp,by simp⟩
   refine Tot.bind (P:=fun x=>x=nE t) ((sR t ht).tot rfl) fun x hx=>Tot.ret ?_
   subst hx
   have e:nE t=t:=by unfold nE;rw[if_pos (by rw[←hr];exact h)]
   rw[e]
   exact⟨ht,by simp,fun _=>⟨rfl,by simp[U9]⟩⟩
 |succ m ih=>
  intro v t hm ht
  refine Tot.succ ?_
  simp only[sE,sC]
  refine Tot.ite (fun _=>?_) fun h=>?_
  ·have hlt:m<l.length:=by omega
   rw[yJ (x:=(l.length:Int)-1) (by omega) (by omega),yJ (x:=(l.length:Int)-1-v) (by omega) (by omega)]
   have hx:zS l ((l.length:Int)-1-v)=some l[m]:=by
    unfold zS
    rw[if_pos (by omega),show ((l.length:Int)-1-v).toNat=m by omega,List.getElem?_eq_getElem hlt]
   refine Tot.pure hx (Tot.bind (P:=fun r=>r=Tm.mk 4 0 [l[m],t]) (Evt.tot (Evt.mk fun _=>rfl) rfl) fun r hr=>?_)
   subst hr
   rw[zW v (by omega)]
   refine(ih (v+1) _ (by omega) (gI (ho _ (List.getElem_mem hlt)) ht)).mono fun x hx=>?_
   have e:l.take (m+1)=l.take m++[l[m]]:=by rw[List.take_add_one,List.getElem?_eq_getElem hlt];rfl
   rw[e]
   unfold U9 at hx ⊢
   rw[List.foldr_append]
   exact hx
  ·have:=of_decide_eq_false h
   omega
theorem zHK(t:Tm)(ht:t.Ok):∀(r l:List Tm) (v:Nat),l.drop v=r->l.length≤24->OkA l->Tot (fun q=>sF q l t (v:Int)) (MT 0 (U9 l t))
 | [],l,v,hd,hl,ho=>by
  refine Tot.succ ?_
  simp only[sF]
  refine Tot.ite (fun h=>?_) fun _=>?_
  ·rw[zZ hd]at h;cases h
  ·refine Tot.bind (P:=fun _=>True) ((yO t ht).tot trivial) fun r _=>Tot.ite (fun _=>?_) fun _=>Tot.ret ⟨xK 0 0,by simp,by simp⟩
   have:=zNi l hl ho l.length 0 t (by omega) ht
   rwa[List.take_length]at this
 |x::r,l,v,hd,hl,ho=>by
  have hlt:=yC hd
  refine Tot.succ ?_
  simp only[sF]
  refine Tot.ite (fun _=>?_) fun h=>?_
  ·refine Tot.pure (zX hd) (Tot.bind (P:=fun _=>True) ((yO x (ho.at hd)).tot trivial) fun _ _=>Tot.ite (fun _=>?_) fun _=>Tot.ret ⟨xK 0 0,by simp,by simp⟩)
   rw[zW v (by omega)]
   exact zHK t ht r l (v+1) (zU hd) hl ho
  ·rw[zY hd]at h;cases h
theorem zNh(l:List Tm)(t:Tm)(ho:OkA l)(ht:t.Ok):Tot (fun q=>zNo q l t) (MT 0 (U9 l t)):=by
 simp only[zNo]
 refine Tot.bind (P:=MT 0 (U9 l t)) ?_ fun x hx=>Tot.ret hx
 simp only[aZ]
 refine Tot.ite (fun _=>Tot.ret ⟨xK 0 0,by simp,by simp⟩) fun h=>?_
 have:=of_decide_eq_false h
 exact zHK t ht l l 0 rfl (by omega) ho
def zDE(r:tL):Prop:=OkA r.around∧OkA r.at'∧r.around.length≤1048576∧r.at'.length≤1048576
def zQk(head:Tm)(args outer:List Tm)(r:tL)(a:Tm):Tm:=
 U9 (lP outer r.around 0) (.mk 5 0 [apT (apT head (upI r.around.length args)) (r.at'.map fun t=>zDC t r.around.length outer),apT (lfT a 0 0 r.around.length) (lO r.around.length)])
theorem zDF(p3:List Tm)(p4:tL)(p5:Tm)(h3:OkA p3)(hl3:p3.length≤1073741824)(h4:zDE p4)(h5:p5.Ok):∀(r:List Tm) (v:Nat) (e:Int) (t:Tm),p4.at'.drop v=r->t.Ok->Tot (fun q=>jL q p3 p4 p5 (v:Int) e t.k t.n t.sub)
  (MT e (U9 (lP p3 p4.around 0) (.mk 5 0 [apT t (r.map fun t=>zDC t p4.around.length p3),apT (lfT p5 0 0 p4.around.length) (lO p4.around.length)])))
 | [],v,e,t,hd,ht=>by
  refine Tot.succ ?_
  simp only[jL,sC]
  refine Tot.ite (fun h=>?_) fun _=>?_
  ·rw[zZ hd]at h;cases h
  ·have:=h4.2.2.1
   refine(zTy e p5 _ h5).bind fun r12 h12=>Tot.bind (P:=fun x=>x=lO p4.around.length) ((zHJ _ this).tot rfl) fun r14 h14=>?_
   subst h14
   refine Tot.bind (P:=fun x=>x=apT r12.1 (lO p4.around.length)) ((sY r12.1 _ (by rw[zDA];omega)).tot rfl) fun r16 h16=>?_
   subst h16
   refine Tot.bind (P:=fun x=>x=Tm.mk 5 0 [t,apT r12.1 (lO p4.around.length)]) ((E4 t _).tot rfl) fun r18 h18=>?_
   subst h18
   refine(zBo r12.2 p4.around p3 h3 hl3 (by omega) h4.1).bind fun r20 h20=>(zNh r20.1 _ h20.1.1 (gI ht (pN _ _ h12.1 (zHI _)))).bind fun r22 h22=>(zBp r20.2 r22.1 r22.2).bind fun r24 h24=>Tot.ret ?_
   have m:=zFY h22 h24
   refine⟨m.1,fun he=>m.2.1 (h20.1.2.1 (h12.2.1 he)),fun he=>?_⟩
   have k:=m.2.2 he
   have k20:=h20.1.2.2 k.1
   have k12:=h12.2.2 k20.1
   refine⟨k12.1,?_⟩
   rw[k.2,k20.2,k12.2];rfl
 |x::r,v,e,t,hd,ht=>by
  have hlt:=yC hd
  have:=h4.2.2.1
  have:=h4.2.2.2
  refine Tot.succ ?_
  simp only[jL,sC]
  refine Tot.ite (fun _=>?_) fun h=>?_
  ·refine Tot.pure (zX hd) ((K1 e x _ p3 (h4.2.1.at hd) (by omega) h3 hl3).bind fun r8 h8=>?_)
   refine Tot.bind (P:=fun x=>x=Tm.mk 5 0 [t,r8.1]) ((E4 t r8.1).tot rfl) fun r10 h10=>?_
   subst h10
   rw[zW v (by omega)]
   refine(zDF p3 p4 p5 h3 hl3 h4 h5 r (v+1) r8.2 (.mk 5 0 [t,r8.1]) (zU hd) (gI ht h8.1)).mono fun y hy=>⟨hy.1,fun he=>hy.2.1 (h8.2.1 he),fun he=>?_⟩
   have k:=hy.2.2 he
   have k8:=h8.2.2 k.1
   refine⟨k8.1,?_⟩
   rw[k.2,k8.2,List.map_cons,apT]
  ·rw[zY hd]at h;cases h
theorem V0(e:Int)(p1:Tm)(p2 p3:List Tm)(p4:tL)(p5:Tm)(h1:p1.Ok)(h2:OkA p2)(hl2:p2.length≤1073741824)(h3:OkA p3)(hl3:p3.length≤1073741824)(h4:zDE p4)(h5:p5.Ok):Tot (fun q=>zNm q e p1 p2 p3 p4 p5) (MT e (zQk p1 p2 p3 p4 p5)):=by
 simp only[zNm]
 refine(zHH e p2 _ hl2 h2).bind fun r1 hr1=>?_
 refine Tot.bind (P:=fun x=>x=apT p1 r1.1) ((sY p1 r1.1 (by omega)).tot rfl) fun r3 hr3=>?_
 subst hr3
 refine(zDF p3 p4 p5 h3 hl3 h4 h5 p4.at' 0 r1.2 (apT p1 r1.1) rfl (pN _ _ h1 hr1.1.1)).mono fun y hy=>⟨hy.1,fun he=>hy.2.1 (hr1.1.2.1 he),fun he=>?_⟩
 have k:=hy.2.2 he
 have k1:=hr1.1.2.2 k.1
 refine⟨k1.1,?_⟩
 rw[k.2,k1.2];rfl
theorem zNg(e:Int)(t:Tm)(h:t.Ok):Tot (fun q=>zNl q e t) (fun x=>x.1.Ok∧(e≠8->x.2.1≠8)∧(x.2.1=0->e=0∧x.1=t∧zL t=true)):=by
 simp only[zNl]
 refine Tot.ite (fun he=>?_) fun he=>?_
 ·have he':e=0:=by simpa using he
  refine Tot.bind (P:=fun b=>b=zL t) ((yO t h).tot rfl) fun b hb=>Tot.ite (fun hs=>?_) fun _=>Tot.ret ⟨xK 0 0,by simp,by simp⟩
  refine Tot.ite (fun h2=>absurd he' (by simpa using h2)) fun _=>Tot.ret ⟨h,by simp,fun _=>⟨he',rfl,by rw[←hb];exact hs⟩⟩
 ·have he':e≠0:=by simpa using he
  exact Tot.ite (fun _=>Tot.ret ⟨xK 0 0,id,fun h0=>absurd h0 he'⟩) fun h2=>absurd (by simpa using h2) he'
theorem zFZ(l:List Ent)(n kind:Int):Evt (fun q=>zFV q l n kind) (isT l n kind):=by
 simp only[zFV]
 unfold isT
 by_cases h:0≤n
 ·refine Evt.ifT (decide_eq_true h) ?_
  by_cases k:n<l.length
  ·exact Evt.ifT (decide_eq_true k) (Evt.pure (yL h k) (Evt.ret.eq (by simp[h,k])))
  ·exact Evt.ifF (decide_eq_false k) (Evt.ret.eq (by simp[k]))
 ·exact Evt.ifF (decide_eq_false h) (Evt.ret.eq (by simp[h]))
theorem K2:∀(r l:List Tm) (v:Nat),l.drop v=r->l.length≤1073741824->OkA l->Evt (fun q=>jH q l (v:Int)) (r.all zL)
 | [],l,v,hd,hl,ho=>by
  refine Evt.succ ?_
  simp only[jH]
  exact Evt.ifF (zZ hd) Evt.ret
 |x::r,l,v,hd,hl,ho=>by
  have hlt:=yC hd
  refine Evt.succ ?_
  simp only[jH]
  refine Evt.ifT (zY hd) (Evt.pure (zX hd) ((yO x (ho.at hd)).bind ?_))
  by_cases h:zL x=true
  ·refine Evt.ifT h ?_
   rw[zW v (by omega)]
   exact(K2 r l (v+1) (zU hd) hl ho).eq (by simp[h])
  ·exact Evt.ifF (by simpa using h) (Evt.ret.eq (by simp[h]))
theorem cG(l:List Tm)(hl:l.length≤1073741824)(ho:OkA l):Evt (fun q=>zFW q l) (l.all zL):=by
 simp only[zFW]
 exact K2 l l 0 rfl hl ho
def zDG(qq:Nat)(rl:List Ent)(parts:List yX)(p1:Int)(p2:List Tm):Option (Tm×Int):=
 zFV qq rl p1 4>>=fun r1=>
 if r1 then
 zS rl p1>>=fun x4=>
 zS rl x4.fam>>=fun x6=>
 if (p2.length:Int) != (x6.fields.length:Int)then
 some ((Tm.mk 0 0 []),5)
 else
 zFW qq p2>>=fun r9=>
 if r9 then
 zS p2 x4.place>>=fun x12=>
 some (x12,0)
 else
 some ((Tm.mk 0 0 []),5)
 else
 some ((Tm.mk 0 0 []),16)
theorem zQj:Qf 226 Tryz.f226:=⟨Tryz.func226,rfl⟩
theorem zXt{qq rl parts p1 p2 r}(h:zDG qq rl parts p1 p2=some r):Ct 226 [qR rl parts] [.mp 0 0,ai p1,slv zG p2 .no] (.tup [tmA r.1,ai r.2]) [qR rl parts] 0:=⟨by
 unfold zDG at h
 have z {os ob} (k:Oz os ob):=oD (dT ([]:List Tm))<|oD (dC parts)<|oD (dE rl)<|k
 obtain⟨r1,h2,h⟩:=zC h
 obtain⟨h3,h⟩|⟨h3,h⟩:=spl h
 obtain⟨x4,h5,h⟩:=zC h
 obtain⟨x6,h7,h⟩:=zC h
 have k:=oA 1 (xL (o:=.no) h7)<|oA 2 (xL (o:=.no) h5)<|oK 2 [] h3 (zJT h2) o0
 obtain⟨h8,h⟩|⟨h8,h⟩:=spl h
 cases h
 exact tF zQj 1 [0] (z<|oB 2 h8 k)
 obtain⟨r9,h10,h⟩:=zC h
 have k:=oB 2 h8 k
 obtain⟨h11,h⟩|⟨h11,h⟩:=spl h
 obtain⟨x12,h13,h⟩:=zC h
 cases h
 exact tF zQj 2 [0] (oD (dT x12.sub)<|oD (dC parts)<|oD (dE rl)<|oA 1 (xB (o:=.no) h13)<|oA 1 (xL (o:=.no) h5)<|oK 0 [] h11 (zJU h10) k)
 cases h
 exact tF zQj 2 [0] (z<|oK 0 [] h11 (zJU h10) k)
 cases h
 exact tF zQj 2 [0] (z<|oK 2 [] h3 (zJT h2) o0),⟨(lz rfl),tv,⟨tv,dT _⟩,tv⟩,(zA ⟨⟨tv,dE _⟩,⟨tv,dC _⟩,tv⟩ zB),⟨⟨tv,tv,dT _,tv⟩,tv,tv⟩,(zA ⟨dE _,dC _,tv⟩ zB)⟩
def zTx(qq:Nat)(p0 p1:Int):Option Tm:=
 w6 qq p1>>=fun r1=>
 zAV qq 7 p0 [r1]>>=fun r3=>
 some r3
theorem zQi{qq p0 p1 r}(h:zTx qq p0 p1=some r):Ct 245 [] [ai p0,ai p1] (tmA r) [] 0:=⟨by
 unfold zTx at h
 obtain⟨r1,h2,h⟩:=zC h
 obtain⟨r3,h4,h⟩:=zC h
 obtain rfl:=sj h
 exact tF ⟨Tryz.func245,rfl⟩ 1 [] (oD (dT r3.sub)<|oC 0 [] (zFB h4)<|oS 0 (xI xN [r1])<|oC 0 [] (zFC h2) o0),⟨tv,tv,tv⟩,zB,⟨tv,tv,dT _,tv⟩,zB⟩
def mF:Nat->List Ent->List yX->Int->Int->List Tm->List Tm->yX->Int->Int->Int->Int->List Tm->Option (Tm×Int)
 |0,_,_,_,_,_,_,_,_,_,_,_,_=>none
 |qq+1,rl,parts,p1,p2,p4,p5,x12,v120,xC,xP,wI,pQ=>
 if decide (v120<(x12.recs.length:Int))then
 zS x12.recs v120>>=fun x29=>
 if x29.is then
 zS rl p1>>=fun x32=>
 gsl p4 0 x32.pars>>=fun x34=>
 yN 40 ([]:List Tm) x34>>=fun l36=>
 gsl p5 0 v120>>=fun x39=>
 yN 40 l36 x39>>=fun l41=>
 zTx qq p1 p2>>=fun r44=>
 zS p5 v120>>=fun x46=>
 zNm qq xC r44 p4 l41 x29 x46>>=fun r48=>
 S7 qq (Tm.mk xP wI pQ) r48.1>>=fun r50=>
 mF qq rl parts p1 p2 p4 p5 x12 (w64 (v120+1)) r48.2 r50.k r50.n r50.sub
 else
 mF qq rl parts p1 p2 p4 p5 x12 (w64 (v120+1)) xC xP wI pQ
 else
 zNl qq xC (Tm.mk xP wI pQ)>>=fun r52=>
 some (r52.1,r52.2.1)
def zDH(qq:Nat)(rl:List Ent)(parts:List yX)(p1 p2 p3:Int)(p4 p5:List Tm):Option (Tm×Int):=
 zFV qq rl p1 1>>=fun r1=>
 if r1 then
 if decide (p2<0)then
 some ((Tm.mk 0 0 []),16)
 else
 if decide (p2>7)then
 some ((Tm.mk 0 0 []),16)
 else
 zFV qq rl p3 2>>=fun r6=>
 if r6 then
 zS rl p3>>=fun x9=>
 if x9.fam != p1 then
 some ((Tm.mk 0 0 []),16)
 else
 zS parts p3>>=fun x12=>
 zS rl p1>>=fun x14=>
 if (p4.length:Int) != (w64 ((w64 (x14.pars+1))+(x14.cons.length:Int)))then
 some ((Tm.mk 0 0 []),5)
 else
 if (p5.length:Int) != (x12.args.length:Int)then
 some ((Tm.mk 0 0 []),5)
 else
 zFW qq p4>>=fun r18=>
 if r18 then
 zFW qq p5>>=fun r21=>
 if r21 then
 zS p4 (w64 ((w64 (x14.pars+1))+x9.place))>>=fun x24=>
 gC qq x24 p5>>=fun r26=>
 mF qq rl parts p1 p2 p4 p5 x12 0 0 r26.k r26.n r26.sub
 else
 some ((Tm.mk 0 0 []),5)
 else
 some ((Tm.mk 0 0 []),5)
 else
 some ((Tm.mk 0 0 []),16)
 else
 some ((Tm.mk 0 0 []),16)
theorem u4:Qf 227 Tryz.f227:=⟨Tryz.func227,rfl⟩
theorem zQh:∀qq:Nat,(∀ {rl parts p1 p2 p4 p5 x12 v120 xC xP wI pQ r},mF qq rl parts p1 p2 p4 p5 x12 v120 xC xP wI pQ=some r->(∀j,dL 1 (pt 16777141 Tryz.f227) (sp j 160 0 [(1,ai p1),(2,ai p2),(4,slv zG p4 .no),(5,slv zG p5 .no),(12,.mp 1 0),(14,slv yP rl .no),(16,.mp 2 0),(17,.mp 3 0),(118,slv bQ x12.recs .no),(119,ai (x12.recs.length:Int)),(120,ai v120)]) (⟨[(0,qR rl parts),(1,.cells [ai 0,ai 0,slv zG ([]:List Tm) .nl]),(2,.cells [ai xC]),(3,.cells [ai xP,ai wI,slv zG pQ .no])],4,[],0,[]⟩) (fQ 1 (nQ 1 Tryz.f227 (.tup [tmA r.1,ai r.2]) [qR rl parts] 0) [.blk 0,.seq (pt 262143 Tryz.f227)]))):=by
 intro qq
 induction qq with
 |zero=>
  exact fun h=>nn h
 |succ qq ih=>
  intro rl parts p1 p2 p4 p5 x12 v120 xC xP wI pQ r h
  rw[mF]at h
  have z {os ob} (k:Oz os ob):=oD (dT ([]:List Tm))<|oD (dC parts)<|oD (dE rl)<|k
  obtain⟨h28,h⟩|⟨h28,h⟩:=spl h
  obtain⟨x29,h30,h⟩:=zC h
  have k:=oA 0 (zUE (o:=.no) h30)<|oB 0 h28 o0
  obtain⟨h31,h⟩|⟨h31,h⟩:=spl h
  obtain⟨x32,h33,h⟩:=zC h
  obtain⟨x34,h35,h⟩:=zC h
  obtain⟨l36,h37,h⟩:=zC h
  have k:=oA 1 (nB h35)<|oA 1 (xL (o:=.no) h33)<|oB 2 h31 k
  by_cases h38:List.length x34=0
  obtain⟨x39,h40,h⟩:=zC h
  obtain⟨l41,h42,h⟩:=zC h
  have k:=oA 0 (nB h40)<|oP 0 (pP h37 h38) k
  by_cases h43:List.length x39=0
  obtain⟨r44,h45,h⟩:=zC h
  obtain⟨x46,h47,h⟩:=zC h
  obtain⟨r48,h49,h⟩:=zC h
  obtain⟨r50,h51,h⟩:=zC h
  exact fun j=>lH 2 [] [0,1,2,3] [] [1,2,4,5,12,14,16,17,118,119,120] (oD (dR x12.recs)<|oD (dE rl)<|oD (dT p5)<|oD (dT p4)<|oD (dT r50.sub)<|z<|oC 0 [] (w5 h51)<|oC 1 [2] (zQn h49)<|oA 1 (xB (o:=.no) h47)<|oC 1 [] (zQi h45)<|oP 0 (pP h42 h43) k) (ih h)
  obtain⟨r44,h45,h⟩:=zC h
  obtain⟨x46,h47,h⟩:=zC h
  obtain⟨r48,h49,h⟩:=zC h
  obtain⟨r50,h51,h⟩:=zC h
  exact fun j=>lH 2 [] [0,1,2,3] [] [1,2,4,5,12,14,16,17,118,119,120] (oD (dR x12.recs)<|oD (dE rl)<|oD (dT p5)<|oD (dT p4)<|oD (dT r50.sub)<|z<|oC 0 [] (w5 h51)<|oC 1 [2] (zQn h49)<|oA 1 (xB (o:=.no) h47)<|oC 1 [] (zQi h45)<|oP 0 (vD h42 h43) k) (ih h)
  obtain⟨x39,h40,h⟩:=zC h
  obtain⟨l41,h42,h⟩:=zC h
  have k:=oA 0 (nB h40)<|oP 0 (vD h37 h38) k
  by_cases h43:List.length x39=0
  obtain⟨r44,h45,h⟩:=zC h
  obtain⟨x46,h47,h⟩:=zC h
  obtain⟨r48,h49,h⟩:=zC h
  obtain⟨r50,h51,h⟩:=zC h
  exact fun j=>lH 2 [] [0,1,2,3] [] [1,2,4,5,12,14,16,17,118,119,120] (oD (dR x12.recs)<|oD (dE rl)<|oD (dT p5)<|oD (dT p4)<|oD (dT r50.sub)<|z<|oC 0 [] (w5 h51)<|oC 1 [2] (zQn h49)<|oA 1 (xB (o:=.no) h47)<|oC 1 [] (zQi h45)<|oP 0 (pP h42 h43) k) (ih h)
  obtain⟨r44,h45,h⟩:=zC h
  obtain⟨x46,h47,h⟩:=zC h
  obtain⟨r48,h49,h⟩:=zC h
  obtain⟨r50,h51,h⟩:=zC h
  exact fun j=>lH 2 [] [0,1,2,3] [] [1,2,4,5,12,14,16,17,118,119,120] (oD (dR x12.recs)<|oD (dE rl)<|oD (dT p5)<|oD (dT p4)<|oD (dT r50.sub)<|z<|oC 0 [] (w5 h51)<|oC 1 [2] (zQn h49)<|oA 1 (xB (o:=.no) h47)<|oC 1 [] (zQi h45)<|oP 0 (vD h42 h43) k) (ih h)
  exact fun j=>lH 1 [] [0,1,2,3] [] [1,2,4,5,12,14,16,17,118,119,120] (oD (dR x12.recs)<|oD (dE rl)<|oD (dT p5)<|oD (dT p4)<|oD (dT pQ)<|z<|oB 2 h31 k) (ih h)
  obtain⟨r52,h53,h⟩:=zC h
  cases h
  exact fun j=>lF 3 [0] (oD (dT r52.1.sub)<|oD (dC parts)<|oD (dE rl)<|oC 1 [2] (zXu h53)<|oB 0 h28 o0)
theorem zXs{qq rl parts p1 p2 p3 p4 p5 r}(h:zDH qq rl parts p1 p2 p3 p4 p5=some r):Ct 227 [qR rl parts] [.mp 0 0,ai p1,ai p2,ai p3,slv zG p4 .no,slv zG p5 .no] (.tup [tmA r.1,ai r.2]) [qR rl parts] 0:=⟨by
 unfold zDH at h
 have z {os ob} (k:Oz os ob):=oD (dT ([]:List Tm))<|oD (dC parts)<|oD (dE rl)<|k
 obtain⟨r1,h2,h⟩:=zC h
 obtain⟨h3,h⟩|⟨h3,h⟩:=spl h
 have k:=oK 2 [] h3 (zJT h2) o0
 obtain⟨h4,h⟩|⟨h4,h⟩:=spl h
 cases h
 exact tF u4 1 [0] (z<|oB 1 h4 k)
 have k:=oB 1 h4 k
 obtain⟨h5,h⟩|⟨h5,h⟩:=spl h
 cases h
 exact tF u4 1 [0] (z<|oB 0 h5 k)
 obtain⟨r6,h7,h⟩:=zC h
 have k:=oB 0 h5 k
 obtain⟨h8,h⟩|⟨h8,h⟩:=spl h
 obtain⟨x9,h10,h⟩:=zC h
 have k:=oA 1 (xL (o:=.no) h10)<|oK 0 [] h8 (zJT h7) k
 obtain⟨h11,h⟩|⟨h11,h⟩:=spl h
 cases h
 exact tF u4 1 [0] (z<|oB 1 h11 k)
 obtain⟨x12,h13,h⟩:=zC h
 obtain⟨x14,h15,h⟩:=zC h
 have k:=oA 2 (xL (o:=.no) h15)<|oA 3 (xL (o:=.no) h15)<|oA 1 (zUC (o:=.no) h13)<|oB 1 h11 k
 obtain⟨h16,h⟩|⟨h16,h⟩:=spl h
 cases h
 exact tF u4 1 [0] (z<|oB 3 h16 k)
 have k:=oB 3 h16 k
 obtain⟨h17,h⟩|⟨h17,h⟩:=spl h
 cases h
 exact tF u4 1 [0] (z<|oB 3 h17 k)
 obtain⟨r18,h19,h⟩:=zC h
 have k:=oB 3 h17 k
 obtain⟨h20,h⟩|⟨h20,h⟩:=spl h
 obtain⟨r21,h22,h⟩:=zC h
 have k:=oK 0 [] h20 (zJU h19) k
 obtain⟨h23,h⟩|⟨h23,h⟩:=spl h
 obtain⟨x24,h25,h⟩:=zC h
 obtain⟨r26,h27,h⟩:=zC h
 exact tH u4 3 [] [0,1,3,4] [] [1,2,4,5,12,14,16,17,118,119,120] (oD (dR x12.recs)<|oD (dE rl)<|oD (dT p5)<|oD (dT p4)<|oD (dT r26.sub)<|z<|oC 1 [] (L5 h27)<|oA 2 (xB (o:=.no) h25)<|oA 2 (xL (o:=.no) h10)<|oA 1 (xL (o:=.no) h15)<|oK 1 [] h23 (zJU h22) k) (zQh _ h)
 cases h
 exact tF u4 2 [0] (z<|oK 1 [] h23 (zJU h22) k)
 cases h
 exact tF u4 2 [0] (z<|oK 0 [] h20 (zJU h19) k)
 cases h
 exact tF u4 2 [0] (z<|oK 0 [] h8 (zJT h7) k)
 cases h
 exact tF u4 2 [0] (z<|oK 2 [] h3 (zJT h2) o0),⟨(lz rfl),tv,tv,tv,⟨tv,dT _⟩,⟨tv,dT _⟩,tv⟩,(zA ⟨⟨tv,dE _⟩,⟨tv,dC _⟩,tv⟩ zB),⟨⟨tv,tv,dT _,tv⟩,tv,tv⟩,(zA ⟨dE _,dC _,tv⟩ zB)⟩
theorem zQg(l:List Ent)(i:Int)(h0:0≤i)(h1:i<l.length)(hk:(ent l i).kind=2):zS (evA l l.length 0) i=some (wH l i):=by
 unfold zS
 rw[if_pos h0,zHC l l.length 0 i.toNat (by omega),show ((0+i.toNat:Nat):Int)=i by omega,if_pos hk]
theorem zTw(l:List Ent)(t:Tm)(of b:Int):zDE (w9 l t of b):=by
 unfold w9
 split
 ·rename_i h
  have hw:=rK (t:=t) (l:=(yM t).1) (y:=(yM t).2.1) (by rw[←h.1])
  have hs:=zQ hw.2.2.2.2.1
  have hal:=uV _ hs.2.2
  refine⟨fun x hx=>zV (hw.2.2.2.2.2 x hx),fun x hx=>zV (yS hw.2.2.2.2.1 (List.mem_of_mem_drop hx)),?_,?_⟩
  ·show (yM t).1.length≤_
   omega
  ·show ((arT (yM t).2.1).drop _).length≤_
   rw[List.length_drop];omega
 ·exact⟨OkA.nil,OkA.nil,by simp,by simp⟩
theorem zHL(l:List Ent)(of:Int):∀(r:List Tm) (b:Int),∀x∈nJ l of r b,zDE x
 | [],_,x,h=>nomatch h
 |a::r,b,x,h=>by
  rcases List.mem_cons.1 h with h|h
  ·rw[h];exact zTw l a of b
  ·exact zHL l of r (b+1) x h
def zBn(l:List Ent)(i:Int)(a:List Tm)(x:Tm×Int):Prop:=
 x.1.Ok∧x.2≠8∧(x.2=0->(a.length:Int)=(ent l (ent l i).fam).fields.length∧0≤(ent l i).place∧(ent l i).place<a.length∧x.1=nth a (ent l i).place)
theorem zJX{N:ByteArray->Bool}(l:List Ent)(parts:List yX)(i:Int)(a:List Tm)(hE:wS N l)(ho:OkA a)(hl:a.length≤1073741824):Tot (fun q=>zDG q l parts i a) (zBn l i a):=by
 simp only[zDG]
 have bad:∀e:Int,e≠8->e≠0->zBn l i a (.mk 0 0 [],e):=fun e h8 h0=>⟨xK 0 0,h8,fun h=>absurd h h0⟩
 refine Tot.bind (P:=fun b=>b=isT l i 4) ((zFZ l i 4).tot rfl) fun b hb=>Tot.ite (fun hT=>?_) fun _=>Tot.ret (bad _ (by decide) (by decide))
 rw[hT]at hb
 have hi:=uJ hb.symm
 have hp:=(yV (hE.2 i hi.1 hi.2.1)).2.2.2.1 hi.2.2
 unfold K0 at hp
 simp only[Bool.and_eq_true]at hp
 have hw:=rL hp.1
 have h6:=hw.2.2.2.2.2
 unfold U3 at h6
 rw[if_pos hi.2.2]at h6
 refine Tot.pure (yL hi.1 hi.2.1) (Tot.pure (yL hw.1 (by omega)) (Tot.ite (fun _=>Tot.ret (bad _ (by decide) (by decide))) fun hn=>?_))
 have hn':(a.length:Int)=(ent l (ent l i).fam).fields.length:=by simpa using hn
 refine Tot.bind (P:=fun _=>True) ((cG a hl ho).tot trivial) fun _ _=>Tot.ite (fun _=>?_) fun _=>Tot.ret (bad _ (by decide) (by decide))
 have h7:(ent l i).place<a.length:=by omega
 have hx:=uL (l:=a) hw.2.2.2.2.1 h7
 exact Tot.pure hx (Tot.ret ⟨ho _ (sS hw.2.2.2.2.1 h7),by simp,fun _=>⟨hn',hw.2.2.2.2.1,h7,rfl⟩⟩)
def jM(d lev:Int)(args own:List Tm)(pars:Nat):List tL->Nat->Tm->Tm
 | [],_,t=>t
 |r::rs,v,t=>jM d lev args own pars rs (v+1) (if r.is=true then .mk 5 0 [t,zQk (.mk 7 d [.mk 2 lev []]) args (args.take pars++own.take v) r (nth own v)]else t)
def zHM(l:List Ent)(d lev c:Int)(args own:List Tm):Tm:=
 jM d lev args own (ent l d).pars.toNat (wH l c).recs 0 (apT (nth args ((ent l d).pars+1+(ent l c).place)) own)
theorem zJY{N:ByteArray->Bool}(l:List Ent)(parts:List yX)(i p2:Int)(p4 p5:List Tm)(x:yX)(hE:wS N l)(h0:0≤i)(h1:i<l.length)(hk:(ent l i).kind=1)(hp:(ent l i).pars≤p4.length)(hl4:p4.length≤65535)(h5:p5.length=x.recs.length)(hl5:p5.length≤65535)
  (ho4:OkA p4) (ho5:OkA p5) (hx:∀r∈x.recs,zDE r):∀(r:List tL) (v:Nat) (e:Int) (t:Tm),x.recs.drop v=r->t.Ok->Tot (fun q=>mF q l parts i p2 p4 p5 x (v:Int) e t.k t.n t.sub)
   (fun y=>y.1.Ok∧(e≠8->y.2≠8)∧(y.2=0->e=0∧y.1=jM i p2 p4 p5 (ent l i).pars.toNat r v t∧zL y.1=true)):=by
 have hf:=wP ((yV (hE.2 i h0 h1)).2.1 hk)
 intro r
 induction r with
 |nil=>
  intro v e t hd ht
  refine Tot.succ ?_
  simp only[mF,sC]
  refine Tot.ite (fun h=>?_) fun _=>(zNg e t ht).bind fun r h=>Tot.ret ⟨h.1,h.2.1,fun h0=>?_⟩
  ·rw[zZ hd]at h;cases h
  ·have k:=h.2.2 h0
   exact⟨k.1,k.2.1,by show zL r.1=true;rw[k.2.1];exact k.2.2⟩
 |cons z r ih=>
  intro v e t hd ht
  have hlt:=yC hd
  have hz:z∈x.recs:=by
   have:z∈x.recs.drop v:=by rw[hd];simp
   exact List.mem_of_mem_drop this
  refine Tot.succ ?_
  simp only[mF,sC]
  refine Tot.ite (fun _=>?_) fun h=>?_
  ·refine Tot.pure (zX hd) (Tot.ite (fun hzi=>?_) fun hzi=>?_)
   ·refine Tot.pure (yL h0 h1) (Tot.pure (N7 (by omega) (by omega) hp) (Tot.pure (yG (by simp<;>omega)) (Tot.pure (N7 (by omega) (by omega) (by omega)) (Tot.pure (yG (by simp<;>omega)) ?_))))
    refine Tot.bind (P:=fun y=>y=Tm.mk 7 i [Tm.mk 2 p2 []]) (Evt.tot (r:=Tm.mk 7 i [Tm.mk 2 p2 []]) (Evt.mk fun _=>rfl) rfl) fun r44 h44=>?_
    subst h44
    have hnv:(v:Int)<p5.length:=by omega
    refine Tot.pure (uL (l:=p5) (n:=(v:Int)) (by omega) hnv) ?_
    refine(V0 e (.mk 7 i [.mk 2 p2 []]) p4 _ z (nth p5 v) (zSY (xK _ _)) ho4 (by omega) ?_ ?_ (hx z hz) (ho5 _ (sS (by omega) hnv))).bind fun r48 h48=>?_
    ·exact(OkA.nil.app ((ho4.drop _).take _)).app ((ho5.drop _).take _)
    ·simp only[List.length_append,List.length_take,List.length_drop,List.length_nil];omega
    refine Tot.bind (P:=fun y=>y=Tm.mk 5 0 [t,r48.1]) ((E4 t r48.1).tot rfl) fun r50 h50=>?_
    subst h50
    rw[zW v (by omega)]
    refine(ih (v+1) r48.2 (.mk 5 0 [t,r48.1]) (zU hd) (gI ht h48.1)).mono fun y hy=>⟨hy.1,fun he=>hy.2.1 (h48.2.1 he),fun he=>?_⟩
    have k:=hy.2.2 he
    have k4:=h48.2.2 k.1
    refine⟨k4.1,?_,k.2.2⟩
    rw[k.2.1,k4.2,jM,if_pos hzi]
    simp
   ·rw[zW v (by omega)]
    refine(ih (v+1) e t (zU hd) ht).mono fun y hy=>⟨hy.1,hy.2.1,fun he=>?_⟩
    have k:=hy.2.2 he
    refine⟨k.1,?_,k.2.2⟩
    rw[k.2.1,jM,if_neg (by simpa using hzi)]
  ·rw[zY hd]at h;cases h
def zGz(l:List Ent)(d lev c:Int)(args own:List Tm)(x:Tm×Int):Prop:=
 x.1.Ok∧x.2≠8∧(x.2=0->(0≤lev∧lev≤7)∧isT l d 1=true∧isT l c 2=true∧(ent l c).fam=d∧(args.length:Int)=(ent l d).pars+1+(ent l d).cons.length∧own.length=(wH l c).args.length∧args.all zL=true∧own.all zL=true∧x.1=zHM l d lev c args own∧zL x.1=true)
theorem zNf{N:ByteArray->Bool}(l:List Ent)(i p2 c:Int)(p4 p5:List Tm)(hE:wS N l)(ho4:OkA p4)(ho5:OkA p5)(hl4:p4.length≤65535)(hl5:p5.length≤65535):Tot (fun q=>zDH q l (evA l l.length 0) i p2 c p4 p5) (zGz l i p2 c p4 p5):=by
 have bad:∀e:Int,e≠8->e≠0->zGz l i p2 c p4 p5 (.mk 0 0 [],e):=fun e h8 h0=>⟨xK 0 0,h8,fun h=>absurd h h0⟩
 simp only[zDH]
 refine Tot.bind (P:=fun b=>b=isT l i 1) ((zFZ l i 1).tot rfl) fun b hb=>Tot.ite (fun hT=>?_) fun _=>Tot.ret (bad _ (by decide) (by decide))
 rw[hT]at hb
 have hi:=uJ hb.symm
 refine Tot.ite (fun _=>Tot.ret (bad _ (by decide) (by decide))) fun hv0=>Tot.ite (fun _=>Tot.ret (bad _ (by decide) (by decide))) fun hv1=>?_
 have hv0':=of_decide_eq_false hv0
 have hv1':=of_decide_eq_false hv1
 refine Tot.bind (P:=fun b=>b=isT l c 2) ((zFZ l c 2).tot rfl) fun b2 hb2=>Tot.ite (fun hT=>?_) fun _=>Tot.ret (bad _ (by decide) (by decide))
 rw[hT]at hb2
 have hc:=uJ hb2.symm
 have hf:=wP ((yV (hE.2 i hi.1 hi.2.1)).2.1 hi.2.2)
 obtain⟨A,y,hw,hy,hA,hAp,hA24,p0,p1,f0,f1,fk,fp,fi,fs,hap,q0,q1⟩:=vY hE hc.1 hc.2.1 hc.2.2
 refine Tot.pure (yL hc.1 hc.2.1) (Tot.ite (fun _=>Tot.ret (bad _ (by decide) (by decide))) fun hn=>?_)
 have hfam:(ent l c).fam=i:=by simpa using hn
 refine Tot.pure (zQg l c hc.1 hc.2.1 hc.2.2) (Tot.pure (yL hi.1 hi.2.1) ?_)
 rw[hfam]at fp q1 fi fs
 rw[yJ (x:=(ent l i).pars+1) (by omega) (by omega),yJ (x:=(ent l i).pars+1+(ent l i).cons.length) (by omega) (by omega),yJ (x:=(ent l i).pars+1+(ent l c).place) (by omega) (by omega)]
 refine Tot.ite (fun _=>Tot.ret (bad _ (by decide) (by decide))) fun hn4=>Tot.ite (fun _=>Tot.ret (bad _ (by decide) (by decide))) fun hn5=>?_
 have hn4':(p4.length:Int)=(ent l i).pars+1+(ent l i).cons.length:=by simpa using hn4
 have hn5':(p5.length:Int)=(wH l c).args.length:=by simpa using hn5
 refine Tot.bind (P:=fun b=>b=p4.all zL) ((cG p4 (by omega) ho4).tot rfl) fun b4 hb4=>Tot.ite (fun hs4=>?_) fun _=>Tot.ret (bad _ (by decide) (by decide))
 refine Tot.bind (P:=fun b=>b=p5.all zL) ((cG p5 (by omega) ho5).tot rfl) fun b5 hb5=>Tot.ite (fun hs5=>?_) fun _=>Tot.ret (bad _ (by decide) (by decide))
 have h7:(ent l i).pars+1+(ent l c).place<p4.length:=by omega
 refine Tot.pure (uL (l:=p4) (by omega) h7) (Tot.bind (P:=fun z=>z=apT (nth p4 ((ent l i).pars+1+(ent l c).place)) p5) ((sY _ p5 (by omega)).tot rfl) fun r26 h26=>?_)
 subst h26
 have hlen:(wH l c).recs.length=(wH l c).args.length:=by unfold wH;exact F1 l _ _ _
 refine(zJY l _ i p2 p4 p5 (wH l c) hE hi.1 hi.2.1 hi.2.2 (by omega) hl4 (by omega) hl5 ho4 ho5 (by unfold wH;exact zHL l _ _ _) _ 0 0 _ rfl (pN _ _ (ho4 _ (sS (by omega) h7)) ho5)).mono fun x hx=>⟨hx.1,hx.2.1 (by decide),fun h0=>?_⟩
 have k:=hx.2.2 h0
 exact⟨⟨by omega,by omega⟩,hb.symm,hb2.symm,hfam,hn4',by omega,by rw[←hb4];exact hs4,by rw[←hb5];exact hs5,k.2.1,k.2.2⟩
section
variable {P:Int->Int->Prop}
theorem zHN{k:Int}{l:List Tm}(h:∀a∈l,yT P a):∀a∈upI k l,yT P a:=fun a ha=>by
 obtain⟨x,hx,rfl⟩:=List.mem_map.1 ha
 exact aW x 0 0 k (h x hx)
theorem zDI:∀m,∀a∈lO m,yT P a
 |0,a,h=>nomatch h
 |m+1,a,h=>by
  rcases List.mem_cons.1 h with rfl|h
  ·exact gG (.inl rfl)
  ·exact zDI m a h
theorem zHO:∀m v,∀a∈vuT m v,yT P a
 |0,_,a,h=>nomatch h
 |m+1,v,a,h=>by
  rcases List.mem_cons.1 h with rfl|h
  ·exact gG (.inl rfl)
  ·exact zHO m (v+1) a h
theorem zDJ{t:Tm}{own:Nat}{outer:List Tm}(h:yT P t)(ho:∀a∈outer,yT P a):yT P (zDC t own outer):=by
 refine N6 _ (fun a ha=>?_) t 0 h
 rcases List.mem_append.1 ha with ha|ha
 ·exact zHO _ _ a ha
 ·exact zHN ho a (List.mem_reverse.1 ha)
theorem i6{outer:List Tm}(ho:∀a∈outer,yT P a):∀(l:List Tm) (v:Nat),(∀a∈l,yT P a)->∀a∈lP outer l v,yT P a
 | [],v,h,a,ha=>nomatch ha
 |t::l,v,h,a,ha=>by
  rcases List.mem_cons.1 ha with rfl|ha
  ·exact zDJ (h t (by simp)) ho
  ·exact i6 ho l (v+1) (fun x hx=>h x (by simp[hx])) a ha
theorem zDK(h4:P 4 0):∀(l:List Tm) (t:Tm),(∀a∈l,yT P a)->yT P t->yT P (U9 l t)
 | [],t,_,ht=>ht
 |a::l,t,h,ht=>zBs (.inr h4) (h a (by simp)) (zDK h4 l t (fun x hx=>h x (by simp[hx])) ht)
theorem zNe{head:Tm}{args outer:List Tm}{r:tL}{a:Tm}(h4:P 4 0)(h5:P 5 0)(hh:yT P head)(hargs:∀a∈args,yT P a)(hout:∀a∈outer,yT P a)(hr:(∀t∈r.around,yT P t)∧∀t∈r.at',yT P t)(ha:yT P a):yT P (zQk head args outer r a):=by
 refine zDK h4 _ _ (i6 hout _ 0 hr.1) (zBs (.inr h5) ?_ ?_)
 ·refine jD _ _ h5 (jD _ _ h5 hh (zHN hargs)) fun x hx=>?_
  obtain⟨t,ht,rfl⟩:=List.mem_map.1 hx
  exact zDJ (hr.2 t ht) hout
 ·exact jD _ _ h5 (aW a 0 0 _ ha) (zDI _)
theorem zBm{Q:Tm->Prop}{l:List Tm}{n:Int}(h:∀a∈l,Q a)(hz:Q zT):Q (nth l n):=by
 unfold nth
 cases e:l[n.toNat]? with
 |none=>exact hz
 |some x=>exact h x (List.mem_of_getElem? e)
theorem V1{d lev:Int}{args own:List Tm}{pars:Nat}(h4:P 4 0)(h5:P 5 0)(h0:P 0 0)(h2:P 2 lev)(h7:P 7 d)(hargs:∀a∈args,yT P a)(hown:∀a∈own,yT P a) :
  ∀(rs:List tL) (v:Nat) (t:Tm),(∀r∈rs,(∀t∈r.around,yT P t)∧∀t∈r.at',yT P t)->yT P t->yT P (jM d lev args own pars rs v t)
 | [],v,t,_,ht=>ht
 |r::rs,v,t,hr,ht=>by
  rw[jM]
  refine V1 h4 h5 h0 h2 h7 hargs hown rs (v+1) _ (fun x hx=>hr x (by simp[hx])) ?_
  split
  ·refine zBs (.inr h5) ht (zNe h4 h5 (zSQ (.inr h7) (gG (.inr h2))) hargs ?_ (hr r (by simp)) (zBm hown (gG (.inr h0))))
   intro a ha
   rcases List.mem_append.1 ha with ha|ha
   ·exact hargs a (List.mem_of_mem_take ha)
   ·exact hown a (List.mem_of_mem_take ha)
  ·exact ht
theorem zJZ{l:List Ent}{d lev c:Int}{args own:List Tm}(h4:P 4 0)(h5:P 5 0)(h0:P 0 0)(h2:P 2 lev)(h7:P 7 d)(hargs:∀a∈args,yT P a)(hown:∀a∈own,yT P a)(hr:∀r∈(wH l c).recs,(∀t∈r.around,yT P t)∧∀t∈r.at',yT P t):yT P (zHM l d lev c args own):=
 V1 h4 h5 h0 h2 h7 hargs hown _ 0 _ hr (jD _ _ h5 (zBm hargs (gG (.inr h0))) hown)
theorem lQ{t:Tm}{l:List Tm}{y:Tm}(h:yM t=(l,y,0)):xA t=true∧lL l.length t=some (l,y):=by
 have hw:=rK h
 have hg:=(zQ hw.1).2.2
 unfold yM vQ at h
 rw[if_pos hw.1,if_neg (by omega),if_neg (by omega)]at h
 rw[show (((min (uW t) 25:Nat):Int)).toNat=l.length by omega]at h
 cases e:lL l.length t with
 |none=>rw[e]at h;simp[zAZ]at h
 |some r=>
  rw[e]at h
  simp only[zAZ,List.nil_append,Prod.mk.injEq,and_true]at h
  exact⟨hg,by rw[←h.1,←h.2]⟩
theorem zNd{l:List Ent}{t:Tm}{of b:Int}(h:yT P t):(∀x∈(w9 l t of b).around,yT P x)∧∀x∈(w9 l t of b).at',yT P x:=by
 unfold w9
 split
 ·rename_i a
  have hw:=lQ (t:=t) (l:=(yM t).1) (y:=(yM t).2.1) (by rw[←a.1])
  have hs:=aX _ _ _ hw.1 hw.2 h
  have hy:=(zQ (rK (t:=t) (l:=(yM t).1) (y:=(yM t).2.1) (by rw[←a.1])).2.2.2.2.1).2.2
  exact⟨hs.2,fun x hx=>(qV _ hy hs.1).2 x (List.mem_of_mem_drop hx)⟩
 ·exact⟨fun x hx=>(nomatch hx),fun x hx=>(nomatch hx)⟩
theorem i7{l:List Ent}{of:Int}:∀(r:List Tm) (b:Int),(∀t∈r,yT P t)->∀x∈nJ l of r b,(∀t∈x.around,yT P t)∧∀t∈x.at',yT P t
 | [],b,h,x,hx=>nomatch hx
 |a::r,b,h,x,hx=>by
  rcases List.mem_cons.1 hx with hx|hx
  ·rw[hx];exact zNd (h a (by simp))
  ·exact i7 r (b+1) (fun t ht=>h t (by simp[ht])) x hx
theorem zGy{l:List Ent}{i:Int}(hw:(yM (ent l i).type).2.2=0)(h:yT P (ent l i).type):∀r∈(wH l i).recs,(∀t∈r.around,yT P t)∧∀t∈r.at',yT P t:=by
 have hs:=lQ (t:=(ent l i).type) (l:=(yM (ent l i).type).1) (y:=(yM (ent l i).type).2.1) (by rw[←hw])
 have ha:=aX _ _ _ hs.1 hs.2 h
 unfold wH
 exact i7 _ _ fun t ht=>ha.2 t (List.mem_of_mem_drop ht)
end
theorem zNc:∀(m v i:Nat) (h:i<(vuT m v).length),(vuT m v)[i] = .mk 1 ((v+i:Nat):Int) []
 |0,v,i,h=>by simp[vuT]at h
 |m+1,v,0,h=>by simp[vuT]
 |m+1,v,i+1,h=>by
  have:=zNc m (v+1) i (by simpa[vuT]using h)
  simp only[vuT,List.getElem_cons_succ]
  rw[this,show v+1+i=v+(i+1) by omega]
theorem zNb:∀(m:Nat) (k j:Int),(m:Int)≤k->∀a∈lO m,¬j∈lvT a k
 |0,k,j,_,a,h=>nomatch h
 |m+1,k,j,hk,a,h=>by
  rcases List.mem_cons.1 h with rfl|h
  ·intro hj;have:=sV.1 hj;omega
  ·exact zNb m k j (by omega) a h
theorem zHP:∀(l:List Tm) (t:Tm) (d j:Int),j∈lvT (U9 l t) d->(∃(i:Nat) (h:i<l.length),j∈lvT l[i] (d+i))∨j∈lvT t (d+l.length)
 | [],t,d,j,h=>.inr (by simpa[U9]using h)
 |a::l,t,d,j,h=>by
  rcases zNt.1 h with h|h
  ·exact .inl ⟨0,by simp,by simpa using h⟩
  ·rcases zHP l t (d+1) j h with⟨i,hi,h⟩|h
   ·refine .inl ⟨i+1,by simp;omega,?_⟩
    rw[show d+((i+1:Nat):Int)=d+1+i by omega]
    simpa using h
   ·refine .inr ?_
    rw[show d+((a::l).length:Int)=d+1+l.length by simp;omega]
    exact h
theorem zNa{t:Tm}{own:Nat}{outer:List Tm}{j:Int}(hs:∀i∈lvT t own,i<outer.length)(h:j∈lvT (zDC t own outer) own):∃a∈outer,j∈lvT a 0:=by
 have hj:=U6 _ _ _ h
 have h0:j+own∈lvT (zDC t own outer) 0:=((lN _ 0 own j (by omega)).1 (by rwa[Int.zero_add])).2
 obtain⟨i,hi,h1⟩:=zNw _ t 0 _ (Int.le_refl 0) h0
 have hi0:=U6 _ _ _ hi
 have hb:i<own+outer.length:=by
  by_cases hio:(own:Int)≤i
  ·have:=hs (i-own) (by
    have:=(lN t 0 own (i-own) (by omega)).2 ⟨by omega,by rwa[show i-own+own=i by omega]⟩
    rwa[Int.zero_add]at this)
   omega
  ·omega
 have hlen:(vuT own 0++(upI own outer).reverse).length=own+outer.length:=by simp[A0,upI]
 rcases h1 with h1|⟨h1,h2⟩
 ·rw[hlen]at h1;omega
 ·by_cases hio:(own:Int)≤i
  ·rw[List.getElem_append_right (by rw[A0];omega)]at h2
   have hm:=List.getElem_mem (l:=(upI own outer).reverse) (n:=i.toNat-(vuT own 0).length) (by rw[hlen]at h1;simp[A0,upI];omega)
   rw[List.mem_reverse]at hm
   obtain⟨a,ha,e⟩:=List.mem_map.1 hm
   rw[←e]at h2
   obtain⟨x,hx,e2⟩:=zRM a 0 0 own _ (by omega) h2
   have:=U6 _ _ _ hx
   rw[if_neg (by omega)]at e2
   exact⟨a,ha,by rwa[show j=x by omega]⟩
  ·rw[List.getElem_append_left (by rw[A0];omega),zNc]at h2
   have:=sV.1 h2
   omega
theorem V2(outer:List Tm):∀(l:List Tm) (v:Nat),(lP outer l v).length=l.length
 | [],_=>rfl
 |t::l,v=>congrArg (· + 1) (V2 outer l (v+1))
theorem zDL(outer:List Tm):∀(l:List Tm) (v i:Nat) (h:i<(lP outer l v).length) (h':i<l.length),(lP outer l v)[i]=zDC l[i] (v+i) outer
 | [],v,i,h,h'=>by simp at h'
 |t::l,v,0,h,h'=>by simp[lP]
 |t::l,v,i+1,h,h'=>by
  simp only[lP,List.getElem_cons_succ]
  rw[zDL outer l (v+1) i _ (by simpa using h'),show v+1+i=v+(i+1) by omega]
def zDM(r:tL)(n:Nat):Prop:=(∀(i:Nat) (h:i<r.around.length),∀j∈lvT r.around[i] i,j<n)∧∀t∈r.at',∀j∈lvT t r.around.length,j<n
theorem zTv{head:Tm}{args outer:List Tm}{r:tL}{a:Tm}{j:Int}(hr:zDM r outer.length)(hh:∀d j,¬j∈lvT head d)(h:j∈lvT (zQk head args outer r a) 0):(∃x∈args,j∈lvT x 0)∨(∃x∈outer,j∈lvT x 0)∨j∈lvT a 0:=by
 rcases zHP _ _ 0 j h with⟨i,hi,h⟩|h
 ·rw[V2]at hi
  rw[zDL outer r.around 0 i _ hi,Nat.zero_add,Int.zero_add]at h
  exact .inr (.inl (zNa (hr.1 i hi) h))
 ·rw[V2,Int.zero_add]at h
  rcases F3.1 h with h|h
  ·rcases(j8 _ _ _ _).1 h with h|⟨x,hx,h⟩
   ·rcases(j8 _ _ _ _).1 h with h|⟨x,hx,h⟩
    ·exact absurd h (hh _ _)
    ·obtain⟨y,hy,rfl⟩:=List.mem_map.1 hx
     exact .inl ⟨y,hy,zDe y 0 (r.around.length:Int) j (by omega) (by rwa[Int.zero_add])⟩
   ·obtain⟨y,hy,rfl⟩:=List.mem_map.1 hx
    exact .inr (.inl (zNa (hr.2 y hy) h))
  ·rcases(j8 _ _ _ _).1 h with h|⟨x,hx,h⟩
   ·exact .inr (.inr (zDe a 0 (r.around.length:Int) j (by omega) (by rwa[Int.zero_add])))
   ·exact absurd h (zNb _ _ _ (Int.le_refl _) x hx)
theorem zNA{l:List Tm}{n d j:Int}(h:j∈lvT (nth l n) d):∃a∈l,j∈lvT a d:=by
 unfold nth at h
 cases e:l[n.toNat]? with
 |none=>rw[e]at h;exact absurd h (zBr (by decide))
 |some x=>rw[e]at h;exact⟨x,List.mem_of_getElem? e,h⟩
theorem zDN{d lev:Int}{args own:List Tm}{pars:Nat}{j:Int}(hp:pars≤args.length):∀(rs:List tL) (v:Nat) (t:Tm),v+rs.length≤own.length->(∀(i:Nat) (h:i<rs.length),zDM rs[i] (pars+(v+i)))->j∈lvT (jM d lev args own pars rs v t) 0->j∈lvT t 0∨(∃x∈args,j∈lvT x 0)∨∃x∈own,j∈lvT x 0
 | [],v,t,_,_,h=>.inl h
 |r::rs,v,t,hl,hr,h=>by
  rw[List.length_cons]at hl
  rw[jM]at h
  rcases zDN hp rs (v+1) _ (by omega) (fun i hi=>by
   have:=hr (i+1) (by simp;omega)
   rw[show v+1+i=v+(i+1) by omega]
   simpa using this) h with h|h|h
  ·split at h
   ·rcases F3.1 h with h|h
    ·exact .inl h
    ·have hsc:=hr 0 (by simp)
     rcases zTv (j:=j) (by
      rw[List.length_append,List.length_take,List.length_take,show min pars args.length+min v own.length=pars+(v+0) by omega]
      simpa using hsc) (fun d j=>zVi (by decide)) h with h|⟨x,hx,h⟩|h
     ·exact .inr (.inl h)
     ·rcases List.mem_append.1 hx with hx|hx
      ·exact .inr (.inl ⟨x,List.mem_of_mem_take hx,h⟩)
      ·exact .inr (.inr ⟨x,List.mem_of_mem_take hx,h⟩)
     ·exact .inr (.inr (zNA h))
   ·exact .inl h
  ·exact .inr (.inl h)
  ·exact .inr (.inr h)
theorem zTu{l:List Ent}{t:Tm}{of b:Int}{n:Nat}(h:∀j,j∈lvT t 0->j<n):zDM (w9 l t of b) n:=by
 unfold w9
 split
 ·rename_i a
  have hw:=lQ (t:=t) (l:=(yM t).1) (y:=(yM t).2.1) (by rw[←a.1])
  have hy:=(zQ (rK (t:=t) (l:=(yM t).1) (y:=(yM t).2.1) (by rw[←a.1])).2.2.2.2.1).2.2
  refine⟨fun i hi j hj=>?_,fun x hx j hj=>?_⟩
  ·exact h j ((zBq _ _ _ hw.1 hw.2 0 j).2 i hi (by rwa[Int.zero_add]))
  ·exact h j ((zBq _ _ _ hw.1 hw.2 0 j).1 (by rw[Int.zero_add];exact(aY _ hy _ j).2 x (List.mem_of_mem_drop hx) hj))
 ·exact⟨fun i hi=>by simp at hi,fun x hx=>(nomatch hx)⟩
theorem zHQ{l:List Ent}{of:Int}:∀(r:List Tm) (B:Int) (b:Nat),(∀(i:Nat) (h:i<r.length),∀j,j∈lvT r[i] 0->j<(b+i:Nat))->∀(i:Nat) (h:i<(nJ l of r B).length),zDM (nJ l of r B)[i] (b+i)
 | [],B,b,h,i,hi=>by simp[nJ]at hi
 |a::r,B,b,h,0,hi=>by
  simp only[nJ,List.getElem_cons_zero]
  exact zTu fun j hj=>h 0 (by simp) j (by simpa using hj)
 |a::r,B,b,h,i+1,hi=>by
  simp only[nJ,List.getElem_cons_succ]
  have:=zHQ (l:=l) (of:=of) r (B+1) (b+1) (fun i hi j hj=>by
   have:=h (i+1) (by simp;omega) j (by simpa using hj)
   omega) i (by simpa[nJ]using hi)
  rw[show b+(i+1)=b+1+i by omega]
  exact this
theorem zNB{N:ByteArray->Bool}{l:List Ent}{i:Int}(hE:wS N l)(h0:0≤i)(h1:i<l.length)(hk:(ent l i).kind=2):∀(v:Nat) (h:v<(wH l i).recs.length),zDM (wH l i).recs[v] ((ent l i).pars.toNat+v):=by
 obtain⟨A,y,hw,hy,hA,hAp,hA24,p0,p1,-⟩:=vY hE h0 h1 hk
 have hc:=(yV (hE.2 i h0 h1)).1
 have hs:=lQ hw
 have hsc:∀(n:Nat) (h:n<(A.drop (ent l i).pars.toNat).length),∀j,j∈lvT (A.drop (ent l i).pars.toNat)[n] 0->j<((ent l i).pars.toNat+n:Nat):=fun n h j hj=>by
  rw[List.getElem_drop]at hj
  have hn:(ent l i).pars.toNat+n<A.length:=by simp at h;omega
  have hj0:=U6 _ _ _ hj
  rcases Int.lt_or_le j (((ent l i).pars.toNat+n:Nat):Int)with hlt|hge
  ·exact hlt
  ·have h2:j-(((ent l i).pars.toNat+n:Nat):Int)∈lvT A[(ent l i).pars.toNat+n] (0+(((ent l i).pars.toNat+n:Nat):Int)):=(lN _ 0 _ _ (by omega)).2 ⟨by omega,by rwa[show j-(((ent l i).pars.toNat+n:Nat):Int)+(((ent l i).pars.toNat+n:Nat):Int)=j by omega]⟩
   have h3:=(zBq _ _ _ hs.1 hs.2 0 _).2 _ hn h2
   exact absurd h3 (j9 hc 0 _ (Int.le_refl 0))
 have hr:=zHQ (l:=l) (of:=(ent l i).fam) (A.drop (ent l i).pars.toNat) (ent l i).pars (ent l i).pars.toNat hsc
 have e:(wH l i).recs=nJ l (ent l i).fam (A.drop (ent l i).pars.toNat) (ent l i).pars:=by
  unfold wH
  rw[hw]
 intro v h
 have:=hr v (by rw[←e];exact h)
 simpa[e]using this
theorem zQf{N:ByteArray->Bool}{l:List Ent}{d lev c:Int}{args own:List Tm}{j:Int}(hE:wS N l)(hc:isT l c 2=true)(hf:(ent l c).fam=d)(ha:(args.length:Int)=(ent l d).pars+1+(ent l d).cons.length)(ho:own.length=(wH l c).args.length)(h:j∈lvT (zHM l d lev c args own) 0):(∃x∈args,j∈lvT x 0)∨∃x∈own,j∈lvT x 0:=by
 have hi:=uJ hc
 obtain⟨A,y,hw,hy,hA,hAp,hA24,p0,p1,f0,f1,fk,fp,-⟩:=vY hE hi.1 hi.2.1 hi.2.2
 rw[hf]at fp
 have hlen:(wH l c).recs.length=(wH l c).args.length:=by unfold wH;exact F1 l _ _ _
 have hsc:=zNB hE hi.1 hi.2.1 hi.2.2
 rcases zDN (pars:=(ent l d).pars.toNat) (by omega) _ 0 _ (by omega) (fun i hi=>by
  have:=hsc i hi
  rwa[fp,show (ent l d).pars.toNat+i=(ent l d).pars.toNat+(0+i) by omega]at this) h with h|h
 ·rcases(j8 _ _ _ _).1 h with h|h
  ·exact .inl (zNA h)
  ·exact .inr h
 ·exact h
def A1(qq:Nat)(q0 q1 p1:Int):Option (Int×Int):=
 some ((w64 (q0+p1)),(w64 (q0+p1)))
theorem zNC{qq q0 q1 p1 r}(h:A1 qq q0 q1 p1=some r):Ct 173 [.cells [ai q0,ai q1]] [.mp 0 0,ai p1] (ai r.1) [.cells [ai r.2,ai q1]] 0:=⟨by
 unfold A1 at h
 cases h
 exact tF ⟨Tryz.func173,rfl⟩ 1 [0] (o0),⟨(lz rfl),tv,tv⟩,(zA ⟨tv,tv,tv⟩ zB),tv,(zA ⟨tv,tv,tv⟩ zB)⟩
def A2(qq:Nat)(q0 q1 p1:Int):Option (Int×Int):=
 some ((w64 (q1+p1)),(w64 (q1+p1)))
theorem zND{qq q0 q1 p1 r}(h:A2 qq q0 q1 p1=some r):Ct 173 [.cells [ai q0,ai q1]] [.mp 0 1,ai p1] (ai r.1) [.cells [ai q0,ai r.2]] 0:=⟨by
 unfold A2 at h
 cases h
 exact tF ⟨Tryz.func173,rfl⟩ 1 [0] (o0),⟨(lz rfl),tv,tv⟩,(zA ⟨tv,tv,tv⟩ zB),tv,(zA ⟨tv,tv,tv⟩ zB)⟩
def N8(qq:Nat)(q0 q1:Int):Option Int:=
 some q0
theorem zQe{qq q0 q1 r}(h:N8 qq q0 q1=some r):Ct 86 [.cells [ai q0,ai q1]] [.mp 0 0] (ai r) [.cells [ai q0,ai q1]] 0:=⟨by
 unfold N8 at h
 obtain rfl:=sj h
 exact tF ⟨Tryz.func86,rfl⟩ 1 [0] (o0),⟨(lz rfl),tv⟩,(zA ⟨tv,tv,tv⟩ zB),tv,(zA ⟨tv,tv,tv⟩ zB)⟩
def zQd(qq:Nat)(fl fu p1:Int):Option (Int×Int×Int):=
 if decide (p1<0)then
 some (8,fl,fu)
 else
 N8 qq fl fu>>=fun r2=>
 if decide (p1>r2)then
 some (8,fl,fu)
 else
 A1 qq fl fu (w64 (0-p1))>>=fun r5=>
 A2 qq r5.2 fu p1>>=fun r7=>
 some (0,r5.2,r7.2)
theorem zTt:Qf 135 Tryz.f135:=⟨Tryz.func135,rfl⟩
theorem zXr{qq fl fu p1 r}(h:zQd qq fl fu p1=some r):Ct 135 [.cells [ai fl,ai fu]] [.mp 0 0,ai p1] (ai r.1) [.cells [ai r.2.1,ai r.2.2]] 0:=⟨by
 unfold zQd at h
 obtain⟨h1,h⟩|⟨h1,h⟩:=spl h
 cases h
 exact tF zTt 0 [0] (oB 1 h1 o0)
 obtain⟨r2,h3,h⟩:=zC h
 have k:=oC 0 [0] (zQe h3)<|oB 1 h1 o0
 obtain⟨h4,h⟩|⟨h4,h⟩:=spl h
 cases h
 exact tF zTt 0 [0] (oB 0 h4 k)
 obtain⟨r5,h6,h⟩:=zC h
 obtain⟨r7,h8,h⟩:=zC h
 cases h
 exact tF zTt 0 [0] (oC 0 [0] (zND h8)<|oC 1 [0] (zNC h6)<|oB 0 h4 k),⟨(lz rfl),tv,tv⟩,(zA ⟨tv,tv,tv⟩ zB),tv,(zA ⟨tv,tv,tv⟩ zB)⟩
def zBl(qq:Nat)(M:yY)(p1:Tm):Option Int:=
 if p1.k != 6 then
 some 0
 else
 if decide (p1.n≥(M.l.length:Int))then
 some 0
 else
 zS M.l p1.n>>=fun x3=>
 some x3.kind
theorem zTs:Qf 209 Tryz.f209:=⟨Tryz.func209,rfl⟩
theorem zNE{qq M p1 r}(h:zBl qq M p1=some r):Ct 209 [mB M 1,mR M] [.mp 0 0,tmA p1] (ai r) [mB M 1,mR M] 0:=⟨by
 unfold zBl at h
 obtain⟨h1,h⟩|⟨h1,h⟩:=spl h
 obtain rfl:=sj h
 exact tF zTs 0 [0,1] (oDM M<|oB 1 h1 o0)
 have k:=oB 1 h1 o0
 obtain⟨h2,h⟩|⟨h2,h⟩:=spl h
 obtain rfl:=sj h
 exact tF zTs 0 [0,1] (oDM M<|oB 3 h2 k)
 obtain⟨x3,h4,h⟩:=zC h
 obtain rfl:=sj h
 exact tF zTs 1 [0,1] (oDM M<|oA 2 (xL (o:=.no) h4)<|oB 3 h2 k),⟨(lz rfl),⟨tv,tv,⟨tv,dT _⟩,tv⟩,tv⟩,(fMa (lz rfl) zB),tv,(fMf (lz rfl) zB)⟩
def F4(qq:Nat)(p0:Tm):Option (Tm×Int):=
 e52 qq p0>>=fun r1=>
 if r1 then
 some (p0,0)
 else
 some ((Tm.mk 0 0 []),2)
theorem zVd:Qf 212 Tryz.f212:=⟨Tryz.func212,rfl⟩
theorem zGx{qq p0 r}(h:F4 qq p0=some r):Ct 212 [] [tmA p0] (.tup [tmA r.1,ai r.2]) [] 0:=⟨by
 unfold F4 at h
 obtain⟨r1,h2,h⟩:=zC h
 obtain⟨h3,h⟩|⟨h3,h⟩:=spl h
 cases h
 exact tF zVd 3 [] (oD (dT p0.sub)<|oK 1 [] h3 (c52 h2) o0)
 cases h
 exact tF zVd 2 [] (oD (dT ([]:List Tm))<|oK 1 [] h3 (c52 h2) o0),⟨⟨tv,tv,⟨tv,dT _⟩,tv⟩,tv⟩,zB,⟨⟨tv,tv,dT _,tv⟩,tv,tv⟩,zB⟩
def zGw(qq:Nat)(M:yY)(p1:Tm):Option (Int×List Tm×Bool):=
 L4 qq p1>>=fun r1=>
 zBl qq M r1.1>>=fun r3=>
 if r3 != 2 then
 some (0,[],false)
 else
 zS M.own r1.1.n>>=fun x6=>
 if (r1.2.length:Int) != x6 then
 some (0,[],false)
 else
 some (r1.1.n,r1.2,true)
theorem zTr:Qf 213 Tryz.f213:=⟨Tryz.func213,rfl⟩
theorem zTq{qq M p1 r}(h:zGw qq M p1=some r):Ct 213 [mB M 1,mR M] [.mp 0 0,tmA p1] (.tup [ai r.1,.sl (zK zG r.2.1) r.2.1.length .no,ab r.2.2]) [mB M 1,mR M] 0:=⟨by
 unfold zGw at h
 obtain⟨r1,h2,h⟩:=zC h
 obtain⟨r3,h4,h⟩:=zC h
 have k:=oC 4 [0,1] (zNE h4)<|oC 1 [] (zDx h2) o0
 obtain⟨h5,h⟩|⟨h5,h⟩:=spl h
 cases h
 exact tF zTr 0 [0,1] (oD (dT ([]:List Tm))<|oDM M<|oB 0 h5 k)
 obtain⟨x6,h7,h⟩:=zC h
 have k:=oA 3 (nU (o:=.no) h7)<|oB 0 h5 k
 obtain⟨h8,h⟩|⟨h8,h⟩:=spl h
 cases h
 exact tF zTr 0 [0,1] (oD (dT ([]:List Tm))<|oDM M<|oB 1 h8 k)
 cases h
 exact tF zTr 1 [0,1] (oD (dT r1.2)<|oDM M<|oB 1 h8 k),⟨(lz rfl),⟨tv,tv,⟨tv,dT _⟩,tv⟩,tv⟩,(fMa (lz rfl) zB),⟨tv,dT _,tv,tv⟩,(fMf (lz rfl) zB)⟩
def e98(qq:Nat)(fl fu:Int):Option (Int×Int×Int):=
 zQd qq fl fu 1>>=fun r1=>
 some (r1.1,r1.2.1,r1.2.2)
theorem c98{qq fl fu r}(h:e98 qq fl fu=some r):Ct 98 [.cells [ai fl,ai fu]] [.mp 0 0] (ai r.1) [.cells [ai r.2.1,ai r.2.2]] 0:=⟨by
 unfold e98 at h
 obtain⟨r1,h2,h⟩:=zC h
 cases h
 exact tF ⟨Tryz.func98,rfl⟩ 0 [0] (oC 0 [0] (zXr h2) o0),⟨(lz rfl),tv⟩,(zA ⟨tv,tv,tv⟩ zB),tv,(zA ⟨tv,tv,tv⟩ zB)⟩
def zVc{ρ:Type}(f:Int->Int->Nat->Option ρ)(er:ρ->Int)(R:Int->Int->ρ)(k:Int):Prop:=
 (∀L U,k≤L->0≤U->L+U≤1099511627776->Evt (f L U) (R (L-k) (U+k)))∧(∀L U,0≤L->L<k->0≤U->L+U≤1099511627776->∃r,Evt (f L U) r∧er r=8)
def zTp{ρ:Type}(f:Int->Int->Nat->Option ρ)(er:ρ->Int)(l:Int):Prop:=∀U,0≤U->l+U≤1099511627776->∃r,Evt (f l U) r∧er r=8
def Ou{ρ:Type}(f:Int->Int->Nat->Option ρ)(er:ρ->Int)(Q:(Int->Int->ρ)->Int->Prop)(S:Prop)(l:Int):Prop:=
 (∃R k,0≤k∧k≤l∧Q R k∧zVc f er R k)∨(zTp f er l∧S)
section
variable {ρ σ τ:Type} {er:ρ->Int} {er':σ->Int} {Q:(Int->Int->ρ)->Int->Prop} {Q':(Int->Int->σ)->Int->Prop} {S S':Prop} {l:Int}
theorem Ou.imp{f g:Int->Int->Nat->Option ρ}(h:Ou f er Q S l)(k:∀L U r,Evt (f L U) r->Evt (g L U) r):Ou g er Q S l:=by
 rcases h with⟨R,n,h0,h1,h2,h3,h4⟩|⟨h,s⟩
 ·exact .inl ⟨R,n,h0,h1,h2,fun L U a b c=>k _ _ _ (h3 L U a b c),fun L U a b c d=>by obtain⟨r,x,y⟩:=h4 L U a b c d;exact⟨r,k _ _ _ x,y⟩⟩
 ·exact .inr ⟨fun U a b=>by obtain⟨r,x,y⟩:=h U a b;exact⟨r,k _ _ _ x,y⟩,s⟩
theorem Ou.mono{f:Int->Int->Nat->Option ρ}{Q2:(Int->Int->ρ)->Int->Prop}(h:Ou f er Q S l)(k:∀R n,0≤n->n≤l->Q R n->Q2 R n)(hs:S->S'):Ou f er Q2 S' l:=by
 rcases h with⟨R,n,h0,h1,h2,h3⟩|⟨h,s⟩
 ·exact .inl ⟨R,n,h0,h1,k R n h0 h1 h2,h3⟩
 ·exact .inr ⟨h,hs s⟩
theorem Ou.succ{f:Int->Int->Nat->Option ρ}(h:Ou (fun L U q=>f L U (q+1)) er Q S l):Ou f er Q S l:=h.imp fun _ _ _ h=>h.succ
theorem Ou.pure{x:Option τ}{a:τ}{c:Int->Int->Nat->τ->Option ρ}(h:x=some a)(g:Ou (fun L U q=>c L U q a) er Q S l):Ou (fun L U q=>x>>=c L U q) er Q S l:=g.imp fun _ _ _ k=>Evt.pure h k
theorem Ou.evt{x:Nat->Option τ}{a:τ}{c:Int->Int->Nat->τ->Option ρ}(h:Evt x a)(g:Ou (fun L U q=>c L U q a) er Q S l):Ou (fun L U q=>x q>>=c L U q) er Q S l:=g.imp fun _ _ _ k=>Evt.bind h k
theorem Ou.ite{b:Bool}{f g:Int->Int->Nat->Option ρ}(h:b=true->Ou f er Q S l)(k:b=false->Ou g er Q S l):Ou (fun L U q=>if b=true then f L U q else g L U q) er Q S l:=by
 cases b with
 |true=>exact(h rfl).imp fun _ _ _ x=>Evt.ifT rfl x
 |false=>exact(k rfl).imp fun _ _ _ x=>Evt.ifF rfl x
theorem Ou.ifT{b:Bool}{f g:Int->Int->Nat->Option ρ}(h:b=true)(k:Ou f er Q S l):Ou (fun L U q=>if b=true then f L U q else g L U q) er Q S l:=Ou.ite (fun _=>k) fun h'=>by rw[h]at h';cases h'
theorem Ou.ifF{b:Bool}{f g:Int->Int->Nat->Option ρ}(h:b=false)(k:Ou g er Q S l):Ou (fun L U q=>if b=true then f L U q else g L U q) er Q S l:=Ou.ite (fun h'=>by rw[h]at h';cases h') fun _=>k
theorem Ou.ret{R:Int->Int->ρ}(h:0≤l)(k:Q R 0):Ou (fun L U _=>some (R L U)) er Q S l:=
 .inl ⟨R,0,by omega,h,k,fun L U _ _ _=>by rw[show L-0=L by omega,show U+0=U by omega];exact Evt.ret,fun L U _ _=>by omega⟩
theorem Ou.bind{f:Int->Int->Nat->Option ρ}{c:Nat->ρ->Option σ}(h:Ou f er Q S l)(hs:S->S')(he:∀r,er r=8->∃r',Evt (fun q=>c q r) r'∧er' r'=8)
  (hg:∀R k,0≤k->k≤l->Q R k->Ou (fun L U q=>c q (R L U)) er' (fun R' n=>Q' R' (k+n)) S' (l-k)):Ou (fun L U q=>f L U q>>=c q) er' Q' S' l:=by
 rcases h with⟨R,k,h0,h1,h2,h3,h4⟩|⟨h,s⟩
 ·rcases hg R k h0 h1 h2 with⟨R',n,g0,g1,g2,g3,g4⟩|⟨g,s⟩
  ·refine .inl ⟨R',k+n,by omega,by omega,g2,fun L U a b c=>?_,fun L U a b c d=>?_⟩
   ·have:=g3 (L-k) (U+k) (by omega) (by omega) (by omega)
    rw[show L-(k+n)=L-k-n by omega,show U+(k+n)=U+k+n by omega]
    exact(h3 L U (by omega) b c).bind this
   ·by_cases e:L<k
    ·obtain⟨r,x,y⟩:=h4 L U a e c d
     obtain⟨r',x',y'⟩:=he r y
     exact⟨r',x.bind x',y'⟩
    ·obtain⟨r',x',y'⟩:=g4 (L-k) (U+k) (by omega) (by omega) (by omega) (by omega)
     exact⟨r',(h3 L U (by omega) c d).bind x',y'⟩
  ·refine .inr ⟨fun U a b=>?_,s⟩
   obtain⟨r',x',y'⟩:=g (U+k) (by omega) (by omega)
   exact⟨r',(h3 l U h1 a b).bind x',y'⟩
 ·refine .inr ⟨fun U a b=>?_,hs s⟩
  obtain⟨r,x,y⟩:=h U a b
  obtain⟨r',x',y'⟩:=he r y
  exact⟨r',x.bind x',y'⟩
end
theorem A3(L U:Int)(h0:0≤L)(h1:0≤U)(h2:L+U≤1099511627776):Evt (fun q=>e98 q L U) (if 1≤L then(0,L-1,U+1)else(8,L,U)):=by
 simp only[e98,zQd,N8,A1,A2]
 refine Evt.bind (a:=if 1≤L then(0,L-1,U+1)else(8,L,U)) ?_ Evt.ret
 refine Evt.ifF (by decide) (Evt.pure rfl ?_)
 by_cases h:1≤L
 ·rw[if_pos h]
  refine Evt.ifF (decide_eq_false (by omega)) (Evt.pure rfl (Evt.pure rfl (Evt.ret.eq ?_)))
  have e:w64 (0-1) = -1:=by decide
  rw[e,yJ (x:=U+1) (by omega) (by omega)]
  show ((0:Int),w64 (L + -1),U+1)=_
  rw[yJ (by omega) (by omega)];rfl
 ·rw[if_neg h]
  exact Evt.ifT (decide_eq_true (by omega)) Evt.ret
theorem zQc(l:Int)(h:0≤l):Ou (fun L U q=>e98 q L U) (fun r=>r.1) (fun R k=>k=1∧R=fun L U=>(0,L,U)) (l<1) l:=by
 by_cases h1:1≤l
 ·refine .inl ⟨fun L U=>(0,L,U),1,by omega,h1,⟨rfl,rfl⟩,fun L U a b c=>(A3 L U (by omega) b c).eq (if_pos a),fun L U a b c d=>⟨_,A3 L U a c d,?_⟩⟩
  rw[if_neg (by omega)]
 ·refine .inr ⟨fun U a b=>⟨_,A3 l U h a b,?_⟩,by omega⟩
  rw[if_neg h1]
def rM(l:List Ent)(t:Tm):Int:=if t.k=6 then(if t.n<l.length then(ent l t.n).kind else 0)else 0
theorem gJ(l:List Ent)(t:Tm)(h:0≤t.n):Evt (fun q=>zBl q (xH l) t) (rM l t):=by
 simp only[zBl,xH]
 unfold rM
 by_cases k:t.k=6
 ·rw[if_pos k]
  refine Evt.ifF (by simp[k]) ?_
  by_cases n:t.n<l.length
  ·rw[if_pos n];exact Evt.ifF (decide_eq_false (by omega)) (Evt.pure (yL h n) Evt.ret)
  ·rw[if_neg n];exact Evt.ifT (decide_eq_true (by omega)) Evt.ret
 ·rw[if_neg k];exact Evt.ifT (by simp[k]) Evt.ret
theorem tD{l:List Ent}{t:Tm}{k:Int}(h:rM l t=k)(hk:k≠0):t.k=6∧t.n<l.length∧(ent l t.n).kind=k:=by
 unfold rM at h
 split at h
 ·rename_i a
  split at h
  ·rename_i b;exact⟨a,b,h⟩
  ·exact absurd h.symm hk
 ·exact absurd h.symm hk
def zTo(t:Tm):Tm×Int:=if zL t=true then(t,0)else(zT,2)
theorem zGv(t:Tm)(ho:t.Ok):Evt (fun q=>F4 q t) (zTo t):=by
 simp only[F4]
 refine(yO t ho).bind ?_
 unfold zTo
 by_cases h:zL t=true
 ·rw[if_pos h,if_pos h];exact Evt.ret
 ·rw[if_neg h,if_neg h];exact Evt.ret
theorem gK{t:Tm}(h:xA t=true):0≤t.n:=by
 obtain⟨k,n,l⟩:=t
 exact(mS (wV h).1).1
theorem zQb{l:List Ent}{i:Int}(h0:0≤i)(h1:i<l.length):zS (xH l).own i=some (sD (ent l i)):=by
 have h:=yL (l:=l) h0 h1
 unfold zS at h ⊢
 rw[if_pos h0]at h ⊢
 show (l.map sD)[i.toNat]? = _
 rw[List.getElem?_map,h];rfl
theorem zNF{l:List Ent}{i:Int}(h0:0≤i)(h1:i<l.length):zS (xH l).args i=some (xS (ent l i)):=by
 have h:=yL (l:=l) h0 h1
 unfold zS at h ⊢
 rw[if_pos h0]at h ⊢
 show (l.map xS)[i.toNat]? = _
 rw[List.getElem?_map,h];rfl
def vW(l:List Ent)(t:Tm):Prop:=rM l (hdT t)=2∧(arT t).length=uW (ent l (hdT t).n).type
instance (l:List Ent) (t:Tm):Decidable (vW l t):=inferInstanceAs (Decidable (_∧_))
def jN(l:List Ent)(t:Tm):Int×List Tm×Bool:=if vW l t then((hdT t).n,arT t,true)else(0,[],false)
theorem N9(l:List Ent)(t:Tm)(hs:zL t=true):Evt (fun q=>zGw q (xH l) t) (jN l t):=by
 simp only[zGw]
 have hn:=gK (zQ (uU hs)).2.2
 refine(nF t hs).bind ((gJ l _ hn).bind ?_)
 by_cases h:rM l (hdT t)=2
 ·have hk:=tD h (by decide)
  refine Evt.ifF (by simp[h]) (Evt.pure (zQb hn hk.2.1) ?_)
  have e:sD (ent l (hdT t).n)=uW (ent l (hdT t).n).type:=by unfold sD;rw[if_pos hk.2.2]
  by_cases h2:(arT t).length=uW (ent l (hdT t).n).type
  ·have c:jN l t=((hdT t).n,arT t,true):=if_pos ⟨h,h2⟩
   rw[c]
   exact Evt.ifF (by rw[e];simp[h2]) Evt.ret
  ·have c:jN l t=(0,[],false):=if_neg (fun h'=>h2 h'.2)
   rw[c]
   exact Evt.ifT (by rw[e];simp;omega) Evt.ret
 ·have c:jN l t=(0,[],false):=if_neg (fun h'=>h h'.1)
  rw[c]
  exact Evt.ifT (by simp[h]) Evt.ret
theorem vL{l:List Ent}{t:Tm}(hs:zL t=true)(h:vW l t):0≤(hdT t).n∧(hdT t).n<l.length∧(ent l (hdT t).n).kind=2∧(arT t).length=uW (ent l (hdT t).n).type:=by
 have hk:=tD h.1 (by decide)
 exact⟨gK (zQ (uU hs)).2.2,hk.2.1,hk.2.2,h.2⟩
def A4(qq:Nat)(q0:Int)(q1:Bool)(q2 q3 q4:Int)(q5:List Tm)(p1:Tm)(p2:Int):Option (Tm×Int×Bool):=
 zFd qq p1>>=fun r1=>
 if decide ((w64 (q0-r1))<0)then
 w6 qq 0>>=fun r4=>
 some (r4,(w64 (q0-r1)),true)
 else
 zDv qq p1 p2>>=fun r6=>
 if r6.2 != 0 then
 w6 qq 0>>=fun r9=>
 some (r9,(w64 (q0-r1)),true)
 else
 some (r6.1,(w64 (q0-r1)),q1)
theorem zBk:Qf 82 Tryz.f82:=⟨Tryz.func82,rfl⟩
theorem zQa{qq q0 q1 q2 q3 q4 q5 p1 p2 r}(h:A4 qq q0 q1 q2 q3 q4 q5 p1 p2=some r):Ct 82 [.cells [ai q0,ab q1,.clo 81 [] [.mp 1 0,.mp 2 0,.mp 3 0]],.cells [ai q2],.cells [.mp 0 0],.cells [ai q3,ai q4,slv zG q5 .no]] [.mp 0 0,tmA p1,ai p2] (tmA r.1) [.cells [ai r.2.1,ab r.2.2,.clo 81 [] [.mp 1 0,.mp 2 0,.mp 3 0]],.cells [ai q2],.cells [.mp 0 0],.cells [ai q3,ai q4,slv zG q5 .no]] 0:=⟨by
 unfold A4 at h
 obtain⟨r1,h2,h⟩:=zC h
 have k:=oC 1 [] (zSc h2)<|oCl 0 o0
 obtain⟨h3,h⟩|⟨h3,h⟩:=spl h
 obtain⟨r4,h5,h⟩:=zC h
 cases h
 exact tF zBk 1 [0,1,2,3] (oD (dT r4.sub)<|oD (dT q5)<|oC 1 [] (zFC h5)<|oB 3 h3 k)
 obtain⟨r6,h7,h⟩:=zC h
 have k:=oC 1 [] (zPg h7)<|oB 3 h3 k
 obtain⟨h8,h⟩|⟨h8,h⟩:=spl h
 obtain⟨r9,h10,h⟩:=zC h
 cases h
 exact tF zBk 1 [0,1,2,3] (oD (dT r9.sub)<|oD (dT q5)<|oC 1 [] (zFC h10)<|oB 3 h8 k)
 cases h
 exact tF zBk 2 [0,1,2,3] (oD (dT r6.1.sub)<|oD (dT q5)<|oB 3 h8 k),⟨(lz rfl),⟨tv,tv,⟨tv,dT _⟩,tv⟩,tv,tv⟩,(zA ⟨tv,tv,⟨tv,⟨(lz rfl),(lz rfl),(lz rfl),tv⟩⟩,tv⟩ (zA ⟨tv,tv⟩ (zA ⟨(lz rfl),tv⟩ (zA ⟨tv,tv,⟨tv,dT _⟩,tv⟩ zB)))),⟨tv,tv,dT _,tv⟩,(zA ⟨tv,tv,⟨tv,⟨(lz rfl),(lz rfl),(lz rfl),tv⟩⟩,tv⟩ (zA ⟨tv,tv⟩ (zA ⟨(lz rfl),tv⟩ (zA ⟨tv,tv,dT _,tv⟩ zB))))⟩
def A5(qq:Nat)(p0:Tm)(p1 q2 q3:Int)(q4:Bool)(q5 q6:Int)(q7:List Tm):Option (Tm×Bool×Int×Bool):=
 if p0.k != 8 then
 some ((Tm.mk 0 0 []),false,q3,q4)
 else
 if p0.n != q2 then
 some ((Tm.mk 0 0 []),false,q3,q4)
 else
 A4 qq q3 q4 q2 q5 q6 q7 (Tm.mk q5 q6 q7) p1>>=fun r3=>
 some (r3.1,true,r3.2.1,r3.2.2)
theorem zBj:Qf 81 Tryz.f81:=⟨Tryz.func81,rfl⟩
theorem zQA{qq p0 p1 q2 q3 q4 q5 q6 q7 r}(h:A5 qq p0 p1 q2 q3 q4 q5 q6 q7=some r):Ct 81 [.cells [ai q2],.cells [.mp 2 0],.cells [ai q3,ab q4,.clo 81 [] [.mp 0 0,.mp 1 0,.mp 3 0]],.cells [ai q5,ai q6,slv zG q7 .no]] [tmA p0,ai p1,.mp 0 0,.mp 1 0,.mp 3 0] (.tup [tmA r.1,ab r.2.1]) [.cells [ai q2],.cells [.mp 2 0],.cells [ai r.2.2.1,ab r.2.2.2,.clo 81 [] [.mp 0 0,.mp 1 0,.mp 3 0]],.cells [ai q5,ai q6,slv zG q7 .no]] 0:=⟨by
 unfold A5 at h
 obtain⟨h1,h⟩|⟨h1,h⟩:=spl h
 cases h
 exact tF zBj 1 [0,1,2,3] (oD (dT ([]:List Tm))<|oD (dT q7)<|oB 1 h1 o0)
 have k:=oB 1 h1 o0
 obtain⟨h2,h⟩|⟨h2,h⟩:=spl h
 cases h
 exact tF zBj 1 [0,1,2,3] (oD (dT ([]:List Tm))<|oD (dT q7)<|oB 2 h2 k)
 obtain⟨r3,h4,h⟩:=zC h
 cases h
 exact tF zBj 1 [0,1,2,3] (oD (dT r3.1.sub)<|oD (dT q7)<|oC 2 [2,0,1,3] (zQa h4)<|oB 2 h2 k),⟨⟨tv,tv,⟨tv,dT _⟩,tv⟩,tv,(lz rfl),(lz rfl),(lz rfl),tv⟩,(zA ⟨tv,tv⟩ (zA ⟨(lz rfl),tv⟩ (zA ⟨tv,tv,⟨tv,⟨(lz rfl),(lz rfl),(lz rfl),tv⟩⟩,tv⟩ (zA ⟨tv,tv,⟨tv,dT _⟩,tv⟩ zB)))),⟨⟨tv,tv,dT _,tv⟩,tv,tv⟩,(zA ⟨tv,tv⟩ (zA ⟨(lz rfl),tv⟩ (zA ⟨tv,tv,⟨tv,⟨(lz rfl),(lz rfl),(lz rfl),tv⟩⟩,tv⟩ (zA ⟨tv,tv,dT _,tv⟩ zB))))⟩
mutual
def rZ:Nat->Int->Bool->Int->Int->Int->List Tm->Tm->Int->Option (Tm×Int×Bool)
 |0,_,_,_,_,_,_,_,_=>none
 |qq+1,q0,q1,q2,q3,q4,q5,p1,p2=>
 if q1 then
 w6 qq 0>>=fun r2=>
 some (r2,q0,q1)
 else
 A5 qq p1 p2 q2 q0 q1 q3 q4 q5>>=fun r4=>
 if r4.2.1 then
 some (r4.1,r4.2.2.1,r4.2.2.2)
 else
 if decide ((w64 (r4.2.2.1-1))<0)then
 vE qq q2 q3 q4 q5 p1 p2 0 (w64 (r4.2.2.1-1)) true []
 else
 vE qq q2 q3 q4 q5 p1 p2 0 (w64 (r4.2.2.1-1)) r4.2.2.2 []
def vE:Nat->Int->Int->Int->List Tm->Tm->Int->Int->Int->Bool->List Tm->Option (Tm×Int×Bool)
 |0,_,_,_,_,_,_,_,_,_,_=>none
 |qq+1,q2,q3,q4,q5,p1,p2,v53,yA,wO,A6=>
 if decide (v53<(p1.sub.length:Int))then
 zS p1.sub v53>>=fun x9=>
 if v53==1 then
 if p1.k != 5 then
 rZ qq yA wO q2 q3 q4 q5 x9 (w64 (p2+1))>>=fun r13=>
 yN 40 A6 [r13.1]>>=fun l15=>
 vE qq q2 q3 q4 q5 p1 p2 (w64 (v53+1)) r13.2.1 r13.2.2 l15
 else
 rZ qq yA wO q2 q3 q4 q5 x9 p2>>=fun r17=>
 yN 40 A6 [r17.1]>>=fun l19=>
 vE qq q2 q3 q4 q5 p1 p2 (w64 (v53+1)) r17.2.1 r17.2.2 l19
 else
 rZ qq yA wO q2 q3 q4 q5 x9 p2>>=fun r21=>
 yN 40 A6 [r21.1]>>=fun l23=>
 vE qq q2 q3 q4 q5 p1 p2 (w64 (v53+1)) r21.2.1 r21.2.2 l23
 else
 some ((Tm.mk p1.k p1.n A6),yA,wO)
end
abbrev A7 (q0:Int) (q1:Bool) (q2 q3 q4:Int) (q5:List Tm) (p1:Tm) (p2:Int) (r:Tm×Int×Bool) (C:Cf):Prop:=C 109 [.cells [ai q0,ab q1,.clo 81 [] [.mp 1 0,.mp 2 0,.mp 3 0]],.cells [ai q2],.cells [.mp 0 0],.cells [ai q3,ai q4,slv zG q5 .no]] [.mp 0 0,tmA p1,ai p2] (tmA r.1) [.cells [ai r.2.1,ab r.2.2,.clo 81 [] [.mp 1 0,.mp 2 0,.mp 3 0]],.cells [ai q2],.cells [.mp 0 0],.cells [ai q3,ai q4,slv zG q5 .no]] 0
theorem A8:Qf 109 Tryz.f109:=⟨Tryz.func109,rfl⟩
theorem A9{q0 q1 q2 q3 q4 q5 p1 p2 r}(h:A7 q0 q1 q2 q3 q4 q5 p1 p2 r Ci):A7 q0 q1 q2 q3 q4 q5 p1 p2 r Ct:=⟨h,⟨(lz rfl),⟨tv,tv,⟨tv,dT _⟩,tv⟩,tv,tv⟩,(zA ⟨tv,tv,⟨tv,⟨(lz rfl),(lz rfl),(lz rfl),tv⟩⟩,tv⟩ (zA ⟨tv,tv⟩ (zA ⟨(lz rfl),tv⟩ (zA ⟨tv,tv,⟨tv,dT _⟩,tv⟩ zB)))),⟨tv,tv,dT _,tv⟩,(zA ⟨tv,tv,⟨tv,⟨(lz rfl),(lz rfl),(lz rfl),tv⟩⟩,tv⟩ (zA ⟨tv,tv⟩ (zA ⟨(lz rfl),tv⟩ (zA ⟨tv,tv,dT _,tv⟩ zB))))⟩
theorem eM:∀qq:Nat,(∀ {q0 q1 q2 q3 q4 q5 p1 p2 r},rZ qq q0 q1 q2 q3 q4 q5 p1 p2=some r->A7 q0 q1 q2 q3 q4 q5 p1 p2 r Ct)∧(∀ {q2 q3 q4 q5 p1 p2 v53 yA wO A6 r},vE qq q2 q3 q4 q5 p1 p2 v53 yA wO A6=some r->(∀j,dL 4 (pt 262069 Tryz.f109) (sp j 79 0 [(0,.mp 0 0),(2,ai p2),(4,.mp 4 0),(6,.mp 5 0),(9,.mp 6 0),(51,slv zG p1.sub .no),(52,ai (p1.sub.length:Int)),(53,ai v53)]) (⟨[(0,.cells [ai yA,ab wO,.clo 81 [] [.mp 1 0,.mp 2 0,.mp 3 0]]),(1,.cells [ai q2]),(2,.cells [.mp 0 0]),(3,.cells [ai q3,ai q4,slv zG q5 .no]),(4,.cells [ai p1.k,ai p1.n,slv zG p1.sub .no]),(5,.cells [ai 0,ai 0,slv zG ([]:List Tm) .nl]),(6,.cells [ai p1.k,ai p1.n,slv zG A6 (.st 0 3)])],7,[0],1,[]⟩) (fQ 4 (nQ 4 Tryz.f109 (tmA r.1) [.cells [ai r.2.1,ab r.2.2,.clo 81 [] [.mp 1 0,.mp 2 0,.mp 3 0]],.cells [ai q2],.cells [.mp 0 0],.cells [ai q3,ai q4,slv zG q5 .no]] 0) [.blk 0,.seq (pt 4095 Tryz.f109)]))):=by
 intro qq
 induction qq with
 |zero=>
  exact⟨fun h=>nn h,fun h=>nn h⟩
 |succ qq ih=>
  obtain⟨F5,qA⟩:=ih
  refine⟨?_,?_⟩
  intro q0 q1 q2 q3 q4 q5 p1 p2 r h
  rw[rZ]at h
  have z {os ob} (k:Oz os ob):=oD (dT p1.sub)<|oD (dT ([]:List Tm))<|oD (dT ([]:List Tm))<|oD (dT p1.sub)<|oD (dT q5)<|k
  obtain⟨h1,h⟩|⟨h1,h⟩:=spl h
  obtain⟨r2,h3,h⟩:=zC h
  cases h
  exact A9 (tF A8 1 [0,1,2,3] (oD (dT r2.sub)<|oD (dT q5)<|oC 0 [] (zFC h3)<|oB 0 h1 o0))
  obtain⟨r4,h5,h⟩:=zC h
  have k:=oC 2 [1,2,0,3] (zQA h5)<|oB 0 h1 o0
  obtain⟨h6,h⟩|⟨h6,h⟩:=spl h
  cases h
  exact A9 (tF A8 3 [0,1,2,3] (oD (dT r4.1.sub)<|oD (dT q5)<|oB 1 h6 k))
  have k:=oB 1 h6 k
  obtain⟨h7,h⟩|⟨h7,h⟩:=spl h
  exact A9 (tH A8 6 [(some 7,2,3)] [0,1,2,3,4,5,7] [0] [0,2,4,6,9,51,52,53] (z<|oB 5 h7 k) (qA h))
  exact A9 (tH A8 5 [(some 7,2,3)] [0,1,2,3,4,5,7] [0] [0,2,4,6,9,51,52,53] (z<|oB 5 h7 k) (qA h))
  intro q2 q3 q4 q5 p1 p2 v53 yA wO A6 r h
  rw[vE]at h
  have z {os ob} (k:Oz os ob):=oD (dT ([]:List Tm))<|oD (dT p1.sub)<|oD (dT q5)<|k
  obtain⟨h8,h⟩|⟨h8,h⟩:=spl h
  obtain⟨x9,h10,h⟩:=zC h
  have k:=oA 0 (xB (o:=.no) h10)<|oB 0 h8 o0
  obtain⟨h11,h⟩|⟨h11,h⟩:=spl h
  have k:=oB 2 h11 k
  obtain⟨h12,h⟩|⟨h12,h⟩:=spl h
  obtain⟨r13,h14,h⟩:=zC h
  obtain⟨l15,h16,h⟩:=zC h
  exact fun j=>lH 2 [] [0,1,2,3,4,5,6] [1] [0,2,4,6,9,51,52,53] (oD (dT p1.sub)<|oD (dT l15)<|z<|oP 0 (vD h16 (by simp))<|oS 0 (xI xN [r13.1])<|oC 1 [0,1,2,3] (F5 h14)<|oCl 1<|oB 1 h12 k) (qA h)
  obtain⟨r17,h18,h⟩:=zC h
  obtain⟨l19,h20,h⟩:=zC h
  exact fun j=>lH 2 [] [0,1,2,3,4,5,6] [1] [0,2,4,6,9,51,52,53] (oD (dT p1.sub)<|oD (dT l19)<|z<|oP 0 (vD h20 (by simp))<|oS 0 (xI xN [r17.1])<|oC 1 [0,1,2,3] (F5 h18)<|oCl 0<|oB 1 h12 k) (qA h)
  obtain⟨r21,h22,h⟩:=zC h
  obtain⟨l23,h24,h⟩:=zC h
  exact fun j=>lH 2 [] [0,1,2,3,4,5,6] [1] [0,2,4,6,9,51,52,53] (oD (dT p1.sub)<|oD (dT l23)<|z<|oP 0 (vD h24 (by simp))<|oS 0 (xI xN [r21.1])<|oC 1 [0,1,2,3] (F5 h22)<|oCl 0<|oB 2 h11 k) (qA h)
  cases h
  exact fun j=>lF 2 [0,1,2,3] (oD (dT A6)<|oD (dT q5)<|oB 0 h8 o0)
theorem zNG{qq q0 q1 q2 q3 q4 q5 p1 p2 r}(h:rZ qq q0 q1 q2 q3 q4 q5 p1 p2=some r):A7 q0 q1 q2 q3 q4 q5 p1 p2 r Ct:=(eM _).1 h
theorem zDO:∀ {l:List Tm} {t:Tm},OkL l->t.Ok->OkL (l++[t])
 | [],t,_,h=>⟨h,trivial⟩
 |a::l,t,h,ht=>⟨h.1,zDO h.2 ht⟩
def e78(qq:Nat)(p0:Int):Option Bool:=
 if decide (p0≥0)then
 some (decide (p0≤1048576))
 else
 some false
theorem q78:Qf 78 Tryz.f78:=⟨Tryz.func78,rfl⟩
theorem c78{qq p0 r}(h:e78 qq p0=some r):Ct 78 [] [ai p0] (ab r) [] 0:=⟨by
 unfold e78 at h
 obtain⟨h1,h⟩|⟨h1,h⟩:=spl h
 cases h
 exact tF q78 1 [] (oB 0 h1 o0)
 cases h
 exact tF q78 0 [] (oB 0 h1 o0),⟨tv,tv⟩,zB,tv,zB⟩
def zBi(qq:Nat)(q0:Int)(q1:Bool)(q2 q3 q4:Int)(q5:List Tm):Option Unit:=
 some ()
theorem zQB{qq q0 q1 q2 q3 q4 q5 r}(h:zBi qq q0 q1 q2 q3 q4 q5=some r):Ct 80 [.cells [ai q0,ab q1,.val .nilFunc],.cells [ai q2],.cells [ai q3,ai q4,slv zG q5 .no]] [.mp 0 0,.mp 1 0,.mp 2 0] (.clo 81 [] [.mp 1 0,.mp 3 0,.mp 2 0]) [.cells [ai q0,ab q1,.val .nilFunc],.cells [ai q2],.cells [ai q3,ai q4,slv zG q5 .no],.cells [.mp 0 0]] 0:=⟨by
 unfold zBi at h
 cases h
 exact tF ⟨Tryz.func80,rfl⟩ 0 [0,1,2,3] (oD (dT q5) o0),⟨(lz rfl),(lz rfl),(lz rfl),tv⟩,(zA ⟨tv,tv,tv,tv⟩ (zA ⟨tv,tv⟩ (zA ⟨tv,tv,⟨tv,dT _⟩,tv⟩ zB))),⟨tv,⟨(lz rfl),(lz rfl),(lz rfl),tv⟩⟩,(zA ⟨tv,tv,tv,tv⟩ (zA ⟨tv,tv⟩ (zA ⟨tv,tv,dT _,tv⟩ (zA ⟨(lz rfl),tv⟩ zB))))⟩
def O0(qq:Nat)(p0:Tm)(q1 q2 q3:Int)(q4:List Tm):Option (Tm×Int):=
 zBi qq 8192 false q1 q2 q3 q4>>=fun r1=>
 rZ qq 8192 false q1 q2 q3 q4 p0 0>>=fun r3=>
 if r3.2.2 then
 some ((Tm.mk 0 0 []),2)
 else
 e52 qq r3.1>>=fun r6=>
 if r6 then
 some (r3.1,0)
 else
 some ((Tm.mk 0 0 []),2)
theorem zBh:Qf 79 Tryz.f79:=⟨Tryz.func79,rfl⟩
theorem zQC{qq p0 q1 q2 q3 q4 r}(h:O0 qq p0 q1 q2 q3 q4=some r):Ct 79 [.cells [ai q1],.cells [ai q2,ai q3,slv zG q4 .no]] [tmA p0,.clo 80 [] [.mp 0 0,.mp 1 0]] (.tup [tmA r.1,ai r.2]) [.cells [ai q1],.cells [ai q2,ai q3,slv zG q4 .no]] 0:=⟨by
 unfold O0 at h
 obtain⟨r1,h2,h⟩:=zC h
 obtain⟨r3,h4,h⟩:=zC h
 have k:=oC 2 [4,0,5,1] (zNG h4)<|oC 0 [4,0,1] (zQB h2) o0
 obtain⟨h5,h⟩|⟨h5,h⟩:=spl h
 cases h
 exact tF zBh 1 [0,1] (oD (dT ([]:List Tm))<|oD (dT q4)<|oB 1 h5 k)
 obtain⟨r6,h7,h⟩:=zC h
 have k:=oB 1 h5 k
 obtain⟨h8,h⟩|⟨h8,h⟩:=spl h
 cases h
 exact tF zBh 3 [0,1] (oD (dT r3.1.sub)<|oD (dT q4)<|oK 1 [] h8 (c52 h7) k)
 cases h
 exact tF zBh 2 [0,1] (oD (dT ([]:List Tm))<|oD (dT q4)<|oK 1 [] h8 (c52 h7) k),⟨⟨tv,tv,⟨tv,dT _⟩,tv⟩,⟨tv,⟨(lz rfl),(lz rfl),tv⟩⟩,tv⟩,(zA ⟨tv,tv⟩ (zA ⟨tv,tv,⟨tv,dT _⟩,tv⟩ zB)),⟨⟨tv,tv,dT _,tv⟩,tv,tv⟩,(zA ⟨tv,tv⟩ (zA ⟨tv,tv,dT _,tv⟩ zB))⟩
def e54(qq:Nat)(p0 p1:Tm)(p2:Int):Option (Tm×Int):=
 e52 qq p0>>=fun r1=>
 if r1 then
 e52 qq p1>>=fun r4=>
 if r4 then
 e78 qq p2>>=fun r7=>
 if r7 then
 O0 qq p0 p2 p1.k p1.n p1.sub>>=fun r10=>
 some (r10.1,r10.2)
 else
 some ((Tm.mk 0 0 []),5)
 else
 some ((Tm.mk 0 0 []),5)
 else
 some ((Tm.mk 0 0 []),5)
theorem q54:Qf 54 Tryz.f54:=⟨Tryz.func54,rfl⟩
theorem c54{qq p0 p1 p2 r}(h:e54 qq p0 p1 p2=some r):Ct 54 [] [tmA p0,tmA p1,ai p2] (.tup [tmA r.1,ai r.2]) [] 0:=⟨by
 unfold e54 at h
 obtain⟨r1,h2,h⟩:=zC h
 obtain⟨h3,h⟩|⟨h3,h⟩:=spl h
 obtain⟨r4,h5,h⟩:=zC h
 have k:=oK 1 [] h3 (c52 h2) o0
 obtain⟨h6,h⟩|⟨h6,h⟩:=spl h
 obtain⟨r7,h8,h⟩:=zC h
 have k:=oK 2 [] h6 (c52 h5) k
 obtain⟨h9,h⟩|⟨h9,h⟩:=spl h
 obtain⟨r10,h11,h⟩:=zC h
 cases h
 exact tF q54 3 [] (oD (dT r10.1.sub)<|oC 2 [2,1] (zQC h11)<|oK 2 [] h9 (c78 h8) k)
 cases h
 exact tF q54 2 [] (oD (dT ([]:List Tm))<|oK 2 [] h9 (c78 h8) k)
 cases h
 exact tF q54 2 [] (oD (dT ([]:List Tm))<|oK 2 [] h6 (c52 h5) k)
 cases h
 exact tF q54 2 [] (oD (dT ([]:List Tm))<|oK 1 [] h3 (c52 h2) o0),⟨⟨tv,tv,⟨tv,dT _⟩,tv⟩,⟨tv,tv,⟨tv,dT _⟩,tv⟩,tv,tv⟩,zB,⟨⟨tv,tv,dT _,tv⟩,tv,tv⟩,zB⟩
mutual
def naT(a:Tm)(n:Int):Tm->Int->Tm
 | .mk k m l,b=>if k=8∧m=n then lfT a 0 0 b else .mk k m (naL a n l k 0 b)
def naL(a:Tm)(n:Int):List Tm->Int->Nat->Int->List Tm
 | [],_,_,_=>[]
 |t::l,k,i,b=>naT a n t (xO k i b)::naL a n l k (i+1) b
end
theorem zDP(q0:Int)(q1:Bool)(q2 q3 q4:Int)(q5:List Tm)(a:Tm)(b:Int)(ho:a.Ok):Tot (fun q=>A4 q q0 q1 q2 q3 q4 q5 a b) fun r=>r.1.Ok∧(r.2.2=false->q1=false∧r.1=lfT a 0 0 b):=by
 simp only[A4]
 refine Tot.bind (P:=fun _=>True) ((zAT a ho).tot trivial) fun _ _=>Tot.ite (fun _=>?_) fun _=>?_
 ·exact Tot.bind (P:=fun y=>y.Ok) ((fV 0).tot (xK 2 0)) fun y hy=>Tot.ret ⟨hy,fun h=>by cases h⟩
 ·refine Tot.bind (P:=fun y=>y=vU a b 0) ((zHg a b ho).tot rfl) fun y hy=>Tot.ite (fun _=>?_) fun h=>Tot.ret ?_
  ·exact Tot.bind (P:=fun y=>y.Ok) ((fV 0).tot (xK 2 0)) fun y hy=>Tot.ret ⟨hy,fun h=>by cases h⟩
  ·subst hy
   exact⟨lK a b 0 ho,fun hq=>⟨hq,(gF (by simpa using h)).2.2.2.2⟩⟩
theorem zDQ(p0:Tm)(p1 q2 q3:Int)(q4:Bool)(a:Tm)(ho:a.Ok):Tot (fun q=>A5 q p0 p1 q2 q3 q4 a.k a.n a.sub) fun r=>r.1.Ok∧(r.2.1=false->¬(p0.k=8∧p0.n=q2)∧r.2.2.1=q3∧r.2.2.2=q4)∧(r.2.1=true->p0.k=8∧p0.n=q2∧(r.2.2.2=false->q4=false∧r.1=lfT a 0 0 p1)):=by
 simp only[A5,sC]
 refine Tot.ite (fun h=>Tot.ret ⟨xK 0 0,fun _=>⟨fun h'=>?_,rfl,rfl⟩,fun h=>by cases h⟩) fun h8=>Tot.ite (fun h=>Tot.ret ⟨xK 0 0,fun _=>⟨fun h'=>?_,rfl,rfl⟩,fun h=>by cases h⟩) fun hn=>?_
 ·rw[h'.1]at h;simp at h
 ·rw[h'.2]at h;simp at h
 ·exact(zDP _ _ _ _ _ _ a p1 ho).bind fun r hr=>Tot.ret ⟨hr.1,fun h=>(by cases h),fun _=>⟨by simpa using h8,by simpa using hn,hr.2⟩⟩
mutual
theorem fZ(a:Tm)(ha:a.Ok)(n:Int):∀(t:Tm) (b left:Int) (long:Bool),xA t=true->0≤b->b+t.high≤1152921504606846976->Tot (fun q=>rZ q left long n a.k a.n a.sub t b) fun r=>r.1.Ok∧(r.2.2=false->long=false∧r.1=naT a n t b)
 | .mk k m l,b,left,long,hg,hb,hb2=>by
  have hh:=wV hg
  have hn:=mS hh.1
  rw[Tm.high]at hb2
  refine Tot.succ ?_
  simp only[rZ]
  refine Tot.ite (fun hl=>Tot.bind (P:=fun y=>y.Ok) ((fV 0).tot (xK 2 0)) fun y hy=>Tot.ret ⟨hy,fun h=>by rw[hl]at h;cases h⟩) fun hl=>?_
  refine(zDQ (.mk k m l) b n left long a ha).bind fun r hr=>Tot.ite (fun h=>Tot.ret ⟨hr.1,fun h2=>?_⟩) fun h=>?_
  ·obtain⟨h3,h4,h5⟩:=hr.2.2 h
   refine⟨(h5 h2).1,?_⟩
   rw[naT,if_pos ⟨h3,h4⟩]
   exact(h5 h2).2
  ·obtain⟨h3,h4,h5⟩:=hr.2.1 (by simpa using h)
   have e:naT a n (.mk k m l) b = .mk k m (naL a n l k 0 b):=by rw[naT];exact if_neg h3
   refine Tot.ite (fun _=>?_) fun _=>?_
   ·exact(cH a ha n l (.mk k m l) b 0 _ true [] rfl hn.2.2.2.2 hh.2 rfl (by simp) trivial hb (by omega)).mono fun r hr=>⟨hr.1,fun h=>by cases (hr.2 h).1⟩
   ·refine(cH a ha n l (.mk k m l) b 0 _ _ [] rfl hn.2.2.2.2 hh.2 rfl (by simp) trivial hb (by omega)).mono fun r hr=>⟨hr.1,fun h=>⟨by rw[←h5];exact(hr.2 h).1,?_⟩⟩
    rw[(hr.2 h).2,e];rfl
theorem cH(a:Tm)(ha:a.Ok)(n:Int):∀(r:List Tm) (p:Tm) (b:Int) (v:Nat) (left:Int) (long:Bool) (acc:List Tm),p.sub.drop v=r->p.sub.length≤2->wK r=true->acc.length=v->v≤p.sub.length->OkL acc->0≤b->b+1+wY r≤1152921504606846976->Tot (fun q=>vE q n a.k a.n a.sub p b (v:Int) left long acc) fun x=>x.1.Ok∧(x.2.2=false->long=false∧x.1 = .mk p.k p.n (acc++naL a n r p.k v b))
 | [],p,b,v,left,long,acc,hd,hl,hr,hac,hv,hb,h0,h1=>by
  refine Tot.succ ?_
  simp only[vE]
  refine Tot.ite (fun h=>?_) fun _=>Tot.ret ⟨?_,fun h=>⟨h,?_⟩⟩
  ·rw[zZ hd]at h;cases h
  ·show (Tm.mk p.k p.n acc).Ok
   rw[Tm.Ok];exact⟨by omega,hb⟩
  ·rw[naL,List.append_nil]
 |t::r,p,b,v,left,long,acc,hd,hl,hr,hac,hv,hb,h0,h1=>by
  have hlt:=yC hd
  have hg:=xW hr
  rw[wY]at h1
  have next:∀(y:Tm×Int×Bool),y.1.Ok∧(y.2.2=false->long=false∧y.1=naT a n t (xO p.k v b))->Tot (fun q=>yN 40 acc [y.1]>>=fun l=>vE q n a.k a.n a.sub p b (w64 ((v:Int)+1)) y.2.1 y.2.2 l) fun x=>x.1.Ok∧(x.2.2=false->long=false∧x.1 = .mk p.k p.n (acc++naL a n (t::r) p.k v b)):=fun y hy=>by
   rw[zW v (by omega)]
   refine Tot.pure (yG (by simp;omega)) ((cH a ha n r p b (v+1) _ _ _ (zU hd) hl hg.2 (by simp;omega) hlt (zDO hb hy.1) h0 (by omega)).mono fun x hx=>⟨hx.1,fun h=>?_⟩)
   obtain⟨h2,h3⟩:=hx.2 h
   obtain⟨h4,h5⟩:=hy.2 h2
   refine⟨h4,?_⟩
   rw[h3,h5,naL];simp
  refine Tot.succ ?_
  simp only[vE]
  refine Tot.ite (fun _=>Tot.pure (zX hd) (Tot.ite (fun h2=>Tot.ite (fun h5=>?_) fun h5=>?_) fun h2=>?_)) fun h=>?_
  ·have hv1:v=1:=by have:=eq_of_beq h2;omega
   have e:xO p.k v b=b+1:=by unfold xO;simp at h5;simp[h5,hv1]
   rw[yJ (x:=b+1) (by omega) (by omega)]
   rw[e]at next
   exact(fZ a ha n t _ left long hg.1 (by omega) (by omega)).bind fun y hy=>next y hy
  ·have e:xO p.k v b=b:=by unfold xO;simp at h5;simp[h5]
   rw[e]at next
   exact(fZ a ha n t _ left long hg.1 h0 (by omega)).bind fun y hy=>next y hy
  ·have e:xO p.k v b=b:=by unfold xO;rw[if_neg];intro h;have h1:=h.1;subst h1;simp at h2
   rw[e]at next
   exact(fZ a ha n t _ left long hg.1 h0 (by omega)).bind fun y hy=>next y hy
  ·rw[zY hd]at h;cases h
end
def NaX(t a:Tm)(n:Int)(r:Tm×Int):Prop:=r.1.Ok∧r.2≠8∧(r.2=0->zL t=true∧zL a=true∧0≤n∧n≤1048576∧zL (naT a n t 0)=true∧r.1=naT a n t 0)∧(r.2=0∨r.2=2∨r.2=5)∧(zL t=true->zL a=true->0≤n->n≤1048576->r.2≠5)
theorem nK(t a:Tm)(n:Int)(ht:t.Ok)(ha:a.Ok):Tot (fun q=>e54 q t a n) (NaX t a n):=by
 have z:=xK 0 0
 simp only[e54]
 refine Tot.bind (P:=fun b=>b=zL t) ((yO t ht).tot rfl) fun b hb=>Tot.ite (fun h=>?_) fun h=>Tot.ret ⟨z,by decide,fun h=>(by cases h),.inr (.inr rfl),fun h1=>by rw[hb,h1]at h;cases h⟩
 refine Tot.bind (P:=fun b=>b=zL a) ((yO a ha).tot rfl) fun b2 hb2=>Tot.ite (fun h2=>?_) fun h2=>Tot.ret ⟨z,by decide,fun h=>(by cases h),.inr (.inr rfl),fun _ h1=>by rw[hb2,h1]at h2;cases h2⟩
 have F:Tot (fun q=>e78 q n) fun b=>(b=true->0≤n∧n≤1048576)∧(b=false->¬(0≤n∧n≤1048576)):=by
  simp only[e78]
  exact Tot.ite (fun h=>Tot.ret ⟨fun h2=>⟨by simpa using h,by simpa using h2⟩,fun h2 h3=>by simp at h2;omega⟩) fun h=>Tot.ret ⟨fun h=>(by cases h),fun _ h3=>by simp at h;omega⟩
 refine F.bind fun b3 h3=>Tot.ite (fun h4=>?_) fun h4=>Tot.ret ⟨z,by decide,fun h=>(by cases h),.inr (.inr rfl),fun _ _ g1 g2=>absurd ⟨g1,g2⟩ (h3.2 (by simpa using h4))⟩
 rw[h]at hb
 rw[h2]at hb2
 have hs:=zQ hb.symm
 refine Tot.bind (P:=fun r=>NaX t a n r∧r.2≠5) ?_ fun r hr=>Tot.ret ⟨hr.1.1,hr.1.2.1,hr.1.2.2.1,hr.1.2.2.2.1,fun _ _ _ _=>hr.2⟩
 have long:NaX t a n (zT,2):=⟨z,by decide,fun h=>(by cases h),.inr (.inl rfl),fun _ _ _ _=>by decide⟩
 simp only[O0]
 refine Tot.pure rfl ((fZ a ha n t 0 8192 false hs.2.2 (by omega) (by omega)).bind fun r hr=>Tot.ite (fun _=>Tot.ret ⟨long,by decide⟩) fun h5=>?_)
 refine Tot.bind (P:=fun b=>b=zL r.1) ((yO r.1 hr.1).tot rfl) fun b6 hb6=>Tot.ite (fun h6=>Tot.ret ?_) fun _=>Tot.ret ⟨long,by decide⟩
 have hx:=(hr.2 (by simpa using h5)).2
 refine⟨⟨hr.1,(by show (0:Int)≠8;decide),fun _=>⟨hb.symm,hb2.symm,(h3.1 h4).1,(h3.1 h4).2,?_,hx⟩,.inl rfl,fun _ _ _ _=>(by show (0:Int)≠5;decide)⟩,(by show (0:Int)≠5;decide)⟩
 rw[←hx,←hb6];exact h6
mutual
theorem zBg{P:Int->Int->Prop}{a:Tm}{n:Int}(ha:yT P a):∀(t:Tm) (b:Int),yT (fun k m=>P k m∨(k=8∧m=n)) t->yT P (naT a n t b)
 | .mk k m l,b,h=>by
  rw[yT]at h
  rw[naT]
  by_cases h1:k=8∧m=n
  ·rw[if_pos h1];exact aW a 0 0 b ha
  ·rw[if_neg h1,yT]
   refine⟨?_,zDR ha l k 0 b h.2⟩
   rcases h.1 with h2|h2|h2
   ·exact .inl h2
   ·exact .inr h2
   ·exact absurd h2 h1
theorem zDR{P:Int->Int->Prop}{a:Tm}{n:Int}(ha:yT P a):∀(l:List Tm) (k:Int) (i:Nat) (b:Int),xU (fun k m=>P k m∨(k=8∧m=n)) l->xU P (naL a n l k i b)
 | [],_,_,_,_=>by rw[naL,xU];trivial
 |t::l,k,i,b,h=>by
  rw[xU]at h
  rw[naL,xU]
  exact⟨zBg ha t _ h.1,zDR ha l k (i+1) b h.2⟩
end
mutual
theorem zNH{a:Tm}{n:Int}(ha:∀j,¬j∈lvT a 0):∀(t:Tm) (b j:Int),0≤b->j∈lvT (naT a n t b) b->j∈lvT t b
 | .mk k m l,b,j,hb,h=>by
  rw[naT]at h
  by_cases h1:k=8∧m=n
  ·rw[if_pos h1]at h
   exact absurd (zDe a 0 b j hb (by rwa[Int.zero_add])) (ha j)
  ·rw[if_neg h1]at h
   by_cases hk:k=1
   ·subst hk;exact sV.2 (sV.1 h)
   ·exact(uP hk).2 (zNI ha l k 0 b j hb ((uP hk).1 h))
theorem zNI{a:Tm}{n:Int}(ha:∀j,¬j∈lvT a 0):∀(l:List Tm) (k:Int) (i:Nat) (b j:Int),0≤b->j∈lvL (naL a n l k i b) k i b->j∈lvL l k i b
 | [],k,i,b,j,hb,h=>by rw[naL]at h;exact absurd h rY
 |t::l,k,i,b,j,hb,h=>by
  rw[naL]at h
  rcases wB.1 h with h|h
  ·exact wB.2 (.inl (zNH ha t _ j (by have:=zHF k i b;omega) h))
  ·exact wB.2 (.inr (zNI ha l k (i+1) b j hb h))
end
mutual
theorem zHR:∀(t:Tm) (b m:Int),xA t=true->0≤m->(∀j∈lvT t b,j<m)->nC t b≤m
 | .mk k n l,b,m,hg,hm,h=>by
  rw[nC]
  by_cases hk:k=1
  ·subst hk
   rw[if_pos rfl]
   by_cases hb:b≤n
   ·have:=h (n-b) (sV.2 ⟨hb,rfl⟩);omega
   ·omega
  ·rw[if_neg hk]
   have hh:=wV hg
   have hs:=uT hh.1
   refine zDS l k 0 b m hh.2 ?_ hm fun j hj=>h j ((uP hk).2 hj)
   have e1:k=3∨k=4∨k=5∨l.length≤1:=by
    by_cases h7:k=7
    ·obtain⟨x,hx,-⟩:=hs.2.2.2.2.2.2.1 h7
     have hx':l=[x]:=hx
     rw[hx'];simp
    ·by_cases h1:k=1∨k=2∨k=6∨k=8
     ·have hx:=hs.2.2.2.2.2.2.2.1 h1
      have hx':l=[]:=hx
      rw[hx'];simp
     ·have a1:1≤k:=hs.1
      have a2:k≤8:=hs.2.1
      omega
   omega
theorem zDS:∀(l:List Tm) (k:Int) (i:Nat) (b m:Int),wK l=true->(k=3∨k=4∨k=5∨i+l.length≤1)->0≤m->(∀j∈lvL l k i b,j<m)->iK l k i b≤m
 | [],k,i,b,m,hg,hl,hm,h=>by rw[iK];exact hm
 |t::l,k,i,b,m,hg,hl,hm,h=>by
  rw[iK]
  have hc:=xW hg
  rw[List.length_cons]at hl
  have h1:=zHR t (xO k i b) m hc.1 hm fun j hj=>h j (wB.2 (.inl hj))
  have h2:=zDS l k (i+1) b m hc.2 (by omega) hm fun j hj=>h j (wB.2 (.inr hj))
  rw[zNs (by omega)]at h1
  omega
end
theorem O1{t:Tm}(hs:zL t=true):nC t 0≤0 ↔ ∀j,¬j∈lvT t 0:=by
 have hg:=(zQ hs).2.2
 constructor
 ·intro h j hj
  have:=zFT t 0 j hg hj
  have:=U6 t 0 j hj
  omega
 ·exact fun h=>zHR t 0 0 hg (by omega) fun j hj=>absurd hj (h j)
def vM(l:List Ent)(t:Tm):Prop:=sU t 0 l.length=true
theorem eN{l:List Ent}{t:Tm}:vM l t↔zL t=true∧(∀j,¬j∈lvT t 0)∧yT (fun k n=>k=6∨k=7->n<l.length) t:=by
 unfold vM sU
 rw[←gH (by decide) (by decide)]
 constructor
 ·intro h
  simp only[Bool.and_eq_true,List.all_eq_true,decide_eq_true_eq]at h
  exact⟨h.1.1,(O1 h.1.1).1 h.1.2,h.2⟩
 ·rintro ⟨h1,h2,h3⟩
  simp only[Bool.and_eq_true,List.all_eq_true,decide_eq_true_eq]
  exact⟨⟨h1,(O1 h1).2 h2⟩,h3⟩
theorem vM.na{l:List Ent}{t a:Tm}{n:Int}(h:vM l t)(ha:vM l a)(hs:zL (naT a n t 0)=true):vM l (naT a n t 0):=by
 have h1:=eN.1 h
 have h2:=eN.1 ha
 exact eN.2 ⟨hs,fun j hj=>h1.2.1 j (zNH h2.2.1 t 0 j (by omega) hj),zBg h2.2.2 t 0 (tR (fun _ _ h=>.inl h) h1.2.2)⟩
mutual
def zBf:Nat->yY->Tm->Int->Int->Option (Tm×Int×Int×Int)
 |0,_,_,_,_=>none
 |qq+1,M,p1,fl,fu=>
 eA qq M fl fu p1.k p1.n p1.sub
def eA:Nat->yY->Int->Int->Int->Int->List Tm->Option (Tm×Int×Int×Int)
 |0,_,_,_,_,_,_=>none
 |qq+1,M,xC,xR,xP,wI,pQ=>
 zNJ qq M (Tm.mk xP wI pQ) xC xR>>=fun r1=>
 if r1.2.1 then
 if r1.2.2.1 != 0 then
 some ((Tm.mk 0 0 []),r1.2.2.1,r1.2.2.2.1,r1.2.2.2.2)
 else
 eA qq M r1.2.2.2.1 r1.2.2.2.2 r1.1.k r1.1.n r1.1.sub
 else
 if r1.2.2.1 != 0 then
 some ((Tm.mk 0 0 []),r1.2.2.1,r1.2.2.2.1,r1.2.2.2.2)
 else
 some ((Tm.mk xP wI pQ),0,r1.2.2.2.1,r1.2.2.2.2)
def zNJ:Nat->yY->Tm->Int->Int->Option (Tm×Bool×Int×Int×Int)
 |0,_,_,_,_=>none
 |qq+1,M,p1,fl,fu=>
 L4 qq p1>>=fun r1=>
 if r1.1.k==4 then
 if decide ((r1.2.length:Int)>0)then
 zS r1.1.sub 1>>=fun x5=>
 zS r1.2 0>>=fun x7=>
 zMq qq x5 x7>>=fun r9=>
 gsl r1.2 1 (r1.2.length:Int)>>=fun x11=>
 gC qq r9.1 x11>>=fun r13=>
 if r9.2 != 0 then
 some (p1,false,r9.2,fl,fu)
 else
 e98 qq fl fu>>=fun r16=>
 if r16.1 != 0 then
 some (p1,false,r16.1,r16.2.1,r16.2.2)
 else
 F4 qq r13>>=fun r19=>
 some (r19.1,true,r19.2,r16.2.1,r16.2.2)
 else
 zBl qq M r1.1>>=fun r21=>
 if r21==3 then
 zS M.l r1.1.n>>=fun x24=>
 gC qq x24.body r1.2>>=fun r26=>
 e98 qq fl fu>>=fun r28=>
 if r28.1 != 0 then
 some (p1,false,r28.1,r28.2.1,r28.2.2)
 else
 F4 qq r26>>=fun r31=>
 some (r31.1,true,r31.2,r28.2.1,r28.2.2)
 else
 zBl qq M r1.1>>=fun r33=>
 if r33==4 then
 zKz qq M r1.1 r1.2 fl fu>>=fun r36=>
 if r36.2.1 then
 if r36.2.2.1 != 0 then
 some (p1,false,r36.2.2.1,r36.2.2.2.1,r36.2.2.2.2)
 else
 e98 qq r36.2.2.2.1 r36.2.2.2.2>>=fun r40=>
 if r40.1 != 0 then
 some (p1,false,r40.1,r40.2.1,r40.2.2)
 else
 F4 qq r36.1>>=fun r43=>
 some (r43.1,true,r43.2,r40.2.1,r40.2.2)
 else
 if r36.2.2.1 != 0 then
 some (p1,false,r36.2.2.1,r36.2.2.2.1,r36.2.2.2.2)
 else
 some (p1,false,r36.2.2.1,r36.2.2.2.1,r36.2.2.2.2)
 else
 if r1.1.k==7 then
 zKy qq M r1.1 r1.2 fl fu>>=fun r47=>
 if r47.2.1 then
 if r47.2.2.1 != 0 then
 some (p1,false,r47.2.2.1,r47.2.2.2.1,r47.2.2.2.2)
 else
 e98 qq r47.2.2.2.1 r47.2.2.2.2>>=fun r51=>
 if r51.1 != 0 then
 some (p1,false,r51.1,r51.2.1,r51.2.2)
 else
 F4 qq r47.1>>=fun r54=>
 some (r54.1,true,r54.2,r51.2.1,r51.2.2)
 else
 if r47.2.2.1 != 0 then
 some (p1,false,r47.2.2.1,r47.2.2.2.1,r47.2.2.2.2)
 else
 some (p1,false,r47.2.2.1,r47.2.2.2.1,r47.2.2.2.2)
 else
 some (p1,false,0,fl,fu)
 else
 zBl qq M r1.1>>=fun r57=>
 if r57==3 then
 zS M.l r1.1.n>>=fun x60=>
 gC qq x60.body r1.2>>=fun r62=>
 e98 qq fl fu>>=fun r64=>
 if r64.1 != 0 then
 some (p1,false,r64.1,r64.2.1,r64.2.2)
 else
 F4 qq r62>>=fun r67=>
 some (r67.1,true,r67.2,r64.2.1,r64.2.2)
 else
 zBl qq M r1.1>>=fun r69=>
 if r69==4 then
 zKz qq M r1.1 r1.2 fl fu>>=fun r72=>
 if r72.2.1 then
 if r72.2.2.1 != 0 then
 some (p1,false,r72.2.2.1,r72.2.2.2.1,r72.2.2.2.2)
 else
 e98 qq r72.2.2.2.1 r72.2.2.2.2>>=fun r76=>
 if r76.1 != 0 then
 some (p1,false,r76.1,r76.2.1,r76.2.2)
 else
 F4 qq r72.1>>=fun r79=>
 some (r79.1,true,r79.2,r76.2.1,r76.2.2)
 else
 if r72.2.2.1 != 0 then
 some (p1,false,r72.2.2.1,r72.2.2.2.1,r72.2.2.2.2)
 else
 some (p1,false,r72.2.2.1,r72.2.2.2.1,r72.2.2.2.2)
 else
 if r1.1.k==7 then
 zKy qq M r1.1 r1.2 fl fu>>=fun r83=>
 if r83.2.1 then
 if r83.2.2.1 != 0 then
 some (p1,false,r83.2.2.1,r83.2.2.2.1,r83.2.2.2.2)
 else
 e98 qq r83.2.2.2.1 r83.2.2.2.2>>=fun r87=>
 if r87.1 != 0 then
 some (p1,false,r87.1,r87.2.1,r87.2.2)
 else
 F4 qq r83.1>>=fun r90=>
 some (r90.1,true,r90.2,r87.2.1,r87.2.2)
 else
 if r83.2.2.1 != 0 then
 some (p1,false,r83.2.2.1,r83.2.2.2.1,r83.2.2.2.2)
 else
 some (p1,false,r83.2.2.1,r83.2.2.2.1,r83.2.2.2.2)
 else
 some (p1,false,0,fl,fu)
def zKz:Nat->yY->Tm->List Tm->Int->Int->Option (Tm×Bool×Int×Int×Int)
 |0,_,_,_,_,_=>none
 |qq+1,M,p1,p2,fl,fu=>
 zS M.l p1.n>>=fun x1=>
 if decide ((p2.length:Int)≤x1.pars)then
 some ((Tm.mk 0 0 []),false,0,fl,fu)
 else
 zS p2 x1.pars>>=fun x4=>
 zBf qq M x4 fl fu>>=fun r6=>
 if r6.2.1 != 0 then
 some ((Tm.mk 0 0 []),false,r6.2.1,r6.2.2.1,r6.2.2.2)
 else
 zGw qq M r6.1>>=fun r9=>
 if r9.2.2 then
 zS M.l r9.1>>=fun x12=>
 if x12.fam != x1.fam then
 some ((Tm.mk 0 0 []),false,0,r6.2.2.1,r6.2.2.2)
 else
 gsl r9.2.1 x12.pars (r9.2.1.length:Int)>>=fun x15=>
 zDG qq M.rl M.parts p1.n x15>>=fun r17=>
 gsl p2 (w64 (x1.pars+1)) (p2.length:Int)>>=fun x19=>
 gC qq r17.1 x19>>=fun r21=>
 some (r21,true,r17.2,r6.2.2.1,r6.2.2.2)
 else
 some ((Tm.mk 0 0 []),false,0,r6.2.2.1,r6.2.2.2)
def zKy:Nat->yY->Tm->List Tm->Int->Int->Option (Tm×Bool×Int×Int×Int)
 |0,_,_,_,_,_=>none
 |qq+1,M,p1,p2,fl,fu=>
 if decide (p1.n≥(M.l.length:Int))then
 some ((Tm.mk 0 0 []),false,0,fl,fu)
 else
 zS M.l p1.n>>=fun x2=>
 if x2.kind != 1 then
 some ((Tm.mk 0 0 []),false,0,fl,fu)
 else
 zS M.args p1.n>>=fun x5=>
 if decide ((p2.length:Int)<x5)then
 some ((Tm.mk 0 0 []),false,0,fl,fu)
 else
 zS p2 (w64 (x5-1))>>=fun x8=>
 zBf qq M x8 fl fu>>=fun r10=>
 if r10.2.1 != 0 then
 some ((Tm.mk 0 0 []),false,r10.2.1,r10.2.2.1,r10.2.2.2)
 else
 zGw qq M r10.1>>=fun r13=>
 if r13.2.2 then
 zS M.l r13.1>>=fun x16=>
 if x16.fam != p1.n then
 some ((Tm.mk 0 0 []),false,0,r10.2.2.1,r10.2.2.2)
 else
 zS p1.sub 0>>=fun x19=>
 gsl p2 0 (w64 ((w64 (x2.pars+1))+(x2.cons.length:Int)))>>=fun x21=>
 gsl r13.2.1 x2.pars (r13.2.1.length:Int)>>=fun x23=>
 zDH qq M.rl M.parts p1.n x19.n r13.1 x21 x23>>=fun r25=>
 gsl p2 x5 (p2.length:Int)>>=fun x27=>
 gC qq r25.1 x27>>=fun r29=>
 some (r29,true,r25.2,r10.2.2.1,r10.2.2.2)
 else
 some ((Tm.mk 0 0 []),false,0,r10.2.2.1,r10.2.2.2)
end
abbrev zVb (M:yY) (p1:Tm) (fl fu:Int) (r:Tm×Int×Int×Int) (C:Cf):Prop:=C 137 [mB M 1,mR M,.cells [ai fl,ai fu]] [.mp 0 0,tmA p1,.mp 2 0] (.tup [tmA r.1,ai r.2.1]) [mB M 1,mR M,.cells [ai r.2.2.1,ai r.2.2.2]] 0
abbrev zTn (M:yY) (p1:Tm) (fl fu:Int) (r:Tm×Bool×Int×Int×Int) (C:Cf):Prop:=C 174 [mB M 1,mR M,.cells [ai fl,ai fu]] [.mp 0 0,tmA p1,.mp 2 0] (.tup [tmA r.1,ab r.2.1,ai r.2.2.1]) [mB M 1,mR M,.cells [ai r.2.2.2.1,ai r.2.2.2.2]] 0
abbrev zTm (M:yY) (p1:Tm) (p2:List Tm) (fl fu:Int) (r:Tm×Bool×Int×Int×Int) (C:Cf):Prop:=C 210 [mB M 1,mR M,.cells [ai fl,ai fu]] [.mp 0 0,tmA p1,slv zG p2 .no,.mp 2 0] (.tup [tmA r.1,ab r.2.1,ai r.2.2.1]) [mB M 1,mR M,.cells [ai r.2.2.2.1,ai r.2.2.2.2]] 0
abbrev zTl (M:yY) (p1:Tm) (p2:List Tm) (fl fu:Int) (r:Tm×Bool×Int×Int×Int) (C:Cf):Prop:=C 211 [mB M 1,mR M,.cells [ai fl,ai fu]] [.mp 0 0,tmA p1,slv zG p2 .no,.mp 2 0] (.tup [tmA r.1,ab r.2.1,ai r.2.2.1]) [mB M 1,mR M,.cells [ai r.2.2.2.1,ai r.2.2.2.2]] 0
theorem qC:Qf 174 Tryz.f174:=⟨Tryz.func174,rfl⟩
theorem qD{M p1 fl fu r}(h:zTn M p1 fl fu r Ci):zTn M p1 fl fu r Ct:=⟨h,⟨(lz rfl),⟨tv,tv,⟨tv,dT _⟩,tv⟩,(lz rfl),tv⟩,(fMa (lz rfl) (zA ⟨tv,tv,tv⟩ zB)),⟨⟨tv,tv,dT _,tv⟩,tv,tv,tv⟩,(fMf (lz rfl) (zA ⟨tv,tv,tv⟩ zB))⟩
theorem zNK:Qf 210 Tryz.f210:=⟨Tryz.func210,rfl⟩
theorem zNL{M p1 p2 fl fu r}(h:zTm M p1 p2 fl fu r Ci):zTm M p1 p2 fl fu r Ct:=⟨h,⟨(lz rfl),⟨tv,tv,⟨tv,dT _⟩,tv⟩,⟨tv,dT _⟩,(lz rfl),tv⟩,(fMa (lz rfl) (zA ⟨tv,tv,tv⟩ zB)),⟨⟨tv,tv,dT _,tv⟩,tv,tv,tv⟩,(fMf (lz rfl) (zA ⟨tv,tv,tv⟩ zB))⟩
theorem zGu:Qf 211 Tryz.f211:=⟨Tryz.func211,rfl⟩
theorem zGt{M p1 p2 fl fu r}(h:zTl M p1 p2 fl fu r Ci):zTl M p1 p2 fl fu r Ct:=⟨h,⟨(lz rfl),⟨tv,tv,⟨tv,dT _⟩,tv⟩,⟨tv,dT _⟩,(lz rfl),tv⟩,(fMa (lz rfl) (zA ⟨tv,tv,tv⟩ zB)),⟨⟨tv,tv,dT _,tv⟩,tv,tv,tv⟩,(fMf (lz rfl) (zA ⟨tv,tv,tv⟩ zB))⟩
theorem lR:∀qq:Nat,(∀ {M p1 fl fu r},zBf qq M p1 fl fu=some r->zVb M p1 fl fu r Ct)∧(∀ {M xC xR xP wI pQ r},eA qq M xC xR xP wI pQ=some r->(∀j,dL 3 (pt 885 Tryz.f137) (sp j 28 0 [(0,.mp 0 0),(2,.mp 2 0),(4,.mp 3 0),(6,.mp 4 0)]) (⟨[(0,mB M 1),(1,mR M),(2,.cells [ai xC,ai xR]),(3,.cells [ai xP,ai wI,slv zG pQ .no]),(4,.cells [ai 0,ai 0,slv zG ([]:List Tm) .nl])],5,[],0,[]⟩) (fQ 3 (nQ 3 Tryz.f137 (.tup [tmA r.1,ai r.2.1]) [mB M 1,mR M,.cells [ai r.2.2.1,ai r.2.2.2]] 0) [.blk 0])))∧(∀ {M p1 fl fu r},zNJ qq M p1 fl fu=some r->zTn M p1 fl fu r Ct)∧(∀ {M p1 p2 fl fu r},zKz qq M p1 p2 fl fu=some r->zTm M p1 p2 fl fu r Ct)∧(∀ {M p1 p2 fl fu r},zKy qq M p1 p2 fl fu=some r->zTl M p1 p2 fl fu r Ct):=by
 intro qq
 induction qq with
 |zero=>
  exact⟨fun h=>nn h,fun h=>nn h,fun h=>nn h,fun h=>nn h,fun h=>nn h⟩
 |succ qq ih=>
  obtain⟨zRN,zDT,zVa,zRO,zRP⟩:=ih
  refine⟨?_,?_,?_,?_,?_⟩
  intro M p1 fl fu r h
  rw[zBf]at h
  exact⟨tH ⟨Tryz.func137,rfl⟩ 0 [] [0,1,2,3,4] [] [0,2,4,6] (oD (dT ([]:List Tm))<|oD (dT p1.sub)<|oD (dC M.parts)<|oD (dE M.rl)<|oD (dI M.own)<|oD (dI M.args)<|oD (dE M.l) o0) (zDT h),⟨(lz rfl),⟨tv,tv,⟨tv,dT _⟩,tv⟩,(lz rfl),tv⟩,(fMa (lz rfl) (zA ⟨tv,tv,tv⟩ zB)),⟨⟨tv,tv,dT _,tv⟩,tv,tv⟩,(fMf (lz rfl) (zA ⟨tv,tv,tv⟩ zB))⟩
  intro M xC xR xP wI pQ r h
  rw[eA]at h
  obtain⟨r1,h2,h⟩:=zC h
  have k:=oC 1 [0,1,2] (zVa h2) o0
  obtain⟨h3,h⟩|⟨h3,h⟩:=spl h
  have k:=oB 1 h3 k
  obtain⟨h4,h⟩|⟨h4,h⟩:=spl h
  cases h
  exact fun j=>lF 1 [0,1,2] (oD (dT ([]:List Tm))<|oDM M<|oB 2 h4 k)
  exact fun j=>lH 2 [] [0,1,2,3,4] [] [0,2,4,6] (oD (dT ([]:List Tm))<|oD (dT r1.1.sub)<|oDM M<|oB 2 h4 k) (zDT h)
  have k:=oB 1 h3 k
  obtain⟨h5,h⟩|⟨h5,h⟩:=spl h
  cases h
  exact fun j=>lF 1 [0,1,2] (oD (dT ([]:List Tm))<|oDM M<|oB 2 h5 k)
  cases h
  exact fun j=>lF 2 [0,1,2] (oD (dT pQ)<|oDM M<|oB 2 h5 k)
  intro M p1 fl fu r h
  rw[zNJ]at h
  have z {os ob} (k:Oz os ob):=oD (dT p1.sub)<|oDM M<|k
  obtain⟨r1,h2,h⟩:=zC h
  have k:=oC 1 [] (zDx h2) o0
  obtain⟨h3,h⟩|⟨h3,h⟩:=spl h
  have k:=oB 5 h3 k
  obtain⟨h4,h⟩|⟨h4,h⟩:=spl h
  obtain⟨x5,h6,h⟩:=zC h
  obtain⟨x7,h8,h⟩:=zC h
  obtain⟨r9,h10,h⟩:=zC h
  obtain⟨x11,h12,h⟩:=zC h
  obtain⟨r13,h14,h⟩:=zC h
  have k:=oC 0 [] (L5 h14)<|oA 4 (sX h12)<|oC 1 [] (zWO h10)<|oA 1 (xB (o:=.no) h8)<|oA 1 (xB (o:=.no) h6)<|oB 1 h4 k
  obtain⟨h15,h⟩|⟨h15,h⟩:=spl h
  cases h
  exact qD (tF qC 2 [0,1,2] (z<|oB 1 h15 k))
  obtain⟨r16,h17,h⟩:=zC h
  have k:=oC 1 [2] (c98 h17)<|oB 1 h15 k
  obtain⟨h18,h⟩|⟨h18,h⟩:=spl h
  cases h
  exact qD (tF qC 2 [0,1,2] (z<|oB 0 h18 k))
  obtain⟨r19,h20,h⟩:=zC h
  cases h
  exact qD (tF qC 5 [0,1,2] (oD (dT r19.1.sub)<|oDM M<|oC 1 [] (zGx h20)<|oB 0 h18 k))
  obtain⟨r21,h22,h⟩:=zC h
  have k:=oC 1 [0,1] (zNE h22)<|oB 1 h4 k
  obtain⟨h23,h⟩|⟨h23,h⟩:=spl h
  obtain⟨x24,h25,h⟩:=zC h
  obtain⟨r26,h27,h⟩:=zC h
  obtain⟨r28,h29,h⟩:=zC h
  have k:=oC 3 [2] (c98 h29)<|oC 1 [] (L5 h27)<|oA 2 (xL (o:=.no) h25)<|oB 0 h23 k
  obtain⟨h30,h⟩|⟨h30,h⟩:=spl h
  cases h
  exact qD (tF qC 2 [0,1,2] (z<|oB 0 h30 k))
  obtain⟨r31,h32,h⟩:=zC h
  cases h
  exact qD (tF qC 5 [0,1,2] (oD (dT r31.1.sub)<|oDM M<|oC 1 [] (zGx h32)<|oB 0 h30 k))
  obtain⟨r33,h34,h⟩:=zC h
  have k:=oC 1 [0,1] (zNE h34)<|oB 0 h23 k
  obtain⟨h35,h⟩|⟨h35,h⟩:=spl h
  obtain⟨r36,h37,h⟩:=zC h
  have k:=oC 1 [0,1,2] (zRO h37)<|oB 0 h35 k
  obtain⟨h38,h⟩|⟨h38,h⟩:=spl h
  have k:=oB 1 h38 k
  obtain⟨h39,h⟩|⟨h39,h⟩:=spl h
  cases h
  exact qD (tF qC 2 [0,1,2] (z<|oB 2 h39 k))
  obtain⟨r40,h41,h⟩:=zC h
  have k:=oC 1 [2] (c98 h41)<|oB 2 h39 k
  obtain⟨h42,h⟩|⟨h42,h⟩:=spl h
  cases h
  exact qD (tF qC 2 [0,1,2] (z<|oB 0 h42 k))
  obtain⟨r43,h44,h⟩:=zC h
  cases h
  exact qD (tF qC 5 [0,1,2] (oD (dT r43.1.sub)<|oDM M<|oC 1 [] (zGx h44)<|oB 0 h42 k))
  have k:=oB 1 h38 k
  obtain⟨h45,h⟩|⟨h45,h⟩:=spl h
  cases h
  exact qD (tF qC 2 [0,1,2] (z<|oB 2 h45 k))
  cases h
  exact qD (tF qC 3 [0,1,2] (z<|oB 2 h45 k))
  have k:=oB 0 h35 k
  obtain⟨h46,h⟩|⟨h46,h⟩:=spl h
  obtain⟨r47,h48,h⟩:=zC h
  have k:=oC 1 [0,1,2] (zRP h48)<|oB 1 h46 k
  obtain⟨h49,h⟩|⟨h49,h⟩:=spl h
  have k:=oB 1 h49 k
  obtain⟨h50,h⟩|⟨h50,h⟩:=spl h
  cases h
  exact qD (tF qC 2 [0,1,2] (z<|oB 2 h50 k))
  obtain⟨r51,h52,h⟩:=zC h
  have k:=oC 1 [2] (c98 h52)<|oB 2 h50 k
  obtain⟨h53,h⟩|⟨h53,h⟩:=spl h
  cases h
  exact qD (tF qC 2 [0,1,2] (z<|oB 0 h53 k))
  obtain⟨r54,h55,h⟩:=zC h
  cases h
  exact qD (tF qC 5 [0,1,2] (oD (dT r54.1.sub)<|oDM M<|oC 1 [] (zGx h55)<|oB 0 h53 k))
  have k:=oB 1 h49 k
  obtain⟨h56,h⟩|⟨h56,h⟩:=spl h
  cases h
  exact qD (tF qC 2 [0,1,2] (z<|oB 2 h56 k))
  cases h
  exact qD (tF qC 3 [0,1,2] (z<|oB 2 h56 k))
  cases h
  exact qD (tF qC 4 [0,1,2] (z<|oB 1 h46 k))
  obtain⟨r57,h58,h⟩:=zC h
  have k:=oC 1 [0,1] (zNE h58)<|oB 5 h3 k
  obtain⟨h59,h⟩|⟨h59,h⟩:=spl h
  obtain⟨x60,h61,h⟩:=zC h
  obtain⟨r62,h63,h⟩:=zC h
  obtain⟨r64,h65,h⟩:=zC h
  have k:=oC 3 [2] (c98 h65)<|oC 1 [] (L5 h63)<|oA 2 (xL (o:=.no) h61)<|oB 0 h59 k
  obtain⟨h66,h⟩|⟨h66,h⟩:=spl h
  cases h
  exact qD (tF qC 2 [0,1,2] (z<|oB 0 h66 k))
  obtain⟨r67,h68,h⟩:=zC h
  cases h
  exact qD (tF qC 5 [0,1,2] (oD (dT r67.1.sub)<|oDM M<|oC 1 [] (zGx h68)<|oB 0 h66 k))
  obtain⟨r69,h70,h⟩:=zC h
  have k:=oC 1 [0,1] (zNE h70)<|oB 0 h59 k
  obtain⟨h71,h⟩|⟨h71,h⟩:=spl h
  obtain⟨r72,h73,h⟩:=zC h
  have k:=oC 1 [0,1,2] (zRO h73)<|oB 0 h71 k
  obtain⟨h74,h⟩|⟨h74,h⟩:=spl h
  have k:=oB 1 h74 k
  obtain⟨h75,h⟩|⟨h75,h⟩:=spl h
  cases h
  exact qD (tF qC 2 [0,1,2] (z<|oB 2 h75 k))
  obtain⟨r76,h77,h⟩:=zC h
  have k:=oC 1 [2] (c98 h77)<|oB 2 h75 k
  obtain⟨h78,h⟩|⟨h78,h⟩:=spl h
  cases h
  exact qD (tF qC 2 [0,1,2] (z<|oB 0 h78 k))
  obtain⟨r79,h80,h⟩:=zC h
  cases h
  exact qD (tF qC 5 [0,1,2] (oD (dT r79.1.sub)<|oDM M<|oC 1 [] (zGx h80)<|oB 0 h78 k))
  have k:=oB 1 h74 k
  obtain⟨h81,h⟩|⟨h81,h⟩:=spl h
  cases h
  exact qD (tF qC 2 [0,1,2] (z<|oB 2 h81 k))
  cases h
  exact qD (tF qC 3 [0,1,2] (z<|oB 2 h81 k))
  have k:=oB 0 h71 k
  obtain⟨h82,h⟩|⟨h82,h⟩:=spl h
  obtain⟨r83,h84,h⟩:=zC h
  have k:=oC 1 [0,1,2] (zRP h84)<|oB 1 h82 k
  obtain⟨h85,h⟩|⟨h85,h⟩:=spl h
  have k:=oB 1 h85 k
  obtain⟨h86,h⟩|⟨h86,h⟩:=spl h
  cases h
  exact qD (tF qC 2 [0,1,2] (z<|oB 2 h86 k))
  obtain⟨r87,h88,h⟩:=zC h
  have k:=oC 1 [2] (c98 h88)<|oB 2 h86 k
  obtain⟨h89,h⟩|⟨h89,h⟩:=spl h
  cases h
  exact qD (tF qC 2 [0,1,2] (z<|oB 0 h89 k))
  obtain⟨r90,h91,h⟩:=zC h
  cases h
  exact qD (tF qC 5 [0,1,2] (oD (dT r90.1.sub)<|oDM M<|oC 1 [] (zGx h91)<|oB 0 h89 k))
  have k:=oB 1 h85 k
  obtain⟨h92,h⟩|⟨h92,h⟩:=spl h
  cases h
  exact qD (tF qC 2 [0,1,2] (z<|oB 2 h92 k))
  cases h
  exact qD (tF qC 3 [0,1,2] (z<|oB 2 h92 k))
  cases h
  exact qD (tF qC 4 [0,1,2] (z<|oB 1 h82 k))
  intro M p1 p2 fl fu r h
  rw[zKz]at h
  have z {os ob} (k:Oz os ob):=oD (dT ([]:List Tm))<|oDM M<|k
  obtain⟨x1,h2,h⟩:=zC h
  have k:=oA 2 (xL (o:=.no) h2) o0
  obtain⟨h3,h⟩|⟨h3,h⟩:=spl h
  cases h
  exact zNL (tF zNK 1 [0,1,2] (z<|oB 2 h3 k))
  obtain⟨x4,h5,h⟩:=zC h
  obtain⟨r6,h7,h⟩:=zC h
  have k:=oC 1 [0,1,2] (zRN h7)<|oA 0 (xB (o:=.no) h5)<|oB 2 h3 k
  obtain⟨h8,h⟩|⟨h8,h⟩:=spl h
  cases h
  exact zNL (tF zNK 1 [0,1,2] (z<|oB 3 h8 k))
  obtain⟨r9,h10,h⟩:=zC h
  have k:=oC 1 [0,1] (zTq h10)<|oB 3 h8 k
  obtain⟨h11,h⟩|⟨h11,h⟩:=spl h
  obtain⟨x12,h13,h⟩:=zC h
  have k:=oA 3 (xL (o:=.no) h2)<|oA 2 (xL (o:=.no) h13)<|oB 2 h11 k
  obtain⟨h14,h⟩|⟨h14,h⟩:=spl h
  cases h
  exact zNL (tF zNK 1 [0,1,2] (z<|oB 1 h14 k))
  obtain⟨x15,h16,h⟩:=zC h
  obtain⟨r17,h18,h⟩:=zC h
  obtain⟨x19,h20,h⟩:=zC h
  obtain⟨r21,h22,h⟩:=zC h
  cases h
  exact zNL (tF zNK 1 [0,1,2] (oD (dT r21.sub)<|oDM M<|oC 0 [] (L5 h22)<|oA 5 (sX h20)<|oC 0 [1] (zXt h18)<|oA 1 (sX h16)<|oA 3 (xL (o:=.no) h13)<|oB 1 h14 k))
  cases h
  exact zNL (tF zNK 2 [0,1,2] (z<|oB 2 h11 k))
  intro M p1 p2 fl fu r h
  rw[zKy]at h
  have z {os ob} (k:Oz os ob):=oD (dT ([]:List Tm))<|oDM M<|k
  obtain⟨h1,h⟩|⟨h1,h⟩:=spl h
  cases h
  exact zGt (tF zGu 1 [0,1,2] (z<|oB 3 h1 o0))
  obtain⟨x2,h3,h⟩:=zC h
  have k:=oA 2 (xL (o:=.no) h3)<|oB 3 h1 o0
  obtain⟨h4,h⟩|⟨h4,h⟩:=spl h
  cases h
  exact zGt (tF zGu 1 [0,1,2] (z<|oB 1 h4 k))
  obtain⟨x5,h6,h⟩:=zC h
  have k:=oA 3 (nU (o:=.no) h6)<|oB 1 h4 k
  obtain⟨h7,h⟩|⟨h7,h⟩:=spl h
  cases h
  exact zGt (tF zGu 1 [0,1,2] (z<|oB 1 h7 k))
  obtain⟨x8,h9,h⟩:=zC h
  obtain⟨r10,h11,h⟩:=zC h
  have k:=oC 1 [0,1,2] (zRN h11)<|oA 2 (xB (o:=.no) h9)<|oA 2 (nU (o:=.no) h6)<|oB 1 h7 k
  obtain⟨h12,h⟩|⟨h12,h⟩:=spl h
  cases h
  exact zGt (tF zGu 1 [0,1,2] (z<|oB 3 h12 k))
  obtain⟨r13,h14,h⟩:=zC h
  have k:=oC 1 [0,1] (zTq h14)<|oB 3 h12 k
  obtain⟨h15,h⟩|⟨h15,h⟩:=spl h
  obtain⟨x16,h17,h⟩:=zC h
  have k:=oA 2 (xL (o:=.no) h17)<|oB 2 h15 k
  obtain⟨h18,h⟩|⟨h18,h⟩:=spl h
  cases h
  exact zGt (tF zGu 1 [0,1,2] (z<|oB 2 h18 k))
  obtain⟨x19,h20,h⟩:=zC h
  obtain⟨x21,h22,h⟩:=zC h
  obtain⟨x23,h24,h⟩:=zC h
  obtain⟨r25,h26,h⟩:=zC h
  obtain⟨x27,h28,h⟩:=zC h
  obtain⟨r29,h30,h⟩:=zC h
  cases h
  exact zGt (tF zGu 1 [0,1,2] (oD (dT r29.sub)<|oDM M<|oC 0 [] (L5 h30)<|oA 4 (sX h28)<|oC 0 [1] (zXs h26)<|oA 1 (sX h24)<|oA 6 (nB h22)<|oA 5 (xB (o:=.no) h20)<|oA 2 (xL (o:=.no) h3)<|oB 2 h18 k))
  cases h
  exact zGt (tF zGu 2 [0,1,2] (z<|oB 2 h15 k))
theorem zXq{qq M p1 fl fu r}(h:zBf qq M p1 fl fu=some r):zVb M p1 fl fu r Ct:=(lR _).1 h
abbrev er4 (r:Tm×Int×Int×Int):Int:=r.2.1
abbrev er5 (r:Tm×Bool×Int×Int×Int):Int:=r.2.2.1
theorem eB(l:List Ent):(xH l).l=l:=rfl
theorem V3(l:List Ent):(xH l).rl=l:=rfl
theorem gL(l:List Ent):(xH l).parts=evA l l.length 0:=rfl
noncomputable def gM(l:List Ent)(i:Int)(a:List Tm):Tm×Int:=
 open Classical in if h:∃r,Evt (fun q=>zDG q l (evA l l.length 0) i a) r then h.choose else(zT,5)
theorem gN{N:ByteArray->Bool}(l:List Ent)(i:Int)(a:List Tm)(hE:wS N l)(ho:OkA a)(hl:a.length≤1073741824):Evt (fun q=>zDG q l (evA l l.length 0) i a) (gM l i a)∧zBn l i a (gM l i a):=by
 obtain⟨r,hr,hk⟩:=zJX l (evA l l.length 0) i a hE ho hl
 have hx:∃r,Evt (fun q=>zDG q l (evA l l.length 0) i a) r:=⟨r,hr⟩
 have e:gM l i a=r:=by
  unfold gM
  rw[dif_pos hx]
  exact hx.choose_spec.det hr
 rw[e];exact⟨hr,hk⟩
noncomputable def K3(l:List Ent)(d lev c:Int)(args own:List Tm):Tm×Int:=
 open Classical in if h:∃r,Evt (fun q=>zDH q l (evA l l.length 0) d lev c args own) r then h.choose else(zT,5)
theorem cI{N:ByteArray->Bool}(l:List Ent)(d lev c:Int)(args own:List Tm)(hE:wS N l)(ho4:OkA args)(ho5:OkA own)(hl4:args.length≤65535)(hl5:own.length≤65535):Evt (fun q=>zDH q l (evA l l.length 0) d lev c args own) (K3 l d lev c args own)∧zGz l d lev c args own (K3 l d lev c args own):=by
 obtain⟨r,hr,hk⟩:=zNf l d lev c args own hE ho4 ho5 hl4 hl5
 have hx:∃r,Evt (fun q=>zDH q l (evA l l.length 0) d lev c args own) r:=⟨r,hr⟩
 have e:K3 l d lev c args own=r:=by
  unfold K3
  rw[dif_pos hx]
  exact hx.choose_spec.det hr
 rw[e];exact⟨hr,hk⟩
inductive Act where
 |none
 |red (Y:Tm) (e:Int)
 |tgt (a:Tm)
noncomputable def uE(l:List Ent)(x:Tm):Act:=
 if (hdT x).k=4∧0<(arT x).length then .red (apT (gD (nth (hdT x).sub 1) [nth (arT x) 0]).1 ((arT x).drop 1)) (gD (nth (hdT x).sub 1) [nth (arT x) 0]).2
 else if rM l (hdT x)=3 then .red (apT (ent l (hdT x).n).body (arT x)) 0
 else if rM l (hdT x)=4 then(if ((arT x).length:Int)≤(ent l (hdT x).n).pars then .none else .tgt (nth (arT x) (ent l (hdT x).n).pars))
 else if (hdT x).k=7 then(if isT l (hdT x).n 1=true∧xS (ent l (hdT x).n)≤(arT x).length then .tgt (nth (arT x) (xS (ent l (hdT x).n)-1))else .none)
 else .none
noncomputable def tE(l:List Ent)(x y:Tm):Option (Tm×Int):=
 if rM l (hdT x)=4 then
  (if vW l y∧(ent l (hdT y).n).fam=(ent l (hdT x).n).fam then
   some (apT (gM l (hdT x).n ((arT y).drop (ent l (hdT y).n).pars.toNat)).1 ((arT x).drop ((ent l (hdT x).n).pars+1).toNat),(gM l (hdT x).n ((arT y).drop (ent l (hdT y).n).pars.toNat)).2)
  else none)
 else
  (if vW l y∧(ent l (hdT y).n).fam=(hdT x).n then
   some (apT (K3 l (hdT x).n (nth (hdT x).sub 0).n (hdT y).n ((arT x).take ((ent l (hdT x).n).pars+1+(ent l (hdT x).n).cons.length).toNat) ((arT y).drop (ent l (hdT x).n).pars.toNat)).1 ((arT x).drop (xS (ent l (hdT x).n)).toNat),
    (K3 l (hdT x).n (nth (hdT x).sub 0).n (hdT y).n ((arT x).take ((ent l (hdT x).n).pars+1+(ent l (hdT x).n).cons.length).toNat) ((arT y).drop (ent l (hdT x).n).pars.toNat)).2)
  else none)
inductive Br (l:List Ent):Tm->Tm->Int->Int->Prop
 |stop {x:Tm}:uE l x = .none->Br l x x 0 0
 |redE {x Y:Tm} {e:Int}:uE l x = .red Y e->e≠0->Br l x zT e 0
 |redL {x Y:Tm}:uE l x = .red Y 0->zL Y=false->Br l x zT 2 1
 |red {x Y y:Tm} {e k:Int}:uE l x = .red Y 0->zL Y=true->Br l Y y e k->Br l x y e (1+k)
 |tgtE {x a z:Tm} {e k:Int}:uE l x = .tgt a->Br l a z e k->e≠0->Br l x zT e k
 |tgtN {x a z:Tm} {k:Int}:uE l x = .tgt a->Br l a z 0 k->tE l x z=none->Br l x x 0 k
 |tgtRE {x a z Y:Tm} {e k:Int}:uE l x = .tgt a->Br l a z 0 k->tE l x z=some (Y,e)->e≠0->Br l x zT e k
 |tgtRL {x a z Y:Tm} {k:Int}:uE l x = .tgt a->Br l a z 0 k->tE l x z=some (Y,0)->zL Y=false->Br l x zT 2 (k+1)
 |tgtR {x a z Y y:Tm} {e k k':Int}:uE l x = .tgt a->Br l a z 0 k->tE l x z=some (Y,0)->zL Y=true->Br l Y y e k'->Br l x y e (k+1+k')
inductive On (l:List Ent) (x:Tm):Tm->Bool->Int->Int->Prop
 |stop:uE l x = .none->On l x x false 0 0
 |redE {Y:Tm} {e:Int}:uE l x = .red Y e->e≠0->On l x x false e 0
 |redL {Y:Tm}:uE l x = .red Y 0->zL Y=false->On l x zT true 2 1
 |red {Y:Tm}:uE l x = .red Y 0->zL Y=true->On l x Y true 0 1
 |tgtE {a z:Tm} {e k:Int}:uE l x = .tgt a->Br l a z e k->e≠0->On l x x false e k
 |tgtN {a z:Tm} {k:Int}:uE l x = .tgt a->Br l a z 0 k->tE l x z=none->On l x x false 0 k
 |tgtRE {a z Y:Tm} {e k:Int}:uE l x = .tgt a->Br l a z 0 k->tE l x z=some (Y,e)->e≠0->On l x x false e k
 |tgtRL {a z Y:Tm} {k:Int}:uE l x = .tgt a->Br l a z 0 k->tE l x z=some (Y,0)->zL Y=false->On l x zT true 2 (k+1)
 |tgtR {a z Y:Tm} {k:Int}:uE l x = .tgt a->Br l a z 0 k->tE l x z=some (Y,0)->zL Y=true->On l x Y true 0 (k+1)
theorem Br.nn{l:List Ent}{x y:Tm}{e k:Int}(h:Br l x y e k):0≤k:=by
 induction h<;>omega
theorem On.still{l:List Ent}{x y:Tm}{k:Int}(h:On l x y false 0 k):y=x∧Br l x x 0 k:=by
 cases h with
 |stop h=>exact⟨rfl,.stop h⟩
 |redE _ h=>exact absurd rfl h
 |tgtE _ _ h=>exact absurd rfl h
 |tgtN a b c=>exact⟨rfl,.tgtN a b c⟩
 |tgtRE _ _ _ h=>exact absurd rfl h
theorem On.err{l:List Ent}{x y:Tm}{d:Bool}{e k:Int}(h:On l x y d e k)(he:e≠0):Br l x zT e k:=by
 cases h with
 |redE a b=>exact .redE a b
 |redL a b=>exact .redL a b
 |tgtE a b c=>exact .tgtE a b c
 |tgtRE a b c d=>exact .tgtRE a b c d
 |tgtRL a b c d=>exact .tgtRL a b c d
 |_=>exact absurd rfl he
theorem On.step{l:List Ent}{x Y:Tm}{k:Int}(h:On l x Y true 0 k):zL Y=true∧1≤k∧∀y e k',Br l Y y e k'->Br l x y e (k+k'):=by
 cases h with
 |red a b=>exact⟨b,by omega,fun y e k' h=>.red a b h⟩
 |tgtR a b c d=>exact⟨d,by have:=b.nn;omega,fun y e k' h=>.tgtR a b c d h⟩
def HB(l:List Ent)(x:Tm)(f:Int):Prop:=Ou (fun L U q=>zBf q (xH l) x L U) er4 (fun R k=>∃y e,Br l x y e k∧R=fun L U=>(y,e,L,U)) (∀y e k,Br l x y e k->f<k) f
def QO(l:List Ent)(x:Tm)(R:Int->Int->Tm×Bool×Int×Int×Int)(k:Int):Prop:=∃Y d e,On l x Y d e k∧R=fun L U=>(Y,d,e,L,U)
def QF(l:List Ent)(x:Tm)(R:Int->Int->Tm×Bool×Int×Int×Int)(k:Int):Prop:=
 (uE l x = .none∧k=0∧∃Y,R=fun L U=>(Y,false,0,L,U)) ∨
 ∃a z e,uE l x = .tgt a∧Br l a z e k∧((e≠0∧∃Y,R=fun L U=>(Y,false,e,L,U))∨(e=0∧((tE l x z=none∧∃Y,R=fun L U=>(Y,false,0,L,U))∨∃Y e',Y.Ok∧tE l x z=some (Y,e')∧R=fun L U=>(Y,true,e',L,U))))
theorem qE{t:Tm}(hg:xA t=true)(h:t.k=3∨t.k=4∨t.k=5):∃a b,t.sub=[a,b]∧xA a=true∧xA b=true:=by
 obtain⟨k,n,l⟩:=t
 have hh:=wV hg
 obtain⟨a,b,rfl⟩:=zPi ((uT hh.1).2.2.2.2.2.1 h).1
 have hc:=xW hh.2
 exact⟨a,b,rfl,hc.1,(xW hc.2).1⟩
theorem zKx{N:ByteArray->Bool}(l:List Ent)(hE:wS N l)(x:Tm)(hs:zL x=true)(f:Int)(hf:0≤f)(h3:(hdT x).k≠4)(hk:rM l (hdT x)=4)(hb:∀a∈arT x,HB l a f)(hB:∀a y k,zL a=true->Br l a y 0 k->zL y=true) :
  Ou (fun L U q=>zKz q (xH l) (hdT x) (arT x) L U) er5 (QF l x) (∃a,uE l x = .tgt a∧∀z e k,Br l a z e k->f<k) f:=by
 have hh:=uU hs
 have h0:=gK (zQ hh).2.2
 have hks:=tD hk (by decide)
 have h1:=hks.2.1
 have ho:OkA (arT x):=fun y hy=>zV (yS hs hy)
 have hl:(arT x).length≤8192:=by
  have h:=zQ hs
  have:=uV _ h.2.2
  omega
 have hp:=(yV (hE.2 _ h0 h1)).2.2.2.1 hks.2.2
 unfold K0 at hp
 simp only[Bool.and_eq_true]at hp
 have hw:=rL hp.1
 have hfam:=wP ((yV (hE.2 _ hw.1 (by omega))).2.1 hw.2.2.1)
 have hact:uE l x=if ((arT x).length:Int)≤(ent l (hdT x).n).pars then .none else .tgt (nth (arT x) (ent l (hdT x).n).pars):=by
  unfold uE
  rw[if_neg (fun h=>h3 h.1),if_neg (by omega),if_pos hk]
 have hre:∀y,tE l x y=if vW l y∧(ent l (hdT y).n).fam=(ent l (hdT x).n).fam then
   some (apT (gM l (hdT x).n ((arT y).drop (ent l (hdT y).n).pars.toNat)).1 ((arT x).drop ((ent l (hdT x).n).pars+1).toNat),(gM l (hdT x).n ((arT y).drop (ent l (hdT y).n).pars.toNat)).2)
  else none:=fun y=>by
  unfold tE
  rw[if_pos hk]
 refine Ou.succ ?_
 simp only[zKz,eB,V3,gL]
 refine Ou.pure (yL h0 h1) (Ou.ite (fun hn=>Ou.ret hf (.inl ⟨by rw[hact,if_pos (of_decide_eq_true hn)],rfl,_,rfl⟩)) fun hn=>?_)
 have hn':=of_decide_eq_false hn
 rw[if_neg hn']at hact
 have hlt:(ent l (hdT x).n).pars<(arT x).length:=by omega
 have hp0:0≤(ent l (hdT x).n).pars:=by omega
 refine Ou.pure (uL hp0 hlt) (Ou.bind (hb _ (sS hp0 hlt)) (fun h=>⟨_,hact,h⟩) (fun r hr=>⟨_,Evt.ifT (by show (r.2.1 != 0)=true;rw[show r.2.1=8 from hr];decide) Evt.ret,hr⟩) ?_)
 rintro R k k0 k1 ⟨y,e,hbr,rfl⟩
 dsimp only
 refine Ou.ite (fun h=>Ou.ret (by omega) (.inr ⟨_,y,e,hact,by rwa[Int.add_zero],.inl ⟨by simpa using h,_,rfl⟩⟩)) fun h=>?_
 have he:e=0:=by simpa using h
 subst he
 have hy:=hB _ _ _ (yS hs (sS hp0 hlt)) hbr
 refine Ou.evt (N9 l y hy) ?_
 unfold jN
 by_cases hc:vW l y
 ·rw[if_pos hc]
  have hcs:=vL hy hc
  obtain⟨A,z,a1,-,-,a4,a5,a6,a7,-⟩:=vY hE hcs.1 hcs.2.1 hcs.2.2.1
  refine Ou.ifT rfl (Ou.pure (yL hcs.1 hcs.2.1) (Ou.ite (fun hf'=>Ou.ret (by omega) (.inr ⟨_,y,0,hact,by rwa[Int.add_zero],.inr ⟨rfl,.inl ⟨?_,_,rfl⟩⟩⟩)) fun hf'=>?_))
  ·rw[hre,if_neg (fun h=>by simp[h.2]at hf')]
  ·have hf2:(ent l (hdT y).n).fam=(ent l (hdT x).n).fam:=by simpa using hf'
   have hra:OkA (arT y):=fun x hx=>zV (yS hy hx)
   have hrl:(arT y).length≤8192:=by
    have h:=zQ hy
    have:=uV _ h.2.2
    omega
   have hlen:=hcs.2.2.2
   have hX:=gN l (hdT x).n ((arT y).drop (ent l (hdT y).n).pars.toNat) hE (hra.drop _) (by rw[List.length_drop];omega)
   refine Ou.pure (sZ a6 (by show (ent l (hdT y).n).pars≤((arT y).length:Int);omega)) (Ou.evt hX.1 ?_)
   rw[yJ (x:=(ent l (hdT x).n).pars+1) (by omega) (by omega)]
   refine Ou.pure (sZ (by omega) (by omega)) (Ou.evt (sY _ _ (by rw[List.length_drop];omega)) (Ou.ret (by omega) (.inr ⟨_,y,0,hact,by rwa[Int.add_zero],.inr ⟨rfl,.inr ⟨_,_,?_,?_,rfl⟩⟩⟩)))
   ·exact pN _ _ hX.2.1 (ho.drop _)
   ·rw[hre,if_pos ⟨hc,hf2⟩]
 ·rw[if_neg hc]
  refine Ou.ifF rfl (Ou.ret (by omega) (.inr ⟨_,y,0,hact,by rwa[Int.add_zero],.inr ⟨rfl,.inl ⟨?_,_,rfl⟩⟩⟩))
  rw[hre,if_neg (fun h=>hc h.1)]
theorem zNM{N:ByteArray->Bool}(l:List Ent)(hE:wS N l)(x:Tm)(hs:zL x=true)(f:Int)(hf:0≤f)(hk:(hdT x).k=7)(hb:∀a∈arT x,HB l a f)(hB:∀a y k,zL a=true->Br l a y 0 k->zL y=true) :
  Ou (fun L U q=>zKy q (xH l) (hdT x) (arT x) L U) er5 (QF l x) (∃a,uE l x = .tgt a∧∀z e k,Br l a z e k->f<k) f:=by
 have hh:=uU hs
 have hg:=(zQ hh).2.2
 have h0:=gK hg
 have ho:OkA (arT x):=fun y hy=>zV (yS hs hy)
 have hl:(arT x).length≤8192:=by
  have h:=zQ hs
  have:=uV _ h.2.2
  omega
 have hkk:∀n:Int,n≠0->rM l (hdT x)≠n:=fun n hn e=>by have:=(tD e hn).1;omega
 have hact:uE l x=if isT l (hdT x).n 1=true∧xS (ent l (hdT x).n)≤(arT x).length then .tgt (nth (arT x) (xS (ent l (hdT x).n)-1))else .none:=by
  unfold uE
  rw[if_neg (fun h=>by omega),if_neg (hkk 3 (by decide)),if_neg (hkk 4 (by decide)),if_pos hk]
 have hre:∀y,tE l x y=if vW l y∧(ent l (hdT y).n).fam=(hdT x).n then
   some (apT (K3 l (hdT x).n (nth (hdT x).sub 0).n (hdT y).n ((arT x).take ((ent l (hdT x).n).pars+1+(ent l (hdT x).n).cons.length).toNat) ((arT y).drop (ent l (hdT x).n).pars.toNat)).1 ((arT x).drop (xS (ent l (hdT x).n)).toNat),
    (K3 l (hdT x).n (nth (hdT x).sub 0).n (hdT y).n ((arT x).take ((ent l (hdT x).n).pars+1+(ent l (hdT x).n).cons.length).toNat) ((arT y).drop (ent l (hdT x).n).pars.toNat)).2)
  else none:=fun y=>by
  unfold tE
  rw[if_neg (hkk 4 (by decide))]
 refine Ou.succ ?_
 simp only[zKy,eB,V3,gL]
 refine Ou.ite (fun hn=>Ou.ret hf (.inl ⟨?_,rfl,_,rfl⟩)) fun hn=>?_
 ·rw[hact,if_neg]
  intro h
  have:=(uJ h.1).2.1
  have:=of_decide_eq_true hn
  omega
 have h1:(hdT x).n<l.length:=by have:=of_decide_eq_false hn;omega
 refine Ou.pure (yL h0 h1) (Ou.ite (fun hk1=>Ou.ret hf (.inl ⟨?_,rfl,_,rfl⟩)) fun hk1=>?_)
 ·rw[hact,if_neg]
  intro h
  have h2:=(uJ h.1).2.2
  rw[h2]at hk1
  simp at hk1
 have hk1':(ent l (hdT x).n).kind=1:=by simpa using hk1
 have hfam:=wP ((yV (hE.2 _ h0 h1)).2.1 hk1')
 have hisT:isT l (hdT x).n 1=true:=by unfold isT;simp[h0,h1,hk1']
 have hargs:xS (ent l (hdT x).n)=(ent l (hdT x).n).pars+2+(ent l (hdT x).n).cons.length+(ent l (hdT x).n).inds:=by unfold xS;rw[if_pos hk1']
 refine Ou.pure (zNF h0 h1) (Ou.ite (fun hn=>Ou.ret hf (.inl ⟨?_,rfl,_,rfl⟩)) fun hn=>?_)
 ·rw[hact,if_neg]
  intro h
  have:=of_decide_eq_true hn
  omega
 have hn':=of_decide_eq_false hn
 rw[if_pos ⟨hisT,by omega⟩]at hact
 rw[yJ (x:=xS (ent l (hdT x).n)-1) (by omega) (by omega)]
 have hp0:0≤xS (ent l (hdT x).n)-1:=by omega
 have hlt:xS (ent l (hdT x).n)-1<(arT x).length:=by omega
 refine Ou.pure (uL hp0 hlt) (Ou.bind (hb _ (sS hp0 hlt)) (fun h=>⟨_,hact,h⟩) (fun r hr=>⟨_,Evt.ifT (by show (r.2.1 != 0)=true;rw[show r.2.1=8 from hr];decide) Evt.ret,hr⟩) ?_)
 rintro R k k0 k1 ⟨y,e,hbr,rfl⟩
 dsimp only
 refine Ou.ite (fun h=>Ou.ret (by omega) (.inr ⟨_,y,e,hact,by rwa[Int.add_zero],.inl ⟨by simpa using h,_,rfl⟩⟩)) fun h=>?_
 have he:e=0:=by simpa using h
 subst he
 have hy:=hB _ _ _ (yS hs (sS hp0 hlt)) hbr
 refine Ou.evt (N9 l y hy) ?_
 unfold jN
 by_cases hc:vW l y
 ·rw[if_pos hc]
  have hcs:=vL hy hc
  obtain⟨A,z,a1,-,-,a4,a5,a6,a7,-,-,-,a8,-⟩:=vY hE hcs.1 hcs.2.1 hcs.2.2.1
  refine Ou.ifT rfl (Ou.pure (yL hcs.1 hcs.2.1) (Ou.ite (fun hf'=>Ou.ret (by omega) (.inr ⟨_,y,0,hact,by rwa[Int.add_zero],.inr ⟨rfl,.inl ⟨?_,_,rfl⟩⟩⟩)) fun hf'=>?_))
  ·rw[hre,if_neg (fun h=>by simp[h.2]at hf')]
  ·have hf2:(ent l (hdT y).n).fam=(hdT x).n:=by simpa using hf'
   rw[hf2]at a8
   have hra:OkA (arT y):=fun x hx=>zV (yS hy hx)
   have hrl:(arT y).length≤8192:=by
    have h:=zQ hy
    have:=uV _ h.2.2
    omega
   have hlen:=hcs.2.2.2
   have hsub:∃s,(hdT x).sub=[s]:=by
    revert hg hk
    generalize hdT x=y
    intro hk hg
    obtain⟨kk,nn,ss⟩:=y
    obtain⟨s,hs,-⟩:=(uT (wV hg).1).2.2.2.2.2.2.1 hk
    exact⟨s,hs⟩
   obtain⟨s,hsb⟩:=hsub
   rw[yJ (x:=(ent l (hdT x).n).pars+1) (by omega) (by omega),yJ (x:=(ent l (hdT x).n).pars+1+(ent l (hdT x).n).cons.length) (by omega) (by omega)]
   have hX:=cI l (hdT x).n (nth (hdT x).sub 0).n (hdT y).n ((arT x).take ((ent l (hdT x).n).pars+1+(ent l (hdT x).n).cons.length).toNat) ((arT y).drop (ent l (hdT x).n).pars.toNat) hE (ho.take _) (hra.drop _) (by rw[List.length_take];omega) (by rw[List.length_drop];omega)
   refine Ou.pure (uL (by omega) (by rw[hsb];simp)) (Ou.pure (a:=(arT x).take ((ent l (hdT x).n).pars+1+(ent l (hdT x).n).cons.length).toNat) ?_ (Ou.pure (sZ (by omega) (by show _≤((arT y).length:Int);omega)) (Ou.evt hX.1 ?_)))
   ·rw[N7 (by omega) (by omega) (by omega)];simp
   refine Ou.pure (sZ (by omega) (by omega)) (Ou.evt (sY _ _ (by rw[List.length_drop];omega)) (Ou.ret (by omega) (.inr ⟨_,y,0,hact,by rwa[Int.add_zero],.inr ⟨rfl,.inr ⟨_,_,?_,?_,rfl⟩⟩⟩)))
   ·exact pN _ _ hX.2.1 (ho.drop _)
   ·rw[hre,if_pos ⟨hc,hf2⟩]
 ·rw[if_neg hc]
  refine Ou.ifF rfl (Ou.ret (by omega) (.inr ⟨_,y,0,hact,by rwa[Int.add_zero],.inr ⟨rfl,.inl ⟨?_,_,rfl⟩⟩⟩))
  rw[hre,if_neg (fun h=>hc h.1)]
def zVA(l:List Ent)(Y:Tm)(e0 k0:Int)(y:Tm)(e k:Int):Prop:=
 (e0≠0∧y=zT∧e=e0∧k=k0)∨(e0=0∧zL Y=false∧y=zT∧e=2∧k=k0+1)∨(e0=0∧zL Y=true∧∃k',Br l Y y e k'∧k=k0+1+k')
section
variable {l:List Ent} {x y:Tm} {e k:Int}
theorem Br.inv_none(h:Br l x y e k)(ha:uE l x = .none):y=x∧e=0∧k=0:=by
 cases h with
 |stop _=>exact⟨rfl,rfl,rfl⟩
 |redE a=>rw[ha]at a;cases a
 |redL a=>rw[ha]at a;cases a
 |red a=>rw[ha]at a;cases a
 |tgtE a=>rw[ha]at a;cases a
 |tgtN a=>rw[ha]at a;cases a
 |tgtRE a=>rw[ha]at a;cases a
 |tgtRL a=>rw[ha]at a;cases a
 |tgtR a=>rw[ha]at a;cases a
theorem Br.inv_red{Y:Tm}{e0:Int}(h:Br l x y e k)(ha:uE l x = .red Y e0):zVA l Y e0 0 y e k:=by
 cases h with
 |stop a=>rw[ha]at a;cases a
 |redE a b=>rw[ha]at a;cases a;exact .inl ⟨b,rfl,rfl,rfl⟩
 |redL a b=>rw[ha]at a;cases a;exact .inr (.inl ⟨rfl,b,rfl,rfl,rfl⟩)
 |red a b c=>rw[ha]at a;cases a;exact .inr (.inr ⟨rfl,b,_,c,by omega⟩)
 |tgtE a=>rw[ha]at a;cases a
 |tgtN a=>rw[ha]at a;cases a
 |tgtRE a=>rw[ha]at a;cases a
 |tgtRL a=>rw[ha]at a;cases a
 |tgtR a=>rw[ha]at a;cases a
theorem Br.inv_tgt{a:Tm}(h:Br l x y e k)(ha:uE l x = .tgt a):∃z ea ka,Br l a z ea ka∧((ea≠0∧y=zT∧e=ea∧k=ka)∨(ea=0∧((tE l x z=none∧y=x∧e=0∧k=ka)∨∃Y e0,tE l x z=some (Y,e0)∧zVA l Y e0 ka y e k))):=by
 cases h with
 |stop a=>rw[ha]at a;cases a
 |redE a b=>rw[ha]at a;cases a
 |redL a b=>rw[ha]at a;cases a
 |red a b c=>rw[ha]at a;cases a
 |tgtE a b c=>rw[ha]at a;cases a;exact⟨_,_,_,b,.inl ⟨c,rfl,rfl,rfl⟩⟩
 |tgtN a b c=>rw[ha]at a;cases a;exact⟨_,_,_,b,.inr ⟨rfl,.inl ⟨c,rfl,rfl,rfl⟩⟩⟩
 |tgtRE a b c d=>rw[ha]at a;cases a;exact⟨_,_,_,b,.inr ⟨rfl,.inr ⟨_,_,c,.inl ⟨d,rfl,rfl,rfl⟩⟩⟩⟩
 |tgtRL a b c d=>rw[ha]at a;cases a;exact⟨_,_,_,b,.inr ⟨rfl,.inr ⟨_,_,c,.inr (.inl ⟨rfl,d,rfl,rfl,rfl⟩)⟩⟩⟩
 |tgtR a b c d f=>rw[ha]at a;cases a;exact⟨_,_,_,b,.inr ⟨rfl,.inr ⟨_,_,c,.inr (.inr ⟨rfl,d,_,f,rfl⟩)⟩⟩⟩
theorem Br.det(h:Br l x y e k):∀ {y':Tm} {e' k':Int},Br l x y' e' k'->y'=y∧e'=e∧k'=k:=by
 induction h with
 |stop a=>intro y' e' k' h2;exact h2.inv_none a
 |redE a b=>
  intro y' e' k' h2
  rcases h2.inv_red a with⟨c,d⟩|⟨c,d⟩|⟨c,d⟩
  ·exact d
  ·exact absurd c b
  ·exact absurd c b
 |redL a b=>
  intro y' e' k' h2
  rcases h2.inv_red a with⟨c,d⟩|⟨c,d,f⟩|⟨c,d,f⟩
  ·exact absurd rfl c
  ·exact f
  ·rw[b]at d;cases d
 |red a b c ih=>
  intro y' e' k' h2
  rcases h2.inv_red a with⟨c,d⟩|⟨c,d,f⟩|⟨c,d,n,f,g⟩
  ·exact absurd rfl c
  ·rw[b]at d;cases d
  ·obtain⟨rfl,rfl,rfl⟩:=ih f;exact⟨rfl,rfl,by omega⟩
 |tgtE a b c ih=>
  intro y' e' k' h2
  obtain⟨z',ea,ka,hb',h3⟩:=h2.inv_tgt a
  obtain⟨rfl,rfl,rfl⟩:=ih hb'
  rcases h3 with⟨_,d⟩|⟨d,_⟩
  ·exact d
  ·exact absurd d c
 |tgtN a b c ih=>
  intro y' e' k' h2
  obtain⟨z',ea,ka,hb',h3⟩:=h2.inv_tgt a
  obtain⟨rfl,rfl,rfl⟩:=ih hb'
  rcases h3 with⟨d,_⟩|⟨_,⟨_,d⟩|⟨Y,e0,d,_⟩⟩
  ·exact absurd rfl d
  ·exact d
  ·rw[c]at d;cases d
 |tgtRE a b c d ih=>
  intro y' e' k' h2
  obtain⟨z',ea,ka,hb',h3⟩:=h2.inv_tgt a
  obtain⟨rfl,rfl,rfl⟩:=ih hb'
  rcases h3 with⟨f,_⟩|⟨_,⟨f,_⟩|⟨Y,e0,f,g⟩⟩
  ·exact absurd rfl f
  ·rw[c]at f;cases f
  ·rw[c]at f;cases f
   rcases g with⟨_,g⟩|⟨g,_⟩|⟨g,_⟩
   ·exact g
   ·exact absurd g d
   ·exact absurd g d
 |tgtRL a b c d ih=>
  intro y' e' k' h2
  obtain⟨z',ea,ka,hb',h3⟩:=h2.inv_tgt a
  obtain⟨rfl,rfl,rfl⟩:=ih hb'
  rcases h3 with⟨f,_⟩|⟨_,⟨f,_⟩|⟨Y,e0,f,g⟩⟩
  ·exact absurd rfl f
  ·rw[c]at f;cases f
  ·rw[c]at f;cases f
   rcases g with⟨g,_⟩|⟨_,_,g⟩|⟨_,g,_⟩
   ·exact absurd rfl g
   ·exact g
   ·rw[d]at g;cases g
 |tgtR a b c d f ih ih2=>
  intro y' e' k' h2
  obtain⟨z',ea,ka,hb',h3⟩:=h2.inv_tgt a
  obtain⟨rfl,rfl,rfl⟩:=ih hb'
  rcases h3 with⟨f,_⟩|⟨_,⟨f,_⟩|⟨Y,e0,f,g⟩⟩
  ·exact absurd rfl f
  ·rw[c]at f;cases f
  ·rw[c]at f;cases f
   rcases g with⟨g,_⟩|⟨_,g,_⟩|⟨_,_,n,g,rfl⟩
   ·exact absurd rfl g
   ·rw[d]at g;cases g
   ·obtain⟨rfl,rfl,rfl⟩:=ih2 g;exact⟨rfl,rfl,rfl⟩
theorem On.det{Y Y':Tm}{d d':Bool}{e e' k k':Int}(h:On l x Y d e k)(h':On l x Y' d' e' k'):Y'=Y∧d'=d∧e'=e∧k'=k:=by
 cases h with
 |stop a=>
  cases h' with
  |stop _=>exact⟨rfl,rfl,rfl,rfl⟩
  |redE b=>rw[a]at b;cases b
  |redL b=>rw[a]at b;cases b
  |red b=>rw[a]at b;cases b
  |tgtE b=>rw[a]at b;cases b
  |tgtN b=>rw[a]at b;cases b
  |tgtRE b=>rw[a]at b;cases b
  |tgtRL b=>rw[a]at b;cases b
  |tgtR b=>rw[a]at b;cases b
 |redE a c=>
  cases h' with
  |redE b=>rw[a]at b;cases b;exact⟨rfl,rfl,rfl,rfl⟩
  |redL b=>rw[a]at b;cases b;exact absurd rfl c
  |red b=>rw[a]at b;cases b;exact absurd rfl c
  |stop b=>rw[a]at b;cases b
  |tgtE b=>rw[a]at b;cases b
  |tgtN b=>rw[a]at b;cases b
  |tgtRE b=>rw[a]at b;cases b
  |tgtRL b=>rw[a]at b;cases b
  |tgtR b=>rw[a]at b;cases b
 |redL a c=>
  cases h' with
  |redE b d=>rw[a]at b;cases b;exact absurd rfl d
  |redL b=>exact⟨rfl,rfl,rfl,rfl⟩
  |red b d=>rw[a]at b;cases b;rw[c]at d;cases d
  |stop b=>rw[a]at b;cases b
  |tgtE b=>rw[a]at b;cases b
  |tgtN b=>rw[a]at b;cases b
  |tgtRE b=>rw[a]at b;cases b
  |tgtRL b=>rw[a]at b;cases b
  |tgtR b=>rw[a]at b;cases b
 |red a c=>
  cases h' with
  |redE b d=>rw[a]at b;cases b;exact absurd rfl d
  |redL b d=>rw[a]at b;cases b;rw[c]at d;cases d
  |red b d=>rw[a]at b;cases b;exact⟨rfl,rfl,rfl,rfl⟩
  |stop b=>rw[a]at b;cases b
  |tgtE b=>rw[a]at b;cases b
  |tgtN b=>rw[a]at b;cases b
  |tgtRE b=>rw[a]at b;cases b
  |tgtRL b=>rw[a]at b;cases b
  |tgtR b=>rw[a]at b;cases b
 |tgtE a c f=>
  cases h' with
  |stop b=>rw[a]at b;cases b
  |redE b=>rw[a]at b;cases b
  |redL b=>rw[a]at b;cases b
  |red b=>rw[a]at b;cases b
  |tgtE b g=>rw[a]at b;cases b;obtain⟨-,rfl,rfl⟩:=c.det g;exact⟨rfl,rfl,rfl,rfl⟩
  |tgtN b g=>rw[a]at b;cases b;exact absurd (c.det g).2.1.symm f
  |tgtRE b g=>rw[a]at b;cases b;exact absurd (c.det g).2.1.symm f
  |tgtRL b g=>rw[a]at b;cases b;exact absurd (c.det g).2.1.symm f
  |tgtR b g=>rw[a]at b;cases b;exact absurd (c.det g).2.1.symm f
 |tgtN a c f=>
  cases h' with
  |stop b=>rw[a]at b;cases b
  |redE b=>rw[a]at b;cases b
  |redL b=>rw[a]at b;cases b
  |red b=>rw[a]at b;cases b
  |tgtE b g n=>rw[a]at b;cases b;exact absurd (c.det g).2.1 n
  |tgtN b g=>rw[a]at b;cases b;obtain⟨-,-,rfl⟩:=c.det g;exact⟨rfl,rfl,rfl,rfl⟩
  |tgtRE b g n=>rw[a]at b;cases b;obtain⟨rfl,-,-⟩:=c.det g;rw[f]at n;cases n
  |tgtRL b g n=>rw[a]at b;cases b;obtain⟨rfl,-,-⟩:=c.det g;rw[f]at n;cases n
  |tgtR b g n=>rw[a]at b;cases b;obtain⟨rfl,-,-⟩:=c.det g;rw[f]at n;cases n
 |tgtRE a c f n0=>
  cases h' with
  |stop b=>rw[a]at b;cases b
  |redE b=>rw[a]at b;cases b
  |redL b=>rw[a]at b;cases b
  |red b=>rw[a]at b;cases b
  |tgtE b g n=>rw[a]at b;cases b;exact absurd (c.det g).2.1 n
  |tgtN b g n=>rw[a]at b;cases b;obtain⟨rfl,-,-⟩:=c.det g;rw[f]at n;cases n
  |tgtRE b g n=>rw[a]at b;cases b;obtain⟨rfl,-,rfl⟩:=c.det g;rw[f]at n;cases n;exact⟨rfl,rfl,rfl,rfl⟩
  |tgtRL b g n=>rw[a]at b;cases b;obtain⟨rfl,-,-⟩:=c.det g;rw[f]at n;cases n;exact absurd rfl n0
  |tgtR b g n=>rw[a]at b;cases b;obtain⟨rfl,-,-⟩:=c.det g;rw[f]at n;cases n;exact absurd rfl n0
 |tgtRL a c f n0=>
  cases h' with
  |stop b=>rw[a]at b;cases b
  |redE b=>rw[a]at b;cases b
  |redL b=>rw[a]at b;cases b
  |red b=>rw[a]at b;cases b
  |tgtE b g n=>rw[a]at b;cases b;exact absurd (c.det g).2.1 n
  |tgtN b g n=>rw[a]at b;cases b;obtain⟨rfl,-,-⟩:=c.det g;rw[f]at n;cases n
  |tgtRE b g n m=>rw[a]at b;cases b;obtain⟨rfl,-,-⟩:=c.det g;rw[f]at n;cases n;exact absurd rfl m
  |tgtRL b g n=>rw[a]at b;cases b;obtain⟨rfl,-,rfl⟩:=c.det g;exact⟨rfl,rfl,rfl,rfl⟩
  |tgtR b g n m=>rw[a]at b;cases b;obtain⟨rfl,-,-⟩:=c.det g;rw[f]at n;cases n;rw[n0]at m;cases m
 |tgtR a c f n0=>
  cases h' with
  |stop b=>rw[a]at b;cases b
  |redE b=>rw[a]at b;cases b
  |redL b=>rw[a]at b;cases b
  |red b=>rw[a]at b;cases b
  |tgtE b g n=>rw[a]at b;cases b;exact absurd (c.det g).2.1 n
  |tgtN b g n=>rw[a]at b;cases b;obtain⟨rfl,-,-⟩:=c.det g;rw[f]at n;cases n
  |tgtRE b g n m=>rw[a]at b;cases b;obtain⟨rfl,-,-⟩:=c.det g;rw[f]at n;cases n;exact absurd rfl m
  |tgtRL b g n m=>rw[a]at b;cases b;obtain⟨rfl,-,-⟩:=c.det g;rw[f]at n;cases n;rw[n0]at m;cases m
  |tgtR b g n=>rw[a]at b;cases b;obtain⟨rfl,-,rfl⟩:=c.det g;rw[f]at n;cases n;exact⟨rfl,rfl,rfl,rfl⟩
end
section
variable {l:List Ent} {x y:Tm} {e k:Int}
theorem On.tgt_lt{a Y:Tm}{d:Bool}{f:Int}(h:On l x Y d e k)(ha:uE l x = .tgt a)(hl:∀z e k,Br l a z e k->f<k):f<k:=by
 cases h with
 |stop b=>rw[ha]at b;cases b
 |redE b=>rw[ha]at b;cases b
 |redL b=>rw[ha]at b;cases b
 |red b=>rw[ha]at b;cases b
 |tgtE b g=>rw[ha]at b;cases b;exact hl _ _ _ g
 |tgtN b g=>rw[ha]at b;cases b;exact hl _ _ _ g
 |tgtRE b g=>rw[ha]at b;cases b;exact hl _ _ _ g
 |tgtRL b g=>rw[ha]at b;cases b;have:=hl _ _ _ g;omega
 |tgtR b g=>rw[ha]at b;cases b;have:=hl _ _ _ g;omega
theorem On.red_lt{Y Z:Tm}{d:Bool}{e0:Int}(h:On l x Y d e k)(ha:uE l x = .red Z e0)(h0:e0=0):k=1:=by
 subst h0
 cases h with
 |stop b=>rw[ha]at b;cases b
 |redE b c=>rw[ha]at b;cases b;exact absurd rfl c
 |redL b=>rfl
 |red b=>rfl
 |tgtE b g=>rw[ha]at b;cases b
 |tgtN b g=>rw[ha]at b;cases b
 |tgtRE b g=>rw[ha]at b;cases b
 |tgtRL b g=>rw[ha]at b;cases b
 |tgtR b g=>rw[ha]at b;cases b
theorem Br.first(h:Br l x y e k):∃Y d e1 k1,On l x Y d e1 k1∧k1≤k:=by
 cases h with
 |stop a=>exact⟨_,_,_,_,.stop a,by omega⟩
 |redE a b=>exact⟨_,_,_,_,.redE a b,by omega⟩
 |redL a b=>exact⟨_,_,_,_,.redL a b,by omega⟩
 |red a b c=>exact⟨_,_,_,_,.red a b,by have:=c.nn;omega⟩
 |tgtE a b c=>exact⟨_,_,_,_,.tgtE a b c,by omega⟩
 |tgtN a b c=>exact⟨_,_,_,_,.tgtN a b c,by omega⟩
 |tgtRE a b c d=>exact⟨_,_,_,_,.tgtRE a b c d,by omega⟩
 |tgtRL a b c d=>exact⟨_,_,_,_,.tgtRL a b c d,by omega⟩
 |tgtR a b c d f=>exact⟨_,_,_,_,.tgtR a b c d,by have:=f.nn;omega⟩
theorem Br.after{Y:Tm}{k1:Int}(h:Br l x y e k)(hO:On l x Y true 0 k1):∃k2,Br l Y y e k2∧k=k1+k2:=by
 cases hO with
 |red a b=>
  rcases h.inv_red a with⟨c,-⟩|⟨-,c,-⟩|⟨-,-,n,f,g⟩
  ·exact absurd rfl c
  ·rw[b]at c;cases c
  ·exact⟨n,f,by omega⟩
 |tgtR a b c d=>
  obtain⟨z',ea,ka,hb',h3⟩:=h.inv_tgt a
  obtain⟨rfl,rfl,rfl⟩:=b.det hb'
  rcases h3 with⟨f,_⟩|⟨_,⟨f,_⟩|⟨Y,e0,f,g⟩⟩
  ·exact absurd rfl f
  ·rw[c]at f;cases f
  ·rw[c]at f;cases f
   rcases g with⟨g,_⟩|⟨_,g,_⟩|⟨_,_,n,g,rfl⟩
   ·exact absurd rfl g
   ·rw[d]at g;cases g
   ·exact⟨n,g,by omega⟩
end
def zQD(qq:Nat)(M:yY)(p1:Tm):Option Bool:=
 Z9 qq p1 1048577 (M.l.length:Int)>>=fun r1=>
 some r1
theorem zVB{qq M p1 r}(h:zQD qq M p1=some r):Ct 136 [mB M 1,mR M] [.mp 0 0,tmA p1] (ab r) [mB M 1,mR M] 0:=⟨by
 unfold zQD at h
 obtain⟨r1,h2,h⟩:=zC h
 obtain rfl:=sj h
 exact tF ⟨Tryz.func136,rfl⟩ 0 [0,1] (oDM M<|oC 4 [] (z7 h2) o0),⟨(lz rfl),⟨tv,tv,⟨tv,dT _⟩,tv⟩,tv⟩,(fMa (lz rfl) zB),tv,(fMf (lz rfl) zB)⟩
def zBe(qq:Nat)(M:yY)(p1:Tm)(fl fu:Int):Option (Tm×Int×Int×Int):=
 zQD qq M p1>>=fun r1=>
 if r1 then
 zBf qq M p1 fl fu>>=fun r4=>
 if r4.2.1 != 0 then
 some ((Tm.mk 0 0 []),r4.2.1,r4.2.2.1,r4.2.2.2)
 else
 e53 qq r4.1>>=fun r7=>
 some (r7,0,r4.2.2.1,r4.2.2.2)
 else
 some ((Tm.mk 0 0 []),5,fl,fu)
theorem zTk:Qf 100 Tryz.f100:=⟨Tryz.func100,rfl⟩
theorem zQE{qq M p1 fl fu r}(h:zBe qq M p1 fl fu=some r):Ct 100 [mB M 1,mR M,.cells [ai fl,ai fu]] [.mp 0 0,tmA p1,.mp 2 0] (.tup [tmA r.1,ai r.2.1]) [mB M 1,mR M,.cells [ai r.2.2.1,ai r.2.2.2]] 0:=⟨by
 unfold zBe at h
 obtain⟨r1,h2,h⟩:=zC h
 obtain⟨h3,h⟩|⟨h3,h⟩:=spl h
 obtain⟨r4,h5,h⟩:=zC h
 have k:=oC 2 [0,1,2] (zXq h5)<|oK 1 [0,1] h3 (zVB h2) o0
 obtain⟨h6,h⟩|⟨h6,h⟩:=spl h
 cases h
 exact tF zTk 1 [0,1,2] (oD (dT ([]:List Tm))<|oDM M<|oB 3 h6 k)
 obtain⟨r7,h8,h⟩:=zC h
 cases h
 exact tF zTk 1 [0,1,2] (oD (dT r7.sub)<|oDM M<|oC 1 [] (c53 h8)<|oB 3 h6 k)
 cases h
 exact tF zTk 2 [0,1,2] (oD (dT ([]:List Tm))<|oDM M<|oK 1 [0,1] h3 (zVB h2) o0),⟨(lz rfl),⟨tv,tv,⟨tv,dT _⟩,tv⟩,(lz rfl),tv⟩,(fMa (lz rfl) (zA ⟨tv,tv,tv⟩ zB)),⟨⟨tv,tv,dT _,tv⟩,tv,tv⟩,(fMf (lz rfl) (zA ⟨tv,tv,tv⟩ zB))⟩
theorem Br.shaped{l:List Ent}{x y:Tm}{e k:Int}(h:Br l x y e k):zL x=true->e=0->zL y=true:=by
 induction h with
 |stop _=>exact fun hs _=>hs
 |redE _ h=>exact fun _ he=>absurd he h
 |redL _ _=>exact fun _ he=>absurd he (by decide)
 |red _ hY _ ih=>exact fun _ he=>ih hY he
 |tgtE _ _ h _=>exact fun _ he=>absurd he h
 |tgtN _ _ _ _=>exact fun hs _=>hs
 |tgtRE _ _ _ h _=>exact fun _ he=>absurd he h
 |tgtRL _ _ _ _ _=>exact fun _ he=>absurd he (by decide)
 |tgtR _ _ _ hY _ _ ih=>exact fun _ he=>ih hY he
theorem zBd{Q:(Int->Int->Tm×Bool×Int×Int×Int)->Int->Prop}(p Y:Tm)(f:Int)(hf:0≤f)(ho:Y.Ok)(hL:zL Y=false->Q (fun L U=>(zT,true,2,L,U)) 1)(hS:zL Y=true->Q (fun L U=>(Y,true,0,L,U)) 1){S:Prop}(hsh:f<1->S) :
  Ou (fun L U q=>(e98 q L U)>>=fun r28=>if (r28.1 != 0)=true then some (p,false,r28.1,r28.2.1,r28.2.2)else(F4 q Y)>>=fun r31=>some (r31.1,true,r31.2,r28.2.1,r28.2.2)) er5 Q S f:=by
 refine Ou.bind (zQc f hf) hsh (fun r hr=>⟨_,Evt.ifT (by show (r.1 != 0)=true;rw[show r.1=8 from hr];decide) Evt.ret,hr⟩) ?_
 rintro R k k0 k1 ⟨rfl,rfl⟩
 dsimp only
 refine Ou.ifF rfl (Ou.evt (zGv Y ho) ?_)
 unfold zTo
 cases h:zL Y with
 |true=>exact Ou.ret (by omega) (hS h)
 |false=>exact Ou.ret (by omega) (hL h)
theorem zDU(l:List Ent)(p:Tm)(f:Int)(hf:0≤f){g:Int->Int->Nat->Option (Tm×Bool×Int×Int×Int)}(h:Ou g er5 (QF l p) (∃a,uE l p = .tgt a∧∀z e k,Br l a z e k->f<k) f) :
  Ou (fun L U q=>g L U q>>=fun r36=>if r36.2.1=true then(if (r36.2.2.1 != 0)=true then some (p,false,r36.2.2.1,r36.2.2.2.1,r36.2.2.2.2)else
   (e98 q r36.2.2.2.1 r36.2.2.2.2)>>=fun r40=>if (r40.1 != 0)=true then some (p,false,r40.1,r40.2.1,r40.2.2)else(F4 q r36.1)>>=fun r43=>some (r43.1,true,r43.2,r40.2.1,r40.2.2))
   else(if (r36.2.2.1 != 0)=true then some (p,false,r36.2.2.1,r36.2.2.2.1,r36.2.2.2.2)else some (p,false,r36.2.2.1,r36.2.2.2.1,r36.2.2.2.2))) er5 (QO l p) (∀Y d e k,On l p Y d e k->f<k) f:=by
 refine Ou.bind h (fun⟨a,ha,h⟩ Y d e k hO=>hO.tgt_lt ha h) (fun r hr=>?_) ?_
 ·have hr':(r.2.2.1 != 0)=true:=by rw[show r.2.2.1=8 from hr];decide
  cases hd:r.2.1 with
  |true=>exact⟨_,Evt.ifT rfl (Evt.ifT hr' Evt.ret),hr⟩
  |false=>exact⟨_,Evt.ifF rfl (Evt.ifT hr' Evt.ret),hr⟩
 ·rintro R k k0 k1 (⟨ha,rfl,Y,rfl⟩|⟨a,z,e,ha,hb,⟨he,Y,rfl⟩|⟨rfl,⟨hr,Y,rfl⟩|⟨Y,e',hY,hr,rfl⟩⟩⟩)
  ·exact Ou.ifF rfl (Ou.ifF rfl (Ou.ret (by omega) ⟨p,false,0,On.stop ha,rfl⟩))
  ·dsimp only
   exact Ou.ifF rfl (Ou.ifT (by simpa using he) (Ou.ret (by omega) ⟨p,false,e,by rw[Int.add_zero];exact On.tgtE ha hb he,rfl⟩))
  ·exact Ou.ifF rfl (Ou.ifF rfl (Ou.ret (by omega) ⟨p,false,0,by rw[Int.add_zero];exact On.tgtN ha hb hr,rfl⟩))
  ·dsimp only
   refine Ou.ifT rfl (Ou.ite (fun h=>?_) fun h=>?_)
   ·exact Ou.ret (by omega) ⟨p,false,e',by rw[Int.add_zero];exact On.tgtRE ha hb hr (by simpa using h),rfl⟩
   ·have he:e'=0:=by simpa using h
    subst he
    refine zBd p Y (f-k) (by omega) hY (fun hs=>⟨_,_,_,On.tgtRL ha hb hr hs,rfl⟩) (fun hs=>⟨_,_,_,On.tgtR ha hb hr hs,rfl⟩) (fun h Y' d' e' k' hO=>?_)
    cases hsY:zL Y with
    |true=>have:=(On.tgtR ha hb hr hsY).det hO;omega
    |false=>have:=(On.tgtRL ha hb hr hsY).det hO;omega
theorem zNN{N:ByteArray->Bool}(l:List Ent)(hE:wS N l)(he:∀e∈l,EOk e)(x:Tm)(hs:zL x=true)(f:Int)(hf:0≤f)(hb:∀a∈arT x,HB l a f):Ou (fun L U q=>zNJ q (xH l) x L U) er5 (QO l x) (∀Y d e k,On l x Y d e k->f<k) f:=by
 have hB:∀a y k,zL a=true->Br l a y 0 k->zL y=true:=fun a y k h1 h2=>h2.shaped h1 rfl
 have hh:=uU hs
 have hg:=(zQ hh).2.2
 have hn:=gK hg
 have ho:OkA (arT x):=fun y hy=>zV (yS hs hy)
 have hl:(arT x).length≤8192:=by
  have h:=zQ hs
  have:=uV _ h.2.2
  omega
 refine Ou.succ ?_
 simp only[zNJ,eB,V3,gL]
 refine Ou.evt (nF x hs) (Ou.ite (fun h4=>?_) fun h4=>?_)
 ·have h4':(hdT x).k=4:=by simpa using h4
  have hkk:∀k:Int,k≠0->rM l (hdT x)≠k:=fun k hk e=>by have:=(tD e hk).1;omega
  refine Ou.ite (fun hlen=>?_) fun hlen=>?_
  ·have hlen':((arT x).length:Int)>0:=of_decide_eq_true hlen
   obtain⟨a,b,hab,-,hgb⟩:=qE hg (.inr (.inl h4'))
   have hm:nth (arT x) 0∈arT x:=sS (by omega) (by omega)
   have hbo:(nth (hdT x).sub 1).Ok:=by rw[hab];exact rD b hgb
   have hact:uE l x = .red (apT (gD (nth (hdT x).sub 1) [nth (arT x) 0]).1 ((arT x).drop 1)) (gD (nth (hdT x).sub 1) [nth (arT x) 0]).2:=by
    unfold uE
    rw[if_pos ⟨h4',by omega⟩]
   refine Ou.pure (uL (by omega) (by rw[hab];simp)) (Ou.pure (uL (by omega) (by show (0:Int)<((arT x).length:Int);omega)) (Ou.evt (zSE _ _ hbo (ho _ hm)) (Ou.pure (sZ (by omega) (by show (1:Int)≤((arT x).length:Int);omega)) (Ou.evt (sY _ _ (by show (List.drop _ (arT x)).length<_;rw[List.length_drop];omega)) ?_))))
   refine Ou.ite (fun h=>Ou.ret hf ⟨_,_,_,On.redE hact (by simpa using h),rfl⟩) fun h=>?_
   have he0:(gD (nth (hdT x).sub 1) [nth (arT x) 0]).2=0:=by simpa using h
   rw[he0]at hact
   exact zBd x _ f hf (pN _ _ (N3 _ _ hbo (OkA.one (ho _ hm))) (ho.drop _)) (fun hs=>⟨_,_,_,On.redL hact hs,rfl⟩) (fun hs=>⟨_,_,_,On.red hact hs,rfl⟩) (fun h Y' d' e' k' hO=>by have:=hO.red_lt hact rfl;omega)
  ·have hlen':¬((arT x).length:Int)>0:=of_decide_eq_false hlen
   have hact:uE l x = .none:=by
    unfold uE
    rw[if_neg (fun h=>by omega),if_neg (hkk 3 (by decide)),if_neg (hkk 4 (by decide)),if_neg (by omega)]
   refine Ou.evt (gJ l _ hn) (Ou.ifF (by simpa using hkk 3 (by decide)) ?_)
   refine Ou.evt (gJ l _ hn) (Ou.ifF (by simpa using hkk 4 (by decide)) ?_)
   exact Ou.ifF (by show ((hdT x).k==7)=false;rw[h4'];decide) (Ou.ret hf ⟨_,_,_,On.stop hact,rfl⟩)
 ·have h4':(hdT x).k≠4:=by simpa using h4
  refine Ou.evt (gJ l _ hn) (Ou.ite (fun h=>?_) fun h=>?_)
  ·have h3:rM l (hdT x)=3:=by simpa using h
   have hk:=tD h3 (by decide)
   have hact:uE l x = .red (apT (ent l (hdT x).n).body (arT x)) 0:=by
    unfold uE
    rw[if_neg (fun h=>h4' h.1),if_pos h3]
   refine Ou.pure (yL hn hk.2.1) (Ou.evt (sY _ _ (by show (arT x).length<_;omega)) ?_)
   exact zBd x _ f hf (pN _ _ (he _ (pC hn hk.2.1)).2.1 ho) (fun hs=>⟨_,_,_,On.redL hact hs,rfl⟩) (fun hs=>⟨_,_,_,On.red hact hs,rfl⟩) (fun h Y' d' e' k' hO=>by have:=hO.red_lt hact rfl;omega)
  ·have h3:rM l (hdT x)≠3:=by simpa using h
   refine Ou.evt (gJ l _ hn) (Ou.ite (fun h=>?_) fun h=>?_)
   ·exact zDU l x f hf (zKx l hE x hs f hf h4' (by simpa using h) hb hB)
   ·have h4k:rM l (hdT x)≠4:=by simpa using h
    refine Ou.ite (fun h=>zDU l x f hf (zNM l hE x hs f hf (by simpa using h) hb hB)) fun h=>?_
    have h7:(hdT x).k≠7:=by simpa using h
    have hact:uE l x = .none:=by
     unfold uE
     rw[if_neg (fun h=>h4' h.1),if_neg h3,if_neg h4k,if_neg h7]
    exact Ou.ret hf ⟨_,_,_,On.stop hact,rfl⟩
theorem zKw{N:ByteArray->Bool}(l:List Ent)(hE:wS N l)(he:∀e∈l,EOk e):∀(F n:Nat) (x:Tm),zL x=true->x.nodes≤n->Ou (fun L U q=>eA q (xH l) L U x.k x.n x.sub) er4 (fun R k=>∃y e,Br l x y e k∧R=fun L U=>(y,e,L,U)) (∀y e k,Br l x y e k->(F:Int)<k) (F:Int):=by
 intro F
 induction F using Nat.strongRecOn with
 |ind F IH=>
  intro n
  induction n with
  |zero=>intro x _ h;have:=rJ x;omega
  |succ n ih=>
   intro x hs hn
   have hg:=(zQ hs).2.2
   have hb:∀a∈arT x,HB l a F:=fun a ha=>by
    have:=((M9 x hg).2.2.2.2 a ha).2.1
    refine Ou.succ ?_
    simp only[zBf]
    exact ih a (yS hs ha) (by omega)
   refine Ou.succ ?_
   simp only[eA,sC]
   refine Ou.bind (zNN l hE he x hs F (by omega) hb) (fun h y e k hbr=>by obtain⟨Y,d,e1,k1,h1,h2⟩:=hbr.first;have:=h _ _ _ _ h1;omega) (fun r hr=>?_) ?_
   ·have hr':(r.2.2.1 != 0)=true:=by rw[show r.2.2.1=8 from hr];decide
    cases hd:r.2.1 with
    |true=>exact⟨_,Evt.ifT rfl (Evt.ifT hr' Evt.ret),hr⟩
    |false=>exact⟨_,Evt.ifF rfl (Evt.ifT hr' Evt.ret),hr⟩
   ·rintro R k k0 k1 ⟨Y,d,e,hO,rfl⟩
    dsimp only
    by_cases e0:e=0
    ·subst e0
     cases d with
     |true=>
      obtain⟨hY,hk1,hst⟩:=hO.step
      refine Ou.ifT rfl (Ou.ifF rfl ?_)
      have:=IH ((F:Int)-k).toNat (by omega) Y.nodes Y hY (Nat.le_refl _)
      rw[show ((((F:Int)-k).toNat:Nat):Int)=F-k by omega]at this
      refine this.mono ?_ fun h y e k' hbr=>?_
      ·rintro R n _ _ ⟨y,e,hbr,rfl⟩
       exact⟨y,e,hst y e n hbr,rfl⟩
      ·obtain⟨k2,h2,h3⟩:=hbr.after hO
       have:=h _ _ _ h2
       omega
     |false=>
      obtain⟨rfl,hbr⟩:=hO.still
      exact Ou.ifF rfl (Ou.ifF rfl (Ou.ret (by omega) ⟨Y,0,by rwa[Int.add_zero],rfl⟩))
    ·have hb:=hO.err e0
     have hr':(e != 0)=true:=by simpa using e0
     cases d with
     |true=>exact Ou.ifT rfl (Ou.ifT hr' (Ou.ret (by omega) ⟨zT,e,by rwa[Int.add_zero],rfl⟩))
     |false=>exact Ou.ifF rfl (Ou.ifT hr' (Ou.ret (by omega) ⟨zT,e,by rwa[Int.add_zero],rfl⟩))
theorem zTj{N:ByteArray->Bool}(l:List Ent)(hE:wS N l)(he:∀e∈l,EOk e)(x:Tm)(hs:zL x=true)(f:Int)(hf:0≤f):HB l x f:=by
 refine Ou.succ ?_
 simp only[zBf]
 have:=zKw l hE he f.toNat x.nodes x hs (Nat.le_refl _)
 rwa[show ((f.toNat:Nat):Int)=f by omega]at this
def vR(l:List Ent)(x:Tm):Prop:=sU x 1048577 l.length=true
instance (l:List Ent) (x:Tm):Decidable (vR l x):=inferInstanceAs (Decidable (_=true))
theorem vR.shaped{l:List Ent}{x:Tm}(h:vR l x):zL x=true:=by
 unfold vR sU at h
 simp only[Bool.and_eq_true]at h
 exact h.1.1
def QBR(l:List Ent)(x:Tm)(R:Int->Int->Tm×Int×Int×Int)(k:Int):Prop:=
 (¬vR l x∧k=0∧R=fun L U=>(zT,5,L,U))∨(vR l x∧∃y e,Br l x y e k∧R=fun L U=>(if e=0 then y else zT,e,L,U))
theorem i9{N:ByteArray->Bool}(l:List Ent)(hE:wS N l)(he:∀e∈l,EOk e)(x:Tm)(ho:x.Ok)(f:Int)(hf:0≤f):Ou (fun L U q=>zBe q (xH l) x L U) er4 (QBR l x) (vR l x∧∀y e k,Br l x y e k->f<k) f:=by
 simp only[zBe,zQD,eB]
 refine Ou.evt (a:=sU x 1048577 l.length) ((lJ x _ _ ho).bind Evt.ret) (Ou.ite (fun h=>?_) fun h=>?_)
 ·have hR:vR l x:=h
  refine Ou.bind (zTj l hE he x hR.shaped f hf) (fun h=>⟨hR,h⟩) (fun r hr=>⟨_,Evt.ifT (by show (r.2.1 != 0)=true;rw[show r.2.1=8 from hr];decide) Evt.ret,hr⟩) ?_
  rintro R k k0 k1 ⟨y,e,hbr,rfl⟩
  dsimp only
  by_cases e0:e=0
  ·subst e0
   have hy:=hbr.shaped hR.shaped rfl
   refine Ou.ifF rfl (Ou.evt (a:=y) ((sR y (zV hy)).eq (by unfold nE;rw[if_pos hy])) (Ou.ret (by omega) (.inr ⟨hR,y,0,by rwa[Int.add_zero],rfl⟩)))
  ·refine Ou.ifT (by simpa using e0) (Ou.ret (by omega) (.inr ⟨hR,y,e,by rwa[Int.add_zero],?_⟩))
   rw[if_neg e0];rfl
 ·exact Ou.ret hf (.inl ⟨by unfold vR;rw[h];simp,rfl,rfl⟩)
structure Inv (l:List Ent) (I:Tm->Prop):Prop where
 spine:∀t,xA t=true->I t->I (hdT t)∧∀a∈arT t,I a
 ap:∀f as0,I f->(∀a∈as0,I a)->I (apT f as0)
 beta:∀(n:Int) (a b x:Tm),I (.mk 4 n [a,b])->I x->I (siT [x] b 0)
 body:∀i:Int,0≤i->i<l.length->(ent l i).kind=3->I (ent l i).body
 step:∀(d:Int) (s:Tm) (lev c:Int) (args own:List Tm),I (.mk 7 d [s])->isT l c 2=true->(ent l c).fam=d->(args.length:Int)=(ent l d).pars+1+(ent l d).cons.length->own.length=(wH l c).args.length->(∀a∈args,I a)->(∀a∈own,I a)->I (zHM l d lev c args own)
theorem zQF{l:List Ent}{I:Tm->Prop}(hI:Inv l I){x Y:Tm}(hs:zL x=true)(hx:I x)(h:uE l x = .red Y 0):I Y:=by
 have hsp:=hI.spine x (zQ hs).2.2 hx
 have hg:=(zQ (uU hs)).2.2
 unfold uE at h
 by_cases h1:(hdT x).k=4∧0<(arT x).length
 ·rw[if_pos h1]at h
  have hm:nth (arT x) 0∈arT x:=sS (by omega) (by omega)
  obtain⟨a,b,hab,-,-⟩:=qE hg (.inr (.inl h1.1))
  have hhd:hdT x = .mk 4 (hdT x).n [a,b]:=by rw[←h1.1,←hab,sC]
  injection h with hY he
  rw[(zBt he).2.2.2]at hY
  rw[←hY]
  refine hI.ap _ _ ?_ fun y hy=>hsp.2 y (List.mem_of_mem_drop hy)
  have hb:nth (hdT x).sub 1=b:=by rw[hab];rfl
  rw[hb]
  exact hI.beta (hdT x).n a b _ (by rw[←hhd];exact hsp.1) (hsp.2 _ hm)
 ·rw[if_neg h1]at h
  by_cases h2:rM l (hdT x)=3
  ·rw[if_pos h2]at h
   injection h with hY he
   rw[←hY]
   have hk:=tD h2 (by decide)
   exact hI.ap _ _ (hI.body _ (gK hg) hk.2.1 hk.2.2) hsp.2
  ·rw[if_neg h2]at h
   split at h
   ·split at h<;>cases h
   ·split at h
    ·split at h<;>cases h
    ·cases h
theorem O2{N:ByteArray->Bool}{l:List Ent}(hE:wS N l){x a:Tm}(hs:zL x=true)(h:uE l x = .tgt a):a∈arT x∧(rM l (hdT x)=4∨((hdT x).k=7∧isT l (hdT x).n 1=true∧xS (ent l (hdT x).n)≤(arT x).length)):=by
 have hn:=gK (zQ (uU hs)).2.2
 unfold uE at h
 by_cases h1:(hdT x).k=4∧0<(arT x).length
 ·rw[if_pos h1]at h;cases h
 ·rw[if_neg h1]at h
  by_cases h2:rM l (hdT x)=3
  ·rw[if_pos h2]at h;cases h
  ·rw[if_neg h2]at h
   by_cases h3:rM l (hdT x)=4
   ·rw[if_pos h3]at h
    split at h
    ·cases h
    ·injection h with h
     have hk:=tD h3 (by decide)
     have hp:=(yV (hE.2 _ hn hk.2.1)).2.2.2.1 hk.2.2
     unfold K0 at hp
     simp only[Bool.and_eq_true]at hp
     have hw:=rL hp.1
     have hfam:=wP ((yV (hE.2 _ hw.1 (by omega))).2.1 hw.2.2.1)
     rw[←h]
     exact⟨sS (by omega) (by omega),.inl h3⟩
   ·rw[if_neg h3]at h
    by_cases h4:(hdT x).k=7
    ·rw[if_pos h4]at h
     split at h
     ·rename_i h5
      injection h with h
      have hi:=uJ h5.1
      have hfam:=wP ((yV (hE.2 _ hi.1 hi.2.1)).2.1 hi.2.2)
      have h6:=h5.2
      unfold xS at h6 h
      rw[if_pos hi.2.2]at h6 h
      rw[←h]
      exact⟨sS (by omega) (by omega),.inr ⟨h4,h5⟩⟩
     ·cases h
    ·rw[if_neg h4]at h;cases h
theorem zKv{N:ByteArray->Bool}{l:List Ent}{I:Tm->Prop}(hE:wS N l)(hI:Inv l I){x y Y a:Tm}(hs:zL x=true)(hsy:zL y=true)(hx:I x)(hy:I y)(ha:uE l x = .tgt a)(h:tE l x y=some (Y,0)):I Y:=by
 have hsp:=hI.spine x (zQ hs).2.2 hx
 have hsy2:=hI.spine y (zQ hsy).2.2 hy
 have hg:=(zQ (uU hs)).2.2
 have hox:OkA (arT x):=fun z hz=>zV (yS hs hz)
 have hoy:OkA (arT y):=fun z hz=>zV (yS hsy hz)
 have hlx:(arT x).length≤8192:=by
  have h:=zQ hs
  have:=uV _ h.2.2
  omega
 have hly:(arT y).length≤8192:=by
  have h:=zQ hsy
  have:=uV _ h.2.2
  omega
 have hca:=(O2 hE hs ha).2
 unfold tE at h
 by_cases h4:rM l (hdT x)=4
 ·rw[if_pos h4]at h
  split at h
  ·simp only[Option.some.injEq,Prod.mk.injEq]at h
   have hX:=(gN l (hdT x).n ((arT y).drop (ent l (hdT y).n).pars.toNat) hE (hoy.drop _) (by rw[List.length_drop];omega)).2.2.2 h.2
   rw[←h.1]
   refine hI.ap _ _ ?_ fun z hz=>hsp.2 z (List.mem_of_mem_drop hz)
   rw[hX.2.2.2]
   exact hsy2.2 _ (List.mem_of_mem_drop (sS hX.2.1 hX.2.2.1))
  ·cases h
 ·rw[if_neg h4]at h
  obtain⟨h7,-,-⟩:=hca.resolve_left h4
  split at h
  ·simp only[Option.some.injEq,Prod.mk.injEq]at h
   have hX:=(cI l (hdT x).n (nth (hdT x).sub 0).n (hdT y).n ((arT x).take ((ent l (hdT x).n).pars+1+(ent l (hdT x).n).cons.length).toNat) ((arT y).drop (ent l (hdT x).n).pars.toNat) hE (hox.take _) (hoy.drop _) (by rw[List.length_take];omega) (by rw[List.length_drop];omega)).2.2.2 h.2
   rw[←h.1]
   refine hI.ap _ _ ?_ fun z hz=>hsp.2 z (List.mem_of_mem_drop hz)
   obtain⟨-,-,b1,b2,b3,b4,-,-,b5,-⟩:=hX
   rw[b5]
   obtain⟨s,hsb⟩:∃s,(hdT x).sub=[s]:=by
    revert hg h7
    generalize hdT x=w
    intro hg h7
    obtain⟨kk,nn,ss⟩:=w
    obtain⟨s,hs,-⟩:=(uT (wV hg).1).2.2.2.2.2.2.1 h7
    exact⟨s,hs⟩
   have hhd:hdT x = .mk 7 (hdT x).n [s]:=by rw[←h7,←hsb,sC]
   exact hI.step _ s _ _ _ _ (by rw[←hhd];exact hsp.1) b1 b2 b3 b4 (fun z hz=>hsp.2 z (List.mem_of_mem_take hz)) (fun z hz=>hsy2.2 z (List.mem_of_mem_drop hz))
  ·cases h
theorem Br.inv{N:ByteArray->Bool}{l:List Ent}{I:Tm->Prop}(hE:wS N l)(hI:Inv l I){x y:Tm}{e k:Int}(h:Br l x y e k):zL x=true->e=0->I x->I y:=by
 induction h with
 |stop _=>exact fun _ _ hx=>hx
 |redE _ h=>exact fun _ he=>absurd he h
 |redL _ _=>exact fun _ he=>absurd he (by decide)
 |red a hY _ ih=>exact fun hs he hx=>ih hY he (zQF hI hs hx a)
 |tgtE _ _ h _=>exact fun _ he=>absurd he h
 |tgtN _ _ _ _=>exact fun _ _ hx=>hx
 |tgtRE _ _ _ h _=>exact fun _ he=>absurd he h
 |tgtRL _ _ _ _ _=>exact fun _ he=>absurd he (by decide)
 |tgtR a b c hY _ ih ih2=>
  intro hs he hx
  have hm:=(O2 hE hs a).1
  have hsa:=yS hs hm
  exact ih2 hY he (zKv hE hI hs (b.shaped hsa rfl) hx (ih hsa rfl ((hI.spine _ (zQ hs).2.2 hx).2 _ hm)) a c)
theorem e9{N:ByteArray->Bool}{l:List Ent}(hE:wS N l){P:Int->Int->Prop}(hP:∀k n:Int,k≠8->(k=6∨k=7->n<l.length)->P k n):Inv l (yT P) where
 spine:=fun t hg h=>qV t hg h
 ap:=fun f as0 hf ha=>jD as0 f (hP 5 0 (by decide) (by omega)) hf ha
 beta:=fun n a b x h hx=>by
  rw[yT,xU,xU,xU]at h
  exact N6 [x] (fun y hy=>by rw[List.mem_singleton.1 hy];exact hx) b 0 h.2.2.1
 body:=fun i h0 h1 hk=>by
  have hd:=(yV (hE.2 i h0 h1)).2.2.2.2.1 hk
  unfold zFN at hd
  simp only[Bool.and_eq_true]at hd
  exact tR (fun k n h=>hP k n h.2 fun h'=>by have:=h.1 h';omega) (jE hd.1)
 step:=fun d s lev c args own h7 hc hf ha ho h1 h2=>by
  have hi:=uJ hc
  obtain⟨A,y,hw,-⟩:=vY hE hi.1 hi.2.1 hi.2.2
  rw[yT]at h7
  refine zJZ (hP 4 0 (by decide) (by omega)) (hP 5 0 (by decide) (by omega)) (hP 0 0 (by decide) (by omega)) (hP 2 _ (by decide) (by omega)) (h7.1.resolve_left (by decide)) h1 h2 ?_
  exact zGy (by rw[hw]) (tR (fun k n h=>hP k n h.2 fun h'=>by have:=h.1 h';omega) (jE (yV (hE.2 _ hi.1 hi.2.1)).1))
theorem zTi{N:ByteArray->Bool}{l:List Ent}(hE:wS N l)(V:Int->Prop):Inv l (fun t=>∀j∈lvT t 0,V j) where
 spine:=fun t hg h=>⟨fun j hj=>h j ((aY t hg 0 j).1 hj),fun a ha j hj=>h j ((aY t hg 0 j).2 a ha hj)⟩
 ap:=fun f as0 hf ha j hj=>by
  rcases(j8 as0 f 0 j).1 hj with h|⟨a,h1,h2⟩
  ·exact hf j h
  ·exact ha a h1 j h2
 beta:=fun n a b x h hx j hj=>by
  obtain⟨i,hi,h1|⟨h1,h2⟩⟩:=zNw [x] b 0 j (Int.le_refl 0) hj
  ·refine h j (zNt.2 (.inr ?_))
   simp only[List.length_cons,List.length_nil]at h1
   have:=(lN b 0 1 j (by omega)).2 ⟨by omega,by rwa[show j+1=i by omega]⟩
   exact this
  ·simp only[List.length_cons,List.length_nil]at h1
   refine hx j ?_
   have e:i.toNat=0:=by omega
   simpa[e]using h2
 body:=fun i h0 h1 hk j hj=>by
  have hd:=(yV (hE.2 i h0 h1)).2.2.2.2.1 hk
  unfold zFN at hd
  simp only[Bool.and_eq_true]at hd
  exact absurd hj (j9 hd.1 0 j (Int.le_refl 0))
 step:=fun d s lev c args own h7 hc hf ha ho h1 h2 j hj=>by
  rcases zQf hE hc hf ha ho hj with⟨a,h3,h4⟩|⟨a,h3,h4⟩
  ·exact h1 a h3 j h4
  ·exact h2 a h3 j h4
end Go.Proofs.YtfbkefchjcocmaaGreat
