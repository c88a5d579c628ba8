/- Parts of the proof that the law returns true: walks of the functions, plain laws. -/
import Derived.Test.YtohkcbcddindpaaGreatAbB3
set_option linter.unusedVariables false
set_option linter.unusedSimpArgs false
set_option linter.unusedSectionVars false
namespace Go.Proofs.YtohkcbcddindpaaGreat
open Go Go.Ab Go.Proofs.Tryz
def jL(e:yL):Prop:=e.type.Ok/\e.body.Ok/\e.cons.length<=1152921504606846976/\e.fields.length<=1152921504606846976
def zE:yL:=yL.mk 0 ⟨#[]⟩ zT zT 0 0 0 0 0 [] []
def zU(l:List yL)(n:Int):yL:=(l[n.toNat]?).getD zE
theorem yU{l:List yL}{n:Int}(h0:0<=n)(h1:n<l.length):zV l n=some (zU l n):=by
 unfold zV zU;rw[if_pos h0];have:n.toNat<l.length:=by omega
 rw[List.getElem?_eq_getElem this];rfl
theorem nH{l:List yL}{n:Int}(h0:0<=n)(h1:n<l.length):zU l n∈l:=by
 unfold zU;have:n.toNat<l.length:=by omega
 rw[List.getElem?_eq_getElem this];exact List.getElem_mem this
def S7(l:List yL)(n kind:Int):Bool:=decide (0<=n)&&decide (n<l.length)&&(zU l n).kind==kind
theorem tL{l:List yL}{n kind:Int}(h:S7 l n kind=true):0<=n/\n<l.length/\(zU l n).kind=kind:=by unfold S7 at h;simp only[Bool.and_eq_true,decide_eq_true_eq,beq_iff_eq]at h;exact⟨h.1.1,h.1.2,h.2⟩
theorem zPf(l:List yL)(n kind:Int):zH (λq=>zMh q l n kind) (S7 l n kind):=by
 simp only[zMh];unfold S7;by_cases h0:n>=0
 ·refine zH.ifT (decide_eq_true h0) ?_;by_cases h1:n<l.length;·exact zH.ifT (decide_eq_true h1) (zH.pure (yU h0 h1) (zH.ret.eq (by simp[show 0<=n from h0,h1])))
  ·exact zH.ifF (decide_eq_false h1) (zH.ret.eq (by simp[h1]))
 ·exact zH.ifF (decide_eq_false h0) (zH.ret.eq (by simp[show¬0<=n from h0]))
def aD(t:Tm):Bool:=t.k==0&&t.n==0&&(t.sub.length:Int)==0
theorem zDk(t:Tm):zH (λq=>zPi q t) (aD t):=by refine zH.mk λq=>?_;unfold zPi aD;by_cases h1:t.k=0<;>by_cases h2:t.n=0<;>by_cases h3:t.sub.length=0<;>simp[h1,h2,h3]
def tM(t:Tm)(n:Int):Bool:=rQ t 0 n&&(rY t 8 8).isEmpty
theorem n9(t:Tm)(n:Int)(ho:t.Ok):zH (λq=>zPj q t n) (tM t n):=by
 simp only[zPj];refine(lK t 0 n ho).bind ?_;unfold tM;by_cases h:rQ t 0 n=true
 ·refine zH.ifT h ((lJ t ho).bind (zH.ret.eq ?_));have hs:zF t=true:=by unfold rQ at h;simp at h;exact h.1.1
  unfold jH;rw[if_pos hs,h,Bool.true_and,Bool.eq_iff_iff];simp only[beq_iff_eq,List.isEmpty_iff];constructor
  ·intro h6;have h6':vG (rY t 8 8)=[]:=List.length_eq_zero_iff.1 (by omega);refine List.eq_nil_iff_forall_not_mem.2 λx hx=>?_;rw[<-pQ,h6']at hx;cases hx
  ·intro h6;rw[h6];rfl
 ·exact zH.ifF (by simpa using h) (zH.ret.eq (by simp[h]))
def zBt:List Int->Int->Bool|[],_=>true|n::r,m=>n==m&&zBt r (m+1)
theorem zFc(l:List Int)(f:Int)(hf:0<=f/\f<=1048576)(hl:l.length<=1152921504606846976):∀(r:List Int)(v:Nat),l.drop v=r->zH (λq=>cI q l f (v:Int)) (zBt r (f+v))
 |[],v,hd=>by refine zH.succ ?_;simp only[cI];exact zH.ifF (yB hd) zH.ret|n::r,v,hd=>by
  have hlt:=yF hd;refine zH.succ ?_;simp only[cI];refine zH.ifT (yA hd) (zH.pure (zZ hd) ?_);rw[yQ (x:=f+v) (by omega) (by omega),zBt];by_cases h:n=f+v
  ·refine zH.ifF (by simp[h]) ?_;rw[zW v (by omega)];exact(zFc l f hf hl r (v+1) (zS hd)).eq (by rw[show f+((v+1:Nat):Int)=f+v+1 by omega];simp[h])
  ·exact zH.ifT (by simp[h]) (zH.ret.eq (by simp[h]))
theorem zKu(l:List Int)(f:Int)(hf:0<=f/\f<=1048576)(hl:l.length<=1152921504606846976):zH (λq=>zPh q l f) (zBt l f):=by simp only[zPh];exact(zFc l f hf hl l 0 rfl).eq (by simp)
def m1(l:List yL)(of kind:Int):List Int->Int->Bool|[],_=>true|n::r,k=>S7 l n kind&&(zU l n).fam==of&&(zU l n).place==k&&m1 l of kind r (k+1)
theorem S8(l:List yL)(of kind:Int)(p:List Int)(hp:p.length<=1152921504606846976):∀(r:List Int)(v:Nat),p.drop v=r->zH (λq=>cJ q l of p kind (v:Int)) (m1 l of kind r v)
 |[],v,hd=>by refine zH.succ ?_;simp only[cJ];exact zH.ifF (yB hd) zH.ret|n::r,v,hd=>by
  have hlt:=yF hd;refine zH.succ ?_;simp only[cJ];refine zH.ifT (yA hd) (zH.pure (zZ hd) ((zPf l n kind).bind ?_));rw[m1];by_cases h:S7 l n kind=true
  ·have hs:=tL h;refine zH.ifT h (zH.pure (yU hs.1 hs.2.1) ?_);by_cases h2:(zU l n).fam=of
   ·refine zH.ifF (by simp[h2]) ?_;by_cases h3:(zU l n).place=v
    ·refine zH.ifF (by simp[h3]) ?_;rw[zW v (by omega)];exact(S8 l of kind p hp r (v+1) (zS hd)).eq (by simp[h,h2,h3])
    ·exact zH.ifT (by simp[h3]) (zH.ret.eq (by simp[h3]))
   ·exact zH.ifT (by simp[h2]) (zH.ret.eq (by simp[h2]))
  ·exact zH.ifF (by simpa using h) (zH.ret.eq (by simp[h]))
theorem m6(l:List yL)(of kind:Int)(p:List Int)(hp:p.length<=1152921504606846976):zH (λq=>zPg q l of p kind) (m1 l of kind p 0):=by simp only[zPg];exact(S8 l of kind p hp p 0 rfl).eq (by simp)
def zIq(x:yL):Bool:=decide (0<=x.pars)&&decide (0<=x.inds)&&decide (x.pars<=24)&&decide (x.inds<=24-x.pars)&&x.fam==0&&x.place==0&&aD x.body
def zMg(x:yL):Bool:=(uL x.type (x.pars+x.inds)).2.2==0&&(uL x.type (x.pars+x.inds)).2.1.k==2&&(uL x.type (x.pars+x.inds)).2.1.n==x.level
def zFb(l:List yL)(i:Int)(x:yL):Bool:=decide (x.cons.length<=16)&&zBt x.cons (i+1)&&m1 l i 2 x.cons 0
def zWn(l:List yL)(i:Int)(x:yL):Bool:=x.inds==0&&decide (x.cons.length=1)&&zBt x.fields (i+2)&&m1 l i 4 x.fields 0&&(xC (zU l (i+1)).type).2.2==0&&((xC (zU l (i+1)).type).1.length:Int)==x.pars+x.fields.length
def mJ(l:List yL)(i:Int):Bool:=zIq (zU l i)&&zMg (zU l i)&&zFb l i (zU l i)&&(decide ((zU l i).fields.length=0)||zWn l i (zU l i))
theorem zMf(l:List yL)(i:Int)(h0:0<=i)(h1:i<l.length)(hl:l.length<=65535)(he:∀e∈l,jL e):zH (λq=>zSR q l i) (mJ l i):=by
 simp only[zSR];refine zH.pure (yU h0 h1) ?_;have hx:=he _ (nH h0 h1);have hfl:(zU l i).fields.length<=1152921504606846976:=hx.2.2.2;unfold mJ;by_cases hA:zIq (zU l i)=true
 ·have hA':=hA;unfold zIq at hA';simp only[Bool.and_eq_true,decide_eq_true_eq,beq_iff_eq]at hA';obtain⟨⟨⟨⟨⟨⟨a1,a2⟩,a3⟩,a4⟩,a5⟩,a6⟩,a7⟩:=hA';refine zH.ifF (decide_eq_false (by omega)) (zH.ifF (decide_eq_false (by omega)) (zH.ifF (decide_eq_false (by omega)) (zH.ifF (decide_eq_false (by rw[yQ (by omega) (by omega)];omega)) (zH.ifF (by simp[a5]) (zH.ifF (by simp[a6]) (((zDk _).eq a7).bind (zH.ifT rfl ?_)))))));rw[yQ (by omega) (by omega)];refine(F7 (zU l i).type _ hx.1).bind ?_;rw[hA];by_cases b1:(uL (zU l i).type ((zU l i).pars+(zU l i).inds)).2.2=0
  ·refine zH.ifF (by simp[b1]) ?_;by_cases b2:(uL (zU l i).type ((zU l i).pars+(zU l i).inds)).2.1.k=2
   ·refine zH.ifF (by simp[b2]) ?_;by_cases b3:(uL (zU l i).type ((zU l i).pars+(zU l i).inds)).2.1.n=(zU l i).level
    ·refine zH.ifF (by simp[b3]) ?_;have hB:zMg (zU l i)=true:=by unfold zMg;simp[b1,b2,b3]
     rw[hB];by_cases c1:(zU l i).cons.length<=16
     ·refine zH.ifF (decide_eq_false (by omega)) ?_;rw[yQ (x:=i+1) (by omega) (by omega)];refine(zKu (zU l i).cons (i+1) (by omega) (by omega)).bind ?_;by_cases c2:zBt (zU l i).cons (i+1)=true
      ·refine zH.ifT c2 ((m6 l i 2 (zU l i).cons (by omega)).bind ?_);by_cases c3:m1 l i 2 (zU l i).cons 0=true
       ·refine zH.ifT c3 ?_;have hC:zFb l i (zU l i)=true:=by unfold zFb;simp[c1,c2,c3]
        rw[hC];by_cases d0:(zU l i).fields.length=0;·exact zH.ifT (by simp[d0]) (zH.ret.eq (by simp[d0]))
        ·refine zH.ifF (by have h:((zU l i).fields.length:Int)≠0:=(by omega);simpa using h) ?_;rw[show decide ((zU l i).fields.length=0)=false by simp[d0]];simp only[Bool.true_and,Bool.false_or];unfold zWn;by_cases d1:(zU l i).inds=0
         ·refine zH.ifF (by simp[d1]) ?_;by_cases d2:(zU l i).cons.length=1
          ·refine zH.ifF (by simp[d2]) ?_;rw[yQ (x:=i+2) (by omega) (by omega)];refine(zKu (zU l i).fields (i+2) (by omega) hx.2.2.2).bind ?_;by_cases d3:zBt (zU l i).fields (i+2)=true
           ·refine zH.ifT d3 ((m6 l i 4 (zU l i).fields hx.2.2.2).bind ?_);by_cases d4:m1 l i 4 (zU l i).fields 0=true
            ·have hi:i+1<l.length:=by
              obtain⟨y,hy⟩:∃y,(zU l i).cons=[y]:=by rcases hc:(zU l i).cons with _|⟨y,_|⟨z,r⟩⟩<;>rw[hc]at d2<;>simp at d2;exact⟨y,rfl⟩
              rw[hy]at c2 c3;rw[zBt]at c2;rw[m1]at c3;simp only[Bool.and_eq_true,beq_iff_eq]at c2 c3;have:=tL c3.1.1.1;omega
             refine zH.ifT d4 (zH.pure (yU (by omega) hi) ((F9 _ (he _ (nH (by omega) hi)).1).bind ?_));by_cases d5:(xC (zU l (i+1)).type).2.2=0
             ·refine zH.ifT (by simp[d5]) (zH.ret.eq ?_);rw[yQ (x:=(zU l i).pars+((zU l i).fields.length:Int)) (by omega) (by omega)];simp[d1,d2,d3,d4,d5]
             ·exact zH.ifF (by simp[d5]) (zH.ret.eq (by simp[d5]))
            ·exact zH.ifF (by simpa using d4) (zH.ret.eq (by simp[d4]))
           ·exact zH.ifF (by simpa using d3) (zH.ret.eq (by simp[d3]))
          ·exact zH.ifT (by simp<;>omega) (zH.ret.eq (by simp[d2]))
         ·exact zH.ifT (by simp[d1]) (zH.ret.eq (by simp[d1]))
       ·refine zH.ifF (by simpa using c3) (zH.ret.eq ?_);unfold zFb;simp[c3]
      ·refine zH.ifF (by simpa using c2) (zH.ret.eq ?_);unfold zFb;simp[c2]
     ·refine zH.ifT (decide_eq_true (by omega)) (zH.ret.eq ?_);unfold zFb;simp[c1]
    ·refine zH.ifT (by simp[b3]) (zH.ret.eq ?_);unfold zMg;simp[b3]
   ·refine zH.ifT (by simp[b2]) (zH.ret.eq ?_);unfold zMg;simp[b2]
  ·refine zH.ifT (by simp[b1]) (zH.ret.eq ?_);unfold zMg;simp[b1]
 ·rw[show zIq (zU l i)=false by simpa using hA];unfold zIq at hA;simp only[Bool.and_eq_true,decide_eq_true_eq,beq_iff_eq]at hA;by_cases a1:(zU l i).pars<0;·exact zH.ifT (decide_eq_true a1) zH.ret
  refine zH.ifF (decide_eq_false a1) ?_;by_cases a2:(zU l i).inds<0;·exact zH.ifT (decide_eq_true a2) zH.ret
  refine zH.ifF (decide_eq_false a2) ?_;by_cases a3:(zU l i).pars>24;·exact zH.ifT (decide_eq_true a3) zH.ret
  refine zH.ifF (decide_eq_false a3) ?_;rw[yQ (x:=24-(zU l i).pars) (by omega) (by omega)];by_cases a4:(zU l i).inds>24-(zU l i).pars;·exact zH.ifT (decide_eq_true a4) zH.ret
  refine zH.ifF (decide_eq_false a4) ?_;by_cases a5:(zU l i).fam=0
  ·refine zH.ifF (by simp[a5]) ?_;by_cases a6:(zU l i).place=0
   ·refine zH.ifF (by simp[a6]) ((zDk _).bind ?_);by_cases a7:aD (zU l i).body=true;·exact absurd ⟨⟨⟨⟨⟨⟨by omega,by omega⟩,by omega⟩,by omega⟩,a5⟩,a6⟩,a7⟩ hA
    ·exact zH.ifF (by simpa using a7) zH.ret
   ·exact zH.ifT (by simp[a6]) zH.ret
  ·exact zH.ifT (by simp[a5]) zH.ret
def zPe(c:Nat)(b:xJ)(a:Int):Option (Bool):=zV b a>>=λx1=>zMh c b x1.fam 1>>=λr3=>if r3 then if decide (x1.fam>=a)then some false else zV b x1.fam>>=λx7=>if x1.pars !=x7.pars then some false else zPi c x1.body>>=λr10=>if r10 then if x1.inds !=0 then some false else if x1.level !=0 then some false else if decide ((xF ((x1.cons.length:Int)+(x1.fields.length:Int)))>0)then some false else if x1.kind==4 then if decide (x1.place>=0)then if decide (x1.place<(x7.fields.length:Int))then zV x7.fields x1.place>>=λx19=>some (x19==a)else some false else some false else if decide (x1.place>=0)then if decide (x1.place<(x7.cons.length:Int))then zV x7.cons x1.place>>=λx23=>some (x23==a)else some false else some false else some false else some false
theorem zZd{c b a}:Cz (zPe c b a) 163 [] [zP xE b .no,ai a] (λr=>ab r) (λ_=>[]) 0:=fw func163<|rA 0 (wO (o:=.no)) λ_=>rK 3 [] zWo (λ_=>rB 2 (fE 0)<|rH λ_ h8=>rS (oA 2 (wO (o:=.no) h8))<|rB 1 (fE 0)<|rK 1 [] zZg (λ_=>rB 2 (fE 0)<|rB 1 (fE 0)<|rB 5 (fE 0)<|rS (oA 1 (wO (o:=.no) h8))<|rB 2 (rS (oA 1 (wO (o:=.no) h8))<|rB 2 (rB 2 (rA 1 (gQ (o:=.no)) λ_=>fE 2)<|fE 0)<|fE 0)<|rB 1 (rB 2 (rA 1 (gQ (o:=.no)) λ_=>fE 2)<|fE 0)<|fE 0) λ_=>fE 1) λ_=>fE 1
def zSS(b:Nat)(a:xJ)(c:Int):Option (Bool):=zV a c>>=λx1=>zIs b x1.type>>=λr3=>zPe b a c>>=λr5=>if r5 then if r3.2.2==0 then if decide ((r3.1.length:Int)>=x1.pars)then zV a x1.fam>>=λx10=>zMp b r3.2.1 x1.fam x1.pars x10.inds (r3.1.length:Int)>>=λr12=>some r12 else some false else some false else some false
theorem yBA{b a c}:Cz (zSS b a c) 116 [] [zP xE a .no,ai c] (λr=>ab r) (λ_=>[]) 0:=fw func116<|rH λ_ h2=>rS (oA 0 (wO (o:=.no) h2))<|rC 1 [] zSB λ_=>rK 4 [] zZd (λ_=>rB 0 (rS (oA 1 (wO (o:=.no) h2))<|rB 1 (rS (oA 1 (wO (o:=.no) h2))<|rS (oA 1 (wO (o:=.no) h2))<|rS (oA 1 (wO (o:=.no) h2))<|rA 1 (wO (o:=.no)) λ_=>rC 2 [] zWq λ_=>fE 0)<|fE 0)<|fE 0) λ_=>fE 0
def zST(a:Nat)(b:xJ)(c:Int):Option (Bool):=zPe a b c>>=λr1=>if r1 then zV b c>>=λx4=>zBu a x4.type (xF (x4.pars+1))>>=λr6=>if r6.2.2==0 then zV r6.1 x4.pars>>=λx9=>zMp a x9 x4.fam x4.pars 0 x4.pars>>=λr11=>some r11 else some false else some false
theorem yBB{a b c}:Cz (zST a b c) 117 [] [zP xE b .no,ai c] (λr=>ab r) (λ_=>[]) 0:=fw func117<|rK 0 [] zZd (λ_=>rH λ_ h5=>rS (oA 1 (wO (o:=.no) h5))<|rS (oA 1 (wO (o:=.no) h5))<|rC 2 [] zPr λ_=>rB 4 (rS (oA 0 (wO (o:=.no) h5))<|rA 1 (wE (o:=.no)) λ_=>rS (oA 1 (wO (o:=.no) h5))<|rS (oA 1 (wO (o:=.no) h5))<|rS (oA 1 (wO (o:=.no) h5))<|rC 1 [] zWq λ_=>fE 0)<|fE 0) λ_=>fE 1
def zSU(c:Nat)(b:xJ)(a:Int):Option (Bool):=zV b a>>=λx1=>zPj c x1.body a>>=λr3=>if r3 then if x1.fam==0 then if x1.place==0 then if x1.pars==0 then if x1.inds==0 then if x1.level==0 then some ((xF ((x1.cons.length:Int)+(x1.fields.length:Int)))==0)else some false else some false else some false else some false else some false else some false
theorem yBC{c b a}:Cz (zSU c b a) 118 [] [zP xE b .no,ai a] (λr=>ab r) (λ_=>[]) 0:=fw func118<|rA 0 (wO (o:=.no)) λ_=>rK 3 [] zZh (λ_=>rB 1 (rB 1 (rB 1 (rB 1 (rB 1 (fE 6)<|fE 0)<|fE 0)<|fE 0)<|fE 0)<|fE 0) λ_=>fE 0
def m7(l:List yL)(x:yL):List Int:=if x.kind=4 then(zU l x.fam).fields else(zU l x.fam).cons
def zSV(l:List yL)(i:Int)(x:yL):Bool:=S7 l x.fam 1&&decide (x.fam<i)&&x.pars==(zU l x.fam).pars&&aD x.body&&x.inds==0&&x.level==0&&decide (x.cons.length=0)&&decide (x.fields.length=0)
def zPd(l:List yL)(i:Int)(x:yL):Bool:=decide (0<=x.place)&&decide (x.place<(m7 l x).length)&&((m7 l x)[x.place.toNat]?).getD (-1)==i
def lP(l:List yL)(i:Int):Bool:=zSV l i (zU l i)&&zPd l i (zU l i)
theorem zMe{L:List Int}{n:Int}(h0:0<=n)(h1:n<L.length):zV L n=some ((L[n.toNat]?).getD (-1)):=by
 unfold zV;rw[if_pos h0];have:n.toNat<L.length:=by omega
 rw[List.getElem?_eq_getElem this];rfl
theorem zFa(l:List yL)(i:Int)(h0:0<=i)(h1:i<l.length)(he:∀e∈l,jL e):zH (λq=>zPe q l i) (lP l i):=by
 simp only[zPe];refine zH.pure (yU h0 h1) ((zPf l _ 1).bind ?_);have hx:=he _ (nH h0 h1);have hc:(zU l i).cons.length<=1152921504606846976:=hx.2.2.1;have hf:(zU l i).fields.length<=1152921504606846976:=hx.2.2.2;unfold lP zSV;by_cases a1:S7 l (zU l i).fam 1=true
 ·have hs:=tL a1;refine zH.ifT a1 ?_;by_cases a2:(zU l i).fam>=i;·exact zH.ifT (decide_eq_true a2) (zH.ret.eq (by simp[show¬(zU l i).fam<i by omega]))
  refine zH.ifF (decide_eq_false a2) (zH.pure (yU hs.1 hs.2.1) ?_);by_cases a3:(zU l i).pars=(zU l (zU l i).fam).pars
  ·refine zH.ifF (by simp[a3]) ((zDk _).bind ?_);by_cases a4:aD (zU l i).body=true
   ·refine zH.ifT a4 ?_;by_cases a5:(zU l i).inds=0
    ·refine zH.ifF (by simp[a5]) ?_;by_cases a6:(zU l i).level=0
     ·refine zH.ifF (by simp[a6]) ?_;rw[yQ (x:=((zU l i).cons.length:Int)+((zU l i).fields.length:Int)) (by omega) (by omega)];by_cases a7:(zU l i).cons.length=0/\(zU l i).fields.length=0
      ·refine zH.ifF (decide_eq_false (by omega)) ?_;have last:∀L:List Int,m7 l (zU l i)=L->zH (λ_=>if decide ((zU l i).place>=0)=true then if decide ((zU l i).place<(List.length L:Int))=true then(zV L (zU l i).place)>>=λx19=>some (x19==i)else some false else some false) (zPd l i (zU l i)):=λL hL=>by
        unfold zPd;rw[hL];by_cases b1:(zU l i).place>=0
        ·refine zH.ifT (decide_eq_true b1) ?_;by_cases b2:(zU l i).place<(L.length:Int);·exact zH.ifT (decide_eq_true b2) (zH.pure (zMe b1 b2) (zH.ret.eq (by simp[show 0<=(zU l i).place from b1,b2])))
         ·exact zH.ifF (decide_eq_false b2) (zH.ret.eq (by simp[b2]))
        ·exact zH.ifF (decide_eq_false b1) (zH.ret.eq (by simp[show¬0<=(zU l i).place from b1]))
       have e:(S7 l (zU l i).fam 1&&decide ((zU l i).fam<i)&&(zU l i).pars==(zU l (zU l i).fam).pars&&aD (zU l i).body&&(zU l i).inds==0&&(zU l i).level==0&&decide ((zU l i).cons.length=0)&&decide ((zU l i).fields.length=0))=true:=by simp[a1,show(zU l i).fam<i by omega,a3,a4,a5,a6,a7.1,a7.2]
       rw[e,Bool.true_and];by_cases a8:(zU l i).kind=4;·exact zH.ifT (by simp[a8]) (last _ (by unfold m7;rw[if_pos a8]))
       ·exact zH.ifF (by simp[a8]) (last _ (by unfold m7;rw[if_neg a8]))
      ·refine zH.ifT (decide_eq_true (by omega)) (zH.ret.eq ?_);have:decide ((zU l i).cons.length=0)=false\/decide ((zU l i).fields.length=0)=false:=by
        by_cases h:(zU l i).cons.length=0;·exact .inr (decide_eq_false λh'=>a7 ⟨h,h'⟩)
        ·exact .inl (decide_eq_false h)
       rcases this with h|h<;>rw[h]<;>simp
     ·exact zH.ifT (by simp[a6]) (zH.ret.eq (by simp[a6]))
    ·exact zH.ifT (by simp[a5]) (zH.ret.eq (by simp[a5]))
   ·exact zH.ifF (by simpa using a4) (zH.ret.eq (by simp[a4]))
  ·exact zH.ifT (by simp[a3]) (zH.ret.eq (by simp[a3]))
 ·exact zH.ifF (by simpa using a1) (zH.ret.eq (by simp[a1]))
theorem vT{l:List yL}{i:Int}(h:mJ l i=true):0<=(zU l i).pars/\0<=(zU l i).inds/\(zU l i).pars+(zU l i).inds<=24/\(zU l i).cons.length<=16:=by unfold mJ zIq zFb at h;simp only[Bool.and_eq_true,decide_eq_true_eq]at h;exact⟨by omega,by omega,by omega,by omega⟩
theorem pB{l:List yL}{i:Int}(h:lP l i=true):0<=(zU l i).fam/\(zU l i).fam<i/\(zU l (zU l i).fam).kind=1/\(zU l i).pars=(zU l (zU l i).fam).pars/\0<=(zU l i).place/\(zU l i).place<(m7 l (zU l i)).length:=by unfold lP zSV zPd at h;simp only[Bool.and_eq_true,decide_eq_true_eq,beq_iff_eq]at h;have hs:=tL h.1.1.1.1.1.1.1.1;exact⟨hs.1,h.1.1.1.1.1.1.1.2,hs.2.2,h.1.1.1.1.1.1.2,h.2.1.1,h.2.1.2⟩
def zDj(l:List yL)(i:Int):Prop:=∀j,0<=j->j<i->(zU l j).kind=1->mJ l j=true
def zIp(l:List yL)(i:Int):Bool:=lP l i&&((xC (zU l i).type).2.2==0&&(decide ((zU l i).pars<=(xC (zU l i).type).1.length)&&pR (xC (zU l i).type).2.1 (zU l i).fam (zU l i).pars (zU l (zU l i).fam).inds (xC (zU l i).type).1.length))
theorem zWm(l:List yL)(i:Int)(h0:0<=i)(h1:i<l.length)(he:∀e∈l,jL e)(hF:zDj l i):zH (λq=>zSS q l i) (zIp l i):=by
 simp only[zSS];have hx:=he _ (nH h0 h1);refine zH.pure (yU h0 h1) ((F9 _ hx.1).bind ((zFa l i h0 h1 he).bind ?_));unfold zIp;by_cases a1:lP l i=true
 ·have hs:=pB a1;have hf:=vT (hF _ hs.1 hs.2.1 hs.2.2.1);refine zH.ifT a1 ?_;rw[a1,Bool.true_and];by_cases a2:(xC (zU l i).type).2.2=0
  ·refine zH.ifT (by simp[a2]) ?_;have hw:=pA (t:=(zU l i).type) (l:=(xC (zU l i).type).1) (y:=(xC (zU l i).type).2.1) (by rw[<-a2]);by_cases a3:(zU l i).pars<=(xC (zU l i).type).1.length;·refine zH.ifT (decide_eq_true a3) (zH.pure (yU hs.1 (by omega)) ((A3 _ _ _ _ _ hw.2.2.2.2.1 (by omega) (by omega) (by have:=hw.2.2.1;omega)).bind (zH.ret.eq (by simp[a2,a3]))))
   ·exact zH.ifF (decide_eq_false a3) (zH.ret.eq (by simp[a3]))
  ·exact zH.ifF (by simp[a2]) (zH.ret.eq (by simp[a2]))
 ·exact zH.ifF (by simpa using a1) (zH.ret.eq (by simp[a1]))
def sG(l:List Tm)(n:Int):Tm:=(l[n.toNat]?).getD zT
theorem tN{l:List Tm}{n:Int}(h0:0<=n)(h1:n<l.length):zV l n=some (sG l n):=by
 unfold zV sG;rw[if_pos h0];have:n.toNat<l.length:=by omega
 rw[List.getElem?_eq_getElem this];rfl
theorem qD{l:List Tm}{n:Int}(h0:0<=n)(h1:n<l.length):sG l n∈l:=by
 unfold sG;have:n.toNat<l.length:=by omega
 rw[List.getElem?_eq_getElem this];exact List.getElem_mem this
def S9(l:List yL)(i:Int):Bool:=lP l i&&((uL (zU l i).type ((zU l i).pars+1)).2.2==0&&pR (sG (uL (zU l i).type ((zU l i).pars+1)).1 (zU l i).pars) (zU l i).fam (zU l i).pars 0 (zU l i).pars)
theorem zSW(l:List yL)(i:Int)(h0:0<=i)(h1:i<l.length)(he:∀e∈l,jL e)(hF:zDj l i):zH (λq=>zST q l i) (S9 l i):=by
 simp only[zST];have hx:=he _ (nH h0 h1);refine(zFa l i h0 h1 he).bind ?_;unfold S9;by_cases a1:lP l i=true
 ·have hs:=pB a1;have hf:=vT (hF _ hs.1 hs.2.1 hs.2.2.1);refine zH.ifT a1 (zH.pure (yU h0 h1) ?_);rw[a1,Bool.true_and,yQ (x:=(zU l i).pars+1) (by omega) (by omega)];refine(F7 _ _ hx.1).bind ?_;by_cases a2:(uL (zU l i).type ((zU l i).pars+1)).2.2=0
  ·have hw:=zBN (t:=(zU l i).type) (n:=(zU l i).pars+1) (l:=(uL (zU l i).type ((zU l i).pars+1)).1) (y:=(uL (zU l i).type ((zU l i).pars+1)).2.1) (by rw[<-a2]);refine zH.ifT (by simp[a2]) (zH.pure (tN (by omega) (by omega)) ((A3 _ _ _ _ _ (hw.2.2.2.2.2.2 _ (qD (by omega) (by omega))) (by omega) (by omega) (by omega)).bind (zH.ret.eq (by simp[a2]))))
  ·exact zH.ifF (by simp[a2]) (zH.ret.eq (by simp[a2]))
 ·exact zH.ifF (by simpa using a1) (zH.ret.eq (by simp[a1]))
def zIo(l:List yL)(i:Int):Bool:=tM (zU l i).body i&&((zU l i).fam==0&&((zU l i).place==0&&((zU l i).pars==0&&((zU l i).inds==0&&((zU l i).level==0&&(decide ((zU l i).cons.length=0)&&decide ((zU l i).fields.length=0)))))))
theorem zWl(l:List yL)(i:Int)(h0:0<=i)(h1:i<l.length)(he:∀e∈l,jL e):zH (λq=>zSU q l i) (zIo l i):=by
 simp only[zSU];have hx:=he _ (nH h0 h1);have hc:(zU l i).cons.length<=1152921504606846976:=hx.2.2.1;have hf:(zU l i).fields.length<=1152921504606846976:=hx.2.2.2;refine zH.pure (yU h0 h1) ((n9 _ i hx.2.1).bind ?_);unfold zIo;by_cases a1:tM (zU l i).body i=true
 ·refine zH.ifT a1 ?_;rw[a1,Bool.true_and,yQ (x:=((zU l i).cons.length:Int)+((zU l i).fields.length:Int)) (by omega) (by omega)];have e:(((zU l i).cons.length:Int)+((zU l i).fields.length:Int)==0)=(decide ((zU l i).cons.length=0)&&decide ((zU l i).fields.length=0)):=by rw[Bool.eq_iff_iff];simp only[beq_iff_eq,Bool.and_eq_true,decide_eq_true_eq];omega
  rw[e];refine zH.mk λq=>?_;generalize(decide ((zU l i).cons.length=0)&&decide ((zU l i).fields.length=0))=z;by_cases b1:(zU l i).fam=0<;>by_cases b2:(zU l i).place=0<;>by_cases b3:(zU l i).pars=0<;>by_cases b4:(zU l i).inds=0<;>by_cases b5:(zU l i).level=0<;>simp[b1,b2,b3,b4,b5]
 ·exact zH.ifF (by simpa using a1) (zH.ret.eq (by simp[a1]))
def zZc(qq:Nat)(p0:yE):Option yE:=some []
theorem zZb{qq p0}:Cz (zZc qq p0) 65 [] [zP zY p0 .nl] (λr=>.sl (zC zY r) r.length .no) (λ_=>[]) 0:=fw func65<|fE 1
def zPc(qq:Nat)(p0:yE):Option yE:=yZ 8 ([]:yE) p0>>=λl1=>some l1
theorem zZa{qq p0}:Cz (zPc qq p0) 65 [] [zP zY p0 .nn] (λr=>.sl (zC zY r) r.length .no) (λ_=>[]) 0:=fw func65<|rH λ_ h2=>rZ (List.length p0=0) (λh3=>rS (oP 2 (zJO h2 h3))<|fE 0) λh3=>rS (oP 2 (kI h2 h3))<|fE 0
def zWk(qq:Nat)(p0:yE):Option (Unit):=some ()
theorem zWj{qq p0}:Cz (zWk qq p0) 65 [] [zP zY p0 .nl] (λ_=>zP zY ([]:yE) .full) (λ_=>[]) 0:=fw func65<|fG 1 [] [] [] true
def zPb(qq:Nat)(p0:yE):Option ((Unit)⊕yE):=if decide (List.length p0=0)then some (Sum.inl ())else yZ 8 ([]:yE) p0>>=λl2=>some (Sum.inr l2)
theorem zPa{qq p0}:Cz (zPb qq p0) 65 [] [zP zY p0 .nn] (Sum.elim (λ_=>zP zY ([]:yE) .full) (λx=>.ms 0 0 x.length x.length 1)) (Sum.elim (λ_=>[]) (λx=>[.row (zC zY x)])) 0:=fw func65<|rI (λh1=>rS (oQ 2 (zYU (of_decide_eq_true h1)))<|fG 0 [] [] [] true) λh1=>rW (λh3=>oM 2 (zZy h3 (of_decide_eq_false h1))) λ_=>fF 0 [0]
def e65(_qq:Nat)(p0:yE):Option yE:=yZ 8 [] p0
theorem yBD{qq:Nat}{p0:yE}{r:yE}(h:e65 qq p0=some r):CT prog 65 [] [.sl (zC zY p0) p0.length .no] (.sl (zC zY r) r.length .no) [] 0:=by
 have hr:r=p0:=by have:=(qY h).2;simpa using this
 have h1:zPc qq p0=some r:=by unfold zPc;rw[show yZ 8 ([]:yE) p0=some r from h];rfl
 have k1:=zZa _ h1;refine⟨uG.nilcase (λhn=>?_) k1.tri,⟨⟨trivial,dI _⟩,trivial⟩,(λ_ h=>nomatch h),dI _,(λ_ h=>nomatch h)⟩;have hp:p0=[]:=D5 lA (by decide) hn;subst hr;subst hp;exact(zZb (qq:=qq) _ rfl).tri
def zKt(qq:Nat)(p0:yE):Option (Unit⊕yE):=if decide (List.length p0=0)=true then some (.inl ())else(yZ 8 [] p0)>>=λr=>some (.inr r)
theorem zWi{qq:Nat}{p0:yE}{r:Unit⊕yE}(h:zKt qq p0=some r):(match(generalizing:=false)r with|.inl _=>CT prog 65 [] [.sl (zC zY p0) p0.length .no] (.sl (zC zY ([]:yE)) (List.length ([]:yE)) .full) [] 0|.inr x=>CT prog 65 [] [.sl (zC zY p0) p0.length .no] (.ms 0 0 x.length x.length 1) [.row (zC zY x)] 0):=by
 unfold zKt at h;rcases W4 h with⟨h1,h⟩|⟨h1,h⟩
 ·obtain rfl:=sj h;have hp:p0=[]:=List.length_eq_zero_iff.1 (of_decide_eq_true h1);subst hp;have k0:=zWj (qq:=qq) (p0:=[]) (()) rfl;have k1:=zPa (qq:=qq) (p0:=[]) (.inl ()) rfl;exact⟨uG.nilcase (λ_=>k0.tri) k1.tri,⟨⟨trivial,dI _⟩,trivial⟩,(λ_ h=>nomatch h),dI _,(λ_ h=>nomatch h)⟩
 ·obtain⟨x,h2,h⟩:=wP h;obtain rfl:=sj h;have k1:=zPa (qq:=qq) (p0:=p0) (r:=.inr x) (by unfold zPb;rw[if_neg (by rw[h1];decide),h2];rfl);refine⟨uG.nilcase (λhn=>?_) k1.tri,⟨⟨trivial,dI _⟩,trivial⟩,(λ_ h=>nomatch h),(show 0<1 by decide),yJ (dI _) yO⟩;have hp:p0=[]:=D5 lA (by decide) hn;subst hp;cases h1
theorem c65{qq:Nat}{p0:yE}:Cz (e65 qq p0) 65 [] [.sl (zC zY p0) p0.length .no] (λr=>.sl (zC zY r) r.length .no) (λ_=>[]) 0:=λ_ h=>yBD h
theorem zVx{qq:Nat}{p0:yE}:Cz (zKt qq p0) 65 [] [.sl (zC zY p0) p0.length .no] (Sum.elim (λ_=>.sl (zC zY ([]:yE)) (List.length ([]:yE)) .full) (λx=>.ms 0 0 x.length x.length 1)) (Sum.elim (λ_=>[]) (λx=>[.row (zC zY x)])) 0:=λr h=>by have k:=zWi h;rcases r with _|_<;>exact k
def L8:Nat->xJ->xJ->Int->Option xJ|0,_,_,_=>none|b+1,a,d,c=>if decide (c<(a.length:Int))then zV a c>>=λx2=>e64 b x2.type>>=λr4=>e64 b x2.body>>=λr6=>e65 b x2.cons>>=λr8=>e65 b x2.fields>>=λr10=>yZ 192 d [(yL.mk x2.kind x2.name r4 r6 x2.fam x2.place x2.pars x2.inds x2.level r8 r10)]>>=λl12=>L8 b a l12 (xF (c+1))else some d
def e46(b:Nat)(a:xJ):Option xJ:=L8 b a [] 0
theorem zWh:∀b:Nat,∀a d c,Lz (L8 b a d c) 0 f46 (pt 4021 f46) (λj=>sp j 34 0 [(3,zP xE d (.st 0 15)),(6,zP xE a .no),(7,ai (a.length:Int)),(8,ai c)]) ⟨[],0,[0],1,[]⟩ (λr=>.sl (zC xE r) r.length .no) (λ_=>[]) 0 [.blk 0,.seq (pt 63 f46)]:=wF (λ_ _ _=>lN) λb ih=>λa d c=>lw λ_=>rB 0 (rA 0 (wO (o:=.no)) λ_=>rC 3 [] c64 λ_=>rC 1 [] c64 λ_=>rC 3 [] c65 λ_=>rS (gP 0)<|rC 0 [] c65 λ_=>rW (λh13=>oP 4 (zYX h13 (by simp))) λ_=>lH 1 [] [] [1] [3,6,7,8] (ih _ _ _))<|lE 0
theorem c46{b a}:Cz (e46 b a) 46 [] [zP xE a .no] (λr=>.sl (zC xE r) r.length .no) (λ_=>[]) 0:=fw func46<|fH 1 [(none,3,15)] [] [0] [3,6,7,8] (zWh _ _ _ _)
def L9:Nat->xJ->(List ByteArray)->Int->Option (List ByteArray)|0,_,_,_=>none|b+1,a,d,c=>if decide (c<(a.length:Int))then zV a c>>=λx2=>yZ 16 d [x2.name]>>=λl4=>L9 b a l4 (xF (c+1))else some d
def e90(b:Nat)(a:xJ):Option (List ByteArray):=L9 b a [] 0
theorem zWg:∀b:Nat,∀a d c,Lz (L9 b a d c) 0 f90 (pt 4021 f90) (λj=>sp j 19 0 [(3,zP K4 d (.st 0 1)),(6,zP xE a .no),(7,ai (a.length:Int)),(8,ai c)]) ⟨[],0,[0],1,[]⟩ (λr=>.sl (zC K4 r) r.length .no) (λ_=>[]) 0 [.blk 0,.seq (pt 63 f90)]:=wF (λ_ _ _=>lN) λb ih=>λa d c=>lw λ_=>rB 0 (rA 0 (wO (o:=.no)) λ_=>rW (λh5=>oP 4 (zVS h5 (by simp))) λ_=>lH 1 [] [] [1] [3,6,7,8] (ih _ _ _))<|lE 0
theorem c90{b a}:Cz (e90 b a) 90 [] [zP xE a .no] (λr=>.sl (zC K4 r) r.length .no) (λ_=>[]) 0:=fw func90<|fH 1 [(none,3,1)] [] [0] [3,6,7,8] (zWg _ _ _ _)
def e91(b:Nat)(c:xJ)(a:Int):Option (Bool):=zV c a>>=λx1=>zMm b x1.name>>=λr3=>if r3 then zPj b x1.type a>>=λr6=>if r6 then if x1.kind==1 then zSR b c a>>=λr10=>some r10 else if x1.kind==2 then zSS b c a>>=λr13=>some r13 else if x1.kind==4 then zST b c a>>=λr16=>some r16 else if x1.kind==3 then zSU b c a>>=λr19=>some r19 else some false else some false else some false
theorem c91{b c a}:Cz (e91 b c a) 91 [] [zP xE c .no,ai a] (λr=>ab r) (λ_=>[]) 0:=fw func91<|rH λ_ h2=>rS (oA 0 (wO (o:=.no) h2))<|rK 1 [] yBb (λ_=>rS (oA 1 (wO (o:=.no) h2))<|rK 1 [] zZh (λ_=>rS (oA 1 (wO (o:=.no) h2))<|rB 1 (rC 0 [] yBa λ_=>fE 0)<|rB 0 (rC 0 [] yBA λ_=>fE 0)<|rB 0 (rC 0 [] yBB λ_=>fE 0)<|rB 0 (rC 0 [] yBC λ_=>fE 0)<|fE 0) λ_=>fE 1) λ_=>fE 1
def M0:Nat->xJ->Int->Option (Bool)|0,_,_=>none|c+1,a,b=>if decide (b<(a.length:Int))then e91 c a b>>=λr8=>if r8 then M0 c a (xF (b+1))else some false else some true
def X3(c:Nat)(a:xJ):Option (Bool):=if decide ((a.length:Int)>256)then some false else e90 c a>>=λr2=>e89 c r2>>=λr4=>if r4 then M0 c a 0 else some false
theorem zWf:∀c:Nat,∀a b,Lz (M0 c a b) 0 f62 (pt 4021 f62) (λj=>sp j 23 0 [(0,zP xE a .no),(14,ai (a.length:Int)),(15,ai b)]) ⟨[],0,[],0,[]⟩ (λr=>ab r) (λ_=>[]) 0 [.blk 0,.seq (pt 63 f62)]:=wF (λ_ _=>lN) λc ih=>λa b=>lw λ_=>rB 0 (rK 0 [] c91 (λ_=>lH 2 [] [] [] [0,14,15] (ih _ _)) λ_=>lE 1)<|lE 0
theorem c62{c a}:Cz (X3 c a) 62 [] [zP xE a .no] (λr=>ab r) (λ_=>[]) 0:=fw func62<|rB 1 (fE 0)<|rC 0 [] c90 λ_=>rK 0 [] c89 (λ_=>fH 2 [] [] [] [0,14,15] (zWf _ _ _)) λ_=>fE 1
def kT(N:ByteArray->Bool)(l:List yL)(i:Int):Bool:=N (zU l i).name&&(tM (zU l i).type i&&(if(zU l i).kind=1 then mJ l i else if(zU l i).kind=2 then zIp l i else if(zU l i).kind=4 then S9 l i else if(zU l i).kind=3 then zIo l i else false))
def zMd(N:ByteArray->Bool)(l:List yL):Nat->Nat->Bool|0,_=>true|m+1,v=>kT N l v&&zMd N l m (v+1)
def cK(N:ByteArray->Bool):Prop:=∀s,zH (λq=>zMm q s) (N s)
theorem zPA:∃N,cK N:=by
 have h:∀s,∃b,zH (λq=>zMm q s) b:=λs=>by obtain⟨b,hb,_⟩:=zIr s;exact⟨b,hb⟩
 exact⟨λs=>Classical.choose (h s),λs=>Classical.choose_spec (h s)⟩
theorem zPB(N:ByteArray->Bool)(hN:cK N)(l:List yL)(i:Int)(h0:0<=i)(h1:i<l.length)(hl:l.length<=65535)(he:∀e∈l,jL e)(hF:zDj l i):zH (λq=>e91 q l i) (kT N l i):=by
 simp only[e91];have hx:=he _ (nH h0 h1);refine zH.pure (yU h0 h1) ((hN _).bind ?_);unfold kT;by_cases a1:N (zU l i).name=true
 ·refine zH.ifT a1 ((n9 _ i hx.1).bind ?_);rw[a1,Bool.true_and];by_cases a2:tM (zU l i).type i=true
  ·refine zH.ifT a2 ?_;rw[a2,Bool.true_and];by_cases k1:(zU l i).kind=1;·rw[if_pos k1];exact zH.ifT (by simp[k1]) ((zMf l i h0 h1 hl he).bind zH.ret)
   rw[if_neg k1];refine zH.ifF (by simp[k1]) ?_;by_cases k2:(zU l i).kind=2;·rw[if_pos k2];exact zH.ifT (by simp[k2]) ((zWm l i h0 h1 he hF).bind zH.ret)
   rw[if_neg k2];refine zH.ifF (by simp[k2]) ?_;by_cases k4:(zU l i).kind=4;·rw[if_pos k4];exact zH.ifT (by simp[k4]) ((zSW l i h0 h1 he hF).bind zH.ret)
   rw[if_neg k4];refine zH.ifF (by simp[k4]) ?_;by_cases k3:(zU l i).kind=3;·rw[if_pos k3];exact zH.ifT (by simp[k3]) ((zWl l i h0 h1 he).bind zH.ret)
   ·rw[if_neg k3];exact zH.ifF (by simp[k3]) zH.ret
  ·exact zH.ifF (by simpa using a2) (zH.ret.eq (by simp[a2]))
 ·exact zH.ifF (by simpa using a1) (zH.ret.eq (by simp[a1]))
theorem zBO:∀(r l:List yL)(v:Nat)(acc:List ByteArray),l.drop v=r->l.length<=65535->acc.length<=v->zH (λq=>L9 q l acc (v:Int)) (acc++r.map yL.name)|[],l,v,acc,hd,hl,ha=>by refine zH.succ ?_;simp only[L9];exact zH.ifF (yB hd) (zH.ret.eq (by simp))|x::r,l,v,acc,hd,hl,ha=>by have hlt:=yF hd;refine zH.succ ?_;simp only[L9];refine zH.ifT (yA hd) (zH.pure (zZ hd) (zH.pure (yG (by simp<;>omega)) ?_));rw[zW v (by omega)];exact(zBO r l (v+1) _ (zS hd) hl (by simp<;>omega)).eq (by simp)
theorem zPC(l:List yL)(hl:l.length<=65535):zH (λq=>e90 q l) (l.map yL.name):=by simp only[e90];exact(zBO l l 0 [] rfl hl (by simp)).eq (by simp)
theorem zIn(N:ByteArray->Bool)(hN:cK N)(l:List yL)(hl:l.length<=65535)(he:∀e∈l,jL e):∀(m v:Nat),v+m=l.length->zDj l v->zH (λq=>M0 q l (v:Int)) (zMd N l m v):=by intro m;induction m with|zero=>intro v hm hF;refine zH.succ ?_;simp only[M0];exact zH.ifF (decide_eq_false (by omega)) zH.ret|succ m ih=>
 intro v hm hF;refine zH.succ ?_;simp only[M0];refine zH.ifT (decide_eq_true (by omega)) ((zPB N hN l v (by omega) (by omega) hl he hF).bind ?_);rw[zMd];by_cases h:kT N l v=true
 ·refine zH.ifT h ?_;rw[zW v (by omega),h,Bool.true_and];refine ih (v+1) (by omega) λj hj0 hj1 hk=>?_;by_cases e:j=v
  ·subst e;unfold kT at h;simp only[Bool.and_eq_true]at h;have:=h.2.2;rwa[if_pos hk]at this
  ·exact hF j hj0 (by omega) hk
 ·exact zH.ifF (by simpa using h) (zH.ret.eq (by simp[h]))
def G3(N:ByteArray->Bool)(d:Bool)(l:List yL):Bool:=decide (l.length<=256)&&(d&&zMd N l l.length 0)
theorem zMc(N:ByteArray->Bool)(hN:cK N)(l:List yL)(hl:l.length<=65535)(he:∀e∈l,jL e):∃d,zH (λq=>e89 q (l.map yL.name)) d/\zH (λq=>X3 q l) (G3 N d l):=by
 obtain⟨d,hd,_⟩:=zDl (l.map yL.name) (by simpa using hl);refine⟨d,hd,?_⟩;simp only[X3];unfold G3;by_cases h:l.length<=256
 ·refine zH.ifF (decide_eq_false (by omega)) ((zPC l hl).bind (hd.bind ?_));cases d with|false=>exact zH.ifF rfl (zH.ret.eq (by simp))|true=>exact zH.ifT rfl ((zIn N hN l hl he l.length 0 (by omega) (λj h0 h1=>by omega)).eq (by simp[h]))
 ·exact zH.ifT (decide_eq_true (by omega)) (zH.ret.eq (by simp[h]))
theorem zBP{N:ByteArray->Bool}{l:List yL}:∀{m v:Nat},zMd N l m v=true->∀j,v<=j->j<v+m->kT N l (j:Int)=true
 |0,v,_,j,h0,h1=>by omega|m+1,v,h,j,h0,h1=>by
  rw[zMd]at h;simp only[Bool.and_eq_true]at h;by_cases e:j=v;·subst e;exact h.1
  ·exact zBP h.2 j (by omega) (by omega)
def wZ(N:ByteArray->Bool)(l:List yL):Prop:=l.length<=256/\∀i:Int,0<=i->i<l.length->kT N l i=true
theorem G5{N:ByteArray->Bool}{d:Bool}{l:List yL}(h:G3 N d l=true):wZ N l:=by unfold G3 at h;simp only[Bool.and_eq_true,decide_eq_true_eq]at h;refine⟨h.1,λi h0 h1=>?_⟩;have:=zBP h.2.2 i.toNat (by omega) (by omega);rwa[show((i.toNat:Nat):Int)=i by omega]at this
theorem xP{N:ByteArray->Bool}{l:List yL}{i:Int}(h:kT N l i=true):tM (zU l i).type i=true/\((zU l i).kind=1->mJ l i=true)/\((zU l i).kind=2->zIp l i=true)/\((zU l i).kind=4->S9 l i=true)/\((zU l i).kind=3->zIo l i=true)/\((zU l i).kind=1\/(zU l i).kind=2\/(zU l i).kind=3\/(zU l i).kind=4):=by
 unfold kT at h;simp only[Bool.and_eq_true]at h;obtain⟨_,h2,h3⟩:=h;refine⟨h2,λk=>by rwa[if_pos k]at h3,λk=>?_,λk=>?_,λk=>?_,?_⟩;·rwa[if_neg (by omega),if_pos k]at h3
 ·rwa[if_neg (by omega),if_neg (by omega),if_pos k]at h3
 ·rwa[if_neg (by omega),if_neg (by omega),if_neg (by omega),if_pos k]at h3
 ·split at h3;·exact .inl (by assumption)
  ·split at h3;·exact .inr (.inl (by assumption))
   ·split at h3;·exact .inr (.inr (.inr (by assumption)))
    ·split at h3;·exact .inr (.inr (.inl (by assumption)))
     ·cases h3
def zMb(e:yL):yL:=yL.mk e.kind e.name (nO e.type) (nO e.body) e.fam e.place e.pars e.inds e.level e.cons e.fields
def ECl(e:yL):Prop:=e.cons.length<=17592186044416/\e.fields.length<=17592186044416
theorem zFA:∀(r l acc:List yL)(v:Nat),l.drop v=r->l.length<=65535->(∀e∈l,jL e)->(∀e∈l,ECl e)->acc.length<=v->zH (λq=>L8 q l acc (v:Int)) (acc++r.map zMb)
 |[],l,acc,v,hd,hl,he,hc,ha=>by refine zH.succ ?_;simp only[L8];exact zH.ifF (yB hd) (zH.ret.eq (by simp))|x::r,l,acc,v,hd,hl,he,hc,ha=>by
  have hlt:=yF hd;have hx:x∈l:=by
   have:x∈l.drop v:=by rw[hd];simp
   exact List.mem_of_mem_drop this
  have hE:=he x hx;have hC:=hc x hx;refine zH.succ ?_;simp only[L8];refine zH.ifT (yA hd) (zH.pure (zZ hd) ((tU _ hE.1).bind ((tU _ hE.2.1).bind ?_)));refine zH.bind (a:=x.cons) (zH.mk λq=>(yG (by have:=hC.1;simp<;>omega)).trans (by simp)) (zH.bind (a:=x.fields) (zH.mk λq=>(yG (by have:=hC.2;simp<;>omega)).trans (by simp)) (zH.pure (yG (by simp<;>omega)) ?_));rw[zW v (by omega)];exact(zFA r l _ (v+1) (zS hd) hl he hc (by simp<;>omega)).eq (by simp[zMb])
theorem eA(l:List yL)(hl:l.length<=65535)(he:∀e∈l,jL e)(hc:∀e∈l,ECl e):zH (λq=>e46 q l) (l.map zMb):=by simp only[e46];exact(zFA l l [] 0 rfl hl he hc (by simp)).eq (by simp)
theorem qM{t:Tm}{n:Int}(h:tM t n=true):zF t=true:=by unfold tM rQ at h;simp only[Bool.and_eq_true]at h;exact h.1.1.1
theorem zIm{t:Tm}(h:aD t=true):t=zT:=by unfold aD at h;simp only[Bool.and_eq_true,beq_iff_eq]at h;obtain⟨k,n,l⟩:=t;have h1:k=0:=h.1.1;have h2:n=0:=h.1.2;have h3:l=[]:=List.length_eq_zero_iff.1 (by have:(l.length:Int)=0:=h.2;omega);subst h1;subst h2;subst h3;rfl
theorem zBR{t:Tm}(h:aD t=true):nO t=t:=by
 rw[zIm h];unfold nO;split;·rfl
 ·rfl
theorem zMa{N:ByteArray->Bool}{l:List yL}{i:Int}(h:kT N l i=true):zMb (zU l i)=zU l i:=by
 have hs:=xP h;have h1:nO (zU l i).type=(zU l i).type:=by unfold nO;rw[if_pos (qM hs.1)]
 have own:lP l i=true->nO (zU l i).body=(zU l i).body:=λho=>by unfold lP zSV at ho;simp only[Bool.and_eq_true]at ho;exact zBR ho.1.1.1.1.1.2
 have h2:nO (zU l i).body=(zU l i).body:=by
  rcases hs.2.2.2.2.2 with k|k|k|k
  ·have:=hs.2.1 k;unfold mJ zIq at this;simp only[Bool.and_eq_true]at this;exact zBR this.1.1.1.2
  ·have:=hs.2.2.1 k;unfold zIp at this;simp only[Bool.and_eq_true]at this;exact own this.1
  ·have:=hs.2.2.2.2.1 k;unfold zIo at this;simp only[Bool.and_eq_true]at this;unfold nO;rw[if_pos (qM this.1)]
  ·have:=hs.2.2.2.1 k;unfold S9 at this;simp only[Bool.and_eq_true]at this;exact own this.1
 unfold zMb;rw[h1,h2]
theorem jM{N:ByteArray->Bool}{l:List yL}(h:wZ N l):l.map zMb=l:=by
 refine List.ext_getElem (by simp) λi h1 h2=>?_;simp only[List.getElem_map];have:=zMa (h.2 (i:Int) (by omega) (by omega));have e:zU l (i:Int)=l[i]:=by unfold zU;rw[show(i:Int).toNat=i by omega,List.getElem?_eq_getElem h2];rfl
 rwa[e]at this
def zSX(qq:Nat)(p0:yV):Option (Unit):=some ()
theorem zSY{qq p0}:Cz (zSX qq p0) 121 [] [zP zA p0 .nl] (λ_=>zP zA ([]:yV) .full) (λ_=>[]) 0:=fw func121<|fG 1 [] [] [] true
def zKs(qq:Nat)(p0:yV):Option ((Unit)⊕yV):=if decide (List.length p0=0)then some (Sum.inl ())else yZ 40 ([]:yV) p0>>=λl2=>some (Sum.inr l2)
theorem zKr{qq p0}:Cz (zKs qq p0) 121 [] [zP zA p0 .nn] (Sum.elim (λ_=>zP zA ([]:yV) .full) (λx=>.ms 0 0 x.length x.length 3)) (Sum.elim (λ_=>[]) (λx=>[.row (zC zA x)])) 0:=fw func121<|rI (λh1=>rS (oQ 2 (zYS (of_decide_eq_true h1)))<|fG 0 [] [] [] true) λh1=>rW (λh3=>oM 2 (zYZ h3 (of_decide_eq_false h1))) λ_=>fF 0 [0]
def A4(qq:Nat)(p0:yV):Option (Unit⊕yV):=if decide (List.length p0=0)=true then some (.inl ())else(yZ 40 [] p0)>>=λr=>some (.inr r)
theorem zDi{qq:Nat}{p0:yV}{r:Unit⊕yV}(h:A4 qq p0=some r):(match(generalizing:=false)r with|.inl _=>CT prog 121 [] [.sl (zC zA p0) p0.length .no] (.sl (zC zA ([]:yV)) (List.length ([]:yV)) .full) [] 0|.inr x=>CT prog 121 [] [.sl (zC zA p0) p0.length .no] (.ms 0 0 x.length x.length 3) [.row (zC zA x)] 0):=by
 unfold A4 at h;rcases W4 h with⟨h1,h⟩|⟨h1,h⟩
 ·obtain rfl:=sj h;have hp:p0=[]:=List.length_eq_zero_iff.1 (of_decide_eq_true h1);subst hp;have k0:=zSY (qq:=qq) (p0:=[]) (()) rfl;have k1:=zKr (qq:=qq) (p0:=[]) (.inl ()) rfl;exact⟨uG.nilcase (λ_=>k0.tri) k1.tri,⟨⟨trivial,dT _⟩,trivial⟩,(λ_ h=>nomatch h),dT _,(λ_ h=>nomatch h)⟩
 ·obtain⟨x,h2,h⟩:=wP h;obtain rfl:=sj h;have k1:=zKr (qq:=qq) (p0:=p0) (r:=.inr x) (by unfold zKs;rw[if_neg (by rw[h1];decide),h2];rfl);refine⟨uG.nilcase (λhn=>?_) k1.tri,⟨⟨trivial,dT _⟩,trivial⟩,(λ_ h=>nomatch h),(show 0<1 by decide),yJ (dT _) yO⟩;have hp:p0=[]:=D5 uX (by decide) hn;subst hp;cases h1
def zIl(_qq:Nat)(p0:yV):Option yV:=yZ 40 [] p0
theorem zZA{qq:Nat}{p0:yV}{r:yV}(h:zIl qq p0=some r):CT prog 121 [] [.sl (zC zA p0) p0.length .no] (.sl (zC zA r) r.length (.st 0 3)) [] 1:=by
 have hr:r=p0:=by have:=(qY h).2;simpa using this
 subst hr;by_cases h1:List.length r=0
 ·have hp:r=[]:=List.length_eq_zero_iff.1 h1;subst hp;exact CT.stampNil (zDi (qq:=qq) (p0:=[]) (r:=.inl ()) rfl)
 ·exact CT.freezeS (zDi (qq:=qq) (p0:=r) (r:=.inr r) (by unfold A4;rw[if_neg (by simpa using h1),show yZ 40 ([]:yV) r=some r from h];rfl)) (dT _) (vL uX.len _)
theorem zPD{qq:Nat}{p0:yV}:Cz (A4 qq p0) 121 [] [.sl (zC zA p0) p0.length .no] (Sum.elim (λ_=>.sl (zC zA ([]:yV)) (List.length ([]:yV)) .full) (λx=>.ms 0 0 x.length x.length 3)) (Sum.elim (λ_=>[]) (λx=>[.row (zC zA x)])) 0:=λr h=>by have k:=zDi h;rcases r with _|_<;>exact k
theorem zWe{qq:Nat}{p0:yV}:Cz (zIl qq p0) 121 [] [.sl (zC zA p0) p0.length .no] (λr=>.sl (zC zA r) r.length (.st 0 3)) (λ_=>[]) 1:=λ_ h=>zZA h
def zSZ(a:Nat)(c:xJ)(d:Tm)(b e:Int):Option (rX):=zIs a d>>=λr1=>A0 a r1.2.1>>=λr3=>if r1.2.2 !=0 then some (rX.mk false [] [])else if r3.1.k !=6 then some (rX.mk false [] [])else if r3.1.n !=b then some (rX.mk false [] [])else zV c b>>=λx8=>zMp a r1.2.1 b x8.pars x8.inds (xF (e+(r1.1.length:Int)))>>=λr10=>if r10 then kE r3.2 x8.pars (r3.2.length:Int)>>=λx13=>zIl a x13>>=λr15=>some (rX.mk true r1.1 r15)else some (rX.mk false [] [])
theorem yBF{a c d b e}:Cz (zSZ a c d b e) 122 [] [zP xE c .no,yY d,ai b,ai e] (λr=>zYH r) (λ_=>[]) 0:=fw func122<|rC 1 [] zSB λ_=>rC 5 [] zFo λ_=>rB 3 (fE 1)<|rB 1 (fE 1)<|rB 1 (fE 1)<|rH λ_ h9=>rS (oA 1 (wO (o:=.no) h9))<|rS (oA 1 (wO (o:=.no) h9))<|rK 3 [] zWq (λ_=>rS (oA 1 (wO (o:=.no) h9))<|rA 1 qK λ_=>rC 0 [] zWe λ_=>fE 1) λ_=>fE 2
def M1:Nat->xJ->yL->yV->yV->Int->(List rX)->Option (tQ)|0,_,_,_,_,_,_=>none|c+1,d,x1,x7,r11,b,a=>if decide (b<(x7.length:Int))then zV x7 b>>=λx14=>zSZ c d x14 x1.fam (xF (x1.pars+b))>>=λr16=>yZ 56 a [r16]>>=λl18=>M1 c d x1 x7 r11 (xF (b+1)) l18 else some (tQ.mk x7 r11 a)
def e92(c:Nat)(d:xJ)(e:Int):Option (tQ):=zV d e>>=λx1=>zIs c x1.type>>=λr3=>A0 c r3.2.1>>=λr5=>kE r3.1 x1.pars (r3.1.length:Int)>>=λx7=>kE r5.2 x1.pars (r5.2.length:Int)>>=λx9=>zIl c x9>>=λr11=>M1 c d x1 x7 r11 0 []
theorem zWd:∀c:Nat,∀d x1 x7 r11 b a,Lz (M1 c d x1 x7 r11 b a) 0 f92 (pt 262069 f92) (λj=>sp j 64 0 [(0,zP xE d .no),(4,.mp 0 0),(5,.mp 1 0),(11,.mp 2 0),(41,zP zA x7 .no),(42,ai (x7.length:Int)),(43,ai b)]) ⟨[(0,.cells [zP zA ([]:yV) .nl,zP zA ([]:yV) .nl,zP aR ([]:List rX) .nl]),(1,.cells [ai x1.kind,at' x1.name,ai x1.type.k,ai x1.type.n,zP zA x1.type.sub .no,ai x1.body.k,ai x1.body.n,zP zA x1.body.sub .no,ai x1.fam,ai x1.place,ai x1.pars,ai x1.inds,ai x1.level,zP zY x1.cons .no,zP zY x1.fields .no]),(2,.cells [zP zA x7 .no,zP zA r11 (.st 0 3),zP aR a (.st 1 3)])],3,[0,1],2,[]⟩ (λr=>zVF r) (λ_=>[]) 0 [.blk 0,.seq (pt 4095 f92)]:=wF (λ_ _ _ _ _ _=>lN) λc ih=>λd x1 x7 r11 b a=>lw λ_=>rB 0 (rA 0 (wE (o:=.no)) λ_=>rS (gP 2)<|rC 4 [] yBF λ_=>rW (λh19=>oP 1 (zVT h19 (by simp))) λ_=>lH 2 [] [0,1,2] [0,2] [0,4,5,11,41,42,43] (ih _ _ _ _ _ _))<|lE 2
theorem c92{c d e}:Cz (e92 c d e) 92 [] [zP xE d .no,ai e] (λr=>zVF r) (λ_=>[]) 0:=fw func92<|rA 0 (wO (o:=.no)) λ_=>rC 3 [] zSB λ_=>rC 5 [] zFo λ_=>rS (gP 3)<|rA 0 qK λ_=>rA 1 qK λ_=>rC 0 [] zWe λ_=>fH 3 [(some 4,2,3)] [0,1,4] [0,1] [0,4,5,11,41,42,43] (zWd _ _ _ _ _ _ _)
def eB:Nat->xJ->tR->Int->tR->Option ((tR×Int)⊕(tR×Int))|0,_,_,_,_=>none|f+1,d,x4,e,a=>if decide (e<(d.length:Int))then zV d e>>=λx7=>if x7.kind==2 then e92 f d e>>=λr10=>pX x4.length e>>=λx12=>kR a x12 r10>>=λx14=>eB f d x4 (xF (e+1)) x14 else eB f d x4 (xF (e+1)) a else E1 x4.length a>>=λl16=>some (Sum.inr (l16,0))
def e63(f:Nat)(d:xJ):Option ((tR×Int)⊕(tR×Int)):=X3 f d>>=λr1=>if r1 then gmk 72 (default:tQ) (d.length:Int)>>=λx4=>eB f d x4 0 x4 else some (Sum.inl ([],5))
def zPE(j:Nat->Value)(d:xJ)(x4:tR)(e:Int)(a:tR):=sp j 31 0 [(0,zP xE d .no),(4,.ms 0 0 x4.length x4.length 3),(13,ai (d.length:Int)),(14,ai e)]
def zPF(d:xJ)(x4:tR)(e:Int)(a:tR):yW:=⟨[(0,.row (zC pN a))],1,[],0,[]⟩
abbrev zPG(d:xJ)(r:tR×Int)(C:Cf):Prop:=C 63 [] [zP xE d .no] (.tup [.sl (zC pN r.1) r.1.length .no,ai r.2]) [] 0
abbrev zPH(d:xJ)(r:tR×Int)(C:Cf):Prop:=C 63 [] [zP xE d .no] (.tup [.ms 0 0 r.1.length r.1.length 3,ai r.2]) [.row (zC pN r.1)] 0
theorem q63:Qf 63 f63:=⟨func63,by kernel_rfl⟩
theorem zVw{d r}(h:zPG d r Ci):zPG d r Ct:=⟨h,⟨⟨tv,dE _⟩,tv⟩,yO,⟨dC _,tv,tv⟩,yO⟩
theorem zZC{d r}(h:zPH d r Ci):zPH d r Ct:=⟨h,⟨⟨tv,dE _⟩,tv⟩,yO,⟨(lz rfl),tv,tv⟩,(yJ (dC _) yO)⟩
theorem zPI:∀f:Nat,(∀d x4 e a r,eB f d x4 e a=some r->(∀j,Dl prog 0 (pt 16309 f63) (zPE j d x4 e a) (zPF d x4 e a) (vA prog 0 ((match(generalizing:=false)r with|Sum.inl x=>oO prog 0 f63 (.tup [.sl (zC pN x.1) x.1.length .no,ai x.2]) [] 0|Sum.inr x=>oO prog 0 f63 (.tup [.ms 0 0 x.1.length x.1.length 3,ai x.2]) [.row (zC pN x.1)] 0)) [.blk 0,.seq (pt 255 f63)]))):=by intro f;induction f with|zero=>exactλ_ _ _ _ _ h=>nn h|succ f ih=>
 intro d x4 e a r h;rw[eB]at h;rcases W4 h with⟨h6,h⟩|⟨h6,h⟩;obtain⟨x7,h8,h⟩:=wP h;have k:=oA 0 (wO (o:=.no) h8)<|oB 0 h6 o0;rcases W4 h with⟨h9,h⟩|⟨h9,h⟩;obtain⟨r10,h11,h⟩:=wP h;obtain⟨x12,h13,h⟩:=wP h;obtain⟨x14,h15,h⟩:=wP h;exactλj=>olH 1 [] [0] [] [0,4,13,14] (oD (dE d)<|oD (dC x14)<|oW 0 (wtE (x:=r10) (cs:=[zP zA r10.args .no,zP zA r10.inds .no,zP aR r10.recs .no]) zCV rfl h15)<|oA 0 (zVY (b:=0) (c:=List.length x4) (z:=3) h13)<|oC 0 [] (c92 _ h11)<|oB 1 h9 k) (ih _ _ _ _ _ h);exactλj=>olH 1 [] [0] [] [0,4,13,14] (oD (dE d)<|oD (dC a)<|oB 1 h9 k) (ih _ _ _ _ _ h);obtain⟨l16,h17,h⟩:=wP h;obtain⟨h17a,h17b⟩:=sU h17;obtain rfl:=sj h;obtain rfl:=h17a.symm;try dsimp only
 rw[<-h17b];exactλj=>olF 0 [0] (oD (dC a)<|oB 0 h6 o0)
theorem yBH{f d r}(h:e63 f d=some r):(match(generalizing:=false)r with|Sum.inl x=>zPG d x Ct|Sum.inr x=>zPH d x Ct):=by unfold e63 at h;obtain⟨r1,h2,h⟩:=wP h;rcases W4 h with⟨h3,h⟩|⟨h3,h⟩;obtain⟨x4,h5,h⟩:=wP h;rcases r with y0|y1;exact zVw (tH q63 1 [] [0] [] [0,4,13,14] (oD (dE d)<|oD (dC x4)<|oM 2 (zOM h5)<|oK 0 [] h3 (c62 _ h2) o0) (zPI _ _ _ _ _ _ h));exact zZC (tH q63 1 [] [0] [] [0,4,13,14] (oD (dE d)<|oD (dC x4)<|oM 2 (zOM h5)<|oK 0 [] h3 (c62 _ h2) o0) (zPI _ _ _ _ _ _ h));obtain rfl:=sj h;exact zVw (tF q63 1 [] (oD (dC ([]:tR))<|oK 0 [] h3 (c62 _ h2) o0))
theorem yBI{f d r}(h:e63 f d=some r):(match(generalizing:=false)r with|Sum.inl x=>CT prog 63 [] [zP xE d .no] (.tup [.sl (zC pN x.1) x.1.length .no,ai x.2]) [] 0|Sum.inr x=>CT prog 63 [] [zP xE d .no] (.tup [.sl (zC pN x.1) x.1.length .no,ai x.2]) [] 0):=by
 have k:=yBH h;rcases r with y0|y1;·exact k
 ·exact CT.freeze (H1:=[]) (cs:=zC pN y1.1) (res':=(.tup [.sl (zC pN y1.1) y1.1.length .no,ai y1.2])) k (Nat.le_of_ble_eq_true rfl) yO (dC _) ⟨(.inl ⟨rfl,rfl⟩),trivial,tv⟩ (by rfl) rfl
theorem c63{f d}:Cz (e63 f d) 63 [] [zP xE d .no] (Sum.elim (λx=>.tup [.sl (zC pN x.1) x.1.length .no,ai x.2]) (λx=>.tup [.sl (zC pN x.1) x.1.length .no,ai x.2])) (Sum.elim (λ_=>[]) (λ_=>[])) 0:=λr h=>by have k:=yBI h;rcases r with _|_<;>exact k
theorem zIk{t:Tm}{n:Int}(h:(uL t n).2.2≠0):(uL t n).2.1=zT/\(uL t n).1=[]:=by
 unfold uL at h⊢;split
 ·split;·exact⟨rfl,rfl⟩
  ·split;·exact⟨rfl,rfl⟩
   ·rename_i h1 h2 h3;rw[if_pos h1,if_neg h2,if_neg h3]at h;cases hr:jK n.toNat t with|none=>exact⟨rfl,rfl⟩|some r=>rw[hr]at h;exact absurd rfl h
 ·exact⟨rfl,rfl⟩
theorem zTz:zH (λq=>A0 q zT) (yN zT,xD zT):=by simp only[A0,aZ];refine zH.bind (a:=.inr ([],zT)) (zH.succ ?_) (zH.ret.eq (by rw[dY (by decide),iO (by decide)];rfl));simp only[tJ];exact zH.ifF rfl ((zOU [] (by simp)).bind (zH.pure (a:=[]) rfl zH.ret))
theorem zBS(t:Tm):zH (λq=>A0 q (xC t).2.1) (yN (xC t).2.1,xD (xC t).2.1):=by
 by_cases h:(xC t).2.2=0;·have hw:=pA (t:=t) (l:=(xC t).1) (y:=(xC t).2.1) (by rw[<-h]);exact lM _ hw.2.2.2.2.1
 ·have:=(zIk (t:=t) (n:=((min (uY t) 25:Nat):Int)) h).1;have e:(xC t).2.1=zT:=this;rw[e];exact zTz
def zBs(l:List yL)(t:Tm)(of b:Int):rX:=if(xC t).2.2=0/\pR (xC t).2.1 of (zU l of).pars (zU l of).inds (b+(xC t).1.length)=true then rX.mk true (xC t).1 ((xD (xC t).2.1).drop (zU l of).pars.toNat)else rX.mk false [] []
theorem qN{α:Type}{L:List α}{n:Int}(h0:0<=n)(h1:n<=L.length):kE L n (L.length:Int)=some (L.drop n.toNat):=by unfold kE;rw[if_pos ⟨h0,h1,by omega⟩];congr 1;exact List.take_of_length_le (by simp;omega)
theorem aE{t:Tm}{of pars more b:Int}(h:pR t of pars more b=true):(yN t).k=6/\(yN t).n=of/\((xD t).length:Int)=pars+more:=by unfold pR at h;simp only[Bool.and_eq_true,beq_iff_eq]at h;exact⟨h.1.1.1,h.1.1.2,h.1.2⟩
theorem zWb(l:List yL)(t:Tm)(of b:Int)(ho:t.Ok)(h0:0<=of)(h1:of<l.length)(hp:0<=(zU l of).pars/\0<=(zU l of).inds/\(zU l of).pars+(zU l of).inds<=24)(hb:0<=b/\b<=1048576):zH (λq=>zSZ q l t of b) (zBs l t of b):=by
 simp only[zSZ];refine(F9 t ho).bind ((zBS t).bind ?_);unfold zBs;by_cases a1:(xC t).2.2=0
 ·have hw:=pA (t:=t) (l:=(xC t).1) (y:=(xC t).2.1) (by rw[<-a1]);refine zH.ifF (by simp[a1]) ?_;have hlen:=hw.2.2.1;rw[yQ (x:=b+((xC t).1.length:Int)) (by omega) (by omega)];have ha:=A3 (xC t).2.1 of (zU l of).pars (zU l of).inds (b+(xC t).1.length) hw.2.2.2.2.1 (by omega) (by omega) (by omega);by_cases a2:pR (xC t).2.1 of (zU l of).pars (zU l of).inds (b+(xC t).1.length)=true
  ·have hs:=aE a2;rw[if_pos ⟨a1,a2⟩];refine zH.ifF (by simp[hs.1]) (zH.ifF (by simp[hs.2.1]) (zH.pure (yU h0 h1) (ha.bind (zH.ifT a2 (zH.pure (qN hp.1 (by show _<=((xD (xC t).2.1).length:Int);omega)) ?_)))));have hal:=tS _ (zM hw.2.2.2.2.1).2.2;have hn:=(zM hw.2.2.2.2.1).1;refine zH.bind (a:=(xD (xC t).2.1).drop (zU l of).pars.toNat) (zH.mk λq=>(yG (by simp<;>omega)).trans (by simp)) zH.ret
  ·rw[if_neg (λh=>a2 h.2)];refine zH.iff (λ_=>zH.ret) λ_=>zH.iff (λ_=>zH.ret) λ_=>zH.pure (yU h0 h1) (ha.bind (zH.ifF (by simpa using a2) zH.ret))
 ·rw[if_neg (λh=>a1 h.1)];exact zH.ifT (by simp[a1]) zH.ret
def lQ(l:List yL)(of:Int):List Tm->Int->List rX|[],_=>[]|a::r,b=>zBs l a of b::lQ l of r (b+1)
theorem M2(l:List yL)(of:Int):∀(r:List Tm)(b:Int),(lQ l of r b).length=r.length|[],_=>rfl|a::r,b=>congrArg (·+1) (M2 l of r (b+1))
def vJ(l:List yL)(i:Int):tQ:=tQ.mk ((xC (zU l i).type).1.drop (zU l i).pars.toNat) ((xD (xC (zU l i).type).2.1).drop (zU l i).pars.toNat) (lQ l (zU l i).fam ((xC (zU l i).type).1.drop (zU l i).pars.toNat) (zU l i).pars)
theorem zBT(l:List yL)(x:yL)(A I:List Tm)(hA:∀t∈A,t.Ok)(hl:A.length<=24)(h0:0<=x.fam)(h1:x.fam<l.length)(hp:0<=(zU l x.fam).pars/\0<=(zU l x.fam).inds/\(zU l x.fam).pars+(zU l x.fam).inds<=24)(hb:0<=x.pars/\x.pars<=24):∀(r:List Tm)(v:Nat)(acc:List rX),A.drop v=r->acc.length<=v->zH (λq=>M1 q l x A I (v:Int) acc) (tQ.mk A I (acc++lQ l x.fam r (x.pars+v)))
 |[],v,acc,hd,ha=>by refine zH.succ ?_;simp only[M1];exact zH.ifF (yB hd) (zH.ret.eq (by simp[lQ]))|t::r,v,acc,hd,ha=>by
  have hlt:=yF hd;have ht:t∈A:=by
   have:t∈A.drop v:=by rw[hd];simp
   exact List.mem_of_mem_drop this
  refine zH.succ ?_;simp only[M1];rw[yQ (x:=x.pars+v) (by omega) (by omega)];refine zH.ifT (yA hd) (zH.pure (zZ hd) ((zWb l t x.fam (x.pars+v) (hA t ht) h0 h1 hp (by omega)).bind (zH.pure (yG (by simp<;>omega)) ?_)));rw[zW v (by omega)];refine(zBT l x A I hA hl h0 h1 hp hb r (v+1) _ (zS hd) (by simp<;>omega)).eq ?_;rw[lQ,show x.pars+((v+1:Nat):Int)=x.pars+v+1 by omega];simp
theorem vX{N:ByteArray->Bool}{l:List yL}{i:Int}(hE:wZ N l)(h0:0<=i)(h1:i<l.length)(hk:(zU l i).kind=2):∃(A:List Tm)(y:Tm),xC (zU l i).type=(A,y,0)/\zF y=true/\(∀t∈A,zF t=true)/\A.length=uY (zU l i).type/\A.length<=24/\0<=(zU l i).pars/\(zU l i).pars<=A.length/\0<=(zU l i).fam/\(zU l i).fam<i/\(zU l (zU l i).fam).kind=1/\(zU l i).pars=(zU l (zU l i).fam).pars/\0<=(zU l (zU l i).fam).inds/\(zU l (zU l i).fam).pars+(zU l (zU l i).fam).inds<=24/\pR y (zU l i).fam (zU l i).pars (zU l (zU l i).fam).inds A.length=true/\0<=(zU l i).place/\(zU l i).place<(zU l (zU l i).fam).cons.length:=by
 have hc:=(xP (hE.2 i h0 h1)).2.2.1 hk;unfold zIp at hc;simp only[Bool.and_eq_true,beq_iff_eq,decide_eq_true_eq]at hc;obtain⟨a1,a2,a3,a4⟩:=hc;have ho:=pB a1;have hf:=vT ((xP (hE.2 _ ho.1 (by omega))).2.1 ho.2.2.1);have hw:=pA (t:=(zU l i).type) (l:=(xC (zU l i).type).1) (y:=(xC (zU l i).type).2.1) (by rw[<-a2]);have hown:m7 l (zU l i)=(zU l (zU l i).fam).cons:=by unfold m7;rw[if_neg (by omega)]
 have h6:=ho.2.2.2.2.2;rw[hown]at h6;exact⟨_,_,by rw[<-a2],hw.2.2.2.2.1,hw.2.2.2.2.2,hw.2.1,hw.2.2.1,by omega,a3,ho.1,ho.2.1,ho.2.2.1,ho.2.2.2.1,hf.2.1,hf.2.2.1,a4,ho.2.2.2.2.1,h6⟩
theorem zX{t:Tm}(h:zF t=true):t.Ok:=rE t (zM h).2.2
theorem zFB{N:ByteArray->Bool}(l:List yL)(i:Int)(hE:wZ N l)(h0:0<=i)(h1:i<l.length)(hk:(zU l i).kind=2)(he:∀e∈l,jL e):zH (λq=>e92 q l i) (vJ l i):=by simp only[e92];obtain⟨A,y,hw,hy,hA,hAp,hA24,p0,p1,f0,f1,fk,fp,fi,fs,hap,-,-⟩:=vX hE h0 h1 hk;have hsp:=aE hap;refine zH.pure (yU h0 h1) ((F9 _ (he _ (nH h0 h1)).1).bind ((zBS _).bind ?_));unfold vJ;rw[hw];have hal:=tS _ (zM hy).2.2;have hn:=(zM hy).1;refine zH.pure (qN p0 p1) (zH.pure (qN p0 (by show _<=((xD y).length:Int);omega)) (zH.bind (a:=(xD y).drop (zU l i).pars.toNat) (zH.mk λq=>(yG (by simp<;>omega)).trans (by simp)) ?_));refine(zBT l (zU l i) (A.drop (zU l i).pars.toNat) ((xD y).drop (zU l i).pars.toNat) (λt ht=>zX (hA t (List.mem_of_mem_drop ht))) (by simp;omega) f0 (by omega) (by omega) (by omega) _ 0 [] rfl (by simp)).eq ?_;simp
def lX(l:List yL):Nat->Nat->List tQ|0,_=>[]|m+1,v=>(if(zU l v).kind=2 then vJ l v else default)::lX l m (v+1)
theorem zKq(l:List yL):∀(m v j:Nat),j<m->(lX l m v)[j]?=some (if(zU l ((v+j:Nat):Int)).kind=2 then vJ l ((v+j:Nat):Int)else default)|m+1,v,0,_=>by simp[lX]|m+1,v,j+1,h=>by rw[lX,List.getElem?_cons_succ,zKq l m (v+1) j (by omega),show v+1+j=v+(j+1)by omega]
theorem zMA{N:ByteArray->Bool}(l:List yL)(x4:List tQ)(hx:x4.length=l.length)(hE:wZ N l)(he:∀e∈l,jL e):∀(m v:Nat)(acc:List tQ),v+m=l.length->acc.length=v->zH (λq=>eB q l x4 (v:Int) (acc++List.replicate m default)) (.inr (acc++lX l m v,0)):=by intro m;induction m with|zero=>intro v acc hm ha;refine zH.succ ?_;simp only[eB];refine zH.ifF (decide_eq_false (by omega)) (zH.pure (a:=acc++List.replicate 0 default) (by unfold E1;rw[if_pos (by simp;omega)]) (zH.ret.eq (by simp[lX])))|succ m ih=>
 intro v acc hm ha;refine zH.succ ?_;simp only[eB];refine zH.ifT (decide_eq_true (by omega)) (zH.pure (yU (by omega) (by omega)) ?_);have hl:=hE.1;rw[zW v (by omega),lX];by_cases k:(zU l v).kind=2
 ·rw[if_pos k];refine zH.ifT (by simp[k]) ((zFB l v hE (by omega) (by omega) k he).bind ?_);refine zH.pure (a:=v) (by unfold pX;rw[if_pos (by omega)];simp) ?_;refine zH.pure (a:=acc++vJ l v::List.replicate m default) ?_ ?_;·unfold kR;rw[if_pos (by simp;omega),List.set_append_right _ _ (by omega),show v-acc.length=0 by omega,List.replicate_succ];rfl
  ·have:=ih (v+1) (acc++[vJ l v]) (by omega) (by simp;omega);simpa using this
 ·rw[if_neg k];refine zH.ifF (by simp[k]) ?_;have:=ih (v+1) (acc++[default]) (by omega) (by simp;omega);rw[List.replicate_succ];simpa using this
def e45(a:Nat)(b:xJ):Option ((Int)⊕(Int×xJ×tR)):=e46 a b>>=λr1=>X3 a b>>=λr3=>if r3 then e63 a r1>>=λr6=>match r6 with|Sum.inl y8=>if y8.2 !=0 then some (Sum.inl y8.2)else some (Sum.inr (0,r1,y8.1))|Sum.inr y10=>if y10.2 !=0 then some (Sum.inl y10.2)else some (Sum.inr (0,r1,y10.1))else some (Sum.inl 5)
theorem c45{a b}:Cz (e45 a b) 45 [] [zP xE b .no] (Sum.elim (λx=>.tup [.val (.pointer none),ai x]) (λx=>.tup [.mp 0 0,ai x.1])) (Sum.elim (λ_=>[]) (λx=>[.cells [zP xE x.2.1 .no,zP pN x.2.2 .no]])) 0:=fw func45<|rC 0 [] c46 λ_=>rK 0 [] c62 (λ_=>rC 1 [] c63<|sD (λ_=>rB 2 (fE 0)<|fF 0 [0]) λ_=>rB 2 (fE 0)<|fF 0 [0]) λ_=>fE 1
mutual def iR:Nat->xJ->(Int×xJ×tR)->Int->xJ->yE->yE->Option ((Int)⊕(Int×xJ×yE×yE×xJ×tR))
 |0,_,_,_,_,_,_=>none|p+1,e,y3,d,a,b,c=>if decide (d<(e.length:Int))then zV e d>>=λx8=>if x8.kind==1 then yZ 8 b [(xF ((xF ((xF (x8.pars+2))+(x8.cons.length:Int)))+x8.inds))]>>=λl11=>yZ 8 c [0]>>=λl13=>iR p e y3 (xF (d+1)) a l11 l13 else if x8.kind==2 then M3 p e y3 d a b c 0 x8.type.k x8.type.n x8.type.sub else yZ 8 b [0]>>=λl16=>yZ 8 c [0]>>=λl18=>iR p e y3 (xF (d+1)) a l16 l18 else some (Sum.inr (0,a,b,c,y3.2.1,y3.2.2))def M3:Nat->xJ->(Int×xJ×tR)->Int->xJ->yE->yE->Int->Int->Int->yV->Option ((Int)⊕(Int×xJ×yE×yE×xJ×tR))|0,_,_,_,_,_,_,_,_,_,_=>none|p+1,e,y3,d,a,b,c,q,f,m,g=>if f==3 then zV g 1>>=λx17=>M3 p e y3 d a b c (xF (q+1)) x17.k x17.n x17.sub else yZ 8 b [0]>>=λl19=>yZ 8 c [q]>>=λl21=>iR p e y3 (xF (d+1)) a l19 l21 end
def e29(p:Nat)(e:xJ):Option ((Int)⊕(Int×xJ×yE×yE×xJ×tR)):=e45 p e>>=λr1=>match r1 with|Sum.inl y7=>if y7 !=0 then some (Sum.inl y7)else none|Sum.inr y3=>if y3.1 !=0 then some (Sum.inl y3.1)else e46 p e>>=λr5=>iR p e y3 0 r5 [] []
theorem zDh:∀p:Nat,(∀e y3 d a b c,Lz (iR p e y3 d a b c) 0 f29 (pt 65461 f29) (λj=>sp j 81 0 [(6,.mp 0 0),(25,zP xE e .no),(26,ai (e.length:Int)),(27,ai d)]) ⟨[(0,.cells [zP xE a .no,.mp 1 0,zP zY b (.st 0 1),zP zY c (.st 1 1)]),(1,.cells [zP xE y3.2.1 .no,zP pN y3.2.2 .no])],2,[0,1],2,[]⟩ (Sum.elim (λx=>.tup [.val (.pointer none),ai x]) (λx=>.tup [.mp 0 0,ai x.1])) (Sum.elim (λ_=>[]) (λx=>[.cells [zP xE x.2.1 .no,.mp 1 0,zP zY x.2.2.1 .no,zP zY x.2.2.2.1 .no],.cells [zP xE x.2.2.2.2.1 .no,zP pN x.2.2.2.2.2 .no]])) 0 [.blk 0,.seq (pt 1023 f29)])/\(∀e y3 d a b c q f m g,Lz (M3 p e y3 d a b c q f m g) 0 f29 (pt 281157048172469 f29) (λj=>sp j 81 0 [(6,.mp 0 0),(9,ai 0),(10,ai q),(11,.mp 1 0),(25,zP xE e .no),(26,ai (e.length:Int)),(27,ai d)]) ⟨[(0,.cells [zP xE a .no,.mp 2 0,zP zY b (.st 0 1),zP zY c (.st 1 1)]),(1,.cells [ai f,ai m,zP zA g .no]),(2,.cells [zP xE y3.2.1 .no,zP pN y3.2.2 .no])],3,[0,1],2,[]⟩ (Sum.elim (λx=>.tup [.val (.pointer none),ai x]) (λx=>.tup [.mp 0 0,ai x.1])) (Sum.elim (λ_=>[]) (λx=>[.cells [zP xE x.2.1 .no,.mp 1 0,zP zY x.2.2.1 .no,zP zY x.2.2.2.1 .no],.cells [zP xE x.2.2.2.2.1 .no,zP pN x.2.2.2.2.2 .no]])) 0 [.blk 3,.blk 2,.seq (pt 1072529023 f29),.blk 1,.seq (pt 4189567 f29),.loop (pt 65461 f29),.blk 0,.seq (pt 1023 f29)]):=wF ⟨λ_ _ _ _ _ _=>lN,λ_ _ _ _ _ _ _ _ _ _=>lN⟩ λp ih=>⟨λe y3 d a b c=>lw λ_=>rB 0 (rA 0 (wO (o:=.no)) λ_=>rB 3 (rW (λh12=>oP 9 (kI h12 (by simp))) λ_=>rW (λh14=>oP 2 (kI h14 (by simp))) λ_=>lH 3 [] [0,1] [2,3] [6,25,26,27] (ih.1 _ _ _ _ _ _))<|rB 0 (lH 2 [] [0,3,1] [0,1] [6,9,10,11,25,26,27] (ih.2 _ _ _ _ _ _ _ _ _ _))<|rW (λh17=>oP 2 (kI h17 (by simp))) λ_=>rW (λh19=>oP 2 (kI h19 (by simp))) λ_=>lH 3 [] [0,1] [2,3] [6,25,26,27] (ih.1 _ _ _ _ _ _))<|lF 0 [0,1],λe y3 d a b c q f m g=>lw λ_=>rB 1 (rA 4 (wE (o:=.no)) λ_=>lH 2 [] [0,3,2] [0,1] [6,9,10,11,25,26,27] (ih.2 _ _ _ _ _ _ _ _ _ _))<|rW (λh20=>oP 2 (kI h20 (by simp))) λ_=>rW (λh22=>oP 2 (kI h22 (by simp))) λ_=>lH 3 [] [0,2] [2,3] [6,25,26,27] (ih.1 _ _ _ _ _ _)⟩
theorem c29{p e}:Cz (e29 p e) 29 [] [zP xE e .no] (Sum.elim (λx=>.tup [.val (.pointer none),ai x]) (λx=>.tup [.mp 0 0,ai x.1])) (Sum.elim (λ_=>[]) (λx=>[.cells [zP xE x.2.1 .no,.mp 1 0,zP zY x.2.2.1 .no,zP zY x.2.2.2.1 .no],.cells [zP xE x.2.2.2.2.1 .no,zP pN x.2.2.2.2.2 .no]])) 0:=fw func29<|rC 0 [] c45<|sD (λ_=>rB 2 (fE 0) rN) λ_=>rB 2 (fE 0)<|rC 0 [] c46 λ_=>fH 1 [(some 1,2,1),(some 1,3,1)] [1,0] [0,1] [6,25,26,27] (((zDh _).1) _ _ _ _ _ _)
theorem zPJ{N:ByteArray->Bool}(l:List yL)(hf:zH (λq=>X3 q l) true)(hE:wZ N l)(he:∀e∈l,jL e):zH (λq=>e63 q l) (.inr (lX l l.length 0,0)):=by
 simp only[e63];have hl:=hE.1;refine hf.bind (zH.ifT rfl (zH.pure (a:=List.replicate l.length default) ?_ ?_));·unfold gmk;rw[if_pos (by omega)];rfl
 ·exact(zMA l (List.replicate l.length default) (by simp) hE he l.length 0 [] (by omega) rfl).eq (by simp)
def zIj(l:List yL)(b:Bool):(Int)⊕(Int×List yL×List tQ):=if b=true then .inr (0,l,lX l l.length 0)else .inl 5
theorem zTy(N:ByteArray->Bool)(hN:cK N)(l:List yL)(hl:l.length<=65535)(he:∀e∈l,jL e)(hc:∀e∈l,ECl e):∃b,zH (λq=>X3 q l) b/\(b=true->wZ N l)/\zH (λq=>e45 q l) (zIj l b):=by
 obtain⟨d,-,hd⟩:=zMc N hN l hl he;refine⟨_,hd,G5,?_⟩;simp only[e45];refine(eA l hl he hc).bind (hd.bind ?_);unfold zIj;by_cases h:G3 N d l=true
 ·rw[if_pos h];have hA:=G5 h;rw[jM hA];refine zH.ifT h ((zPJ l (hd.eq h) hA he).bind ?_);exact zH.ifF (by simp) zH.ret
 ·rw[if_neg h];exact zH.ifF (by simpa using h) zH.ret
theorem zBU(t:Tm)(hg:xZ t=true):uY t<=t.nodes:=by
 have key:∀(m:Nat)(t:Tm),t.nodes<=m->xZ t=true->uY t<=t.nodes:=by intro m;induction m with|zero=>intro t h;have:=sX t;omega|succ m ih=>
  intro t hm hg;by_cases k:t.k=3
  ·obtain⟨x,y,e,hx,hy⟩:=iQ hg k;rw[e]at hm⊢;rw[F8];rw[Tm.nodes,xU,xU,xU]at hm⊢;have:=sX x;have:=ih y (by omega) hy;omega
  ·rw[zDm k];omega
 exact key t.nodes t (Nat.le_refl _) hg
def wU(e:yL):Int:=if e.kind=1 then e.pars+2+e.cons.length+e.inds else 0
def rR(e:yL):Int:=if e.kind=2 then(uY e.type:Int)else 0
theorem zTx(l:List yL)(y3:Int×List yL×List tQ)(v27:Int)(vb:List yL)(a o:List Int)(r:(Int)⊕(Int×List yL×List Int×List Int×List yL×List tQ))(ha:a.length<=65535)(ho:o.length<=65535)(tot:Int)(ht:tot<=4611686018427387904)(hk:zH (λq=>iR q l y3 (xF (v27+1)) vb (a++[0]) (o++[tot])) r):∀(t:Tm)(v:Int),xZ t=true->0<=v->v+uY t=tot->zH (λq=>M3 q l y3 v27 vb a o v t.k t.n t.sub) r:=by
 have key:∀(m:Nat)(t:Tm)(v:Int),t.nodes<=m->xZ t=true->0<=v->v+uY t=tot->zH (λq=>M3 q l y3 v27 vb a o v t.k t.n t.sub) r:=by intro m;induction m with|zero=>intro t v h;have:=sX t;omega|succ m ih=>
  intro t v hm hg h0 hv;refine zH.succ ?_;simp only[M3];by_cases k:t.k=3
  ·obtain⟨x,y,e,hx,hy⟩:=iQ hg k;rw[e]at hv hm⊢;rw[F8]at hv;refine zH.ifT (by simp[Tm.k]) (zH.pure (a:=y) (by simp[zV,Tm.sub]) ?_);rw[yQ (x:=v+1) (by omega) (by omega)];refine ih y (v+1) ?_ hy (by omega) (by omega);rw[Tm.nodes,xU,xU,xU]at hm;have:=sX x;omega
  ·rw[zDm k]at hv;refine zH.ifF (by simp[k]) (zH.pure (yG (by simp<;>omega)) (zH.pure (yG (by simp<;>omega)) ?_));rw[show v=tot by omega];exact hk
 exactλt v=>key t.nodes t v (Nat.le_refl _)
theorem G6{N:ByteArray->Bool}(l vb:List yL)(y3:Int×List yL×List tQ)(hE:wZ N l):∀(r:List yL)(v:Nat)(a o:List Int),l.drop v=r->a.length<=v->o.length<=v->zH (λq=>iR q l y3 (v:Int) vb a o) (.inr (0,vb,a++r.map wU,o++r.map rR,y3.2.1,y3.2.2))
 |[],v,a,o,hd,ha,ho=>by refine zH.succ ?_;simp only[iR];exact zH.ifF (yB hd) (zH.ret.eq (by simp))|x::r,v,a,o,hd,ha,ho=>by
  have hlt:=yF hd;have hl:=hE.1;have hx:zU l v=x:=by have h1:=zZ hd;rw[yU (by omega) (by omega)]at h1;exact Option.some.inj h1
  have hs:=xP (hE.2 v (by omega) (by omega));rw[hx]at hs;refine zH.succ ?_;simp only[iR];refine zH.ifT (yA hd) (zH.pure (zZ hd) ?_);by_cases k1:x.kind=1
  ·have hf:=vT (hs.2.1 k1);rw[hx]at hf;rw[yQ (x:=x.pars+2) (by omega) (by omega),yQ (x:=x.pars+2+x.cons.length) (by omega) (by omega),yQ (x:=x.pars+2+x.cons.length+x.inds) (by omega) (by omega),zW v (by omega)];refine zH.ifT (by simp[k1]) (zH.pure (yG (by simp<;>omega)) (zH.pure (yG (by simp<;>omega)) ?_));refine(G6 l vb y3 hE r (v+1) _ _ (zS hd) (by simp<;>omega) (by simp<;>omega)).eq ?_;simp[wU,rR,k1]
  ·refine zH.ifF (by simp[k1]) ?_;by_cases k2:x.kind=2
   ·refine zH.ifT (by simp[k2]) ?_;have hsh:=(zM (qM hs.1));have hp:uY x.type<=8192:=Nat.le_trans (zBU x.type hsh.2.2) hsh.1;refine zTx l y3 v vb a o _ (by omega) (by omega) (uY x.type) (by omega) ?_ x.type 0 hsh.2.2 (by omega) (by omega);rw[zW v (by omega)];refine(G6 l vb y3 hE r (v+1) _ _ (zS hd) (by simp<;>omega) (by simp<;>omega)).eq ?_;simp[wU,rR,k2]
   ·refine zH.ifF (by simp[k2]) (zH.pure (yG (by simp<;>omega)) (zH.pure (yG (by simp<;>omega)) ?_));rw[zW v (by omega)];refine(G6 l vb y3 hE r (v+1) _ _ (zS hd) (by simp<;>omega) (by simp<;>omega)).eq ?_;simp[wU,rR,k1,k2]
def xB(l:List yL):xG:=xG.mk l l (lX l l.length 0) (l.map wU) (l.map rR)
def zWa(l:List yL)(b:Bool):(Int)⊕(Int×List yL×List Int×List Int×List yL×List tQ):=if b=true then .inr (0,l,l.map wU,l.map rR,l,lX l l.length 0)else .inl 5
theorem zTw(N:ByteArray->Bool)(hN:cK N)(l:List yL)(hl:l.length<=65535)(he:∀e∈l,jL e)(hc:∀e∈l,ECl e):∃b,zH (λq=>X3 q l) b/\(b=true->wZ N l)/\zH (λq=>e29 q l) (zWa l b):=by obtain⟨b,h1,h2,h3⟩:=zTy N hN l hl he hc;refine⟨b,h1,h2,?_⟩;simp only[e29];refine h3.bind ?_;unfold zIj zWa;cases b with|false=>exact zH.ifT (by decide) zH.ret|true=>refine zH.ifF (by simp) ((eA l hl he hc).bind ?_);rw[jM (h2 rfl)];exact(G6 l l _ (h2 rfl) l 0 [] [] rfl (by simp) (by simp)).eq (by simp)
theorem eC{t:Tm}{k c:Int}(h:(uP t k c).2=0):zF t=true/\0<=k/\0<=c/\zF (A1 t 0 c k)=true/\(uP t k c).1=A1 t 0 c k:=by
 unfold uP at h⊢;by_cases a:zF t=true/\aB k=true/\aB c=true
 ·rw[if_pos a]at h⊢;by_cases b:zF (A1 t 0 c k)=true
  ·rw[if_pos b];have a2:=a.2.1;have a3:=a.2.2;unfold aB at a2 a3;simp only[Bool.and_eq_true,decide_eq_true_eq]at a2 a3;exact⟨a.1,a2.1,a3.1,b,rfl⟩
  ·rw[if_neg b]at h;simp at h
 ·rw[if_neg a]at h;simp at h
theorem m9(t:Tm)(k c:Int):(uP t k c).2≠8:=by
 unfold uP;split;·split<;>simp
 ·simp
mutual def siT(ls:List Tm):Tm->Int->Tm|.mk kd n l,b=>if kd=1/\b<=n then(if h:(n-b).toNat<ls.length then A1 (ls[(n-b).toNat]) 0 0 b else .mk 1 (n-ls.length) [])else .mk kd n (siL ls l kd 0 b)def siL(ls:List Tm):List Tm->Int->Nat->Int->List Tm|[],_,_,_=>[]|t::l,kd,i,b=>siT ls t (wS kd i b)::siL ls l kd (i+1) b end
theorem zWA{a:Tm}{b left:Int}{long:Bool}(h:(raT a b left long).2.2=false):long=false/\(raT a b left long).1=A1 a 0 0 b:=by
 unfold raT at h⊢;by_cases h1:left-szT a 0<0;·rw[if_pos h1]at h;simp at h
 ·rw[if_neg h1]at h⊢;by_cases h2:(uP a b 0).2≠0;·rw[if_pos h2]at h;simp at h
  ·rw[if_neg h2]at h⊢;exact⟨h,(eC (by simpa using h2)).2.2.2.2⟩
theorem zPL(ls:List Tm):∀(t:Tm)(b left:Int),(C0 ls t b left true).2.2=true|.mk kd n l,b,left=>by rw[C0,if_pos rfl]
mutual theorem zPM(ls:List Tm):∀(t:Tm)(b left:Int)(long:Bool),(C0 ls t b left long).2.2=false->long=false/\(C0 ls t b left long).1=siT ls t b
 |.mk kd n l,b,left,long,h=>by cases long with|true=>rw[zPL]at h;cases h|false=>
  refine⟨rfl,?_⟩;rw[C0,if_neg (by simp)]at h⊢;rw[siT];by_cases h1:kd=1/\b<=n
  ·rw[if_pos h1]at h;rw[if_pos h1,if_pos h1];by_cases h2:(n-b).toNat<ls.length
   ·rw[dif_pos h2]at h;rw[dif_pos h2,dif_pos h2];exact(zWA h).2
   ·rw[dif_neg h2,dif_neg h2]
  ·rw[if_neg h1]at h;rw[if_neg h1,if_neg h1];exact congrArg (Tm.mk kd n) (zPN ls l kd 0 b (left-1) (decide (left-1<0)) h).2 theorem zPN(ls:List Tm):∀(l:List Tm)(kd:Int)(i:Nat)(b left:Int)(long:Bool),(S5 ls l kd i b left long).2.2=false->long=false/\(S5 ls l kd i b left long).1=siL ls l kd i b|[],kd,i,b,left,long,h=>by rw[S5]at h⊢;rw[siL];exact⟨h,rfl⟩|t::l,kd,i,b,left,long,h=>by rw[S5]at h⊢;have k:=zPN ls l kd (i+1) b (C0 ls t (wS kd i b) left long).2.1 (C0 ls t (wS kd i b) left long).2.2 h;have k2:=zPM ls t (wS kd i b) left long k.1;refine⟨k2.1,?_⟩;show(C0 ls t (wS kd i b) left long).1::(S5 ls l kd (i+1) b (C0 ls t (wS kd i b) left long).2.1 (C0 ls t (wS kd i b) left long).2.2).1=_;rw[k2.2,k.2,siL]end
theorem zDg{t:Tm}{ls:List Tm}(h:(fZ t ls).2=0):zF t=true/\ls.all zF=true/\zF (siT ls t 0)=true/\(fZ t ls).1=siT ls t 0:=by
 unfold fZ at h⊢;by_cases a:zF t=true/\ls.all zF=true
 ·rw[if_pos a]at h⊢;by_cases b:(C0 ls t 0 8192 false).2.2=true;·rw[if_pos b]at h;simp at h
  ·rw[if_neg b]at h⊢;have e:=(zPM ls t 0 8192 false (by simpa using b)).2;rw[e]at h⊢;by_cases c:zF (siT ls t 0)=true;·rw[if_pos c];exact⟨a.1,a.2,c,rfl⟩
   ·rw[if_neg c]at h;simp at h
 ·rw[if_neg a]at h;simp at h
theorem zKp(t:Tm)(ls:List Tm):(fZ t ls).2≠8:=by
 unfold fZ;split
 ·split;·simp
  ·split<;>simp
 ·simp
mutual def xS(P:Int->Int->Prop):Tm->Prop|.mk k n l=>(k=1\/P k n)/\vD P l def vD(P:Int->Int->Prop):List Tm->Prop|[]=>True|t::l=>xS P t/\vD P l end
section
variable{P:Int->Int->Prop}
theorem zDf{k n:Int}{a b:Tm}(h:k=1\/P k n)(ha:xS P a)(hb:xS P b):xS P (.mk k n [a,b]):=by rw[xS,vD,vD,vD];exact⟨h,ha,hb,trivial⟩
theorem zWB{k n:Int}{a:Tm}(h:k=1\/P k n)(ha:xS P a):xS P (.mk k n [a]):=by rw[xS,vD,vD];exact⟨h,ha,trivial⟩
theorem eD{k n:Int}(h:k=1\/P k n):xS P (.mk k n []):=by rw[xS,vD];exact⟨h,trivial⟩
mutual theorem G7:∀(t:Tm)(b c k:Int),xS P t->xS P (A1 t b c k)
 |.mk kd n l,b,c,k,h=>by
  rw[xS]at h;rw[A1];split;·exact eD (.inl rfl)
  ·rw[xS];exact⟨h.1,zFC l kd 0 b c k h.2⟩theorem zFC:∀(l:List Tm)(kd:Int)(i:Nat)(b c k:Int),vD P l->vD P (W7 l kd i b c k)|[],_,_,_,_,_,_=>by rw[W7,vD];trivial|t::l,kd,i,b,c,k,h=>by rw[vD]at h;rw[W7,vD];exact⟨G7 t _ c k h.1,zFC l kd (i+1) b c k h.2⟩end
mutual theorem X4(ls:List Tm)(hls:∀a∈ls,xS P a):∀(t:Tm)(b:Int),xS P t->xS P (siT ls t b)
 |.mk kd n l,b,h=>by
  rw[xS]at h;rw[siT];split
  ·split;·exact G7 _ 0 0 b (hls _ (List.getElem_mem _))
   ·exact eD (.inl rfl)
  ·rw[xS];exact⟨h.1,zFD ls hls l kd 0 b h.2⟩theorem zFD(ls:List Tm)(hls:∀a∈ls,xS P a):∀(l:List Tm)(kd:Int)(i:Nat)(b:Int),vD P l->vD P (siL ls l kd i b)|[],_,_,_,_=>by rw[siL,vD];trivial|t::l,kd,i,b,h=>by rw[vD]at h;rw[siL,vD];exact⟨X4 ls hls t _ h.1,zFD ls hls l kd (i+1) b h.2⟩end
theorem iS:∀(l:List Tm)(f:Tm),P 5 0->xS P f->(∀a∈l,xS P a)->xS P (nP f l)|[],f,_,hf,_=>by rw[nP];exact hf|a::l,f,h5,hf,hl=>by rw[nP];exact iS l _ h5 (zDf (.inr h5) hf (hl a (by simp))) λx hx=>hl x (by simp[hx])
theorem oY:∀t:Tm,xZ t=true->xS P t->xS P (yN t)/\∀a∈xD t,xS P a:=by
 refine dZ ?_ ?_
 ·intro t hg hk h;rw[dY hk,iO hk];exact⟨h,λx hx=>by cases hx⟩
 ·intro n a b hg ha hb ih h;rw[F3,dX];rw[xS,vD,vD,vD]at h;refine⟨(ih h.2.1).1,λx hx=>?_⟩;rcases List.mem_append.1 hx with hx|hx;·exact(ih h.2.1).2 x hx
  ·rw[List.mem_singleton.1 hx];exact h.2.2.1
theorem G8:∀(n:Nat)(t:Tm)(r:List Tm×Tm),xZ t=true->jK n t=some r->xS P t->xS P r.2/\∀x∈r.1,xS P x
 |0,t,r,hg,h,ha=>by rw[jK]at h;cases h;exact⟨ha,λx hx=>by cases hx⟩|n+1,t,r,hg,h,ha=>by
  by_cases h3:t.k=3
  ·obtain⟨a,b,hx,hga,hgb⟩:=iQ hg h3;rw[hx]at h ha;rw[X2]at h;obtain⟨r',h1,rfl⟩:=Option.map_eq_some_iff.1 h;rw[xS,vD,vD,vD]at ha;have ih:=G8 n b r' hgb h1 ha.2.2.1;refine⟨ih.1,λx hx=>?_⟩;rcases List.mem_cons.1 hx with rfl|hx;·exact ha.2.1
   ·exact ih.2 x hx
  ·rw[F6 h3]at h;cases h
end
mutual theorem M4{P Q R:Int->Int->Prop}(h:∀k n,P k n->Q k n->R k n):∀t:Tm,xS P t->xS Q t->xS R t
 |.mk k n l,hp,hq=>by
  rw[xS]at hp hq⊢;refine⟨?_,j4 h l hp.2 hq.2⟩;rcases hp.1 with h1|h1;·exact .inl h1
  ·rcases hq.1 with h2|h2;·exact .inl h2
   ·exact .inr (h k n h1 h2)theorem j4{P Q R:Int->Int->Prop}(h:∀k n,P k n->Q k n->R k n):∀l:List Tm,vD P l->vD Q l->vD R l|[],_,_=>by rw[vD];trivial|t::l,hp,hq=>by rw[vD]at hp hq⊢;exact⟨M4 h t hp.1 hq.1,j4 h l hp.2 hq.2⟩end
theorem sA{P R:Int->Int->Prop}{t:Tm}(h:∀k n,P k n->R k n)(hp:xS P t):xS R t:=M4 (λk n a _=>h k n a) t hp hp
mutual theorem eE{a b:Int}{Q:Int->Prop}(ha:a≠1)(hb:b≠1):∀t:Tm,(∀x∈rY t a b,Q x)↔xS (λk n=>k=a\/k=b->Q n) t
 |.mk k n l=>by
  have ih:=zBV (Q:=Q) ha hb l;rw[rY,xS,<-ih];constructor
  ·intro h;refine⟨?_,λx hx=>h x (List.mem_append_right _ hx)⟩;by_cases h1:k=a\/k=b;·exact .inr λ_=>h n (by rw[if_pos h1];simp)
   ·exact .inr λh2=>absurd h2 h1
  ·rintro⟨h1,h2⟩x hx;rcases List.mem_append.1 hx with hx|hx
   ·by_cases h3:k=a\/k=b
    ·rw[if_pos h3,List.mem_singleton]at hx;rcases h1 with h1|h1;·omega
     ·rw[hx];exact h1 h3
    ·rw[if_neg h3]at hx;cases hx
   ·exact h2 x hx theorem zBV{a b:Int}{Q:Int->Prop}(ha:a≠1)(hb:b≠1):∀l:List Tm,(∀x∈D4 l a b,Q x)↔vD (λk n=>k=a\/k=b->Q n) l
 |[]=>by rw[D4,vD];simp|t::l=>by
  rw[D4,vD,<-eE ha hb t,<-zBV ha hb l];constructor;·intro h;exact⟨λx hx=>h x (List.mem_append_left _ hx),λx hx=>h x (List.mem_append_right _ hx)⟩
  ·rintro⟨h1,h2⟩x hx;rcases List.mem_append.1 hx with hx|hx;·exact h1 x hx
   ·exact h2 x hx end
mutual def tV:Tm->Int->List Int|.mk k n l,b=>if k=1 then(if b<=n then[n-b]else[])else lvL l k 0 b def lvL:List Tm->Int->Nat->Int->List Int|[],_,_,_=>[]|t::l,k,i,b=>tV t (wS k i b)++lvL l k (i+1) b end
theorem zFE(k:Int)(i:Nat)(d x:Int):wS k i (d+x)=wS k i d+x:=by
 unfold wS;by_cases h:i=1/\k≠5;·rw[if_pos h,if_pos h];omega
 ·rw[if_neg h,if_neg h]
theorem zKo(k:Int)(i:Nat)(d:Int):d<=wS k i d:=by unfold wS;split<;>omega
theorem qG{n b j:Int}{l:List Tm}:j∈tV (.mk 1 n l) b↔b<=n/\j=n-b:=by
 rw[tV,if_pos rfl];by_cases h:b<=n;·rw[if_pos h];simp[h]
 ·rw[if_neg h];simp[h]
theorem tW{k n b j:Int}{l:List Tm}(h:k≠1):j∈tV (.mk k n l) b↔j∈lvL l k 0 b:=by rw[tV,if_neg h]
theorem vE{t:Tm}{l:List Tm}{k b j:Int}{i:Nat}:j∈lvL (t::l) k i b↔j∈tV t (wS k i b)\/j∈lvL l k (i+1) b:=by rw[lvL,List.mem_append]
theorem pS{k b j:Int}{i:Nat}:¬j∈lvL [] k i b:=by rw[lvL];simp
mutual theorem j5:∀(t:Tm)(b j:Int),j∈tV t b->0<=j
 |.mk k n l,b,j,h=>by
  by_cases hk:k=1;·subst hk;have:=qG.1 h;omega
  ·exact zPO l k 0 b j ((tW hk).1 h)theorem zPO:∀(l:List Tm)(k:Int)(i:Nat)(b j:Int),j∈lvL l k i b->0<=j|[],k,i,b,j,h=>absurd h pS|t::l,k,i,b,j,h=>(vE.1 h).elim (j5 t _ j) (zPO l k (i+1) b j)end
mutual theorem jN:∀(t:Tm)(d b j:Int),0<=b->(j∈tV t (d+b)↔0<=j/\j+b∈tV t d)
 |.mk k n l,d,b,j,hb=>by
  by_cases hk:k=1;·subst hk;rw[qG,qG];omega
  ·rw[tW hk,tW hk];exact zBW l k 0 d b j hb theorem zBW:∀(l:List Tm)(k:Int)(i:Nat)(d b j:Int),0<=b->(j∈lvL l k i (d+b)↔0<=j/\j+b∈lvL l k i d)
 |[],k,i,d,b,j,hb=>⟨λh=>absurd h pS,λh=>absurd h.2 pS⟩|t::l,k,i,d,b,j,hb=>by
  rw[vE,vE,zFE,jN t _ b j hb,zBW l k (i+1) d b j hb];constructor
  ·rintro(h|h);·exact⟨h.1,.inl h.2⟩
   ·exact⟨h.1,.inr h.2⟩
  ·rintro⟨h,h1|h1⟩;·exact .inl ⟨h,h1⟩
   ·exact .inr ⟨h,h1⟩end
mutual theorem zVv:∀(t:Tm)(b c k j:Int),0<=k->j∈tV (A1 t b c k) b->∃i∈tV t b,j=if i<c then i else i+k
 |.mk kd n l,b,c,k,j,hk,h=>by
  rw[A1]at h;by_cases h1:kd=1
  ·subst h1;rw[if_pos rfl]at h;have h2:=qG.1 h;by_cases h3:b<=n
   ·rw[if_pos h3]at h2;exact⟨n-b,qG.2 ⟨h3,rfl⟩,by omega⟩
   ·rw[if_neg h3]at h2;omega
  ·rw[if_neg h1]at h;obtain⟨i,hi,e⟩:=zPP l kd 0 b c k j hk ((tW h1).1 h);exact⟨i,(tW h1).2 hi,e⟩theorem zPP:∀(l:List Tm)(kd:Int)(i:Nat)(b c k j:Int),0<=k->j∈lvL (W7 l kd i b c k) kd i b->∃x∈lvL l kd i b,j=if x<c then x else x+k
 |[],kd,i,b,c,k,j,hk,h=>by rw[W7]at h;exact absurd h pS|t::l,kd,i,b,c,k,j,hk,h=>by
  rw[W7]at h;rcases vE.1 h with h|h;·obtain⟨x,hx,e⟩:=zVv t _ c k j hk h;exact⟨x,vE.2 (.inl hx),e⟩
  ·obtain⟨x,hx,e⟩:=zPP l kd (i+1) b c k j hk h;exact⟨x,vE.2 (.inr hx),e⟩end
mutual theorem zFF:∀(t:Tm)(d k j:Int),0<=k->j∈tV (A1 t d 0 k) (d+k)->j∈tV t d
 |.mk kd n l,d,k,j,hk,h=>by
  rw[A1]at h;by_cases h1:kd=1
  ·subst h1;rw[if_pos rfl]at h;have h2:=qG.1 h;by_cases h3:d<=n
   ·rw[if_pos h3,if_neg (by omega)]at h2;exact qG.2 ⟨h3,by omega⟩
   ·rw[if_neg h3]at h2;omega
  ·rw[if_neg h1]at h;exact(tW h1).2 (zPQ l kd 0 d k j hk ((tW h1).1 h))theorem zPQ:∀(l:List Tm)(kd:Int)(i:Nat)(d k j:Int),0<=k->j∈lvL (W7 l kd i d 0 k) kd i (d+k)->j∈lvL l kd i d
 |[],kd,i,d,k,j,hk,h=>by rw[W7]at h;exact absurd h pS|t::l,kd,i,d,k,j,hk,h=>by
  rw[W7]at h;rcases vE.1 h with h|h
  ·rw[zFE]at h;exact vE.2 (.inl (zFF t _ k j hk h))
  ·exact vE.2 (.inr (zPQ l kd (i+1) d k j hk h))end
mutual theorem zPR(ls:List Tm):∀(t:Tm)(b j:Int),0<=b->j∈tV (siT ls t b) b->∃i∈tV t b,((ls.length:Int)<=i/\j=i-ls.length)\/∃h:i.toNat<ls.length,j∈tV ls[i.toNat] 0
 |.mk kd n l,b,j,hb,h=>by
  rw[siT]at h;by_cases h1:kd=1/\b<=n
  ·rw[if_pos h1]at h;obtain⟨rfl,h1⟩:=h1;refine⟨n-b,qG.2 ⟨h1,rfl⟩,?_⟩;by_cases h2:(n-b).toNat<ls.length
   ·rw[dif_pos h2]at h;exact .inr ⟨h2,zFF _ 0 b j hb (by rwa[Int.zero_add])⟩
   ·rw[dif_neg h2]at h;have:=qG.1 h;exact .inl (by omega)
  ·rw[if_neg h1]at h;by_cases h2:kd=1
   ·subst h2;have:=qG.1 h;exact absurd ⟨rfl,this.1⟩ h1
   ·obtain⟨i,hi,e⟩:=zPS ls l kd 0 b j hb ((tW h2).1 h);exact⟨i,(tW h2).2 hi,e⟩theorem zPS(ls:List Tm):∀(l:List Tm)(kd:Int)(i:Nat)(b j:Int),0<=b->j∈lvL (siL ls l kd i b) kd i b->∃x∈lvL l kd i b,((ls.length:Int)<=x/\j=x-ls.length)\/∃h:x.toNat<ls.length,j∈tV ls[x.toNat] 0
 |[],kd,i,b,j,hb,h=>by rw[siL]at h;exact absurd h pS|t::l,kd,i,b,j,hb,h=>by
  rw[siL]at h;rcases vE.1 h with h|h
  ·obtain⟨x,hx,e⟩:=zPR ls t _ j (by have:=zKo kd i b;omega) h;exact⟨x,vE.2 (.inl hx),e⟩
  ·obtain⟨x,hx,e⟩:=zPS ls l kd (i+1) b j hb h;exact⟨x,vE.2 (.inr hx),e⟩end
theorem zWC{k n:Int}{a b:Tm}{d j:Int}(hk:k≠1):j∈tV (.mk k n [a,b]) d↔j∈tV a d\/j∈tV b (wS k 1 d):=by
 rw[tW hk,vE,vE];have e:wS k 0 d=d:=by unfold wS;simp
 rw[e];exact⟨λh=>h.elim .inl λh=>h.elim .inr λh=>absurd h pS,λh=>h.elim .inl λh=>.inr (.inl h)⟩
theorem M5{n:Int}{a b:Tm}{d j:Int}:j∈tV (.mk 5 n [a,b]) d↔j∈tV a d\/j∈tV b d:=by
 rw[zWC (by decide)];have e:wS 5 1 d=d:=by unfold wS;simp
 rw[e]
theorem zPT{n:Int}{a b:Tm}{d j:Int}:j∈tV (.mk 3 n [a,b]) d↔j∈tV a d\/j∈tV b (d+1):=by
 rw[zWC (by decide)];have e:wS 3 1 d=d+1:=by unfold wS;simp
 rw[e]
theorem zPU{n:Int}{a b:Tm}{d j:Int}:j∈tV (.mk 4 n [a,b]) d↔j∈tV a d\/j∈tV b (d+1):=by
 rw[zWC (by decide)];have e:wS 4 1 d=d+1:=by unfold wS;simp
 rw[e]
theorem zDe{k n d j:Int}(hk:k≠1):¬j∈tV (.mk k n []) d:=by rw[tW hk];exact pS
theorem zZD{k n m d j:Int}(hk:k≠1):¬j∈tV (.mk k n [.mk 2 m []]) d:=by rw[tW hk,vE];exactλh=>h.elim (zDe (by decide)) pS
theorem zBX:∀(l:List Tm)(f:Tm)(d j:Int),j∈tV (nP f l) d↔j∈tV f d\/∃a∈l,j∈tV a d|[],f,d,j=>by rw[nP];simp|a::l,f,d,j=>by rw[nP,zBX l,M5];simp[or_assoc]
theorem G9:∀t:Tm,xZ t=true->∀d j,(j∈tV (yN t) d->j∈tV t d)/\∀a∈xD t,j∈tV a d->j∈tV t d:=by
 refine dZ ?_ ?_
 ·intro t hg hk d j;rw[dY hk,iO hk];exact⟨id,λx hx=>by cases hx⟩
 ·intro n a b hg ha hb ih d j;rw[F3,dX];refine⟨λh=>M5.2 (.inl ((ih d j).1 h)),λx hx h=>?_⟩;rcases List.mem_append.1 hx with hx|hx;·exact M5.2 (.inl ((ih d j).2 x hx h))
  ·rw[List.mem_singleton.1 hx]at h;exact M5.2 (.inr h)
theorem zDd:∀(n:Nat)(t:Tm)(r:List Tm×Tm),xZ t=true->jK n t=some r->∀d j,(j∈tV r.2 (d+n)->j∈tV t d)/\∀(i:Nat)(h:i<r.1.length),j∈tV r.1[i] (d+i)->j∈tV t d
 |0,t,r,hg,h,d,j=>by rw[jK]at h;cases h;exact⟨λh=>by simpa using h,λi h=>by simp at h⟩|n+1,t,r,hg,h,d,j=>by
  by_cases h3:t.k=3
  ·obtain⟨a,b,hx,hga,hgb⟩:=iQ hg h3;rw[hx]at h⊢;rw[X2]at h;obtain⟨r',h1,rfl⟩:=Option.map_eq_some_iff.1 h;have ih:=zDd n b r' hgb h1 (d+1) j;refine⟨λh=>zPT.2 (.inr (ih.1 ?_)),λi h hj=>?_⟩;·rwa[show d+1+(n:Int)=d+((n+1:Nat):Int)by omega]
   ·cases i with|zero=>exact zPT.2 (.inl (by simpa using hj))|succ i=>refine zPT.2 (.inr (ih.2 i (by simpa using h) ?_));rw[show d+1+(i:Int)=d+((i+1:Nat):Int)by omega];simpa using hj
  ·rw[F6 h3]at h;cases h
theorem zPV{k:Int}{i:Nat}{b:Int}(h:k=3\/k=4\/k=5\/i=0):wS k i b=b+w6 k i:=by
 unfold wS w6;rcases h with h|h|h|h;·subst h;by_cases hi:i=1<;>simp[hi]
 ·subst h;by_cases hi:i=1<;>simp[hi]
 ·subst h;simp
 ·subst h;simp
mutual theorem zIi:∀(t:Tm)(b j:Int),xZ t=true->j∈tV t b->j<gN t b
 |.mk k n l,b,j,hg,h=>by
  rw[gN];by_cases hk:k=1;·subst hk;rw[if_pos rfl];have:=qG.1 h;omega
  ·rw[if_neg hk];have hh:=uD hg;have hs:=sY hh.1;refine zKn l k 0 b j hh.2 ?_ ((tW hk).1 h);have e1:k=3\/k=4\/k=5\/l.length<=1:=by
    by_cases h7:k=7
    ·obtain⟨x,hx,-⟩:=hs.2.2.2.2.2.2.1 h7;have hx':l=[x]:=hx;rw[hx'];simp
    ·by_cases h1:k=1\/k=2\/k=6\/k=8
     ·have hx:=hs.2.2.2.2.2.2.2.1 h1;have hx':l=[]:=hx;rw[hx'];simp
     ·have a1:1<=k:=hs.1;have a2:k<=8:=hs.2.1;omega
   omega theorem zKn:∀(l:List Tm)(k:Int)(i:Nat)(b j:Int),pP l=true->(k=3\/k=4\/k=5\/i+l.length<=1)->j∈lvL l k i b->j<K5 l k i b
 |[],k,i,b,j,hg,hl,h=>absurd h pS|t::l,k,i,b,j,hg,hl,h=>by
  rw[K5];have hc:=vI hg;rw[List.length_cons]at hl;rcases vE.1 h with h|h;·rw[zPV (by omega)]at h;have:=zIi t _ j hc.1 h;omega
  ·have:=zKn l k (i+1) b j hc.2 (by omega) h;omega end
theorem zBY{t:Tm}{n:Int}(h:tM t n=true)(d j:Int)(hd:0<=d):¬j∈tV t d:=by intro hj;have hs:=zM (qM h);have h0:j+d∈tV t 0:=((jN t 0 d j hd).1 (by rwa[Int.zero_add])).2;have h1:=zIi t 0 _ hs.2.2 h0;have h2:=j5 t d j hj;unfold tM rQ at h;simp only[Bool.and_eq_true,decide_eq_true_eq]at h;omega
theorem iT{t:Tm}{n:Int}(h:tM t n=true):xS (λk x=>(k=6\/k=7->x<n)/\k≠8) t:=by
 have h6:xS (λk x=>k=6\/k=7->x<n) t:=by refine(eE (by decide) (by decide) t).1 ?_;unfold tM rQ at h;simp only[Bool.and_eq_true,List.all_eq_true,decide_eq_true_eq]at h;exact h.1.2
 have h8:xS (λk x=>k=8\/k=8->False) t:=by refine(eE (Q:=λ_=>False) (by decide) (by decide) t).1 ?_;unfold tM at h;simp only[Bool.and_eq_true,List.isEmpty_iff]at h;rw[h.2];exactλx hx=>by cases hx
 exact M4 (λk n a b=>⟨a,λh=>b (.inl h)⟩) t h6 h8
def cL:Nat->yV->Int->Int->Int->yV->Option (yV×Int)|0,_,_,_,_,_=>none|e+1,b,c,d,a,f=>if decide (a<(b.length:Int))then zV b a>>=λx2=>zOY e x2 c d>>=λr4=>if r4.2 !=0 then some ([],r4.2)else yZ 40 f [r4.1]>>=λl7=>cL e b c d (xF (a+1)) l7 else some (f,0)
def zMB(e:Nat)(b:yV)(c d:Int):Option (yV×Int):=cL e b c d 0 []
theorem zTv:∀e:Nat,∀b c d a f,Lz (cL e b c d a f) 0 f237 (pt 4021 f237) (λj=>sp j 35 0 [(1,ai c),(2,ai d),(8,zP zA f (.st 0 3)),(13,zP zA b .no),(14,ai (b.length:Int)),(15,ai a)]) ⟨[],0,[0],1,[]⟩ (λr=>.tup [.sl (zC zA r.1) r.1.length .no,ai r.2]) (λ_=>[]) 0 [.blk 0,.seq (pt 63 f237)]:=wF (λ_ _ _ _ _=>lN) λe ih=>λb c d a f=>lw λ_=>rB 0 (rA 0 (wE (o:=.no)) λ_=>rC 3 [] zZl λr4=>rB 3 (lE 0)<|rS (oS 1 (xR wC [r4.1]))<|rW (λh8=>oP 0 (vZ h8 (by simp))) λ_=>lH 1 [] [] [1] [1,2,8,13,14,15] (ih _ _ _ _ _))<|lE 0
theorem zWD{e b c d}:Cz (zMB e b c d) 237 [] [zP zA b .no,ai c,ai d] (λr=>.tup [.sl (zC zA r.1) r.1.length .no,ai r.2]) (λ_=>[]) 0:=fw func237<|fH 1 [(none,8,3)] [] [0] [1,2,8,13,14,15] (zTv _ _ _ _ _ _)
def cM:Nat->yV->Int->Option yV|0,_,_=>none|a+1,c,b=>if decide (b>=0)then zFl a b>>=λr4=>yZ 40 c [r4]>>=λl6=>cM a l6 (xF (b-1))else some c
def zIh(a:Nat)(d:Int):Option yV:=if decide (d<0)then some []else if decide (d>1048576)then some []else cM a [] (xF (d-1))
theorem zTu:∀a:Nat,∀c b,Lz (cM a c b) 0 f238 (pt 16309 f238) (λj=>sp j 23 0 [(3,zP zA c (.st 0 3)),(4,ai b)]) ⟨[],0,[0],1,[]⟩ (λr=>.sl (zC zA r) r.length .no) (λ_=>[]) 0 [.blk 0,.seq (pt 255 f238)]:=wF (λ_ _=>lN) λa ih=>λc b=>lw λ_=>rB 0 (rC 0 [] zMr λr4=>rS (oS 0 (xR wC [r4]))<|rW (λh7=>oP 0 (vZ h7 (by simp))) λ_=>lH 1 [] [] [1] [3,4] (ih _ _))<|lE 0
theorem zWE{a d}:Cz (zIh a d) 238 [] [ai d] (λr=>.sl (zC zA r) r.length .no) (λ_=>[]) 0:=fw func238<|rB 0 (fE 0)<|rB 0 (fE 0)<|fH 1 [(none,3,3)] [] [0] [3,4] (zTu _ _ _)
def zMC(d:Nat)(b:xJ)(a c:Int):Option (Bool):=if decide (a>=0)then if decide (a<(b.length:Int))then zV b a>>=λx3=>some (x3.kind==c)else some false else some false
theorem zWF{d b a c}:Cz (zMC d b a c) 265 [] [zP xE b .no,ai a,ai c] (λr=>ab r) (λ_=>[]) 0:=fw func265<|rB 0 (rB 1 (rA 0 (wO (o:=.no)) λ_=>fE 2)<|fE 0)<|fE 0
def cO:Nat->yV->Int->Option (Bool)|0,_,_=>none|b+1,a,c=>if decide (c<(a.length:Int))then zV a c>>=λx2=>dV b x2>>=λr4=>if r4 then cO b a (xF (c+1))else some false else some true
def zMD(b:Nat)(a:yV):Option (Bool):=cO b a 0
theorem zTt:∀b:Nat,∀a c,Lz (cO b a c) 0 f266 (pt 949 f266) (λj=>sp j 15 0 [(5,zP zA a .no),(6,ai (a.length:Int)),(7,ai c)]) ⟨[],0,[],0,[]⟩ (λr=>ab r) (λ_=>[]) 0 [.blk 0,.seq (pt 15 f266)]:=wF (λ_ _=>lN) λb ih=>λa c=>lw λ_=>rB 0 (rA 0 (wE (o:=.no)) λ_=>rK 3 [] aA (λ_=>lH 2 [] [] [] [5,6,7] (ih _ _)) λ_=>lE 1)<|lE 0
theorem zWG{b a}:Cz (zMD b a) 266 [] [zP zA a .no] (λr=>ab r) (λ_=>[]) 0:=fw func266<|fH 1 [] [] [] [5,6,7] (zTt _ _ _)
def zTs(d:Nat)(a:Int)(b:yV)(c:Int):Option (yV×Int):=if a==0 then some (b,c)else some (b,a)
theorem yBJ{d a b c}:Cz (zTs d a b c) 285 [.cells [ai a]] [.mp 0 0,zP zA b .no,ai c] (λr=>.sl (zC zA r.1) r.1.length .no) (λr=>[.cells [ai r.2]]) 0:=fw func285<|rB 1 (fE 1)<|fE 0
def zPW(b:Nat)(a:Int)(c:yV)(d:Int):Option (yV×Int):=zMB b c d 0>>=λr1=>zTs b a r1.1 r1.2>>=λr3=>some (r3.1,r3.2)
theorem zZE{b a c d}:Cz (zPW b a c d) 274 [.cells [ai a]] [.mp 0 0,zP zA c .no,ai d] (λr=>.sl (zC zA r.1) r.1.length .no) (λr=>[.cells [ai r.2]]) 0:=fw func274<|rC 0 [] zWD λ_=>rC 2 [0] yBJ λ_=>fE 0
def zME(d:Nat)(a:Int)(b:Tm)(c:Int):Option (Tm×Int):=if a==0 then some (b,c)else some (b,a)
theorem zWH{d a b c}:Cz (zME d a b c) 277 [.cells [ai a]] [.mp 0 0,yY b,ai c] (λr=>yY r.1) (λr=>[.cells [ai r.2]]) 0:=fw func277<|rB 1 (fE 3)<|fE 2
def cP:Nat->Tm->(yV×Int)->Int->yV->Option (Tm×Int)|0,_,_,_,_=>none|c+1,b,r6,d,f=>if decide (d>=0)then zV r6.1 d>>=λx9=>yZ 40 f [x9]>>=λl11=>cP c b r6 (xF (d-1)) l11 else A2 c b f>>=λr13=>zME c r6.2 r13.1 r13.2>>=λr15=>some (r15.1,r15.2)
def cQ:Nat->Int->Tm->Int->yV->Int->yV->Option (Tm×Int)|0,_,_,_,_,_,_=>none|c+1,a,b,g,m,e,f=>if decide (e<g)then zFl c e>>=λr2=>yZ 40 f [r2]>>=λl4=>cQ c a b g m (xF (e+1)) l4 else zPW c a m g>>=λr6=>cP c b r6 (xF ((r6.1.length:Int)-1)) f
def zPX(c:Nat)(a:Int)(b:Tm)(g:Int)(m:yV):Option (Tm×Int):=cQ c a b g m 0 []
theorem zTr:∀c:Nat,∀b r6 d f,Lz (cP c b r6 d f) 1 f275 (pt 65461 f275) (λj=>sp j 48 0 [(0,.mp 0 0),(5,.mp 1 0),(8,.mp 2 0),(9,zP zA f (.st 0 3)),(11,zP zA r6.1 .no),(12,ai d)]) ⟨[(0,.cells [ai r6.2]),(1,.cells [ai b.k,ai b.n,zP zA b.sub .no]),(2,.cells [ai 0,ai 0,zP zA ([]:yV) .nl])],3,[0],1,[]⟩ (λr=>yY r.1) (λr=>[.cells [ai r.2]]) 0 [.blk 2,.seq (pt 1023 f275)]:=wF (λ_ _ _ _=>lN) λc ih=>λb r6 d f=>lw λ_=>rB 0 (rA 0 (wE (o:=.no)) λx9=>rS (oS 1 (xR wC [x9]))<|rW (λh12=>oP 0 (vZ h12 (by simp))) λ_=>lH 1 [] [0,1,2] [1] [0,5,8,9,11,12] (ih _ _ _ _))<|rC 1 [] U6 λ_=>rC 2 [0] zWH λ_=>lE 1
theorem zTq:∀c:Nat,∀a b g m e f,Lz (cQ c a b g m e f) 1 f275 (pt 4021 f275) (λj=>sp j 48 0 [(0,.mp 0 0),(2,ai g),(3,zP zA m .no),(5,.mp 1 0),(8,.mp 2 0),(9,zP zA f (.st 0 3)),(13,ai g),(14,ai e)]) ⟨[(0,.cells [ai a]),(1,.cells [ai b.k,ai b.n,zP zA b.sub .no]),(2,.cells [ai 0,ai 0,zP zA ([]:yV) .nl])],3,[0],1,[]⟩ (λr=>yY r.1) (λr=>[.cells [ai r.2]]) 0 [.blk 0,.seq (pt 63 f275)]:=wF (λ_ _ _ _ _ _=>lN) λc ih=>λa b g m e f=>lw λ_=>rB 0 (rC 0 [] zMr λr2=>rS (oS 0 (xR wC [r2]))<|rW (λh5=>oP 0 (vZ h5 (by simp))) λ_=>lH 1 [] [0,1,2] [1] [0,2,3,5,8,9,13,14] (ih _ _ _ _ _ _))<|rC 0 [0] zZE λ_=>lH 2 [] [0,1,2] [0] [0,5,8,9,11,12] (zTr _ _ _ _ _)
theorem zZF{c a b g m}:Cz (zPX c a b g m) 275 [.cells [ai a]] [.mp 0 0,yY b,ai g,zP zA m .no] (λr=>yY r.1) (λr=>[.cells [ai r.2]]) 0:=fw func275<|fH 0 [(none,9,3)] [0,1,2] [0] [0,2,3,5,8,9,13,14] (zTq _ _ _ _ _ _ _)
def zTp(b:Nat)(a:Int)(c:Tm)(d:Int):Option (Tm×Int):=zIv b c d>>=λr1=>zME b a r1.1 r1.2>>=λr3=>some (r3.1,r3.2)
theorem yBK{b a c d}:Cz (zTp b a c d) 276 [.cells [ai a]] [.mp 0 0,yY c,ai d] (λr=>yY r.1) (λr=>[.cells [ai r.2]]) 0:=fw func276<|rC 1 [] zSe λ_=>rC 2 [0] zWH λ_=>fE 1
def zZG(c:Nat)(a b:Tm):Option (Tm):=zFn c 4 0 [a,b]>>=λr1=>some r1
theorem yBL{c a b}:Cz (zZG c a b) 287 [] [yY a,yY b] (λr=>yY r) (λ_=>[]) 0:=fw func287<|rS (oS 2 (xR wC [a,b]))<|rC 0 [] zIx λ_=>fE 1
def pC:Nat->yV->Int->Int->Int->yV->Option (Tm×Int)|0,_,_,_,_,_=>none|e+1,d,g,a,b,c=>if decide (g<(d.length:Int))then zV d (xF ((xF ((d.length:Int)-1))-g))>>=λx12=>zZG e x12 (Tm.mk a b c)>>=λr14=>pC e d (xF (g+1)) r14.k r14.n r14.sub else dV e (Tm.mk a b c)>>=λr16=>if r16 then e64 e (Tm.mk a b c)>>=λr19=>some (r19,0)else some ((Tm.mk 0 0 []),2)
def pD:Nat->yV->Tm->Int->Option (Tm×Int)|0,_,_,_=>none|e+1,d,f,m=>if decide (m<(d.length:Int))then zV d m>>=λx3=>dV e x3>>=λr5=>if r5 then pD e d f (xF (m+1))else some ((Tm.mk 0 0 []),5)else dV e f>>=λr8=>if r8 then pC e d 0 f.k f.n f.sub else some ((Tm.mk 0 0 []),5)
def j6(e:Nat)(d:yV)(f:Tm):Option (Tm×Int):=if decide ((d.length:Int)>24)then some ((Tm.mk 0 0 []),2)else pD e d f 0
theorem zFG:∀e:Nat,∀d g a b c,Lz (pC e d g a b c) 0 f286 (pt 65461 f286) (λj=>sp j 53 0 [(0,zP zA d .no),(2,.clo 287 [] []),(4,.mp 0 0),(6,.mp 1 0),(31,ai (d.length:Int)),(32,ai g)]) ⟨[(0,.cells [ai a,ai b,zP zA c .no]),(1,.cells [ai 0,ai 0,zP zA ([]:yV) .nl])],2,[],0,[]⟩ (λr=>.tup [yY r.1,ai r.2]) (λ_=>[]) 0 [.blk 2,.seq (pt 1023 f286)]:=wF (λ_ _ _ _ _=>lN) λe ih=>λd g a b c=>lw λ_=>rB 0 (rA 3 (wE (o:=.no)) λ_=>rC 2 [] yBL λ_=>lH 2 [] [0,1] [] [0,2,4,6,31,32] (ih _ _ _ _ _))<|rK 1 [] aA (λ_=>rC 2 [] c64 λ_=>lE 1) λ_=>lE 2
theorem zFH:∀e:Nat,∀d f m,Lz (pD e d f m) 0 f286 (pt 4021 f286) (λj=>sp j 53 0 [(0,zP zA d .no),(2,.clo 287 [] []),(4,.mp 0 0),(6,.mp 1 0),(15,zP zA d .no),(16,ai (d.length:Int)),(17,ai m)]) ⟨[(0,.cells [ai f.k,ai f.n,zP zA f.sub .no]),(1,.cells [ai 0,ai 0,zP zA ([]:yV) .nl])],2,[],0,[]⟩ (λr=>.tup [yY r.1,ai r.2]) (λ_=>[]) 0 [.blk 0,.seq (pt 63 f286)]:=wF (λ_ _ _=>lN) λe ih=>λd f m=>lw λ_=>rB 0 (rA 0 (wE (o:=.no)) λ_=>rK 3 [] aA (λ_=>lH 2 [] [0,1] [] [0,2,4,6,15,16,17] (ih _ _ _)) λ_=>lE 2)<|rK 1 [] aA (λ_=>lH 2 [] [0,1] [] [0,2,4,6,31,32] (zFG _ _ _ _ _ _)) λ_=>lE 2
theorem zPY{e d f}:Cz (j6 e d f) 286 [] [zP zA d .no,yY f,.clo 287 [] []] (λr=>.tup [yY r.1,ai r.2]) (λ_=>[]) 0:=fw func286<|rB 1 (fE 1)<|fH 1 [] [0,1] [] [0,2,4,6,15,16,17] (zFH _ _ _ _)
def zTo(c:Nat)(a:yV)(b:Tm):Option (Tm×Int):=j6 c a b>>=λr1=>some (r1.1,r1.2)
theorem yBM{c a b}:Cz (zTo c a b) 278 [] [zP zA a .no,yY b] (λr=>.tup [yY r.1,ai r.2]) (λ_=>[]) 0:=fw func278<|rC 1 [] zPY λ_=>fE 3
def cR:Nat->yV->yV->Int->yV->Int->Option (yV×Int)|0,_,_,_,_,_=>none|f+1,d,e,b,g,a=>if decide (b<(d.length:Int))then zV d b>>=λx2=>zPX f a x2 b e>>=λr4=>yZ 40 g [r4.1]>>=λl6=>cR f d e (xF (b+1)) l6 r4.2 else some (g,a)
def zTn(f:Nat)(c:Int)(d e:yV):Option (yV×Int):=cR f d e 0 [] c
theorem zTm:∀f:Nat,∀d e b g a,Lz (cR f d e b g a) 1 f279 (pt 4021 f279) (λj=>sp j 27 0 [(0,.mp 0 0),(2,zP zA e .no),(7,zP zA g (.st 0 3)),(10,zP zA d .no),(11,ai (d.length:Int)),(12,ai b)]) ⟨[(0,.cells [ai a])],1,[0],1,[]⟩ (λr=>.sl (zC zA r.1) r.1.length .no) (λr=>[.cells [ai r.2]]) 0 [.blk 0,.seq (pt 63 f279)]:=wF (λ_ _ _ _ _=>lN) λf ih=>λd e b g a=>lw λ_=>rB 0 (rA 0 (wE (o:=.no)) λ_=>rC 3 [0] zZF λr4=>rS (oS 0 (xR wC [r4.1]))<|rW (λh7=>oP 0 (vZ h7 (by simp))) λ_=>lH 1 [] [0] [1] [0,2,7,10,11,12] (ih _ _ _ _ _))<|lE 0
theorem yBN{f c d e}:Cz (zTn f c d e) 279 [.cells [ai c]] [.mp 0 0,zP zA d .no,zP zA e .no] (λr=>.sl (zC zA r.1) r.1.length .no) (λr=>[.cells [ai r.2]]) 0:=fw func279<|fH 1 [(none,7,3)] [0] [0] [0,2,7,10,11,12] (zTm _ _ _ _ _ _)
def cS:Nat->yV->rX->Tm->Int->Int->Int->Int->yV->Option (Tm×Int)|0,_,_,_,_,_,_,_,_=>none|f+1,q,e,p,g,a,b,c,d=>if decide (g<(e.at'.length:Int))then zV e.at' g>>=λx6=>zPX f a x6 (e.around.length:Int) q>>=λr8=>zBw f (Tm.mk b c d) r8.1>>=λr10=>cS f q e p (xF (g+1)) r8.2 r10.k r10.n r10.sub else zTp f a p (e.around.length:Int)>>=λr12=>zIh f (e.around.length:Int)>>=λr14=>bL f r12.1 r14>>=λr16=>zBw f (Tm.mk b c d) r16>>=λr18=>zTn f r12.2 e.around q>>=λr20=>zTo f r20.1 r18>>=λr22=>zME f r20.2 r22.1 r22.2>>=λr24=>some (r24.1,r24.2)
def zTl(f:Nat)(m:Int)(s:Tm)(t q:yV)(e:rX)(p:Tm):Option (Tm×Int):=zPW f m t (e.around.length:Int)>>=λr1=>bL f s r1.1>>=λr3=>cS f q e p 0 r1.2 r3.k r3.n r3.sub
theorem zTk:∀f:Nat,∀q e p g a b c d,Lz (cS f q e p g a b c d) 1 f267 (pt 16309 f267) (λj=>sp j 61 0 [(0,.mp 0 0),(3,zP zA q .no),(10,.mp 1 0),(11,.mp 2 0),(12,.mp 3 0),(13,ai (e.around.length:Int)),(14,.mp 4 0),(27,zP zA e.at' .no),(28,ai (e.at'.length:Int)),(29,ai g)]) ⟨[(0,.cells [ai a]),(1,.cells [ab e.is,zP zA e.around .no,zP zA e.at' .no]),(2,.cells [ai p.k,ai p.n,zP zA p.sub .no]),(3,.cells [ai 0,ai 0,zP zA ([]:yV) .nl]),(4,.cells [ai b,ai c,zP zA d .no])],5,[],0,[]⟩ (λr=>yY r.1) (λr=>[.cells [ai r.2]]) 0 [.blk 0,.seq (pt 255 f267)]:=wF (λ_ _ _ _ _ _ _ _=>lN) λf ih=>λq e p g a b c d=>lw λ_=>rB 0 (rA 0 (wE (o:=.no)) λ_=>rC 4 [0] zZF λ_=>rC 0 [] zBv λ_=>lH 2 [] [0,1,2,3,4] [] [0,3,10,11,12,13,14,27,28,29] (ih _ _ _ _ _ _ _ _))<|rC 2 [0] yBK λ_=>rC 0 [] zWE λ_=>rC 0 [] U5 λ_=>rC 0 [] zBv λ_=>rC 2 [0] yBN λ_=>rC 1 [] yBM λ_=>rC 2 [0] zWH λ_=>lE 1
theorem zTj{f m s t q e p}:Cz (zTl f m s t q e p) 267 [.cells [ai m]] [.mp 0 0,yY s,zP zA t .no,zP zA q .no,zYH e,yY p] (λr=>yY r.1) (λr=>[.cells [ai r.2]]) 0:=fw func267<|rC 3 [0] zZE λ_=>rC 0 [] U5 λ_=>fH 3 [] [0,2,3,4,5] [] [0,3,10,11,12,13,14,27,28,29] (zTk _ _ _ _ _ _ _ _ _)
def zTi(c:Nat)(a:Int)(b:Tm):Option (Tm×Int×Int):=if a==0 then dV c b>>=λr2=>if r2 then if a !=0 then some ((Tm.mk 0 0 []),a,a)else some (b,0,a)else some ((Tm.mk 0 0 []),2,2)else if a !=0 then some ((Tm.mk 0 0 []),a,a)else some (b,0,a)
theorem yBO{c a b}:Cz (zTi c a b) 269 [.cells [ai a]] [.mp 0 0,yY b] (λr=>.tup [yY r.1,ai r.2.1]) (λr=>[.cells [ai r.2.2]]) 0:=fw func269<|rB 1 (rK 1 [] aA (λ_=>rB 2 (fE 2)<|fE 2) λ_=>fE 6)<|rB 1 (fE 2)<|fE 2
def uS(l:List Tm):Prop:=∀x∈l,x.Ok
theorem uS.nil:uS []:=λ_ h=>nomatch h
theorem uS.app{l m:List Tm}(h:uS l)(k:uS m):uS (l++m):=λx hx=>(List.mem_append.1 hx).elim (h x) (k x)
theorem uS.one{t:Tm}(h:t.Ok):uS [t]:=λx hx=>by rw[List.mem_singleton.1 hx];exact h
theorem uS.drop{l:List Tm}(h:uS l)(n:Nat):uS (l.drop n):=λx hx=>h x (List.mem_of_mem_drop hx)
theorem uS.take{l:List Tm}(h:uS l)(n:Nat):uS (l.take n):=λx hx=>h x (List.mem_of_mem_take hx)
theorem uS.at{l r:List Tm}{v:Nat}{x:Tm}(h:uS l)(hd:l.drop v=x::r):x.Ok:=h x (by
 have:x∈l.drop v:=by rw[hd];simp
 exact List.mem_of_mem_drop this)
theorem zWI{k n:Int}{a:Tm}(h:a.Ok):(Tm.mk k n [a]).Ok:=by rw[Tm.Ok,kQ,kQ];exact⟨by simp,h,trivial⟩
theorem eF{k n:Int}{a b:Tm}(h:a.Ok)(i:b.Ok):(Tm.mk k n [a,b]).Ok:=by rw[Tm.Ok,kQ,kQ,kQ];exact⟨by simp,h,i,trivial⟩
theorem X5{α:Type}{l:List α}{a b:Int}(h0:0<=a)(h1:a<=b)(h2:b<=l.length):kE l a b=some ((l.drop a.toNat).take (b-a).toNat):=by unfold kE;rw[if_pos ⟨h0,h1,h2⟩]
def MT(e:Int)(v:Tm)(x:Tm×Int):Prop:=x.1.Ok/\(e≠8->x.2≠8)/\(x.2=0->e=0/\x.1=v)
def ML(e:Int)(v:List Tm)(x:List Tm×Int):Prop:=uS x.1/\(e≠8->x.2≠8)/\(x.2=0->e=0/\x.1=v)
def upI(k:Int)(l:List Tm):List Tm:=l.map λt=>A1 t 0 0 k
theorem zBZ(p1 p2:Int):∀(r l acc:List Tm)(v:Nat),l.drop v=r->l.length<=1073741824->uS l->uS acc->acc.length+r.length<=l.length->zG (λq=>cL q l p1 p2 (v:Int) acc) (λx=>ML 0 (acc++r.map λt=>A1 t 0 p2 p1) x/\x.1.length<=l.length)
 |[],l,acc,v,hd,hl,ho,ha,hv=>by refine zG.succ ?_;simp only[cL];refine zG.ite (λh=>?_) λ_=>zG.ret ⟨⟨ha,by simp,by simp⟩,by simpa using hv⟩;rw[yB hd]at h;cases h|t::r,l,acc,v,hd,hl,ho,ha,hv=>by
  have hlt:=yF hd;refine zG.succ ?_;simp only[cL];refine zG.ite (λ_=>?_) λh=>?_
  ·refine zG.pure (zZ hd) (zG.bind (P:=λr=>r=uP t p1 p2) ((zKz t p1 p2 (ho.at hd)).tot rfl) λr4 h4=>?_);subst h4;refine zG.ite (λh=>?_) λh=>?_
   ·have hne:(uP t p1 p2).2≠0:=by simpa using h
    exact zG.ret ⟨⟨uS.nil,λ_=>m9 t p1 p2,λh0=>absurd h0 hne⟩,by simp⟩
   ·have he:(uP t p1 p2).2=0:=by simpa using h
    rw[List.length_cons]at hv;refine zG.pure (yG (by simp<;>omega)) ?_;rw[zW v (by omega)];refine(zBZ p1 p2 r l _ (v+1) (zS hd) hl ho (ha.app (uS.one (jI t p1 p2 (ho.at hd)))) (by simp<;>omega)).mono λx hx=>?_;rw[(eC he).2.2.2.2]at hx;simpa using hx
  ·rw[yA hd]at h;cases h
theorem j7(l:List Tm)(p1 p2:Int)(hl:l.length<=1073741824)(ho:uS l):zG (λq=>zMB q l p1 p2) (λx=>ML 0 (l.map λt=>A1 t 0 p2 p1) x/\x.1.length<=l.length):=by simp only[zMB];exact zBZ p1 p2 l l [] 0 rfl hl ho uS.nil (by simp)
theorem zDc(e:Int)(t:Tm)(p:Int):zG (λq=>zME q e t p) (λx=>x.1=t/\x.2=if e=0 then p else e):=by
 simp only[zME];refine zG.ite (λh=>zG.ret ⟨rfl,?_⟩) λh=>zG.ret ⟨rfl,?_⟩;·rw[if_pos (by simpa using h)]
 ·rw[if_neg (by simpa using h)]
theorem zTg(e:Int)(t:List Tm)(p:Int):zG (λq=>zTs q e t p) (λx=>x.1=t/\x.2=if e=0 then p else e):=by
 simp only[zTs];refine zG.ite (λh=>zG.ret ⟨rfl,?_⟩) λh=>zG.ret ⟨rfl,?_⟩;·rw[if_pos (by simpa using h)]
 ·rw[if_neg (by simpa using h)]
theorem zIg{e:Int}{v:Tm}{r x:Tm×Int}(hr:MT 0 v r)(hx:x.1=r.1/\x.2=if e=0 then r.2 else e):MT e v x:=by
 obtain⟨h1,h2⟩:=hx;refine⟨by rw[h1];exact hr.1,?_,?_⟩
 ·intro he;rw[h2];split;·exact hr.2.1 (by decide)
  ·exact he
 ·intro he;rw[h2]at he;by_cases h:e=0
  ·rw[if_pos h]at he;exact⟨h,by rw[h1];exact(hr.2.2 he).2⟩
  ·rw[if_neg h]at he;exact absurd he h
theorem zWJ{e:Int}{v:List Tm}{r x:List Tm×Int}(hr:ML 0 v r)(hx:x.1=r.1/\x.2=if e=0 then r.2 else e):ML e v x:=by
 obtain⟨h1,h2⟩:=hx;refine⟨by rw[h1];exact hr.1,?_,?_⟩
 ·intro he;rw[h2];split;·exact hr.2.1 (by decide)
  ·exact he
 ·intro he;rw[h2]at he;by_cases h:e=0
  ·rw[if_pos h]at he;exact⟨h,by rw[h1];exact(hr.2.2 he).2⟩
  ·rw[if_neg h]at he;exact absurd he h
theorem zKm(e:Int)(l:List Tm)(p:Int)(hl:l.length<=1073741824)(ho:uS l):zG (λq=>zPW q e l p) (λx=>ML e (upI p l) x/\x.1.length<=l.length):=by simp only[zPW];exact(j7 l p 0 hl ho).bind λr h=>(zTg e r.1 r.2).bind λr3 h3=>zG.ret ⟨zWJ h.1 h3,by rw[h3.1];exact h.2⟩
theorem zTf(t:Tm)(k c:Int)(h:t.Ok):MT 0 (A1 t 0 c k) (uP t k c):=⟨jI t k c h,λ_=>m9 t k c,λh=>⟨rfl,(eC h).2.2.2.2⟩⟩
theorem zWK(t:Tm)(ls:List Tm)(h:t.Ok)(ho:uS ls):MT 0 (siT ls t 0) (fZ t ls):=⟨X1 t ls h ho,λ_=>zKp t ls,λh=>⟨rfl,(zDg h).2.2.2⟩⟩
theorem zWL(e:Int)(t:Tm)(p:Int)(h:t.Ok):zG (λq=>zTp q e t p) (MT e (A1 t 0 0 p)):=by simp only[zTp];exact zG.bind (P:=λr=>r=uP t p 0) ((zKy t p h).tot rfl) λr hr=>(zDc e r.1 r.2).bind λr3 h3=>zG.ret (by subst hr;exact zIg (zTf t p 0 h) h3)
def jO:Nat->List Tm|0=>[]|m+1=>.mk 1 (m:Int) []::jO m
def vuT:Nat->Nat->List Tm|0,_=>[]|m+1,v=>.mk 1 (v:Int) []::vuT m (v+1)
theorem zKl:∀m,uS (jO m)
 |0=>uS.nil|m+1=>λx hx=>by
  rcases List.mem_cons.1 hx with rfl|hx;·exact wH _ _
  ·exact zKl m x hx
theorem zFI:∀m,(jO m).length=m|0=>rfl|m+1=>congrArg (·+1) (zFI m)
theorem H2:∀m v,(vuT m v).length=m|0,_=>rfl|m+1,v=>congrArg (·+1) (H2 m (v+1))
theorem zFJ:∀(m:Nat)(acc:List Tm),m+acc.length<=1048576->zH (λq=>cM q acc ((m:Int)-1)) (acc++jO m)|0,acc,hm=>by refine zH.succ ?_;simp only[cM];exact zH.ifF (decide_eq_false (by omega)) (zH.ret.eq (by simp[jO]))|m+1,acc,hm=>by refine zH.succ ?_;simp only[cM];refine zH.ifT (decide_eq_true (by omega)) ((L6 _).bind (zH.pure (yG (by simp<;>omega)) ?_));rw[yQ (by omega) (by omega),show((m+1:Nat):Int)-1-1=(m:Int)-1 by omega];refine(zFJ m _ (by simp<;>omega)).eq ?_;rw[jO,show((m+1:Nat):Int)-1=(m:Int)by omega];simp
theorem zKk(n:Nat)(hn:n<=1048576):zH (λq=>zIh q (n:Int)) (jO n):=by simp only[zIh];refine zH.ifF (decide_eq_false (by omega)) (zH.ifF (decide_eq_false (by omega)) ?_);rw[yQ (by omega) (by omega)];exact(zFJ n [] (by simpa using hn)).eq (by simp)
def zFK(t:Tm)(own:Nat)(outer:List Tm):Tm:=siT (vuT own 0++(upI own outer).reverse) t 0
def jP(outer:List Tm):List Tm->Nat->List Tm|[],_=>[]|t::r,v=>zFK t v outer::jP outer r (v+1)
theorem zFL(p1:Tm)(r6:List Tm×Int)(h1:p1.Ok)(h6:uS r6.1):∀(m:Nat)(acc:List Tm),m<=r6.1.length->m+acc.length<=4294967296->uS acc->zG (λq=>cP q p1 r6 ((m:Int)-1) acc) (MT r6.2 (siT (acc++(r6.1.take m).reverse) p1 0))
 |0,acc,hm,hl,ho=>by
  refine zG.succ ?_;simp only[cP];refine zG.ite (λh=>?_) λ_=>?_;·have:=of_decide_eq_true h;omega
  ·refine zG.bind (P:=λr=>r=fZ p1 acc) ((X0 p1 acc h1 ho (by omega)).tot rfl) λr h=>(zDc _ r.1 r.2).bind λx hx=>zG.ret ?_;subst h;have:=zIg (zWK p1 acc h1 ho) hx;simpa using this|m+1,acc,hm,hl,ho=>by
  refine zG.succ ?_;simp only[cP];refine zG.ite (λ_=>?_) λh=>?_
  ·have hlt:m<r6.1.length:=by omega
   have hx:zV r6.1 (((m+1:Nat):Int)-1)=some r6.1[m]:=by unfold zV;rw[if_pos (by omega),show(((m+1:Nat):Int)-1).toNat=m by omega,List.getElem?_eq_getElem hlt]
   refine zG.pure hx (zG.pure (yG (by simp<;>omega)) ?_);rw[yQ (by omega) (by omega),show((m+1:Nat):Int)-1-1=(m:Int)-1 by omega];refine(zFL p1 r6 h1 h6 m _ (by omega) (by simp<;>omega) (ho.app (uS.one (h6 _ (List.getElem_mem hlt))))).mono λx hx=>?_;have e:r6.1.take (m+1)=r6.1.take m++[r6.1[m]]:=by rw[List.take_add_one,List.getElem?_eq_getElem hlt];rfl
   rw[e,List.reverse_append];simpa using hx
  ·have:=of_decide_eq_false h;omega
theorem zPZ(e:Int)(p1:Tm)(own:Nat)(p3:List Tm)(h1:p1.Ok)(h2:own<=1073741824)(h3:uS p3)(hl:p3.length<=1073741824):∀(m v:Nat)(acc:List Tm),v+m=own->acc.length<=v->uS acc->zG (λq=>cQ q e p1 (own:Int) p3 (v:Int) acc) (MT e (siT (acc++vuT m v++(upI own p3).reverse) p1 0)):=by intro m;induction m with
 |zero=>
  intro v acc hm ha ho;refine zG.succ ?_;simp only[cQ];refine zG.ite (λh=>?_) λ_=>(zKm e p3 own hl h3).bind λr6 h6=>?_;·have:=of_decide_eq_true h;omega
  ·rw[yQ (by omega) (by omega)];refine(zFL p1 r6 h1 h6.1.1 r6.1.length acc (Nat.le_refl _) (by omega) ho).mono λx hx=>⟨hx.1,λhe=>hx.2.1 (h6.1.2.1 he),λhe=>?_⟩;have k:=hx.2.2 he;have k6:=h6.1.2.2 k.1;refine⟨k6.1,?_⟩;rw[k.2,List.take_length,k6.2,vuT];simp|succ m ih=>
  intro v acc hm ha ho;refine zG.succ ?_;simp only[cQ];refine zG.ite (λ_=>?_) λh=>?_
  ·refine zG.bind (P:=λr=>r=Tm.mk 1 (v:Int) []) ((L6 v).tot rfl) λr h=>zG.pure (yG (by simp<;>omega)) ?_;subst h;rw[zW v (by omega)];refine(ih (v+1) _ (by omega) (by simp<;>omega) (ho.app (uS.one (wH _ _)))).mono λx hx=>?_;rw[vuT];simpa using hx
  ·have:=of_decide_eq_false h;omega
theorem T3(e:Int)(p1:Tm)(own:Nat)(p3:List Tm)(h1:p1.Ok)(h2:own<=1073741824)(h3:uS p3)(hl:p3.length<=1073741824):zG (λq=>zPX q e p1 (own:Int) p3) (MT e (zFK p1 own p3)):=by simp only[zPX];exact zPZ e p1 own p3 h1 h2 h3 hl own 0 [] (by omega) (by simp) uS.nil
theorem aF(p2:List Tm)(h2:uS p2)(hl2:p2.length<=1073741824):∀(r l acc:List Tm)(v:Nat)(e:Int),l.drop v=r->l.length<=1073741824->uS l->uS acc->acc.length<=v->zG (λq=>cR q l p2 (v:Int) acc e) (λx=>uS x.1/\x.1.length=acc.length+r.length/\(e≠8->x.2≠8)/\(x.2=0->e=0/\x.1=acc++jP p2 r v))
 |[],l,acc,v,e,hd,hl,ho,ha,hv=>by refine zG.succ ?_;simp only[cR];refine zG.ite (λh=>?_) λ_=>zG.ret ⟨ha,by simp,id,λh=>⟨h,by simp[jP]⟩⟩;rw[yB hd]at h;cases h|t::r,l,acc,v,e,hd,hl,ho,ha,hv=>by
  have hlt:=yF hd;refine zG.succ ?_;simp only[cR];refine zG.ite (λ_=>?_) λh=>?_
  ·refine zG.pure (zZ hd) ((T3 e t v p2 (ho.at hd) (by omega) h2 hl2).bind λr4 h4=>?_);refine zG.pure (yG (by simp<;>omega)) ?_;rw[zW v (by omega)];refine(aF p2 h2 hl2 r l _ (v+1) r4.2 (zS hd) hl ho (ha.app (uS.one h4.1)) (by simp<;>omega)).mono λx hx=>?_;obtain⟨a1,a2,a3,a4⟩:=hx;refine⟨a1,by rw[a2];simp<;>omega,λhe=>a3 (h4.2.1 he),λhe=>?_⟩;have k:=a4 he;have k4:=h4.2.2 k.1;refine⟨k4.1,?_⟩;rw[k.2,k4.2,jP];simp
  ·rw[yA hd]at h;cases h
theorem zDb(e:Int)(l p2:List Tm)(h2:uS p2)(hl2:p2.length<=1073741824)(hl:l.length<=1073741824)(ho:uS l):zG (λq=>zTn q e l p2) (λx=>ML e (jP p2 l 0) x/\x.1.length=l.length):=by simp only[zTn];refine(aF p2 h2 hl2 l l [] 0 e rfl hl ho uS.nil (by simp)).mono λx hx=>?_;obtain⟨a1,a2,a3,a4⟩:=hx;exact⟨⟨a1,a3,λhe=>by simpa using a4 he⟩,by simpa using a2⟩
def j8(l:List Tm)(t:Tm):Tm:=l.foldr (λa x=>.mk 4 0 [a,x]) t
theorem zQz(l:List Tm)(hl:l.length<=24)(ho:uS l):∀(m v:Nat)(t:Tm),v+m=l.length->t.Ok->zG (λq=>pC q l (v:Int) t.k t.n t.sub) (MT 0 (j8 (l.take m) t)):=by intro m;induction m with
 |zero=>
  intro v t hm ht;refine zG.succ ?_;simp only[pC,rD];refine zG.ite (λh=>?_) λ_=>?_;·have:=of_decide_eq_true h;omega
  ·refine zG.bind (P:=λb=>b=zF t) ((xI t ht).tot rfl) λr hr=>zG.ite (λh=>?_) λ_=>zG.ret ⟨wH 0 0,by simp,by simp⟩;refine zG.bind (P:=λx=>x=nO t) ((tU t ht).tot rfl) λx hx=>zG.ret ?_;subst hx;have e:nO t=t:=by unfold nO;rw[if_pos (by rw[<-hr];exact h)]
   rw[e];exact⟨ht,by simp,λ_=>⟨rfl,by simp[j8]⟩⟩|succ m ih=>
  intro v t hm ht;refine zG.succ ?_;simp only[pC,rD];refine zG.ite (λ_=>?_) λh=>?_
  ·have hlt:m<l.length:=by omega
   rw[yQ (x:=(l.length:Int)-1) (by omega) (by omega),yQ (x:=(l.length:Int)-1-v) (by omega) (by omega)];have hx:zV l ((l.length:Int)-1-v)=some l[m]:=by unfold zV;rw[if_pos (by omega),show((l.length:Int)-1-v).toNat=m by omega,List.getElem?_eq_getElem hlt]
   refine zG.pure hx (zG.bind (P:=λr=>r=Tm.mk 4 0 [l[m],t]) (zH.tot (zH.mk λ_=>rfl) rfl) λr hr=>?_);subst hr;rw[zW v (by omega)];refine(ih (v+1) _ (by omega) (eF (ho _ (List.getElem_mem hlt)) ht)).mono λx hx=>?_;have e:l.take (m+1)=l.take m++[l[m]]:=by rw[List.take_add_one,List.getElem?_eq_getElem hlt];rfl
   rw[e];unfold j8 at hx⊢;rw[List.foldr_append];exact hx
  ·have:=of_decide_eq_false h;omega
theorem zKj(t:Tm)(ht:t.Ok):∀(r l:List Tm)(v:Nat),l.drop v=r->l.length<=24->uS l->zG (λq=>pD q l t (v:Int)) (MT 0 (j8 l t))
 |[],l,v,hd,hl,ho=>by
  refine zG.succ ?_;simp only[pD];refine zG.ite (λh=>?_) λ_=>?_;·rw[yB hd]at h;cases h
  ·refine zG.bind (P:=λ_=>True) ((xI t ht).tot trivial) λr _=>zG.ite (λ_=>?_) λ_=>zG.ret ⟨wH 0 0,by simp,by simp⟩;have:=zQz l hl ho l.length 0 t (by omega) ht;rwa[List.take_length]at this|x::r,l,v,hd,hl,ho=>by
  have hlt:=yF hd;refine zG.succ ?_;simp only[pD];refine zG.ite (λ_=>?_) λh=>?_
  ·refine zG.pure (zZ hd) (zG.bind (P:=λ_=>True) ((xI x (ho.at hd)).tot trivial) λ_ _=>zG.ite (λ_=>?_) λ_=>zG.ret ⟨wH 0 0,by simp,by simp⟩);rw[zW v (by omega)];exact zKj t ht r l (v+1) (zS hd) hl ho
  ·rw[yA hd]at h;cases h
theorem zQy(l:List Tm)(t:Tm)(ho:uS l)(ht:t.Ok):zG (λq=>zTo q l t) (MT 0 (j8 l t)):=by simp only[zTo];refine zG.bind (P:=MT 0 (j8 l t)) ?_ λx hx=>zG.ret hx;simp only[j6];refine zG.ite (λ_=>zG.ret ⟨wH 0 0,by simp,by simp⟩) λh=>?_;have:=of_decide_eq_false h;exact zKj t ht l l 0 rfl (by omega) ho
def zFM(r:rX):Prop:=uS r.around/\uS r.at'/\r.around.length<=1048576/\r.at'.length<=1048576
def zTe(head:Tm)(args outer:List Tm)(r:rX)(a:Tm):Tm:=j8 (jP outer r.around 0) (.mk 5 0 [nP (nP head (upI r.around.length args)) (r.at'.map λt=>zFK t r.around.length outer),nP (A1 a 0 0 r.around.length) (jO r.around.length)])
theorem zFN(p3:List Tm)(p4:rX)(p5:Tm)(h3:uS p3)(hl3:p3.length<=1073741824)(h4:zFM p4)(h5:p5.Ok):∀(r:List Tm)(v:Nat)(e:Int)(t:Tm),p4.at'.drop v=r->t.Ok->zG (λq=>cS q p3 p4 p5 (v:Int) e t.k t.n t.sub) (MT e (j8 (jP p3 p4.around 0) (.mk 5 0 [nP t (r.map λt=>zFK t p4.around.length p3),nP (A1 p5 0 0 p4.around.length) (jO p4.around.length)])))
 |[],v,e,t,hd,ht=>by
  refine zG.succ ?_;simp only[cS,rD];refine zG.ite (λh=>?_) λ_=>?_;·rw[yB hd]at h;cases h
  ·have:=h4.2.2.1;refine(zWL e p5 _ h5).bind λr12 h12=>zG.bind (P:=λx=>x=jO p4.around.length) ((zKk _ this).tot rfl) λr14 h14=>?_;subst h14;refine zG.bind (P:=λx=>x=nP r12.1 (jO p4.around.length)) ((qL r12.1 _ (by rw[zFI];omega)).tot rfl) λr16 h16=>?_;subst h16;refine zG.bind (P:=λx=>x=Tm.mk 5 0 [t,nP r12.1 (jO p4.around.length)]) ((L5 t _).tot rfl) λr18 h18=>?_;subst h18;refine(zDb r12.2 p4.around p3 h3 hl3 (by omega) h4.1).bind λr20 h20=>(zQy r20.1 _ h20.1.1 (eF ht (mC _ _ h12.1 (zKl _)))).bind λr22 h22=>(zDc r20.2 r22.1 r22.2).bind λr24 h24=>zG.ret ?_;have m:=zIg h22 h24;refine⟨m.1,λhe=>m.2.1 (h20.1.2.1 (h12.2.1 he)),λhe=>?_⟩;have k:=m.2.2 he;have k20:=h20.1.2.2 k.1;have k12:=h12.2.2 k20.1;refine⟨k12.1,?_⟩;rw[k.2,k20.2,k12.2];rfl|x::r,v,e,t,hd,ht=>by
  have hlt:=yF hd;have:=h4.2.2.1;have:=h4.2.2.2;refine zG.succ ?_;simp only[cS,rD];refine zG.ite (λ_=>?_) λh=>?_
  ·refine zG.pure (zZ hd) ((T3 e x _ p3 (h4.2.1.at hd) (by omega) h3 hl3).bind λr8 h8=>?_);refine zG.bind (P:=λx=>x=Tm.mk 5 0 [t,r8.1]) ((L5 t r8.1).tot rfl) λr10 h10=>?_;subst h10;rw[zW v (by omega)];refine(zFN p3 p4 p5 h3 hl3 h4 h5 r (v+1) r8.2 (.mk 5 0 [t,r8.1]) (zS hd) (eF ht h8.1)).mono λy hy=>⟨hy.1,λhe=>hy.2.1 (h8.2.1 he),λhe=>?_⟩;have k:=hy.2.2 he;have k8:=h8.2.2 k.1;refine⟨k8.1,?_⟩;rw[k.2,k8.2,List.map_cons,nP]
  ·rw[yA hd]at h;cases h
theorem j9(e:Int)(p1:Tm)(p2 p3:List Tm)(p4:rX)(p5:Tm)(h1:p1.Ok)(h2:uS p2)(hl2:p2.length<=1073741824)(h3:uS p3)(hl3:p3.length<=1073741824)(h4:zFM p4)(h5:p5.Ok):zG (λq=>zTl q e p1 p2 p3 p4 p5) (MT e (zTe p1 p2 p3 p4 p5)):=by simp only[zTl];refine(zKm e p2 _ hl2 h2).bind λr1 hr1=>?_;refine zG.bind (P:=λx=>x=nP p1 r1.1) ((qL p1 r1.1 (by omega)).tot rfl) λr3 hr3=>?_;subst hr3;refine(zFN p3 p4 p5 h3 hl3 h4 h5 p4.at' 0 r1.2 (nP p1 r1.1) rfl (mC _ _ h1 hr1.1.1)).mono λy hy=>⟨hy.1,λhe=>hy.2.1 (hr1.1.2.1 he),λhe=>?_⟩;have k:=hy.2.2 he;have k1:=hr1.1.2.2 k.1;refine⟨k1.1,?_⟩;rw[k.2,k1.2];rfl
theorem zQx(e:Int)(t:Tm)(h:t.Ok):zG (λq=>zTi q e t) (λx=>x.1.Ok/\(e≠8->x.2.1≠8)/\(x.2.1=0->e=0/\x.1=t/\zF t=true)):=by
 simp only[zTi];refine zG.ite (λhe=>?_) λhe=>?_
 ·have he':e=0:=by simpa using he
  refine zG.bind (P:=λb=>b=zF t) ((xI t h).tot rfl) λb hb=>zG.ite (λhs=>?_) λ_=>zG.ret ⟨wH 0 0,by simp,by simp⟩;refine zG.ite (λh2=>absurd he' (by simpa using h2)) λ_=>zG.ret ⟨h,by simp,λ_=>⟨he',rfl,by rw[<-hb];exact hs⟩⟩
 ·have he':e≠0:=by simpa using he
  exact zG.ite (λ_=>zG.ret ⟨wH 0 0,id,λh0=>absurd h0 he'⟩) λh2=>absurd (by simpa using h2) he'
theorem zIe(l:List yL)(n kind:Int):zH (λq=>zMC q l n kind) (S7 l n kind):=by
 simp only[zMC];unfold S7;by_cases h:0<=n
 ·refine zH.ifT (decide_eq_true h) ?_;by_cases k:n<l.length;·exact zH.ifT (decide_eq_true k) (zH.pure (yU h k) (zH.ret.eq (by simp[h,k])))
  ·exact zH.ifF (decide_eq_false k) (zH.ret.eq (by simp[k]))
 ·exact zH.ifF (decide_eq_false h) (zH.ret.eq (by simp[h]))
theorem T4:∀(r l:List Tm)(v:Nat),l.drop v=r->l.length<=1073741824->uS l->zH (λq=>cO q l (v:Int)) (r.all zF)
 |[],l,v,hd,hl,ho=>by refine zH.succ ?_;simp only[cO];exact zH.ifF (yB hd) zH.ret|x::r,l,v,hd,hl,ho=>by
  have hlt:=yF hd;refine zH.succ ?_;simp only[cO];refine zH.ifT (yA hd) (zH.pure (zZ hd) ((xI x (ho.at hd)).bind ?_));by_cases h:zF x=true
  ·refine zH.ifT h ?_;rw[zW v (by omega)];exact(T4 r l (v+1) (zS hd) hl ho).eq (by simp[h])
  ·exact zH.ifF (by simpa using h) (zH.ret.eq (by simp[h]))
theorem A5(l:List Tm)(hl:l.length<=1073741824)(ho:uS l):zH (λq=>zMD q l) (l.all zF):=by simp only[zMD];exact T4 l l 0 rfl hl ho
def zId(c:Nat)(rl:xJ)(parts:tR)(b:Int)(a:yV):Option (Tm×Int):=zMC c rl b 4>>=λr1=>if r1 then zV rl b>>=λx4=>zV rl x4.fam>>=λx6=>if(a.length:Int)!=(x6.fields.length:Int)then some ((Tm.mk 0 0 []),5)else zMD c a>>=λr9=>if r9 then zV a x4.place>>=λx12=>some (x12,0)else some ((Tm.mk 0 0 []),5)else some ((Tm.mk 0 0 []),16)
theorem yBP{c rl parts b a}:Cz (zId c rl parts b a) 257 [qR rl parts] [.mp 0 0,ai b,zP zA a .no] (λr=>.tup [yY r.1,ai r.2]) (λ_=>[qR rl parts]) 0:=fw func257<|rK 2 [] zWF (λ_=>rH λ_ h5=>rS (oA 2 (wO (o:=.no) h5))<|rA 1 (wO (o:=.no)) λ_=>rB 2 (fE 1)<|rK 0 [] zWG (λ_=>rS (oA 1 (wO (o:=.no) h5))<|rA 1 (wE (o:=.no)) λ_=>fE 2) λ_=>fE 2) λ_=>fE 2
def zZH(a:Nat)(b c:Int):Option (Tm):=zDo a c>>=λr1=>zFn a 7 b [r1]>>=λr3=>some r3
theorem zTd{a b c}:Cz (zZH a b c) 268 [] [ai b,ai c] (λr=>yY r) (λ_=>[]) 0:=fw func268<|rC 0 [] zIw λr1=>rS (oS 0 (xR wC [r1]))<|rC 0 [] zIx λ_=>fE 1
def iU:Nat->xJ->tR->Int->Int->yV->yV->tQ->Int->Int->Int->Int->yV->Option (Tm×Int)|0,_,_,_,_,_,_,_,_,_,_,_,_=>none|f+1,rl,parts,g,q,m,p,x12,a,b,c,d,e=>if decide (a<(x12.recs.length:Int))then zV x12.recs a>>=λx29=>if x29.is then zV rl g>>=λx32=>kE m 0 x32.pars>>=λx34=>yZ 40 ([]:yV) x34>>=λl36=>kE p 0 a>>=λx39=>yZ 40 l36 x39>>=λl41=>zZH f g q>>=λr44=>zV p a>>=λx46=>zTl f b r44 m l41 x29 x46>>=λr48=>zBw f (Tm.mk c d e) r48.1>>=λr50=>iU f rl parts g q m p x12 (xF (a+1)) r48.2 r50.k r50.n r50.sub else iU f rl parts g q m p x12 (xF (a+1)) b c d e else zTi f b (Tm.mk c d e)>>=λr52=>some (r52.1,r52.2.1)
def zIc(f:Nat)(rl:xJ)(parts:tR)(g q s:Int)(m p:yV):Option (Tm×Int):=zMC f rl g 1>>=λr1=>if r1 then if decide (q<0)then some ((Tm.mk 0 0 []),16)else if decide (q>7)then some ((Tm.mk 0 0 []),16)else zMC f rl s 2>>=λr6=>if r6 then zV rl s>>=λx9=>if x9.fam !=g then some ((Tm.mk 0 0 []),16)else zV parts s>>=λx12=>zV rl g>>=λx14=>if(m.length:Int)!=(xF ((xF (x14.pars+1))+(x14.cons.length:Int)))then some ((Tm.mk 0 0 []),5)else if(p.length:Int)!=(x12.args.length:Int)then some ((Tm.mk 0 0 []),5)else zMD f m>>=λr18=>if r18 then zMD f p>>=λr21=>if r21 then zV m (xF ((xF (x14.pars+1))+x9.place))>>=λx24=>bL f x24 p>>=λr26=>iU f rl parts g q m p x12 0 0 r26.k r26.n r26.sub else some ((Tm.mk 0 0 []),5)else some ((Tm.mk 0 0 []),5)else some ((Tm.mk 0 0 []),16)else some ((Tm.mk 0 0 []),16)
theorem zTc:∀f:Nat,∀rl parts g q m p x12 a b c d e,Lz (iU f rl parts g q m p x12 a b c d e) 1 f258 (pt 16777141 f258) (λj=>sp j 160 0 [(1,ai g),(2,ai q),(4,zP zA m .no),(5,zP zA p .no),(12,.mp 1 0),(14,zP xE rl .no),(16,.mp 2 0),(17,.mp 3 0),(118,zP aR x12.recs .no),(119,ai (x12.recs.length:Int)),(120,ai a)]) ⟨[(0,qR rl parts),(1,.cells [ai 0,ai 0,zP zA ([]:yV) .nl]),(2,.cells [ai b]),(3,.cells [ai c,ai d,zP zA e .no])],4,[],0,[]⟩ (λr=>.tup [yY r.1,ai r.2]) (λ_=>[qR rl parts]) 0 [.blk 0,.seq (pt 262143 f258)]:=wF (λ_ _ _ _ _ _ _ _ _ _ _ _=>lN) λf ih=>λrl parts g q m p x12 a b c d e=>lw λ_=>rB 0 (rA 0 (zZr (o:=.no)) λ_=>rB 2 (rA 1 (wO (o:=.no)) λ_=>rA 1 lI λx34=>rH λ_ h37=>rZ (List.length x34=0) (λh38=>rS (oP 0 (kH h37 h38))<|rA 0 lI λx39=>rH λ_ h42=>rZ (List.length x39=0) (λh43=>rS (oP 0 (kH h42 h43))<|rC 1 [] zTd λ_=>rA 1 (wE (o:=.no)) λ_=>rC 1 [2] zTj λ_=>rC 0 [] zBv λ_=>lH 2 [] [0,1,2,3] [] [1,2,4,5,12,14,16,17,118,119,120] (ih _ _ _ _ _ _ _ _ _ _ _ _)) λh43=>rS (oP 0 (vZ h42 h43))<|rC 1 [] zTd λ_=>rA 1 (wE (o:=.no)) λ_=>rC 1 [2] zTj λ_=>rC 0 [] zBv λ_=>lH 2 [] [0,1,2,3] [] [1,2,4,5,12,14,16,17,118,119,120] (ih _ _ _ _ _ _ _ _ _ _ _ _)) λh38=>rS (oP 0 (vZ h37 h38))<|rA 0 lI λx39=>rH λ_ h42=>rZ (List.length x39=0) (λh43=>rS (oP 0 (kH h42 h43))<|rC 1 [] zTd λ_=>rA 1 (wE (o:=.no)) λ_=>rC 1 [2] zTj λ_=>rC 0 [] zBv λ_=>lH 2 [] [0,1,2,3] [] [1,2,4,5,12,14,16,17,118,119,120] (ih _ _ _ _ _ _ _ _ _ _ _ _)) λh43=>rS (oP 0 (vZ h42 h43))<|rC 1 [] zTd λ_=>rA 1 (wE (o:=.no)) λ_=>rC 1 [2] zTj λ_=>rC 0 [] zBv λ_=>lH 2 [] [0,1,2,3] [] [1,2,4,5,12,14,16,17,118,119,120] (ih _ _ _ _ _ _ _ _ _ _ _ _))<|lH 1 [] [0,1,2,3] [] [1,2,4,5,12,14,16,17,118,119,120] (ih _ _ _ _ _ _ _ _ _ _ _ _))<|rC 1 [2] yBO λ_=>lE 3
theorem yBQ{f rl parts g q s m p}:Cz (zIc f rl parts g q s m p) 258 [qR rl parts] [.mp 0 0,ai g,ai q,ai s,zP zA m .no,zP zA p .no] (λr=>.tup [yY r.1,ai r.2]) (λ_=>[qR rl parts]) 0:=fw func258<|rK 2 [] zWF (λ_=>rB 1 (fE 1)<|rB 0 (fE 1)<|rK 0 [] zWF (λ_=>rH λ_ h10=>rS (oA 1 (wO (o:=.no) h10))<|rB 1 (fE 1)<|rA 1 (zZu (o:=.no)) λ_=>rH λ_ h15=>rS (oA 3 (wO (o:=.no) h15))<|rS (oA 2 (wO (o:=.no) h15))<|rB 3 (fE 1)<|rB 3 (fE 1)<|rK 0 [] zWG (λ_=>rK 1 [] zWG (λ_=>rS (oA 1 (wO (o:=.no) h15))<|rS (oA 2 (wO (o:=.no) h10))<|rA 2 (wE (o:=.no)) λ_=>rC 1 [] U5 λ_=>fH 3 [] [0,1,3,4] [] [1,2,4,5,12,14,16,17,118,119,120] (zTc _ _ _ _ _ _ _ _ _ _ _ _ _)) λ_=>fE 2) λ_=>fE 2) λ_=>fE 2) λ_=>fE 2
theorem zTb(l:List yL)(i:Int)(h0:0<=i)(h1:i<l.length)(hk:(zU l i).kind=2):zV (lX l l.length 0) i=some (vJ l i):=by unfold zV;rw[if_pos h0,zKq l l.length 0 i.toNat (by omega),show((0+i.toNat:Nat):Int)=i by omega,if_pos hk]
theorem zWM(l:List yL)(t:Tm)(of b:Int):zFM (zBs l t of b):=by
 unfold zBs;split
 ·rename_i h;have hw:=pA (t:=t) (l:=(xC t).1) (y:=(xC t).2.1) (by rw[<-h.1]);have hs:=zM hw.2.2.2.2.1;have hal:=tS _ hs.2.2;refine⟨λx hx=>zX (hw.2.2.2.2.2 x hx),λx hx=>zX (xL hw.2.2.2.2.1 (List.mem_of_mem_drop hx)),?_,?_⟩;·show(xC t).1.length<=_;omega
  ·show((xD (xC t).2.1).drop _).length<=_;rw[List.length_drop];omega
 ·exact⟨uS.nil,uS.nil,by simp,by simp⟩
theorem zKi(l:List yL)(of:Int):∀(r:List Tm)(b:Int),∀x∈lQ l of r b,zFM x
 |[],_,x,h=>nomatch h|a::r,b,x,h=>by
  rcases List.mem_cons.1 h with h|h;·rw[h];exact zWM l a of b
  ·exact zKi l of r (b+1) x h
def zDa(l:List yL)(i:Int)(a:List Tm)(x:Tm×Int):Prop:=x.1.Ok/\x.2≠8/\(x.2=0->(a.length:Int)=(zU l (zU l i).fam).fields.length/\0<=(zU l i).place/\(zU l i).place<a.length/\x.1=sG a (zU l i).place)
theorem zMF{N:ByteArray->Bool}(l:List yL)(parts:List tQ)(i:Int)(a:List Tm)(hE:wZ N l)(ho:uS a)(hl:a.length<=1073741824):zG (λq=>zId q l parts i a) (zDa l i a):=by
 simp only[zId];have bad:∀e:Int,e≠8->e≠0->zDa l i a (.mk 0 0 [],e):=λe h8 h0=>⟨wH 0 0,h8,λh=>absurd h h0⟩;refine zG.bind (P:=λb=>b=S7 l i 4) ((zIe l i 4).tot rfl) λb hb=>zG.ite (λhT=>?_) λ_=>zG.ret (bad _ (by decide) (by decide));rw[hT]at hb;have hi:=tL hb.symm;have hp:=(xP (hE.2 i hi.1 hi.2.1)).2.2.2.1 hi.2.2;unfold S9 at hp;simp only[Bool.and_eq_true]at hp;have hw:=pB hp.1;have h6:=hw.2.2.2.2.2;unfold m7 at h6;rw[if_pos hi.2.2]at h6;refine zG.pure (yU hi.1 hi.2.1) (zG.pure (yU hw.1 (by omega)) (zG.ite (λ_=>zG.ret (bad _ (by decide) (by decide))) λhn=>?_));have hn':(a.length:Int)=(zU l (zU l i).fam).fields.length:=by simpa using hn
 refine zG.bind (P:=λ_=>True) ((A5 a hl ho).tot trivial) λ_ _=>zG.ite (λ_=>?_) λ_=>zG.ret (bad _ (by decide) (by decide));have h7:(zU l i).place<a.length:=by omega
 have hx:=tN (l:=a) hw.2.2.2.2.1 h7;exact zG.pure hx (zG.ret ⟨ho _ (qD hw.2.2.2.2.1 h7),by simp,λ_=>⟨hn',hw.2.2.2.2.1,h7,rfl⟩⟩)
def iV(d lev:Int)(args own:List Tm)(pars:Nat):List rX->Nat->Tm->Tm|[],_,t=>t|r::rs,v,t=>iV d lev args own pars rs (v+1) (if r.is=true then .mk 5 0 [t,zTe (.mk 7 d [.mk 2 lev []]) args (args.take pars++own.take v) r (sG own v)]else t)
def zKh(l:List yL)(d lev c:Int)(args own:List Tm):Tm:=iV d lev args own (zU l d).pars.toNat (vJ l c).recs 0 (nP (sG args ((zU l d).pars+1+(zU l c).place)) own)
theorem zMG{N:ByteArray->Bool}(l:List yL)(parts:List tQ)(i p2:Int)(p4 p5:List Tm)(x:tQ)(hE:wZ N l)(h0:0<=i)(h1:i<l.length)(hk:(zU l i).kind=1)(hp:(zU l i).pars<=p4.length)(hl4:p4.length<=65535)(h5:p5.length=x.recs.length)(hl5:p5.length<=65535)(ho4:uS p4)(ho5:uS p5)(hx:∀r∈x.recs,zFM r):∀(r:List rX)(v:Nat)(e:Int)(t:Tm),x.recs.drop v=r->t.Ok->zG (λq=>iU q l parts i p2 p4 p5 x (v:Int) e t.k t.n t.sub) (λy=>y.1.Ok/\(e≠8->y.2≠8)/\(y.2=0->e=0/\y.1=iV i p2 p4 p5 (zU l i).pars.toNat r v t/\zF y.1=true)):=by have hf:=vT ((xP (hE.2 i h0 h1)).2.1 hk);intro r;induction r with
 |nil=>
  intro v e t hd ht;refine zG.succ ?_;simp only[iU,rD];refine zG.ite (λh=>?_) λ_=>(zQx e t ht).bind λr h=>zG.ret ⟨h.1,h.2.1,λh0=>?_⟩;·rw[yB hd]at h;cases h
  ·have k:=h.2.2 h0;exact⟨k.1,k.2.1,by show zF r.1=true;rw[k.2.1];exact k.2.2⟩|cons z r ih=>
  intro v e t hd ht;have hlt:=yF hd;have hz:z∈x.recs:=by
   have:z∈x.recs.drop v:=by rw[hd];simp
   exact List.mem_of_mem_drop this
  refine zG.succ ?_;simp only[iU,rD];refine zG.ite (λ_=>?_) λh=>?_
  ·refine zG.pure (zZ hd) (zG.ite (λhzi=>?_) λhzi=>?_)
   ·refine zG.pure (yU h0 h1) (zG.pure (X5 (by omega) (by omega) hp) (zG.pure (yG (by simp<;>omega)) (zG.pure (X5 (by omega) (by omega) (by omega)) (zG.pure (yG (by simp<;>omega)) ?_))));refine zG.bind (P:=λy=>y=Tm.mk 7 i [Tm.mk 2 p2 []]) (zH.tot (r:=Tm.mk 7 i [Tm.mk 2 p2 []]) (zH.mk λ_=>rfl) rfl) λr44 h44=>?_;subst h44;have hnv:(v:Int)<p5.length:=by omega
    refine zG.pure (tN (l:=p5) (n:=(v:Int)) (by omega) hnv) ?_;refine(j9 e (.mk 7 i [.mk 2 p2 []]) p4 _ z (sG p5 v) (zWI (wH _ _)) ho4 (by omega) ?_ ?_ (hx z hz) (ho5 _ (qD (by omega) hnv))).bind λr48 h48=>?_;·exact(uS.nil.app ((ho4.drop _).take _)).app ((ho5.drop _).take _)
    ·simp only[List.length_append,List.length_take,List.length_drop,List.length_nil];omega
    refine zG.bind (P:=λy=>y=Tm.mk 5 0 [t,r48.1]) ((L5 t r48.1).tot rfl) λr50 h50=>?_;subst h50;rw[zW v (by omega)];refine(ih (v+1) r48.2 (.mk 5 0 [t,r48.1]) (zS hd) (eF ht h48.1)).mono λy hy=>⟨hy.1,λhe=>hy.2.1 (h48.2.1 he),λhe=>?_⟩;have k:=hy.2.2 he;have k4:=h48.2.2 k.1;refine⟨k4.1,?_,k.2.2⟩;rw[k.2.1,k4.2,iV,if_pos hzi];simp
   ·rw[zW v (by omega)];refine(ih (v+1) e t (zS hd) ht).mono λy hy=>⟨hy.1,hy.2.1,λhe=>?_⟩;have k:=hy.2.2 he;refine⟨k.1,?_,k.2.2⟩;rw[k.2.1,iV,if_neg (by simpa using hzi)]
  ·rw[yA hd]at h;cases h
def zIb(l:List yL)(d lev c:Int)(args own:List Tm)(x:Tm×Int):Prop:=x.1.Ok/\x.2≠8/\(x.2=0->(0<=lev/\lev<=7)/\S7 l d 1=true/\S7 l c 2=true/\(zU l c).fam=d/\(args.length:Int)=(zU l d).pars+1+(zU l d).cons.length/\own.length=(vJ l c).args.length/\args.all zF=true/\own.all zF=true/\x.1=zKh l d lev c args own/\zF x.1=true)
theorem zQw{N:ByteArray->Bool}(l:List yL)(i p2 c:Int)(p4 p5:List Tm)(hE:wZ N l)(ho4:uS p4)(ho5:uS p5)(hl4:p4.length<=65535)(hl5:p5.length<=65535):zG (λq=>zIc q l (lX l l.length 0) i p2 c p4 p5) (zIb l i p2 c p4 p5):=by
 have bad:∀e:Int,e≠8->e≠0->zIb l i p2 c p4 p5 (.mk 0 0 [],e):=λe h8 h0=>⟨wH 0 0,h8,λh=>absurd h h0⟩;simp only[zIc];refine zG.bind (P:=λb=>b=S7 l i 1) ((zIe l i 1).tot rfl) λb hb=>zG.ite (λhT=>?_) λ_=>zG.ret (bad _ (by decide) (by decide));rw[hT]at hb;have hi:=tL hb.symm;refine zG.ite (λ_=>zG.ret (bad _ (by decide) (by decide))) λhv0=>zG.ite (λ_=>zG.ret (bad _ (by decide) (by decide))) λhv1=>?_;have hv0':=of_decide_eq_false hv0;have hv1':=of_decide_eq_false hv1;refine zG.bind (P:=λb=>b=S7 l c 2) ((zIe l c 2).tot rfl) λb2 hb2=>zG.ite (λhT=>?_) λ_=>zG.ret (bad _ (by decide) (by decide));rw[hT]at hb2;have hc:=tL hb2.symm;have hf:=vT ((xP (hE.2 i hi.1 hi.2.1)).2.1 hi.2.2);obtain⟨A,y,hw,hy,hA,hAp,hA24,p0,p1,f0,f1,fk,fp,fi,fs,hap,q0,q1⟩:=vX hE hc.1 hc.2.1 hc.2.2;refine zG.pure (yU hc.1 hc.2.1) (zG.ite (λ_=>zG.ret (bad _ (by decide) (by decide))) λhn=>?_);have hfam:(zU l c).fam=i:=by simpa using hn
 refine zG.pure (zTb l c hc.1 hc.2.1 hc.2.2) (zG.pure (yU hi.1 hi.2.1) ?_);rw[hfam]at fp q1 fi fs;rw[yQ (x:=(zU l i).pars+1) (by omega) (by omega),yQ (x:=(zU l i).pars+1+(zU l i).cons.length) (by omega) (by omega),yQ (x:=(zU l i).pars+1+(zU l c).place) (by omega) (by omega)];refine zG.ite (λ_=>zG.ret (bad _ (by decide) (by decide))) λhn4=>zG.ite (λ_=>zG.ret (bad _ (by decide) (by decide))) λhn5=>?_;have hn4':(p4.length:Int)=(zU l i).pars+1+(zU l i).cons.length:=by simpa using hn4
 have hn5':(p5.length:Int)=(vJ l c).args.length:=by simpa using hn5
 refine zG.bind (P:=λb=>b=p4.all zF) ((A5 p4 (by omega) ho4).tot rfl) λb4 hb4=>zG.ite (λhs4=>?_) λ_=>zG.ret (bad _ (by decide) (by decide));refine zG.bind (P:=λb=>b=p5.all zF) ((A5 p5 (by omega) ho5).tot rfl) λb5 hb5=>zG.ite (λhs5=>?_) λ_=>zG.ret (bad _ (by decide) (by decide));have h7:(zU l i).pars+1+(zU l c).place<p4.length:=by omega
 refine zG.pure (tN (l:=p4) (by omega) h7) (zG.bind (P:=λz=>z=nP (sG p4 ((zU l i).pars+1+(zU l c).place)) p5) ((qL _ p5 (by omega)).tot rfl) λr26 h26=>?_);subst h26;have hlen:(vJ l c).recs.length=(vJ l c).args.length:=by unfold vJ;exact M2 l _ _ _
 refine(zMG l _ i p2 p4 p5 (vJ l c) hE hi.1 hi.2.1 hi.2.2 (by omega) hl4 (by omega) hl5 ho4 ho5 (by unfold vJ;exact zKi l _ _ _) _ 0 0 _ rfl (mC _ _ (ho4 _ (qD (by omega) h7)) ho5)).mono λx hx=>⟨hx.1,hx.2.1 (by decide),λh0=>?_⟩;have k:=hx.2.2 h0;exact⟨⟨by omega,by omega⟩,hb.symm,hb2.symm,hfam,hn4',by omega,by rw[<-hb4];exact hs4,by rw[<-hb5];exact hs5,k.2.1,k.2.2⟩
section
variable{P:Int->Int->Prop}
theorem zKg{k:Int}{l:List Tm}(h:∀a∈l,xS P a):∀a∈upI k l,xS P a:=λa ha=>by obtain⟨x,hx,rfl⟩:=List.mem_map.1 ha;exact G7 x 0 0 k (h x hx)
theorem zFO:∀m,∀a∈jO m,xS P a
 |0,a,h=>nomatch h|m+1,a,h=>by
  rcases List.mem_cons.1 h with rfl|h;·exact eD (.inl rfl)
  ·exact zFO m a h
theorem zKf:∀m v,∀a∈vuT m v,xS P a
 |0,_,a,h=>nomatch h|m+1,v,a,h=>by
  rcases List.mem_cons.1 h with rfl|h;·exact eD (.inl rfl)
  ·exact zKf m (v+1) a h
theorem zFP{t:Tm}{own:Nat}{outer:List Tm}(h:xS P t)(ho:∀a∈outer,xS P a):xS P (zFK t own outer):=by
 refine X4 _ (λa ha=>?_) t 0 h;rcases List.mem_append.1 ha with ha|ha;·exact zKf _ _ a ha
 ·exact zKg ho a (List.mem_reverse.1 ha)
theorem zCz{outer:List Tm}(ho:∀a∈outer,xS P a):∀(l:List Tm)(v:Nat),(∀a∈l,xS P a)->∀a∈jP outer l v,xS P a
 |[],v,h,a,ha=>nomatch ha|t::l,v,h,a,ha=>by
  rcases List.mem_cons.1 ha with rfl|ha;·exact zFP (h t (by simp)) ho
  ·exact zCz ho l (v+1) (λx hx=>h x (by simp[hx])) a ha
theorem zFQ(h4:P 4 0):∀(l:List Tm)(t:Tm),(∀a∈l,xS P a)->xS P t->xS P (j8 l t)|[],t,_,ht=>ht|a::l,t,h,ht=>zDf (.inr h4) (h a (by simp)) (zFQ h4 l t (λx hx=>h x (by simp[hx])) ht)
theorem zQv{head:Tm}{args outer:List Tm}{r:rX}{a:Tm}(h4:P 4 0)(h5:P 5 0)(hh:xS P head)(hargs:∀a∈args,xS P a)(hout:∀a∈outer,xS P a)(hr:(∀t∈r.around,xS P t)/\∀t∈r.at',xS P t)(ha:xS P a):xS P (zTe head args outer r a):=by
 refine zFQ h4 _ _ (zCz hout _ 0 hr.1) (zDf (.inr h5) ?_ ?_)
 ·refine iS _ _ h5 (iS _ _ h5 hh (zKg hargs)) λx hx=>?_;obtain⟨t,ht,rfl⟩:=List.mem_map.1 hx;exact zFP (hr.2 t ht) hout
 ·exact iS _ _ h5 (G7 a 0 0 _ ha) (zFO _)
theorem zDA{Q:Tm->Prop}{l:List Tm}{n:Int}(h:∀a∈l,Q a)(hz:Q zT):Q (sG l n):=by unfold sG;cases e:l[n.toNat]? with|none=>exact hz|some x=>exact h x (List.mem_of_getElem? e)
theorem i4{d lev:Int}{args own:List Tm}{pars:Nat}(h4:P 4 0)(h5:P 5 0)(h0:P 0 0)(h2:P 2 lev)(h7:P 7 d)(hargs:∀a∈args,xS P a)(hown:∀a∈own,xS P a):∀(rs:List rX)(v:Nat)(t:Tm),(∀r∈rs,(∀t∈r.around,xS P t)/\∀t∈r.at',xS P t)->xS P t->xS P (iV d lev args own pars rs v t)
 |[],v,t,_,ht=>ht|r::rs,v,t,hr,ht=>by
  rw[iV];refine i4 h4 h5 h0 h2 h7 hargs hown rs (v+1) _ (λx hx=>hr x (by simp[hx])) ?_;split
  ·refine zDf (.inr h5) ht (zQv h4 h5 (zWB (.inr h7) (eD (.inr h2))) hargs ?_ (hr r (by simp)) (zDA hown (eD (.inr h0))));intro a ha;rcases List.mem_append.1 ha with ha|ha;·exact hargs a (List.mem_of_mem_take ha)
   ·exact hown a (List.mem_of_mem_take ha)
  ·exact ht
theorem zMH{l:List yL}{d lev c:Int}{args own:List Tm}(h4:P 4 0)(h5:P 5 0)(h0:P 0 0)(h2:P 2 lev)(h7:P 7 d)(hargs:∀a∈args,xS P a)(hown:∀a∈own,xS P a)(hr:∀r∈(vJ l c).recs,(∀t∈r.around,xS P t)/\∀t∈r.at',xS P t):xS P (zKh l d lev c args own):=i4 h4 h5 h0 h2 h7 hargs hown _ 0 _ hr (iS _ _ h5 (zDA hargs (eD (.inr h0))) hown)
theorem jQ{t:Tm}{l:List Tm}{y:Tm}(h:xC t=(l,y,0)):xZ t=true/\jK l.length t=some (l,y):=by have hw:=pA h;have hg:=(zM hw.1).2.2;unfold xC uL at h;rw[if_pos hw.1,if_neg (by omega),if_neg (by omega)]at h;rw[show(((min (uY t) 25:Nat):Int)).toNat=l.length by omega]at h;cases e:jK l.length t with|none=>rw[e]at h;simp[zDn]at h|some r=>rw[e]at h;simp only[zDn,List.nil_append,Prod.mk.injEq,and_true]at h;exact⟨hg,by rw[<-h.1,<-h.2]⟩
theorem zQu{l:List yL}{t:Tm}{of b:Int}(h:xS P t):(∀x∈(zBs l t of b).around,xS P x)/\∀x∈(zBs l t of b).at',xS P x:=by
 unfold zBs;split
 ·rename_i a;have hw:=jQ (t:=t) (l:=(xC t).1) (y:=(xC t).2.1) (by rw[<-a.1]);have hs:=G8 _ _ _ hw.1 hw.2 h;have hy:=(zM (pA (t:=t) (l:=(xC t).1) (y:=(xC t).2.1) (by rw[<-a.1])).2.2.2.2.1).2.2;exact⟨hs.2,λx hx=>(oY _ hy hs.1).2 x (List.mem_of_mem_drop hx)⟩
 ·exact⟨λx hx=>(nomatch hx),λx hx=>(nomatch hx)⟩
theorem zCy{l:List yL}{of:Int}:∀(r:List Tm)(b:Int),(∀t∈r,xS P t)->∀x∈lQ l of r b,(∀t∈x.around,xS P t)/\∀t∈x.at',xS P t
 |[],b,h,x,hx=>nomatch hx|a::r,b,h,x,hx=>by
  rcases List.mem_cons.1 hx with hx|hx;·rw[hx];exact zQu (h a (by simp))
  ·exact zCy r (b+1) (λt ht=>h t (by simp[ht])) x hx
theorem zIa{l:List yL}{i:Int}(hw:(xC (zU l i).type).2.2=0)(h:xS P (zU l i).type):∀r∈(vJ l i).recs,(∀t∈r.around,xS P t)/\∀t∈r.at',xS P t:=by have hs:=jQ (t:=(zU l i).type) (l:=(xC (zU l i).type).1) (y:=(xC (zU l i).type).2.1) (by rw[<-hw]);have ha:=G8 _ _ _ hs.1 hs.2 h;unfold vJ;exact zCy _ _ λt ht=>ha.2 t (List.mem_of_mem_drop ht)
end
theorem zQt:∀(m v i:Nat)(h:i<(vuT m v).length),(vuT m v)[i]=.mk 1 ((v+i:Nat):Int) []|0,v,i,h=>by simp[vuT]at h|m+1,v,0,h=>by simp[vuT]|m+1,v,i+1,h=>by have:=zQt m (v+1) i (by simpa[vuT]using h);simp only[vuT,List.getElem_cons_succ];rw[this,show v+1+i=v+(i+1)by omega]
theorem zQs:∀(m:Nat)(k j:Int),(m:Int)<=k->∀a∈jO m,¬j∈tV a k
 |0,k,j,_,a,h=>nomatch h|m+1,k,j,hk,a,h=>by
  rcases List.mem_cons.1 h with rfl|h;·intro hj;have:=qG.1 hj;omega
  ·exact zQs m k j (by omega) a h
theorem zKe:∀(l:List Tm)(t:Tm)(d j:Int),j∈tV (j8 l t) d->(∃(i:Nat)(h:i<l.length),j∈tV l[i] (d+i))\/j∈tV t (d+l.length)
 |[],t,d,j,h=>.inr (by simpa[j8]using h)|a::l,t,d,j,h=>by
  rcases zPU.1 h with h|h;·exact .inl ⟨0,by simp,by simpa using h⟩
  ·rcases zKe l t (d+1) j h with⟨i,hi,h⟩|h
   ·refine .inl ⟨i+1,by simp;omega,?_⟩;rw[show d+((i+1:Nat):Int)=d+1+i by omega];simpa using h
   ·refine .inr ?_;rw[show d+((a::l).length:Int)=d+1+l.length by simp;omega];exact h
theorem zQr{t:Tm}{own:Nat}{outer:List Tm}{j:Int}(hs:∀i∈tV t own,i<outer.length)(h:j∈tV (zFK t own outer) own):∃a∈outer,j∈tV a 0:=by
 have hj:=j5 _ _ _ h;have h0:j+own∈tV (zFK t own outer) 0:=((jN _ 0 own j (by omega)).1 (by rwa[Int.zero_add])).2;obtain⟨i,hi,h1⟩:=zPR _ t 0 _ (Int.le_refl 0) h0;have hi0:=j5 _ _ _ hi;have hb:i<own+outer.length:=by
  by_cases hio:(own:Int)<=i
  ·have:=hs (i-own) (by have:=(jN t 0 own (i-own) (by omega)).2 ⟨by omega,by rwa[show i-own+own=i by omega]⟩;rwa[Int.zero_add]at this);omega
  ·omega
 have hlen:(vuT own 0++(upI own outer).reverse).length=own+outer.length:=by simp[H2,upI]
 rcases h1 with h1|⟨h1,h2⟩;·rw[hlen]at h1;omega
 ·by_cases hio:(own:Int)<=i
  ·rw[List.getElem_append_right (by rw[H2];omega)]at h2;have hm:=List.getElem_mem (l:=(upI own outer).reverse) (n:=i.toNat-(vuT own 0).length) (by rw[hlen]at h1;simp[H2,upI];omega);rw[List.mem_reverse]at hm;obtain⟨a,ha,e⟩:=List.mem_map.1 hm;rw[<-e]at h2;obtain⟨x,hx,e2⟩:=zVv a 0 0 own _ (by omega) h2;have:=j5 _ _ _ hx;rw[if_neg (by omega)]at e2;exact⟨a,ha,by rwa[show j=x by omega]⟩
  ·rw[List.getElem_append_left (by rw[H2];omega),zQt]at h2;have:=qG.1 h2;omega
theorem i5(outer:List Tm):∀(l:List Tm)(v:Nat),(jP outer l v).length=l.length|[],_=>rfl|t::l,v=>congrArg (·+1) (i5 outer l (v+1))
theorem zFR(outer:List Tm):∀(l:List Tm)(v i:Nat)(h:i<(jP outer l v).length)(h':i<l.length),(jP outer l v)[i]=zFK l[i] (v+i) outer|[],v,i,h,h'=>by simp at h'|t::l,v,0,h,h'=>by simp[jP]|t::l,v,i+1,h,h'=>by simp only[jP,List.getElem_cons_succ];rw[zFR outer l (v+1) i _ (by simpa using h'),show v+1+i=v+(i+1)by omega]
def zFS(r:rX)(n:Nat):Prop:=(∀(i:Nat)(h:i<r.around.length),∀j∈tV r.around[i] i,j<n)/\∀t∈r.at',∀j∈tV t r.around.length,j<n
theorem zWN{head:Tm}{args outer:List Tm}{r:rX}{a:Tm}{j:Int}(hr:zFS r outer.length)(hh:∀d j,¬j∈tV head d)(h:j∈tV (zTe head args outer r a) 0):(∃x∈args,j∈tV x 0)\/(∃x∈outer,j∈tV x 0)\/j∈tV a 0:=by
 rcases zKe _ _ 0 j h with⟨i,hi,h⟩|h
 ·rw[i5]at hi;rw[zFR outer r.around 0 i _ hi,Nat.zero_add,Int.zero_add]at h;exact .inr (.inl (zQr (hr.1 i hi) h))
 ·rw[i5,Int.zero_add]at h;rcases M5.1 h with h|h
  ·rcases(zBX _ _ _ _).1 h with h|⟨x,hx,h⟩
   ·rcases(zBX _ _ _ _).1 h with h|⟨x,hx,h⟩;·exact absurd h (hh _ _)
    ·obtain⟨y,hy,rfl⟩:=List.mem_map.1 hx;exact .inl ⟨y,hy,zFF y 0 (r.around.length:Int) j (by omega) (by rwa[Int.zero_add])⟩
   ·obtain⟨y,hy,rfl⟩:=List.mem_map.1 hx;exact .inr (.inl (zQr (hr.2 y hy) h))
  ·rcases(zBX _ _ _ _).1 h with h|⟨x,hx,h⟩;·exact .inr (.inr (zFF a 0 (r.around.length:Int) j (by omega) (by rwa[Int.zero_add])))
   ·exact absurd h (zQs _ _ _ (Int.le_refl _) x hx)
theorem zQq{l:List Tm}{n d j:Int}(h:j∈tV (sG l n) d):∃a∈l,j∈tV a d:=by unfold sG at h;cases e:l[n.toNat]? with|none=>rw[e]at h;exact absurd h (zDe (by decide))|some x=>rw[e]at h;exact⟨x,List.mem_of_getElem? e,h⟩
theorem zFT{d lev:Int}{args own:List Tm}{pars:Nat}{j:Int}(hp:pars<=args.length):∀(rs:List rX)(v:Nat)(t:Tm),v+rs.length<=own.length->(∀(i:Nat)(h:i<rs.length),zFS rs[i] (pars+(v+i)))->j∈tV (iV d lev args own pars rs v t) 0->j∈tV t 0\/(∃x∈args,j∈tV x 0)\/∃x∈own,j∈tV x 0
 |[],v,t,_,_,h=>.inl h|r::rs,v,t,hl,hr,h=>by
  rw[List.length_cons]at hl;rw[iV]at h;rcases zFT hp rs (v+1) _ (by omega) (λi hi=>by have:=hr (i+1) (by simp;omega);rw[show v+1+i=v+(i+1)by omega];simpa using this) h with h|h|h
  ·split at h
   ·rcases M5.1 h with h|h;·exact .inl h
    ·have hsc:=hr 0 (by simp);rcases zWN (j:=j) (by rw[List.length_append,List.length_take,List.length_take,show min pars args.length+min v own.length=pars+(v+0)by omega];simpa using hsc) (λd j=>zZD (by decide)) h with h|⟨x,hx,h⟩|h;·exact .inr (.inl h)
     ·rcases List.mem_append.1 hx with hx|hx;·exact .inr (.inl ⟨x,List.mem_of_mem_take hx,h⟩)
      ·exact .inr (.inr ⟨x,List.mem_of_mem_take hx,h⟩)
     ·exact .inr (.inr (zQq h))
   ·exact .inl h
  ·exact .inr (.inl h)
  ·exact .inr (.inr h)
theorem zWO{l:List yL}{t:Tm}{of b:Int}{n:Nat}(h:∀j,j∈tV t 0->j<n):zFS (zBs l t of b) n:=by
 unfold zBs;split
 ·rename_i a;have hw:=jQ (t:=t) (l:=(xC t).1) (y:=(xC t).2.1) (by rw[<-a.1]);have hy:=(zM (pA (t:=t) (l:=(xC t).1) (y:=(xC t).2.1) (by rw[<-a.1])).2.2.2.2.1).2.2;refine⟨λi hi j hj=>?_,λx hx j hj=>?_⟩;·exact h j ((zDd _ _ _ hw.1 hw.2 0 j).2 i hi (by rwa[Int.zero_add]))
  ·exact h j ((zDd _ _ _ hw.1 hw.2 0 j).1 (by rw[Int.zero_add];exact(G9 _ hy _ j).2 x (List.mem_of_mem_drop hx) hj))
 ·exact⟨λi hi=>by simp at hi,λx hx=>(nomatch hx)⟩
theorem zKd{l:List yL}{of:Int}:∀(r:List Tm)(B:Int)(b:Nat),(∀(i:Nat)(h:i<r.length),∀j,j∈tV r[i] 0->j<(b+i:Nat))->∀(i:Nat)(h:i<(lQ l of r B).length),zFS (lQ l of r B)[i] (b+i)|[],B,b,h,i,hi=>by simp[lQ]at hi|a::r,B,b,h,0,hi=>by simp only[lQ,List.getElem_cons_zero];exact zWO λj hj=>h 0 (by simp) j (by simpa using hj)|a::r,B,b,h,i+1,hi=>by simp only[lQ,List.getElem_cons_succ];have:=zKd (l:=l) (of:=of) r (B+1) (b+1) (λi hi j hj=>by have:=h (i+1) (by simp;omega) j (by simpa using hj);omega) i (by simpa[lQ]using hi);rw[show b+(i+1)=b+1+i by omega];exact this
theorem zQp{N:ByteArray->Bool}{l:List yL}{i:Int}(hE:wZ N l)(h0:0<=i)(h1:i<l.length)(hk:(zU l i).kind=2):∀(v:Nat)(h:v<(vJ l i).recs.length),zFS (vJ l i).recs[v] ((zU l i).pars.toNat+v):=by
 obtain⟨A,y,hw,hy,hA,hAp,hA24,p0,p1,-⟩:=vX hE h0 h1 hk;have hc:=(xP (hE.2 i h0 h1)).1;have hs:=jQ hw;have hsc:∀(n:Nat)(h:n<(A.drop (zU l i).pars.toNat).length),∀j,j∈tV (A.drop (zU l i).pars.toNat)[n] 0->j<((zU l i).pars.toNat+n:Nat):=λn h j hj=>by
  rw[List.getElem_drop]at hj;have hn:(zU l i).pars.toNat+n<A.length:=by simp at h;omega
  have hj0:=j5 _ _ _ hj;rcases Int.lt_or_le j (((zU l i).pars.toNat+n:Nat):Int)with hlt|hge;·exact hlt
  ·have h2:j-(((zU l i).pars.toNat+n:Nat):Int)∈tV A[(zU l i).pars.toNat+n] (0+(((zU l i).pars.toNat+n:Nat):Int)):=(jN _ 0 _ _ (by omega)).2 ⟨by omega,by rwa[show j-(((zU l i).pars.toNat+n:Nat):Int)+(((zU l i).pars.toNat+n:Nat):Int)=j by omega]⟩;have h3:=(zDd _ _ _ hs.1 hs.2 0 _).2 _ hn h2;exact absurd h3 (zBY hc 0 _ (Int.le_refl 0))
 have hr:=zKd (l:=l) (of:=(zU l i).fam) (A.drop (zU l i).pars.toNat) (zU l i).pars (zU l i).pars.toNat hsc;have e:(vJ l i).recs=lQ l (zU l i).fam (A.drop (zU l i).pars.toNat) (zU l i).pars:=by unfold vJ;rw[hw]
 intro v h;have:=hr v (by rw[<-e];exact h);simpa[e]using this
theorem zTa{N:ByteArray->Bool}{l:List yL}{d lev c:Int}{args own:List Tm}{j:Int}(hE:wZ N l)(hc:S7 l c 2=true)(hf:(zU l c).fam=d)(ha:(args.length:Int)=(zU l d).pars+1+(zU l d).cons.length)(ho:own.length=(vJ l c).args.length)(h:j∈tV (zKh l d lev c args own) 0):(∃x∈args,j∈tV x 0)\/∃x∈own,j∈tV x 0:=by
 have hi:=tL hc;obtain⟨A,y,hw,hy,hA,hAp,hA24,p0,p1,f0,f1,fk,fp,-⟩:=vX hE hi.1 hi.2.1 hi.2.2;rw[hf]at fp;have hlen:(vJ l c).recs.length=(vJ l c).args.length:=by unfold vJ;exact M2 l _ _ _
 have hsc:=zQp hE hi.1 hi.2.1 hi.2.2;rcases zFT (pars:=(zU l d).pars.toNat) (by omega) _ 0 _ (by omega) (λi hi=>by have:=hsc i hi;rwa[fp,show(zU l d).pars.toNat+i=(zU l d).pars.toNat+(0+i)by omega]at this) h with h|h
 ·rcases(zBX _ _ _ _).1 h with h|h;·exact .inl (zQq h)
  ·exact .inr h
 ·exact h
def i6(c:Nat)(a b:Int):Option (Int):=some a
theorem zQo{c a b}:Cz (i6 c a b) 142 [.cells [ai a,ai b]] [.mp 0 0] (λr=>ai r) (λ_=>[.cells [ai a,ai b]]) 0:=fw func142<|fE 1
def i7(d:Nat)(a c b:Int):Option (Int×Int):=some ((xF (a+b)),(xF (a+b)))
theorem zQn{d a c b}:Cz (i7 d a c b) 143 [.cells [ai a,ai c]] [.mp 0 0,ai b] (λr=>ai r.1) (λr=>[.cells [ai r.2,ai c]]) 0:=fw func143<|fE 1
def i9(d:Nat)(c a b:Int):Option (Int×Int):=some ((xF (a+b)),(xF (a+b)))
theorem zQm{d c a b}:Cz (i9 d c a b) 143 [.cells [ai c,ai a]] [.mp 0 1,ai b] (λr=>ai r.1) (λr=>[.cells [ai c,ai r.2]]) 0:=fw func143<|fE 1
def zWP(d:Nat)(b a c:Int):Option (Int×Int×Int):=if decide (c<0)then some (8,b,a)else i6 d b a>>=λr2=>if decide (c>r2)then some (8,b,a)else i7 d b a (xF (0-c))>>=λr5=>i9 d r5.2 a c>>=λr7=>some (0,r5.2,r7.2)
theorem yBR{d b a c}:Cz (zWP d b a c) 107 [.cells [ai b,ai a]] [.mp 0 0,ai c] (λr=>ai r.1) (λr=>[.cells [ai r.2.1,ai r.2.2]]) 0:=fw func107<|rB 1 (fE 0)<|rC 0 [0] zQo λ_=>rB 0 (fE 0)<|rC 1 [0] zQn λ_=>rC 0 [0] zQm λ_=>fE 0
def zFU(b:Nat)(M:xG)(a:Tm):Option (Int):=if a.k !=6 then some 0 else if decide (a.n>=(M.l.length:Int))then some 0 else zV M.l a.n>>=λx3=>some x3.kind
theorem zQl{b M a}:Cz (zFU b M a) 206 [mB M 1,mR M] [.mp 0 0,yY a] (λr=>ai r) (λ_=>[mB M 1,mR M]) 0:=fw func206<|rB 1 (fE 0)<|rB 3 (fE 0)<|rA 2 (wO (o:=.no)) λ_=>fE 1
def zMI(a:Nat)(M:xG)(b:Tm):Option (Int×yV×Bool):=A0 a b>>=λr1=>zFU a M r1.1>>=λr3=>if r3 !=2 then some (0,[],false)else zV M.own r1.1.n>>=λx6=>if(r1.2.length:Int)!=x6 then some (0,[],false)else some (r1.1.n,r1.2,true)
theorem zWQ{a M b}:Cz (zMI a M b) 187 [mB M 1,mR M] [.mp 0 0,yY b] (λr=>.tup [ai r.1,.sl (zC zA r.2.1) r.2.1.length .no,ab r.2.2]) (λ_=>[mB M 1,mR M]) 0:=fw func187<|rC 1 [] zFo λ_=>rC 4 [0,1] zQl λ_=>rB 0 (fE 0)<|rA 3 (gQ (o:=.no)) λ_=>rB 1 (fE 0)<|fE 1
def U7(b:Nat)(a:Tm):Option (Tm×Int):=dV b a>>=λr1=>if r1 then some (a,0)else some ((Tm.mk 0 0 []),2)
theorem zIA{b a}:Cz (U7 b a) 249 [] [yY a] (λr=>.tup [yY r.1,ai r.2]) (λ_=>[]) 0:=fw func249<|rK 1 [] aA (λ_=>fE 3) λ_=>fE 2
def e76(c:Nat)(a b:Int):Option (Int×Int×Int):=zWP c a b 1>>=λr1=>some (r1.1,r1.2.1,r1.2.2)
theorem c76{c a b}:Cz (e76 c a b) 76 [.cells [ai a,ai b]] [.mp 0 0] (λr=>ai r.1) (λr=>[.cells [ai r.2.1,ai r.2.2]]) 0:=fw func76<|rC 0 [0] yBR λ_=>fE 0
def zZI{ρ:Type}(f:Int->Int->Nat->Option ρ)(er:ρ->Int)(R:Int->Int->ρ)(k:Int):Prop:=(∀L U,k<=L->0<=U->L+U<=1099511627776->zH (f L U) (R (L-k) (U+k)))/\(∀L U,0<=L->L<k->0<=U->L+U<=1099511627776->∃r,zH (f L U) r/\er r=8)
def zWR{ρ:Type}(f:Int->Int->Nat->Option ρ)(er:ρ->Int)(l:Int):Prop:=∀U,0<=U->l+U<=1099511627776->∃r,zH (f l U) r/\er r=8
def Ou{ρ:Type}(f:Int->Int->Nat->Option ρ)(er:ρ->Int)(Q:(Int->Int->ρ)->Int->Prop)(S:Prop)(l:Int):Prop:=(∃R k,0<=k/\k<=l/\Q R k/\zZI f er R k)\/(zWR f er l/\S)
section
variable{ρ σ τ:Type}{er:ρ->Int}{er':σ->Int}{Q:(Int->Int->ρ)->Int->Prop}{Q':(Int->Int->σ)->Int->Prop}{S S':Prop}{l:Int}
theorem Ou.imp{f g:Int->Int->Nat->Option ρ}(h:Ou f er Q S l)(k:∀L U r,zH (f L U) r->zH (g L U) r):Ou g er Q S l:=by
 rcases h with⟨R,n,h0,h1,h2,h3,h4⟩|⟨h,s⟩;·exact .inl ⟨R,n,h0,h1,h2,λL U a b c=>k _ _ _ (h3 L U a b c),λL U a b c d=>by obtain⟨r,x,y⟩:=h4 L U a b c d;exact⟨r,k _ _ _ x,y⟩⟩
 ·exact .inr ⟨λU a b=>by obtain⟨r,x,y⟩:=h U a b;exact⟨r,k _ _ _ x,y⟩,s⟩
theorem Ou.mono{f:Int->Int->Nat->Option ρ}{Q2:(Int->Int->ρ)->Int->Prop}(h:Ou f er Q S l)(k:∀R n,0<=n->n<=l->Q R n->Q2 R n)(hs:S->S'):Ou f er Q2 S' l:=by
 rcases h with⟨R,n,h0,h1,h2,h3⟩|⟨h,s⟩;·exact .inl ⟨R,n,h0,h1,k R n h0 h1 h2,h3⟩
 ·exact .inr ⟨h,hs s⟩
theorem Ou.succ{f:Int->Int->Nat->Option ρ}(h:Ou (λL U q=>f L U (q+1)) er Q S l):Ou f er Q S l:=h.imp λ_ _ _ h=>h.succ
theorem Ou.pure{x:Option τ}{a:τ}{c:Int->Int->Nat->τ->Option ρ}(h:x=some a)(g:Ou (λL U q=>c L U q a) er Q S l):Ou (λL U q=>x>>=c L U q) er Q S l:=g.imp λ_ _ _ k=>zH.pure h k
theorem Ou.evt{x:Nat->Option τ}{a:τ}{c:Int->Int->Nat->τ->Option ρ}(h:zH x a)(g:Ou (λL U q=>c L U q a) er Q S l):Ou (λL U q=>x q>>=c L U q) er Q S l:=g.imp λ_ _ _ k=>zH.bind h k
theorem Ou.ite{b:Bool}{f g:Int->Int->Nat->Option ρ}(h:b=true->Ou f er Q S l)(k:b=false->Ou g er Q S l):Ou (λL U q=>if b=true then f L U q else g L U q) er Q S l:=by cases b with|true=>exact(h rfl).imp λ_ _ _ x=>zH.ifT rfl x|false=>exact(k rfl).imp λ_ _ _ x=>zH.ifF rfl x
theorem Ou.ifT{b:Bool}{f g:Int->Int->Nat->Option ρ}(h:b=true)(k:Ou f er Q S l):Ou (λL U q=>if b=true then f L U q else g L U q) er Q S l:=Ou.ite (λ_=>k) λh'=>by rw[h]at h';cases h'
theorem Ou.ifF{b:Bool}{f g:Int->Int->Nat->Option ρ}(h:b=false)(k:Ou g er Q S l):Ou (λL U q=>if b=true then f L U q else g L U q) er Q S l:=Ou.ite (λh'=>by rw[h]at h';cases h') λ_=>k
theorem Ou.ret{R:Int->Int->ρ}(h:0<=l)(k:Q R 0):Ou (λL U _=>some (R L U)) er Q S l:=.inl ⟨R,0,by omega,h,k,λL U _ _ _=>by rw[show L-0=L by omega,show U+0=U by omega];exact zH.ret,λL U _ _=>by omega⟩
theorem Ou.bind{f:Int->Int->Nat->Option ρ}{c:Nat->ρ->Option σ}(h:Ou f er Q S l)(hs:S->S')(he:∀r,er r=8->∃r',zH (λq=>c q r) r'/\er' r'=8)(hg:∀R k,0<=k->k<=l->Q R k->Ou (λL U q=>c q (R L U)) er' (λR' n=>Q' R' (k+n)) S' (l-k)):Ou (λL U q=>f L U q>>=c q) er' Q' S' l:=by
 rcases h with⟨R,k,h0,h1,h2,h3,h4⟩|⟨h,s⟩
 ·rcases hg R k h0 h1 h2 with⟨R',n,g0,g1,g2,g3,g4⟩|⟨g,s⟩
  ·refine .inl ⟨R',k+n,by omega,by omega,g2,λL U a b c=>?_,λL U a b c d=>?_⟩
   ·have:=g3 (L-k) (U+k) (by omega) (by omega) (by omega);rw[show L-(k+n)=L-k-n by omega,show U+(k+n)=U+k+n by omega];exact(h3 L U (by omega) b c).bind this
   ·by_cases e:L<k
    ·obtain⟨r,x,y⟩:=h4 L U a e c d;obtain⟨r',x',y'⟩:=he r y;exact⟨r',x.bind x',y'⟩
    ·obtain⟨r',x',y'⟩:=g4 (L-k) (U+k) (by omega) (by omega) (by omega) (by omega);exact⟨r',(h3 L U (by omega) c d).bind x',y'⟩
  ·refine .inr ⟨λU a b=>?_,s⟩;obtain⟨r',x',y'⟩:=g (U+k) (by omega) (by omega);exact⟨r',(h3 l U h1 a b).bind x',y'⟩
 ·refine .inr ⟨λU a b=>?_,hs s⟩;obtain⟨r,x,y⟩:=h U a b;obtain⟨r',x',y'⟩:=he r y;exact⟨r',x.bind x',y'⟩
end
theorem f9(L U:Int)(h0:0<=L)(h1:0<=U)(h2:L+U<=1099511627776):zH (λq=>e76 q L U) (if 1<=L then(0,L-1,U+1)else(8,L,U)):=by
 simp only[e76,zWP,i6,i7,i9];refine zH.bind (a:=if 1<=L then(0,L-1,U+1)else(8,L,U)) ?_ zH.ret;refine zH.ifF (by decide) (zH.pure rfl ?_);by_cases h:1<=L
 ·rw[if_pos h];refine zH.ifF (decide_eq_false (by omega)) (zH.pure rfl (zH.pure rfl (zH.ret.eq ?_)));have e:xF (0-1)=-1:=by decide
  rw[e,yQ (x:=U+1) (by omega) (by omega)];show((0:Int),xF (L+-1),U+1)=_;rw[yQ (by omega) (by omega)];rfl
 ·rw[if_neg h];exact zH.ifT (decide_eq_true (by omega)) zH.ret
theorem zKc(l:Int)(h:0<=l):Ou (λL U q=>e76 q L U) (λr=>r.1) (λR k=>k=1/\R=λL U=>(0,L,U)) (l<1) l:=by
 by_cases h1:1<=l;·refine .inl ⟨λL U=>(0,L,U),1,by omega,h1,⟨rfl,rfl⟩,λL U a b c=>(f9 L U (by omega) b c).eq (if_pos a),λL U a b c d=>⟨_,f9 L U a c d,?_⟩⟩;rw[if_neg (by omega)]
 ·refine .inr ⟨λU a b=>⟨_,f9 l U h a b,?_⟩,by omega⟩;rw[if_neg h1]
def pE(l:List yL)(t:Tm):Int:=if t.k=6 then(if t.n<l.length then(zU l t.n).kind else 0)else 0
theorem eG(l:List yL)(t:Tm)(h:0<=t.n):zH (λq=>zFU q (xB l) t) (pE l t):=by
 simp only[zFU,xB];unfold pE;by_cases k:t.k=6
 ·rw[if_pos k];refine zH.ifF (by simp[k]) ?_;by_cases n:t.n<l.length;·rw[if_pos n];exact zH.ifF (decide_eq_false (by omega)) (zH.pure (yU h n) zH.ret)
  ·rw[if_neg n];exact zH.ifT (decide_eq_true (by omega)) zH.ret
 ·rw[if_neg k];exact zH.ifT (by simp[k]) zH.ret
theorem sM{l:List yL}{t:Tm}{k:Int}(h:pE l t=k)(hk:k≠0):t.k=6/\t.n<l.length/\(zU l t.n).kind=k:=by
 unfold pE at h;split at h
 ·rename_i a;split at h;·rename_i b;exact⟨a,b,h⟩
  ·exact absurd h.symm hk
 ·exact absurd h.symm hk
def zWS(t:Tm):Tm×Int:=if zF t=true then(t,0)else(zT,2)
theorem zIB(t:Tm)(ho:t.Ok):zH (λq=>U7 q t) (zWS t):=by
 simp only[U7];refine(xI t ho).bind ?_;unfold zWS;by_cases h:zF t=true;·rw[if_pos h,if_pos h];exact zH.ret
 ·rw[if_neg h,if_neg h];exact zH.ret
theorem eH{t:Tm}(h:xZ t=true):0<=t.n:=by obtain⟨k,n,l⟩:=t;exact(fY (uD h).1).1
theorem zTB{l:List yL}{i:Int}(h0:0<=i)(h1:i<l.length):zV (xB l).own i=some (rR (zU l i)):=by have h:=yU (l:=l) h0 h1;unfold zV at h⊢;rw[if_pos h0]at h⊢;show(l.map rR)[i.toNat]?=_;rw[List.getElem?_map,h];rfl
theorem zQk{l:List yL}{i:Int}(h0:0<=i)(h1:i<l.length):zV (xB l).args i=some (wU (zU l i)):=by have h:=yU (l:=l) h0 h1;unfold zV at h⊢;rw[if_pos h0]at h⊢;show(l.map wU)[i.toNat]?=_;rw[List.getElem?_map,h];rfl
def uA(l:List yL)(t:Tm):Prop:=pE l (yN t)=2/\(xD t).length=uY (zU l (yN t).n).type
instance(l:List yL)(t:Tm):Decidable (uA l t):=inferInstanceAs(Decidable (_/\_))
def kA(l:List yL)(t:Tm):Int×List Tm×Bool:=if uA l t then((yN t).n,xD t,true)else(0,[],false)
theorem X6(l:List yL)(t:Tm)(hs:zF t=true):zH (λq=>zMI q (xB l) t) (kA l t):=by
 simp only[zMI];have hn:=eH (zM (tZ hs)).2.2;refine(lM t hs).bind ((eG l _ hn).bind ?_);by_cases h:pE l (yN t)=2
 ·have hk:=sM h (by decide);refine zH.ifF (by simp[h]) (zH.pure (zTB hn hk.2.1) ?_);have e:rR (zU l (yN t).n)=uY (zU l (yN t).n).type:=by unfold rR;rw[if_pos hk.2.2]
  by_cases h2:(xD t).length=uY (zU l (yN t).n).type
  ·have c:kA l t=((yN t).n,xD t,true):=if_pos ⟨h,h2⟩;rw[c];exact zH.ifF (by rw[e];simp[h2]) zH.ret
  ·have c:kA l t=(0,[],false):=if_neg (λh'=>h2 h'.2);rw[c];exact zH.ifT (by rw[e];simp;omega) zH.ret
 ·have c:kA l t=(0,[],false):=if_neg (λh'=>h h'.1);rw[c];exact zH.ifT (by simp[h]) zH.ret
theorem vY{l:List yL}{t:Tm}(hs:zF t=true)(h:uA l t):0<=(yN t).n/\(yN t).n<l.length/\(zU l (yN t).n).kind=2/\(xD t).length=uY (zU l (yN t).n).type:=by have hk:=sM h.1 (by decide);exact⟨eH (zM (tZ hs)).2.2,hk.2.1,hk.2.2,h.2⟩
def H3(b:Nat)(a:Int)(d:Bool)(e f g:Int)(m:yV)(c:Tm)(n:Int):Option (Tm×Int×Bool):=zMy b c>>=λr1=>if decide ((xF (a-r1))<0)then zDo b 0>>=λr4=>some (r4,(xF (a-r1)),true)else zIv b c n>>=λr6=>if r6.2 !=0 then zDo b 0>>=λr9=>some (r9,(xF (a-r1)),true)else some (r6.1,(xF (a-r1)),d)
theorem zQj{b a d e f g m c n}:Cz (H3 b a d e f g m c n) 139 [.cells [ai a,ab d,.clo 218 [] [.mp 1 0,.mp 2 0,.mp 3 0]],.cells [ai e],.cells [.mp 0 0],.cells [ai f,ai g,zP zA m .no]] [.mp 0 0,yY c,ai n] (λr=>yY r.1) (λr=>[.cells [ai r.2.1,ab r.2.2,.clo 218 [] [.mp 1 0,.mp 2 0,.mp 3 0]],.cells [ai e],.cells [.mp 0 0],.cells [ai f,ai g,zP zA m .no]]) 0:=fw func139<|rS (gP 0)<|rC 1 [] zWz λ_=>rB 3 (rC 1 [] zIw λ_=>fE 1)<|rC 1 [] zSe λ_=>rB 3 (rC 1 [] zIw λ_=>fE 1)<|fE 2
def H4(p:Nat)(g:Tm)(m a b:Int)(c:Bool)(d e:Int)(f:yV):Option (Tm×Bool×Int×Bool):=if g.k !=8 then some ((Tm.mk 0 0 []),false,b,c)else if g.n !=a then some ((Tm.mk 0 0 []),false,b,c)else H3 p b c a d e f (Tm.mk d e f) m>>=λr3=>some (r3.1,true,r3.2.1,r3.2.2)
theorem zQi{p g m a b c d e f}:Cz (H4 p g m a b c d e f) 218 [.cells [ai a],.cells [.mp 2 0],.cells [ai b,ab c,.clo 218 [] [.mp 0 0,.mp 1 0,.mp 3 0]],.cells [ai d,ai e,zP zA f .no]] [yY g,ai m,.mp 0 0,.mp 1 0,.mp 3 0] (λr=>.tup [yY r.1,ab r.2.1]) (λr=>[.cells [ai a],.cells [.mp 2 0],.cells [ai r.2.2.1,ab r.2.2.2,.clo 218 [] [.mp 0 0,.mp 1 0,.mp 3 0]],.cells [ai d,ai e,zP zA f .no]]) 0:=fw func218<|rB 1 (fE 1)<|rB 2 (fE 1)<|rC 2 [2,0,1,3] zQj λ_=>fE 1
mutual def nT:Nat->Int->Bool->Int->Int->Int->yV->Tm->Int->Option (Tm×Int×Bool)|0,_,_,_,_,_,_,_,_=>none|s+1,u,t,e,f,g,m,d,p=>if t then zDo s 0>>=λr2=>some (r2,u,t)else H4 s d p e u t f g m>>=λr4=>if r4.2.1 then some (r4.1,r4.2.2.1,r4.2.2.2)else if decide ((xF (r4.2.2.1-1))<0)then uQ s e f g m d p 0 (xF (r4.2.2.1-1)) true []else uQ s e f g m d p 0 (xF (r4.2.2.1-1)) r4.2.2.2 []def uQ:Nat->Int->Int->Int->yV->Tm->Int->Int->Int->Bool->yV->Option (Tm×Int×Bool)
 |0,_,_,_,_,_,_,_,_,_,_=>none|s+1,e,f,g,m,d,p,q,a,b,c=>if decide (q<(d.sub.length:Int))then zV d.sub q>>=λx9=>if q==1 then if d.k !=5 then nT s a b e f g m x9 (xF (p+1))>>=λr13=>yZ 40 c [r13.1]>>=λl15=>uQ s e f g m d p (xF (q+1)) r13.2.1 r13.2.2 l15 else nT s a b e f g m x9 p>>=λr17=>yZ 40 c [r17.1]>>=λl19=>uQ s e f g m d p (xF (q+1)) r17.2.1 r17.2.2 l19 else nT s a b e f g m x9 p>>=λr21=>yZ 40 c [r21.1]>>=λl23=>uQ s e f g m d p (xF (q+1)) r21.2.1 r21.2.2 l23 else some ((Tm.mk d.k d.n c),a,b)end
theorem bQ:∀s:Nat,(∀u t e f g m d p,Cz (nT s u t e f g m d p) 181 [.cells [ai u,ab t,.clo 218 [] [.mp 1 0,.mp 2 0,.mp 3 0]],.cells [ai e],.cells [.mp 0 0],.cells [ai f,ai g,zP zA m .no]] [.mp 0 0,yY d,ai p] (λr=>yY r.1) (λr=>[.cells [ai r.2.1,ab r.2.2,.clo 218 [] [.mp 1 0,.mp 2 0,.mp 3 0]],.cells [ai e],.cells [.mp 0 0],.cells [ai f,ai g,zP zA m .no]]) 0)/\(∀e f g m d p q a b c,Lz (uQ s e f g m d p q a b c) 4 f181 (pt 262069 f181) (λj=>sp j 79 0 [(0,.mp 0 0),(2,ai p),(4,.mp 4 0),(6,.mp 5 0),(9,.mp 6 0),(51,zP zA d.sub .no),(52,ai (d.sub.length:Int)),(53,ai q)]) ⟨[(0,.cells [ai a,ab b,.clo 218 [] [.mp 1 0,.mp 2 0,.mp 3 0]]),(1,.cells [ai e]),(2,.cells [.mp 0 0]),(3,.cells [ai f,ai g,zP zA m .no]),(4,.cells [ai d.k,ai d.n,zP zA d.sub .no]),(5,.cells [ai 0,ai 0,zP zA ([]:yV) .nl]),(6,.cells [ai d.k,ai d.n,zP zA c (.st 0 3)])],7,[0],1,[]⟩ (λr=>yY r.1) (λr=>[.cells [ai r.2.1,ab r.2.2,.clo 218 [] [.mp 1 0,.mp 2 0,.mp 3 0]],.cells [ai e],.cells [.mp 0 0],.cells [ai f,ai g,zP zA m .no]]) 0 [.blk 0,.seq (pt 4095 f181)]):=wF ⟨λ_ _ _ _ _ _ _ _=>cN,λ_ _ _ _ _ _ _ _ _ _=>lN⟩ λs ih=>⟨λu t e f g m d p=>fw func181<|rB 0 (rC 0 [] zIw λ_=>fE 1)<|rC 2 [1,2,0,3] zQi λ_=>rB 1 (fE 3)<|rB 5 (fH 6 [(some 7,2,3)] [0,1,2,3,4,5,7] [0] [0,2,4,6,9,51,52,53] (ih.2 _ _ _ _ _ _ _ _ _ _))<|fH 5 [(some 7,2,3)] [0,1,2,3,4,5,7] [0] [0,2,4,6,9,51,52,53] (ih.2 _ _ _ _ _ _ _ _ _ _),λe f g m d p q a b c=>lw λ_=>rB 0 (rA 0 (wE (o:=.no)) λ_=>rB 2 (rB 1 (rS (gP 1)<|rC 1 [0,1,2,3] (ih.1 _ _ _ _ _ _ _ _) λr13=>rS (oS 0 (xR wC [r13.1]))<|rW (λh16=>oP 0 (vZ h16 (by simp))) λ_=>lH 2 [] [0,1,2,3,4,5,6] [1] [0,2,4,6,9,51,52,53] (ih.2 _ _ _ _ _ _ _ _ _ _))<|rS (gP 0)<|rC 1 [0,1,2,3] (ih.1 _ _ _ _ _ _ _ _) λr17=>rS (oS 0 (xR wC [r17.1]))<|rW (λh20=>oP 0 (vZ h20 (by simp))) λ_=>lH 2 [] [0,1,2,3,4,5,6] [1] [0,2,4,6,9,51,52,53] (ih.2 _ _ _ _ _ _ _ _ _ _))<|rS (gP 0)<|rC 1 [0,1,2,3] (ih.1 _ _ _ _ _ _ _ _) λr21=>rS (oS 0 (xR wC [r21.1]))<|rW (λh24=>oP 0 (vZ h24 (by simp))) λ_=>lH 2 [] [0,1,2,3,4,5,6] [1] [0,2,4,6,9,51,52,53] (ih.2 _ _ _ _ _ _ _ _ _ _))<|lE 2⟩
theorem zQh{s u t e f g m d p}:Cz (nT s u t e f g m d p) 181 [.cells [ai u,ab t,.clo 218 [] [.mp 1 0,.mp 2 0,.mp 3 0]],.cells [ai e],.cells [.mp 0 0],.cells [ai f,ai g,zP zA m .no]] [.mp 0 0,yY d,ai p] (λr=>yY r.1) (λr=>[.cells [ai r.2.1,ab r.2.2,.clo 218 [] [.mp 1 0,.mp 2 0,.mp 3 0]],.cells [ai e],.cells [.mp 0 0],.cells [ai f,ai g,zP zA m .no]]) 0:=(bQ _).1 _ _ _ _ _ _ _ _
theorem zFW:∀{l:List Tm}{t:Tm},kQ l->t.Ok->kQ (l++[t])|[],t,_,h=>⟨h,trivial⟩|a::l,t,h,ht=>⟨h.1,zFW h.2 ht⟩
def zFX(g:Nat)(a:Int)(b:Bool)(c d e:Int)(f:yV):Option (Unit):=some ()
theorem zQg{g a b c d e f}:Cz (zFX g a b c d e f) 217 [.cells [ai a,ab b,.val .nilFunc],.cells [ai c],.cells [ai d,ai e,zP zA f .no]] [.mp 0 0,.mp 1 0,.mp 2 0] (λ_=>.clo 218 [] [.mp 1 0,.mp 3 0,.mp 2 0]) (λ_=>[.cells [ai a,ab b,.val .nilFunc],.cells [ai c],.cells [ai d,ai e,zP zA f .no],.cells [.mp 0 0]]) 0:=fw func217<|fF 0 [0,1,2,3]
def d7(e:Nat)(f:Tm)(a b c:Int)(d:yV):Option (Tm×Int):=zFX e 8192 false a b c d>>=λr1=>nT e 8192 false a b c d f 0>>=λr3=>if r3.2.2 then some ((Tm.mk 0 0 []),2)else dV e r3.1>>=λr6=>if r6 then some (r3.1,0)else some ((Tm.mk 0 0 []),2)
theorem zQf{e f a b c d}:Cz (d7 e f a b c d) 135 [.cells [ai a],.cells [ai b,ai c,zP zA d .no]] [yY f,.clo 217 [] [.mp 0 0,.mp 1 0]] (λr=>.tup [yY r.1,ai r.2]) (λ_=>[.cells [ai a],.cells [ai b,ai c,zP zA d .no]]) 0:=fw func135<|rC 0 [4,0,1] zQg λ_=>rC 2 [4,0,5,1] zQh λ_=>rB 1 (fE 1)<|rK 1 [] aA (λ_=>fE 3) λ_=>fE 2
def zTC(b:Nat)(a:Int):Option (Bool):=if decide (a>=0)then some (decide (a<=1048576))else some false
theorem yBS{b a}:Cz (zTC b a) 216 [] [ai a] (λr=>ab r) (λ_=>[]) 0:=fw func216<|rB 0 (fE 1)<|fE 0
def zFY(b:Nat)(c a:Tm)(d:Int):Option (Tm×Int):=dV b c>>=λr1=>if r1 then dV b a>>=λr4=>if r4 then zTC b d>>=λr7=>if r7 then d7 b c d a.k a.n a.sub>>=λr10=>some (r10.1,r10.2)else some ((Tm.mk 0 0 []),5)else some ((Tm.mk 0 0 []),5)else some ((Tm.mk 0 0 []),5)
theorem zQe{b c a d}:Cz (zFY b c a d) 192 [] [yY c,yY a,ai d] (λr=>.tup [yY r.1,ai r.2]) (λ_=>[]) 0:=fw func192<|rK 1 [] aA (λ_=>rK 2 [] aA (λ_=>rK 2 [] yBS (λ_=>rC 2 [2,1] zQf λ_=>fE 3) λ_=>fE 2) λ_=>fE 2) λ_=>fE 2
mutual def kV(a:Tm)(n:Int):Tm->Int->Tm|.mk k m l,b=>if k=8/\m=n then A1 a 0 0 b else .mk k m (naL a n l k 0 b)def naL(a:Tm)(n:Int):List Tm->Int->Nat->Int->List Tm|[],_,_,_=>[]|t::l,k,i,b=>kV a n t (wS k i b)::naL a n l k (i+1) b end
theorem zFZ(q0:Int)(q1:Bool)(q2 q3 q4:Int)(q5:List Tm)(a:Tm)(b:Int)(ho:a.Ok):zG (λq=>H3 q q0 q1 q2 q3 q4 q5 a b) λr=>r.1.Ok/\(r.2.2=false->q1=false/\r.1=A1 a 0 0 b):=by
 simp only[H3];refine zG.bind (P:=λ_=>True) ((zDp a ho).tot trivial) λ_ _=>zG.ite (λ_=>?_) λ_=>?_;·exact zG.bind (P:=λy=>y.Ok) ((cA 0).tot (wH 2 0)) λy hy=>zG.ret ⟨hy,λh=>by cases h⟩
 ·refine zG.bind (P:=λy=>y=uP a b 0) ((zKy a b ho).tot rfl) λy hy=>zG.ite (λ_=>?_) λh=>zG.ret ?_;·exact zG.bind (P:=λy=>y.Ok) ((cA 0).tot (wH 2 0)) λy hy=>zG.ret ⟨hy,λh=>by cases h⟩
  ·subst hy;exact⟨jI a b 0 ho,λhq=>⟨hq,(eC (by simpa using h)).2.2.2.2⟩⟩
theorem zGz(p0:Tm)(p1 q2 q3:Int)(q4:Bool)(a:Tm)(ho:a.Ok):zG (λq=>H4 q p0 p1 q2 q3 q4 a.k a.n a.sub) λr=>r.1.Ok/\(r.2.1=false->¬(p0.k=8/\p0.n=q2)/\r.2.2.1=q3/\r.2.2.2=q4)/\(r.2.1=true->p0.k=8/\p0.n=q2/\(r.2.2.2=false->q4=false/\r.1=A1 a 0 0 p1)):=by
 simp only[H4,rD];refine zG.ite (λh=>zG.ret ⟨wH 0 0,λ_=>⟨λh'=>?_,rfl,rfl⟩,λh=>by cases h⟩) λh8=>zG.ite (λh=>zG.ret ⟨wH 0 0,λ_=>⟨λh'=>?_,rfl,rfl⟩,λh=>by cases h⟩) λhn=>?_;·rw[h'.1]at h;simp at h
 ·rw[h'.2]at h;simp at h
 ·exact(zFZ _ _ _ _ _ _ a p1 ho).bind λr hr=>zG.ret ⟨hr.1,λh=>(by cases h),λ_=>⟨by simpa using h8,by simpa using hn,hr.2⟩⟩
mutual theorem cT(a:Tm)(ha:a.Ok)(n:Int):∀(t:Tm)(b left:Int)(long:Bool),xZ t=true->0<=b->b+t.high<=1152921504606846976->zG (λq=>nT q left long n a.k a.n a.sub t b) λr=>r.1.Ok/\(r.2.2=false->long=false/\r.1=kV a n t b)
 |.mk k m l,b,left,long,hg,hb,hb2=>by
  have hh:=uD hg;have hn:=fY hh.1;rw[Tm.high]at hb2;refine zG.succ ?_;simp only[nT];refine zG.ite (λhl=>zG.bind (P:=λy=>y.Ok) ((cA 0).tot (wH 2 0)) λy hy=>zG.ret ⟨hy,λh=>by rw[hl]at h;cases h⟩) λhl=>?_;refine(zGz (.mk k m l) b n left long a ha).bind λr hr=>zG.ite (λh=>zG.ret ⟨hr.1,λh2=>?_⟩) λh=>?_
  ·obtain⟨h3,h4,h5⟩:=hr.2.2 h;refine⟨(h5 h2).1,?_⟩;rw[kV,if_pos ⟨h3,h4⟩];exact(h5 h2).2
  ·obtain⟨h3,h4,h5⟩:=hr.2.1 (by simpa using h);have e:kV a n (.mk k m l) b=.mk k m (naL a n l k 0 b):=by rw[kV];exact if_neg h3
   refine zG.ite (λ_=>?_) λ_=>?_;·exact(A6 a ha n l (.mk k m l) b 0 _ true [] rfl hn.2.2.2.2 hh.2 rfl (by simp) trivial hb (by omega)).mono λr hr=>⟨hr.1,λh=>by cases(hr.2 h).1⟩
   ·refine(A6 a ha n l (.mk k m l) b 0 _ _ [] rfl hn.2.2.2.2 hh.2 rfl (by simp) trivial hb (by omega)).mono λr hr=>⟨hr.1,λh=>⟨by rw[<-h5];exact(hr.2 h).1,?_⟩⟩;rw[(hr.2 h).2,e];rfl theorem A6(a:Tm)(ha:a.Ok)(n:Int):∀(r:List Tm)(p:Tm)(b:Int)(v:Nat)(left:Int)(long:Bool)(acc:List Tm),p.sub.drop v=r->p.sub.length<=2->pP r=true->acc.length=v->v<=p.sub.length->kQ acc->0<=b->b+1+pO r<=1152921504606846976->zG (λq=>uQ q n a.k a.n a.sub p b (v:Int) left long acc) λx=>x.1.Ok/\(x.2.2=false->long=false/\x.1=.mk p.k p.n (acc++naL a n r p.k v b))
 |[],p,b,v,left,long,acc,hd,hl,hr,hac,hv,hb,h0,h1=>by
  refine zG.succ ?_;simp only[uQ];refine zG.ite (λh=>?_) λ_=>zG.ret ⟨?_,λh=>⟨h,?_⟩⟩;·rw[yB hd]at h;cases h
  ·show(Tm.mk p.k p.n acc).Ok;rw[Tm.Ok];exact⟨by omega,hb⟩
  ·rw[naL,List.append_nil]|t::r,p,b,v,left,long,acc,hd,hl,hr,hac,hv,hb,h0,h1=>by
  have hlt:=yF hd;have hg:=vI hr;rw[pO]at h1;have next:∀(y:Tm×Int×Bool),y.1.Ok/\(y.2.2=false->long=false/\y.1=kV a n t (wS p.k v b))->zG (λq=>yZ 40 acc [y.1]>>=λl=>uQ q n a.k a.n a.sub p b (xF ((v:Int)+1)) y.2.1 y.2.2 l) λx=>x.1.Ok/\(x.2.2=false->long=false/\x.1=.mk p.k p.n (acc++naL a n (t::r) p.k v b)):=λy hy=>by rw[zW v (by omega)];refine zG.pure (yG (by simp;omega)) ((A6 a ha n r p b (v+1) _ _ _ (zS hd) hl hg.2 (by simp;omega) hlt (zFW hb hy.1) h0 (by omega)).mono λx hx=>⟨hx.1,λh=>?_⟩);obtain⟨h2,h3⟩:=hx.2 h;obtain⟨h4,h5⟩:=hy.2 h2;refine⟨h4,?_⟩;rw[h3,h5,naL];simp
  refine zG.succ ?_;simp only[uQ];refine zG.ite (λ_=>zG.pure (zZ hd) (zG.ite (λh2=>zG.ite (λh5=>?_) λh5=>?_) λh2=>?_)) λh=>?_
  ·have hv1:v=1:=by have:=eq_of_beq h2;omega
   have e:wS p.k v b=b+1:=by unfold wS;simp at h5;simp[h5,hv1]
   rw[yQ (x:=b+1) (by omega) (by omega)];rw[e]at next;exact(cT a ha n t _ left long hg.1 (by omega) (by omega)).bind λy hy=>next y hy
  ·have e:wS p.k v b=b:=by unfold wS;simp at h5;simp[h5]
   rw[e]at next;exact(cT a ha n t _ left long hg.1 h0 (by omega)).bind λy hy=>next y hy
  ·have e:wS p.k v b=b:=by unfold wS;rw[if_neg];intro h;have h1:=h.1;subst h1;simp at h2
   rw[e]at next;exact(cT a ha n t _ left long hg.1 h0 (by omega)).bind λy hy=>next y hy
  ·rw[yA hd]at h;cases h end
def NaX(t a:Tm)(n:Int)(r:Tm×Int):Prop:=r.1.Ok/\r.2≠8/\(r.2=0->zF t=true/\zF a=true/\0<=n/\n<=1048576/\zF (kV a n t 0)=true/\r.1=kV a n t 0)/\(r.2=0\/r.2=2\/r.2=5)/\(zF t=true->zF a=true->0<=n->n<=1048576->r.2≠5)
theorem lR(t a:Tm)(n:Int)(ht:t.Ok)(ha:a.Ok):zG (λq=>zFY q t a n) (NaX t a n):=by
 have z:=wH 0 0;simp only[zFY];refine zG.bind (P:=λb=>b=zF t) ((xI t ht).tot rfl) λb hb=>zG.ite (λh=>?_) λh=>zG.ret ⟨z,by decide,λh=>(by cases h),.inr (.inr rfl),λh1=>by rw[hb,h1]at h;cases h⟩;refine zG.bind (P:=λb=>b=zF a) ((xI a ha).tot rfl) λb2 hb2=>zG.ite (λh2=>?_) λh2=>zG.ret ⟨z,by decide,λh=>(by cases h),.inr (.inr rfl),λ_ h1=>by rw[hb2,h1]at h2;cases h2⟩;have F:zG (λq=>zTC q n) λb=>(b=true->0<=n/\n<=1048576)/\(b=false->¬(0<=n/\n<=1048576)):=by simp only[zTC];exact zG.ite (λh=>zG.ret ⟨λh2=>⟨by simpa using h,by simpa using h2⟩,λh2 h3=>by simp at h2;omega⟩) λh=>zG.ret ⟨λh=>(by cases h),λ_ h3=>by simp at h;omega⟩
 refine F.bind λb3 h3=>zG.ite (λh4=>?_) λh4=>zG.ret ⟨z,by decide,λh=>(by cases h),.inr (.inr rfl),λ_ _ g1 g2=>absurd ⟨g1,g2⟩ (h3.2 (by simpa using h4))⟩;rw[h]at hb;rw[h2]at hb2;have hs:=zM hb.symm;refine zG.bind (P:=λr=>NaX t a n r/\r.2≠5) ?_ λr hr=>zG.ret ⟨hr.1.1,hr.1.2.1,hr.1.2.2.1,hr.1.2.2.2.1,λ_ _ _ _=>hr.2⟩;have long:NaX t a n (zT,2):=⟨z,by decide,λh=>(by cases h),.inr (.inl rfl),λ_ _ _ _=>by decide⟩;simp only[d7];refine zG.pure rfl ((cT a ha n t 0 8192 false hs.2.2 (by omega) (by omega)).bind λr hr=>zG.ite (λ_=>zG.ret ⟨long,by decide⟩) λh5=>?_);refine zG.bind (P:=λb=>b=zF r.1) ((xI r.1 hr.1).tot rfl) λb6 hb6=>zG.ite (λh6=>zG.ret ?_) λ_=>zG.ret ⟨long,by decide⟩;have hx:=(hr.2 (by simpa using h5)).2;refine⟨⟨hr.1,(by show(0:Int)≠8;decide),λ_=>⟨hb.symm,hb2.symm,(h3.1 h4).1,(h3.1 h4).2,?_,hx⟩,.inl rfl,λ_ _ _ _=>(by show(0:Int)≠5;decide)⟩,(by show(0:Int)≠5;decide)⟩;rw[<-hx,<-hb6];exact h6
mutual theorem zDB{P:Int->Int->Prop}{a:Tm}{n:Int}(ha:xS P a):∀(t:Tm)(b:Int),xS (λk m=>P k m\/(k=8/\m=n)) t->xS P (kV a n t b)
 |.mk k m l,b,h=>by
  rw[xS]at h;rw[kV];by_cases h1:k=8/\m=n;·rw[if_pos h1];exact G7 a 0 0 b ha
  ·rw[if_neg h1,xS];refine⟨?_,zGy ha l k 0 b h.2⟩;rcases h.1 with h2|h2|h2;·exact .inl h2
   ·exact .inr h2
   ·exact absurd h2 h1 theorem zGy{P:Int->Int->Prop}{a:Tm}{n:Int}(ha:xS P a):∀(l:List Tm)(k:Int)(i:Nat)(b:Int),vD (λk m=>P k m\/(k=8/\m=n)) l->vD P (naL a n l k i b)|[],_,_,_,_=>by rw[naL,vD];trivial|t::l,k,i,b,h=>by rw[vD]at h;rw[naL,vD];exact⟨zDB ha t _ h.1,zGy ha l k (i+1) b h.2⟩end
mutual theorem zQd{a:Tm}{n:Int}(ha:∀j,¬j∈tV a 0):∀(t:Tm)(b j:Int),0<=b->j∈tV (kV a n t b) b->j∈tV t b
 |.mk k m l,b,j,hb,h=>by
  rw[kV]at h;by_cases h1:k=8/\m=n
  ·rw[if_pos h1]at h;exact absurd (zFF a 0 b j hb (by rwa[Int.zero_add])) (ha j)
  ·rw[if_neg h1]at h;by_cases hk:k=1;·subst hk;exact qG.2 (qG.1 h)
   ·exact(tW hk).2 (zQc ha l k 0 b j hb ((tW hk).1 h))theorem zQc{a:Tm}{n:Int}(ha:∀j,¬j∈tV a 0):∀(l:List Tm)(k:Int)(i:Nat)(b j:Int),0<=b->j∈lvL (naL a n l k i b) k i b->j∈lvL l k i b
 |[],k,i,b,j,hb,h=>by rw[naL]at h;exact absurd h pS|t::l,k,i,b,j,hb,h=>by
  rw[naL]at h;rcases vE.1 h with h|h;·exact vE.2 (.inl (zQd ha t _ j (by have:=zKo k i b;omega) h))
  ·exact vE.2 (.inr (zQc ha l k (i+1) b j hb h))end
mutual theorem zKa:∀(t:Tm)(b m:Int),xZ t=true->0<=m->(∀j∈tV t b,j<m)->gN t b<=m
 |.mk k n l,b,m,hg,hm,h=>by
  rw[gN];by_cases hk:k=1
  ·subst hk;rw[if_pos rfl];by_cases hb:b<=n;·have:=h (n-b) (qG.2 ⟨hb,rfl⟩);omega
   ·omega
  ·rw[if_neg hk];have hh:=uD hg;have hs:=sY hh.1;refine zGx l k 0 b m hh.2 ?_ hm λj hj=>h j ((tW hk).2 hj);have e1:k=3\/k=4\/k=5\/l.length<=1:=by
    by_cases h7:k=7
    ·obtain⟨x,hx,-⟩:=hs.2.2.2.2.2.2.1 h7;have hx':l=[x]:=hx;rw[hx'];simp
    ·by_cases h1:k=1\/k=2\/k=6\/k=8
     ·have hx:=hs.2.2.2.2.2.2.2.1 h1;have hx':l=[]:=hx;rw[hx'];simp
     ·have a1:1<=k:=hs.1;have a2:k<=8:=hs.2.1;omega
   omega theorem zGx:∀(l:List Tm)(k:Int)(i:Nat)(b m:Int),pP l=true->(k=3\/k=4\/k=5\/i+l.length<=1)->0<=m->(∀j∈lvL l k i b,j<m)->K5 l k i b<=m|[],k,i,b,m,hg,hl,hm,h=>by rw[K5];exact hm|t::l,k,i,b,m,hg,hl,hm,h=>by rw[K5];have hc:=vI hg;rw[List.length_cons]at hl;have h1:=zKa t (wS k i b) m hc.1 hm λj hj=>h j (vE.2 (.inl hj));have h2:=zGx l k (i+1) b m hc.2 (by omega) hm λj hj=>h j (vE.2 (.inr hj));rw[zPV (by omega)]at h1;omega end
theorem X7{t:Tm}(hs:zF t=true):gN t 0<=0↔∀j,¬j∈tV t 0:=by
 have hg:=(zM hs).2.2;constructor
 ·intro h j hj;have:=zIi t 0 j hg hj;have:=j5 t 0 j hj;omega
 ·exactλh=>zKa t 0 0 hg (by omega) λj hj=>absurd hj (h j)
def uH(l:List yL)(t:Tm):Prop:=rQ t 0 l.length=true
theorem eI{l:List yL}{t:Tm}:uH l t↔zF t=true/\(∀j,¬j∈tV t 0)/\xS (λk n=>k=6\/k=7->n<l.length) t:=by
 unfold uH rQ;rw[<-eE (by decide) (by decide)];constructor
 ·intro h;simp only[Bool.and_eq_true,List.all_eq_true,decide_eq_true_eq]at h;exact⟨h.1.1,(X7 h.1.1).1 h.1.2,h.2⟩
 ·rintro⟨h1,h2,h3⟩;simp only[Bool.and_eq_true,List.all_eq_true,decide_eq_true_eq];exact⟨⟨h1,(X7 h1).2 h2⟩,h3⟩
theorem uH.na{l:List yL}{t a:Tm}{n:Int}(h:uH l t)(ha:uH l a)(hs:zF (kV a n t 0)=true):uH l (kV a n t 0):=by have h1:=eI.1 h;have h2:=eI.1 ha;exact eI.2 ⟨hs,λj hj=>h1.2.1 j (zQd h2.2.1 t 0 j (by omega) hj),zDB h2.2.2 t 0 (sA (λ_ _ h=>.inl h) h1.2.2)⟩
mutual def zGw:Nat->xG->Tm->Int->Int->Option (Tm×Int×Int×Int)|0,_,_,_,_=>none|b+1,M,a,c,d=>H5 b M c d a.k a.n a.sub def H5:Nat->xG->Int->Int->Int->Int->yV->Option (Tm×Int×Int×Int)
 |0,_,_,_,_,_,_=>none|b+1,M,m,p,e,f,g=>zTD b M (Tm.mk e f g) m p>>=λr1=>if r1.2.1 then if r1.2.2.1 !=0 then some ((Tm.mk 0 0 []),r1.2.2.1,r1.2.2.2.1,r1.2.2.2.2)else H5 b M r1.2.2.2.1 r1.2.2.2.2 r1.1.k r1.1.n r1.1.sub else if r1.2.2.1 !=0 then some ((Tm.mk 0 0 []),r1.2.2.1,r1.2.2.2.1,r1.2.2.2.2)else some ((Tm.mk e f g),0,r1.2.2.2.1,r1.2.2.2.2)def zTD:Nat->xG->Tm->Int->Int->Option (Tm×Bool×Int×Int×Int)
 |0,_,_,_,_=>none|b+1,M,a,c,d=>A0 b a>>=λr1=>if r1.1.k==4 then if decide ((r1.2.length:Int)>0)then zV r1.1.sub 1>>=λx5=>zV r1.2 0>>=λx7=>zSb b x5 x7>>=λr9=>kE r1.2 1 (r1.2.length:Int)>>=λx11=>bL b r9.1 x11>>=λr13=>if r9.2 !=0 then some (a,false,r9.2,c,d)else e76 b c d>>=λr16=>if r16.1 !=0 then some (a,false,r16.1,r16.2.1,r16.2.2)else U7 b r13>>=λr19=>some (r19.1,true,r19.2,r16.2.1,r16.2.2)else zFU b M r1.1>>=λr21=>if r21==3 then zV M.l r1.1.n>>=λx24=>bL b x24.body r1.2>>=λr26=>e76 b c d>>=λr28=>if r28.1 !=0 then some (a,false,r28.1,r28.2.1,r28.2.2)else U7 b r26>>=λr31=>some (r31.1,true,r31.2,r28.2.1,r28.2.2)else zFU b M r1.1>>=λr33=>if r33==4 then zQb b M r1.1 r1.2 c d>>=λr36=>if r36.2.1 then if r36.2.2.1 !=0 then some (a,false,r36.2.2.1,r36.2.2.2.1,r36.2.2.2.2)else e76 b r36.2.2.2.1 r36.2.2.2.2>>=λr40=>if r40.1 !=0 then some (a,false,r40.1,r40.2.1,r40.2.2)else U7 b r36.1>>=λr43=>some (r43.1,true,r43.2,r40.2.1,r40.2.2)else if r36.2.2.1 !=0 then some (a,false,r36.2.2.1,r36.2.2.2.1,r36.2.2.2.2)else some (a,false,r36.2.2.1,r36.2.2.2.1,r36.2.2.2.2)else if r1.1.k==7 then zQa b M r1.1 r1.2 c d>>=λr47=>if r47.2.1 then if r47.2.2.1 !=0 then some (a,false,r47.2.2.1,r47.2.2.2.1,r47.2.2.2.2)else e76 b r47.2.2.2.1 r47.2.2.2.2>>=λr51=>if r51.1 !=0 then some (a,false,r51.1,r51.2.1,r51.2.2)else U7 b r47.1>>=λr54=>some (r54.1,true,r54.2,r51.2.1,r51.2.2)else if r47.2.2.1 !=0 then some (a,false,r47.2.2.1,r47.2.2.2.1,r47.2.2.2.2)else some (a,false,r47.2.2.1,r47.2.2.2.1,r47.2.2.2.2)else some (a,false,0,c,d)else zFU b M r1.1>>=λr57=>if r57==3 then zV M.l r1.1.n>>=λx60=>bL b x60.body r1.2>>=λr62=>e76 b c d>>=λr64=>if r64.1 !=0 then some (a,false,r64.1,r64.2.1,r64.2.2)else U7 b r62>>=λr67=>some (r67.1,true,r67.2,r64.2.1,r64.2.2)else zFU b M r1.1>>=λr69=>if r69==4 then zQb b M r1.1 r1.2 c d>>=λr72=>if r72.2.1 then if r72.2.2.1 !=0 then some (a,false,r72.2.2.1,r72.2.2.2.1,r72.2.2.2.2)else e76 b r72.2.2.2.1 r72.2.2.2.2>>=λr76=>if r76.1 !=0 then some (a,false,r76.1,r76.2.1,r76.2.2)else U7 b r72.1>>=λr79=>some (r79.1,true,r79.2,r76.2.1,r76.2.2)else if r72.2.2.1 !=0 then some (a,false,r72.2.2.1,r72.2.2.2.1,r72.2.2.2.2)else some (a,false,r72.2.2.1,r72.2.2.2.1,r72.2.2.2.2)else if r1.1.k==7 then zQa b M r1.1 r1.2 c d>>=λr83=>if r83.2.1 then if r83.2.2.1 !=0 then some (a,false,r83.2.2.1,r83.2.2.2.1,r83.2.2.2.2)else e76 b r83.2.2.2.1 r83.2.2.2.2>>=λr87=>if r87.1 !=0 then some (a,false,r87.1,r87.2.1,r87.2.2)else U7 b r83.1>>=λr90=>some (r90.1,true,r90.2,r87.2.1,r87.2.2)else if r83.2.2.1 !=0 then some (a,false,r83.2.2.1,r83.2.2.2.1,r83.2.2.2.2)else some (a,false,r83.2.2.1,r83.2.2.2.1,r83.2.2.2.2)else some (a,false,0,c,d)def zQb:Nat->xG->Tm->yV->Int->Int->Option (Tm×Bool×Int×Int×Int)
 |0,_,_,_,_,_=>none|b+1,M,a,q,c,d=>zV M.l a.n>>=λx1=>if decide ((q.length:Int)<=x1.pars)then some ((Tm.mk 0 0 []),false,0,c,d)else zV q x1.pars>>=λx4=>zGw b M x4 c d>>=λr6=>if r6.2.1 !=0 then some ((Tm.mk 0 0 []),false,r6.2.1,r6.2.2.1,r6.2.2.2)else zMI b M r6.1>>=λr9=>if r9.2.2 then zV M.l r9.1>>=λx12=>if x12.fam !=x1.fam then some ((Tm.mk 0 0 []),false,0,r6.2.2.1,r6.2.2.2)else kE r9.2.1 x12.pars (r9.2.1.length:Int)>>=λx15=>zId b M.rl M.parts a.n x15>>=λr17=>kE q (xF (x1.pars+1)) (q.length:Int)>>=λx19=>bL b r17.1 x19>>=λr21=>some (r21,true,r17.2,r6.2.2.1,r6.2.2.2)else some ((Tm.mk 0 0 []),false,0,r6.2.2.1,r6.2.2.2)def zQa:Nat->xG->Tm->yV->Int->Int->Option (Tm×Bool×Int×Int×Int)
 |0,_,_,_,_,_=>none|b+1,M,a,q,c,d=>if decide (a.n>=(M.l.length:Int))then some ((Tm.mk 0 0 []),false,0,c,d)else zV M.l a.n>>=λx2=>if x2.kind !=1 then some ((Tm.mk 0 0 []),false,0,c,d)else zV M.args a.n>>=λx5=>if decide ((q.length:Int)<x5)then some ((Tm.mk 0 0 []),false,0,c,d)else zV q (xF (x5-1))>>=λx8=>zGw b M x8 c d>>=λr10=>if r10.2.1 !=0 then some ((Tm.mk 0 0 []),false,r10.2.1,r10.2.2.1,r10.2.2.2)else zMI b M r10.1>>=λr13=>if r13.2.2 then zV M.l r13.1>>=λx16=>if x16.fam !=a.n then some ((Tm.mk 0 0 []),false,0,r10.2.2.1,r10.2.2.2)else zV a.sub 0>>=λx19=>kE q 0 (xF ((xF (x2.pars+1))+(x2.cons.length:Int)))>>=λx21=>kE r13.2.1 x2.pars (r13.2.1.length:Int)>>=λx23=>zIc b M.rl M.parts a.n x19.n r13.1 x21 x23>>=λr25=>kE q x5 (q.length:Int)>>=λx27=>bL b r25.1 x27>>=λr29=>some (r29,true,r25.2,r10.2.2.1,r10.2.2.2)else some ((Tm.mk 0 0 []),false,0,r10.2.2.1,r10.2.2.2)end
theorem jR:∀b:Nat,(∀M a c d,Cz (zGw b M a c d) 226 [mB M 1,mR M,.cells [ai c,ai d]] [.mp 0 0,yY a,.mp 2 0] (λr=>.tup [yY r.1,ai r.2.1]) (λr=>[mB M 1,mR M,.cells [ai r.2.2.1,ai r.2.2.2]]) 0)/\(∀M m p e f g,Lz (H5 b M m p e f g) 3 f226 (pt 885 f226) (λj=>sp j 28 0 [(0,.mp 0 0),(2,.mp 2 0),(4,.mp 3 0),(6,.mp 4 0)]) ⟨[(0,mB M 1),(1,mR M),(2,.cells [ai m,ai p]),(3,.cells [ai e,ai f,zP zA g .no]),(4,.cells [ai 0,ai 0,zP zA ([]:yV) .nl])],5,[],0,[]⟩ (λr=>.tup [yY r.1,ai r.2.1]) (λr=>[mB M 1,mR M,.cells [ai r.2.2.1,ai r.2.2.2]]) 0 [.blk 0])/\(∀M a c d,Cz (zTD b M a c d) 234 [mB M 1,mR M,.cells [ai c,ai d]] [.mp 0 0,yY a,.mp 2 0] (λr=>.tup [yY r.1,ab r.2.1,ai r.2.2.1]) (λr=>[mB M 1,mR M,.cells [ai r.2.2.2.1,ai r.2.2.2.2]]) 0)/\(∀M a q c d,Cz (zQb b M a q c d) 247 [mB M 1,mR M,.cells [ai c,ai d]] [.mp 0 0,yY a,zP zA q .no,.mp 2 0] (λr=>.tup [yY r.1,ab r.2.1,ai r.2.2.1]) (λr=>[mB M 1,mR M,.cells [ai r.2.2.2.1,ai r.2.2.2.2]]) 0)/\(∀M a q c d,Cz (zQa b M a q c d) 248 [mB M 1,mR M,.cells [ai c,ai d]] [.mp 0 0,yY a,zP zA q .no,.mp 2 0] (λr=>.tup [yY r.1,ab r.2.1,ai r.2.2.1]) (λr=>[mB M 1,mR M,.cells [ai r.2.2.2.1,ai r.2.2.2.2]]) 0):=wF ⟨λ_ _ _ _=>cN,λ_ _ _ _ _ _=>lN,λ_ _ _ _=>cN,λ_ _ _ _ _=>cN,λ_ _ _ _ _=>cN⟩ λb ih=>⟨λM a c d=>fw func226<|fH 0 [] [0,1,2,3,4] [] [0,2,4,6] (ih.2.1 _ _ _ _ _ _),λM m p e f g=>lw λ_=>rC 1 [0,1,2] (ih.2.2.1 _ _ _ _) λ_=>rB 1 (rB 2 (lE 1)<|lH 2 [] [0,1,2,3,4] [] [0,2,4,6] (ih.2.1 _ _ _ _ _ _))<|rB 2 (lE 1)<|lE 2,λM a c d=>fw func234<|rC 1 [] zFo λ_=>rB 5 (rB 1 (rA 1 (wE (o:=.no)) λ_=>rA 1 (wE (o:=.no)) λ_=>rC 1 [] yBk λ_=>rA 4 qK λ_=>rC 0 [] U5 λ_=>rB 1 (fE 2)<|rC 1 [2] c76 λ_=>rB 0 (fE 2)<|rC 1 [] zIA λ_=>fE 5)<|rC 1 [0,1] zQl λ_=>rB 0 (rA 2 (wO (o:=.no)) λ_=>rC 1 [] U5 λ_=>rC 3 [2] c76 λ_=>rB 0 (fE 2)<|rC 1 [] zIA λ_=>fE 5)<|rC 1 [0,1] zQl λ_=>rB 0 (rC 1 [0,1,2] (ih.2.2.2.1 _ _ _ _ _) λ_=>rB 1 (rB 2 (fE 2)<|rC 1 [2] c76 λ_=>rB 0 (fE 2)<|rC 1 [] zIA λ_=>fE 5)<|rB 2 (fE 2)<|fE 3)<|rB 1 (rC 1 [0,1,2] (ih.2.2.2.2 _ _ _ _ _) λ_=>rB 1 (rB 2 (fE 2)<|rC 1 [2] c76 λ_=>rB 0 (fE 2)<|rC 1 [] zIA λ_=>fE 5)<|rB 2 (fE 2)<|fE 3)<|fE 4)<|rC 1 [0,1] zQl λ_=>rB 0 (rA 2 (wO (o:=.no)) λ_=>rC 1 [] U5 λ_=>rC 3 [2] c76 λ_=>rB 0 (fE 2)<|rC 1 [] zIA λ_=>fE 5)<|rC 1 [0,1] zQl λ_=>rB 0 (rC 1 [0,1,2] (ih.2.2.2.1 _ _ _ _ _) λ_=>rB 1 (rB 2 (fE 2)<|rC 1 [2] c76 λ_=>rB 0 (fE 2)<|rC 1 [] zIA λ_=>fE 5)<|rB 2 (fE 2)<|fE 3)<|rB 1 (rC 1 [0,1,2] (ih.2.2.2.2 _ _ _ _ _) λ_=>rB 1 (rB 2 (fE 2)<|rC 1 [2] c76 λ_=>rB 0 (fE 2)<|rC 1 [] zIA λ_=>fE 5)<|rB 2 (fE 2)<|fE 3)<|fE 4,λM a q c d=>fw func247<|rH λ_ h2=>rS (oA 2 (wO (o:=.no) h2))<|rB 2 (fE 1)<|rA 0 (wE (o:=.no)) λ_=>rC 1 [0,1,2] (ih.1 _ _ _ _) λ_=>rB 3 (fE 1)<|rC 1 [0,1] zWQ λ_=>rB 2 (rH λ_ h13=>rS (oA 2 (wO (o:=.no) h13))<|rS (oA 3 (wO (o:=.no) h2))<|rB 1 (fE 1)<|rS (oA 3 (wO (o:=.no) h13))<|rA 1 qK λ_=>rC 0 [1] yBP λ_=>rA 5 qK λ_=>rC 0 [] U5 λ_=>fE 1)<|fE 2,λM a q c d=>fw func248<|rB 3 (fE 1)<|rH λ_ h3=>rS (oA 2 (wO (o:=.no) h3))<|rB 1 (fE 1)<|rH λ_ h6=>rS (oA 3 (gQ (o:=.no) h6))<|rB 1 (fE 1)<|rS (oA 2 (gQ (o:=.no) h6))<|rA 2 (wE (o:=.no)) λ_=>rC 1 [0,1,2] (ih.1 _ _ _ _) λ_=>rB 3 (fE 1)<|rC 1 [0,1] zWQ λ_=>rB 2 (rA 2 (wO (o:=.no)) λ_=>rB 2 (fE 1)<|rS (oA 2 (wO (o:=.no) h3))<|rA 5 (wE (o:=.no)) λ_=>rA 6 lI λ_=>rA 1 qK λ_=>rC 0 [1] yBQ λ_=>rA 4 qK λ_=>rC 0 [] U5 λ_=>fE 1)<|fE 2⟩
theorem yBU{b M a c d}:Cz (zGw b M a c d) 226 [mB M 1,mR M,.cells [ai c,ai d]] [.mp 0 0,yY a,.mp 2 0] (λr=>.tup [yY r.1,ai r.2.1]) (λr=>[mB M 1,mR M,.cells [ai r.2.2.1,ai r.2.2.2]]) 0:=(jR _).1 _ _ _ _
abbrev er4(r:Tm×Int×Int×Int):Int:=r.2.1
abbrev er5(r:Tm×Bool×Int×Int×Int):Int:=r.2.2.1
theorem cU(l:List yL):(xB l).l=l:=rfl
theorem d8(l:List yL):(xB l).rl=l:=rfl
theorem eJ(l:List yL):(xB l).parts=lX l l.length 0:=rfl
noncomputable def eK(l:List yL)(i:Int)(a:List Tm):Tm×Int:=open Classical in if h:∃r,zH (λq=>zId q l (lX l l.length 0) i a) r then h.choose else(zT,5)
theorem eL{N:ByteArray->Bool}(l:List yL)(i:Int)(a:List Tm)(hE:wZ N l)(ho:uS a)(hl:a.length<=1073741824):zH (λq=>zId q l (lX l l.length 0) i a) (eK l i a)/\zDa l i a (eK l i a):=by
 obtain⟨r,hr,hk⟩:=zMF l (lX l l.length 0) i a hE ho hl;have hx:∃r,zH (λq=>zId q l (lX l l.length 0) i a) r:=⟨r,hr⟩;have e:eK l i a=r:=by unfold eK;rw[dif_pos hx];exact hx.choose_spec.det hr
 rw[e];exact⟨hr,hk⟩
noncomputable def T5(l:List yL)(d lev c:Int)(args own:List Tm):Tm×Int:=open Classical in if h:∃r,zH (λq=>zIc q l (lX l l.length 0) d lev c args own) r then h.choose else(zT,5)
theorem A7{N:ByteArray->Bool}(l:List yL)(d lev c:Int)(args own:List Tm)(hE:wZ N l)(ho4:uS args)(ho5:uS own)(hl4:args.length<=65535)(hl5:own.length<=65535):zH (λq=>zIc q l (lX l l.length 0) d lev c args own) (T5 l d lev c args own)/\zIb l d lev c args own (T5 l d lev c args own):=by
 obtain⟨r,hr,hk⟩:=zQw l d lev c args own hE ho4 ho5 hl4 hl5;have hx:∃r,zH (λq=>zIc q l (lX l l.length 0) d lev c args own) r:=⟨r,hr⟩;have e:T5 l d lev c args own=r:=by unfold T5;rw[dif_pos hx];exact hx.choose_spec.det hr
 rw[e];exact⟨hr,hk⟩
inductive Act where|none|red(Y:Tm)(e:Int)|tgt(a:Tm)
noncomputable def uZ(l:List yL)(x:Tm):Act:=if(yN x).k=4/\0<(xD x).length then .red (nP (fZ (sG (yN x).sub 1) [sG (xD x) 0]).1 ((xD x).drop 1)) (fZ (sG (yN x).sub 1) [sG (xD x) 0]).2 else if pE l (yN x)=3 then .red (nP (zU l (yN x).n).body (xD x)) 0 else if pE l (yN x)=4 then(if((xD x).length:Int)<=(zU l (yN x).n).pars then .none else .tgt (sG (xD x) (zU l (yN x).n).pars))else if(yN x).k=7 then(if S7 l (yN x).n 1=true/\wU (zU l (yN x).n)<=(xD x).length then .tgt (sG (xD x) (wU (zU l (yN x).n)-1))else .none)else .none
noncomputable def sN(l:List yL)(x y:Tm):Option (Tm×Int):=if pE l (yN x)=4 then(if uA l y/\(zU l (yN y).n).fam=(zU l (yN x).n).fam then some (nP (eK l (yN x).n ((xD y).drop (zU l (yN y).n).pars.toNat)).1 ((xD x).drop ((zU l (yN x).n).pars+1).toNat),(eK l (yN x).n ((xD y).drop (zU l (yN y).n).pars.toNat)).2)else none)else(if uA l y/\(zU l (yN y).n).fam=(yN x).n then some (nP (T5 l (yN x).n (sG (yN x).sub 0).n (yN y).n ((xD x).take ((zU l (yN x).n).pars+1+(zU l (yN x).n).cons.length).toNat) ((xD y).drop (zU l (yN x).n).pars.toNat)).1 ((xD x).drop (wU (zU l (yN x).n)).toNat),(T5 l (yN x).n (sG (yN x).sub 0).n (yN y).n ((xD x).take ((zU l (yN x).n).pars+1+(zU l (yN x).n).cons.length).toNat) ((xD y).drop (zU l (yN x).n).pars.toNat)).2)else none)
inductive Br(l:List yL):Tm->Tm->Int->Int->Prop|stop{x:Tm}:uZ l x=.none->Br l x x 0 0|redE{x Y:Tm}{e:Int}:uZ l x=.red Y e->e≠0->Br l x zT e 0|redL{x Y:Tm}:uZ l x=.red Y 0->zF Y=false->Br l x zT 2 1|red{x Y y:Tm}{e k:Int}:uZ l x=.red Y 0->zF Y=true->Br l Y y e k->Br l x y e (1+k)|tgtE{x a z:Tm}{e k:Int}:uZ l x=.tgt a->Br l a z e k->e≠0->Br l x zT e k|tgtN{x a z:Tm}{k:Int}:uZ l x=.tgt a->Br l a z 0 k->sN l x z=none->Br l x x 0 k|tgtRE{x a z Y:Tm}{e k:Int}:uZ l x=.tgt a->Br l a z 0 k->sN l x z=some (Y,e)->e≠0->Br l x zT e k|tgtRL{x a z Y:Tm}{k:Int}:uZ l x=.tgt a->Br l a z 0 k->sN l x z=some (Y,0)->zF Y=false->Br l x zT 2 (k+1)|tgtR{x a z Y y:Tm}{e k k':Int}:uZ l x=.tgt a->Br l a z 0 k->sN l x z=some (Y,0)->zF Y=true->Br l Y y e k'->Br l x y e (k+1+k')
inductive On(l:List yL)(x:Tm):Tm->Bool->Int->Int->Prop|stop:uZ l x=.none->On l x x false 0 0|redE{Y:Tm}{e:Int}:uZ l x=.red Y e->e≠0->On l x x false e 0|redL{Y:Tm}:uZ l x=.red Y 0->zF Y=false->On l x zT true 2 1|red{Y:Tm}:uZ l x=.red Y 0->zF Y=true->On l x Y true 0 1|tgtE{a z:Tm}{e k:Int}:uZ l x=.tgt a->Br l a z e k->e≠0->On l x x false e k|tgtN{a z:Tm}{k:Int}:uZ l x=.tgt a->Br l a z 0 k->sN l x z=none->On l x x false 0 k|tgtRE{a z Y:Tm}{e k:Int}:uZ l x=.tgt a->Br l a z 0 k->sN l x z=some (Y,e)->e≠0->On l x x false e k|tgtRL{a z Y:Tm}{k:Int}:uZ l x=.tgt a->Br l a z 0 k->sN l x z=some (Y,0)->zF Y=false->On l x zT true 2 (k+1)|tgtR{a z Y:Tm}{k:Int}:uZ l x=.tgt a->Br l a z 0 k->sN l x z=some (Y,0)->zF Y=true->On l x Y true 0 (k+1)
theorem Br.nn{l:List yL}{x y:Tm}{e k:Int}(h:Br l x y e k):0<=k:=by induction h<;>omega
theorem On.still{l:List yL}{x y:Tm}{k:Int}(h:On l x y false 0 k):y=x/\Br l x x 0 k:=by cases h with|stop h=>exact⟨rfl,.stop h⟩|redE _ h=>exact absurd rfl h|tgtE _ _ h=>exact absurd rfl h|tgtN a b c=>exact⟨rfl,.tgtN a b c⟩|tgtRE _ _ _ h=>exact absurd rfl h
theorem On.err{l:List yL}{x y:Tm}{d:Bool}{e k:Int}(h:On l x y d e k)(he:e≠0):Br l x zT e k:=by cases h with|redE a b=>exact .redE a b|redL a b=>exact .redL a b|tgtE a b c=>exact .tgtE a b c|tgtRE a b c d=>exact .tgtRE a b c d|tgtRL a b c d=>exact .tgtRL a b c d|_=>exact absurd rfl he
theorem On.step{l:List yL}{x Y:Tm}{k:Int}(h:On l x Y true 0 k):zF Y=true/\1<=k/\∀y e k',Br l Y y e k'->Br l x y e (k+k'):=by cases h with|red a b=>exact⟨b,by omega,λy e k' h=>.red a b h⟩|tgtR a b c d=>exact⟨d,by have:=b.nn;omega,λy e k' h=>.tgtR a b c d h⟩
def HB(l:List yL)(x:Tm)(f:Int):Prop:=Ou (λL U q=>zGw q (xB l) x L U) er4 (λR k=>∃y e,Br l x y e k/\R=λL U=>(y,e,L,U)) (∀y e k,Br l x y e k->f<k) f
def QO(l:List yL)(x:Tm)(R:Int->Int->Tm×Bool×Int×Int×Int)(k:Int):Prop:=∃Y d e,On l x Y d e k/\R=λL U=>(Y,d,e,L,U)
def QF(l:List yL)(x:Tm)(R:Int->Int->Tm×Bool×Int×Int×Int)(k:Int):Prop:=(uZ l x=.none/\k=0/\∃Y,R=λL U=>(Y,false,0,L,U))\/∃a z e,uZ l x=.tgt a/\Br l a z e k/\((e≠0/\∃Y,R=λL U=>(Y,false,e,L,U))\/(e=0/\((sN l x z=none/\∃Y,R=λL U=>(Y,false,0,L,U))\/∃Y e',Y.Ok/\sN l x z=some (Y,e')/\R=λL U=>(Y,true,e',L,U))))
theorem pT{t:Tm}(hg:xZ t=true)(h:t.k=3\/t.k=4\/t.k=5):∃a b,t.sub=[a,b]/\xZ a=true/\xZ b=true:=by obtain⟨k,n,l⟩:=t;have hh:=uD hg;obtain⟨a,b,rfl⟩:=zSg ((sY hh.1).2.2.2.2.2.1 h).1;have hc:=vI hh.2;exact⟨a,b,rfl,hc.1,(vI hc.2).1⟩
theorem zMJ{N:ByteArray->Bool}(l:List yL)(hE:wZ N l)(x:Tm)(hs:zF x=true)(f:Int)(hf:0<=f)(h3:(yN x).k≠4)(hk:pE l (yN x)=4)(hb:∀a∈xD x,HB l a f)(hB:∀a y k,zF a=true->Br l a y 0 k->zF y=true):Ou (λL U q=>zQb q (xB l) (yN x) (xD x) L U) er5 (QF l x) (∃a,uZ l x=.tgt a/\∀z e k,Br l a z e k->f<k) f:=by
 have hh:=tZ hs;have h0:=eH (zM hh).2.2;have hks:=sM hk (by decide);have h1:=hks.2.1;have ho:uS (xD x):=λy hy=>zX (xL hs hy);have hl:(xD x).length<=8192:=by have h:=zM hs;have:=tS _ h.2.2;omega
 have hp:=(xP (hE.2 _ h0 h1)).2.2.2.1 hks.2.2;unfold S9 at hp;simp only[Bool.and_eq_true]at hp;have hw:=pB hp.1;have hfam:=vT ((xP (hE.2 _ hw.1 (by omega))).2.1 hw.2.2.1);have hact:uZ l x=if((xD x).length:Int)<=(zU l (yN x).n).pars then .none else .tgt (sG (xD x) (zU l (yN x).n).pars):=by unfold uZ;rw[if_neg (λh=>h3 h.1),if_neg (by omega),if_pos hk]
 have hre:∀y,sN l x y=if uA l y/\(zU l (yN y).n).fam=(zU l (yN x).n).fam then some (nP (eK l (yN x).n ((xD y).drop (zU l (yN y).n).pars.toNat)).1 ((xD x).drop ((zU l (yN x).n).pars+1).toNat),(eK l (yN x).n ((xD y).drop (zU l (yN y).n).pars.toNat)).2)else none:=λy=>by unfold sN;rw[if_pos hk]
 refine Ou.succ ?_;simp only[zQb,cU,d8,eJ];refine Ou.pure (yU h0 h1) (Ou.ite (λhn=>Ou.ret hf (.inl ⟨by rw[hact,if_pos (of_decide_eq_true hn)],rfl,_,rfl⟩)) λhn=>?_);have hn':=of_decide_eq_false hn;rw[if_neg hn']at hact;have hlt:(zU l (yN x).n).pars<(xD x).length:=by omega
 have hp0:0<=(zU l (yN x).n).pars:=by omega
 refine Ou.pure (tN hp0 hlt) (Ou.bind (hb _ (qD hp0 hlt)) (λh=>⟨_,hact,h⟩) (λr hr=>⟨_,zH.ifT (by show(r.2.1 !=0)=true;rw[show r.2.1=8 from hr];decide) zH.ret,hr⟩) ?_);rintro R k k0 k1⟨y,e,hbr,rfl⟩;dsimp only;refine Ou.ite (λh=>Ou.ret (by omega) (.inr ⟨_,y,e,hact,by rwa[Int.add_zero],.inl ⟨by simpa using h,_,rfl⟩⟩)) λh=>?_;have he:e=0:=by simpa using h
 subst he;have hy:=hB _ _ _ (xL hs (qD hp0 hlt)) hbr;refine Ou.evt (X6 l y hy) ?_;unfold kA;by_cases hc:uA l y
 ·rw[if_pos hc];have hcs:=vY hy hc;obtain⟨A,z,a1,-,-,a4,a5,a6,a7,-⟩:=vX hE hcs.1 hcs.2.1 hcs.2.2.1;refine Ou.ifT rfl (Ou.pure (yU hcs.1 hcs.2.1) (Ou.ite (λhf'=>Ou.ret (by omega) (.inr ⟨_,y,0,hact,by rwa[Int.add_zero],.inr ⟨rfl,.inl ⟨?_,_,rfl⟩⟩⟩)) λhf'=>?_));·rw[hre,if_neg (λh=>by simp[h.2]at hf')]
  ·have hf2:(zU l (yN y).n).fam=(zU l (yN x).n).fam:=by simpa using hf'
   have hra:uS (xD y):=λx hx=>zX (xL hy hx);have hrl:(xD y).length<=8192:=by have h:=zM hy;have:=tS _ h.2.2;omega
   have hlen:=hcs.2.2.2;have hX:=eL l (yN x).n ((xD y).drop (zU l (yN y).n).pars.toNat) hE (hra.drop _) (by rw[List.length_drop];omega);refine Ou.pure (qN a6 (by show(zU l (yN y).n).pars<=((xD y).length:Int);omega)) (Ou.evt hX.1 ?_);rw[yQ (x:=(zU l (yN x).n).pars+1) (by omega) (by omega)];refine Ou.pure (qN (by omega) (by omega)) (Ou.evt (qL _ _ (by rw[List.length_drop];omega)) (Ou.ret (by omega) (.inr ⟨_,y,0,hact,by rwa[Int.add_zero],.inr ⟨rfl,.inr ⟨_,_,?_,?_,rfl⟩⟩⟩)));·exact mC _ _ hX.2.1 (ho.drop _)
   ·rw[hre,if_pos ⟨hc,hf2⟩]
 ·rw[if_neg hc];refine Ou.ifF rfl (Ou.ret (by omega) (.inr ⟨_,y,0,hact,by rwa[Int.add_zero],.inr ⟨rfl,.inl ⟨?_,_,rfl⟩⟩⟩));rw[hre,if_neg (λh=>hc h.1)]
theorem zQA{N:ByteArray->Bool}(l:List yL)(hE:wZ N l)(x:Tm)(hs:zF x=true)(f:Int)(hf:0<=f)(hk:(yN x).k=7)(hb:∀a∈xD x,HB l a f)(hB:∀a y k,zF a=true->Br l a y 0 k->zF y=true):Ou (λL U q=>zQa q (xB l) (yN x) (xD x) L U) er5 (QF l x) (∃a,uZ l x=.tgt a/\∀z e k,Br l a z e k->f<k) f:=by
 have hh:=tZ hs;have hg:=(zM hh).2.2;have h0:=eH hg;have ho:uS (xD x):=λy hy=>zX (xL hs hy);have hl:(xD x).length<=8192:=by have h:=zM hs;have:=tS _ h.2.2;omega
 have hkk:∀n:Int,n≠0->pE l (yN x)≠n:=λn hn e=>by have:=(sM e hn).1;omega
 have hact:uZ l x=if S7 l (yN x).n 1=true/\wU (zU l (yN x).n)<=(xD x).length then .tgt (sG (xD x) (wU (zU l (yN x).n)-1))else .none:=by unfold uZ;rw[if_neg (λh=>by omega),if_neg (hkk 3 (by decide)),if_neg (hkk 4 (by decide)),if_pos hk]
 have hre:∀y,sN l x y=if uA l y/\(zU l (yN y).n).fam=(yN x).n then some (nP (T5 l (yN x).n (sG (yN x).sub 0).n (yN y).n ((xD x).take ((zU l (yN x).n).pars+1+(zU l (yN x).n).cons.length).toNat) ((xD y).drop (zU l (yN x).n).pars.toNat)).1 ((xD x).drop (wU (zU l (yN x).n)).toNat),(T5 l (yN x).n (sG (yN x).sub 0).n (yN y).n ((xD x).take ((zU l (yN x).n).pars+1+(zU l (yN x).n).cons.length).toNat) ((xD y).drop (zU l (yN x).n).pars.toNat)).2)else none:=λy=>by unfold sN;rw[if_neg (hkk 4 (by decide))]
 refine Ou.succ ?_;simp only[zQa,cU,d8,eJ];refine Ou.ite (λhn=>Ou.ret hf (.inl ⟨?_,rfl,_,rfl⟩)) λhn=>?_
 ·rw[hact,if_neg];intro h;have:=(tL h.1).2.1;have:=of_decide_eq_true hn;omega
 have h1:(yN x).n<l.length:=by have:=of_decide_eq_false hn;omega
 refine Ou.pure (yU h0 h1) (Ou.ite (λhk1=>Ou.ret hf (.inl ⟨?_,rfl,_,rfl⟩)) λhk1=>?_)
 ·rw[hact,if_neg];intro h;have h2:=(tL h.1).2.2;rw[h2]at hk1;simp at hk1
 have hk1':(zU l (yN x).n).kind=1:=by simpa using hk1
 have hfam:=vT ((xP (hE.2 _ h0 h1)).2.1 hk1');have hisT:S7 l (yN x).n 1=true:=by unfold S7;simp[h0,h1,hk1']
 have hargs:wU (zU l (yN x).n)=(zU l (yN x).n).pars+2+(zU l (yN x).n).cons.length+(zU l (yN x).n).inds:=by unfold wU;rw[if_pos hk1']
 refine Ou.pure (zQk h0 h1) (Ou.ite (λhn=>Ou.ret hf (.inl ⟨?_,rfl,_,rfl⟩)) λhn=>?_)
 ·rw[hact,if_neg];intro h;have:=of_decide_eq_true hn;omega
 have hn':=of_decide_eq_false hn;rw[if_pos ⟨hisT,by omega⟩]at hact;rw[yQ (x:=wU (zU l (yN x).n)-1) (by omega) (by omega)];have hp0:0<=wU (zU l (yN x).n)-1:=by omega
 have hlt:wU (zU l (yN x).n)-1<(xD x).length:=by omega
 refine Ou.pure (tN hp0 hlt) (Ou.bind (hb _ (qD hp0 hlt)) (λh=>⟨_,hact,h⟩) (λr hr=>⟨_,zH.ifT (by show(r.2.1 !=0)=true;rw[show r.2.1=8 from hr];decide) zH.ret,hr⟩) ?_);rintro R k k0 k1⟨y,e,hbr,rfl⟩;dsimp only;refine Ou.ite (λh=>Ou.ret (by omega) (.inr ⟨_,y,e,hact,by rwa[Int.add_zero],.inl ⟨by simpa using h,_,rfl⟩⟩)) λh=>?_;have he:e=0:=by simpa using h
 subst he;have hy:=hB _ _ _ (xL hs (qD hp0 hlt)) hbr;refine Ou.evt (X6 l y hy) ?_;unfold kA;by_cases hc:uA l y
 ·rw[if_pos hc];have hcs:=vY hy hc;obtain⟨A,z,a1,-,-,a4,a5,a6,a7,-,-,-,a8,-⟩:=vX hE hcs.1 hcs.2.1 hcs.2.2.1;refine Ou.ifT rfl (Ou.pure (yU hcs.1 hcs.2.1) (Ou.ite (λhf'=>Ou.ret (by omega) (.inr ⟨_,y,0,hact,by rwa[Int.add_zero],.inr ⟨rfl,.inl ⟨?_,_,rfl⟩⟩⟩)) λhf'=>?_));·rw[hre,if_neg (λh=>by simp[h.2]at hf')]
  ·have hf2:(zU l (yN y).n).fam=(yN x).n:=by simpa using hf'
   rw[hf2]at a8;have hra:uS (xD y):=λx hx=>zX (xL hy hx);have hrl:(xD y).length<=8192:=by have h:=zM hy;have:=tS _ h.2.2;omega
   have hlen:=hcs.2.2.2;have hsub:∃s,(yN x).sub=[s]:=by revert hg hk;generalize yN x=y;intro hk hg;obtain⟨kk,nn,ss⟩:=y;obtain⟨s,hs,-⟩:=(sY (uD hg).1).2.2.2.2.2.2.1 hk;exact⟨s,hs⟩
   obtain⟨s,hsb⟩:=hsub;rw[yQ (x:=(zU l (yN x).n).pars+1) (by omega) (by omega),yQ (x:=(zU l (yN x).n).pars+1+(zU l (yN x).n).cons.length) (by omega) (by omega)];have hX:=A7 l (yN x).n (sG (yN x).sub 0).n (yN y).n ((xD x).take ((zU l (yN x).n).pars+1+(zU l (yN x).n).cons.length).toNat) ((xD y).drop (zU l (yN x).n).pars.toNat) hE (ho.take _) (hra.drop _) (by rw[List.length_take];omega) (by rw[List.length_drop];omega);refine Ou.pure (tN (by omega) (by rw[hsb];simp)) (Ou.pure (a:=(xD x).take ((zU l (yN x).n).pars+1+(zU l (yN x).n).cons.length).toNat) ?_ (Ou.pure (qN (by omega) (by show _<=((xD y).length:Int);omega)) (Ou.evt hX.1 ?_)));·rw[X5 (by omega) (by omega) (by omega)];simp
   refine Ou.pure (qN (by omega) (by omega)) (Ou.evt (qL _ _ (by rw[List.length_drop];omega)) (Ou.ret (by omega) (.inr ⟨_,y,0,hact,by rwa[Int.add_zero],.inr ⟨rfl,.inr ⟨_,_,?_,?_,rfl⟩⟩⟩)));·exact mC _ _ hX.2.1 (ho.drop _)
   ·rw[hre,if_pos ⟨hc,hf2⟩]
 ·rw[if_neg hc];refine Ou.ifF rfl (Ou.ret (by omega) (.inr ⟨_,y,0,hact,by rwa[Int.add_zero],.inr ⟨rfl,.inl ⟨?_,_,rfl⟩⟩⟩));rw[hre,if_neg (λh=>hc h.1)]
def zZJ(l:List yL)(Y:Tm)(e0 k0:Int)(y:Tm)(e k:Int):Prop:=(e0≠0/\y=zT/\e=e0/\k=k0)\/(e0=0/\zF Y=false/\y=zT/\e=2/\k=k0+1)\/(e0=0/\zF Y=true/\∃k',Br l Y y e k'/\k=k0+1+k')
section
variable{l:List yL}{x y:Tm}{e k:Int}
theorem Br.inv_none(h:Br l x y e k)(ha:uZ l x=.none):y=x/\e=0/\k=0:=by cases h with|stop _=>exact⟨rfl,rfl,rfl⟩|redE a=>rw[ha]at a;cases a|redL a=>rw[ha]at a;cases a|red a=>rw[ha]at a;cases a|tgtE a=>rw[ha]at a;cases a|tgtN a=>rw[ha]at a;cases a|tgtRE a=>rw[ha]at a;cases a|tgtRL a=>rw[ha]at a;cases a|tgtR a=>rw[ha]at a;cases a
theorem Br.inv_red{Y:Tm}{e0:Int}(h:Br l x y e k)(ha:uZ l x=.red Y e0):zZJ l Y e0 0 y e k:=by cases h with|stop a=>rw[ha]at a;cases a|redE a b=>rw[ha]at a;cases a;exact .inl ⟨b,rfl,rfl,rfl⟩|redL a b=>rw[ha]at a;cases a;exact .inr (.inl ⟨rfl,b,rfl,rfl,rfl⟩)|red a b c=>rw[ha]at a;cases a;exact .inr (.inr ⟨rfl,b,_,c,by omega⟩)|tgtE a=>rw[ha]at a;cases a|tgtN a=>rw[ha]at a;cases a|tgtRE a=>rw[ha]at a;cases a|tgtRL a=>rw[ha]at a;cases a|tgtR a=>rw[ha]at a;cases a
theorem Br.inv_tgt{a:Tm}(h:Br l x y e k)(ha:uZ l x=.tgt a):∃z ea ka,Br l a z ea ka/\((ea≠0/\y=zT/\e=ea/\k=ka)\/(ea=0/\((sN l x z=none/\y=x/\e=0/\k=ka)\/∃Y e0,sN l x z=some (Y,e0)/\zZJ l Y e0 ka y e k))):=by cases h with|stop a=>rw[ha]at a;cases a|redE a b=>rw[ha]at a;cases a|redL a b=>rw[ha]at a;cases a|red a b c=>rw[ha]at a;cases a|tgtE a b c=>rw[ha]at a;cases a;exact⟨_,_,_,b,.inl ⟨c,rfl,rfl,rfl⟩⟩|tgtN a b c=>rw[ha]at a;cases a;exact⟨_,_,_,b,.inr ⟨rfl,.inl ⟨c,rfl,rfl,rfl⟩⟩⟩|tgtRE a b c d=>rw[ha]at a;cases a;exact⟨_,_,_,b,.inr ⟨rfl,.inr ⟨_,_,c,.inl ⟨d,rfl,rfl,rfl⟩⟩⟩⟩|tgtRL a b c d=>rw[ha]at a;cases a;exact⟨_,_,_,b,.inr ⟨rfl,.inr ⟨_,_,c,.inr (.inl ⟨rfl,d,rfl,rfl,rfl⟩)⟩⟩⟩|tgtR a b c d f=>rw[ha]at a;cases a;exact⟨_,_,_,b,.inr ⟨rfl,.inr ⟨_,_,c,.inr (.inr ⟨rfl,d,_,f,rfl⟩)⟩⟩⟩
theorem Br.det(h:Br l x y e k):∀{y':Tm}{e' k':Int},Br l x y' e' k'->y'=y/\e'=e/\k'=k:=by induction h with
 |stop a=>intro y' e' k' h2;exact h2.inv_none a|redE a b=>
  intro y' e' k' h2;rcases h2.inv_red a with⟨c,d⟩|⟨c,d⟩|⟨c,d⟩;·exact d
  ·exact absurd c b
  ·exact absurd c b|redL a b=>
  intro y' e' k' h2;rcases h2.inv_red a with⟨c,d⟩|⟨c,d,f⟩|⟨c,d,f⟩;·exact absurd rfl c
  ·exact f
  ·rw[b]at d;cases d|red a b c ih=>
  intro y' e' k' h2;rcases h2.inv_red a with⟨c,d⟩|⟨c,d,f⟩|⟨c,d,n,f,g⟩;·exact absurd rfl c
  ·rw[b]at d;cases d
  ·obtain⟨rfl,rfl,rfl⟩:=ih f;exact⟨rfl,rfl,by omega⟩|tgtE a b c ih=>
  intro y' e' k' h2;obtain⟨z',ea,ka,hb',h3⟩:=h2.inv_tgt a;obtain⟨rfl,rfl,rfl⟩:=ih hb';rcases h3 with⟨_,d⟩|⟨d,_⟩;·exact d
  ·exact absurd d c|tgtN a b c ih=>
  intro y' e' k' h2;obtain⟨z',ea,ka,hb',h3⟩:=h2.inv_tgt a;obtain⟨rfl,rfl,rfl⟩:=ih hb';rcases h3 with⟨d,_⟩|⟨_,⟨_,d⟩|⟨Y,e0,d,_⟩⟩;·exact absurd rfl d
  ·exact d
  ·rw[c]at d;cases d|tgtRE a b c d ih=>
  intro y' e' k' h2;obtain⟨z',ea,ka,hb',h3⟩:=h2.inv_tgt a;obtain⟨rfl,rfl,rfl⟩:=ih hb';rcases h3 with⟨f,_⟩|⟨_,⟨f,_⟩|⟨Y,e0,f,g⟩⟩;·exact absurd rfl f
  ·rw[c]at f;cases f
  ·rw[c]at f;cases f;rcases g with⟨_,g⟩|⟨g,_⟩|⟨g,_⟩;·exact g
   ·exact absurd g d
   ·exact absurd g d|tgtRL a b c d ih=>
  intro y' e' k' h2;obtain⟨z',ea,ka,hb',h3⟩:=h2.inv_tgt a;obtain⟨rfl,rfl,rfl⟩:=ih hb';rcases h3 with⟨f,_⟩|⟨_,⟨f,_⟩|⟨Y,e0,f,g⟩⟩;·exact absurd rfl f
  ·rw[c]at f;cases f
  ·rw[c]at f;cases f;rcases g with⟨g,_⟩|⟨_,_,g⟩|⟨_,g,_⟩;·exact absurd rfl g
   ·exact g
   ·rw[d]at g;cases g|tgtR a b c d f ih ih2=>
  intro y' e' k' h2;obtain⟨z',ea,ka,hb',h3⟩:=h2.inv_tgt a;obtain⟨rfl,rfl,rfl⟩:=ih hb';rcases h3 with⟨f,_⟩|⟨_,⟨f,_⟩|⟨Y,e0,f,g⟩⟩;·exact absurd rfl f
  ·rw[c]at f;cases f
  ·rw[c]at f;cases f;rcases g with⟨g,_⟩|⟨_,g,_⟩|⟨_,_,n,g,rfl⟩;·exact absurd rfl g
   ·rw[d]at g;cases g
   ·obtain⟨rfl,rfl,rfl⟩:=ih2 g;exact⟨rfl,rfl,rfl⟩
theorem On.det{Y Y':Tm}{d d':Bool}{e e' k k':Int}(h:On l x Y d e k)(h':On l x Y' d' e' k'):Y'=Y/\d'=d/\e'=e/\k'=k:=by cases h with
 |stop a=>cases h' with|stop _=>exact⟨rfl,rfl,rfl,rfl⟩|redE b=>rw[a]at b;cases b|redL b=>rw[a]at b;cases b|red b=>rw[a]at b;cases b|tgtE b=>rw[a]at b;cases b|tgtN b=>rw[a]at b;cases b|tgtRE b=>rw[a]at b;cases b|tgtRL b=>rw[a]at b;cases b|tgtR b=>rw[a]at b;cases b
 |redE a c=>cases h' with|redE b=>rw[a]at b;cases b;exact⟨rfl,rfl,rfl,rfl⟩|redL b=>rw[a]at b;cases b;exact absurd rfl c|red b=>rw[a]at b;cases b;exact absurd rfl c|stop b=>rw[a]at b;cases b|tgtE b=>rw[a]at b;cases b|tgtN b=>rw[a]at b;cases b|tgtRE b=>rw[a]at b;cases b|tgtRL b=>rw[a]at b;cases b|tgtR b=>rw[a]at b;cases b
 |redL a c=>cases h' with|redE b d=>rw[a]at b;cases b;exact absurd rfl d|redL b=>exact⟨rfl,rfl,rfl,rfl⟩|red b d=>rw[a]at b;cases b;rw[c]at d;cases d|stop b=>rw[a]at b;cases b|tgtE b=>rw[a]at b;cases b|tgtN b=>rw[a]at b;cases b|tgtRE b=>rw[a]at b;cases b|tgtRL b=>rw[a]at b;cases b|tgtR b=>rw[a]at b;cases b
 |red a c=>cases h' with|redE b d=>rw[a]at b;cases b;exact absurd rfl d|redL b d=>rw[a]at b;cases b;rw[c]at d;cases d|red b d=>rw[a]at b;cases b;exact⟨rfl,rfl,rfl,rfl⟩|stop b=>rw[a]at b;cases b|tgtE b=>rw[a]at b;cases b|tgtN b=>rw[a]at b;cases b|tgtRE b=>rw[a]at b;cases b|tgtRL b=>rw[a]at b;cases b|tgtR b=>rw[a]at b;cases b
 |tgtE a c f=>cases h' with|stop b=>rw[a]at b;cases b|redE b=>rw[a]at b;cases b|redL b=>rw[a]at b;cases b|red b=>rw[a]at b;cases b|tgtE b g=>rw[a]at b;cases b;obtain⟨-,rfl,rfl⟩:=c.det g;exact⟨rfl,rfl,rfl,rfl⟩|tgtN b g=>rw[a]at b;cases b;exact absurd (c.det g).2.1.symm f|tgtRE b g=>rw[a]at b;cases b;exact absurd (c.det g).2.1.symm f|tgtRL b g=>rw[a]at b;cases b;exact absurd (c.det g).2.1.symm f|tgtR b g=>rw[a]at b;cases b;exact absurd (c.det g).2.1.symm f
 |tgtN a c f=>cases h' with|stop b=>rw[a]at b;cases b|redE b=>rw[a]at b;cases b|redL b=>rw[a]at b;cases b|red b=>rw[a]at b;cases b|tgtE b g n=>rw[a]at b;cases b;exact absurd (c.det g).2.1 n|tgtN b g=>rw[a]at b;cases b;obtain⟨-,-,rfl⟩:=c.det g;exact⟨rfl,rfl,rfl,rfl⟩|tgtRE b g n=>rw[a]at b;cases b;obtain⟨rfl,-,-⟩:=c.det g;rw[f]at n;cases n|tgtRL b g n=>rw[a]at b;cases b;obtain⟨rfl,-,-⟩:=c.det g;rw[f]at n;cases n|tgtR b g n=>rw[a]at b;cases b;obtain⟨rfl,-,-⟩:=c.det g;rw[f]at n;cases n
 |tgtRE a c f n0=>cases h' with|stop b=>rw[a]at b;cases b|redE b=>rw[a]at b;cases b|redL b=>rw[a]at b;cases b|red b=>rw[a]at b;cases b|tgtE b g n=>rw[a]at b;cases b;exact absurd (c.det g).2.1 n|tgtN b g n=>rw[a]at b;cases b;obtain⟨rfl,-,-⟩:=c.det g;rw[f]at n;cases n|tgtRE b g n=>rw[a]at b;cases b;obtain⟨rfl,-,rfl⟩:=c.det g;rw[f]at n;cases n;exact⟨rfl,rfl,rfl,rfl⟩|tgtRL b g n=>rw[a]at b;cases b;obtain⟨rfl,-,-⟩:=c.det g;rw[f]at n;cases n;exact absurd rfl n0|tgtR b g n=>rw[a]at b;cases b;obtain⟨rfl,-,-⟩:=c.det g;rw[f]at n;cases n;exact absurd rfl n0
 |tgtRL a c f n0=>cases h' with|stop b=>rw[a]at b;cases b|redE b=>rw[a]at b;cases b|redL b=>rw[a]at b;cases b|red b=>rw[a]at b;cases b|tgtE b g n=>rw[a]at b;cases b;exact absurd (c.det g).2.1 n|tgtN b g n=>rw[a]at b;cases b;obtain⟨rfl,-,-⟩:=c.det g;rw[f]at n;cases n|tgtRE b g n m=>rw[a]at b;cases b;obtain⟨rfl,-,-⟩:=c.det g;rw[f]at n;cases n;exact absurd rfl m|tgtRL b g n=>rw[a]at b;cases b;obtain⟨rfl,-,rfl⟩:=c.det g;exact⟨rfl,rfl,rfl,rfl⟩|tgtR b g n m=>rw[a]at b;cases b;obtain⟨rfl,-,-⟩:=c.det g;rw[f]at n;cases n;rw[n0]at m;cases m
 |tgtR a c f n0=>cases h' with|stop b=>rw[a]at b;cases b|redE b=>rw[a]at b;cases b|redL b=>rw[a]at b;cases b|red b=>rw[a]at b;cases b|tgtE b g n=>rw[a]at b;cases b;exact absurd (c.det g).2.1 n|tgtN b g n=>rw[a]at b;cases b;obtain⟨rfl,-,-⟩:=c.det g;rw[f]at n;cases n|tgtRE b g n m=>rw[a]at b;cases b;obtain⟨rfl,-,-⟩:=c.det g;rw[f]at n;cases n;exact absurd rfl m|tgtRL b g n m=>rw[a]at b;cases b;obtain⟨rfl,-,-⟩:=c.det g;rw[f]at n;cases n;rw[n0]at m;cases m|tgtR b g n=>rw[a]at b;cases b;obtain⟨rfl,-,rfl⟩:=c.det g;rw[f]at n;cases n;exact⟨rfl,rfl,rfl,rfl⟩
end
section
variable{l:List yL}{x y:Tm}{e k:Int}
theorem On.tgt_lt{a Y:Tm}{d:Bool}{f:Int}(h:On l x Y d e k)(ha:uZ l x=.tgt a)(hl:∀z e k,Br l a z e k->f<k):f<k:=by cases h with|stop b=>rw[ha]at b;cases b|redE b=>rw[ha]at b;cases b|redL b=>rw[ha]at b;cases b|red b=>rw[ha]at b;cases b|tgtE b g=>rw[ha]at b;cases b;exact hl _ _ _ g|tgtN b g=>rw[ha]at b;cases b;exact hl _ _ _ g|tgtRE b g=>rw[ha]at b;cases b;exact hl _ _ _ g|tgtRL b g=>rw[ha]at b;cases b;have:=hl _ _ _ g;omega|tgtR b g=>rw[ha]at b;cases b;have:=hl _ _ _ g;omega
theorem On.red_lt{Y Z:Tm}{d:Bool}{e0:Int}(h:On l x Y d e k)(ha:uZ l x=.red Z e0)(h0:e0=0):k=1:=by subst h0;cases h with|stop b=>rw[ha]at b;cases b|redE b c=>rw[ha]at b;cases b;exact absurd rfl c|redL b=>rfl|red b=>rfl|tgtE b g=>rw[ha]at b;cases b|tgtN b g=>rw[ha]at b;cases b|tgtRE b g=>rw[ha]at b;cases b|tgtRL b g=>rw[ha]at b;cases b|tgtR b g=>rw[ha]at b;cases b
theorem Br.first(h:Br l x y e k):∃Y d e1 k1,On l x Y d e1 k1/\k1<=k:=by cases h with|stop a=>exact⟨_,_,_,_,.stop a,by omega⟩|redE a b=>exact⟨_,_,_,_,.redE a b,by omega⟩|redL a b=>exact⟨_,_,_,_,.redL a b,by omega⟩|red a b c=>exact⟨_,_,_,_,.red a b,by have:=c.nn;omega⟩|tgtE a b c=>exact⟨_,_,_,_,.tgtE a b c,by omega⟩|tgtN a b c=>exact⟨_,_,_,_,.tgtN a b c,by omega⟩|tgtRE a b c d=>exact⟨_,_,_,_,.tgtRE a b c d,by omega⟩|tgtRL a b c d=>exact⟨_,_,_,_,.tgtRL a b c d,by omega⟩|tgtR a b c d f=>exact⟨_,_,_,_,.tgtR a b c d,by have:=f.nn;omega⟩
theorem Br.after{Y:Tm}{k1:Int}(h:Br l x y e k)(hO:On l x Y true 0 k1):∃k2,Br l Y y e k2/\k=k1+k2:=by cases hO with
 |red a b=>
  rcases h.inv_red a with⟨c,-⟩|⟨-,c,-⟩|⟨-,-,n,f,g⟩;·exact absurd rfl c
  ·rw[b]at c;cases c
  ·exact⟨n,f,by omega⟩|tgtR a b c d=>
  obtain⟨z',ea,ka,hb',h3⟩:=h.inv_tgt a;obtain⟨rfl,rfl,rfl⟩:=b.det hb';rcases h3 with⟨f,_⟩|⟨_,⟨f,_⟩|⟨Y,e0,f,g⟩⟩;·exact absurd rfl f
  ·rw[c]at f;cases f
  ·rw[c]at f;cases f;rcases g with⟨g,_⟩|⟨_,g,_⟩|⟨_,_,n,g,rfl⟩;·exact absurd rfl g
   ·rw[d]at g;cases g
   ·exact⟨n,g,by omega⟩
end
def zWT(b:Nat)(M:xG)(a:Tm):Option (Bool):=e68 b a 1048577 (M.l.length:Int)>>=λr1=>some r1
theorem yBV{b M a}:Cz (zWT b M a) 225 [mB M 1,mR M] [.mp 0 0,yY a] (λr=>ab r) (λ_=>[mB M 1,mR M]) 0:=fw func225<|rC 4 [] c68 λ_=>fE 0
def zDC(a:Nat)(M:xG)(b:Tm)(c d:Int):Option (Tm×Int×Int×Int):=zWT a M b>>=λr1=>if r1 then zGw a M b c d>>=λr4=>if r4.2.1 !=0 then some ((Tm.mk 0 0 []),r4.2.1,r4.2.2.1,r4.2.2.2)else e64 a r4.1>>=λr7=>some (r7,0,r4.2.2.1,r4.2.2.2)else some ((Tm.mk 0 0 []),5,c,d)
theorem zTE{a M b c d}:Cz (zDC a M b c d) 209 [mB M 1,mR M,.cells [ai c,ai d]] [.mp 0 0,yY b,.mp 2 0] (λr=>.tup [yY r.1,ai r.2.1]) (λr=>[mB M 1,mR M,.cells [ai r.2.2.1,ai r.2.2.2]]) 0:=fw func209<|rK 1 [0,1] yBV (λ_=>rC 2 [0,1,2] yBU λ_=>rB 3 (fE 1)<|rC 1 [] c64 λ_=>fE 1) λ_=>fE 2
theorem Br.shaped{l:List yL}{x y:Tm}{e k:Int}(h:Br l x y e k):zF x=true->e=0->zF y=true:=by induction h with|stop _=>exactλhs _=>hs|redE _ h=>exactλ_ he=>absurd he h|redL _ _=>exactλ_ he=>absurd he (by decide)|red _ hY _ ih=>exactλ_ he=>ih hY he|tgtE _ _ h _=>exactλ_ he=>absurd he h|tgtN _ _ _ _=>exactλhs _=>hs|tgtRE _ _ _ h _=>exactλ_ he=>absurd he h|tgtRL _ _ _ _ _=>exactλ_ he=>absurd he (by decide)|tgtR _ _ _ hY _ _ ih=>exactλ_ he=>ih hY he
theorem zDD{Q:(Int->Int->Tm×Bool×Int×Int×Int)->Int->Prop}(p Y:Tm)(f:Int)(hf:0<=f)(ho:Y.Ok)(hL:zF Y=false->Q (λL U=>(zT,true,2,L,U)) 1)(hS:zF Y=true->Q (λL U=>(Y,true,0,L,U)) 1){S:Prop}(hsh:f<1->S):Ou (λL U q=>(e76 q L U)>>=λr28=>if(r28.1 !=0)=true then some (p,false,r28.1,r28.2.1,r28.2.2)else(U7 q Y)>>=λr31=>some (r31.1,true,r31.2,r28.2.1,r28.2.2)) er5 Q S f:=by refine Ou.bind (zKc f hf) hsh (λr hr=>⟨_,zH.ifT (by show(r.1 !=0)=true;rw[show r.1=8 from hr];decide) zH.ret,hr⟩) ?_;rintro R k k0 k1⟨rfl,rfl⟩;dsimp only;refine Ou.ifF rfl (Ou.evt (zIB Y ho) ?_);unfold zWS;cases h:zF Y with|true=>exact Ou.ret (by omega) (hS h)|false=>exact Ou.ret (by omega) (hL h)
theorem zGv(l:List yL)(p:Tm)(f:Int)(hf:0<=f){g:Int->Int->Nat->Option (Tm×Bool×Int×Int×Int)}(h:Ou g er5 (QF l p) (∃a,uZ l p=.tgt a/\∀z e k,Br l a z e k->f<k) f):Ou (λL U q=>g L U q>>=λr36=>if r36.2.1=true then(if(r36.2.2.1 !=0)=true then some (p,false,r36.2.2.1,r36.2.2.2.1,r36.2.2.2.2)else(e76 q r36.2.2.2.1 r36.2.2.2.2)>>=λr40=>if(r40.1 !=0)=true then some (p,false,r40.1,r40.2.1,r40.2.2)else(U7 q r36.1)>>=λr43=>some (r43.1,true,r43.2,r40.2.1,r40.2.2))else(if(r36.2.2.1 !=0)=true then some (p,false,r36.2.2.1,r36.2.2.2.1,r36.2.2.2.2)else some (p,false,r36.2.2.1,r36.2.2.2.1,r36.2.2.2.2))) er5 (QO l p) (∀Y d e k,On l p Y d e k->f<k) f:=by
 refine Ou.bind h (λ⟨a,ha,h⟩Y d e k hO=>hO.tgt_lt ha h) (λr hr=>?_) ?_
 ·have hr':(r.2.2.1 !=0)=true:=by rw[show r.2.2.1=8 from hr];decide
  cases hd:r.2.1 with|true=>exact⟨_,zH.ifT rfl (zH.ifT hr' zH.ret),hr⟩|false=>exact⟨_,zH.ifF rfl (zH.ifT hr' zH.ret),hr⟩
 ·rintro R k k0 k1(⟨ha,rfl,Y,rfl⟩|⟨a,z,e,ha,hb,⟨he,Y,rfl⟩|⟨rfl,⟨hr,Y,rfl⟩|⟨Y,e',hY,hr,rfl⟩⟩⟩);·exact Ou.ifF rfl (Ou.ifF rfl (Ou.ret (by omega) ⟨p,false,0,On.stop ha,rfl⟩))
  ·dsimp only;exact Ou.ifF rfl (Ou.ifT (by simpa using he) (Ou.ret (by omega) ⟨p,false,e,by rw[Int.add_zero];exact On.tgtE ha hb he,rfl⟩))
  ·exact Ou.ifF rfl (Ou.ifF rfl (Ou.ret (by omega) ⟨p,false,0,by rw[Int.add_zero];exact On.tgtN ha hb hr,rfl⟩))
  ·dsimp only;refine Ou.ifT rfl (Ou.ite (λh=>?_) λh=>?_);·exact Ou.ret (by omega) ⟨p,false,e',by rw[Int.add_zero];exact On.tgtRE ha hb hr (by simpa using h),rfl⟩
   ·have he:e'=0:=by simpa using h
    subst he;refine zDD p Y (f-k) (by omega) hY (λhs=>⟨_,_,_,On.tgtRL ha hb hr hs,rfl⟩) (λhs=>⟨_,_,_,On.tgtR ha hb hr hs,rfl⟩) (λh Y' d' e' k' hO=>?_);cases hsY:zF Y with|true=>have:=(On.tgtR ha hb hr hsY).det hO;omega|false=>have:=(On.tgtRL ha hb hr hsY).det hO;omega
theorem zQB{N:ByteArray->Bool}(l:List yL)(hE:wZ N l)(he:∀e∈l,jL e)(x:Tm)(hs:zF x=true)(f:Int)(hf:0<=f)(hb:∀a∈xD x,HB l a f):Ou (λL U q=>zTD q (xB l) x L U) er5 (QO l x) (∀Y d e k,On l x Y d e k->f<k) f:=by
 have hB:∀a y k,zF a=true->Br l a y 0 k->zF y=true:=λa y k h1 h2=>h2.shaped h1 rfl;have hh:=tZ hs;have hg:=(zM hh).2.2;have hn:=eH hg;have ho:uS (xD x):=λy hy=>zX (xL hs hy);have hl:(xD x).length<=8192:=by have h:=zM hs;have:=tS _ h.2.2;omega
 refine Ou.succ ?_;simp only[zTD,cU,d8,eJ];refine Ou.evt (lM x hs) (Ou.ite (λh4=>?_) λh4=>?_)
 ·have h4':(yN x).k=4:=by simpa using h4
  have hkk:∀k:Int,k≠0->pE l (yN x)≠k:=λk hk e=>by have:=(sM e hk).1;omega
  refine Ou.ite (λhlen=>?_) λhlen=>?_
  ·have hlen':((xD x).length:Int)>0:=of_decide_eq_true hlen;obtain⟨a,b,hab,-,hgb⟩:=pT hg (.inr (.inl h4'));have hm:sG (xD x) 0∈xD x:=qD (by omega) (by omega);have hbo:(sG (yN x).sub 1).Ok:=by rw[hab];exact rE b hgb
   have hact:uZ l x=.red (nP (fZ (sG (yN x).sub 1) [sG (xD x) 0]).1 ((xD x).drop 1)) (fZ (sG (yN x).sub 1) [sG (xD x) 0]).2:=by unfold uZ;rw[if_pos ⟨h4',by omega⟩]
   refine Ou.pure (tN (by omega) (by rw[hab];simp)) (Ou.pure (tN (by omega) (by show(0:Int)<((xD x).length:Int);omega)) (Ou.evt (zWr _ _ hbo (ho _ hm)) (Ou.pure (qN (by omega) (by show(1:Int)<=((xD x).length:Int);omega)) (Ou.evt (qL _ _ (by show(List.drop _ (xD x)).length<_;rw[List.length_drop];omega)) ?_))));refine Ou.ite (λh=>Ou.ret hf ⟨_,_,_,On.redE hact (by simpa using h),rfl⟩) λh=>?_;have he0:(fZ (sG (yN x).sub 1) [sG (xD x) 0]).2=0:=by simpa using h
   rw[he0]at hact;exact zDD x _ f hf (mC _ _ (X1 _ _ hbo (uS.one (ho _ hm))) (ho.drop _)) (λhs=>⟨_,_,_,On.redL hact hs,rfl⟩) (λhs=>⟨_,_,_,On.red hact hs,rfl⟩) (λh Y' d' e' k' hO=>by have:=hO.red_lt hact rfl;omega)
  ·have hlen':¬((xD x).length:Int)>0:=of_decide_eq_false hlen;have hact:uZ l x=.none:=by unfold uZ;rw[if_neg (λh=>by omega),if_neg (hkk 3 (by decide)),if_neg (hkk 4 (by decide)),if_neg (by omega)]
   refine Ou.evt (eG l _ hn) (Ou.ifF (by simpa using hkk 3 (by decide)) ?_);refine Ou.evt (eG l _ hn) (Ou.ifF (by simpa using hkk 4 (by decide)) ?_);exact Ou.ifF (by show((yN x).k==7)=false;rw[h4'];decide) (Ou.ret hf ⟨_,_,_,On.stop hact,rfl⟩)
 ·have h4':(yN x).k≠4:=by simpa using h4
  refine Ou.evt (eG l _ hn) (Ou.ite (λh=>?_) λh=>?_)
  ·have h3:pE l (yN x)=3:=by simpa using h
   have hk:=sM h3 (by decide);have hact:uZ l x=.red (nP (zU l (yN x).n).body (xD x)) 0:=by unfold uZ;rw[if_neg (λh=>h4' h.1),if_pos h3]
   refine Ou.pure (yU hn hk.2.1) (Ou.evt (qL _ _ (by show(xD x).length<_;omega)) ?_);exact zDD x _ f hf (mC _ _ (he _ (nH hn hk.2.1)).2.1 ho) (λhs=>⟨_,_,_,On.redL hact hs,rfl⟩) (λhs=>⟨_,_,_,On.red hact hs,rfl⟩) (λh Y' d' e' k' hO=>by have:=hO.red_lt hact rfl;omega)
  ·have h3:pE l (yN x)≠3:=by simpa using h
   refine Ou.evt (eG l _ hn) (Ou.ite (λh=>?_) λh=>?_);·exact zGv l x f hf (zMJ l hE x hs f hf h4' (by simpa using h) hb hB)
   ·have h4k:pE l (yN x)≠4:=by simpa using h
    refine Ou.ite (λh=>zGv l x f hf (zQA l hE x hs f hf (by simpa using h) hb hB)) λh=>?_;have h7:(yN x).k≠7:=by simpa using h
    have hact:uZ l x=.none:=by unfold uZ;rw[if_neg (λh=>h4' h.1),if_neg h3,if_neg h4k,if_neg h7]
    exact Ou.ret hf ⟨_,_,_,On.stop hact,rfl⟩
theorem zMK{N:ByteArray->Bool}(l:List yL)(hE:wZ N l)(he:∀e∈l,jL e):∀(F n:Nat)(x:Tm),zF x=true->x.nodes<=n->Ou (λL U q=>H5 q (xB l) L U x.k x.n x.sub) er4 (λR k=>∃y e,Br l x y e k/\R=λL U=>(y,e,L,U)) (∀y e k,Br l x y e k->(F:Int)<k) (F:Int):=by intro F;induction F using Nat.strongRecOn with|ind F IH=>intro n;induction n with|zero=>intro x _ h;have:=sX x;omega|succ n ih=>
 intro x hs hn;have hg:=(zM hs).2.2;have hb:∀a∈xD x,HB l a F:=λa ha=>by have:=((W6 x hg).2.2.2.2 a ha).2.1;refine Ou.succ ?_;simp only[zGw];exact ih a (xL hs ha) (by omega)
 refine Ou.succ ?_;simp only[H5,rD];refine Ou.bind (zQB l hE he x hs F (by omega) hb) (λh y e k hbr=>by obtain⟨Y,d,e1,k1,h1,h2⟩:=hbr.first;have:=h _ _ _ _ h1;omega) (λr hr=>?_) ?_
 ·have hr':(r.2.2.1 !=0)=true:=by rw[show r.2.2.1=8 from hr];decide
  cases hd:r.2.1 with|true=>exact⟨_,zH.ifT rfl (zH.ifT hr' zH.ret),hr⟩|false=>exact⟨_,zH.ifF rfl (zH.ifT hr' zH.ret),hr⟩
 ·rintro R k k0 k1⟨Y,d,e,hO,rfl⟩;dsimp only;by_cases e0:e=0
  ·subst e0;cases d with|true=>
    obtain⟨hY,hk1,hst⟩:=hO.step;refine Ou.ifT rfl (Ou.ifF rfl ?_);have:=IH ((F:Int)-k).toNat (by omega) Y.nodes Y hY (Nat.le_refl _);rw[show((((F:Int)-k).toNat:Nat):Int)=F-k by omega]at this;refine this.mono ?_ λh y e k' hbr=>?_
    ·rintro R n _ _⟨y,e,hbr,rfl⟩;exact⟨y,e,hst y e n hbr,rfl⟩
    ·obtain⟨k2,h2,h3⟩:=hbr.after hO;have:=h _ _ _ h2;omega|false=>obtain⟨rfl,hbr⟩:=hO.still;exact Ou.ifF rfl (Ou.ifF rfl (Ou.ret (by omega) ⟨Y,0,by rwa[Int.add_zero],rfl⟩))
  ·have hb:=hO.err e0;have hr':(e !=0)=true:=by simpa using e0
   cases d with|true=>exact Ou.ifT rfl (Ou.ifT hr' (Ou.ret (by omega) ⟨zT,e,by rwa[Int.add_zero],rfl⟩))|false=>exact Ou.ifF rfl (Ou.ifT hr' (Ou.ret (by omega) ⟨zT,e,by rwa[Int.add_zero],rfl⟩))
theorem zWU{N:ByteArray->Bool}(l:List yL)(hE:wZ N l)(he:∀e∈l,jL e)(x:Tm)(hs:zF x=true)(f:Int)(hf:0<=f):HB l x f:=by refine Ou.succ ?_;simp only[zGw];have:=zMK l hE he f.toNat x.nodes x hs (Nat.le_refl _);rwa[show((f.toNat:Nat):Int)=f by omega]at this
def uM(l:List yL)(x:Tm):Prop:=rQ x 1048577 l.length=true
instance(l:List yL)(x:Tm):Decidable (uM l x):=inferInstanceAs(Decidable (_=true))
theorem uM.shaped{l:List yL}{x:Tm}(h:uM l x):zF x=true:=by unfold uM rQ at h;simp only[Bool.and_eq_true]at h;exact h.1.1
def QBR(l:List yL)(x:Tm)(R:Int->Int->Tm×Int×Int×Int)(k:Int):Prop:=(¬uM l x/\k=0/\R=λL U=>(zT,5,L,U))\/(uM l x/\∃y e,Br l x y e k/\R=λL U=>(if e=0 then y else zT,e,L,U))
theorem zCx{N:ByteArray->Bool}(l:List yL)(hE:wZ N l)(he:∀e∈l,jL e)(x:Tm)(ho:x.Ok)(f:Int)(hf:0<=f):Ou (λL U q=>zDC q (xB l) x L U) er4 (QBR l x) (uM l x/\∀y e k,Br l x y e k->f<k) f:=by
 simp only[zDC,zWT,cU];refine Ou.evt (a:=rQ x 1048577 l.length) ((lK x _ _ ho).bind zH.ret) (Ou.ite (λh=>?_) λh=>?_)
 ·have hR:uM l x:=h;refine Ou.bind (zWU l hE he x hR.shaped f hf) (λh=>⟨hR,h⟩) (λr hr=>⟨_,zH.ifT (by show(r.2.1 !=0)=true;rw[show r.2.1=8 from hr];decide) zH.ret,hr⟩) ?_;rintro R k k0 k1⟨y,e,hbr,rfl⟩;dsimp only;by_cases e0:e=0
  ·subst e0;have hy:=hbr.shaped hR.shaped rfl;refine Ou.ifF rfl (Ou.evt (a:=y) ((tU y (zX hy)).eq (by unfold nO;rw[if_pos hy])) (Ou.ret (by omega) (.inr ⟨hR,y,0,by rwa[Int.add_zero],rfl⟩)))
  ·refine Ou.ifT (by simpa using e0) (Ou.ret (by omega) (.inr ⟨hR,y,e,by rwa[Int.add_zero],?_⟩));rw[if_neg e0];rfl
 ·exact Ou.ret hf (.inl ⟨by unfold uM;rw[h];simp,rfl,rfl⟩)
structure Inv(l:List yL)(I:Tm->Prop):Prop where
 spine:∀t,xZ t=true->I t->I (yN t)/\∀a∈xD t,I a
 ap:∀f as0,I f->(∀a∈as0,I a)->I (nP f as0)beta:∀(n:Int)(a b x:Tm),I (.mk 4 n [a,b])->I x->I (siT [x] b 0)body:∀i:Int,0<=i->i<l.length->(zU l i).kind=3->I (zU l i).body
 step:∀(d:Int)(s:Tm)(lev c:Int)(args own:List Tm),I (.mk 7 d [s])->S7 l c 2=true->(zU l c).fam=d->(args.length:Int)=(zU l d).pars+1+(zU l d).cons.length->own.length=(vJ l c).args.length->(∀a∈args,I a)->(∀a∈own,I a)->I (zKh l d lev c args own)
theorem zTF{l:List yL}{I:Tm->Prop}(hI:Inv l I){x Y:Tm}(hs:zF x=true)(hx:I x)(h:uZ l x=.red Y 0):I Y:=by
 have hsp:=hI.spine x (zM hs).2.2 hx;have hg:=(zM (tZ hs)).2.2;unfold uZ at h;by_cases h1:(yN x).k=4/\0<(xD x).length
 ·rw[if_pos h1]at h;have hm:sG (xD x) 0∈xD x:=qD (by omega) (by omega);obtain⟨a,b,hab,-,-⟩:=pT hg (.inr (.inl h1.1));have hhd:yN x=.mk 4 (yN x).n [a,b]:=by rw[<-h1.1,<-hab,rD]
  injection h with hY he;rw[(zDg he).2.2.2]at hY;rw[<-hY];refine hI.ap _ _ ?_ λy hy=>hsp.2 y (List.mem_of_mem_drop hy);have hb:sG (yN x).sub 1=b:=by rw[hab];rfl
  rw[hb];exact hI.beta (yN x).n a b _ (by rw[<-hhd];exact hsp.1) (hsp.2 _ hm)
 ·rw[if_neg h1]at h;by_cases h2:pE l (yN x)=3
  ·rw[if_pos h2]at h;injection h with hY he;rw[<-hY];have hk:=sM h2 (by decide);exact hI.ap _ _ (hI.body _ (eH hg) hk.2.1 hk.2.2) hsp.2
  ·rw[if_neg h2]at h;split at h;·split at h<;>cases h
   ·split at h;·split at h<;>cases h
    ·cases h
theorem X8{N:ByteArray->Bool}{l:List yL}(hE:wZ N l){x a:Tm}(hs:zF x=true)(h:uZ l x=.tgt a):a∈xD x/\(pE l (yN x)=4\/((yN x).k=7/\S7 l (yN x).n 1=true/\wU (zU l (yN x).n)<=(xD x).length)):=by
 have hn:=eH (zM (tZ hs)).2.2;unfold uZ at h;by_cases h1:(yN x).k=4/\0<(xD x).length;·rw[if_pos h1]at h;cases h
 ·rw[if_neg h1]at h;by_cases h2:pE l (yN x)=3;·rw[if_pos h2]at h;cases h
  ·rw[if_neg h2]at h;by_cases h3:pE l (yN x)=4
   ·rw[if_pos h3]at h;split at h;·cases h
    ·injection h with h;have hk:=sM h3 (by decide);have hp:=(xP (hE.2 _ hn hk.2.1)).2.2.2.1 hk.2.2;unfold S9 at hp;simp only[Bool.and_eq_true]at hp;have hw:=pB hp.1;have hfam:=vT ((xP (hE.2 _ hw.1 (by omega))).2.1 hw.2.2.1);rw[<-h];exact⟨qD (by omega) (by omega),.inl h3⟩
   ·rw[if_neg h3]at h;by_cases h4:(yN x).k=7
    ·rw[if_pos h4]at h;split at h
     ·rename_i h5;injection h with h;have hi:=tL h5.1;have hfam:=vT ((xP (hE.2 _ hi.1 hi.2.1)).2.1 hi.2.2);have h6:=h5.2;unfold wU at h6 h;rw[if_pos hi.2.2]at h6 h;rw[<-h];exact⟨qD (by omega) (by omega),.inr ⟨h4,h5⟩⟩
     ·cases h
    ·rw[if_neg h4]at h;cases h
theorem zML{N:ByteArray->Bool}{l:List yL}{I:Tm->Prop}(hE:wZ N l)(hI:Inv l I){x y Y a:Tm}(hs:zF x=true)(hsy:zF y=true)(hx:I x)(hy:I y)(ha:uZ l x=.tgt a)(h:sN l x y=some (Y,0)):I Y:=by
 have hsp:=hI.spine x (zM hs).2.2 hx;have hsy2:=hI.spine y (zM hsy).2.2 hy;have hg:=(zM (tZ hs)).2.2;have hox:uS (xD x):=λz hz=>zX (xL hs hz);have hoy:uS (xD y):=λz hz=>zX (xL hsy hz);have hlx:(xD x).length<=8192:=by have h:=zM hs;have:=tS _ h.2.2;omega
 have hly:(xD y).length<=8192:=by have h:=zM hsy;have:=tS _ h.2.2;omega
 have hca:=(X8 hE hs ha).2;unfold sN at h;by_cases h4:pE l (yN x)=4
 ·rw[if_pos h4]at h;split at h
  ·simp only[Option.some.injEq,Prod.mk.injEq]at h;have hX:=(eL l (yN x).n ((xD y).drop (zU l (yN y).n).pars.toNat) hE (hoy.drop _) (by rw[List.length_drop];omega)).2.2.2 h.2;rw[<-h.1];refine hI.ap _ _ ?_ λz hz=>hsp.2 z (List.mem_of_mem_drop hz);rw[hX.2.2.2];exact hsy2.2 _ (List.mem_of_mem_drop (qD hX.2.1 hX.2.2.1))
  ·cases h
 ·rw[if_neg h4]at h;obtain⟨h7,-,-⟩:=hca.resolve_left h4;split at h
  ·simp only[Option.some.injEq,Prod.mk.injEq]at h;have hX:=(A7 l (yN x).n (sG (yN x).sub 0).n (yN y).n ((xD x).take ((zU l (yN x).n).pars+1+(zU l (yN x).n).cons.length).toNat) ((xD y).drop (zU l (yN x).n).pars.toNat) hE (hox.take _) (hoy.drop _) (by rw[List.length_take];omega) (by rw[List.length_drop];omega)).2.2.2 h.2;rw[<-h.1];refine hI.ap _ _ ?_ λz hz=>hsp.2 z (List.mem_of_mem_drop hz);obtain⟨-,-,b1,b2,b3,b4,-,-,b5,-⟩:=hX;rw[b5];obtain⟨s,hsb⟩:∃s,(yN x).sub=[s]:=by revert hg h7;generalize yN x=w;intro hg h7;obtain⟨kk,nn,ss⟩:=w;obtain⟨s,hs,-⟩:=(sY (uD hg).1).2.2.2.2.2.2.1 h7;exact⟨s,hs⟩
   have hhd:yN x=.mk 7 (yN x).n [s]:=by rw[<-h7,<-hsb,rD]
   exact hI.step _ s _ _ _ _ (by rw[<-hhd];exact hsp.1) b1 b2 b3 b4 (λz hz=>hsp.2 z (List.mem_of_mem_take hz)) (λz hz=>hsy2.2 z (List.mem_of_mem_drop hz))
  ·cases h
theorem Br.inv{N:ByteArray->Bool}{l:List yL}{I:Tm->Prop}(hE:wZ N l)(hI:Inv l I){x y:Tm}{e k:Int}(h:Br l x y e k):zF x=true->e=0->I x->I y:=by induction h with|stop _=>exactλ_ _ hx=>hx|redE _ h=>exactλ_ he=>absurd he h|redL _ _=>exactλ_ he=>absurd he (by decide)|red a hY _ ih=>exactλhs he hx=>ih hY he (zTF hI hs hx a)|tgtE _ _ h _=>exactλ_ he=>absurd he h|tgtN _ _ _ _=>exactλ_ _ hx=>hx|tgtRE _ _ _ h _=>exactλ_ he=>absurd he h|tgtRL _ _ _ _ _=>exactλ_ he=>absurd he (by decide)|tgtR a b c hY _ ih ih2=>intro hs he hx;have hm:=(X8 hE hs a).1;have hsa:=xL hs hm;exact ih2 hY he (zML hE hI hs (b.shaped hsa rfl) hx (ih hsa rfl ((hI.spine _ (zM hs).2.2 hx).2 _ hm)) a c)
theorem zCw{N:ByteArray->Bool}{l:List yL}(hE:wZ N l){P:Int->Int->Prop}(hP:∀k n:Int,k≠8->(k=6\/k=7->n<l.length)->P k n):Inv l (xS P)where
 spine:=λt hg h=>oY t hg h
 ap:=λf as0 hf ha=>iS as0 f (hP 5 0 (by decide) (by omega)) hf ha
 beta:=λn a b x h hx=>by rw[xS,vD,vD,vD]at h;exact X4 [x] (λy hy=>by rw[List.mem_singleton.1 hy];exact hx) b 0 h.2.2.1
 body:=λi h0 h1 hk=>by have hd:=(xP (hE.2 i h0 h1)).2.2.2.2.1 hk;unfold zIo at hd;simp only[Bool.and_eq_true]at hd;exact sA (λk n h=>hP k n h.2 λh'=>by have:=h.1 h';omega) (iT hd.1)
 step:=λd s lev c args own h7 hc hf ha ho h1 h2=>by have hi:=tL hc;obtain⟨A,y,hw,-⟩:=vX hE hi.1 hi.2.1 hi.2.2;rw[xS]at h7;refine zMH (hP 4 0 (by decide) (by omega)) (hP 5 0 (by decide) (by omega)) (hP 0 0 (by decide) (by omega)) (hP 2 _ (by decide) (by omega)) (h7.1.resolve_left (by decide)) h1 h2 ?_;exact zIa (by rw[hw]) (sA (λk n h=>hP k n h.2 λh'=>by have:=h.1 h';omega) (iT (xP (hE.2 _ hi.1 hi.2.1)).1))
theorem zWV{N:ByteArray->Bool}{l:List yL}(hE:wZ N l)(V:Int->Prop):Inv l (λt=>∀j∈tV t 0,V j)where
 spine:=λt hg h=>⟨λj hj=>h j ((G9 t hg 0 j).1 hj),λa ha j hj=>h j ((G9 t hg 0 j).2 a ha hj)⟩
 ap:=λf as0 hf ha j hj=>by
  rcases(zBX as0 f 0 j).1 hj with h|⟨a,h1,h2⟩;·exact hf j h
  ·exact ha a h1 j h2
 beta:=λn a b x h hx j hj=>by
  obtain⟨i,hi,h1|⟨h1,h2⟩⟩:=zPR [x] b 0 j (Int.le_refl 0) hj
  ·refine h j (zPU.2 (.inr ?_));simp only[List.length_cons,List.length_nil]at h1;have:=(jN b 0 1 j (by omega)).2 ⟨by omega,by rwa[show j+1=i by omega]⟩;exact this
  ·simp only[List.length_cons,List.length_nil]at h1;refine hx j ?_;have e:i.toNat=0:=by omega
   simpa[e]using h2
 body:=λi h0 h1 hk j hj=>by have hd:=(xP (hE.2 i h0 h1)).2.2.2.2.1 hk;unfold zIo at hd;simp only[Bool.and_eq_true]at hd;exact absurd hj (zBY hd.1 0 j (Int.le_refl 0))
 step:=λd s lev c args own h7 hc hf ha ho h1 h2 j hj=>by
  rcases zTa hE hc hf ha ho hj with⟨a,h3,h4⟩|⟨a,h3,h4⟩;·exact h1 a h3 j h4
  ·exact h2 a h3 j h4
def A8:Nat->yV->Int->Option (Int)|0,_,_=>none|c+1,a,b=>if decide ((a.length:Int)>0)then if decide (b<=8192)then zV a (xF ((a.length:Int)-1))>>=λx3=>kE a 0 (xF ((a.length:Int)-1))>>=λx5=>yZ 40 ([]:yV) x5>>=λl7=>kE x3.sub 0 (zVD (x3.sub.length:Int) 8193)>>=λx10=>yZ 40 l7 x10>>=λl12=>A8 c l12 (xF (b+1))else some b else some b
def e28(c:Nat)(d:Tm):Option (Int):=A8 c [d] 0
theorem zWW:∀c:Nat,∀a b,Lz (A8 c a b) 0 f28 (pt 4069 f28) (λj=>sp j 39 0 [(3,zP zA a .full),(4,ai b)]) ⟨[],0,[],0,[]⟩ (λr=>ai r) (λ_=>[]) 0 [.blk 0,.seq (pt 255 f28)]/\Lz (A8 c a b) 0 f28 (pt 4069 f28) (λj=>sp j 39 0 [(3,zP zA a (.st 0 3)),(4,ai b)]) ⟨[],0,[0],1,[]⟩ (λr=>ai r) (λ_=>[]) 0 [.blk 0,.seq (pt 255 f28)]:=wF (λ_ _=>⟨lN,lN⟩) λc ih=>λa b=>⟨lw λ_=>rB 1 (rB 0 (rA 2 (wE (o:=.full)) λ_=>rW (λh6=>oF 5 (zJS (o:=.full) h6)) λx5=>rH λ_ h8=>rZ (List.length x5=0) (λh9=>rS (oP 0 (kH h8 h9))<|rA 4 lI λx10=>rH λ_ h13=>rZ (List.length x10=0) (λh14=>rS (oP 0 (kH h13 h14))<|lH 1 [] [] [] [3,4] ((ih _ _).1)) λh14=>rS (oP 0 (vZ h13 h14))<|lH 1 [] [] [0] [3,4] ((ih _ _).2)) λh9=>rS (oP 0 (vZ h8 h9))<|rA 4 lI λx10=>rH λ_ h13=>rZ (List.length x10=0) (λh14=>rS (oP 0 (kH h13 h14))<|lH 1 [] [] [0] [3,4] ((ih _ _).2)) λh14=>rS (oP 0 (vZ h13 h14))<|lH 1 [] [] [1] [3,4] ((ih _ _).2))<|lE 0)<|lE 0,lw λ_=>rB 1 (rB 0 (rA 2 (wE (o:=(.st 0 3))) λ_=>rW (λh6=>oF 5 (zJS (o:=(.st 0 3)) h6)) λx5=>rH λ_ h8=>rZ (List.length x5=0) (λh9=>rS (oP 0 (kH h8 h9))<|rA 4 lI λx10=>rH λ_ h13=>rZ (List.length x10=0) (λh14=>rS (oP 0 (kH h13 h14))<|lH 1 [] [] [] [3,4] ((ih _ _).1)) λh14=>rS (oP 0 (vZ h13 h14))<|lH 1 [] [] [1] [3,4] ((ih _ _).2)) λh9=>rS (oP 0 (vZ h8 h9))<|rA 4 lI λx10=>rH λ_ h13=>rZ (List.length x10=0) (λh14=>rS (oP 0 (kH h13 h14))<|lH 1 [] [] [1] [3,4] ((ih _ _).2)) λh14=>rS (oP 0 (vZ h13 h14))<|lH 1 [] [] [2] [3,4] ((ih _ _).2))<|lE 0)<|lE 0⟩
theorem c28{c d}:Cz (e28 c d) 28 [] [yY d] (λr=>ai r) (λ_=>[]) 0:=fw func28<|rS (oS 1 (xR wC [d]))<|fH 0 [] [] [] [3,4] ((zWW _ _ _).1)
theorem d9:∀a b:List Tm,xU (a++b)=xU a+xU b|[],b=>by simp[xU]|t::a,b=>by simp only[List.cons_append,xU,d9 a b];omega
theorem A9:∀l:List Tm,l.length<=xU l|[]=>by simp[xU]|t::l=>by rw[xU];have:=A9 l;have:=sX t;simp;omega
theorem zMM(t:Tm):t.nodes=1+xU t.sub:=by cases t;rw[Tm.nodes,Tm.sub]
theorem zQC{α:Type}{l:List α}{a b:Nat}(h1:a<=b)(h2:b<=l.length):kE l (a:Int) (b:Int)=some ((l.drop a).take (b-a)):=by unfold kE;rw[if_pos (by omega),show((b:Int)-(a:Int)).toNat=b-a by omega,show(a:Int).toNat=a by omega]
theorem zMN{α:Type}(l:List α)(x:α):zV (l++[x]) (l.length:Int)=some x:=by unfold zV;rw[if_pos (by omega)];simp
theorem zMO:∀(m h:Nat)(todo:List Tm),h+m=8193->todo.length<=1+h*8193->zH (λq=>A8 q todo (h:Int)) ((min (h+xU todo) 8193:Nat):Int):=by intro m;induction m with
 |zero=>
  intro h todo hm hl;refine zH.succ ?_;simp only[A8];have:h=8193:=by omega
  subst this;rcases todo with _|⟨x,todo⟩;·exact zH.ifF (by simp) (zH.ret.eq (by simp))
  ·refine zH.ifT (by simp<;>omega) (zH.ifF (by simp) (zH.ret.eq ?_));have:min (8193+xU (x::todo)) 8193=8193:=by omega
   rw[this]|succ m ih=>
  intro h todo hm hl;refine zH.succ ?_;simp only[A8];rcases List.eq_nil_or_concat todo with rfl|⟨ini,x,rfl⟩
  ·refine zH.ifF (by simp) (zH.ret.eq ?_);have:min (h+xU []) 8193=h:=by rw[xU];omega
   rw[this]
  ·simp only[List.concat_eq_append]at hl⊢;have hlen:(ini++[x]).length=ini.length+1:=by simp
   have hb:h*8193<=8192*8193:=Nat.mul_le_mul_right _ (by omega);have e1:xF (((ini++[x]).length:Int)-1)=(ini.length:Int):=by rw[yQ (by omega) (by omega),hlen];omega
   refine zH.ifT (by simp<;>omega) (zH.ifT (by simp<;>omega) ?_);rw[e1];refine zH.pure (zMN ini x) ?_;have e2:kE (ini++[x]) 0 (ini.length:Int)=some ini:=by have:=zQC (l:=ini++[x]) (a:=0) (b:=ini.length) (by omega) (by omega);simpa using this
   refine zH.pure e2 (zH.pure (yG (by simp<;>omega)) ?_);have e3:zVD (x.sub.length:Int) 8193=((min x.sub.length 8193:Nat):Int):=by unfold zVD;split<;>omega
   rw[e3];have e4:=zQC (l:=x.sub) (a:=0) (b:=min x.sub.length 8193) (by omega) (by omega);refine zH.pure (by simpa using e4) (zH.pure (yG (by simp<;>omega)) ?_);rw[zW h (by omega)];refine(ih (h+1) _ (by omega) (by simp<;>omega)).eq ?_;have hn:=zMM x;simp only[List.nil_append,d9,xU,Nat.add_zero];by_cases hs:x.sub.length<=8193
   ·rw[show min x.sub.length 8193=x.sub.length by omega,List.take_length];omega
   ·have h1:=A9 (x.sub.take (min x.sub.length 8193));have h2:=A9 x.sub;simp only[List.length_take]at h1;omega
theorem zQD(t:Tm):zH (λq=>e28 q t) ((min t.nodes 8193:Nat):Int):=by simp only[e28];refine(zMO 8193 0 [t] (by omega) (by simp)).eq ?_;simp[xU]
def zKA(d:Nat)(c a b:Int):Option (Int):=some b
theorem zTG{d c a b}:Cz (zKA d c a b) 47 [.cells [ai c,ai a]] [.mp 0 0,ai b] (λ_=>.tup []) (λr=>[.cells [ai r,ai a]]) 0:=fw func47<|fE 1
def e30(b:Nat)(a:Int):Option ((Int)⊕(Int×Int×Int)):=if decide (a<0)then some (Sum.inl 5)else if decide (a>1048576)then some (Sum.inl 5)else zKA b 0 0 a>>=λr3=>some (Sum.inr (0,r3,0))
theorem c30{b a}:Cz (e30 b a) 30 [] [ai a] (Sum.elim (λx=>.tup [.val (.pointer none),ai x]) (λx=>.tup [.mp 0 0,ai x.1])) (Sum.elim (λ_=>[]) (λx=>[.cells [ai x.2.1,ai x.2.2]])) 0:=fw func30<|rB 0 (fE 0)<|rB 0 (fE 0)<|rC 0 [0] zTG λ_=>fF 0 [0]
theorem zTH(f:Int)(h0:0<=f)(h1:f<=1048576):zH (λq=>e30 q f) (.inr (0,f,0)):=by simp only[e30];exact zH.ifF (decide_eq_false (by omega)) (zH.ifF (decide_eq_false (by omega)) (zH.bind (a:=f) (zH.mk λ_=>rfl) zH.ret))
theorem Br.e8{N:ByteArray->Bool}{l:List yL}(hE:wZ N l){x y:Tm}{e k:Int}(h:Br l x y e k):zF x=true->e≠8:=by induction h with
 |stop _=>exactλ_=>by decide|@redE x Y e a h=>
  intro hs;unfold uZ at a;split at a;·injection a with h1 h2;rw[<-h2];exact zKp _ _
  ·split at a
   ·injection a with h1 h2;rw[<-h2];decide
   ·split at a;·split at a<;>cases a
    ·split at a;·split at a<;>cases a
     ·cases a|redL _ _=>exactλ_=>by decide|red _ hY _ ih=>exactλ_=>ih hY|tgtE a _ _ ih=>exactλhs=>ih (xL hs (X8 hE hs a).1)|tgtN _ _ _ _=>exactλ_=>by decide|@tgtRE x a z Y e k ha hb hr he ih=>
  intro hs;have hm:=(X8 hE hs ha).1;have hz:=hb.shaped (xL hs hm) rfl;have hox:uS (xD x):=λz hz=>zX (xL hs hz);have hoy:uS (xD z):=λw hw=>zX (xL hz hw);have hlx:(xD x).length<=8192:=by have h:=zM hs;have:=tS _ h.2.2;omega
  have hly:(xD z).length<=8192:=by have h:=zM hz;have:=tS _ h.2.2;omega
  unfold sN at hr;split at hr
  ·split at hr
   ·simp only[Option.some.injEq,Prod.mk.injEq]at hr;rw[<-hr.2];exact(eL l (yN x).n ((xD z).drop (zU l (yN z).n).pars.toNat) hE (hoy.drop _) (by rw[List.length_drop];omega)).2.2.1
   ·cases hr
  ·split at hr
   ·simp only[Option.some.injEq,Prod.mk.injEq]at hr;rw[<-hr.2];exact(A7 l (yN x).n (sG (yN x).sub 0).n (yN z).n ((xD x).take ((zU l (yN x).n).pars+1+(zU l (yN x).n).cons.length).toNat) ((xD z).drop (zU l (yN x).n).pars.toNat) hE (hox.take _) (hoy.drop _) (by rw[List.length_take];omega) (by rw[List.length_drop];omega)).2.2.1
   ·cases hr|tgtRL _ _ _ _ _=>exactλ_=>by decide|tgtR a b c hY _ ih ih2=>exactλ_=>ih2 hY
theorem Br.zero{l:List yL}{x y:Tm}{e k:Int}(h:Br l x y e k):e=0->k<=0->y=x:=by cases h with|stop _=>exactλ_ _=>rfl|redE _ h=>exactλhe=>absurd he h|redL _ _=>exactλhe=>absurd he (by decide)|red _ _ h=>exactλ_ hk=>by have:=h.nn;omega|tgtE _ _ h=>exactλhe=>absurd he h|tgtN _ _ _=>exactλ_ _=>rfl|tgtRE _ _ _ h=>exactλhe=>absurd he h|tgtRL _ _ _ _=>exactλhe=>absurd he (by decide)|tgtR _ h1 _ _ h2=>exactλ_ hk=>by have:=h1.nn;have:=h2.nn;omega
theorem Ou.evt0{ρ:Type}{f:Int->Int->Nat->Option ρ}{er:ρ->Int}{Q:(Int->Int->ρ)->Int->Prop}{S:Prop}{l:Int}{R:Int->Int->ρ}(h:∀L U,zH (f L U) (R L U))(h0:0<=l)(k:Q R 0):Ou f er Q S l:=.inl ⟨R,0,by omega,h0,k,λL U _ _ _=>by rw[show L-0=L by omega,show U+0=U by omega];exact h L U,λL U _ _=>by omega⟩
abbrev PE:=(Tm×Int)×(Tm×Int)
def oZ(t:Tm):Tm×Int:=if t.k=4 then(sG t.sub 1,0)else(.mk 5 0 [(uP t 1 0).1,.mk 1 0 []],if(uP t 1 0).2=0 then(if zF (.mk 5 0 [(uP t 1 0).1,.mk 1 0 []])=true then 0 else 2)else(uP t 1 0).2)
def vO(l:List yL)(c:Int):List Int:=(zU l (zU l c).fam).fields
def rF(l:List yL)(t:Tm):Prop:=uA l t/\vO l (yN t).n≠[]
instance(l:List yL)(t:Tm):Decidable (rF l t):=inferInstanceAs(Decidable (_/\_))
def sB(l:List yL)(t:Tm)(c:Int)(i:Nat)(pars:List Tm):Tm×Int:=if rF l t/\(yN t).n=c then(sG (xD t) ((pars.length+i:Nat):Int),0)else(.mk 5 0 [nP (.mk 6 (((vO l c)[i]?).getD (-1)) []) pars,t],if zF (.mk 5 0 [nP (.mk 6 (((vO l c)[i]?).getD (-1)) []) pars,t])=true then 0 else 2)
def jS(l:List yL)(t:Tm):List Tm:=(xD t).take (zU l (yN t).n).pars.toNat
def zGu(l:List yL)(x y:Tm)(c:Int)(pars:List Tm):Nat->Nat->List PE|0,_=>[]|m+1,i=>(sB l x c i pars,sB l y c i pars)::zGu l x y c pars m (i+1)
def zGt:List Tm->List Tm->List PE|a::l,b::m=>((a,0),(b,0))::zGt l m|_,_=>[]
def zTI(x y:Tm):List PE:=(if(yN x).k=3 then[((sG (yN x).sub 0,0),(sG (yN y).sub 0,0)),((sG (yN x).sub 1,0),(sG (yN y).sub 1,0))]else[])++zGt (xD x) (xD y)
inductive Hd where|ans(b:Bool)|all(ps:List PE)|pi(a b c d:Tm)
def eM(x y:Tm):Hd:=if(yN x).k≠(yN y).k\/(yN x).n≠(yN y).n\/(xD x).length≠(xD y).length\/((yN x).k=7/\(sG (yN x).sub 0).n≠(sG (yN y).sub 0).n)then .ans false else .all (zTI x y)
def rT(l:List yL)(m:Bool)(x y:Tm):Hd:=if x.k=4\/y.k=4 then .all [(oZ x,oZ y)]else if rF l x then(if rF l y/\(yN x).n≠(yN y).n then .ans false else .all (zGu l x y (yN x).n (jS l x) (vO l (yN x).n).length 0))else if rF l y then .all (zGu l x y (yN y).n (jS l y) (vO l (yN y).n).length 0)else if x.k≠y.k then .ans false else if x.k=3 then .pi (sG x.sub 0) (sG y.sub 0) (sG x.sub 1) (sG y.sub 1)else if x.k=2 then .ans (if m=true then decide (x.n<=y.n)else x.n==y.n)else eM x y
def tC(C:Tm->Tm->Bool->Int->Prop):List PE->Bool->Int->Prop|[],b,k=>b=true/\k=0|p::r,b,k=>p.1.2=0/\p.2.2=0/\∃b1 k1,C p.1.1 p.2.1 b1 k1/\((b1=false/\b=false/\k=k1)\/(b1=true/\∃k2,tC C r b k2/\k=k1+k2))
def HdR(C:Bool->Tm->Tm->Bool->Int->Prop)(m:Bool):Hd->Bool->Int->Prop|.ans b0,b,k=>b=b0/\k=0|.all ps,b,k=>tC (C false) ps b k|.pi a a' c c',b,k=>∃b1 k1,C false a a' b1 k1/\((b1=false/\b=false/\k=k1)\/(b1=true/\∃k2,C m c c' b k2/\k=k1+k2))
def CvN(l:List yL):Nat->Bool->Tm->Tm->Bool->Int->Prop|0,_,_,_,_,_=>False|n+1,m,x,y,b,k=>uM l x/\uM l y/\∃x' k1 y' k2 k3,Br l x x' 0 k1/\Br l y y' 0 k2/\HdR (CvN l n) m (rT l m x' y') b k3/\k=k1+k2+k3
def Cv(l:List yL)(m:Bool)(x y:Tm)(b:Bool)(k:Int):Prop:=∃n,CvN l n m x y b k
section
variable{C C':Tm->Tm->Bool->Int->Prop}
theorem tC.mono(h:∀x y b k,C x y b k->C' x y b k):∀{ps:List PE}{b:Bool}{k:Int},tC C ps b k->tC C' ps b k|[],_,_,a=>a|_::_,_,_,⟨a,b,b1,k1,c,d⟩=>⟨a,b,b1,k1,h _ _ _ _ c,d.imp id λ⟨e,k2,f,g⟩=>⟨e,k2,tC.mono h f,g⟩⟩
theorem tC.nn(h:∀x y b k,C x y b k->0<=k):∀{ps:List PE}{b:Bool}{k:Int},tC C ps b k->0<=k
 |[],_,_,⟨_,a⟩=>by omega|_::_,_,_,⟨_,_,b1,k1,c,d⟩=>by
  have:=h _ _ _ _ c;rcases d with⟨_,_,d⟩|⟨_,k2,d,e⟩;·omega
  ·have:=tC.nn h d;omega
theorem tC.det(h:∀x y b k b' k',C x y b k->C' x y b' k'->b'=b/\k'=k):∀{ps:List PE}{b b':Bool}{k k':Int},tC C ps b k->tC C' ps b' k'->b'=b/\k'=k
 |[],_,_,_,_,⟨a,b⟩,⟨c,d⟩=>by subst a;subst c;exact⟨rfl,by omega⟩|_::_,_,_,_,_,⟨_,_,b1,k1,c,d⟩,⟨_,_,b1',k1',c',d'⟩=>by
  obtain⟨rfl,rfl⟩:=h _ _ _ _ _ _ c c';rcases d with⟨d1,d2,d3⟩|⟨d1,k2,d2,d3⟩
  ·rcases d' with⟨_,e2,e3⟩|⟨e1,_⟩;·subst d2;subst e2;exact⟨rfl,by omega⟩
   ·rw[d1]at e1;cases e1
  ·rcases d' with⟨e1,_⟩|⟨_,k2',e2,e3⟩;·rw[d1]at e1;cases e1
   ·obtain⟨rfl,rfl⟩:=tC.det h d2 e2;exact⟨rfl,by omega⟩
end
section
variable{C C':Bool->Tm->Tm->Bool->Int->Prop}{m:Bool}
theorem HdR.mono(h:∀m x y b k,C m x y b k->C' m x y b k):∀{q:Hd}{b:Bool}{k:Int},HdR C m q b k->HdR C' m q b k|.ans _,_,_,a=>a|.all _,_,_,a=>tC.mono (h false) a|.pi _ _ _ _,_,_,⟨b1,k1,c,d⟩=>⟨b1,k1,h _ _ _ _ _ c,d.imp id λ⟨e,k2,f,g⟩=>⟨e,k2,h _ _ _ _ _ f,g⟩⟩
theorem HdR.nn(h:∀m x y b k,C m x y b k->0<=k):∀{q:Hd}{b:Bool}{k:Int},HdR C m q b k->0<=k
 |.ans _,_,_,⟨_,a⟩=>by omega|.all _,_,_,a=>tC.nn (h false) a|.pi _ _ _ _,_,_,⟨b1,k1,c,d⟩=>by
  have:=h _ _ _ _ _ c;rcases d with⟨_,_,d⟩|⟨_,k2,d,e⟩;·omega
  ·have:=h _ _ _ _ _ d;omega
theorem HdR.det(h:∀m x y b k b' k',C m x y b k->C' m x y b' k'->b'=b/\k'=k):∀{q:Hd}{b b':Bool}{k k':Int},HdR C m q b k->HdR C' m q b' k'->b'=b/\k'=k
 |.ans _,_,_,_,_,⟨a,b⟩,⟨c,d⟩=>by subst a;subst c;exact⟨rfl,by omega⟩|.all _,_,_,_,_,a,b=>tC.det (h false) a b|.pi _ _ _ _,_,_,_,_,⟨b1,k1,c,d⟩,⟨b1',k1',c',d'⟩=>by
  obtain⟨rfl,rfl⟩:=h _ _ _ _ _ _ _ c c';rcases d with⟨d1,d2,d3⟩|⟨d1,k2,d2,d3⟩
  ·rcases d' with⟨_,e2,e3⟩|⟨e1,_⟩;·subst d2;subst e2;exact⟨rfl,by omega⟩
   ·rw[d1]at e1;cases e1
  ·rcases d' with⟨e1,_⟩|⟨_,k2',e2,e3⟩;·rw[d1]at e1;cases e1
   ·obtain⟨rfl,rfl⟩:=h _ _ _ _ _ _ _ d2 e2;exact⟨rfl,by omega⟩
end
theorem CvN.mono{l:List yL}:∀{n:Nat}{m:Bool}{x y:Tm}{b:Bool}{k:Int},CvN l n m x y b k->CvN l (n+1) m x y b k|0,_,_,_,_,_,h=>h.elim|n+1,m,x,y,b,k,⟨r1,r2,x',k1,y',k2,k3,h1,h2,h3,h4⟩=>⟨r1,r2,x',k1,y',k2,k3,h1,h2,h3.mono (λ_ _ _ _ _ h=>CvN.mono h),h4⟩
theorem CvN.le{l:List yL}{n n':Nat}{m:Bool}{x y:Tm}{b:Bool}{k:Int}(h:CvN l n m x y b k)(hm:n<=n'):CvN l n' m x y b k:=by induction hm with|refl=>exact h|step _ ih=>exact ih.mono
theorem CvN.nn{l:List yL}:∀{n:Nat}{m:Bool}{x y:Tm}{b:Bool}{k:Int},CvN l n m x y b k->0<=k|0,_,_,_,_,_,h=>h.elim|n+1,m,x,y,b,k,⟨r1,r2,x',k1,y',k2,k3,h1,h2,h3,h4⟩=>by have:=h1.nn;have:=h2.nn;have:=h3.nn (λ_ _ _ _ _ h=>CvN.nn h);omega
theorem CvN.det{l:List yL}:∀{n n':Nat}{m:Bool}{x y:Tm}{b b':Bool}{k k':Int},CvN l n m x y b k->CvN l n' m x y b' k'->b'=b/\k'=k|0,_,_,_,_,_,_,_,_,h,_=>h.elim|_+1,0,_,_,_,_,_,_,_,_,h=>h.elim|n+1,n'+1,m,x,y,b,b',k,k',⟨_,_,x',k1,y',k2,k3,h1,h2,h3,h4⟩,⟨_,_,x1',j1,y1',j2,j3,g1,g2,g3,g4⟩=>by obtain⟨rfl,-,rfl⟩:=h1.det g1;obtain⟨rfl,-,rfl⟩:=h2.det g2;obtain⟨rfl,rfl⟩:=HdR.det (C:=CvN l n) (C':=CvN l n') (λ_ _ _ _ _ _ _ a b=>CvN.det a b) h3 g3;exact⟨rfl,by omega⟩
theorem Cv.det{l:List yL}{m:Bool}{x y:Tm}{b b':Bool}{k k':Int}:Cv l m x y b k->Cv l m x y b' k'->b'=b/\k'=k:=λ⟨_,a⟩⟨_,b⟩=>a.det b
theorem Cv.nn{l:List yL}{m:Bool}{x y:Tm}{b:Bool}{k:Int}:Cv l m x y b k->0<=k:=λ⟨_,a⟩=>a.nn
theorem tC.bound{l:List yL}:∀{ps:List PE}{b:Bool}{k:Int},tC (Cv l false) ps b k->∃n,tC (CvN l n false) ps b k
 |[],_,_,a=>⟨0,a⟩|_::_,_,_,⟨a,b,b1,k1,⟨n,c⟩,d⟩=>by
  rcases d with d|⟨e,k2,f,g⟩;·exact⟨n,a,b,b1,k1,c,.inl d⟩
  ·obtain⟨n',f⟩:=tC.bound f;exact⟨max n n',a,b,b1,k1,c.le (by omega),.inr ⟨e,k2,f.mono (λ_ _ _ _ h=>h.le (by omega)),g⟩⟩
theorem HdR.bound{l:List yL}{m:Bool}:∀{q:Hd}{b:Bool}{k:Int},HdR (Cv l) m q b k->∃n,HdR (CvN l n) m q b k
 |.ans _,_,_,a=>⟨0,a⟩|.all _,_,_,a=>tC.bound a|.pi _ _ _ _,_,_,⟨b1,k1,⟨n,c⟩,d⟩=>by
  rcases d with d|⟨e,k2,⟨n',f⟩,g⟩;·exact⟨n,b1,k1,c,.inl d⟩
  ·exact⟨max n n',b1,k1,c.le (by omega),.inr ⟨e,k2,f.le (by omega),g⟩⟩
theorem Cv.mk{l:List yL}{m:Bool}{x y x' y':Tm}{b:Bool}{k1 k2 k3:Int}(r1:uM l x)(r2:uM l y)(h1:Br l x x' 0 k1)(h2:Br l y y' 0 k2)(h3:HdR (Cv l) m (rT l m x' y') b k3):Cv l m x y b (k1+k2+k3):=by obtain⟨n,h3⟩:=h3.bound;exact⟨n+1,r1,r2,x',k1,y',k2,k3,h1,h2,h3,rfl⟩
theorem Cv.inv{l:List yL}{m:Bool}{x y:Tm}{b:Bool}{k:Int}(h:Cv l m x y b k):uM l x/\uM l y/\∃x' k1 y' k2 k3,Br l x x' 0 k1/\Br l y y' 0 k2/\HdR (Cv l) m (rT l m x' y') b k3/\k=k1+k2+k3:=by obtain⟨n,h⟩:=h;cases n with|zero=>exact h.elim|succ n=>obtain⟨r1,r2,x',k1,y',k2,k3,h1,h2,h3,h4⟩:=h;exact⟨r1,r2,x',k1,y',k2,k3,h1,h2,h3.mono (λ_ _ _ _ _ h=>⟨n,h⟩),h4⟩
def b7(l:List yL)(k n:Int):Nat:=if k=4 then 3 else if k=6/\(zU l n).kind=2 then 2 else 1
mutual def qE(l:List yL):Tm->Nat|.mk k n s=>b7 l k n+pW l s def pW(l:List yL):List Tm->Nat|[]=>0|t::s=>qE l t+pW l s end
theorem M6(l:List yL)(k n:Int):1<=b7 l k n/\b7 l k n<=3:=by unfold b7;split<;>(try split)<;>omega
theorem zDE(l:List yL):∀t:Tm,1<=qE l t|.mk k n s=>by rw[qE];have:=M6 l k n;omega
theorem zDF(l:List yL):∀{s:List Tm}{x:Tm},x∈s->qE l x<=pW l s
 |a::s,x,h=>by
  rw[pW];rcases List.mem_cons.1 h with rfl|h;·omega
  ·have:=zDF l h;omega
theorem zDG(l:List yL):∀a b:List Tm,pW l (a++b)=pW l a+pW l b|[],b=>by simp[pW]|t::a,b=>by simp only[List.cons_append,pW,zDG l a b];omega
mutual theorem zVu(l:List yL):∀(t:Tm)(b c k:Int),qE l (A1 t b c k)<=qE l t
 |.mk kd n s,b,c,k=>by
  rw[A1];split
  ·rename_i h;rw[qE,qE,pW];have e:∀m,b7 l 1 m=1:=λm=>by unfold b7;simp
   have:=(M6 l kd n).1;rw[e];omega
  ·rw[qE,qE];have:=zQE l s kd 0 b c k;omega theorem zQE(l:List yL):∀(s:List Tm)(kd:Int)(i:Nat)(b c k:Int),pW l (W7 s kd i b c k)<=pW l s|[],_,_,_,_,_=>by rw[W7];omega|t::s,kd,i,b,c,k=>by rw[W7,pW,pW];have:=zVu l t (wS kd i b) c k;have:=zQE l s kd (i+1) b c k;omega end
theorem zVt(l:List yL):∀(s:List Tm)(f:Tm),qE l (nP f s)=qE l f+pW l s+s.length
 |[],f=>by rw[nP,pW];simp|a::s,f=>by
  have e:b7 l 5 0=1:=by unfold b7;simp
  rw[nP,zVt l s,qE,pW,pW,pW,pW,e,List.length_cons];omega
theorem b8(l:List yL):∀t:Tm,xZ t=true->qE l t=qE l (yN t)+pW l (xD t)+(xD t).length:=by
 refine dZ ?_ ?_;·intro t hg hk;rw[dY hk,iO hk,pW];simp
 ·intro n a b hg ha hb ih;have e:b7 l 5 n=1:=by unfold b7;simp
  rw[F3,dX,qE,pW,pW,pW,e,zDG,pW,pW,List.length_append,ih];simp;omega
theorem M7(l:List yL)(t:Tm):qE l t=b7 l t.k t.n+pW l t.sub:=by cases t;rw[qE,Tm.k,Tm.n,Tm.sub]
abbrev uT(t:Tm):List Int:=rY t 8 8
theorem pU{t:Tm}{Q:Int->Prop}:(∀x∈uT t,Q x)↔xS (λk n=>k=8->Q n) t:=by rw[eE (by decide) (by decide)];exact⟨sA λk n h e=>h (.inl e),sA λk n h e=>h (by omega)⟩
theorem zGs{a t:Tm}{n:Int}{x:Int}(h:x∈uT (kV a n t 0)):x∈uT a\/(x∈uT t/\x≠n):=by
 have:=(pU (Q:=λx=>x∈uT a\/(x∈uT t/\x≠n)) (t:=kV a n t 0)).2;refine this (zDB ?_ t 0 ?_) x h;·exact sA (λk n h e=>.inl (h e)) (pU.1 λx h=>h)
 ·refine sA (λk m h=>?_) (pU.1 λx(h:x∈uT t)=>h);by_cases e:k=8/\m=n;·exact .inr e
  ·exact .inl λe8=>.inr ⟨h e8,λe2=>e ⟨e8,e2⟩⟩
structure bR(c:List zJ):Prop where
 len:c.length<=256
 each:∀v∈c,0<=v.n_/\v.n_<=1048576/\zF v.type_=true/\∀j,¬j∈tV v.type_ 0
 nd:(c.map (·.n_)).Nodup
 self:∀v∈c,¬v.n_∈uT v.type_
 ord:c.Pairwise λv w=>¬w.n_∈uT v.type_
structure zGr(c:List zJ)(n:Int)(t:Tm)(d:List zJ):Prop where
 right:bR d
 has:n∈c.map (·.n_)perm:(d.map (·.n_)).Perm ((c.map (·.n_)).erase n)typ:∀v∈d,∃w∈c,w.n_=v.n_/\w.n_≠n/\v.type_=kV t n w.type_ 0
theorem zGr.length{c d:List zJ}{n:Int}{t:Tm}(h:zGr c n t d):d.length+1=c.length:=by have h1:=h.perm.length_eq;rw[List.length_map,List.length_erase_of_mem h.has,List.length_map]at h1;have h2:0<(c.map (·.n_)).length:=List.length_pos_of_mem h.has;rw[List.length_map]at h2;omega
structure eN(l:List yL)(c:List zJ)(td:List zI)(so:List zN)(N:Nat):Prop where
 ctx:bR c
 typ:∀v∈c,uH l v.type_
 may:∀e∈td,uH l e.a_/\uH l e.b_
 sol:∀s∈so,uH l s.t_
 oc:∀s∈so,∀v∈c,v.n_≠s.n_/\¬s.n_∈uT v.type_
 ot:∀s∈so,∀e∈td,¬s.n_∈uT e.a_/\¬s.n_∈uT e.b_
 os:∀s∈so,∀r∈so,¬s.n_∈uT r.t_
 nd:(so.map (·.n_)).Nodup
 len:c.length+so.length=N
def naE(t:Tm)(n:Int)(e:zI):zI:=⟨kV t n e.a_ 0,kV t n e.b_ 0⟩
def naS(t:Tm)(n:Int)(s:zN):zN:=⟨s.n_,kV t n s.t_ 0⟩
theorem eN.solve{l:List yL}{c d:List zJ}{td:List zI}{so:List zN}{N:Nat}{e0:zI}{n:Int}{t:Tm}(h:eN l c (e0::td) so N)(ht:uH l t)(hf:∀x∈uT t,x∈uT e0.a_\/x∈uT e0.b_)(hn:¬n∈uT t)(hp:zGr c n t d)(ha:∀e∈td,zF (kV t n e.a_ 0)=true/\zF (kV t n e.b_ 0)=true)(hs:∀s∈so,zF (kV t n s.t_ 0)=true):eN l d (td.map (naE t n)) (so.map (naS t n)++[⟨n,t⟩]) N:=by
 have hto:∀s∈so,¬s.n_∈uT t:=λs hs' hx=>by
  rcases hf _ hx with h1|h1;·exact(h.ot s hs' e0 (by simp)).1 h1
  ·exact(h.ot s hs' e0 (by simp)).2 h1
 have na:∀x u,¬x∈uT t->¬x∈uT u->¬x∈uT (kV t n u 0):=λx u h1 h2 h3=>by
  rcases zGs h3 with h4|h4;·exact h1 h4
  ·exact h2 h4.1
 have nn:∀u,¬n∈uT (kV t n u 0):=λu h3=>by
  rcases zGs h3 with h4|h4;·exact hn h4
  ·exact h4.2 rfl
 have hnc:∀s∈so,s.n_≠n:=λs hs' e=>by obtain⟨v,hv,hvn⟩:=List.mem_map.1 hp.has;exact(h.oc s hs' v hv).1 (by rw[e];exact hvn)
 refine⟨hp.right,λv hv=>?_,λe he=>?_,λs hs'=>?_,λs hs' v hv=>?_,λs hs' e he=>?_,λs hs' r hr=>?_,?_,?_⟩
 ·obtain⟨w,hw,-,-,e⟩:=hp.typ v hv;rw[e];exact(h.typ w hw).na ht (by rw[<-e];exact(hp.right.each v hv).2.2.1)
 ·obtain⟨e',he',rfl⟩:=List.mem_map.1 he;exact⟨(h.may e' (by simp[he'])).1.na ht (ha e' he').1,(h.may e' (by simp[he'])).2.na ht (ha e' he').2⟩
 ·rcases List.mem_append.1 hs' with h1|h1
  ·obtain⟨s',h2,rfl⟩:=List.mem_map.1 h1;exact(h.sol s' h2).na ht (hs s' h2)
  ·rw[List.mem_singleton.1 h1];exact ht
 ·obtain⟨w,hw,e1,e2,e⟩:=hp.typ v hv;rw[e];rcases List.mem_append.1 hs' with h1|h1
  ·obtain⟨s',h2,rfl⟩:=List.mem_map.1 h1;exact⟨by rw[<-e1];exact(h.oc s' h2 w hw).1,na _ _ (hto s' h2) (h.oc s' h2 w hw).2⟩
  ·rw[List.mem_singleton.1 h1];exact⟨by rw[<-e1];exact e2,nn _⟩
 ·obtain⟨e',he',rfl⟩:=List.mem_map.1 he;rcases List.mem_append.1 hs' with h1|h1
  ·obtain⟨s',h2,rfl⟩:=List.mem_map.1 h1;have h3:=h.ot s' h2 e' (by simp[he']);exact⟨na _ _ (hto s' h2) h3.1,na _ _ (hto s' h2) h3.2⟩
  ·rw[List.mem_singleton.1 h1];exact⟨nn _,nn _⟩
 ·have key:∀u:zN,u∈so.map (naS t n)++[⟨n,t⟩]->(∃u'∈so,u=naS t n u')\/u=⟨n,t⟩:=λu hu=>by
   rcases List.mem_append.1 hu with h1|h1;·obtain⟨u',h2,rfl⟩:=List.mem_map.1 h1;exact .inl ⟨u',h2,rfl⟩
   ·exact .inr (List.mem_singleton.1 h1)
  rcases key s hs' with⟨s',h2,rfl⟩|rfl
  ·rcases key r hr with⟨r',h3,rfl⟩|rfl;·exact na _ _ (hto s' h2) (h.os s' h2 r' h3)
   ·exact hto s' h2
  ·rcases key r hr with⟨r',h3,rfl⟩|rfl;·exact nn _
   ·exact hn
 ·rw[List.map_append,List.map_map];have e:(λs:zN=>s.n_)∘naS t n=λs=>s.n_:=rfl;rw[e,List.nodup_append];refine⟨h.nd,by simp,λx hx y hy=>?_⟩;obtain⟨s,hs',rfl⟩:=List.mem_map.1 hx;simp at hy;rw[hy];exact hnc s hs'
 ·have:=hp.length;have:=h.len;simp only[List.length_append,List.length_map,List.length_cons,List.length_nil];omega
theorem eN.more{l:List yL}{c:List zJ}{td more:List zI}{so:List zN}{N:Nat}{e0:zI}(h:eN l c (e0::td) so N)(hm:∀e∈more,uH l e.a_/\uH l e.b_/\(∀x∈uT e.a_,x∈uT e0.a_\/x∈uT e0.b_)/\∀x∈uT e.b_,x∈uT e0.a_\/x∈uT e0.b_):eN l c (more++td) so N:=by
 refine⟨h.ctx,h.typ,λe he=>?_,h.sol,h.oc,λs hs e he=>?_,h.os,h.nd,h.len⟩
 ·rcases List.mem_append.1 he with h1|h1;·exact⟨(hm e h1).1,(hm e h1).2.1⟩
  ·exact h.may e (by simp[h1])
 ·rcases List.mem_append.1 he with h1|h1
  ·have h0:=h.ot s hs e0 (by simp);exact⟨λhx=>((hm e h1).2.2.1 _ hx).elim h0.1 h0.2,λhx=>((hm e h1).2.2.2 _ hx).elim h0.1 h0.2⟩
  ·exact h.ot s hs e (by simp[h1])
theorem uH.br{N:ByteArray->Bool}{l:List yL}(hE:wZ N l){x y:Tm}{k:Int}(hx:uH l x)(h:Br l x y 0 k):uH l y/\∀z∈uT y,z∈uT x:=by
 have h1:=eI.1 hx;refine⟨eI.2 ⟨h.shaped h1.1 rfl,λj hj=>?_,?_⟩,?_⟩;·exact h.inv hE (zWV hE (λ_=>False)) h1.1 rfl (λj hj=>h1.2.1 j hj) j hj
 ·exact h.inv hE (zCw hE λk n _ h=>h) h1.1 rfl h1.2.2
 ·exact pU.2 (h.inv hE (zCw hE λk n h8 _ h=>absurd h h8) h1.1 rfl (pU.1 λz hz=>hz))
def zGq(l:List yL)(c:List zJ)(e:zI)(n:Int)(t:Tm):Prop:=∃x y k j,Br l e.a_ x 0 k/\Br l e.b_ y 0 j/\n∈c.map (·.n_)/\((x.k=8/\x.n=n/\t=y)\/(y.k=8/\y.n=n/\t=x))
def qH(l:List yL)(t:Tm):List Tm:=(xD t).drop (zU l (yN t).n).pars.toNat
inductive Bnt(l:List yL)(n:Int):Tm->Prop|here{t a:Tm}:uA l t->a∈qH l t->a.k=8->a.n=n->Bnt l n t|deep{t a:Tm}:uA l t->a∈qH l t->Bnt l n a->Bnt l n t
def sO(a b:List Tm):List zI:=List.zipWith zI.mk a b
theorem eO:∀{a b:List Tm}{e:zI},e∈sO a b->e.a_∈a/\e.b_∈b
 |[],_,e,h=>by simp[sO]at h|_::_,[],e,h=>by simp[sO]at h|x::a,y::b,e,h=>by
  rw[sO,List.zipWith_cons_cons,List.mem_cons]at h;rcases h with rfl|h;·exact⟨by simp,by simp⟩
  ·have:=eO (a:=a) (b:=b) h;exact⟨by simp[this.1],by simp[this.2]⟩
inductive Un(l:List yL):List zJ->List zI->List zN->Option (List zJ×List zN)->Prop|done{c:List zJ}{so:List zN}:Un l c [] so (some (c,so))|sol{c d:List zJ}{e:zI}{td:List zI}{so:List zN}{n:Int}{t:Tm}{r:Option (List zJ×List zN)}:zGq l c e n t->¬n∈uT t->zGr c n t d->(∀e∈td,zF (kV t n e.a_ 0)=true/\zF (kV t n e.b_ 0)=true)->(∀s∈so,zF (kV t n s.t_ 0)=true)->Un l d (td.map (naE t n)) (so.map (naS t n)++[⟨n,t⟩]) r->Un l c (e::td) so r|cyc{c:List zJ}{e:zI}{td:List zI}{so:List zN}{n:Int}{t:Tm}:zGq l c e n t->Bnt l n t->Un l c (e::td) so none|conf{c:List zJ}{e:zI}{td:List zI}{so:List zN}{x y:Tm}{k j:Int}:Br l e.a_ x 0 k->Br l e.b_ y 0 j->uA l x->uA l y->(yN x).n≠(yN y).n->Un l c (e::td) so none|inj{c:List zJ}{e:zI}{td:List zI}{so:List zN}{x y:Tm}{k j:Int}{r:Option (List zJ×List zN)}:Br l e.a_ x 0 k->Br l e.b_ y 0 j->uA l x->uA l y->(yN x).n=(yN y).n->(∀i:Nat,(i:Int)<(zU l (yN x).n).pars->∃k,Cv l false (sG (xD x) i) (sG (xD y) i) true k)->Un l c (sO (qH l x) (qH l y)++td) so r->Un l c (e::td) so r
theorem uH.ar{l:List yL}{t a:Tm}(h:uH l t)(ha:a∈xD t):uH l a/\∀z∈uT a,z∈uT t:=by have h1:=eI.1 h;have hg:=(zM h1.1).2.2;refine⟨eI.2 ⟨xL h1.1 ha,λj hj=>h1.2.1 j ((G9 t hg 0 j).2 a ha hj),(oY t hg h1.2.2).2 a ha⟩,?_⟩;exact pU.2 ((oY t hg (pU.1 λz hz=>hz)).2 a ha)
theorem zGq.may{N:ByteArray->Bool}{l:List yL}(hE:wZ N l){c:List zJ}{e:zI}{n:Int}{t:Tm}(h:zGq l c e n t)(ha:uH l e.a_)(hb:uH l e.b_):uH l t/\∀x∈uT t,x∈uT e.a_\/x∈uT e.b_:=by
 obtain⟨x,y,k,j,hx,hy,-,⟨-,-,rfl⟩|⟨-,-,rfl⟩⟩:=h;·exact⟨(hb.br hE hy).1,λz hz=>.inr ((hb.br hE hy).2 z hz)⟩
 ·exact⟨(ha.br hE hx).1,λz hz=>.inl ((ha.br hE hx).2 z hz)⟩
theorem eN.inj{N:ByteArray->Bool}{l:List yL}(hE:wZ N l){c:List zJ}{e:zI}{td:List zI}{so:List zN}{x y:Tm}{k j:Int}{M:Nat}(h:eN l c (e::td) so M)(hx:Br l e.a_ x 0 k)(hy:Br l e.b_ y 0 j):eN l c (sO (qH l x) (qH l y)++td) so M:=by have h0:=h.may e (by simp);have h1:=h0.1.br hE hx;have h2:=h0.2.br hE hy;refine h.more λe' he'=>?_;have hm:=eO he';have g1:=h1.1.ar (List.mem_of_mem_drop hm.1);have g2:=h2.1.ar (List.mem_of_mem_drop hm.2);exact⟨g1.1,g2.1,λz hz=>.inl (h1.2 z (g1.2 z hz)),λz hz=>.inr (h2.2 z (g2.2 z hz))⟩
theorem Un.inv{N:ByteArray->Bool}{l:List yL}(hE:wZ N l){c:List zJ}{td:List zI}{so:List zN}{r:Option (List zJ×List zN)}{M:Nat}(h:Un l c td so r):eN l c td so M->∀c' so',r=some (c',so')->eN l c' [] so' M:=by induction h with|done=>intro hI c' so' e;cases e;exact hI|sol a b d e f _ ih=>intro hI;have h0:=hI.may _ (List.mem_cons_self ..);have hm:=a.may hE h0.1 h0.2;exact ih (hI.solve hm.1 hm.2 b d e f)|cyc _ _=>intro _ c' so' e;cases e|conf _ _ _ _ _=>intro _ c' so' e;cases e|inj a b _ _ _ _ _ ih=>intro hI;exact ih (hI.inj hE a b)
def M8(a:Nat)(M:xG)(b:Tm):Option (Int×yV×Bool):=dV a b>>=λr1=>if r1 then e64 a b>>=λr4=>zMI a M r4>>=λr6=>some (r6.1,r6.2.1,r6.2.2)else some (0,[],false)
theorem zIC{a M b}:Cz (M8 a M b) 147 [mB M 1,mR M] [.mp 0 0,yY b] (λr=>.tup [ai r.1,.sl (zC zA r.2.1) r.2.1.length .no,ab r.2.2]) (λ_=>[mB M 1,mR M]) 0:=fw func147<|rK 2 [] aA (λ_=>rC 2 [] c64 λ_=>rC 0 [0,1] zWQ λ_=>fE 3) λ_=>fE 1
def zMP(b:Nat)(M:xG)(a:Int):Option (Int):=if decide (a<0)then some 0 else if decide (a>=(M.l.length:Int))then some 0 else zV M.l a>>=λx3=>some x3.pars
theorem zWX{b M a}:Cz (zMP b M a) 148 [mB M 1,mR M] [.mp 0 0,ai a] (λr=>ai r) (λ_=>[mB M 1,mR M]) 0:=fw func148<|rB 1 (fE 0)<|rB 2 (fE 0)<|rA 1 (wO (o:=.no)) λ_=>fE 1
def cV:Nat->Int->yE->Int->Option (Bool)|0,_,_,_=>none|c+1,b,r1,a=>if decide (a<(r1.length:Int))then zV r1 a>>=λx4=>if x4==b then some true else cV c b r1 (xF (a+1))else some false
def zTK(c:Nat)(d:Tm)(b:Int):Option (Bool):=e69 c d>>=λr1=>cV c b r1 0
theorem zTL:∀c:Nat,∀b r1 a,Lz (cV c b r1 a) 0 f252 (pt 949 f252) (λj=>sp j 18 0 [(1,ai b),(8,zP zY r1 .no),(9,ai (r1.length:Int)),(10,ai a)]) ⟨[],0,[],0,[]⟩ (λr=>ab r) (λ_=>[]) 0 [.blk 0,.seq (pt 15 f252)]:=wF (λ_ _ _=>lN) λc ih=>λb r1 a=>lw λ_=>rB 0 (rA 0 (gQ (o:=.no)) λ_=>rB 1 (lE 0)<|lH 1 [] [] [] [1,8,9,10] (ih _ _ _))<|lE 0
theorem yBW{c d b}:Cz (zTK c d b) 252 [] [yY d,ai b] (λr=>ab r) (λ_=>[]) 0:=fw func252<|rC 1 [] c69 λ_=>fH 1 [] [] [] [1,8,9,10] (zTL _ _ _ _)
mutual def zGp:Nat->xG->Tm->Int->Option (Bool)
 |0,_,_,_=>none|c+1,M,d,a=>M8 c M d>>=λr1=>if r1.2.2 then zMP c M r1.1>>=λr4=>kE r1.2.1 r4 (r1.2.1.length:Int)>>=λx6=>kK c M a x6 0 else some false def kK:Nat->xG->Int->yV->Int->Option (Bool)
 |0,_,_,_,_=>none|c+1,M,a,x6,b=>if decide (b<(x6.length:Int))then zV x6 b>>=λx9=>if x9.k==8 then if x9.n==a then some true else zGp c M x9 a>>=λr13=>if r13 then some true else kK c M a x6 (xF (b+1))else zGp c M x9 a>>=λr16=>if r16 then some true else kK c M a x6 (xF (b+1))else some false end
theorem zGo:∀c:Nat,(∀M d a,Cz (zGp c M d a) 253 [mB M 1,mR M] [.mp 0 0,yY d,ai a] (λr=>ab r) (λ_=>[mB M 1,mR M]) 0)/\(∀M a x6 b,Lz (kK c M a x6 b) 2 f253 (pt 16309 f253) (λj=>sp j 47 0 [(0,.mp 0 0),(2,ai a),(25,zP zA x6 .no),(26,ai (x6.length:Int)),(27,ai b)]) ⟨[(0,mB M 1),(1,mR M)],2,[],0,[]⟩ (λr=>ab r) (λ_=>[mB M 1,mR M]) 0 [.blk 0,.seq (pt 255 f253)]):=wF ⟨λ_ _ _=>cN,λ_ _ _ _=>lN⟩ λc ih=>⟨λM d a=>fw func253<|rC 1 [0,1] zIC λ_=>rB 2 (rC 1 [0,1] zWX λ_=>rA 0 qK λ_=>fH 1 [] [0,1] [] [0,2,25,26,27] (ih.2 _ _ _ _))<|fE 1,λM a x6 b=>lw λ_=>rB 0 (rA 0 (wE (o:=.no)) λ_=>rB 3 (rB 1 (lE 0)<|rK 1 [0,1] (ih.1 _ _ _) (λ_=>lE 0) λ_=>lH 1 [] [0,1] [] [0,2,25,26,27] (ih.2 _ _ _ _))<|rK 1 [0,1] (ih.1 _ _ _) (λ_=>lE 0) λ_=>lH 1 [] [0,1] [] [0,2,25,26,27] (ih.2 _ _ _ _))<|lE 0⟩
theorem yBX{c M d a}:Cz (zGp c M d a) 253 [mB M 1,mR M] [.mp 0 0,yY d,ai a] (λr=>ab r) (λ_=>[mB M 1,mR M]) 0:=(zGo _).1 _ _ _
theorem zAz(L:List Int)(n:Int):∀(r:List Int)(v:Nat),L.drop v=r->L.length<=17592186044416->zH (λq=>cV q n L (v:Int)) (decide (n∈r))
 |[],v,hd,hl=>by refine zH.succ ?_;simp only[cV];exact zH.ifF (yB hd) (zH.ret.eq (by simp))|x::r,v,hd,hl=>by
  have hlt:=yF hd;refine zH.succ ?_;simp only[cV];refine zH.ifT (yA hd) (zH.pure (zZ hd) ?_);by_cases e:x=n;·exact zH.ifT (by simp[e]) (zH.ret.eq (by simp[e]))
  ·refine zH.ifF (by simp[e]) ?_;rw[zW v (by omega)];exact(zAz L n r (v+1) (zS hd) hl).eq (by simp[show¬n=x fromλh=>e h.symm])
theorem jT{N:ByteArray->Bool}{l:List yL}(hE:wZ N l){t:Tm}(hs:zF t=true)(hc:uA l t):∃p:Nat,(zU l (yN t).n).pars=(p:Int)/\p<=(xD t).length/\0<=(yN t).n/\(yN t).n<l.length:=by have h:=vY hs hc;obtain⟨A,y,hw,-,-,hp,-,q0,q1,-⟩:=vX hE h.1 h.2.1 h.2.2.1;exact⟨(zU l (yN t).n).pars.toNat,by omega,by rw[h.2.2.2];omega,h.1,h.2.1⟩
theorem H6(l:List yL)(t:Tm)(hs:zF t=true):zH (λq=>M8 q (xB l) t) (kA l t):=by simp only[M8];refine(xI t (zX hs)).bind (zH.ifT hs (((tU t (zX hs)).eq (by unfold nO;rw[if_pos hs])).bind ((X6 l t hs).bind zH.ret)))
theorem zAy(l:List yL){c:Int}(h0:0<=c)(h1:c<l.length):zH (λq=>zMP q (xB l) c) (zU l c).pars:=by simp only[zMP,cU];exact zH.ifF (decide_eq_false (by omega)) (zH.ifF (decide_eq_false (by omega)) (zH.pure (yU h0 h1) zH.ret))
theorem zMQ(t:Tm)(n:Int)(hs:zF t=true):zH (λq=>zTK q t n) (decide (n∈uT t)):=by
 simp only[zTK];refine(lJ t (zX hs)).bind ?_;have e:jH t 8 8=vG (rY t 8 8):=by unfold jH;rw[if_pos hs]
 rw[e];have hl:=nG t 8 8;have hn:=(zM hs).1;refine(zAz (vG (rY t 8 8)) n _ 0 rfl (by have:=nN (rY t 8 8);omega)).eq ?_;simp[pQ]
theorem zCu{l:List yL}(n:Int)(t:Tm)(hs:zF t=true)(hc:uA l t)(H:∀a∈qH l t,zF a=true->zG (λq=>zGp q (xB l) a n) λb=>b=true->Bnt l n a)(hl:(qH l t).length<=17592186044416):∀(r:List Tm)(v:Nat),(qH l t).drop v=r->zG (λq=>kK q (xB l) n (qH l t) (v:Int)) λb=>b=true->Bnt l n t
 |[],v,hd=>by refine zG.succ ?_;simp only[kK];refine zG.ite (λh=>?_) λ_=>zG.ret λh=>(by cases h);rw[yB hd]at h;cases h|x::r,v,hd=>by
  have hlt:=yF hd;have hx:x∈qH l t:=List.mem_of_mem_drop (by rw[hd];simp);have hsx:zF x=true:=xL hs (List.mem_of_mem_drop hx);have rest:∀b,(b=true->Bnt l n x)->zG (λq=>if b=true then some true else kK q (xB l) n (qH l t) (xF ((v:Int)+1))) λb=>b=true->Bnt l n t:=λb hb=>by refine zG.ite (λh=>zG.ret λ_=>.deep hc hx (hb h)) λ_=>?_;rw[zW v (by omega)];exact zCu n t hs hc H hl r (v+1) (zS hd)
  refine zG.succ ?_;simp only[kK];refine zG.ite (λ_=>zG.pure (zZ hd) (zG.ite (λh8=>zG.ite (λhn=>zG.ret λ_=>.here hc hx (by simpa using h8) (by simpa using hn)) λ_=>?_) λ_=>?_)) λh=>?_;·exact(H x hx hsx).bind rest
  ·exact(H x hx hsx).bind rest
  ·rw[yA hd]at h;cases h
theorem zGn{N:ByteArray->Bool}{l:List yL}(hE:wZ N l)(n:Int):∀(m:Nat)(t:Tm),t.nodes<=m->zF t=true->zG (λq=>zGp q (xB l) t n) λb=>b=true->Bnt l n t
 |0,.mk k i ls,hm,_=>by rw[Tm.nodes]at hm;omega|m+1,t,hm,hs=>by
  refine zG.succ ?_;simp only[zGp];refine zG.bind (P:=λr=>r=kA l t) ((H6 l t hs).tot rfl) λr1 h1=>zG.ite (λh=>?_) λ_=>zG.ret λh=>(by cases h);subst h1;by_cases hc:uA l t
  ·have hx:kA l t=((yN t).n,xD t,true):=if_pos hc;obtain⟨p,hp,h3,h4,h5⟩:=jT hE hs hc;rw[hx];refine zG.bind (P:=λr=>r=(p:Int)) ((zAy l h4 h5).tot hp) λr4 h6=>?_;subst h6;have e:qH l t=(xD t).drop p:=by unfold qH;rw[hp];rfl
   refine zG.pure (a:=qH l t) ((qN (by omega) (show(p:Int)<=(xD t).length by omega)).trans (by rw[e];rfl)) ?_;have hlen:(qH l t).length<=17592186044416:=by have h:=zM hs;have:=tS t h.2.2;rw[e,List.length_drop];omega
   exact zCu n t hs hc (by intro a ha hsa;refine zGn hE n m a ?_ hsa;have h:=zM hs;have:=((W6 t h.2.2).2.2.2.2 a (List.mem_of_mem_drop ha)).2.1;omega) hlen _ 0 rfl
  ·have hx:kA l t=(0,[],false):=if_neg hc;rw[hx]at h;cases h
def zTM(b:Nat)(a:Int):Option (Bool):=if decide (a>=0)then some (decide (a<=1048576))else some false
theorem yBY{b a}:Cz (zTM b a) 106 [] [ai a] (λr=>ab r) (λ_=>[]) 0:=fw func106<|rB 0 (fE 1)<|fE 0
def B0:Nat->xQ->Int->(List (Int×Int))->Option ((Unit)⊕((List (Int×Int))))
 |0,_,_,_=>none|d+1,c,b,a=>if decide (b<(c.length:Int))then zV c b>>=λx2=>zTM d x2.n_>>=λr4=>if r4 then dV d x2.type_>>=λr7=>if r7 then if decide ((c.length:Int)>256)then some (Sum.inl ())else if K9 a x2.n_ then B0 d c (xF (b+1)) a else B0 d c (xF (b+1)) (bK a x2.n_ b)else some (Sum.inl ())else some (Sum.inl ())else some (Sum.inr a)
def e74(d:Nat)(c:xQ):Option ((Unit)⊕((List (Int×Int)))):=B0 d c 0 ([]:List (Int×Int))
theorem zWY:∀d:Nat,∀c b a,Lz (B0 d c b a) 0 f74 (pt 4021 f74) (λj=>sp j 47 0 [(0,zP zD c .no),(4,.obj 0),(10,zP zD c .no),(11,ai (c.length:Int)),(12,ai b)]) ⟨[(0,aV a)],1,[],0,[]⟩ (Sum.elim (λ_=>.tup [.val (.map none),ab false]) (λ_=>.tup [.obj 0,ab true])) (Sum.elim (λ_=>[]) (λx=>[aV x])) 0 [.blk 0,.seq (pt 63 f74)]:=wF (λ_ _ _=>lN) λd ih=>λc b a=>lw λ_=>rB 0 (rA 0 (s8 (o:=.no)) λx2=>rK 3 [] yBY (λ_=>rK 2 [] aA (λ_=>rB 2 (lE 0)<|rS (oL 1 (zOK a x2.n_))<|rB 1 (lH 2 [] [0] [] [0,4,10,11,12] (ih _ _ _))<|rS (oU 2 (zVZ a x2.n_ b))<|lH 1 [] [0] [] [0,4,10,11,12] (ih _ _ _)) λ_=>lE 1) λ_=>lE 1)<|lF 0 [0]
theorem c74{d c}:Cz (e74 d c) 74 [] [zP zD c .no] (Sum.elim (λ_=>.tup [.val (.map none),ab false]) (λ_=>.tup [.obj 0,ab true])) (Sum.elim (λ_=>[]) (λx=>[aV x])) 0:=fw func74<|fH 1 [] [0] [] [0,4,10,11,12] (zWY _ _ _ _)
def e75(b:Nat)(a:Tm):Option (Int):=dV b a>>=λr1=>if r1 then e95 b a 0>>=λr4=>some r4 else some 0
theorem c75{b a}:Cz (e75 b a) 75 [] [yY a] (λr=>ai r) (λ_=>[]) 0:=fw func75<|rK 1 [] aA (λ_=>rC 2 [] c95 λ_=>fE 0) λ_=>fE 1
end Go.Proofs.YtohkcbcddindpaaGreat
