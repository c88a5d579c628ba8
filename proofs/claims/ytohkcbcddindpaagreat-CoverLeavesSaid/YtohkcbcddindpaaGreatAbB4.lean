/- Parts of the proof that the law returns true: walks of the functions, plain laws. -/
import Derived.Test.YtohkcbcddindpaaGreatAbB3
set_option linter.unusedVariables false
set_option linter.unusedSimpArgs false
set_option linter.unusedSectionVars false
namespace Go.Proofs.YtohkcbcddindpaaGreat
open Go Go.Ab Go.Proofs.Tryz
def zAA(l:List yI)(x:yI):List Int:=if x.kind=4 then(yA l x.fam).fields else(yA l x.fam).cons
def zUY(l:List yI)(i:Int)(x:yI):Bool:=G5 l x.fam 1&&decide (x.fam<i)&&x.pars==(yA l x.fam).pars&&aV x.body&&x.inds==0&&x.level==0&&decide (x.cons.length=0)&&decide (x.fields.length=0)
def zRe(l:List yI)(i:Int)(x:yI):Bool:=decide (0<=x.place)&&decide (x.place<(zAA l x).length)&&((zAA l x)[x.place.toNat]?).getD (-1)==i
def kG(l:List yI)(i:Int):Bool:=zUY l i (yA l i)&&zRe l i (yA l i)
theorem zOu{L:List Int}{n:Int}(h0:0<=n)(h1:n<L.length):zS L n=some ((L[n.toNat]?).getD (-1)):=by
 unfold zS;rw[if_pos h0];have:n.toNat<L.length:=by omega
 rw[List.getElem?_eq_getElem this];rfl
theorem zGW(l:List yI)(i:Int)(h0:0<=i)(h1:i<l.length)(he:∀e∈l,jM e):zF (λq=>zRf q l i) (kG l i):=by
 simp only[zRf];refine zF.pure (yT h0 h1) ((zRg l _ 1).bind ?_);have hx:=he _ (nS h0 h1);have hc:(yA l i).cons.length<=1152921504606846976:=hx.2.2.1;have hf:(yA l i).fields.length<=1152921504606846976:=hx.2.2.2;unfold kG zUY;by_cases a1:G5 l (yA l i).fam 1=true
 ·have hs:=tL a1;refine zF.ifT a1 ?_;by_cases a2:(yA l i).fam>=i;·exact zF.ifT (decide_eq_true a2) (zF.ret.eq (by simp[show¬(yA l i).fam<i by omega]))
  refine zF.ifF (decide_eq_false a2) (zF.pure (yT hs.1 hs.2.1) ?_);by_cases a3:(yA l i).pars=(yA l (yA l i).fam).pars
  ·refine zF.ifF (by simp[a3]) ((zEK _).bind ?_);by_cases a4:aV (yA l i).body=true
   ·refine zF.ifT a4 ?_;by_cases a5:(yA l i).inds=0
    ·refine zF.ifF (by simp[a5]) ?_;by_cases a6:(yA l i).level=0
     ·refine zF.ifF (by simp[a6]) ?_;rw[yS (x:=((yA l i).cons.length:Int)+((yA l i).fields.length:Int)) (by omega) (by omega)];by_cases a7:(yA l i).cons.length=0/\(yA l i).fields.length=0
      ·refine zF.ifF (decide_eq_false (by omega)) ?_;have last:∀L:List Int,zAA l (yA l i)=L->zF (λ_=>if decide ((yA l i).place>=0)=true then if decide ((yA l i).place<(List.length L:Int))=true then(zS L (yA l i).place)>>=λx19=>some (x19==i)else some false else some false) (zRe l i (yA l i)):=λL hL=>by
        unfold zRe;rw[hL];by_cases b1:(yA l i).place>=0
        ·refine zF.ifT (decide_eq_true b1) ?_;by_cases b2:(yA l i).place<(L.length:Int);·exact zF.ifT (decide_eq_true b2) (zF.pure (zOu b1 b2) (zF.ret.eq (by simp[show 0<=(yA l i).place from b1,b2])))
         ·exact zF.ifF (decide_eq_false b2) (zF.ret.eq (by simp[b2]))
        ·exact zF.ifF (decide_eq_false b1) (zF.ret.eq (by simp[show¬0<=(yA l i).place from b1]))
       have e:(G5 l (yA l i).fam 1&&decide ((yA l i).fam<i)&&(yA l i).pars==(yA l (yA l i).fam).pars&&aV (yA l i).body&&(yA l i).inds==0&&(yA l i).level==0&&decide ((yA l i).cons.length=0)&&decide ((yA l i).fields.length=0))=true:=by simp[a1,show(yA l i).fam<i by omega,a3,a4,a5,a6,a7.1,a7.2]
       rw[e,Bool.true_and];by_cases a8:(yA l i).kind=4;·exact zF.ifT (by simp[a8]) (last _ (by unfold zAA;rw[if_pos a8]))
       ·exact zF.ifF (by simp[a8]) (last _ (by unfold zAA;rw[if_neg a8]))
      ·refine zF.ifT (decide_eq_true (by omega)) (zF.ret.eq ?_);have:decide ((yA l i).cons.length=0)=false\/decide ((yA l i).fields.length=0)=false:=by
        by_cases h:(yA l i).cons.length=0;·exact .inr (decide_eq_false λh'=>a7 ⟨h,h'⟩)
        ·exact .inl (decide_eq_false h)
       rcases this with h|h<;>rw[h]<;>simp
     ·exact zF.ifT (by simp[a6]) (zF.ret.eq (by simp[a6]))
    ·exact zF.ifT (by simp[a5]) (zF.ret.eq (by simp[a5]))
   ·exact zF.ifF (by simpa using a4) (zF.ret.eq (by simp[a4]))
  ·exact zF.ifT (by simp[a3]) (zF.ret.eq (by simp[a3]))
 ·exact zF.ifF (by simpa using a1) (zF.ret.eq (by simp[a1]))
theorem uC{l:List yI}{i:Int}(h:mY l i=true):0<=(yA l i).pars/\0<=(yA l i).inds/\(yA l i).pars+(yA l i).inds<=24/\(yA l i).cons.length<=16:=by unfold mY zJL zGV at h;simp only[Bool.and_eq_true,decide_eq_true_eq]at h;exact⟨by omega,by omega,by omega,by omega⟩
theorem pL{l:List yI}{i:Int}(h:kG l i=true):0<=(yA l i).fam/\(yA l i).fam<i/\(yA l (yA l i).fam).kind=1/\(yA l i).pars=(yA l (yA l i).fam).pars/\0<=(yA l i).place/\(yA l i).place<(zAA l (yA l i)).length:=by unfold kG zUY zRe at h;simp only[Bool.and_eq_true,decide_eq_true_eq,beq_iff_eq]at h;have hs:=tL h.1.1.1.1.1.1.1.1;exact⟨hs.1,h.1.1.1.1.1.1.1.2,hs.2.2,h.1.1.1.1.1.1.2,h.2.1.1,h.2.1.2⟩
def zEL(l:List yI)(i:Int):Prop:=∀j,0<=j->j<i->(yA l j).kind=1->mY l j=true
def zJM(l:List yI)(i:Int):Bool:=kG l i&&((xG (yA l i).type).2.2==0&&(decide ((yA l i).pars<=(xG (yA l i).type).1.length)&&pY (xG (yA l i).type).2.1 (yA l i).fam (yA l i).pars (yA l (yA l i).fam).inds (xG (yA l i).type).1.length))
theorem zYc(l:List yI)(i:Int)(h0:0<=i)(h1:i<l.length)(he:∀e∈l,jM e)(hF:zEL l i):zF (λq=>zUV q l i) (zJM l i):=by
 simp only[zUV];have hx:=he _ (nS h0 h1);refine zF.pure (yT h0 h1) ((K4 _ hx.1).bind ((zGW l i h0 h1 he).bind ?_));unfold zJM;by_cases a1:kG l i=true
 ·have hs:=pL a1;have hf:=uC (hF _ hs.1 hs.2.1 hs.2.2.1);refine zF.ifT a1 ?_;rw[a1,Bool.true_and];by_cases a2:(xG (yA l i).type).2.2=0
  ·refine zF.ifT (by simp[a2]) ?_;have hw:=pK (t:=(yA l i).type) (l:=(xG (yA l i).type).1) (y:=(xG (yA l i).type).2.1) (by rw[<-a2]);by_cases a3:(yA l i).pars<=(xG (yA l i).type).1.length;·refine zF.ifT (decide_eq_true a3) (zF.pure (yT hs.1 (by omega)) ((C1 _ _ _ _ _ hw.2.2.2.2.1 (by omega) (by omega) (by have:=hw.2.2.1;omega)).bind (zF.ret.eq (by simp[a2,a3]))))
   ·exact zF.ifF (decide_eq_false a3) (zF.ret.eq (by simp[a3]))
  ·exact zF.ifF (by simp[a2]) (zF.ret.eq (by simp[a2]))
 ·exact zF.ifF (by simpa using a1) (zF.ret.eq (by simp[a1]))
def sQ(l:List Tm)(n:Int):Tm:=(l[n.toNat]?).getD zT
theorem tX{l:List Tm}{n:Int}(h0:0<=n)(h1:n<l.length):zS l n=some (sQ l n):=by
 unfold zS sQ;rw[if_pos h0];have:n.toNat<l.length:=by omega
 rw[List.getElem?_eq_getElem this];rfl
theorem qM{l:List Tm}{n:Int}(h0:0<=n)(h1:n<l.length):sQ l n∈l:=by
 unfold sQ;have:n.toNat<l.length:=by omega
 rw[List.getElem?_eq_getElem this];exact List.getElem_mem this
def X5(l:List yI)(i:Int):Bool:=kG l i&&((uY (yA l i).type ((yA l i).pars+1)).2.2==0&&pY (sQ (uY (yA l i).type ((yA l i).pars+1)).1 (yA l i).pars) (yA l i).fam (yA l i).pars 0 (yA l i).pars)
theorem zUZ(l:List yI)(i:Int)(h0:0<=i)(h1:i<l.length)(he:∀e∈l,jM e)(hF:zEL l i):zF (λq=>zUW q l i) (X5 l i):=by
 simp only[zUW];have hx:=he _ (nS h0 h1);refine(zGW l i h0 h1 he).bind ?_;unfold X5;by_cases a1:kG l i=true
 ·have hs:=pL a1;have hf:=uC (hF _ hs.1 hs.2.1 hs.2.2.1);refine zF.ifT a1 (zF.pure (yT h0 h1) ?_);rw[a1,Bool.true_and,yS (x:=(yA l i).pars+1) (by omega) (by omega)];refine(K3 _ _ hx.1).bind ?_;by_cases a2:(uY (yA l i).type ((yA l i).pars+1)).2.2=0
  ·have hw:=zCY (t:=(yA l i).type) (n:=(yA l i).pars+1) (l:=(uY (yA l i).type ((yA l i).pars+1)).1) (y:=(uY (yA l i).type ((yA l i).pars+1)).2.1) (by rw[<-a2]);refine zF.ifT (by simp[a2]) (zF.pure (tX (by omega) (by omega)) ((C1 _ _ _ _ _ (hw.2.2.2.2.2.2 _ (qM (by omega) (by omega))) (by omega) (by omega) (by omega)).bind (zF.ret.eq (by simp[a2]))))
  ·exact zF.ifF (by simp[a2]) (zF.ret.eq (by simp[a2]))
 ·exact zF.ifF (by simpa using a1) (zF.ret.eq (by simp[a1]))
def zJN(l:List yI)(i:Int):Bool:=tW (yA l i).body i&&((yA l i).fam==0&&((yA l i).place==0&&((yA l i).pars==0&&((yA l i).inds==0&&((yA l i).level==0&&(decide ((yA l i).cons.length=0)&&decide ((yA l i).fields.length=0)))))))
theorem zYb(l:List yI)(i:Int)(h0:0<=i)(h1:i<l.length)(he:∀e∈l,jM e):zF (λq=>zUX q l i) (zJN l i):=by
 simp only[zUX];have hx:=he _ (nS h0 h1);have hc:(yA l i).cons.length<=1152921504606846976:=hx.2.2.1;have hf:(yA l i).fields.length<=1152921504606846976:=hx.2.2.2;refine zF.pure (yT h0 h1) ((zAc _ i hx.2.1).bind ?_);unfold zJN;by_cases a1:tW (yA l i).body i=true
 ·refine zF.ifT a1 ?_;rw[a1,Bool.true_and,yS (x:=((yA l i).cons.length:Int)+((yA l i).fields.length:Int)) (by omega) (by omega)];have e:(((yA l i).cons.length:Int)+((yA l i).fields.length:Int)==0)=(decide ((yA l i).cons.length=0)&&decide ((yA l i).fields.length=0)):=by rw[Bool.eq_iff_iff];simp only[beq_iff_eq,Bool.and_eq_true,decide_eq_true_eq];omega
  rw[e];refine zF.mk λq=>?_;generalize(decide ((yA l i).cons.length=0)&&decide ((yA l i).fields.length=0))=z;by_cases b1:(yA l i).fam=0<;>by_cases b2:(yA l i).place=0<;>by_cases b3:(yA l i).pars=0<;>by_cases b4:(yA l i).inds=0<;>by_cases b5:(yA l i).level=0<;>simp[b1,b2,b3,b4,b5]
 ·exact zF.ifF (by simpa using a1) (zF.ret.eq (by simp[a1]))
def yBT(qq:Nat)(p0:yD):Option yD:=some []
theorem yBU{qq p0}:Cz (yBT qq p0) 65 [] [zN zZ p0 .nl] (λr=>.sl (zC zZ r) r.length .no) (λ_=>[]) 0:=fw func65<|fE 1
def zRd(qq:Nat)(p0:yD):Option yD:=yX 8 ([]:yD) p0>>=λl1=>some l1
theorem yBV{qq p0}:Cz (zRd qq p0) 65 [] [zN zZ p0 .nn] (λr=>.sl (zC zZ r) r.length .no) (λ_=>[]) 0:=fw func65<|rH λ_ h2=>rZ (List.length p0=0) (λh3=>rS (oP 2 (zLd h2 h3))<|fE 0) λh3=>rS (oP 2 (qO h2 h3))<|fE 0
def zYa(qq:Nat)(p0:yD):Option (Unit):=some ()
theorem zYA{qq p0}:Cz (zYa qq p0) 65 [] [zN zZ p0 .nl] (λ_=>zN zZ ([]:yD) .full) (λ_=>[]) 0:=fw func65<|fG 1 [] [] [] true
def zRc(qq:Nat)(p0:yD):Option ((Unit)⊕yD):=if decide (List.length p0=0)then some (Sum.inl ())else yX 8 ([]:yD) p0>>=λl2=>some (Sum.inr l2)
theorem zRb{qq p0}:Cz (zRc qq p0) 65 [] [zN zZ p0 .nn] (Sum.elim (λ_=>zN zZ ([]:yD) .full) (λx=>.ms 0 0 x.length x.length 1)) (Sum.elim (λ_=>[]) (λx=>[.row (zC zZ x)])) 0:=fw func65<|rI (λh1=>rS (oQ 2 (yBl (of_decide_eq_true h1)))<|fG 0 [] [] [] true) λh1=>rW (λh3=>oM 2 (yBd h3 (of_decide_eq_false h1))) λ_=>fF 0 [0]
def e65(_qq:Nat)(p0:yD):Option yD:=yX 8 [] p0
theorem yEp{qq:Nat}{p0:yD}{r:yD}(h:e65 qq p0=some r):CT prog 65 [] [.sl (zC zZ p0) p0.length .no] (.sl (zC zZ r) r.length .no) [] 0:=by
 have hr:r=p0:=by have:=(pI h).2;simpa using this
 have h1:zRd qq p0=some r:=by unfold zRd;rw[show yX 8 ([]:yD) p0=some r from h];rfl
 have k1:=yBV _ h1;refine⟨uS.nilcase (λhn=>?_) k1.tri,⟨⟨trivial,dI _⟩,trivial⟩,(λ_ h=>nomatch h),dI _,(λ_ h=>nomatch h)⟩;have hp:p0=[]:=I3 lU (by decide) hn;subst hr;subst hp;exact(yBU (qq:=qq) _ rfl).tri
def zLO(qq:Nat)(p0:yD):Option (Unit⊕yD):=if decide (List.length p0=0)=true then some (.inl ())else(yX 8 [] p0)>>=λr=>some (.inr r)
theorem zYB{qq:Nat}{p0:yD}{r:Unit⊕yD}(h:zLO qq p0=some r):(match(generalizing:=false)r with|.inl _=>CT prog 65 [] [.sl (zC zZ p0) p0.length .no] (.sl (zC zZ ([]:yD)) (List.length ([]:yD)) .full) [] 0|.inr x=>CT prog 65 [] [.sl (zC zZ p0) p0.length .no] (.ms 0 0 x.length x.length 1) [.row (zC zZ x)] 0):=by
 unfold zLO at h;rcases w9 h with⟨h1,h⟩|⟨h1,h⟩
 ·obtain rfl:=sj h;have hp:p0=[]:=List.length_eq_zero_iff.1 (of_decide_eq_true h1);subst hp;have k0:=zYA (qq:=qq) (p0:=[]) (()) rfl;have k1:=zRb (qq:=qq) (p0:=[]) (.inl ()) rfl;exact⟨uS.nilcase (λ_=>k0.tri) k1.tri,⟨⟨trivial,dI _⟩,trivial⟩,(λ_ h=>nomatch h),dI _,(λ_ h=>nomatch h)⟩
 ·obtain⟨x,h2,h⟩:=wS h;obtain rfl:=sj h;have k1:=zRb (qq:=qq) (p0:=p0) (r:=.inr x) (by unfold zRc;rw[if_neg (by rw[h1];decide),h2];rfl);refine⟨uS.nilcase (λhn=>?_) k1.tri,⟨⟨trivial,dI _⟩,trivial⟩,(λ_ h=>nomatch h),(show 0<1 by decide),yJ (dI _) yN⟩;have hp:p0=[]:=I3 lU (by decide) hn;subst hp;cases h1
theorem c65{qq:Nat}{p0:yD}:Cz (e65 qq p0) 65 [] [.sl (zC zZ p0) p0.length .no] (λr=>.sl (zC zZ r) r.length .no) (λ_=>[]) 0:=λ_ h=>yEp h
theorem zXo{qq:Nat}{p0:yD}:Cz (zLO qq p0) 65 [] [.sl (zC zZ p0) p0.length .no] (Sum.elim (λ_=>.sl (zC zZ ([]:yD)) (List.length ([]:yD)) .full) (λx=>.ms 0 0 x.length x.length 1)) (Sum.elim (λ_=>[]) (λx=>[.row (zC zZ x)])) 0:=λr h=>by have k:=zYB h;rcases r with _|_<;>exact k
def R1:Nat->xH->xH->Int->Option xH|0,_,_,_=>none|b+1,a,d,c=>if decide (c<(a.length:Int))then zS a c>>=λx2=>e64 b x2.type>>=λr4=>e64 b x2.body>>=λr6=>e65 b x2.cons>>=λr8=>e65 b x2.fields>>=λr10=>yX 192 d [(yI.mk x2.kind x2.name r4 r6 x2.fam x2.place x2.pars x2.inds x2.level r8 r10)]>>=λl12=>R1 b a l12 (xC (c+1))else some d
def e46(b:Nat)(a:xH):Option xH:=R1 b a [] 0
theorem zYC:∀b:Nat,∀a d c,Lz (R1 b a d c) 0 f46 (pt 4021 f46) (λj=>sp j 34 0 [(3,zN xA d (.st 0 15)),(6,zN xA a .no),(7,ai (a.length:Int)),(8,ai c)]) ⟨[],0,[0],1,[]⟩ (λr=>.sl (zC xA r) r.length .no) (λ_=>[]) 0 [.blk 0,.seq (pt 63 f46)]:=xX (λ_ _ _=>lN) λb ih=>λa d c=>lw λ_=>rB 0 (rA 0 (wM (o:=.no)) λ_=>rC 3 [] c64 λ_=>rC 1 [] c64 λ_=>rC 3 [] c65 λ_=>rS (jL 0)<|rC 0 [] c65 λ_=>rW (λh13=>oP 4 (yBi h13 (by simp))) λ_=>lH 1 [] [] [1] [3,6,7,8] (ih _ _ _))<|lE 0
theorem c46{b a}:Cz (e46 b a) 46 [] [zN xA a .no] (λr=>.sl (zC xA r) r.length .no) (λ_=>[]) 0:=fw func46<|fH 1 [(none,3,15)] [] [0] [3,6,7,8] (zYC _ _ _ _)
def R2:Nat->xH->(List ByteArray)->Int->Option (List ByteArray)|0,_,_,_=>none|b+1,a,d,c=>if decide (c<(a.length:Int))then zS a c>>=λx2=>yX 16 d [x2.name]>>=λl4=>R2 b a l4 (xC (c+1))else some d
def e90(b:Nat)(a:xH):Option (List ByteArray):=R2 b a [] 0
theorem zYD:∀b:Nat,∀a d c,Lz (R2 b a d c) 0 f90 (pt 4021 f90) (λj=>sp j 19 0 [(3,zN P6 d (.st 0 1)),(6,zN xA a .no),(7,ai (a.length:Int)),(8,ai c)]) ⟨[],0,[0],1,[]⟩ (λr=>.sl (zC P6 r) r.length .no) (λ_=>[]) 0 [.blk 0,.seq (pt 63 f90)]:=xX (λ_ _ _=>lN) λb ih=>λa d c=>lw λ_=>rB 0 (rA 0 (wM (o:=.no)) λ_=>rW (λh5=>oP 4 (zXZ h5 (by simp))) λ_=>lH 1 [] [] [1] [3,6,7,8] (ih _ _ _))<|lE 0
theorem c90{b a}:Cz (e90 b a) 90 [] [zN xA a .no] (λr=>.sl (zC P6 r) r.length .no) (λ_=>[]) 0:=fw func90<|fH 1 [(none,3,1)] [] [0] [3,6,7,8] (zYD _ _ _ _)
def e91(b:Nat)(c:xH)(a:Int):Option (Bool):=zS c a>>=λx1=>zNX b x1.name>>=λr3=>if r3 then zRk b x1.type a>>=λr6=>if r6 then if x1.kind==1 then zUU b c a>>=λr10=>some r10 else if x1.kind==2 then zUV b c a>>=λr13=>some r13 else if x1.kind==4 then zUW b c a>>=λr16=>some r16 else if x1.kind==3 then zUX b c a>>=λr19=>some r19 else some false else some false else some false
theorem c91{b c a}:Cz (e91 b c a) 91 [] [zN xA c .no,ai a] (λr=>ab r) (λ_=>[]) 0:=fw func91<|rH λ_ h2=>rS (oA 0 (wM (o:=.no) h2))<|rK 1 [] yEu (λ_=>rS (oA 1 (wM (o:=.no) h2))<|rK 1 [] yBO (λ_=>rS (oA 1 (wM (o:=.no) h2))<|rB 1 (rC 0 [] yEt λ_=>fE 0)<|rB 0 (rC 0 [] yEs λ_=>fE 0)<|rB 0 (rC 0 [] yEr λ_=>fE 0)<|rB 0 (rC 0 [] yEq λ_=>fE 0)<|fE 0) λ_=>fE 1) λ_=>fE 1
def R3:Nat->xH->Int->Option (Bool)|0,_,_=>none|c+1,a,b=>if decide (b<(a.length:Int))then e91 c a b>>=λr8=>if r8 then R3 c a (xC (b+1))else some false else some true
def s5(c:Nat)(a:xH):Option (Bool):=if decide ((a.length:Int)>256)then some false else e90 c a>>=λr2=>e89 c r2>>=λr4=>if r4 then R3 c a 0 else some false
theorem zYE:∀c:Nat,∀a b,Lz (R3 c a b) 0 f62 (pt 4021 f62) (λj=>sp j 23 0 [(0,zN xA a .no),(14,ai (a.length:Int)),(15,ai b)]) ⟨[],0,[],0,[]⟩ (λr=>ab r) (λ_=>[]) 0 [.blk 0,.seq (pt 63 f62)]:=xX (λ_ _=>lN) λc ih=>λa b=>lw λ_=>rB 0 (rK 0 [] c91 (λ_=>lH 2 [] [] [] [0,14,15] (ih _ _)) λ_=>lE 1)<|lE 0
theorem c62{c a}:Cz (s5 c a) 62 [] [zN xA a .no] (λr=>ab r) (λ_=>[]) 0:=fw func62<|rB 1 (fE 0)<|rC 0 [] c90 λ_=>rK 0 [] c89 (λ_=>fH 2 [] [] [] [0,14,15] (zYE _ _ _)) λ_=>fE 1
def jI(N:ByteArray->Bool)(l:List yI)(i:Int):Bool:=N (yA l i).name&&(tW (yA l i).type i&&(if(yA l i).kind=1 then mY l i else if(yA l i).kind=2 then zJM l i else if(yA l i).kind=4 then X5 l i else if(yA l i).kind=3 then zJN l i else false))
def zOt(N:ByteArray->Bool)(l:List yI):Nat->Nat->Bool|0,_=>true|m+1,v=>jI N l v&&zOt N l m (v+1)
def cW(N:ByteArray->Bool):Prop:=∀s,zF (λq=>zNX q s) (N s)
theorem zRa:∃N,cW N:=by
 have h:∀s,∃b,zF (λq=>zNX q s) b:=λs=>by obtain⟨b,hb,_⟩:=zJK s;exact⟨b,hb⟩
 exact⟨λs=>Classical.choose (h s),λs=>Classical.choose_spec (h s)⟩
theorem zRA(N:ByteArray->Bool)(hN:cW N)(l:List yI)(i:Int)(h0:0<=i)(h1:i<l.length)(hl:l.length<=65535)(he:∀e∈l,jM e)(hF:zEL l i):zF (λq=>e91 q l i) (jI N l i):=by
 simp only[e91];have hx:=he _ (nS h0 h1);refine zF.pure (yT h0 h1) ((hN _).bind ?_);unfold jI;by_cases a1:N (yA l i).name=true
 ·refine zF.ifT a1 ((zAc _ i hx.1).bind ?_);rw[a1,Bool.true_and];by_cases a2:tW (yA l i).type i=true
  ·refine zF.ifT a2 ?_;rw[a2,Bool.true_and];by_cases k1:(yA l i).kind=1;·rw[if_pos k1];exact zF.ifT (by simp[k1]) ((zOv l i h0 h1 hl he).bind zF.ret)
   rw[if_neg k1];refine zF.ifF (by simp[k1]) ?_;by_cases k2:(yA l i).kind=2;·rw[if_pos k2];exact zF.ifT (by simp[k2]) ((zYc l i h0 h1 he hF).bind zF.ret)
   rw[if_neg k2];refine zF.ifF (by simp[k2]) ?_;by_cases k4:(yA l i).kind=4;·rw[if_pos k4];exact zF.ifT (by simp[k4]) ((zUZ l i h0 h1 he hF).bind zF.ret)
   rw[if_neg k4];refine zF.ifF (by simp[k4]) ?_;by_cases k3:(yA l i).kind=3;·rw[if_pos k3];exact zF.ifT (by simp[k3]) ((zYb l i h0 h1 he).bind zF.ret)
   ·rw[if_neg k3];exact zF.ifF (by simp[k3]) zF.ret
  ·exact zF.ifF (by simpa using a2) (zF.ret.eq (by simp[a2]))
 ·exact zF.ifF (by simpa using a1) (zF.ret.eq (by simp[a1]))
theorem zCZ:∀(r l:List yI)(v:Nat)(acc:List ByteArray),l.drop v=r->l.length<=65535->acc.length<=v->zF (λq=>R2 q l acc (v:Int)) (acc++r.map yI.name)|[],l,v,acc,hd,hl,ha=>by refine zF.succ ?_;simp only[R2];exact zF.ifF (zY hd) (zF.ret.eq (by simp))|x::r,l,v,acc,hd,hl,ha=>by have hlt:=yC hd;refine zF.succ ?_;simp only[R2];refine zF.ifT (zX hd) (zF.pure (zV hd) (zF.pure (yF (by simp<;>omega)) ?_));rw[zU v (by omega)];exact(zCZ r l (v+1) _ (zR hd) hl (by simp<;>omega)).eq (by simp)
theorem zRB(l:List yI)(hl:l.length<=65535):zF (λq=>e90 q l) (l.map yI.name):=by simp only[e90];exact(zCZ l l 0 [] rfl hl (by simp)).eq (by simp)
theorem zJO(N:ByteArray->Bool)(hN:cW N)(l:List yI)(hl:l.length<=65535)(he:∀e∈l,jM e):∀(m v:Nat),v+m=l.length->zEL l v->zF (λq=>R3 q l (v:Int)) (zOt N l m v):=by intro m;induction m with|zero=>intro v hm hF;refine zF.succ ?_;simp only[R3];exact zF.ifF (decide_eq_false (by omega)) zF.ret|succ m ih=>
 intro v hm hF;refine zF.succ ?_;simp only[R3];refine zF.ifT (decide_eq_true (by omega)) ((zRA N hN l v (by omega) (by omega) hl he hF).bind ?_);rw[zOt];by_cases h:jI N l v=true
 ·refine zF.ifT h ?_;rw[zU v (by omega),h,Bool.true_and];refine ih (v+1) (by omega) λj hj0 hj1 hk=>?_;by_cases e:j=v
  ·subst e;unfold jI at h;simp only[Bool.and_eq_true]at h;have:=h.2.2;rwa[if_pos hk]at this
  ·exact hF j hj0 (by omega) hk
 ·exact zF.ifF (by simpa using h) (zF.ret.eq (by simp[h]))
def K5(N:ByteArray->Bool)(d:Bool)(l:List yI):Bool:=decide (l.length<=256)&&(d&&zOt N l l.length 0)
theorem zOs(N:ByteArray->Bool)(hN:cW N)(l:List yI)(hl:l.length<=65535)(he:∀e∈l,jM e):∃d,zF (λq=>e89 q (l.map yI.name)) d/\zF (λq=>s5 q l) (K5 N d l):=by
 obtain⟨d,hd,_⟩:=zEJ (l.map yI.name) (by simpa using hl);refine⟨d,hd,?_⟩;simp only[s5];unfold K5;by_cases h:l.length<=256
 ·refine zF.ifF (decide_eq_false (by omega)) ((zRB l hl).bind (hd.bind ?_));cases d with|false=>exact zF.ifF rfl (zF.ret.eq (by simp))|true=>exact zF.ifT rfl ((zJO N hN l hl he l.length 0 (by omega) (λj h0 h1=>by omega)).eq (by simp[h]))
 ·exact zF.ifT (decide_eq_true (by omega)) (zF.ret.eq (by simp[h]))
theorem zDz{N:ByteArray->Bool}{l:List yI}:∀{m v:Nat},zOt N l m v=true->∀j,v<=j->j<v+m->jI N l (j:Int)=true
 |0,v,_,j,h0,h1=>by omega|m+1,v,h,j,h0,h1=>by
  rw[zOt]at h;simp only[Bool.and_eq_true]at h;by_cases e:j=v;·subst e;exact h.1
  ·exact zDz h.2 j (by omega) (by omega)
def vA(N:ByteArray->Bool)(l:List yI):Prop:=l.length<=256/\∀i:Int,0<=i->i<l.length->jI N l i=true
theorem K6{N:ByteArray->Bool}{d:Bool}{l:List yI}(h:K5 N d l=true):vA N l:=by unfold K5 at h;simp only[Bool.and_eq_true,decide_eq_true_eq]at h;refine⟨h.1,λi h0 h1=>?_⟩;have:=zDz h.2.2 i.toNat (by omega) (by omega);rwa[show((i.toNat:Nat):Int)=i by omega]at this
theorem xS{N:ByteArray->Bool}{l:List yI}{i:Int}(h:jI N l i=true):tW (yA l i).type i=true/\((yA l i).kind=1->mY l i=true)/\((yA l i).kind=2->zJM l i=true)/\((yA l i).kind=4->X5 l i=true)/\((yA l i).kind=3->zJN l i=true)/\((yA l i).kind=1\/(yA l i).kind=2\/(yA l i).kind=3\/(yA l i).kind=4):=by
 unfold jI at h;simp only[Bool.and_eq_true]at h;obtain⟨_,h2,h3⟩:=h;refine⟨h2,λk=>by rwa[if_pos k]at h3,λk=>?_,λk=>?_,λk=>?_,?_⟩;·rwa[if_neg (by omega),if_pos k]at h3
 ·rwa[if_neg (by omega),if_neg (by omega),if_pos k]at h3
 ·rwa[if_neg (by omega),if_neg (by omega),if_neg (by omega),if_pos k]at h3
 ·split at h3;·exact .inl (by assumption)
  ·split at h3;·exact .inr (.inl (by assumption))
   ·split at h3;·exact .inr (.inr (.inr (by assumption)))
    ·split at h3;·exact .inr (.inr (.inl (by assumption)))
     ·cases h3
def zOr(e:yI):yI:=yI.mk e.kind e.name (nZ e.type) (nZ e.body) e.fam e.place e.pars e.inds e.level e.cons e.fields
def ECl(e:yI):Prop:=e.cons.length<=17592186044416/\e.fields.length<=17592186044416
theorem zGX:∀(r l acc:List yI)(v:Nat),l.drop v=r->l.length<=65535->(∀e∈l,jM e)->(∀e∈l,ECl e)->acc.length<=v->zF (λq=>R1 q l acc (v:Int)) (acc++r.map zOr)
 |[],l,acc,v,hd,hl,he,hc,ha=>by refine zF.succ ?_;simp only[R1];exact zF.ifF (zY hd) (zF.ret.eq (by simp))|x::r,l,acc,v,hd,hl,he,hc,ha=>by
  have hlt:=yC hd;have hx:x∈l:=by
   have:x∈l.drop v:=by rw[hd];simp
   exact List.mem_of_mem_drop this
  have hE:=he x hx;have hC:=hc x hx;refine zF.succ ?_;simp only[R1];refine zF.ifT (zX hd) (zF.pure (zV hd) ((sG _ hE.1).bind ((sG _ hE.2.1).bind ?_)));refine zF.bind (a:=x.cons) (zF.mk λq=>(yF (by have:=hC.1;simp<;>omega)).trans (by simp)) (zF.bind (a:=x.fields) (zF.mk λq=>(yF (by have:=hC.2;simp<;>omega)).trans (by simp)) (zF.pure (yF (by simp<;>omega)) ?_));rw[zU v (by omega)];exact(zGX r l _ (v+1) (zR hd) hl he hc (by simp<;>omega)).eq (by simp[zOr])
theorem eO(l:List yI)(hl:l.length<=65535)(he:∀e∈l,jM e)(hc:∀e∈l,ECl e):zF (λq=>e46 q l) (l.map zOr):=by simp only[e46];exact(zGX l l [] 0 rfl hl he hc (by simp)).eq (by simp)
theorem rM{t:Tm}{n:Int}(h:tW t n=true):zG t=true:=by unfold tW qA at h;simp only[Bool.and_eq_true]at h;exact h.1.1.1
theorem zJP{t:Tm}(h:aV t=true):t=zT:=by unfold aV at h;simp only[Bool.and_eq_true,beq_iff_eq]at h;obtain⟨k,n,l⟩:=t;have h1:k=0:=h.1.1;have h2:n=0:=h.1.2;have h3:l=[]:=List.length_eq_zero_iff.1 (by have:(l.length:Int)=0:=h.2;omega);subst h1;subst h2;subst h3;rfl
theorem zDy{t:Tm}(h:aV t=true):nZ t=t:=by
 rw[zJP h];unfold nZ;split;·rfl
 ·rfl
theorem zOq{N:ByteArray->Bool}{l:List yI}{i:Int}(h:jI N l i=true):zOr (yA l i)=yA l i:=by
 have hs:=xS h;have h1:nZ (yA l i).type=(yA l i).type:=by unfold nZ;rw[if_pos (rM hs.1)]
 have own:kG l i=true->nZ (yA l i).body=(yA l i).body:=λho=>by unfold kG zUY at ho;simp only[Bool.and_eq_true]at ho;exact zDy ho.1.1.1.1.1.2
 have h2:nZ (yA l i).body=(yA l i).body:=by
  rcases hs.2.2.2.2.2 with k|k|k|k
  ·have:=hs.2.1 k;unfold mY zJL at this;simp only[Bool.and_eq_true]at this;exact zDy this.1.1.1.2
  ·have:=hs.2.2.1 k;unfold zJM at this;simp only[Bool.and_eq_true]at this;exact own this.1
  ·have:=hs.2.2.2.2.1 k;unfold zJN at this;simp only[Bool.and_eq_true]at this;unfold nZ;rw[if_pos (rM this.1)]
  ·have:=hs.2.2.2.1 k;unfold X5 at this;simp only[Bool.and_eq_true]at this;exact own this.1
 unfold zOr;rw[h1,h2]
theorem iB{N:ByteArray->Bool}{l:List yI}(h:vA N l):l.map zOr=l:=by
 refine List.ext_getElem (by simp) λi h1 h2=>?_;simp only[List.getElem_map];have:=zOq (h.2 (i:Int) (by omega) (by omega));have e:yA l (i:Int)=l[i]:=by unfold yA;rw[show(i:Int).toNat=i by omega,List.getElem?_eq_getElem h2];rfl
 rwa[e]at this
def zVz(qq:Nat)(p0:yU):Option (Unit):=some ()
theorem zVy{qq p0}:Cz (zVz qq p0) 121 [] [zN zA p0 .nl] (λ_=>zN zA ([]:yU) .full) (λ_=>[]) 0:=fw func121<|fG 1 [] [] [] true
def zLP(qq:Nat)(p0:yU):Option ((Unit)⊕yU):=if decide (List.length p0=0)then some (Sum.inl ())else yX 40 ([]:yU) p0>>=λl2=>some (Sum.inr l2)
theorem zLQ{qq p0}:Cz (zLP qq p0) 121 [] [zN zA p0 .nn] (Sum.elim (λ_=>zN zA ([]:yU) .full) (λx=>.ms 0 0 x.length x.length 3)) (Sum.elim (λ_=>[]) (λx=>[.row (zC zA x)])) 0:=fw func121<|rI (λh1=>rS (oQ 2 (yBn (of_decide_eq_true h1)))<|fG 0 [] [] [] true) λh1=>rW (λh3=>oM 2 (yBf h3 (of_decide_eq_false h1))) λ_=>fF 0 [0]
def C2(qq:Nat)(p0:yU):Option (Unit⊕yU):=if decide (List.length p0=0)=true then some (.inl ())else(yX 40 [] p0)>>=λr=>some (.inr r)
theorem zEM{qq:Nat}{p0:yU}{r:Unit⊕yU}(h:C2 qq p0=some r):(match(generalizing:=false)r with|.inl _=>CT prog 121 [] [.sl (zC zA p0) p0.length .no] (.sl (zC zA ([]:yU)) (List.length ([]:yU)) .full) [] 0|.inr x=>CT prog 121 [] [.sl (zC zA p0) p0.length .no] (.ms 0 0 x.length x.length 3) [.row (zC zA x)] 0):=by
 unfold C2 at h;rcases w9 h with⟨h1,h⟩|⟨h1,h⟩
 ·obtain rfl:=sj h;have hp:p0=[]:=List.length_eq_zero_iff.1 (of_decide_eq_true h1);subst hp;have k0:=zVy (qq:=qq) (p0:=[]) (()) rfl;have k1:=zLQ (qq:=qq) (p0:=[]) (.inl ()) rfl;exact⟨uS.nilcase (λ_=>k0.tri) k1.tri,⟨⟨trivial,dT _⟩,trivial⟩,(λ_ h=>nomatch h),dT _,(λ_ h=>nomatch h)⟩
 ·obtain⟨x,h2,h⟩:=wS h;obtain rfl:=sj h;have k1:=zLQ (qq:=qq) (p0:=p0) (r:=.inr x) (by unfold zLP;rw[if_neg (by rw[h1];decide),h2];rfl);refine⟨uS.nilcase (λhn=>?_) k1.tri,⟨⟨trivial,dT _⟩,trivial⟩,(λ_ h=>nomatch h),(show 0<1 by decide),yJ (dT _) yN⟩;have hp:p0=[]:=I3 uW (by decide) hn;subst hp;cases h1
def zJQ(_qq:Nat)(p0:yU):Option yU:=yX 40 [] p0
theorem yBW{qq:Nat}{p0:yU}{r:yU}(h:zJQ qq p0=some r):CT prog 121 [] [.sl (zC zA p0) p0.length .no] (.sl (zC zA r) r.length (.st 0 3)) [] 1:=by
 have hr:r=p0:=by have:=(pI h).2;simpa using this
 subst hr;by_cases h1:List.length r=0
 ·have hp:r=[]:=List.length_eq_zero_iff.1 h1;subst hp;exact CT.stampNil (zEM (qq:=qq) (p0:=[]) (r:=.inl ()) rfl)
 ·exact CT.freezeS (zEM (qq:=qq) (p0:=r) (r:=.inr r) (by unfold C2;rw[if_neg (by simpa using h1),show yX 40 ([]:yU) r=some r from h];rfl)) (dT _) (vP uW.len _)
theorem zRC{qq:Nat}{p0:yU}:Cz (C2 qq p0) 121 [] [.sl (zC zA p0) p0.length .no] (Sum.elim (λ_=>.sl (zC zA ([]:yU)) (List.length ([]:yU)) .full) (λx=>.ms 0 0 x.length x.length 3)) (Sum.elim (λ_=>[]) (λx=>[.row (zC zA x)])) 0:=λr h=>by have k:=zEM h;rcases r with _|_<;>exact k
theorem zYF{qq:Nat}{p0:yU}:Cz (zJQ qq p0) 121 [] [.sl (zC zA p0) p0.length .no] (λr=>.sl (zC zA r) r.length (.st 0 3)) (λ_=>[]) 1:=λ_ h=>yBW h
def zVx(a:Nat)(c:xH)(d:Tm)(b e:Int):Option (qJ):=zJJ a d>>=λr1=>B9 a r1.2.1>>=λr3=>if r1.2.2 !=0 then some (qJ.mk false [] [])else if r3.1.k !=6 then some (qJ.mk false [] [])else if r3.1.n !=b then some (qJ.mk false [] [])else zS c b>>=λx8=>zNU a r1.2.1 b x8.pars x8.inds (xC (e+(r1.1.length:Int)))>>=λr10=>if r10 then mU r3.2 x8.pars (r3.2.length:Int)>>=λx13=>zJQ a x13>>=λr15=>some (qJ.mk true r1.1 r15)else some (qJ.mk false [] [])
theorem yEn{a c d b e}:Cz (zVx a c d b e) 122 [] [zN xA c .no,yZ d,ai b,ai e] (λr=>yBy r) (λ_=>[]) 0:=fw func122<|rC 1 [] zUE λ_=>rC 5 [] zGI λ_=>rB 3 (fE 1)<|rB 1 (fE 1)<|rB 1 (fE 1)<|rH λ_ h9=>rS (oA 1 (wM (o:=.no) h9))<|rS (oA 1 (wM (o:=.no) h9))<|rK 3 [] zYg (λ_=>rS (oA 1 (wM (o:=.no) h9))<|rA 1 qV λ_=>rC 0 [] zYF λ_=>fE 1) λ_=>fE 2
def R4:Nat->xH->yI->yU->yU->Int->(List qJ)->Option (tZ)|0,_,_,_,_,_,_=>none|c+1,d,x1,x7,r11,b,a=>if decide (b<(x7.length:Int))then zS x7 b>>=λx14=>zVx c d x14 x1.fam (xC (x1.pars+b))>>=λr16=>yX 56 a [r16]>>=λl18=>R4 c d x1 x7 r11 (xC (b+1)) l18 else some (tZ.mk x7 r11 a)
def e92(c:Nat)(d:xH)(e:Int):Option (tZ):=zS d e>>=λx1=>zJJ c x1.type>>=λr3=>B9 c r3.2.1>>=λr5=>mU r3.1 x1.pars (r3.1.length:Int)>>=λx7=>mU r5.2 x1.pars (r5.2.length:Int)>>=λx9=>zJQ c x9>>=λr11=>R4 c d x1 x7 r11 0 []
theorem zYG:∀c:Nat,∀d x1 x7 r11 b a,Lz (R4 c d x1 x7 r11 b a) 0 f92 (pt 262069 f92) (λj=>sp j 64 0 [(0,zN xA d .no),(4,.mp 0 0),(5,.mp 1 0),(11,.mp 2 0),(41,zN zA x7 .no),(42,ai (x7.length:Int)),(43,ai b)]) ⟨[(0,.cells [zN zA ([]:yU) .nl,zN zA ([]:yU) .nl,zN A8 ([]:List qJ) .nl]),(1,.cells [ai x1.kind,at' x1.name,ai x1.type.k,ai x1.type.n,zN zA x1.type.sub .no,ai x1.body.k,ai x1.body.n,zN zA x1.body.sub .no,ai x1.fam,ai x1.place,ai x1.pars,ai x1.inds,ai x1.level,zN zZ x1.cons .no,zN zZ x1.fields .no]),(2,.cells [zN zA x7 .no,zN zA r11 (.st 0 3),zN A8 a (.st 1 3)])],3,[0,1],2,[]⟩ (λr=>zXM r) (λ_=>[]) 0 [.blk 0,.seq (pt 4095 f92)]:=xX (λ_ _ _ _ _ _=>lN) λc ih=>λd x1 x7 r11 b a=>lw λ_=>rB 0 (rA 0 (xP (o:=.no)) λ_=>rS (jL 2)<|rC 4 [] yEn λ_=>rW (λh19=>oP 1 (zYz h19 (by simp))) λ_=>lH 2 [] [0,1,2] [0,2] [0,4,5,11,41,42,43] (ih _ _ _ _ _ _))<|lE 2
theorem c92{c d e}:Cz (e92 c d e) 92 [] [zN xA d .no,ai e] (λr=>zXM r) (λ_=>[]) 0:=fw func92<|rA 0 (wM (o:=.no)) λ_=>rC 3 [] zUE λ_=>rC 5 [] zGI λ_=>rS (jL 3)<|rA 0 qV λ_=>rA 1 qV λ_=>rC 0 [] zYF λ_=>fH 3 [(some 4,2,3)] [0,1,4] [0,1] [0,4,5,11,41,42,43] (zYG _ _ _ _ _ _ _)
def eP:Nat->xH->sA->Int->sA->Option ((sA×Int)⊕(sA×Int))|0,_,_,_,_=>none|f+1,d,x4,e,a=>if decide (e<(d.length:Int))then zS d e>>=λx7=>if x7.kind==2 then e92 f d e>>=λr10=>oT x4.length e>>=λx12=>jF a x12 r10>>=λx14=>eP f d x4 (xC (e+1)) x14 else eP f d x4 (xC (e+1)) a else I9 x4.length a>>=λl16=>some (Sum.inr (l16,0))
def e63(f:Nat)(d:xH):Option ((sA×Int)⊕(sA×Int)):=s5 f d>>=λr1=>if r1 then gmk 72 (default:tZ) (d.length:Int)>>=λx4=>eP f d x4 0 x4 else some (Sum.inl ([],5))
def zRD(j:Nat->Value)(d:xH)(x4:sA)(e:Int)(a:sA):=sp j 31 0 [(0,zN xA d .no),(4,.ms 0 0 x4.length x4.length 3),(13,ai (d.length:Int)),(14,ai e)]
def zRE(d:xH)(x4:sA)(e:Int)(a:sA):xB:=⟨[(0,.row (zC pX a))],1,[],0,[]⟩
abbrev zRF(d:xH)(r:sA×Int)(C:Cf):Prop:=C 63 [] [zN xA d .no] (.tup [.sl (zC pX r.1) r.1.length .no,ai r.2]) [] 0
abbrev zRG(d:xH)(r:sA×Int)(C:Cf):Prop:=C 63 [] [zN xA d .no] (.tup [.ms 0 0 r.1.length r.1.length 3,ai r.2]) [.row (zC pX r.1)] 0
theorem q63:Qf 63 f63:=⟨func63,by kernel_rfl⟩
theorem zXn{d r}(h:zRF d r Ci):zRF d r Ct:=⟨h,⟨⟨tv,dE _⟩,tv⟩,yN,⟨dC _,tv,tv⟩,yN⟩
theorem yBY{d r}(h:zRG d r Ci):zRG d r Ct:=⟨h,⟨⟨tv,dE _⟩,tv⟩,yN,⟨(lz rfl),tv,tv⟩,(yJ (dC _) yN)⟩
theorem zRH:∀f:Nat,(∀d x4 e a r,eP f d x4 e a=some r->(∀j,Dl prog 0 (pt 16309 f63) (zRD j d x4 e a) (zRE d x4 e a) (vF prog 0 ((match(generalizing:=false)r with|Sum.inl x=>nB prog 0 f63 (.tup [.sl (zC pX x.1) x.1.length .no,ai x.2]) [] 0|Sum.inr x=>nB prog 0 f63 (.tup [.ms 0 0 x.1.length x.1.length 3,ai x.2]) [.row (zC pX x.1)] 0)) [.blk 0,.seq (pt 255 f63)]))):=by intro f;induction f with|zero=>exactλ_ _ _ _ _ h=>nn h|succ f ih=>
 intro d x4 e a r h;rw[eP]at h;rcases w9 h with⟨h6,h⟩|⟨h6,h⟩;obtain⟨x7,h8,h⟩:=wS h;have k:=oA 0 (wM (o:=.no) h8)<|oB 0 h6 o0;rcases w9 h with⟨h9,h⟩|⟨h9,h⟩;obtain⟨r10,h11,h⟩:=wS h;obtain⟨x12,h13,h⟩:=wS h;obtain⟨x14,h15,h⟩:=wS h;exactλj=>olH 1 [] [0] [] [0,4,13,14] (oD (dE d)<|oD (dC x14)<|oW 0 (wtE (x:=r10) (cs:=[zN zA r10.args .no,zN zA r10.inds .no,zN A8 r10.recs .no]) zEi rfl h15)<|oA 0 (zYv (b:=0) (c:=List.length x4) (z:=3) h13)<|oC 0 [] (c92 _ h11)<|oB 1 h9 k) (ih _ _ _ _ _ h);exactλj=>olH 1 [] [0] [] [0,4,13,14] (oD (dE d)<|oD (dC a)<|oB 1 h9 k) (ih _ _ _ _ _ h);obtain⟨l16,h17,h⟩:=wS h;obtain⟨h17a,h17b⟩:=rG h17;obtain rfl:=sj h;obtain rfl:=h17a.symm;try dsimp only
 rw[<-h17b];exactλj=>olF 0 [0] (oD (dC a)<|oB 0 h6 o0)
theorem yEl{f d r}(h:e63 f d=some r):(match(generalizing:=false)r with|Sum.inl x=>zRF d x Ct|Sum.inr x=>zRG d x Ct):=by unfold e63 at h;obtain⟨r1,h2,h⟩:=wS h;rcases w9 h with⟨h3,h⟩|⟨h3,h⟩;obtain⟨x4,h5,h⟩:=wS h;rcases r with y0|y1;exact zXn (tH q63 1 [] [0] [] [0,4,13,14] (oD (dE d)<|oD (dC x4)<|oM 2 (zQD h5)<|oK 0 [] h3 (c62 _ h2) o0) (zRH _ _ _ _ _ _ h));exact yBY (tH q63 1 [] [0] [] [0,4,13,14] (oD (dE d)<|oD (dC x4)<|oM 2 (zQD h5)<|oK 0 [] h3 (c62 _ h2) o0) (zRH _ _ _ _ _ _ h));obtain rfl:=sj h;exact zXn (tF q63 1 [] (oD (dC ([]:sA))<|oK 0 [] h3 (c62 _ h2) o0))
theorem yEk{f d r}(h:e63 f d=some r):(match(generalizing:=false)r with|Sum.inl x=>CT prog 63 [] [zN xA d .no] (.tup [.sl (zC pX x.1) x.1.length .no,ai x.2]) [] 0|Sum.inr x=>CT prog 63 [] [zN xA d .no] (.tup [.sl (zC pX x.1) x.1.length .no,ai x.2]) [] 0):=by
 have k:=yEl h;rcases r with y0|y1;·exact k
 ·exact CT.freeze (H1:=[]) (cs:=zC pX y1.1) (res':=(.tup [.sl (zC pX y1.1) y1.1.length .no,ai y1.2])) k (Nat.le_of_ble_eq_true rfl) yN (dC _) ⟨(.inl ⟨rfl,rfl⟩),trivial,tv⟩ (by rfl) rfl
theorem c63{f d}:Cz (e63 f d) 63 [] [zN xA d .no] (Sum.elim (λx=>.tup [.sl (zC pX x.1) x.1.length .no,ai x.2]) (λx=>.tup [.sl (zC pX x.1) x.1.length .no,ai x.2])) (Sum.elim (λ_=>[]) (λ_=>[])) 0:=λr h=>by have k:=yEk h;rcases r with _|_<;>exact k
theorem zJR{t:Tm}{n:Int}(h:(uY t n).2.2≠0):(uY t n).2.1=zT/\(uY t n).1=[]:=by
 unfold uY at h⊢;split
 ·split;·exact⟨rfl,rfl⟩
  ·split;·exact⟨rfl,rfl⟩
   ·rename_i h1 h2 h3;rw[if_pos h1,if_neg h2,if_neg h3]at h;cases hr:mM n.toNat t with|none=>exact⟨rfl,rfl⟩|some r=>rw[hr]at h;exact absurd rfl h
 ·exact⟨rfl,rfl⟩
theorem zVw:zF (λq=>B9 q zT) (yK zT,xF zT):=by simp only[B9,B8];refine zF.bind (a:=.inr ([],zT)) (zF.succ ?_) (zF.ret.eq (by rw[gF (by decide),mX (by decide)];rfl));simp only[tU];exact zF.ifF rfl ((zQS [] (by simp)).bind (zF.pure (a:=[]) rfl zF.ret))
theorem zDx(t:Tm):zF (λq=>B9 q (xG t).2.1) (yK (xG t).2.1,xF (xG t).2.1):=by
 by_cases h:(xG t).2.2=0;·have hw:=pK (t:=t) (l:=(xG t).1) (y:=(xG t).2.1) (by rw[<-h]);exact kD _ hw.2.2.2.2.1
 ·have:=(zJR (t:=t) (n:=((min (uJ t) 25:Nat):Int)) h).1;have e:(xG t).2.1=zT:=this;rw[e];exact zVw
def zCj(l:List yI)(t:Tm)(of b:Int):qJ:=if(xG t).2.2=0/\pY (xG t).2.1 of (yA l of).pars (yA l of).inds (b+(xG t).1.length)=true then qJ.mk true (xG t).1 ((xF (xG t).2.1).drop (yA l of).pars.toNat)else qJ.mk false [] []
theorem qC{α:Type}{L:List α}{n:Int}(h0:0<=n)(h1:n<=L.length):mU L n (L.length:Int)=some (L.drop n.toNat):=by unfold mU;rw[if_pos ⟨h0,h1,by omega⟩];congr 1;exact List.take_of_length_le (by simp;omega)
theorem aW{t:Tm}{of pars more b:Int}(h:pY t of pars more b=true):(yK t).k=6/\(yK t).n=of/\((xF t).length:Int)=pars+more:=by unfold pY at h;simp only[Bool.and_eq_true,beq_iff_eq]at h;exact⟨h.1.1.1,h.1.1.2,h.1.2⟩
theorem zYI(l:List yI)(t:Tm)(of b:Int)(ho:t.Ok)(h0:0<=of)(h1:of<l.length)(hp:0<=(yA l of).pars/\0<=(yA l of).inds/\(yA l of).pars+(yA l of).inds<=24)(hb:0<=b/\b<=1048576):zF (λq=>zVx q l t of b) (zCj l t of b):=by
 simp only[zVx];refine(K4 t ho).bind ((zDx t).bind ?_);unfold zCj;by_cases a1:(xG t).2.2=0
 ·have hw:=pK (t:=t) (l:=(xG t).1) (y:=(xG t).2.1) (by rw[<-a1]);refine zF.ifF (by simp[a1]) ?_;have hlen:=hw.2.2.1;rw[yS (x:=b+((xG t).1.length:Int)) (by omega) (by omega)];have ha:=C1 (xG t).2.1 of (yA l of).pars (yA l of).inds (b+(xG t).1.length) hw.2.2.2.2.1 (by omega) (by omega) (by omega);by_cases a2:pY (xG t).2.1 of (yA l of).pars (yA l of).inds (b+(xG t).1.length)=true
  ·have hs:=aW a2;rw[if_pos ⟨a1,a2⟩];refine zF.ifF (by simp[hs.1]) (zF.ifF (by simp[hs.2.1]) (zF.pure (yT h0 h1) (ha.bind (zF.ifT a2 (zF.pure (qC hp.1 (by show _<=((xF (xG t).2.1).length:Int);omega)) ?_)))));have hal:=sB _ (zL hw.2.2.2.2.1).2.2;have hn:=(zL hw.2.2.2.2.1).1;refine zF.bind (a:=(xF (xG t).2.1).drop (yA l of).pars.toNat) (zF.mk λq=>(yF (by simp<;>omega)).trans (by simp)) zF.ret
  ·rw[if_neg (λh=>a2 h.2)];refine zF.iff (λ_=>zF.ret) λ_=>zF.iff (λ_=>zF.ret) λ_=>zF.pure (yT h0 h1) (ha.bind (zF.ifF (by simpa using a2) zF.ret))
 ·rw[if_neg (λh=>a1 h.1)];exact zF.ifT (by simp[a1]) zF.ret
def kH(l:List yI)(of:Int):List Tm->Int->List qJ|[],_=>[]|a::r,b=>zCj l a of b::kH l of r (b+1)
theorem R5(l:List yI)(of:Int):∀(r:List Tm)(b:Int),(kH l of r b).length=r.length|[],_=>rfl|a::r,b=>congrArg (·+1) (R5 l of r (b+1))
def vN(l:List yI)(i:Int):tZ:=tZ.mk ((xG (yA l i).type).1.drop (yA l i).pars.toNat) ((xF (xG (yA l i).type).2.1).drop (yA l i).pars.toNat) (kH l (yA l i).fam ((xG (yA l i).type).1.drop (yA l i).pars.toNat) (yA l i).pars)
theorem zDw(l:List yI)(x:yI)(A I:List Tm)(hA:∀t∈A,t.Ok)(hl:A.length<=24)(h0:0<=x.fam)(h1:x.fam<l.length)(hp:0<=(yA l x.fam).pars/\0<=(yA l x.fam).inds/\(yA l x.fam).pars+(yA l x.fam).inds<=24)(hb:0<=x.pars/\x.pars<=24):∀(r:List Tm)(v:Nat)(acc:List qJ),A.drop v=r->acc.length<=v->zF (λq=>R4 q l x A I (v:Int) acc) (tZ.mk A I (acc++kH l x.fam r (x.pars+v)))
 |[],v,acc,hd,ha=>by refine zF.succ ?_;simp only[R4];exact zF.ifF (zY hd) (zF.ret.eq (by simp[kH]))|t::r,v,acc,hd,ha=>by
  have hlt:=yC hd;have ht:t∈A:=by
   have:t∈A.drop v:=by rw[hd];simp
   exact List.mem_of_mem_drop this
  refine zF.succ ?_;simp only[R4];rw[yS (x:=x.pars+v) (by omega) (by omega)];refine zF.ifT (zX hd) (zF.pure (zV hd) ((zYI l t x.fam (x.pars+v) (hA t ht) h0 h1 hp (by omega)).bind (zF.pure (yF (by simp<;>omega)) ?_)));rw[zU v (by omega)];refine(zDw l x A I hA hl h0 h1 hp hb r (v+1) _ (zR hd) (by simp<;>omega)).eq ?_;rw[kH,show x.pars+((v+1:Nat):Int)=x.pars+v+1 by omega];simp
theorem uF{N:ByteArray->Bool}{l:List yI}{i:Int}(hE:vA N l)(h0:0<=i)(h1:i<l.length)(hk:(yA l i).kind=2):∃(A:List Tm)(y:Tm),xG (yA l i).type=(A,y,0)/\zG y=true/\(∀t∈A,zG t=true)/\A.length=uJ (yA l i).type/\A.length<=24/\0<=(yA l i).pars/\(yA l i).pars<=A.length/\0<=(yA l i).fam/\(yA l i).fam<i/\(yA l (yA l i).fam).kind=1/\(yA l i).pars=(yA l (yA l i).fam).pars/\0<=(yA l (yA l i).fam).inds/\(yA l (yA l i).fam).pars+(yA l (yA l i).fam).inds<=24/\pY y (yA l i).fam (yA l i).pars (yA l (yA l i).fam).inds A.length=true/\0<=(yA l i).place/\(yA l i).place<(yA l (yA l i).fam).cons.length:=by
 have hc:=(xS (hE.2 i h0 h1)).2.2.1 hk;unfold zJM at hc;simp only[Bool.and_eq_true,beq_iff_eq,decide_eq_true_eq]at hc;obtain⟨a1,a2,a3,a4⟩:=hc;have ho:=pL a1;have hf:=uC ((xS (hE.2 _ ho.1 (by omega))).2.1 ho.2.2.1);have hw:=pK (t:=(yA l i).type) (l:=(xG (yA l i).type).1) (y:=(xG (yA l i).type).2.1) (by rw[<-a2]);have hown:zAA l (yA l i)=(yA l (yA l i).fam).cons:=by unfold zAA;rw[if_neg (by omega)]
 have h6:=ho.2.2.2.2.2;rw[hown]at h6;exact⟨_,_,by rw[<-a2],hw.2.2.2.2.1,hw.2.2.2.2.2,hw.2.1,hw.2.2.1,by omega,a3,ho.1,ho.2.1,ho.2.2.1,ho.2.2.2.1,hf.2.1,hf.2.2.1,a4,ho.2.2.2.2.1,h6⟩
theorem yB{t:Tm}(h:zG t=true):t.Ok:=pB t (zL h).2.2
theorem zGY{N:ByteArray->Bool}(l:List yI)(i:Int)(hE:vA N l)(h0:0<=i)(h1:i<l.length)(hk:(yA l i).kind=2)(he:∀e∈l,jM e):zF (λq=>e92 q l i) (vN l i):=by simp only[e92];obtain⟨A,y,hw,hy,hA,hAp,hA24,p0,p1,f0,f1,fk,fp,fi,fs,hap,-,-⟩:=uF hE h0 h1 hk;have hsp:=aW hap;refine zF.pure (yT h0 h1) ((K4 _ (he _ (nS h0 h1)).1).bind ((zDx _).bind ?_));unfold vN;rw[hw];have hal:=sB _ (zL hy).2.2;have hn:=(zL hy).1;refine zF.pure (qC p0 p1) (zF.pure (qC p0 (by show _<=((xF y).length:Int);omega)) (zF.bind (a:=(xF y).drop (yA l i).pars.toNat) (zF.mk λq=>(yF (by simp<;>omega)).trans (by simp)) ?_));refine(zDw l (yA l i) (A.drop (yA l i).pars.toNat) ((xF y).drop (yA l i).pars.toNat) (λt ht=>yB (hA t (List.mem_of_mem_drop ht))) (by simp;omega) f0 (by omega) (by omega) (by omega) _ 0 [] rfl (by simp)).eq ?_;simp
def kK(l:List yI):Nat->Nat->List tZ|0,_=>[]|m+1,v=>(if(yA l v).kind=2 then vN l v else default)::kK l m (v+1)
theorem zLR(l:List yI):∀(m v j:Nat),j<m->(kK l m v)[j]?=some (if(yA l ((v+j:Nat):Int)).kind=2 then vN l ((v+j:Nat):Int)else default)|m+1,v,0,_=>by simp[kK]|m+1,v,j+1,h=>by rw[kK,List.getElem?_cons_succ,zLR l m (v+1) j (by omega),show v+1+j=v+(j+1)by omega]
theorem zOp{N:ByteArray->Bool}(l:List yI)(x4:List tZ)(hx:x4.length=l.length)(hE:vA N l)(he:∀e∈l,jM e):∀(m v:Nat)(acc:List tZ),v+m=l.length->acc.length=v->zF (λq=>eP q l x4 (v:Int) (acc++List.replicate m default)) (.inr (acc++kK l m v,0)):=by intro m;induction m with|zero=>intro v acc hm ha;refine zF.succ ?_;simp only[eP];refine zF.ifF (decide_eq_false (by omega)) (zF.pure (a:=acc++List.replicate 0 default) (by unfold I9;rw[if_pos (by simp;omega)]) (zF.ret.eq (by simp[kK])))|succ m ih=>
 intro v acc hm ha;refine zF.succ ?_;simp only[eP];refine zF.ifT (decide_eq_true (by omega)) (zF.pure (yT (by omega) (by omega)) ?_);have hl:=hE.1;rw[zU v (by omega),kK];by_cases k:(yA l v).kind=2
 ·rw[if_pos k];refine zF.ifT (by simp[k]) ((zGY l v hE (by omega) (by omega) k he).bind ?_);refine zF.pure (a:=v) (by unfold oT;rw[if_pos (by omega)];simp) ?_;refine zF.pure (a:=acc++vN l v::List.replicate m default) ?_ ?_;·unfold jF;rw[if_pos (by simp;omega),List.set_append_right _ _ (by omega),show v-acc.length=0 by omega,List.replicate_succ];rfl
  ·have:=ih (v+1) (acc++[vN l v]) (by omega) (by simp;omega);simpa using this
 ·rw[if_neg k];refine zF.ifF (by simp[k]) ?_;have:=ih (v+1) (acc++[default]) (by omega) (by simp;omega);rw[List.replicate_succ];simpa using this
def e45(a:Nat)(b:xH):Option ((Int)⊕(Int×xH×sA)):=e46 a b>>=λr1=>s5 a b>>=λr3=>if r3 then e63 a r1>>=λr6=>match r6 with|Sum.inl y8=>if y8.2 !=0 then some (Sum.inl y8.2)else some (Sum.inr (0,r1,y8.1))|Sum.inr y10=>if y10.2 !=0 then some (Sum.inl y10.2)else some (Sum.inr (0,r1,y10.1))else some (Sum.inl 5)
theorem c45{a b}:Cz (e45 a b) 45 [] [zN xA b .no] (Sum.elim (λx=>.tup [.val (.pointer none),ai x]) (λx=>.tup [.mp 0 0,ai x.1])) (Sum.elim (λ_=>[]) (λx=>[.cells [zN xA x.2.1 .no,zN pX x.2.2 .no]])) 0:=fw func45<|rC 0 [] c46 λ_=>rK 0 [] c62 (λ_=>rC 1 [] c63<|sD (λ_=>rB 2 (fE 0)<|fF 0 [0]) λ_=>rB 2 (fE 0)<|fF 0 [0]) λ_=>fE 1
mutual def gI:Nat->xH->(Int×xH×sA)->Int->xH->yD->yD->Option ((Int)⊕(Int×xH×yD×yD×xH×sA))
 |0,_,_,_,_,_,_=>none|p+1,e,y3,d,a,b,c=>if decide (d<(e.length:Int))then zS e d>>=λx8=>if x8.kind==1 then yX 8 b [(xC ((xC ((xC (x8.pars+2))+(x8.cons.length:Int)))+x8.inds))]>>=λl11=>yX 8 c [0]>>=λl13=>gI p e y3 (xC (d+1)) a l11 l13 else if x8.kind==2 then R6 p e y3 d a b c 0 x8.type.k x8.type.n x8.type.sub else yX 8 b [0]>>=λl16=>yX 8 c [0]>>=λl18=>gI p e y3 (xC (d+1)) a l16 l18 else some (Sum.inr (0,a,b,c,y3.2.1,y3.2.2))def R6:Nat->xH->(Int×xH×sA)->Int->xH->yD->yD->Int->Int->Int->yU->Option ((Int)⊕(Int×xH×yD×yD×xH×sA))|0,_,_,_,_,_,_,_,_,_,_=>none|p+1,e,y3,d,a,b,c,q,f,m,g=>if f==3 then zS g 1>>=λx17=>R6 p e y3 d a b c (xC (q+1)) x17.k x17.n x17.sub else yX 8 b [0]>>=λl19=>yX 8 c [q]>>=λl21=>gI p e y3 (xC (d+1)) a l19 l21 end
def e29(p:Nat)(e:xH):Option ((Int)⊕(Int×xH×yD×yD×xH×sA)):=e45 p e>>=λr1=>match r1 with|Sum.inl y7=>if y7 !=0 then some (Sum.inl y7)else none|Sum.inr y3=>if y3.1 !=0 then some (Sum.inl y3.1)else e46 p e>>=λr5=>gI p e y3 0 r5 [] []
theorem zEN:∀p:Nat,(∀e y3 d a b c,Lz (gI p e y3 d a b c) 0 f29 (pt 65461 f29) (λj=>sp j 81 0 [(6,.mp 0 0),(25,zN xA e .no),(26,ai (e.length:Int)),(27,ai d)]) ⟨[(0,.cells [zN xA a .no,.mp 1 0,zN zZ b (.st 0 1),zN zZ c (.st 1 1)]),(1,.cells [zN xA y3.2.1 .no,zN pX y3.2.2 .no])],2,[0,1],2,[]⟩ (Sum.elim (λx=>.tup [.val (.pointer none),ai x]) (λx=>.tup [.mp 0 0,ai x.1])) (Sum.elim (λ_=>[]) (λx=>[.cells [zN xA x.2.1 .no,.mp 1 0,zN zZ x.2.2.1 .no,zN zZ x.2.2.2.1 .no],.cells [zN xA x.2.2.2.2.1 .no,zN pX x.2.2.2.2.2 .no]])) 0 [.blk 0,.seq (pt 1023 f29)])/\(∀e y3 d a b c q f m g,Lz (R6 p e y3 d a b c q f m g) 0 f29 (pt 281157048172469 f29) (λj=>sp j 81 0 [(6,.mp 0 0),(9,ai 0),(10,ai q),(11,.mp 1 0),(25,zN xA e .no),(26,ai (e.length:Int)),(27,ai d)]) ⟨[(0,.cells [zN xA a .no,.mp 2 0,zN zZ b (.st 0 1),zN zZ c (.st 1 1)]),(1,.cells [ai f,ai m,zN zA g .no]),(2,.cells [zN xA y3.2.1 .no,zN pX y3.2.2 .no])],3,[0,1],2,[]⟩ (Sum.elim (λx=>.tup [.val (.pointer none),ai x]) (λx=>.tup [.mp 0 0,ai x.1])) (Sum.elim (λ_=>[]) (λx=>[.cells [zN xA x.2.1 .no,.mp 1 0,zN zZ x.2.2.1 .no,zN zZ x.2.2.2.1 .no],.cells [zN xA x.2.2.2.2.1 .no,zN pX x.2.2.2.2.2 .no]])) 0 [.blk 3,.blk 2,.seq (pt 1072529023 f29),.blk 1,.seq (pt 4189567 f29),.loop (pt 65461 f29),.blk 0,.seq (pt 1023 f29)]):=xX ⟨λ_ _ _ _ _ _=>lN,λ_ _ _ _ _ _ _ _ _ _=>lN⟩ λp ih=>⟨λe y3 d a b c=>lw λ_=>rB 0 (rA 0 (wM (o:=.no)) λ_=>rB 3 (rW (λh12=>oP 9 (qO h12 (by simp))) λ_=>rW (λh14=>oP 2 (qO h14 (by simp))) λ_=>lH 3 [] [0,1] [2,3] [6,25,26,27] (ih.1 _ _ _ _ _ _))<|rB 0 (lH 2 [] [0,3,1] [0,1] [6,9,10,11,25,26,27] (ih.2 _ _ _ _ _ _ _ _ _ _))<|rW (λh17=>oP 2 (qO h17 (by simp))) λ_=>rW (λh19=>oP 2 (qO h19 (by simp))) λ_=>lH 3 [] [0,1] [2,3] [6,25,26,27] (ih.1 _ _ _ _ _ _))<|lF 0 [0,1],λe y3 d a b c q f m g=>lw λ_=>rB 1 (rA 4 (xP (o:=.no)) λ_=>lH 2 [] [0,3,2] [0,1] [6,9,10,11,25,26,27] (ih.2 _ _ _ _ _ _ _ _ _ _))<|rW (λh20=>oP 2 (qO h20 (by simp))) λ_=>rW (λh22=>oP 2 (qO h22 (by simp))) λ_=>lH 3 [] [0,2] [2,3] [6,25,26,27] (ih.1 _ _ _ _ _ _)⟩
theorem c29{p e}:Cz (e29 p e) 29 [] [zN xA e .no] (Sum.elim (λx=>.tup [.val (.pointer none),ai x]) (λx=>.tup [.mp 0 0,ai x.1])) (Sum.elim (λ_=>[]) (λx=>[.cells [zN xA x.2.1 .no,.mp 1 0,zN zZ x.2.2.1 .no,zN zZ x.2.2.2.1 .no],.cells [zN xA x.2.2.2.2.1 .no,zN pX x.2.2.2.2.2 .no]])) 0:=fw func29<|rC 0 [] c45<|sD (λ_=>rB 2 (fE 0) rN) λ_=>rB 2 (fE 0)<|rC 0 [] c46 λ_=>fH 1 [(some 1,2,1),(some 1,3,1)] [1,0] [0,1] [6,25,26,27] (((zEN _).1) _ _ _ _ _ _)
theorem zRI{N:ByteArray->Bool}(l:List yI)(hf:zF (λq=>s5 q l) true)(hE:vA N l)(he:∀e∈l,jM e):zF (λq=>e63 q l) (.inr (kK l l.length 0,0)):=by
 simp only[e63];have hl:=hE.1;refine hf.bind (zF.ifT rfl (zF.pure (a:=List.replicate l.length default) ?_ ?_));·unfold gmk;rw[if_pos (by omega)];rfl
 ·exact(zOp l (List.replicate l.length default) (by simp) hE he l.length 0 [] (by omega) rfl).eq (by simp)
def zJS(l:List yI)(b:Bool):(Int)⊕(Int×List yI×List tZ):=if b=true then .inr (0,l,kK l l.length 0)else .inl 5
theorem zVv(N:ByteArray->Bool)(hN:cW N)(l:List yI)(hl:l.length<=65535)(he:∀e∈l,jM e)(hc:∀e∈l,ECl e):∃b,zF (λq=>s5 q l) b/\(b=true->vA N l)/\zF (λq=>e45 q l) (zJS l b):=by
 obtain⟨d,-,hd⟩:=zOs N hN l hl he;refine⟨_,hd,K6,?_⟩;simp only[e45];refine(eO l hl he hc).bind (hd.bind ?_);unfold zJS;by_cases h:K5 N d l=true
 ·rw[if_pos h];have hA:=K6 h;rw[iB hA];refine zF.ifT h ((zRI l (hd.eq h) hA he).bind ?_);exact zF.ifF (by simp) zF.ret
 ·rw[if_neg h];exact zF.ifF (by simpa using h) zF.ret
theorem zDv(t:Tm)(hg:xQ t=true):uJ t<=t.nodes:=by
 have key:∀(m:Nat)(t:Tm),t.nodes<=m->xQ t=true->uJ t<=t.nodes:=by intro m;induction m with|zero=>intro t h;have:=vR t;omega|succ m ih=>
  intro t hm hg;by_cases k:t.k=3
  ·obtain⟨x,y,e,hx,hy⟩:=nR hg k;rw[e]at hm⊢;rw[gH];rw[Tm.nodes,yW,yW,yW]at hm⊢;have:=vR x;have:=ih y (by omega) hy;omega
  ·rw[zAf k];omega
 exact key t.nodes t (Nat.le_refl _) hg
def wZ(e:yI):Int:=if e.kind=1 then e.pars+2+e.cons.length+e.inds else 0
def qD(e:yI):Int:=if e.kind=2 then(uJ e.type:Int)else 0
theorem zVu(l:List yI)(y3:Int×List yI×List tZ)(v27:Int)(vb:List yI)(a o:List Int)(r:(Int)⊕(Int×List yI×List Int×List Int×List yI×List tZ))(ha:a.length<=65535)(ho:o.length<=65535)(tot:Int)(ht:tot<=4611686018427387904)(hk:zF (λq=>gI q l y3 (xC (v27+1)) vb (a++[0]) (o++[tot])) r):∀(t:Tm)(v:Int),xQ t=true->0<=v->v+uJ t=tot->zF (λq=>R6 q l y3 v27 vb a o v t.k t.n t.sub) r:=by
 have key:∀(m:Nat)(t:Tm)(v:Int),t.nodes<=m->xQ t=true->0<=v->v+uJ t=tot->zF (λq=>R6 q l y3 v27 vb a o v t.k t.n t.sub) r:=by intro m;induction m with|zero=>intro t v h;have:=vR t;omega|succ m ih=>
  intro t v hm hg h0 hv;refine zF.succ ?_;simp only[R6];by_cases k:t.k=3
  ·obtain⟨x,y,e,hx,hy⟩:=nR hg k;rw[e]at hv hm⊢;rw[gH]at hv;refine zF.ifT (by simp[Tm.k]) (zF.pure (a:=y) (by simp[zS,Tm.sub]) ?_);rw[yS (x:=v+1) (by omega) (by omega)];refine ih y (v+1) ?_ hy (by omega) (by omega);rw[Tm.nodes,yW,yW,yW]at hm;have:=vR x;omega
  ·rw[zAf k]at hv;refine zF.ifF (by simp[k]) (zF.pure (yF (by simp<;>omega)) (zF.pure (yF (by simp<;>omega)) ?_));rw[show v=tot by omega];exact hk
 exactλt v=>key t.nodes t v (Nat.le_refl _)
theorem K7{N:ByteArray->Bool}(l vb:List yI)(y3:Int×List yI×List tZ)(hE:vA N l):∀(r:List yI)(v:Nat)(a o:List Int),l.drop v=r->a.length<=v->o.length<=v->zF (λq=>gI q l y3 (v:Int) vb a o) (.inr (0,vb,a++r.map wZ,o++r.map qD,y3.2.1,y3.2.2))
 |[],v,a,o,hd,ha,ho=>by refine zF.succ ?_;simp only[gI];exact zF.ifF (zY hd) (zF.ret.eq (by simp))|x::r,v,a,o,hd,ha,ho=>by
  have hlt:=yC hd;have hl:=hE.1;have hx:yA l v=x:=by have h1:=zV hd;rw[yT (by omega) (by omega)]at h1;exact Option.some.inj h1
  have hs:=xS (hE.2 v (by omega) (by omega));rw[hx]at hs;refine zF.succ ?_;simp only[gI];refine zF.ifT (zX hd) (zF.pure (zV hd) ?_);by_cases k1:x.kind=1
  ·have hf:=uC (hs.2.1 k1);rw[hx]at hf;rw[yS (x:=x.pars+2) (by omega) (by omega),yS (x:=x.pars+2+x.cons.length) (by omega) (by omega),yS (x:=x.pars+2+x.cons.length+x.inds) (by omega) (by omega),zU v (by omega)];refine zF.ifT (by simp[k1]) (zF.pure (yF (by simp<;>omega)) (zF.pure (yF (by simp<;>omega)) ?_));refine(K7 l vb y3 hE r (v+1) _ _ (zR hd) (by simp<;>omega) (by simp<;>omega)).eq ?_;simp[wZ,qD,k1]
  ·refine zF.ifF (by simp[k1]) ?_;by_cases k2:x.kind=2
   ·refine zF.ifT (by simp[k2]) ?_;have hsh:=(zL (rM hs.1));have hp:uJ x.type<=8192:=Nat.le_trans (zDv x.type hsh.2.2) hsh.1;refine zVu l y3 v vb a o _ (by omega) (by omega) (uJ x.type) (by omega) ?_ x.type 0 hsh.2.2 (by omega) (by omega);rw[zU v (by omega)];refine(K7 l vb y3 hE r (v+1) _ _ (zR hd) (by simp<;>omega) (by simp<;>omega)).eq ?_;simp[wZ,qD,k2]
   ·refine zF.ifF (by simp[k2]) (zF.pure (yF (by simp<;>omega)) (zF.pure (yF (by simp<;>omega)) ?_));rw[zU v (by omega)];refine(K7 l vb y3 hE r (v+1) _ _ (zR hd) (by simp<;>omega) (by simp<;>omega)).eq ?_;simp[wZ,qD,k1,k2]
def xI(l:List yI):xK:=xK.mk l l (kK l l.length 0) (l.map wZ) (l.map qD)
def zOo(l:List yI)(b:Bool):(Int)⊕(Int×List yI×List Int×List Int×List yI×List tZ):=if b=true then .inr (0,l,l.map wZ,l.map qD,l,kK l l.length 0)else .inl 5
theorem zVt(N:ByteArray->Bool)(hN:cW N)(l:List yI)(hl:l.length<=65535)(he:∀e∈l,jM e)(hc:∀e∈l,ECl e):∃b,zF (λq=>s5 q l) b/\(b=true->vA N l)/\zF (λq=>e29 q l) (zOo l b):=by obtain⟨b,h1,h2,h3⟩:=zVv N hN l hl he hc;refine⟨b,h1,h2,?_⟩;simp only[e29];refine h3.bind ?_;unfold zJS zOo;cases b with|false=>exact zF.ifT (by decide) zF.ret|true=>refine zF.ifF (by simp) ((eO l hl he hc).bind ?_);rw[iB (h2 rfl)];exact(K7 l l _ (h2 rfl) l 0 [] [] rfl (by simp) (by simp)).eq (by simp)
theorem iC{t:Tm}{k c:Int}(h:(tC t k c).2=0):zG t=true/\0<=k/\0<=c/\zG (aS t 0 c k)=true/\(tC t k c).1=aS t 0 c k:=by
 unfold tC at h⊢;by_cases a:zG t=true/\aT k=true/\aT c=true
 ·rw[if_pos a]at h⊢;by_cases b:zG (aS t 0 c k)=true
  ·rw[if_pos b];have a2:=a.2.1;have a3:=a.2.2;unfold aT at a2 a3;simp only[Bool.and_eq_true,decide_eq_true_eq]at a2 a3;exact⟨a.1,a2.1,a3.1,b,rfl⟩
  ·rw[if_neg b]at h;simp at h
 ·rw[if_neg a]at h;simp at h
theorem zAB(t:Tm)(k c:Int):(tC t k c).2≠8:=by
 unfold tC;split;·split<;>simp
 ·simp
mutual def siT(ls:List Tm):Tm->Int->Tm|.mk kd n l,b=>if kd=1/\b<=n then(if h:(n-b).toNat<ls.length then aS (ls[(n-b).toNat]) 0 0 b else .mk 1 (n-ls.length) [])else .mk kd n (siL ls l kd 0 b)def siL(ls:List Tm):List Tm->Int->Nat->Int->List Tm|[],_,_,_=>[]|t::l,kd,i,b=>siT ls t (wW kd i b)::siL ls l kd (i+1) b end
theorem zYK{a:Tm}{b left:Int}{long:Bool}(h:(raT a b left long).2.2=false):long=false/\(raT a b left long).1=aS a 0 0 b:=by
 unfold raT at h⊢;by_cases h1:left-szT a 0<0;·rw[if_pos h1]at h;simp at h
 ·rw[if_neg h1]at h⊢;by_cases h2:(tC a b 0).2≠0;·rw[if_pos h2]at h;simp at h
  ·rw[if_neg h2]at h⊢;exact⟨h,(iC (by simpa using h2)).2.2.2.2⟩
theorem zRK(ls:List Tm):∀(t:Tm)(b left:Int),(G3 ls t b left true).2.2=true|.mk kd n l,b,left=>by rw[G3,if_pos rfl]
mutual theorem zRL(ls:List Tm):∀(t:Tm)(b left:Int)(long:Bool),(G3 ls t b left long).2.2=false->long=false/\(G3 ls t b left long).1=siT ls t b
 |.mk kd n l,b,left,long,h=>by cases long with|true=>rw[zRK]at h;cases h|false=>
  refine⟨rfl,?_⟩;rw[G3,if_neg (by simp)]at h⊢;rw[siT];by_cases h1:kd=1/\b<=n
  ·rw[if_pos h1]at h;rw[if_pos h1,if_pos h1];by_cases h2:(n-b).toNat<ls.length
   ·rw[dif_pos h2]at h;rw[dif_pos h2,dif_pos h2];exact(zYK h).2
   ·rw[dif_neg h2,dif_neg h2]
  ·rw[if_neg h1]at h;rw[if_neg h1,if_neg h1];exact congrArg (Tm.mk kd n) (zRM ls l kd 0 b (left-1) (decide (left-1<0)) h).2 theorem zRM(ls:List Tm):∀(l:List Tm)(kd:Int)(i:Nat)(b left:Int)(long:Bool),(X2 ls l kd i b left long).2.2=false->long=false/\(X2 ls l kd i b left long).1=siL ls l kd i b|[],kd,i,b,left,long,h=>by rw[X2]at h⊢;rw[siL];exact⟨h,rfl⟩|t::l,kd,i,b,left,long,h=>by rw[X2]at h⊢;have k:=zRM ls l kd (i+1) b (G3 ls t (wW kd i b) left long).2.1 (G3 ls t (wW kd i b) left long).2.2 h;have k2:=zRL ls t (wW kd i b) left long k.1;refine⟨k2.1,?_⟩;show(G3 ls t (wW kd i b) left long).1::(X2 ls l kd (i+1) b (G3 ls t (wW kd i b) left long).2.1 (G3 ls t (wW kd i b) left long).2.2).1=_;rw[k2.2,k.2,siL]end
theorem s6{t:Tm}{ls:List Tm}(h:(eM t ls).2=0):zG t=true/\ls.all zG=true/\zG (siT ls t 0)=true/\(eM t ls).1=siT ls t 0:=by
 unfold eM at h⊢;by_cases a:zG t=true/\ls.all zG=true
 ·rw[if_pos a]at h⊢;by_cases b:(G3 ls t 0 8192 false).2.2=true;·rw[if_pos b]at h;simp at h
  ·rw[if_neg b]at h⊢;have e:=(zRL ls t 0 8192 false (by simpa using b)).2;rw[e]at h⊢;by_cases c:zG (siT ls t 0)=true;·rw[if_pos c];exact⟨a.1,a.2,c,rfl⟩
   ·rw[if_neg c]at h;simp at h
 ·rw[if_neg a]at h;simp at h
theorem zLS(t:Tm)(ls:List Tm):(eM t ls).2≠8:=by
 unfold eM;split
 ·split;·simp
  ·split<;>simp
 ·simp
mutual def xV(P:Int->Int->Prop):Tm->Prop|.mk k n l=>(k=1\/P k n)/\vC P l def vC(P:Int->Int->Prop):List Tm->Prop|[]=>True|t::l=>xV P t/\vC P l end
section
variable{P:Int->Int->Prop}
theorem zEO{k n:Int}{a b:Tm}(h:k=1\/P k n)(ha:xV P a)(hb:xV P b):xV P (.mk k n [a,b]):=by rw[xV,vC,vC,vC];exact⟨h,ha,hb,trivial⟩
theorem zYL{k n:Int}{a:Tm}(h:k=1\/P k n)(ha:xV P a):xV P (.mk k n [a]):=by rw[xV,vC,vC];exact⟨h,ha,trivial⟩
theorem eQ{k n:Int}(h:k=1\/P k n):xV P (.mk k n []):=by rw[xV,vC];exact⟨h,trivial⟩
mutual theorem cX:∀(t:Tm)(b c k:Int),xV P t->xV P (aS t b c k)
 |.mk kd n l,b,c,k,h=>by
  rw[xV]at h;rw[aS];split;·exact eQ (.inl rfl)
  ·rw[xV];exact⟨h.1,zGZ l kd 0 b c k h.2⟩theorem zGZ:∀(l:List Tm)(kd:Int)(i:Nat)(b c k:Int),vC P l->vC P (u9 l kd i b c k)|[],_,_,_,_,_,_=>by rw[u9,vC];trivial|t::l,kd,i,b,c,k,h=>by rw[vC]at h;rw[u9,vC];exact⟨cX t _ c k h.1,zGZ l kd (i+1) b c k h.2⟩end
mutual theorem s7(ls:List Tm)(hls:∀a∈ls,xV P a):∀(t:Tm)(b:Int),xV P t->xV P (siT ls t b)
 |.mk kd n l,b,h=>by
  rw[xV]at h;rw[siT];split
  ·split;·exact cX _ 0 0 b (hls _ (List.getElem_mem _))
   ·exact eQ (.inl rfl)
  ·rw[xV];exact⟨h.1,zHz ls hls l kd 0 b h.2⟩theorem zHz(ls:List Tm)(hls:∀a∈ls,xV P a):∀(l:List Tm)(kd:Int)(i:Nat)(b:Int),vC P l->vC P (siL ls l kd i b)|[],_,_,_,_=>by rw[siL,vC];trivial|t::l,kd,i,b,h=>by rw[vC]at h;rw[siL,vC];exact⟨s7 ls hls t _ h.1,zHz ls hls l kd (i+1) b h.2⟩end
theorem gJ:∀(l:List Tm)(f:Tm),P 5 0->xV P f->(∀a∈l,xV P a)->xV P (mA f l)|[],f,_,hf,_=>by rw[mA];exact hf|a::l,f,h5,hf,hl=>by rw[mA];exact gJ l _ h5 (zEO (.inr h5) hf (hl a (by simp))) λx hx=>hl x (by simp[hx])
theorem nG:∀t:Tm,xQ t=true->xV P t->xV P (yK t)/\∀a∈xF t,xV P a:=by
 refine cJ ?_ ?_
 ·intro t hg hk h;rw[gF hk,mX hk];exact⟨h,λx hx=>by cases hx⟩
 ·intro n a b hg ha hb ih h;rw[cI,kZ];rw[xV,vC,vC,vC]at h;refine⟨(ih h.2.1).1,λx hx=>?_⟩;rcases List.mem_append.1 hx with hx|hx;·exact(ih h.2.1).2 x hx
  ·rw[List.mem_singleton.1 hx];exact h.2.2.1
theorem K8:∀(n:Nat)(t:Tm)(r:List Tm×Tm),xQ t=true->mM n t=some r->xV P t->xV P r.2/\∀x∈r.1,xV P x
 |0,t,r,hg,h,ha=>by rw[mM]at h;cases h;exact⟨ha,λx hx=>by cases hx⟩|n+1,t,r,hg,h,ha=>by
  by_cases h3:t.k=3
  ·obtain⟨a,b,hx,hga,hgb⟩:=nR hg h3;rw[hx]at h ha;rw[cQ]at h;obtain⟨r',h1,rfl⟩:=Option.map_eq_some_iff.1 h;rw[xV,vC,vC,vC]at ha;have ih:=K8 n b r' hgb h1 ha.2.2.1;refine⟨ih.1,λx hx=>?_⟩;rcases List.mem_cons.1 hx with rfl|hx;·exact ha.2.1
   ·exact ih.2 x hx
  ·rw[eN h3]at h;cases h
end
mutual theorem R7{P Q R:Int->Int->Prop}(h:∀k n,P k n->Q k n->R k n):∀t:Tm,xV P t->xV Q t->xV R t
 |.mk k n l,hp,hq=>by
  rw[xV]at hp hq⊢;refine⟨?_,zAC h l hp.2 hq.2⟩;rcases hp.1 with h1|h1;·exact .inl h1
  ·rcases hq.1 with h2|h2;·exact .inl h2
   ·exact .inr (h k n h1 h2)theorem zAC{P Q R:Int->Int->Prop}(h:∀k n,P k n->Q k n->R k n):∀l:List Tm,vC P l->vC Q l->vC R l|[],_,_=>by rw[vC];trivial|t::l,hp,hq=>by rw[vC]at hp hq⊢;exact⟨R7 h t hp.1 hq.1,zAC h l hp.2 hq.2⟩end
theorem sL{P R:Int->Int->Prop}{t:Tm}(h:∀k n,P k n->R k n)(hp:xV P t):xV R t:=R7 (λk n a _=>h k n a) t hp hp
mutual theorem eR{a b:Int}{Q:Int->Prop}(ha:a≠1)(hb:b≠1):∀t:Tm,(∀x∈sF t a b,Q x)↔xV (λk n=>k=a\/k=b->Q n) t
 |.mk k n l=>by
  have ih:=zDu (Q:=Q) ha hb l;rw[sF,xV,<-ih];constructor
  ·intro h;refine⟨?_,λx hx=>h x (List.mem_append_right _ hx)⟩;by_cases h1:k=a\/k=b;·exact .inr λ_=>h n (by rw[if_pos h1];simp)
   ·exact .inr λh2=>absurd h2 h1
  ·rintro⟨h1,h2⟩x hx;rcases List.mem_append.1 hx with hx|hx
   ·by_cases h3:k=a\/k=b
    ·rw[if_pos h3,List.mem_singleton]at hx;rcases h1 with h1|h1;·omega
     ·rw[hx];exact h1 h3
    ·rw[if_neg h3]at hx;cases hx
   ·exact h2 x hx theorem zDu{a b:Int}{Q:Int->Prop}(ha:a≠1)(hb:b≠1):∀l:List Tm,(∀x∈gD l a b,Q x)↔vC (λk n=>k=a\/k=b->Q n) l
 |[]=>by rw[gD,vC];simp|t::l=>by
  rw[gD,vC,<-eR ha hb t,<-zDu ha hb l];constructor;·intro h;exact⟨λx hx=>h x (List.mem_append_left _ hx),λx hx=>h x (List.mem_append_right _ hx)⟩
  ·rintro⟨h1,h2⟩x hx;rcases List.mem_append.1 hx with hx|hx;·exact h1 x hx
   ·exact h2 x hx end
mutual def sH:Tm->Int->List Int|.mk k n l,b=>if k=1 then(if b<=n then[n-b]else[])else lvL l k 0 b def lvL:List Tm->Int->Nat->Int->List Int|[],_,_,_=>[]|t::l,k,i,b=>sH t (wW k i b)++lvL l k (i+1) b end
theorem zHy(k:Int)(i:Nat)(d x:Int):wW k i (d+x)=wW k i d+x:=by
 unfold wW;by_cases h:i=1/\k≠5;·rw[if_pos h,if_pos h];omega
 ·rw[if_neg h,if_neg h]
theorem zLT(k:Int)(i:Nat)(d:Int):d<=wW k i d:=by unfold wW;split<;>omega
theorem qT{n b j:Int}{l:List Tm}:j∈sH (.mk 1 n l) b↔b<=n/\j=n-b:=by
 rw[sH,if_pos rfl];by_cases h:b<=n;·rw[if_pos h];simp[h]
 ·rw[if_neg h];simp[h]
theorem sI{k n b j:Int}{l:List Tm}(h:k≠1):j∈sH (.mk k n l) b↔j∈lvL l k 0 b:=by rw[sH,if_neg h]
theorem vH{t:Tm}{l:List Tm}{k b j:Int}{i:Nat}:j∈lvL (t::l) k i b↔j∈sH t (wW k i b)\/j∈lvL l k (i+1) b:=by rw[lvL,List.mem_append]
theorem pZ{k b j:Int}{i:Nat}:¬j∈lvL [] k i b:=by rw[lvL];simp
mutual theorem zAD:∀(t:Tm)(b j:Int),j∈sH t b->0<=j
 |.mk k n l,b,j,h=>by
  by_cases hk:k=1;·subst hk;have:=qT.1 h;omega
  ·exact zRN l k 0 b j ((sI hk).1 h)theorem zRN:∀(l:List Tm)(k:Int)(i:Nat)(b j:Int),j∈lvL l k i b->0<=j|[],k,i,b,j,h=>absurd h pZ|t::l,k,i,b,j,h=>(vH.1 h).elim (zAD t _ j) (zRN l k (i+1) b j)end
mutual theorem iD:∀(t:Tm)(d b j:Int),0<=b->(j∈sH t (d+b)↔0<=j/\j+b∈sH t d)
 |.mk k n l,d,b,j,hb=>by
  by_cases hk:k=1;·subst hk;rw[qT,qT];omega
  ·rw[sI hk,sI hk];exact zDt l k 0 d b j hb theorem zDt:∀(l:List Tm)(k:Int)(i:Nat)(d b j:Int),0<=b->(j∈lvL l k i (d+b)↔0<=j/\j+b∈lvL l k i d)
 |[],k,i,d,b,j,hb=>⟨λh=>absurd h pZ,λh=>absurd h.2 pZ⟩|t::l,k,i,d,b,j,hb=>by
  rw[vH,vH,zHy,iD t _ b j hb,zDt l k (i+1) d b j hb];constructor
  ·rintro(h|h);·exact⟨h.1,.inl h.2⟩
   ·exact⟨h.1,.inr h.2⟩
  ·rintro⟨h,h1|h1⟩;·exact .inl ⟨h,h1⟩
   ·exact .inr ⟨h,h1⟩end
mutual theorem zXm:∀(t:Tm)(b c k j:Int),0<=k->j∈sH (aS t b c k) b->∃i∈sH t b,j=if i<c then i else i+k
 |.mk kd n l,b,c,k,j,hk,h=>by
  rw[aS]at h;by_cases h1:kd=1
  ·subst h1;rw[if_pos rfl]at h;have h2:=qT.1 h;by_cases h3:b<=n
   ·rw[if_pos h3]at h2;exact⟨n-b,qT.2 ⟨h3,rfl⟩,by omega⟩
   ·rw[if_neg h3]at h2;omega
  ·rw[if_neg h1]at h;obtain⟨i,hi,e⟩:=zRO l kd 0 b c k j hk ((sI h1).1 h);exact⟨i,(sI h1).2 hi,e⟩theorem zRO:∀(l:List Tm)(kd:Int)(i:Nat)(b c k j:Int),0<=k->j∈lvL (u9 l kd i b c k) kd i b->∃x∈lvL l kd i b,j=if x<c then x else x+k
 |[],kd,i,b,c,k,j,hk,h=>by rw[u9]at h;exact absurd h pZ|t::l,kd,i,b,c,k,j,hk,h=>by
  rw[u9]at h;rcases vH.1 h with h|h;·obtain⟨x,hx,e⟩:=zXm t _ c k j hk h;exact⟨x,vH.2 (.inl hx),e⟩
  ·obtain⟨x,hx,e⟩:=zRO l kd (i+1) b c k j hk h;exact⟨x,vH.2 (.inr hx),e⟩end
mutual theorem zHx:∀(t:Tm)(d k j:Int),0<=k->j∈sH (aS t d 0 k) (d+k)->j∈sH t d
 |.mk kd n l,d,k,j,hk,h=>by
  rw[aS]at h;by_cases h1:kd=1
  ·subst h1;rw[if_pos rfl]at h;have h2:=qT.1 h;by_cases h3:d<=n
   ·rw[if_pos h3,if_neg (by omega)]at h2;exact qT.2 ⟨h3,by omega⟩
   ·rw[if_neg h3]at h2;omega
  ·rw[if_neg h1]at h;exact(sI h1).2 (zRP l kd 0 d k j hk ((sI h1).1 h))theorem zRP:∀(l:List Tm)(kd:Int)(i:Nat)(d k j:Int),0<=k->j∈lvL (u9 l kd i d 0 k) kd i (d+k)->j∈lvL l kd i d
 |[],kd,i,d,k,j,hk,h=>by rw[u9]at h;exact absurd h pZ|t::l,kd,i,d,k,j,hk,h=>by
  rw[u9]at h;rcases vH.1 h with h|h
  ·rw[zHy]at h;exact vH.2 (.inl (zHx t _ k j hk h))
  ·exact vH.2 (.inr (zRP l kd (i+1) d k j hk h))end
mutual theorem zRQ(ls:List Tm):∀(t:Tm)(b j:Int),0<=b->j∈sH (siT ls t b) b->∃i∈sH t b,((ls.length:Int)<=i/\j=i-ls.length)\/∃h:i.toNat<ls.length,j∈sH ls[i.toNat] 0
 |.mk kd n l,b,j,hb,h=>by
  rw[siT]at h;by_cases h1:kd=1/\b<=n
  ·rw[if_pos h1]at h;obtain⟨rfl,h1⟩:=h1;refine⟨n-b,qT.2 ⟨h1,rfl⟩,?_⟩;by_cases h2:(n-b).toNat<ls.length
   ·rw[dif_pos h2]at h;exact .inr ⟨h2,zHx _ 0 b j hb (by rwa[Int.zero_add])⟩
   ·rw[dif_neg h2]at h;have:=qT.1 h;exact .inl (by omega)
  ·rw[if_neg h1]at h;by_cases h2:kd=1
   ·subst h2;have:=qT.1 h;exact absurd ⟨rfl,this.1⟩ h1
   ·obtain⟨i,hi,e⟩:=zRR ls l kd 0 b j hb ((sI h2).1 h);exact⟨i,(sI h2).2 hi,e⟩theorem zRR(ls:List Tm):∀(l:List Tm)(kd:Int)(i:Nat)(b j:Int),0<=b->j∈lvL (siL ls l kd i b) kd i b->∃x∈lvL l kd i b,((ls.length:Int)<=x/\j=x-ls.length)\/∃h:x.toNat<ls.length,j∈sH ls[x.toNat] 0
 |[],kd,i,b,j,hb,h=>by rw[siL]at h;exact absurd h pZ|t::l,kd,i,b,j,hb,h=>by
  rw[siL]at h;rcases vH.1 h with h|h
  ·obtain⟨x,hx,e⟩:=zRQ ls t _ j (by have:=zLT kd i b;omega) h;exact⟨x,vH.2 (.inl hx),e⟩
  ·obtain⟨x,hx,e⟩:=zRR ls l kd (i+1) b j hb h;exact⟨x,vH.2 (.inr hx),e⟩end
theorem zYM{k n:Int}{a b:Tm}{d j:Int}(hk:k≠1):j∈sH (.mk k n [a,b]) d↔j∈sH a d\/j∈sH b (wW k 1 d):=by
 rw[sI hk,vH,vH];have e:wW k 0 d=d:=by unfold wW;simp
 rw[e];exact⟨λh=>h.elim .inl λh=>h.elim .inr λh=>absurd h pZ,λh=>h.elim .inl λh=>.inr (.inl h)⟩
theorem R8{n:Int}{a b:Tm}{d j:Int}:j∈sH (.mk 5 n [a,b]) d↔j∈sH a d\/j∈sH b d:=by
 rw[zYM (by decide)];have e:wW 5 1 d=d:=by unfold wW;simp
 rw[e]
theorem zRS{n:Int}{a b:Tm}{d j:Int}:j∈sH (.mk 3 n [a,b]) d↔j∈sH a d\/j∈sH b (d+1):=by
 rw[zYM (by decide)];have e:wW 3 1 d=d+1:=by unfold wW;simp
 rw[e]
theorem zRT{n:Int}{a b:Tm}{d j:Int}:j∈sH (.mk 4 n [a,b]) d↔j∈sH a d\/j∈sH b (d+1):=by
 rw[zYM (by decide)];have e:wW 4 1 d=d+1:=by unfold wW;simp
 rw[e]
theorem zEP{k n d j:Int}(hk:k≠1):¬j∈sH (.mk k n []) d:=by rw[sI hk];exact pZ
theorem yBZ{k n m d j:Int}(hk:k≠1):¬j∈sH (.mk k n [.mk 2 m []]) d:=by rw[sI hk,vH];exactλh=>h.elim (zEP (by decide)) pZ
theorem zDs:∀(l:List Tm)(f:Tm)(d j:Int),j∈sH (mA f l) d↔j∈sH f d\/∃a∈l,j∈sH a d|[],f,d,j=>by rw[mA];simp|a::l,f,d,j=>by rw[mA,zDs l,R8];simp[or_assoc]
theorem K9:∀t:Tm,xQ t=true->∀d j,(j∈sH (yK t) d->j∈sH t d)/\∀a∈xF t,j∈sH a d->j∈sH t d:=by
 refine cJ ?_ ?_
 ·intro t hg hk d j;rw[gF hk,mX hk];exact⟨id,λx hx=>by cases hx⟩
 ·intro n a b hg ha hb ih d j;rw[cI,kZ];refine⟨λh=>R8.2 (.inl ((ih d j).1 h)),λx hx h=>?_⟩;rcases List.mem_append.1 hx with hx|hx;·exact R8.2 (.inl ((ih d j).2 x hx h))
  ·rw[List.mem_singleton.1 hx]at h;exact R8.2 (.inr h)
theorem zEQ:∀(n:Nat)(t:Tm)(r:List Tm×Tm),xQ t=true->mM n t=some r->∀d j,(j∈sH r.2 (d+n)->j∈sH t d)/\∀(i:Nat)(h:i<r.1.length),j∈sH r.1[i] (d+i)->j∈sH t d
 |0,t,r,hg,h,d,j=>by rw[mM]at h;cases h;exact⟨λh=>by simpa using h,λi h=>by simp at h⟩|n+1,t,r,hg,h,d,j=>by
  by_cases h3:t.k=3
  ·obtain⟨a,b,hx,hga,hgb⟩:=nR hg h3;rw[hx]at h⊢;rw[cQ]at h;obtain⟨r',h1,rfl⟩:=Option.map_eq_some_iff.1 h;have ih:=zEQ n b r' hgb h1 (d+1) j;refine⟨λh=>zRS.2 (.inr (ih.1 ?_)),λi h hj=>?_⟩;·rwa[show d+1+(n:Int)=d+((n+1:Nat):Int)by omega]
   ·cases i with|zero=>exact zRS.2 (.inl (by simpa using hj))|succ i=>refine zRS.2 (.inr (ih.2 i (by simpa using h) ?_));rw[show d+1+(i:Int)=d+((i+1:Nat):Int)by omega];simpa using hj
  ·rw[eN h3]at h;cases h
theorem zRU{k:Int}{i:Nat}{b:Int}(h:k=3\/k=4\/k=5\/i=0):wW k i b=b+B6 k i:=by
 unfold wW B6;rcases h with h|h|h|h;·subst h;by_cases hi:i=1<;>simp[hi]
 ·subst h;by_cases hi:i=1<;>simp[hi]
 ·subst h;simp
 ·subst h;simp
mutual theorem zJT:∀(t:Tm)(b j:Int),xQ t=true->j∈sH t b->j<kO t b
 |.mk k n l,b,j,hg,h=>by
  rw[kO];by_cases hk:k=1;·subst hk;rw[if_pos rfl];have:=qT.1 h;omega
  ·rw[if_neg hk];have hh:=uB hg;have hs:=tR hh.1;refine zLU l k 0 b j hh.2 ?_ ((sI hk).1 h);have e1:k=3\/k=4\/k=5\/l.length<=1:=by
    by_cases h7:k=7
    ·obtain⟨x,hx,-⟩:=hs.2.2.2.2.2.2.1 h7;have hx':l=[x]:=hx;rw[hx'];simp
    ·by_cases h1:k=1\/k=2\/k=6\/k=8
     ·have hx:=hs.2.2.2.2.2.2.2.1 h1;have hx':l=[]:=hx;rw[hx'];simp
     ·have a1:1<=k:=hs.1;have a2:k<=8:=hs.2.1;omega
   omega theorem zLU:∀(l:List Tm)(k:Int)(i:Nat)(b j:Int),vS l=true->(k=3\/k=4\/k=5\/i+l.length<=1)->j∈lvL l k i b->j<fL l k i b
 |[],k,i,b,j,hg,hl,h=>absurd h pZ|t::l,k,i,b,j,hg,hl,h=>by
  rw[fL];have hc:=wU hg;rw[List.length_cons]at hl;rcases vH.1 h with h|h;·rw[zRU (by omega)]at h;have:=zJT t _ j hc.1 h;omega
  ·have:=zLU l k (i+1) b j hc.2 (by omega) h;omega end
theorem zDr{t:Tm}{n:Int}(h:tW t n=true)(d j:Int)(hd:0<=d):¬j∈sH t d:=by intro hj;have hs:=zL (rM h);have h0:j+d∈sH t 0:=((iD t 0 d j hd).1 (by rwa[Int.zero_add])).2;have h1:=zJT t 0 _ hs.2.2 h0;have h2:=zAD t d j hj;unfold tW qA at h;simp only[Bool.and_eq_true,decide_eq_true_eq]at h;omega
theorem gK{t:Tm}{n:Int}(h:tW t n=true):xV (λk x=>(k=6\/k=7->x<n)/\k≠8) t:=by
 have h6:xV (λk x=>k=6\/k=7->x<n) t:=by refine(eR (by decide) (by decide) t).1 ?_;unfold tW qA at h;simp only[Bool.and_eq_true,List.all_eq_true,decide_eq_true_eq]at h;exact h.1.2
 have h8:xV (λk x=>k=8\/k=8->False) t:=by refine(eR (Q:=λ_=>False) (by decide) (by decide) t).1 ?_;unfold tW at h;simp only[Bool.and_eq_true,List.isEmpty_iff]at h;rw[h.2];exactλx hx=>by cases hx
 exact R7 (λk n a b=>⟨a,λh=>b (.inl h)⟩) t h6 h8
def mZ:Nat->yU->Int->Int->Int->yU->Option (yU×Int)|0,_,_,_,_,_=>none|e+1,b,c,d,a,f=>if decide (a<(b.length:Int))then zS b a>>=λx2=>zQW e x2 c d>>=λr4=>if r4.2 !=0 then some ([],r4.2)else yX 40 f [r4.1]>>=λl7=>mZ e b c d (xC (a+1)) l7 else some (f,0)
def zHw(e:Nat)(b:yU)(c d:Int):Option (yU×Int):=mZ e b c d 0 []
theorem zVs:∀e:Nat,∀b c d a f,Lz (mZ e b c d a f) 0 f237 (pt 4021 f237) (λj=>sp j 35 0 [(1,ai c),(2,ai d),(8,zN zA f (.st 0 3)),(13,zN zA b .no),(14,ai (b.length:Int)),(15,ai a)]) ⟨[],0,[0],1,[]⟩ (λr=>.tup [.sl (zC zA r.1) r.1.length .no,ai r.2]) (λ_=>[]) 0 [.blk 0,.seq (pt 63 f237)]:=xX (λ_ _ _ _ _=>lN) λe ih=>λb c d a f=>lw λ_=>rB 0 (rA 0 (xP (o:=.no)) λ_=>rC 3 [] yBK λr4=>rB 3 (lE 0)<|rS (oS 1 (xJ xY [r4.1]))<|rW (λh8=>oP 0 (vQ h8 (by simp))) λ_=>lH 1 [] [] [1] [1,2,8,13,14,15] (ih _ _ _ _ _))<|lE 0
theorem zYN{e b c d}:Cz (zHw e b c d) 237 [] [zN zA b .no,ai c,ai d] (λr=>.tup [.sl (zC zA r.1) r.1.length .no,ai r.2]) (λ_=>[]) 0:=fw func237<|fH 1 [(none,8,3)] [] [0] [1,2,8,13,14,15] (zVs _ _ _ _ _ _)
def cY:Nat->yU->Int->Option yU|0,_,_=>none|a+1,c,b=>if decide (b>=0)then zGL a b>>=λr4=>yX 40 c [r4]>>=λl6=>cY a l6 (xC (b-1))else some c
def zJU(a:Nat)(d:Int):Option yU:=if decide (d<0)then some []else if decide (d>1048576)then some []else cY a [] (xC (d-1))
theorem zVr:∀a:Nat,∀c b,Lz (cY a c b) 0 f238 (pt 16309 f238) (λj=>sp j 23 0 [(3,zN zA c (.st 0 3)),(4,ai b)]) ⟨[],0,[0],1,[]⟩ (λr=>.sl (zC zA r) r.length .no) (λ_=>[]) 0 [.blk 0,.seq (pt 255 f238)]:=xX (λ_ _=>lN) λa ih=>λc b=>lw λ_=>rB 0 (rC 0 [] zNS λr4=>rS (oS 0 (xJ xY [r4]))<|rW (λh7=>oP 0 (vQ h7 (by simp))) λ_=>lH 1 [] [] [1] [3,4] (ih _ _))<|lE 0
theorem zYO{a d}:Cz (zJU a d) 238 [] [ai d] (λr=>.sl (zC zA r) r.length .no) (λ_=>[]) 0:=fw func238<|rB 0 (fE 0)<|rB 0 (fE 0)<|fH 1 [(none,3,3)] [] [0] [3,4] (zVr _ _ _)
def zOn(d:Nat)(b:xH)(a c:Int):Option (Bool):=if decide (a>=0)then if decide (a<(b.length:Int))then zS b a>>=λx3=>some (x3.kind==c)else some false else some false
theorem zYP{d b a c}:Cz (zOn d b a c) 265 [] [zN xA b .no,ai a,ai c] (λr=>ab r) (λ_=>[]) 0:=fw func265<|rB 0 (rB 1 (rA 0 (wM (o:=.no)) λ_=>fE 2)<|fE 0)<|fE 0
def cZ:Nat->yU->Int->Option (Bool)|0,_,_=>none|b+1,a,c=>if decide (c<(a.length:Int))then zS a c>>=λx2=>cG b x2>>=λr4=>if r4 then cZ b a (xC (c+1))else some false else some true
def zOm(b:Nat)(a:yU):Option (Bool):=cZ b a 0
theorem zVq:∀b:Nat,∀a c,Lz (cZ b a c) 0 f266 (pt 949 f266) (λj=>sp j 15 0 [(5,zN zA a .no),(6,ai (a.length:Int)),(7,ai c)]) ⟨[],0,[],0,[]⟩ (λr=>ab r) (λ_=>[]) 0 [.blk 0,.seq (pt 15 f266)]:=xX (λ_ _=>lN) λb ih=>λa c=>lw λ_=>rB 0 (rA 0 (xP (o:=.no)) λ_=>rK 3 [] aR (λ_=>lH 2 [] [] [] [5,6,7] (ih _ _)) λ_=>lE 1)<|lE 0
theorem zYQ{b a}:Cz (zOm b a) 266 [] [zN zA a .no] (λr=>ab r) (λ_=>[]) 0:=fw func266<|fH 1 [] [] [] [5,6,7] (zVq _ _ _)
def zVp(d:Nat)(a:Int)(b:yU)(c:Int):Option (yU×Int):=if a==0 then some (b,c)else some (b,a)
theorem yEj{d a b c}:Cz (zVp d a b c) 285 [.cells [ai a]] [.mp 0 0,zN zA b .no,ai c] (λr=>.sl (zC zA r.1) r.1.length .no) (λr=>[.cells [ai r.2]]) 0:=fw func285<|rB 1 (fE 1)<|fE 0
def zRV(b:Nat)(a:Int)(c:yU)(d:Int):Option (yU×Int):=zHw b c d 0>>=λr1=>zVp b a r1.1 r1.2>>=λr3=>some (r3.1,r3.2)
theorem yCz{b a c d}:Cz (zRV b a c d) 274 [.cells [ai a]] [.mp 0 0,zN zA c .no,ai d] (λr=>.sl (zC zA r.1) r.1.length .no) (λr=>[.cells [ai r.2]]) 0:=fw func274<|rC 0 [] zYN λ_=>rC 2 [0] yEj λ_=>fE 0
def zOl(d:Nat)(a:Int)(b:Tm)(c:Int):Option (Tm×Int):=if a==0 then some (b,c)else some (b,a)
theorem zYR{d a b c}:Cz (zOl d a b c) 277 [.cells [ai a]] [.mp 0 0,yZ b,ai c] (λr=>yZ r.1) (λr=>[.cells [ai r.2]]) 0:=fw func277<|rB 1 (fE 3)<|fE 2
def bA:Nat->Tm->(yU×Int)->Int->yU->Option (Tm×Int)|0,_,_,_,_=>none|c+1,b,r6,d,f=>if decide (d>=0)then zS r6.1 d>>=λx9=>yX 40 f [x9]>>=λl11=>bA c b r6 (xC (d-1)) l11 else C0 c b f>>=λr13=>zOl c r6.2 r13.1 r13.2>>=λr15=>some (r15.1,r15.2)
def bB:Nat->Int->Tm->Int->yU->Int->yU->Option (Tm×Int)|0,_,_,_,_,_,_=>none|c+1,a,b,g,m,e,f=>if decide (e<g)then zGL c e>>=λr2=>yX 40 f [r2]>>=λl4=>bB c a b g m (xC (e+1)) l4 else zRV c a m g>>=λr6=>bA c b r6 (xC ((r6.1.length:Int)-1)) f
def zRW(c:Nat)(a:Int)(b:Tm)(g:Int)(m:yU):Option (Tm×Int):=bB c a b g m 0 []
theorem zVo:∀c:Nat,∀b r6 d f,Lz (bA c b r6 d f) 1 f275 (pt 65461 f275) (λj=>sp j 48 0 [(0,.mp 0 0),(5,.mp 1 0),(8,.mp 2 0),(9,zN zA f (.st 0 3)),(11,zN zA r6.1 .no),(12,ai d)]) ⟨[(0,.cells [ai r6.2]),(1,.cells [ai b.k,ai b.n,zN zA b.sub .no]),(2,.cells [ai 0,ai 0,zN zA ([]:yU) .nl])],3,[0],1,[]⟩ (λr=>yZ r.1) (λr=>[.cells [ai r.2]]) 0 [.blk 2,.seq (pt 1023 f275)]:=xX (λ_ _ _ _=>lN) λc ih=>λb r6 d f=>lw λ_=>rB 0 (rA 0 (xP (o:=.no)) λx9=>rS (oS 1 (xJ xY [x9]))<|rW (λh12=>oP 0 (vQ h12 (by simp))) λ_=>lH 1 [] [0,1,2] [1] [0,5,8,9,11,12] (ih _ _ _ _))<|rC 1 [] Z6 λ_=>rC 2 [0] zYR λ_=>lE 1
theorem zVn:∀c:Nat,∀a b g m e f,Lz (bB c a b g m e f) 1 f275 (pt 4021 f275) (λj=>sp j 48 0 [(0,.mp 0 0),(2,ai g),(3,zN zA m .no),(5,.mp 1 0),(8,.mp 2 0),(9,zN zA f (.st 0 3)),(13,ai g),(14,ai e)]) ⟨[(0,.cells [ai a]),(1,.cells [ai b.k,ai b.n,zN zA b.sub .no]),(2,.cells [ai 0,ai 0,zN zA ([]:yU) .nl])],3,[0],1,[]⟩ (λr=>yZ r.1) (λr=>[.cells [ai r.2]]) 0 [.blk 0,.seq (pt 63 f275)]:=xX (λ_ _ _ _ _ _=>lN) λc ih=>λa b g m e f=>lw λ_=>rB 0 (rC 0 [] zNS λr2=>rS (oS 0 (xJ xY [r2]))<|rW (λh5=>oP 0 (vQ h5 (by simp))) λ_=>lH 1 [] [0,1,2] [1] [0,2,3,5,8,9,13,14] (ih _ _ _ _ _ _))<|rC 0 [0] yCz λ_=>lH 2 [] [0,1,2] [0] [0,5,8,9,11,12] (zVo _ _ _ _ _)
theorem yCy{c a b g m}:Cz (zRW c a b g m) 275 [.cells [ai a]] [.mp 0 0,yZ b,ai g,zN zA m .no] (λr=>yZ r.1) (λr=>[.cells [ai r.2]]) 0:=fw func275<|fH 0 [(none,9,3)] [0,1,2] [0] [0,2,3,5,8,9,13,14] (zVn _ _ _ _ _ _ _)
def zVm(b:Nat)(a:Int)(c:Tm)(d:Int):Option (Tm×Int):=zJG b c d>>=λr1=>zOl b a r1.1 r1.2>>=λr3=>some (r3.1,r3.2)
theorem yEi{b a c d}:Cz (zVm b a c d) 276 [.cells [ai a]] [.mp 0 0,yZ c,ai d] (λr=>yZ r.1) (λr=>[.cells [ai r.2]]) 0:=fw func276<|rC 1 [] zUb λ_=>rC 2 [0] zYR λ_=>fE 1
def yCx(c:Nat)(a b:Tm):Option (Tm):=zGJ c 4 0 [a,b]>>=λr1=>some r1
theorem yEh{c a b}:Cz (yCx c a b) 287 [] [yZ a,yZ b] (λr=>yZ r) (λ_=>[]) 0:=fw func287<|rS (oS 2 (xJ xY [a,b]))<|rC 0 [] zJE λ_=>fE 1
def pM:Nat->yU->Int->Int->Int->yU->Option (Tm×Int)|0,_,_,_,_,_=>none|e+1,d,g,a,b,c=>if decide (g<(d.length:Int))then zS d (xC ((xC ((d.length:Int)-1))-g))>>=λx12=>yCx e x12 (Tm.mk a b c)>>=λr14=>pM e d (xC (g+1)) r14.k r14.n r14.sub else cG e (Tm.mk a b c)>>=λr16=>if r16 then e64 e (Tm.mk a b c)>>=λr19=>some (r19,0)else some ((Tm.mk 0 0 []),2)
def pN:Nat->yU->Tm->Int->Option (Tm×Int)|0,_,_,_=>none|e+1,d,f,m=>if decide (m<(d.length:Int))then zS d m>>=λx3=>cG e x3>>=λr5=>if r5 then pN e d f (xC (m+1))else some ((Tm.mk 0 0 []),5)else cG e f>>=λr8=>if r8 then pM e d 0 f.k f.n f.sub else some ((Tm.mk 0 0 []),5)
def zAE(e:Nat)(d:yU)(f:Tm):Option (Tm×Int):=if decide ((d.length:Int)>24)then some ((Tm.mk 0 0 []),2)else pN e d f 0
theorem zHv:∀e:Nat,∀d g a b c,Lz (pM e d g a b c) 0 f286 (pt 65461 f286) (λj=>sp j 53 0 [(0,zN zA d .no),(2,.clo 287 [] []),(4,.mp 0 0),(6,.mp 1 0),(31,ai (d.length:Int)),(32,ai g)]) ⟨[(0,.cells [ai a,ai b,zN zA c .no]),(1,.cells [ai 0,ai 0,zN zA ([]:yU) .nl])],2,[],0,[]⟩ (λr=>.tup [yZ r.1,ai r.2]) (λ_=>[]) 0 [.blk 2,.seq (pt 1023 f286)]:=xX (λ_ _ _ _ _=>lN) λe ih=>λd g a b c=>lw λ_=>rB 0 (rA 3 (xP (o:=.no)) λ_=>rC 2 [] yEh λ_=>lH 2 [] [0,1] [] [0,2,4,6,31,32] (ih _ _ _ _ _))<|rK 1 [] aR (λ_=>rC 2 [] c64 λ_=>lE 1) λ_=>lE 2
theorem zHu:∀e:Nat,∀d f m,Lz (pN e d f m) 0 f286 (pt 4021 f286) (λj=>sp j 53 0 [(0,zN zA d .no),(2,.clo 287 [] []),(4,.mp 0 0),(6,.mp 1 0),(15,zN zA d .no),(16,ai (d.length:Int)),(17,ai m)]) ⟨[(0,.cells [ai f.k,ai f.n,zN zA f.sub .no]),(1,.cells [ai 0,ai 0,zN zA ([]:yU) .nl])],2,[],0,[]⟩ (λr=>.tup [yZ r.1,ai r.2]) (λ_=>[]) 0 [.blk 0,.seq (pt 63 f286)]:=xX (λ_ _ _=>lN) λe ih=>λd f m=>lw λ_=>rB 0 (rA 0 (xP (o:=.no)) λ_=>rK 3 [] aR (λ_=>lH 2 [] [0,1] [] [0,2,4,6,15,16,17] (ih _ _ _)) λ_=>lE 2)<|rK 1 [] aR (λ_=>lH 2 [] [0,1] [] [0,2,4,6,31,32] (zHv _ _ _ _ _ _)) λ_=>lE 2
theorem zRX{e d f}:Cz (zAE e d f) 286 [] [zN zA d .no,yZ f,.clo 287 [] []] (λr=>.tup [yZ r.1,ai r.2]) (λ_=>[]) 0:=fw func286<|rB 1 (fE 1)<|fH 1 [] [0,1] [] [0,2,4,6,15,16,17] (zHu _ _ _ _)
def zVl(c:Nat)(a:yU)(b:Tm):Option (Tm×Int):=zAE c a b>>=λr1=>some (r1.1,r1.2)
theorem yEg{c a b}:Cz (zVl c a b) 278 [] [zN zA a .no,yZ b] (λr=>.tup [yZ r.1,ai r.2]) (λ_=>[]) 0:=fw func278<|rC 1 [] zRX λ_=>fE 3
def bC:Nat->yU->yU->Int->yU->Int->Option (yU×Int)|0,_,_,_,_,_=>none|f+1,d,e,b,g,a=>if decide (b<(d.length:Int))then zS d b>>=λx2=>zRW f a x2 b e>>=λr4=>yX 40 g [r4.1]>>=λl6=>bC f d e (xC (b+1)) l6 r4.2 else some (g,a)
def zVk(f:Nat)(c:Int)(d e:yU):Option (yU×Int):=bC f d e 0 [] c
theorem zVj:∀f:Nat,∀d e b g a,Lz (bC f d e b g a) 1 f279 (pt 4021 f279) (λj=>sp j 27 0 [(0,.mp 0 0),(2,zN zA e .no),(7,zN zA g (.st 0 3)),(10,zN zA d .no),(11,ai (d.length:Int)),(12,ai b)]) ⟨[(0,.cells [ai a])],1,[0],1,[]⟩ (λr=>.sl (zC zA r.1) r.1.length .no) (λr=>[.cells [ai r.2]]) 0 [.blk 0,.seq (pt 63 f279)]:=xX (λ_ _ _ _ _=>lN) λf ih=>λd e b g a=>lw λ_=>rB 0 (rA 0 (xP (o:=.no)) λ_=>rC 3 [0] yCy λr4=>rS (oS 0 (xJ xY [r4.1]))<|rW (λh7=>oP 0 (vQ h7 (by simp))) λ_=>lH 1 [] [0] [1] [0,2,7,10,11,12] (ih _ _ _ _ _))<|lE 0
theorem yEf{f c d e}:Cz (zVk f c d e) 279 [.cells [ai c]] [.mp 0 0,zN zA d .no,zN zA e .no] (λr=>.sl (zC zA r.1) r.1.length .no) (λr=>[.cells [ai r.2]]) 0:=fw func279<|fH 1 [(none,7,3)] [0] [0] [0,2,7,10,11,12] (zVj _ _ _ _ _ _)
def bD:Nat->yU->qJ->Tm->Int->Int->Int->Int->yU->Option (Tm×Int)|0,_,_,_,_,_,_,_,_=>none|f+1,q,e,p,g,a,b,c,d=>if decide (g<(e.at'.length:Int))then zS e.at' g>>=λx6=>zRW f a x6 (e.around.length:Int) q>>=λr8=>zCo f (Tm.mk b c d) r8.1>>=λr10=>bD f q e p (xC (g+1)) r8.2 r10.k r10.n r10.sub else zVm f a p (e.around.length:Int)>>=λr12=>zJU f (e.around.length:Int)>>=λr14=>aF f r12.1 r14>>=λr16=>zCo f (Tm.mk b c d) r16>>=λr18=>zVk f r12.2 e.around q>>=λr20=>zVl f r20.1 r18>>=λr22=>zOl f r20.2 r22.1 r22.2>>=λr24=>some (r24.1,r24.2)
def zVi(f:Nat)(m:Int)(s:Tm)(t q:yU)(e:qJ)(p:Tm):Option (Tm×Int):=zRV f m t (e.around.length:Int)>>=λr1=>aF f s r1.1>>=λr3=>bD f q e p 0 r1.2 r3.k r3.n r3.sub
theorem zVh:∀f:Nat,∀q e p g a b c d,Lz (bD f q e p g a b c d) 1 f267 (pt 16309 f267) (λj=>sp j 61 0 [(0,.mp 0 0),(3,zN zA q .no),(10,.mp 1 0),(11,.mp 2 0),(12,.mp 3 0),(13,ai (e.around.length:Int)),(14,.mp 4 0),(27,zN zA e.at' .no),(28,ai (e.at'.length:Int)),(29,ai g)]) ⟨[(0,.cells [ai a]),(1,.cells [ab e.is,zN zA e.around .no,zN zA e.at' .no]),(2,.cells [ai p.k,ai p.n,zN zA p.sub .no]),(3,.cells [ai 0,ai 0,zN zA ([]:yU) .nl]),(4,.cells [ai b,ai c,zN zA d .no])],5,[],0,[]⟩ (λr=>yZ r.1) (λr=>[.cells [ai r.2]]) 0 [.blk 0,.seq (pt 255 f267)]:=xX (λ_ _ _ _ _ _ _ _=>lN) λf ih=>λq e p g a b c d=>lw λ_=>rB 0 (rA 0 (xP (o:=.no)) λ_=>rC 4 [0] yCy λ_=>rC 0 [] zCn λ_=>lH 2 [] [0,1,2,3,4] [] [0,3,10,11,12,13,14,27,28,29] (ih _ _ _ _ _ _ _ _))<|rC 2 [0] yEi λ_=>rC 0 [] zYO λ_=>rC 0 [] Z5 λ_=>rC 0 [] zCn λ_=>rC 2 [0] yEf λ_=>rC 1 [] yEg λ_=>rC 2 [0] zYR λ_=>lE 1
theorem zVg{f m s t q e p}:Cz (zVi f m s t q e p) 267 [.cells [ai m]] [.mp 0 0,yZ s,zN zA t .no,zN zA q .no,yBy e,yZ p] (λr=>yZ r.1) (λr=>[.cells [ai r.2]]) 0:=fw func267<|rC 3 [0] yCz λ_=>rC 0 [] Z5 λ_=>fH 3 [] [0,2,3,4,5] [] [0,3,10,11,12,13,14,27,28,29] (zVh _ _ _ _ _ _ _ _ _)
def zVf(c:Nat)(a:Int)(b:Tm):Option (Tm×Int×Int):=if a==0 then cG c b>>=λr2=>if r2 then if a !=0 then some ((Tm.mk 0 0 []),a,a)else some (b,0,a)else some ((Tm.mk 0 0 []),2,2)else if a !=0 then some ((Tm.mk 0 0 []),a,a)else some (b,0,a)
theorem yEe{c a b}:Cz (zVf c a b) 269 [.cells [ai a]] [.mp 0 0,yZ b] (λr=>.tup [yZ r.1,ai r.2.1]) (λr=>[.cells [ai r.2.2]]) 0:=fw func269<|rB 1 (rK 1 [] aR (λ_=>rB 2 (fE 2)<|fE 2) λ_=>fE 6)<|rB 1 (fE 2)<|fE 2
def uT(l:List Tm):Prop:=∀x∈l,x.Ok
theorem uT.nil:uT []:=λ_ h=>nomatch h
theorem uT.app{l m:List Tm}(h:uT l)(k:uT m):uT (l++m):=λx hx=>(List.mem_append.1 hx).elim (h x) (k x)
theorem uT.one{t:Tm}(h:t.Ok):uT [t]:=λx hx=>by rw[List.mem_singleton.1 hx];exact h
theorem uT.drop{l:List Tm}(h:uT l)(n:Nat):uT (l.drop n):=λx hx=>h x (List.mem_of_mem_drop hx)
theorem uT.take{l:List Tm}(h:uT l)(n:Nat):uT (l.take n):=λx hx=>h x (List.mem_of_mem_take hx)
theorem uT.at{l r:List Tm}{v:Nat}{x:Tm}(h:uT l)(hd:l.drop v=x::r):x.Ok:=h x (by
 have:x∈l.drop v:=by rw[hd];simp
 exact List.mem_of_mem_drop this)
theorem zYS{k n:Int}{a:Tm}(h:a.Ok):(Tm.mk k n [a]).Ok:=by rw[Tm.Ok,mW,mW];exact⟨by simp,h,trivial⟩
theorem eS{k n:Int}{a b:Tm}(h:a.Ok)(i:b.Ok):(Tm.mk k n [a,b]).Ok:=by rw[Tm.Ok,mW,mW,mW];exact⟨by simp,h,i,trivial⟩
theorem s8{α:Type}{l:List α}{a b:Int}(h0:0<=a)(h1:a<=b)(h2:b<=l.length):mU l a b=some ((l.drop a.toNat).take (b-a).toNat):=by unfold mU;rw[if_pos ⟨h0,h1,h2⟩]
def MT(e:Int)(v:Tm)(x:Tm×Int):Prop:=x.1.Ok/\(e≠8->x.2≠8)/\(x.2=0->e=0/\x.1=v)
def ML(e:Int)(v:List Tm)(x:List Tm×Int):Prop:=uT x.1/\(e≠8->x.2≠8)/\(x.2=0->e=0/\x.1=v)
def upI(k:Int)(l:List Tm):List Tm:=l.map λt=>aS t 0 0 k
theorem zDq(p1 p2:Int):∀(r l acc:List Tm)(v:Nat),l.drop v=r->l.length<=1073741824->uT l->uT acc->acc.length+r.length<=l.length->zH (λq=>mZ q l p1 p2 (v:Int) acc) (λx=>ML 0 (acc++r.map λt=>aS t 0 p2 p1) x/\x.1.length<=l.length)
 |[],l,acc,v,hd,hl,ho,ha,hv=>by refine zH.succ ?_;simp only[mZ];refine zH.ite (λh=>?_) λ_=>zH.ret ⟨⟨ha,by simp,by simp⟩,by simpa using hv⟩;rw[zY hd]at h;cases h|t::r,l,acc,v,hd,hl,ho,ha,hv=>by
  have hlt:=yC hd;refine zH.succ ?_;simp only[mZ];refine zH.ite (λ_=>?_) λh=>?_
  ·refine zH.pure (zV hd) (zH.bind (P:=λr=>r=tC t p1 p2) ((zEH t p1 p2 (ho.at hd)).tot rfl) λr4 h4=>?_);subst h4;refine zH.ite (λh=>?_) λh=>?_
   ·have hne:(tC t p1 p2).2≠0:=by simpa using h
    exact zH.ret ⟨⟨uT.nil,λ_=>zAB t p1 p2,λh0=>absurd h0 hne⟩,by simp⟩
   ·have he:(tC t p1 p2).2=0:=by simpa using h
    rw[List.length_cons]at hv;refine zH.pure (yF (by simp<;>omega)) ?_;rw[zU v (by omega)];refine(zDq p1 p2 r l _ (v+1) (zR hd) hl ho (ha.app (uT.one (kE t p1 p2 (ho.at hd)))) (by simp<;>omega)).mono λx hx=>?_;rw[(iC he).2.2.2.2]at hx;simpa using hx
  ·rw[zX hd]at h;cases h
theorem zRY(l:List Tm)(p1 p2:Int)(hl:l.length<=1073741824)(ho:uT l):zH (λq=>zHw q l p1 p2) (λx=>ML 0 (l.map λt=>aS t 0 p2 p1) x/\x.1.length<=l.length):=by simp only[zHw];exact zDq p1 p2 l l [] 0 rfl hl ho uT.nil (by simp)
theorem zER(e:Int)(t:Tm)(p:Int):zH (λq=>zOl q e t p) (λx=>x.1=t/\x.2=if e=0 then p else e):=by
 simp only[zOl];refine zH.ite (λh=>zH.ret ⟨rfl,?_⟩) λh=>zH.ret ⟨rfl,?_⟩;·rw[if_pos (by simpa using h)]
 ·rw[if_neg (by simpa using h)]
theorem zVd(e:Int)(t:List Tm)(p:Int):zH (λq=>zVp q e t p) (λx=>x.1=t/\x.2=if e=0 then p else e):=by
 simp only[zVp];refine zH.ite (λh=>zH.ret ⟨rfl,?_⟩) λh=>zH.ret ⟨rfl,?_⟩;·rw[if_pos (by simpa using h)]
 ·rw[if_neg (by simpa using h)]
theorem zJV{e:Int}{v:Tm}{r x:Tm×Int}(hr:MT 0 v r)(hx:x.1=r.1/\x.2=if e=0 then r.2 else e):MT e v x:=by
 obtain⟨h1,h2⟩:=hx;refine⟨by rw[h1];exact hr.1,?_,?_⟩
 ·intro he;rw[h2];split;·exact hr.2.1 (by decide)
  ·exact he
 ·intro he;rw[h2]at he;by_cases h:e=0
  ·rw[if_pos h]at he;exact⟨h,by rw[h1];exact(hr.2.2 he).2⟩
  ·rw[if_neg h]at he;exact absurd he h
theorem zYT{e:Int}{v:List Tm}{r x:List Tm×Int}(hr:ML 0 v r)(hx:x.1=r.1/\x.2=if e=0 then r.2 else e):ML e v x:=by
 obtain⟨h1,h2⟩:=hx;refine⟨by rw[h1];exact hr.1,?_,?_⟩
 ·intro he;rw[h2];split;·exact hr.2.1 (by decide)
  ·exact he
 ·intro he;rw[h2]at he;by_cases h:e=0
  ·rw[if_pos h]at he;exact⟨h,by rw[h1];exact(hr.2.2 he).2⟩
  ·rw[if_neg h]at he;exact absurd he h
theorem zLV(e:Int)(l:List Tm)(p:Int)(hl:l.length<=1073741824)(ho:uT l):zH (λq=>zRV q e l p) (λx=>ML e (upI p l) x/\x.1.length<=l.length):=by simp only[zRV];exact(zRY l p 0 hl ho).bind λr h=>(zVd e r.1 r.2).bind λr3 h3=>zH.ret ⟨zYT h.1 h3,by rw[h3.1];exact h.2⟩
theorem zVc(t:Tm)(k c:Int)(h:t.Ok):MT 0 (aS t 0 c k) (tC t k c):=⟨kE t k c h,λ_=>zAB t k c,λh=>⟨rfl,(iC h).2.2.2.2⟩⟩
theorem zYU(t:Tm)(ls:List Tm)(h:t.Ok)(ho:uT ls):MT 0 (siT ls t 0) (eM t ls):=⟨s4 t ls h ho,λ_=>zLS t ls,λh=>⟨rfl,(s6 h).2.2.2⟩⟩
theorem zYV(e:Int)(t:Tm)(p:Int)(h:t.Ok):zH (λq=>zVm q e t p) (MT e (aS t 0 0 p)):=by simp only[zVm];exact zH.bind (P:=λr=>r=tC t p 0) ((zLJ t p h).tot rfl) λr hr=>(zER e r.1 r.2).bind λr3 h3=>zH.ret (by subst hr;exact zJV (zVc t p 0 h) h3)
def iE:Nat->List Tm|0=>[]|m+1=>.mk 1 (m:Int) []::iE m
def vuT:Nat->Nat->List Tm|0,_=>[]|m+1,v=>.mk 1 (v:Int) []::vuT m (v+1)
theorem zLW:∀m,uT (iE m)
 |0=>uT.nil|m+1=>λx hx=>by
  rcases List.mem_cons.1 hx with rfl|hx;·exact wP _ _
  ·exact zLW m x hx
theorem zHt:∀m,(iE m).length=m|0=>rfl|m+1=>congrArg (·+1) (zHt m)
theorem L0:∀m v,(vuT m v).length=m|0,_=>rfl|m+1,v=>congrArg (·+1) (L0 m (v+1))
theorem zHs:∀(m:Nat)(acc:List Tm),m+acc.length<=1048576->zF (λq=>cY q acc ((m:Int)-1)) (acc++iE m)|0,acc,hm=>by refine zF.succ ?_;simp only[cY];exact zF.ifF (decide_eq_false (by omega)) (zF.ret.eq (by simp[iE]))|m+1,acc,hm=>by refine zF.succ ?_;simp only[cY];refine zF.ifT (decide_eq_true (by omega)) ((Q8 _).bind (zF.pure (yF (by simp<;>omega)) ?_));rw[yS (by omega) (by omega),show((m+1:Nat):Int)-1-1=(m:Int)-1 by omega];refine(zHs m _ (by simp<;>omega)).eq ?_;rw[iE,show((m+1:Nat):Int)-1=(m:Int)by omega];simp
theorem zLX(n:Nat)(hn:n<=1048576):zF (λq=>zJU q (n:Int)) (iE n):=by simp only[zJU];refine zF.ifF (decide_eq_false (by omega)) (zF.ifF (decide_eq_false (by omega)) ?_);rw[yS (by omega) (by omega)];exact(zHs n [] (by simpa using hn)).eq (by simp)
def zHr(t:Tm)(own:Nat)(outer:List Tm):Tm:=siT (vuT own 0++(upI own outer).reverse) t 0
def iF(outer:List Tm):List Tm->Nat->List Tm|[],_=>[]|t::r,v=>zHr t v outer::iF outer r (v+1)
theorem zHq(p1:Tm)(r6:List Tm×Int)(h1:p1.Ok)(h6:uT r6.1):∀(m:Nat)(acc:List Tm),m<=r6.1.length->m+acc.length<=4294967296->uT acc->zH (λq=>bA q p1 r6 ((m:Int)-1) acc) (MT r6.2 (siT (acc++(r6.1.take m).reverse) p1 0))
 |0,acc,hm,hl,ho=>by
  refine zH.succ ?_;simp only[bA];refine zH.ite (λh=>?_) λ_=>?_;·have:=of_decide_eq_true h;omega
  ·refine zH.bind (P:=λr=>r=eM p1 acc) ((t8 p1 acc h1 ho (by omega)).tot rfl) λr h=>(zER _ r.1 r.2).bind λx hx=>zH.ret ?_;subst h;have:=zJV (zYU p1 acc h1 ho) hx;simpa using this|m+1,acc,hm,hl,ho=>by
  refine zH.succ ?_;simp only[bA];refine zH.ite (λ_=>?_) λh=>?_
  ·have hlt:m<r6.1.length:=by omega
   have hx:zS r6.1 (((m+1:Nat):Int)-1)=some r6.1[m]:=by unfold zS;rw[if_pos (by omega),show(((m+1:Nat):Int)-1).toNat=m by omega,List.getElem?_eq_getElem hlt]
   refine zH.pure hx (zH.pure (yF (by simp<;>omega)) ?_);rw[yS (by omega) (by omega),show((m+1:Nat):Int)-1-1=(m:Int)-1 by omega];refine(zHq p1 r6 h1 h6 m _ (by omega) (by simp<;>omega) (ho.app (uT.one (h6 _ (List.getElem_mem hlt))))).mono λx hx=>?_;have e:r6.1.take (m+1)=r6.1.take m++[r6.1[m]]:=by rw[List.take_add_one,List.getElem?_eq_getElem hlt];rfl
   rw[e,List.reverse_append];simpa using hx
  ·have:=of_decide_eq_false h;omega
theorem zRZ(e:Int)(p1:Tm)(own:Nat)(p3:List Tm)(h1:p1.Ok)(h2:own<=1073741824)(h3:uT p3)(hl:p3.length<=1073741824):∀(m v:Nat)(acc:List Tm),v+m=own->acc.length<=v->uT acc->zH (λq=>bB q e p1 (own:Int) p3 (v:Int) acc) (MT e (siT (acc++vuT m v++(upI own p3).reverse) p1 0)):=by intro m;induction m with
 |zero=>
  intro v acc hm ha ho;refine zH.succ ?_;simp only[bB];refine zH.ite (λh=>?_) λ_=>(zLV e p3 own hl h3).bind λr6 h6=>?_;·have:=of_decide_eq_true h;omega
  ·rw[yS (by omega) (by omega)];refine(zHq p1 r6 h1 h6.1.1 r6.1.length acc (Nat.le_refl _) (by omega) ho).mono λx hx=>⟨hx.1,λhe=>hx.2.1 (h6.1.2.1 he),λhe=>?_⟩;have k:=hx.2.2 he;have k6:=h6.1.2.2 k.1;refine⟨k6.1,?_⟩;rw[k.2,List.take_length,k6.2,vuT];simp|succ m ih=>
  intro v acc hm ha ho;refine zH.succ ?_;simp only[bB];refine zH.ite (λ_=>?_) λh=>?_
  ·refine zH.bind (P:=λr=>r=Tm.mk 1 (v:Int) []) ((Q8 v).tot rfl) λr h=>zH.pure (yF (by simp<;>omega)) ?_;subst h;rw[zU v (by omega)];refine(ih (v+1) _ (by omega) (by simp<;>omega) (ho.app (uT.one (wP _ _)))).mono λx hx=>?_;rw[vuT];simpa using hx
  ·have:=of_decide_eq_false h;omega
theorem X6(e:Int)(p1:Tm)(own:Nat)(p3:List Tm)(h1:p1.Ok)(h2:own<=1073741824)(h3:uT p3)(hl:p3.length<=1073741824):zH (λq=>zRW q e p1 (own:Int) p3) (MT e (zHr p1 own p3)):=by simp only[zRW];exact zRZ e p1 own p3 h1 h2 h3 hl own 0 [] (by omega) (by simp) uT.nil
theorem aX(p2:List Tm)(h2:uT p2)(hl2:p2.length<=1073741824):∀(r l acc:List Tm)(v:Nat)(e:Int),l.drop v=r->l.length<=1073741824->uT l->uT acc->acc.length<=v->zH (λq=>bC q l p2 (v:Int) acc e) (λx=>uT x.1/\x.1.length=acc.length+r.length/\(e≠8->x.2≠8)/\(x.2=0->e=0/\x.1=acc++iF p2 r v))
 |[],l,acc,v,e,hd,hl,ho,ha,hv=>by refine zH.succ ?_;simp only[bC];refine zH.ite (λh=>?_) λ_=>zH.ret ⟨ha,by simp,id,λh=>⟨h,by simp[iF]⟩⟩;rw[zY hd]at h;cases h|t::r,l,acc,v,e,hd,hl,ho,ha,hv=>by
  have hlt:=yC hd;refine zH.succ ?_;simp only[bC];refine zH.ite (λ_=>?_) λh=>?_
  ·refine zH.pure (zV hd) ((X6 e t v p2 (ho.at hd) (by omega) h2 hl2).bind λr4 h4=>?_);refine zH.pure (yF (by simp<;>omega)) ?_;rw[zU v (by omega)];refine(aX p2 h2 hl2 r l _ (v+1) r4.2 (zR hd) hl ho (ha.app (uT.one h4.1)) (by simp<;>omega)).mono λx hx=>?_;obtain⟨a1,a2,a3,a4⟩:=hx;refine⟨a1,by rw[a2];simp<;>omega,λhe=>a3 (h4.2.1 he),λhe=>?_⟩;have k:=a4 he;have k4:=h4.2.2 k.1;refine⟨k4.1,?_⟩;rw[k.2,k4.2,iF];simp
  ·rw[zX hd]at h;cases h
theorem zES(e:Int)(l p2:List Tm)(h2:uT p2)(hl2:p2.length<=1073741824)(hl:l.length<=1073741824)(ho:uT l):zH (λq=>zVk q e l p2) (λx=>ML e (iF p2 l 0) x/\x.1.length=l.length):=by simp only[zVk];refine(aX p2 h2 hl2 l l [] 0 e rfl hl ho uT.nil (by simp)).mono λx hx=>?_;obtain⟨a1,a2,a3,a4⟩:=hx;exact⟨⟨a1,a3,λhe=>by simpa using a4 he⟩,by simpa using a2⟩
def zAF(l:List Tm)(t:Tm):Tm:=l.foldr (λa x=>.mk 4 0 [a,x]) t
theorem zSz(l:List Tm)(hl:l.length<=24)(ho:uT l):∀(m v:Nat)(t:Tm),v+m=l.length->t.Ok->zH (λq=>pM q l (v:Int) t.k t.n t.sub) (MT 0 (zAF (l.take m) t)):=by intro m;induction m with
 |zero=>
  intro v t hm ht;refine zH.succ ?_;simp only[pM,sX];refine zH.ite (λh=>?_) λ_=>?_;·have:=of_decide_eq_true h;omega
  ·refine zH.bind (P:=λb=>b=zG t) ((xM t ht).tot rfl) λr hr=>zH.ite (λh=>?_) λ_=>zH.ret ⟨wP 0 0,by simp,by simp⟩;refine zH.bind (P:=λx=>x=nZ t) ((sG t ht).tot rfl) λx hx=>zH.ret ?_;subst hx;have e:nZ t=t:=by unfold nZ;rw[if_pos (by rw[<-hr];exact h)]
   rw[e];exact⟨ht,by simp,λ_=>⟨rfl,by simp[zAF]⟩⟩|succ m ih=>
  intro v t hm ht;refine zH.succ ?_;simp only[pM,sX];refine zH.ite (λ_=>?_) λh=>?_
  ·have hlt:m<l.length:=by omega
   rw[yS (x:=(l.length:Int)-1) (by omega) (by omega),yS (x:=(l.length:Int)-1-v) (by omega) (by omega)];have hx:zS l ((l.length:Int)-1-v)=some l[m]:=by unfold zS;rw[if_pos (by omega),show((l.length:Int)-1-v).toNat=m by omega,List.getElem?_eq_getElem hlt]
   refine zH.pure hx (zH.bind (P:=λr=>r=Tm.mk 4 0 [l[m],t]) (zF.tot (zF.mk λ_=>rfl) rfl) λr hr=>?_);subst hr;rw[zU v (by omega)];refine(ih (v+1) _ (by omega) (eS (ho _ (List.getElem_mem hlt)) ht)).mono λx hx=>?_;have e:l.take (m+1)=l.take m++[l[m]]:=by rw[List.take_add_one,List.getElem?_eq_getElem hlt];rfl
   rw[e];unfold zAF at hx⊢;rw[List.foldr_append];exact hx
  ·have:=of_decide_eq_false h;omega
theorem zLY(t:Tm)(ht:t.Ok):∀(r l:List Tm)(v:Nat),l.drop v=r->l.length<=24->uT l->zH (λq=>pN q l t (v:Int)) (MT 0 (zAF l t))
 |[],l,v,hd,hl,ho=>by
  refine zH.succ ?_;simp only[pN];refine zH.ite (λh=>?_) λ_=>?_;·rw[zY hd]at h;cases h
  ·refine zH.bind (P:=λ_=>True) ((xM t ht).tot trivial) λr _=>zH.ite (λ_=>?_) λ_=>zH.ret ⟨wP 0 0,by simp,by simp⟩;have:=zSz l hl ho l.length 0 t (by omega) ht;rwa[List.take_length]at this|x::r,l,v,hd,hl,ho=>by
  have hlt:=yC hd;refine zH.succ ?_;simp only[pN];refine zH.ite (λ_=>?_) λh=>?_
  ·refine zH.pure (zV hd) (zH.bind (P:=λ_=>True) ((xM x (ho.at hd)).tot trivial) λ_ _=>zH.ite (λ_=>?_) λ_=>zH.ret ⟨wP 0 0,by simp,by simp⟩);rw[zU v (by omega)];exact zLY t ht r l (v+1) (zR hd) hl ho
  ·rw[zX hd]at h;cases h
theorem zSy(l:List Tm)(t:Tm)(ho:uT l)(ht:t.Ok):zH (λq=>zVl q l t) (MT 0 (zAF l t)):=by simp only[zVl];refine zH.bind (P:=MT 0 (zAF l t)) ?_ λx hx=>zH.ret hx;simp only[zAE];refine zH.ite (λ_=>zH.ret ⟨wP 0 0,by simp,by simp⟩) λh=>?_;have:=of_decide_eq_false h;exact zLY t ht l l 0 rfl (by omega) ho
def zHp(r:qJ):Prop:=uT r.around/\uT r.at'/\r.around.length<=1048576/\r.at'.length<=1048576
def zVb(head:Tm)(args outer:List Tm)(r:qJ)(a:Tm):Tm:=zAF (iF outer r.around 0) (.mk 5 0 [mA (mA head (upI r.around.length args)) (r.at'.map λt=>zHr t r.around.length outer),mA (aS a 0 0 r.around.length) (iE r.around.length)])
theorem zHo(p3:List Tm)(p4:qJ)(p5:Tm)(h3:uT p3)(hl3:p3.length<=1073741824)(h4:zHp p4)(h5:p5.Ok):∀(r:List Tm)(v:Nat)(e:Int)(t:Tm),p4.at'.drop v=r->t.Ok->zH (λq=>bD q p3 p4 p5 (v:Int) e t.k t.n t.sub) (MT e (zAF (iF p3 p4.around 0) (.mk 5 0 [mA t (r.map λt=>zHr t p4.around.length p3),mA (aS p5 0 0 p4.around.length) (iE p4.around.length)])))
 |[],v,e,t,hd,ht=>by
  refine zH.succ ?_;simp only[bD,sX];refine zH.ite (λh=>?_) λ_=>?_;·rw[zY hd]at h;cases h
  ·have:=h4.2.2.1;refine(zYV e p5 _ h5).bind λr12 h12=>zH.bind (P:=λx=>x=iE p4.around.length) ((zLX _ this).tot rfl) λr14 h14=>?_;subst h14;refine zH.bind (P:=λx=>x=mA r12.1 (iE p4.around.length)) ((qY r12.1 _ (by rw[zHt];omega)).tot rfl) λr16 h16=>?_;subst h16;refine zH.bind (P:=λx=>x=Tm.mk 5 0 [t,mA r12.1 (iE p4.around.length)]) ((Q7 t _).tot rfl) λr18 h18=>?_;subst h18;refine(zES r12.2 p4.around p3 h3 hl3 (by omega) h4.1).bind λr20 h20=>(zSy r20.1 _ h20.1.1 (eS ht (mL _ _ h12.1 (zLW _)))).bind λr22 h22=>(zER r20.2 r22.1 r22.2).bind λr24 h24=>zH.ret ?_;have m:=zJV h22 h24;refine⟨m.1,λhe=>m.2.1 (h20.1.2.1 (h12.2.1 he)),λhe=>?_⟩;have k:=m.2.2 he;have k20:=h20.1.2.2 k.1;have k12:=h12.2.2 k20.1;refine⟨k12.1,?_⟩;rw[k.2,k20.2,k12.2];rfl|x::r,v,e,t,hd,ht=>by
  have hlt:=yC hd;have:=h4.2.2.1;have:=h4.2.2.2;refine zH.succ ?_;simp only[bD,sX];refine zH.ite (λ_=>?_) λh=>?_
  ·refine zH.pure (zV hd) ((X6 e x _ p3 (h4.2.1.at hd) (by omega) h3 hl3).bind λr8 h8=>?_);refine zH.bind (P:=λx=>x=Tm.mk 5 0 [t,r8.1]) ((Q7 t r8.1).tot rfl) λr10 h10=>?_;subst h10;rw[zU v (by omega)];refine(zHo p3 p4 p5 h3 hl3 h4 h5 r (v+1) r8.2 (.mk 5 0 [t,r8.1]) (zR hd) (eS ht h8.1)).mono λy hy=>⟨hy.1,λhe=>hy.2.1 (h8.2.1 he),λhe=>?_⟩;have k:=hy.2.2 he;have k8:=h8.2.2 k.1;refine⟨k8.1,?_⟩;rw[k.2,k8.2,List.map_cons,mA]
  ·rw[zX hd]at h;cases h
theorem zAG(e:Int)(p1:Tm)(p2 p3:List Tm)(p4:qJ)(p5:Tm)(h1:p1.Ok)(h2:uT p2)(hl2:p2.length<=1073741824)(h3:uT p3)(hl3:p3.length<=1073741824)(h4:zHp p4)(h5:p5.Ok):zH (λq=>zVi q e p1 p2 p3 p4 p5) (MT e (zVb p1 p2 p3 p4 p5)):=by simp only[zVi];refine(zLV e p2 _ hl2 h2).bind λr1 hr1=>?_;refine zH.bind (P:=λx=>x=mA p1 r1.1) ((qY p1 r1.1 (by omega)).tot rfl) λr3 hr3=>?_;subst hr3;refine(zHo p3 p4 p5 h3 hl3 h4 h5 p4.at' 0 r1.2 (mA p1 r1.1) rfl (mL _ _ h1 hr1.1.1)).mono λy hy=>⟨hy.1,λhe=>hy.2.1 (hr1.1.2.1 he),λhe=>?_⟩;have k:=hy.2.2 he;have k1:=hr1.1.2.2 k.1;refine⟨k1.1,?_⟩;rw[k.2,k1.2];rfl
theorem zSx(e:Int)(t:Tm)(h:t.Ok):zH (λq=>zVf q e t) (λx=>x.1.Ok/\(e≠8->x.2.1≠8)/\(x.2.1=0->e=0/\x.1=t/\zG t=true)):=by
 simp only[zVf];refine zH.ite (λhe=>?_) λhe=>?_
 ·have he':e=0:=by simpa using he
  refine zH.bind (P:=λb=>b=zG t) ((xM t h).tot rfl) λb hb=>zH.ite (λhs=>?_) λ_=>zH.ret ⟨wP 0 0,by simp,by simp⟩;refine zH.ite (λh2=>absurd he' (by simpa using h2)) λ_=>zH.ret ⟨h,by simp,λ_=>⟨he',rfl,by rw[<-hb];exact hs⟩⟩
 ·have he':e≠0:=by simpa using he
  exact zH.ite (λ_=>zH.ret ⟨wP 0 0,id,λh0=>absurd h0 he'⟩) λh2=>absurd (by simpa using h2) he'
theorem zJX(l:List yI)(n kind:Int):zF (λq=>zOn q l n kind) (G5 l n kind):=by
 simp only[zOn];unfold G5;by_cases h:0<=n
 ·refine zF.ifT (decide_eq_true h) ?_;by_cases k:n<l.length;·exact zF.ifT (decide_eq_true k) (zF.pure (yT h k) (zF.ret.eq (by simp[h,k])))
  ·exact zF.ifF (decide_eq_false k) (zF.ret.eq (by simp[k]))
 ·exact zF.ifF (decide_eq_false h) (zF.ret.eq (by simp[h]))
theorem X7:∀(r l:List Tm)(v:Nat),l.drop v=r->l.length<=1073741824->uT l->zF (λq=>cZ q l (v:Int)) (r.all zG)
 |[],l,v,hd,hl,ho=>by refine zF.succ ?_;simp only[cZ];exact zF.ifF (zY hd) zF.ret|x::r,l,v,hd,hl,ho=>by
  have hlt:=yC hd;refine zF.succ ?_;simp only[cZ];refine zF.ifT (zX hd) (zF.pure (zV hd) ((xM x (ho.at hd)).bind ?_));by_cases h:zG x=true
  ·refine zF.ifT h ?_;rw[zU v (by omega)];exact(X7 r l (v+1) (zR hd) hl ho).eq (by simp[h])
  ·exact zF.ifF (by simpa using h) (zF.ret.eq (by simp[h]))
theorem C3(l:List Tm)(hl:l.length<=1073741824)(ho:uT l):zF (λq=>zOm q l) (l.all zG):=by simp only[zOm];exact X7 l l 0 rfl hl ho
def zJY(c:Nat)(rl:xH)(parts:sA)(b:Int)(a:yU):Option (Tm×Int):=zOn c rl b 4>>=λr1=>if r1 then zS rl b>>=λx4=>zS rl x4.fam>>=λx6=>if(a.length:Int)!=(x6.fields.length:Int)then some ((Tm.mk 0 0 []),5)else zOm c a>>=λr9=>if r9 then zS a x4.place>>=λx12=>some (x12,0)else some ((Tm.mk 0 0 []),5)else some ((Tm.mk 0 0 []),16)
theorem yEd{c rl parts b a}:Cz (zJY c rl parts b a) 257 [qR rl parts] [.mp 0 0,ai b,zN zA a .no] (λr=>.tup [yZ r.1,ai r.2]) (λ_=>[qR rl parts]) 0:=fw func257<|rK 2 [] zYP (λ_=>rH λ_ h5=>rS (oA 2 (wM (o:=.no) h5))<|rA 1 (wM (o:=.no)) λ_=>rB 2 (fE 1)<|rK 0 [] zYQ (λ_=>rS (oA 1 (wM (o:=.no) h5))<|rA 1 (xP (o:=.no)) λ_=>fE 2) λ_=>fE 2) λ_=>fE 2
def yCw(a:Nat)(b c:Int):Option (Tm):=zEG a c>>=λr1=>zGJ a 7 b [r1]>>=λr3=>some r3
theorem zVa{a b c}:Cz (yCw a b c) 268 [] [ai b,ai c] (λr=>yZ r) (λ_=>[]) 0:=fw func268<|rC 0 [] zJF λr1=>rS (oS 0 (xJ xY [r1]))<|rC 0 [] zJE λ_=>fE 1
def gL:Nat->xH->sA->Int->Int->yU->yU->tZ->Int->Int->Int->Int->yU->Option (Tm×Int)|0,_,_,_,_,_,_,_,_,_,_,_,_=>none|f+1,rl,parts,g,q,m,p,x12,a,b,c,d,e=>if decide (a<(x12.recs.length:Int))then zS x12.recs a>>=λx29=>if x29.is then zS rl g>>=λx32=>mU m 0 x32.pars>>=λx34=>yX 40 ([]:yU) x34>>=λl36=>mU p 0 a>>=λx39=>yX 40 l36 x39>>=λl41=>yCw f g q>>=λr44=>zS p a>>=λx46=>zVi f b r44 m l41 x29 x46>>=λr48=>zCo f (Tm.mk c d e) r48.1>>=λr50=>gL f rl parts g q m p x12 (xC (a+1)) r48.2 r50.k r50.n r50.sub else gL f rl parts g q m p x12 (xC (a+1)) b c d e else zVf f b (Tm.mk c d e)>>=λr52=>some (r52.1,r52.2.1)
def zJZ(f:Nat)(rl:xH)(parts:sA)(g q s:Int)(m p:yU):Option (Tm×Int):=zOn f rl g 1>>=λr1=>if r1 then if decide (q<0)then some ((Tm.mk 0 0 []),16)else if decide (q>7)then some ((Tm.mk 0 0 []),16)else zOn f rl s 2>>=λr6=>if r6 then zS rl s>>=λx9=>if x9.fam !=g then some ((Tm.mk 0 0 []),16)else zS parts s>>=λx12=>zS rl g>>=λx14=>if(m.length:Int)!=(xC ((xC (x14.pars+1))+(x14.cons.length:Int)))then some ((Tm.mk 0 0 []),5)else if(p.length:Int)!=(x12.args.length:Int)then some ((Tm.mk 0 0 []),5)else zOm f m>>=λr18=>if r18 then zOm f p>>=λr21=>if r21 then zS m (xC ((xC (x14.pars+1))+x9.place))>>=λx24=>aF f x24 p>>=λr26=>gL f rl parts g q m p x12 0 0 r26.k r26.n r26.sub else some ((Tm.mk 0 0 []),5)else some ((Tm.mk 0 0 []),5)else some ((Tm.mk 0 0 []),16)else some ((Tm.mk 0 0 []),16)
theorem zVA:∀f:Nat,∀rl parts g q m p x12 a b c d e,Lz (gL f rl parts g q m p x12 a b c d e) 1 f258 (pt 16777141 f258) (λj=>sp j 160 0 [(1,ai g),(2,ai q),(4,zN zA m .no),(5,zN zA p .no),(12,.mp 1 0),(14,zN xA rl .no),(16,.mp 2 0),(17,.mp 3 0),(118,zN A8 x12.recs .no),(119,ai (x12.recs.length:Int)),(120,ai a)]) ⟨[(0,qR rl parts),(1,.cells [ai 0,ai 0,zN zA ([]:yU) .nl]),(2,.cells [ai b]),(3,.cells [ai c,ai d,zN zA e .no])],4,[],0,[]⟩ (λr=>.tup [yZ r.1,ai r.2]) (λ_=>[qR rl parts]) 0 [.blk 0,.seq (pt 262143 f258)]:=xX (λ_ _ _ _ _ _ _ _ _ _ _ _=>lN) λf ih=>λrl parts g q m p x12 a b c d e=>lw λ_=>rB 0 (rA 0 (yBD (o:=.no)) λ_=>rB 2 (rA 1 (wM (o:=.no)) λ_=>rA 1 lZ λx34=>rH λ_ h37=>rZ (List.length x34=0) (λh38=>rS (oP 0 (nY h37 h38))<|rA 0 lZ λx39=>rH λ_ h42=>rZ (List.length x39=0) (λh43=>rS (oP 0 (nY h42 h43))<|rC 1 [] zVa λ_=>rA 1 (xP (o:=.no)) λ_=>rC 1 [2] zVg λ_=>rC 0 [] zCn λ_=>lH 2 [] [0,1,2,3] [] [1,2,4,5,12,14,16,17,118,119,120] (ih _ _ _ _ _ _ _ _ _ _ _ _)) λh43=>rS (oP 0 (vQ h42 h43))<|rC 1 [] zVa λ_=>rA 1 (xP (o:=.no)) λ_=>rC 1 [2] zVg λ_=>rC 0 [] zCn λ_=>lH 2 [] [0,1,2,3] [] [1,2,4,5,12,14,16,17,118,119,120] (ih _ _ _ _ _ _ _ _ _ _ _ _)) λh38=>rS (oP 0 (vQ h37 h38))<|rA 0 lZ λx39=>rH λ_ h42=>rZ (List.length x39=0) (λh43=>rS (oP 0 (nY h42 h43))<|rC 1 [] zVa λ_=>rA 1 (xP (o:=.no)) λ_=>rC 1 [2] zVg λ_=>rC 0 [] zCn λ_=>lH 2 [] [0,1,2,3] [] [1,2,4,5,12,14,16,17,118,119,120] (ih _ _ _ _ _ _ _ _ _ _ _ _)) λh43=>rS (oP 0 (vQ h42 h43))<|rC 1 [] zVa λ_=>rA 1 (xP (o:=.no)) λ_=>rC 1 [2] zVg λ_=>rC 0 [] zCn λ_=>lH 2 [] [0,1,2,3] [] [1,2,4,5,12,14,16,17,118,119,120] (ih _ _ _ _ _ _ _ _ _ _ _ _))<|lH 1 [] [0,1,2,3] [] [1,2,4,5,12,14,16,17,118,119,120] (ih _ _ _ _ _ _ _ _ _ _ _ _))<|rC 1 [2] yEe λ_=>lE 3
theorem yEc{f rl parts g q s m p}:Cz (zJZ f rl parts g q s m p) 258 [qR rl parts] [.mp 0 0,ai g,ai q,ai s,zN zA m .no,zN zA p .no] (λr=>.tup [yZ r.1,ai r.2]) (λ_=>[qR rl parts]) 0:=fw func258<|rK 2 [] zYP (λ_=>rB 1 (fE 1)<|rB 0 (fE 1)<|rK 0 [] zYP (λ_=>rH λ_ h10=>rS (oA 1 (wM (o:=.no) h10))<|rB 1 (fE 1)<|rA 1 (yBA (o:=.no)) λ_=>rH λ_ h15=>rS (oA 3 (wM (o:=.no) h15))<|rS (oA 2 (wM (o:=.no) h15))<|rB 3 (fE 1)<|rB 3 (fE 1)<|rK 0 [] zYQ (λ_=>rK 1 [] zYQ (λ_=>rS (oA 1 (wM (o:=.no) h15))<|rS (oA 2 (wM (o:=.no) h10))<|rA 2 (xP (o:=.no)) λ_=>rC 1 [] Z5 λ_=>fH 3 [] [0,1,3,4] [] [1,2,4,5,12,14,16,17,118,119,120] (zVA _ _ _ _ _ _ _ _ _ _ _ _ _)) λ_=>fE 2) λ_=>fE 2) λ_=>fE 2) λ_=>fE 2
theorem zVB(l:List yI)(i:Int)(h0:0<=i)(h1:i<l.length)(hk:(yA l i).kind=2):zS (kK l l.length 0) i=some (vN l i):=by unfold zS;rw[if_pos h0,zLR l l.length 0 i.toNat (by omega),show((0+i.toNat:Nat):Int)=i by omega,if_pos hk]
theorem zYW(l:List yI)(t:Tm)(of b:Int):zHp (zCj l t of b):=by
 unfold zCj;split
 ·rename_i h;have hw:=pK (t:=t) (l:=(xG t).1) (y:=(xG t).2.1) (by rw[<-h.1]);have hs:=zL hw.2.2.2.2.1;have hal:=sB _ hs.2.2;refine⟨λx hx=>yB (hw.2.2.2.2.2 x hx),λx hx=>yB (xN hw.2.2.2.2.1 (List.mem_of_mem_drop hx)),?_,?_⟩;·show(xG t).1.length<=_;omega
  ·show((xF (xG t).2.1).drop _).length<=_;rw[List.length_drop];omega
 ·exact⟨uT.nil,uT.nil,by simp,by simp⟩
theorem zLZ(l:List yI)(of:Int):∀(r:List Tm)(b:Int),∀x∈kH l of r b,zHp x
 |[],_,x,h=>nomatch h|a::r,b,x,h=>by
  rcases List.mem_cons.1 h with h|h;·rw[h];exact zYW l a of b
  ·exact zLZ l of r (b+1) x h
def zET(l:List yI)(i:Int)(a:List Tm)(x:Tm×Int):Prop:=x.1.Ok/\x.2≠8/\(x.2=0->(a.length:Int)=(yA l (yA l i).fam).fields.length/\0<=(yA l i).place/\(yA l i).place<a.length/\x.1=sQ a (yA l i).place)
theorem zOk{N:ByteArray->Bool}(l:List yI)(parts:List tZ)(i:Int)(a:List Tm)(hE:vA N l)(ho:uT a)(hl:a.length<=1073741824):zH (λq=>zJY q l parts i a) (zET l i a):=by
 simp only[zJY];have bad:∀e:Int,e≠8->e≠0->zET l i a (.mk 0 0 [],e):=λe h8 h0=>⟨wP 0 0,h8,λh=>absurd h h0⟩;refine zH.bind (P:=λb=>b=G5 l i 4) ((zJX l i 4).tot rfl) λb hb=>zH.ite (λhT=>?_) λ_=>zH.ret (bad _ (by decide) (by decide));rw[hT]at hb;have hi:=tL hb.symm;have hp:=(xS (hE.2 i hi.1 hi.2.1)).2.2.2.1 hi.2.2;unfold X5 at hp;simp only[Bool.and_eq_true]at hp;have hw:=pL hp.1;have h6:=hw.2.2.2.2.2;unfold zAA at h6;rw[if_pos hi.2.2]at h6;refine zH.pure (yT hi.1 hi.2.1) (zH.pure (yT hw.1 (by omega)) (zH.ite (λ_=>zH.ret (bad _ (by decide) (by decide))) λhn=>?_));have hn':(a.length:Int)=(yA l (yA l i).fam).fields.length:=by simpa using hn
 refine zH.bind (P:=λ_=>True) ((C3 a hl ho).tot trivial) λ_ _=>zH.ite (λ_=>?_) λ_=>zH.ret (bad _ (by decide) (by decide));have h7:(yA l i).place<a.length:=by omega
 have hx:=tX (l:=a) hw.2.2.2.2.1 h7;exact zH.pure hx (zH.ret ⟨ho _ (qM hw.2.2.2.2.1 h7),by simp,λ_=>⟨hn',hw.2.2.2.2.1,h7,rfl⟩⟩)
def gM(d lev:Int)(args own:List Tm)(pars:Nat):List qJ->Nat->Tm->Tm|[],_,t=>t|r::rs,v,t=>gM d lev args own pars rs (v+1) (if r.is=true then .mk 5 0 [t,zVb (.mk 7 d [.mk 2 lev []]) args (args.take pars++own.take v) r (sQ own v)]else t)
def zMz(l:List yI)(d lev c:Int)(args own:List Tm):Tm:=gM d lev args own (yA l d).pars.toNat (vN l c).recs 0 (mA (sQ args ((yA l d).pars+1+(yA l c).place)) own)
theorem zOj{N:ByteArray->Bool}(l:List yI)(parts:List tZ)(i p2:Int)(p4 p5:List Tm)(x:tZ)(hE:vA N l)(h0:0<=i)(h1:i<l.length)(hk:(yA l i).kind=1)(hp:(yA l i).pars<=p4.length)(hl4:p4.length<=65535)(h5:p5.length=x.recs.length)(hl5:p5.length<=65535)(ho4:uT p4)(ho5:uT p5)(hx:∀r∈x.recs,zHp r):∀(r:List qJ)(v:Nat)(e:Int)(t:Tm),x.recs.drop v=r->t.Ok->zH (λq=>gL q l parts i p2 p4 p5 x (v:Int) e t.k t.n t.sub) (λy=>y.1.Ok/\(e≠8->y.2≠8)/\(y.2=0->e=0/\y.1=gM i p2 p4 p5 (yA l i).pars.toNat r v t/\zG y.1=true)):=by have hf:=uC ((xS (hE.2 i h0 h1)).2.1 hk);intro r;induction r with
 |nil=>
  intro v e t hd ht;refine zH.succ ?_;simp only[gL,sX];refine zH.ite (λh=>?_) λ_=>(zSx e t ht).bind λr h=>zH.ret ⟨h.1,h.2.1,λh0=>?_⟩;·rw[zY hd]at h;cases h
  ·have k:=h.2.2 h0;exact⟨k.1,k.2.1,by show zG r.1=true;rw[k.2.1];exact k.2.2⟩|cons z r ih=>
  intro v e t hd ht;have hlt:=yC hd;have hz:z∈x.recs:=by
   have:z∈x.recs.drop v:=by rw[hd];simp
   exact List.mem_of_mem_drop this
  refine zH.succ ?_;simp only[gL,sX];refine zH.ite (λ_=>?_) λh=>?_
  ·refine zH.pure (zV hd) (zH.ite (λhzi=>?_) λhzi=>?_)
   ·refine zH.pure (yT h0 h1) (zH.pure (s8 (by omega) (by omega) hp) (zH.pure (yF (by simp<;>omega)) (zH.pure (s8 (by omega) (by omega) (by omega)) (zH.pure (yF (by simp<;>omega)) ?_))));refine zH.bind (P:=λy=>y=Tm.mk 7 i [Tm.mk 2 p2 []]) (zF.tot (r:=Tm.mk 7 i [Tm.mk 2 p2 []]) (zF.mk λ_=>rfl) rfl) λr44 h44=>?_;subst h44;have hnv:(v:Int)<p5.length:=by omega
    refine zH.pure (tX (l:=p5) (n:=(v:Int)) (by omega) hnv) ?_;refine(zAG e (.mk 7 i [.mk 2 p2 []]) p4 _ z (sQ p5 v) (zYS (wP _ _)) ho4 (by omega) ?_ ?_ (hx z hz) (ho5 _ (qM (by omega) hnv))).bind λr48 h48=>?_;·exact(uT.nil.app ((ho4.drop _).take _)).app ((ho5.drop _).take _)
    ·simp only[List.length_append,List.length_take,List.length_drop,List.length_nil];omega
    refine zH.bind (P:=λy=>y=Tm.mk 5 0 [t,r48.1]) ((Q7 t r48.1).tot rfl) λr50 h50=>?_;subst h50;rw[zU v (by omega)];refine(ih (v+1) r48.2 (.mk 5 0 [t,r48.1]) (zR hd) (eS ht h48.1)).mono λy hy=>⟨hy.1,λhe=>hy.2.1 (h48.2.1 he),λhe=>?_⟩;have k:=hy.2.2 he;have k4:=h48.2.2 k.1;refine⟨k4.1,?_,k.2.2⟩;rw[k.2.1,k4.2,gM,if_pos hzi];simp
   ·rw[zU v (by omega)];refine(ih (v+1) e t (zR hd) ht).mono λy hy=>⟨hy.1,hy.2.1,λhe=>?_⟩;have k:=hy.2.2 he;refine⟨k.1,?_,k.2.2⟩;rw[k.2.1,gM,if_neg (by simpa using hzi)]
  ·rw[zX hd]at h;cases h
def zKz(l:List yI)(d lev c:Int)(args own:List Tm)(x:Tm×Int):Prop:=x.1.Ok/\x.2≠8/\(x.2=0->(0<=lev/\lev<=7)/\G5 l d 1=true/\G5 l c 2=true/\(yA l c).fam=d/\(args.length:Int)=(yA l d).pars+1+(yA l d).cons.length/\own.length=(vN l c).args.length/\args.all zG=true/\own.all zG=true/\x.1=zMz l d lev c args own/\zG x.1=true)
theorem zSw{N:ByteArray->Bool}(l:List yI)(i p2 c:Int)(p4 p5:List Tm)(hE:vA N l)(ho4:uT p4)(ho5:uT p5)(hl4:p4.length<=65535)(hl5:p5.length<=65535):zH (λq=>zJZ q l (kK l l.length 0) i p2 c p4 p5) (zKz l i p2 c p4 p5):=by
 have bad:∀e:Int,e≠8->e≠0->zKz l i p2 c p4 p5 (.mk 0 0 [],e):=λe h8 h0=>⟨wP 0 0,h8,λh=>absurd h h0⟩;simp only[zJZ];refine zH.bind (P:=λb=>b=G5 l i 1) ((zJX l i 1).tot rfl) λb hb=>zH.ite (λhT=>?_) λ_=>zH.ret (bad _ (by decide) (by decide));rw[hT]at hb;have hi:=tL hb.symm;refine zH.ite (λ_=>zH.ret (bad _ (by decide) (by decide))) λhv0=>zH.ite (λ_=>zH.ret (bad _ (by decide) (by decide))) λhv1=>?_;have hv0':=of_decide_eq_false hv0;have hv1':=of_decide_eq_false hv1;refine zH.bind (P:=λb=>b=G5 l c 2) ((zJX l c 2).tot rfl) λb2 hb2=>zH.ite (λhT=>?_) λ_=>zH.ret (bad _ (by decide) (by decide));rw[hT]at hb2;have hc:=tL hb2.symm;have hf:=uC ((xS (hE.2 i hi.1 hi.2.1)).2.1 hi.2.2);obtain⟨A,y,hw,hy,hA,hAp,hA24,p0,p1,f0,f1,fk,fp,fi,fs,hap,q0,q1⟩:=uF hE hc.1 hc.2.1 hc.2.2;refine zH.pure (yT hc.1 hc.2.1) (zH.ite (λ_=>zH.ret (bad _ (by decide) (by decide))) λhn=>?_);have hfam:(yA l c).fam=i:=by simpa using hn
 refine zH.pure (zVB l c hc.1 hc.2.1 hc.2.2) (zH.pure (yT hi.1 hi.2.1) ?_);rw[hfam]at fp q1 fi fs;rw[yS (x:=(yA l i).pars+1) (by omega) (by omega),yS (x:=(yA l i).pars+1+(yA l i).cons.length) (by omega) (by omega),yS (x:=(yA l i).pars+1+(yA l c).place) (by omega) (by omega)];refine zH.ite (λ_=>zH.ret (bad _ (by decide) (by decide))) λhn4=>zH.ite (λ_=>zH.ret (bad _ (by decide) (by decide))) λhn5=>?_;have hn4':(p4.length:Int)=(yA l i).pars+1+(yA l i).cons.length:=by simpa using hn4
 have hn5':(p5.length:Int)=(vN l c).args.length:=by simpa using hn5
 refine zH.bind (P:=λb=>b=p4.all zG) ((C3 p4 (by omega) ho4).tot rfl) λb4 hb4=>zH.ite (λhs4=>?_) λ_=>zH.ret (bad _ (by decide) (by decide));refine zH.bind (P:=λb=>b=p5.all zG) ((C3 p5 (by omega) ho5).tot rfl) λb5 hb5=>zH.ite (λhs5=>?_) λ_=>zH.ret (bad _ (by decide) (by decide));have h7:(yA l i).pars+1+(yA l c).place<p4.length:=by omega
 refine zH.pure (tX (l:=p4) (by omega) h7) (zH.bind (P:=λz=>z=mA (sQ p4 ((yA l i).pars+1+(yA l c).place)) p5) ((qY _ p5 (by omega)).tot rfl) λr26 h26=>?_);subst h26;have hlen:(vN l c).recs.length=(vN l c).args.length:=by unfold vN;exact R5 l _ _ _
 refine(zOj l _ i p2 p4 p5 (vN l c) hE hi.1 hi.2.1 hi.2.2 (by omega) hl4 (by omega) hl5 ho4 ho5 (by unfold vN;exact zLZ l _ _ _) _ 0 0 _ rfl (mL _ _ (ho4 _ (qM (by omega) h7)) ho5)).mono λx hx=>⟨hx.1,hx.2.1 (by decide),λh0=>?_⟩;have k:=hx.2.2 h0;exact⟨⟨by omega,by omega⟩,hb.symm,hb2.symm,hfam,hn4',by omega,by rw[<-hb4];exact hs4,by rw[<-hb5];exact hs5,k.2.1,k.2.2⟩
section
variable{P:Int->Int->Prop}
theorem zMy{k:Int}{l:List Tm}(h:∀a∈l,xV P a):∀a∈upI k l,xV P a:=λa ha=>by obtain⟨x,hx,rfl⟩:=List.mem_map.1 ha;exact cX x 0 0 k (h x hx)
theorem zHn:∀m,∀a∈iE m,xV P a
 |0,a,h=>nomatch h|m+1,a,h=>by
  rcases List.mem_cons.1 h with rfl|h;·exact eQ (.inl rfl)
  ·exact zHn m a h
theorem zMx:∀m v,∀a∈vuT m v,xV P a
 |0,_,a,h=>nomatch h|m+1,v,a,h=>by
  rcases List.mem_cons.1 h with rfl|h;·exact eQ (.inl rfl)
  ·exact zMx m (v+1) a h
theorem zHm{t:Tm}{own:Nat}{outer:List Tm}(h:xV P t)(ho:∀a∈outer,xV P a):xV P (zHr t own outer):=by
 refine s7 _ (λa ha=>?_) t 0 h;rcases List.mem_append.1 ha with ha|ha;·exact zMx _ _ a ha
 ·exact zMy ho a (List.mem_reverse.1 ha)
theorem zDp{outer:List Tm}(ho:∀a∈outer,xV P a):∀(l:List Tm)(v:Nat),(∀a∈l,xV P a)->∀a∈iF outer l v,xV P a
 |[],v,h,a,ha=>nomatch ha|t::l,v,h,a,ha=>by
  rcases List.mem_cons.1 ha with rfl|ha;·exact zHm (h t (by simp)) ho
  ·exact zDp ho l (v+1) (λx hx=>h x (by simp[hx])) a ha
theorem zHl(h4:P 4 0):∀(l:List Tm)(t:Tm),(∀a∈l,xV P a)->xV P t->xV P (zAF l t)|[],t,_,ht=>ht|a::l,t,h,ht=>zEO (.inr h4) (h a (by simp)) (zHl h4 l t (λx hx=>h x (by simp[hx])) ht)
theorem zSv{head:Tm}{args outer:List Tm}{r:qJ}{a:Tm}(h4:P 4 0)(h5:P 5 0)(hh:xV P head)(hargs:∀a∈args,xV P a)(hout:∀a∈outer,xV P a)(hr:(∀t∈r.around,xV P t)/\∀t∈r.at',xV P t)(ha:xV P a):xV P (zVb head args outer r a):=by
 refine zHl h4 _ _ (zDp hout _ 0 hr.1) (zEO (.inr h5) ?_ ?_)
 ·refine gJ _ _ h5 (gJ _ _ h5 hh (zMy hargs)) λx hx=>?_;obtain⟨t,ht,rfl⟩:=List.mem_map.1 hx;exact zHm (hr.2 t ht) hout
 ·exact gJ _ _ h5 (cX a 0 0 _ ha) (zHn _)
theorem zEU{Q:Tm->Prop}{l:List Tm}{n:Int}(h:∀a∈l,Q a)(hz:Q zT):Q (sQ l n):=by unfold sQ;cases e:l[n.toNat]? with|none=>exact hz|some x=>exact h x (List.mem_of_getElem? e)
theorem zAH{d lev:Int}{args own:List Tm}{pars:Nat}(h4:P 4 0)(h5:P 5 0)(h0:P 0 0)(h2:P 2 lev)(h7:P 7 d)(hargs:∀a∈args,xV P a)(hown:∀a∈own,xV P a):∀(rs:List qJ)(v:Nat)(t:Tm),(∀r∈rs,(∀t∈r.around,xV P t)/\∀t∈r.at',xV P t)->xV P t->xV P (gM d lev args own pars rs v t)
 |[],v,t,_,ht=>ht|r::rs,v,t,hr,ht=>by
  rw[gM];refine zAH h4 h5 h0 h2 h7 hargs hown rs (v+1) _ (λx hx=>hr x (by simp[hx])) ?_;split
  ·refine zEO (.inr h5) ht (zSv h4 h5 (zYL (.inr h7) (eQ (.inr h2))) hargs ?_ (hr r (by simp)) (zEU hown (eQ (.inr h0))));intro a ha;rcases List.mem_append.1 ha with ha|ha;·exact hargs a (List.mem_of_mem_take ha)
   ·exact hown a (List.mem_of_mem_take ha)
  ·exact ht
theorem zOi{l:List yI}{d lev c:Int}{args own:List Tm}(h4:P 4 0)(h5:P 5 0)(h0:P 0 0)(h2:P 2 lev)(h7:P 7 d)(hargs:∀a∈args,xV P a)(hown:∀a∈own,xV P a)(hr:∀r∈(vN l c).recs,(∀t∈r.around,xV P t)/\∀t∈r.at',xV P t):xV P (zMz l d lev c args own):=zAH h4 h5 h0 h2 h7 hargs hown _ 0 _ hr (gJ _ _ h5 (zEU hargs (eQ (.inr h0))) hown)
theorem iG{t:Tm}{l:List Tm}{y:Tm}(h:xG t=(l,y,0)):xQ t=true/\mM l.length t=some (l,y):=by have hw:=pK h;have hg:=(zL hw.1).2.2;unfold xG uY at h;rw[if_pos hw.1,if_neg (by omega),if_neg (by omega)]at h;rw[show(((min (uJ t) 25:Nat):Int)).toNat=l.length by omega]at h;cases e:mM l.length t with|none=>rw[e]at h;simp[zEI]at h|some r=>rw[e]at h;simp only[zEI,List.nil_append,Prod.mk.injEq,and_true]at h;exact⟨hg,by rw[<-h.1,<-h.2]⟩
theorem zSu{l:List yI}{t:Tm}{of b:Int}(h:xV P t):(∀x∈(zCj l t of b).around,xV P x)/\∀x∈(zCj l t of b).at',xV P x:=by
 unfold zCj;split
 ·rename_i a;have hw:=iG (t:=t) (l:=(xG t).1) (y:=(xG t).2.1) (by rw[<-a.1]);have hs:=K8 _ _ _ hw.1 hw.2 h;have hy:=(zL (pK (t:=t) (l:=(xG t).1) (y:=(xG t).2.1) (by rw[<-a.1])).2.2.2.2.1).2.2;exact⟨hs.2,λx hx=>(nG _ hy hs.1).2 x (List.mem_of_mem_drop hx)⟩
 ·exact⟨λx hx=>(nomatch hx),λx hx=>(nomatch hx)⟩
theorem zDo{l:List yI}{of:Int}:∀(r:List Tm)(b:Int),(∀t∈r,xV P t)->∀x∈kH l of r b,(∀t∈x.around,xV P t)/\∀t∈x.at',xV P t
 |[],b,h,x,hx=>nomatch hx|a::r,b,h,x,hx=>by
  rcases List.mem_cons.1 hx with hx|hx;·rw[hx];exact zSu (h a (by simp))
  ·exact zDo r (b+1) (λt ht=>h t (by simp[ht])) x hx
theorem zKy{l:List yI}{i:Int}(hw:(xG (yA l i).type).2.2=0)(h:xV P (yA l i).type):∀r∈(vN l i).recs,(∀t∈r.around,xV P t)/\∀t∈r.at',xV P t:=by have hs:=iG (t:=(yA l i).type) (l:=(xG (yA l i).type).1) (y:=(xG (yA l i).type).2.1) (by rw[<-hw]);have ha:=K8 _ _ _ hs.1 hs.2 h;unfold vN;exact zDo _ _ λt ht=>ha.2 t (List.mem_of_mem_drop ht)
end
theorem zSt:∀(m v i:Nat)(h:i<(vuT m v).length),(vuT m v)[i]=.mk 1 ((v+i:Nat):Int) []|0,v,i,h=>by simp[vuT]at h|m+1,v,0,h=>by simp[vuT]|m+1,v,i+1,h=>by have:=zSt m (v+1) i (by simpa[vuT]using h);simp only[vuT,List.getElem_cons_succ];rw[this,show v+1+i=v+(i+1)by omega]
theorem zSs:∀(m:Nat)(k j:Int),(m:Int)<=k->∀a∈iE m,¬j∈sH a k
 |0,k,j,_,a,h=>nomatch h|m+1,k,j,hk,a,h=>by
  rcases List.mem_cons.1 h with rfl|h;·intro hj;have:=qT.1 hj;omega
  ·exact zSs m k j (by omega) a h
theorem zMw:∀(l:List Tm)(t:Tm)(d j:Int),j∈sH (zAF l t) d->(∃(i:Nat)(h:i<l.length),j∈sH l[i] (d+i))\/j∈sH t (d+l.length)
 |[],t,d,j,h=>.inr (by simpa[zAF]using h)|a::l,t,d,j,h=>by
  rcases zRT.1 h with h|h;·exact .inl ⟨0,by simp,by simpa using h⟩
  ·rcases zMw l t (d+1) j h with⟨i,hi,h⟩|h
   ·refine .inl ⟨i+1,by simp;omega,?_⟩;rw[show d+((i+1:Nat):Int)=d+1+i by omega];simpa using h
   ·refine .inr ?_;rw[show d+((a::l).length:Int)=d+1+l.length by simp;omega];exact h
theorem zSr{t:Tm}{own:Nat}{outer:List Tm}{j:Int}(hs:∀i∈sH t own,i<outer.length)(h:j∈sH (zHr t own outer) own):∃a∈outer,j∈sH a 0:=by
 have hj:=zAD _ _ _ h;have h0:j+own∈sH (zHr t own outer) 0:=((iD _ 0 own j (by omega)).1 (by rwa[Int.zero_add])).2;obtain⟨i,hi,h1⟩:=zRQ _ t 0 _ (Int.le_refl 0) h0;have hi0:=zAD _ _ _ hi;have hb:i<own+outer.length:=by
  by_cases hio:(own:Int)<=i
  ·have:=hs (i-own) (by have:=(iD t 0 own (i-own) (by omega)).2 ⟨by omega,by rwa[show i-own+own=i by omega]⟩;rwa[Int.zero_add]at this);omega
  ·omega
 have hlen:(vuT own 0++(upI own outer).reverse).length=own+outer.length:=by simp[L0,upI]
 rcases h1 with h1|⟨h1,h2⟩;·rw[hlen]at h1;omega
 ·by_cases hio:(own:Int)<=i
  ·rw[List.getElem_append_right (by rw[L0];omega)]at h2;have hm:=List.getElem_mem (l:=(upI own outer).reverse) (n:=i.toNat-(vuT own 0).length) (by rw[hlen]at h1;simp[L0,upI];omega);rw[List.mem_reverse]at hm;obtain⟨a,ha,e⟩:=List.mem_map.1 hm;rw[<-e]at h2;obtain⟨x,hx,e2⟩:=zXm a 0 0 own _ (by omega) h2;have:=zAD _ _ _ hx;rw[if_neg (by omega)]at e2;exact⟨a,ha,by rwa[show j=x by omega]⟩
  ·rw[List.getElem_append_left (by rw[L0];omega),zSt]at h2;have:=qT.1 h2;omega
theorem zAI(outer:List Tm):∀(l:List Tm)(v:Nat),(iF outer l v).length=l.length|[],_=>rfl|t::l,v=>congrArg (·+1) (zAI outer l (v+1))
theorem zHk(outer:List Tm):∀(l:List Tm)(v i:Nat)(h:i<(iF outer l v).length)(h':i<l.length),(iF outer l v)[i]=zHr l[i] (v+i) outer|[],v,i,h,h'=>by simp at h'|t::l,v,0,h,h'=>by simp[iF]|t::l,v,i+1,h,h'=>by simp only[iF,List.getElem_cons_succ];rw[zHk outer l (v+1) i _ (by simpa using h'),show v+1+i=v+(i+1)by omega]
def zHj(r:qJ)(n:Nat):Prop:=(∀(i:Nat)(h:i<r.around.length),∀j∈sH r.around[i] i,j<n)/\∀t∈r.at',∀j∈sH t r.around.length,j<n
theorem zYX{head:Tm}{args outer:List Tm}{r:qJ}{a:Tm}{j:Int}(hr:zHj r outer.length)(hh:∀d j,¬j∈sH head d)(h:j∈sH (zVb head args outer r a) 0):(∃x∈args,j∈sH x 0)\/(∃x∈outer,j∈sH x 0)\/j∈sH a 0:=by
 rcases zMw _ _ 0 j h with⟨i,hi,h⟩|h
 ·rw[zAI]at hi;rw[zHk outer r.around 0 i _ hi,Nat.zero_add,Int.zero_add]at h;exact .inr (.inl (zSr (hr.1 i hi) h))
 ·rw[zAI,Int.zero_add]at h;rcases R8.1 h with h|h
  ·rcases(zDs _ _ _ _).1 h with h|⟨x,hx,h⟩
   ·rcases(zDs _ _ _ _).1 h with h|⟨x,hx,h⟩;·exact absurd h (hh _ _)
    ·obtain⟨y,hy,rfl⟩:=List.mem_map.1 hx;exact .inl ⟨y,hy,zHx y 0 (r.around.length:Int) j (by omega) (by rwa[Int.zero_add])⟩
   ·obtain⟨y,hy,rfl⟩:=List.mem_map.1 hx;exact .inr (.inl (zSr (hr.2 y hy) h))
  ·rcases(zDs _ _ _ _).1 h with h|⟨x,hx,h⟩;·exact .inr (.inr (zHx a 0 (r.around.length:Int) j (by omega) (by rwa[Int.zero_add])))
   ·exact absurd h (zSs _ _ _ (Int.le_refl _) x hx)
theorem zSq{l:List Tm}{n d j:Int}(h:j∈sH (sQ l n) d):∃a∈l,j∈sH a d:=by unfold sQ at h;cases e:l[n.toNat]? with|none=>rw[e]at h;exact absurd h (zEP (by decide))|some x=>rw[e]at h;exact⟨x,List.mem_of_getElem? e,h⟩
theorem zHi{d lev:Int}{args own:List Tm}{pars:Nat}{j:Int}(hp:pars<=args.length):∀(rs:List qJ)(v:Nat)(t:Tm),v+rs.length<=own.length->(∀(i:Nat)(h:i<rs.length),zHj rs[i] (pars+(v+i)))->j∈sH (gM d lev args own pars rs v t) 0->j∈sH t 0\/(∃x∈args,j∈sH x 0)\/∃x∈own,j∈sH x 0
 |[],v,t,_,_,h=>.inl h|r::rs,v,t,hl,hr,h=>by
  rw[List.length_cons]at hl;rw[gM]at h;rcases zHi hp rs (v+1) _ (by omega) (λi hi=>by have:=hr (i+1) (by simp;omega);rw[show v+1+i=v+(i+1)by omega];simpa using this) h with h|h|h
  ·split at h
   ·rcases R8.1 h with h|h;·exact .inl h
    ·have hsc:=hr 0 (by simp);rcases zYX (j:=j) (by rw[List.length_append,List.length_take,List.length_take,show min pars args.length+min v own.length=pars+(v+0)by omega];simpa using hsc) (λd j=>yBZ (by decide)) h with h|⟨x,hx,h⟩|h;·exact .inr (.inl h)
     ·rcases List.mem_append.1 hx with hx|hx;·exact .inr (.inl ⟨x,List.mem_of_mem_take hx,h⟩)
      ·exact .inr (.inr ⟨x,List.mem_of_mem_take hx,h⟩)
     ·exact .inr (.inr (zSq h))
   ·exact .inl h
  ·exact .inr (.inl h)
  ·exact .inr (.inr h)
theorem zYY{l:List yI}{t:Tm}{of b:Int}{n:Nat}(h:∀j,j∈sH t 0->j<n):zHj (zCj l t of b) n:=by
 unfold zCj;split
 ·rename_i a;have hw:=iG (t:=t) (l:=(xG t).1) (y:=(xG t).2.1) (by rw[<-a.1]);have hy:=(zL (pK (t:=t) (l:=(xG t).1) (y:=(xG t).2.1) (by rw[<-a.1])).2.2.2.2.1).2.2;refine⟨λi hi j hj=>?_,λx hx j hj=>?_⟩;·exact h j ((zEQ _ _ _ hw.1 hw.2 0 j).2 i hi (by rwa[Int.zero_add]))
  ·exact h j ((zEQ _ _ _ hw.1 hw.2 0 j).1 (by rw[Int.zero_add];exact(K9 _ hy _ j).2 x (List.mem_of_mem_drop hx) hj))
 ·exact⟨λi hi=>by simp at hi,λx hx=>(nomatch hx)⟩
theorem zMv{l:List yI}{of:Int}:∀(r:List Tm)(B:Int)(b:Nat),(∀(i:Nat)(h:i<r.length),∀j,j∈sH r[i] 0->j<(b+i:Nat))->∀(i:Nat)(h:i<(kH l of r B).length),zHj (kH l of r B)[i] (b+i)|[],B,b,h,i,hi=>by simp[kH]at hi|a::r,B,b,h,0,hi=>by simp only[kH,List.getElem_cons_zero];exact zYY λj hj=>h 0 (by simp) j (by simpa using hj)|a::r,B,b,h,i+1,hi=>by simp only[kH,List.getElem_cons_succ];have:=zMv (l:=l) (of:=of) r (B+1) (b+1) (λi hi j hj=>by have:=h (i+1) (by simp;omega) j (by simpa using hj);omega) i (by simpa[kH]using hi);rw[show b+(i+1)=b+1+i by omega];exact this
theorem zSp{N:ByteArray->Bool}{l:List yI}{i:Int}(hE:vA N l)(h0:0<=i)(h1:i<l.length)(hk:(yA l i).kind=2):∀(v:Nat)(h:v<(vN l i).recs.length),zHj (vN l i).recs[v] ((yA l i).pars.toNat+v):=by
 obtain⟨A,y,hw,hy,hA,hAp,hA24,p0,p1,-⟩:=uF hE h0 h1 hk;have hc:=(xS (hE.2 i h0 h1)).1;have hs:=iG hw;have hsc:∀(n:Nat)(h:n<(A.drop (yA l i).pars.toNat).length),∀j,j∈sH (A.drop (yA l i).pars.toNat)[n] 0->j<((yA l i).pars.toNat+n:Nat):=λn h j hj=>by
  rw[List.getElem_drop]at hj;have hn:(yA l i).pars.toNat+n<A.length:=by simp at h;omega
  have hj0:=zAD _ _ _ hj;rcases Int.lt_or_le j (((yA l i).pars.toNat+n:Nat):Int)with hlt|hge;·exact hlt
  ·have h2:j-(((yA l i).pars.toNat+n:Nat):Int)∈sH A[(yA l i).pars.toNat+n] (0+(((yA l i).pars.toNat+n:Nat):Int)):=(iD _ 0 _ _ (by omega)).2 ⟨by omega,by rwa[show j-(((yA l i).pars.toNat+n:Nat):Int)+(((yA l i).pars.toNat+n:Nat):Int)=j by omega]⟩;have h3:=(zEQ _ _ _ hs.1 hs.2 0 _).2 _ hn h2;exact absurd h3 (zDr hc 0 _ (Int.le_refl 0))
 have hr:=zMv (l:=l) (of:=(yA l i).fam) (A.drop (yA l i).pars.toNat) (yA l i).pars (yA l i).pars.toNat hsc;have e:(vN l i).recs=kH l (yA l i).fam (A.drop (yA l i).pars.toNat) (yA l i).pars:=by unfold vN;rw[hw]
 intro v h;have:=hr v (by rw[<-e];exact h);simpa[e]using this
theorem zVC{N:ByteArray->Bool}{l:List yI}{d lev c:Int}{args own:List Tm}{j:Int}(hE:vA N l)(hc:G5 l c 2=true)(hf:(yA l c).fam=d)(ha:(args.length:Int)=(yA l d).pars+1+(yA l d).cons.length)(ho:own.length=(vN l c).args.length)(h:j∈sH (zMz l d lev c args own) 0):(∃x∈args,j∈sH x 0)\/∃x∈own,j∈sH x 0:=by
 have hi:=tL hc;obtain⟨A,y,hw,hy,hA,hAp,hA24,p0,p1,f0,f1,fk,fp,-⟩:=uF hE hi.1 hi.2.1 hi.2.2;rw[hf]at fp;have hlen:(vN l c).recs.length=(vN l c).args.length:=by unfold vN;exact R5 l _ _ _
 have hsc:=zSp hE hi.1 hi.2.1 hi.2.2;rcases zHi (pars:=(yA l d).pars.toNat) (by omega) _ 0 _ (by omega) (λi hi=>by have:=hsc i hi;rwa[fp,show(yA l d).pars.toNat+i=(yA l d).pars.toNat+(0+i)by omega]at this) h with h|h
 ·rcases(zDs _ _ _ _).1 h with h|h;·exact .inl (zSq h)
  ·exact .inr h
 ·exact h
def zAJ(c:Nat)(a b:Int):Option (Int):=some a
theorem zSo{c a b}:Cz (zAJ c a b) 142 [.cells [ai a,ai b]] [.mp 0 0] (λr=>ai r) (λ_=>[.cells [ai a,ai b]]) 0:=fw func142<|fE 1
def zAK(d:Nat)(a c b:Int):Option (Int×Int):=some ((xC (a+b)),(xC (a+b)))
theorem zSn{d a c b}:Cz (zAK d a c b) 143 [.cells [ai a,ai c]] [.mp 0 0,ai b] (λr=>ai r.1) (λr=>[.cells [ai r.2,ai c]]) 0:=fw func143<|fE 1
def zAL(d:Nat)(c a b:Int):Option (Int×Int):=some ((xC (a+b)),(xC (a+b)))
theorem zSm{d c a b}:Cz (zAL d c a b) 143 [.cells [ai c,ai a]] [.mp 0 1,ai b] (λr=>ai r.1) (λr=>[.cells [ai c,ai r.2]]) 0:=fw func143<|fE 1
def zYZ(d:Nat)(b a c:Int):Option (Int×Int×Int):=if decide (c<0)then some (8,b,a)else zAJ d b a>>=λr2=>if decide (c>r2)then some (8,b,a)else zAK d b a (xC (0-c))>>=λr5=>zAL d r5.2 a c>>=λr7=>some (0,r5.2,r7.2)
theorem yEb{d b a c}:Cz (zYZ d b a c) 107 [.cells [ai b,ai a]] [.mp 0 0,ai c] (λr=>ai r.1) (λr=>[.cells [ai r.2.1,ai r.2.2]]) 0:=fw func107<|rB 1 (fE 0)<|rC 0 [0] zSo λ_=>rB 0 (fE 0)<|rC 1 [0] zSn λ_=>rC 0 [0] zSm λ_=>fE 0
def zHh(b:Nat)(M:xK)(a:Tm):Option (Int):=if a.k !=6 then some 0 else if decide (a.n>=(M.l.length:Int))then some 0 else zS M.l a.n>>=λx3=>some x3.kind
theorem zSl{b M a}:Cz (zHh b M a) 206 [mB M 1,mR M] [.mp 0 0,yZ a] (λr=>ai r) (λ_=>[mB M 1,mR M]) 0:=fw func206<|rB 1 (fE 0)<|rB 3 (fE 0)<|rA 2 (wM (o:=.no)) λ_=>fE 1
def zOh(a:Nat)(M:xK)(b:Tm):Option (Int×yU×Bool):=B9 a b>>=λr1=>zHh a M r1.1>>=λr3=>if r3 !=2 then some (0,[],false)else zS M.own r1.1.n>>=λx6=>if(r1.2.length:Int)!=x6 then some (0,[],false)else some (r1.1.n,r1.2,true)
theorem zZz{a M b}:Cz (zOh a M b) 187 [mB M 1,mR M] [.mp 0 0,yZ b] (λr=>.tup [ai r.1,.sl (zC zA r.2.1) r.2.1.length .no,ab r.2.2]) (λ_=>[mB M 1,mR M]) 0:=fw func187<|rC 1 [] zGI λ_=>rC 4 [0,1] zSl λ_=>rB 0 (fE 0)<|rA 3 (oV (o:=.no)) λ_=>rB 1 (fE 0)<|fE 1
def Z7(b:Nat)(a:Tm):Option (Tm×Int):=cG b a>>=λr1=>if r1 then some (a,0)else some ((Tm.mk 0 0 []),2)
theorem zKx{b a}:Cz (Z7 b a) 249 [] [yZ a] (λr=>.tup [yZ r.1,ai r.2]) (λ_=>[]) 0:=fw func249<|rK 1 [] aR (λ_=>fE 3) λ_=>fE 2
def e76(c:Nat)(a b:Int):Option (Int×Int×Int):=zYZ c a b 1>>=λr1=>some (r1.1,r1.2.1,r1.2.2)
theorem c76{c a b}:Cz (e76 c a b) 76 [.cells [ai a,ai b]] [.mp 0 0] (λr=>ai r.1) (λr=>[.cells [ai r.2.1,ai r.2.2]]) 0:=fw func76<|rC 0 [0] yEb λ_=>fE 0
def yCv{ρ:Type}(f:Int->Int->Nat->Option ρ)(er:ρ->Int)(R:Int->Int->ρ)(k:Int):Prop:=(∀L U,k<=L->0<=U->L+U<=1099511627776->zF (f L U) (R (L-k) (U+k)))/\(∀L U,0<=L->L<k->0<=U->L+U<=1099511627776->∃r,zF (f L U) r/\er r=8)
def zZy{ρ:Type}(f:Int->Int->Nat->Option ρ)(er:ρ->Int)(l:Int):Prop:=∀U,0<=U->l+U<=1099511627776->∃r,zF (f l U) r/\er r=8
def Ou{ρ:Type}(f:Int->Int->Nat->Option ρ)(er:ρ->Int)(Q:(Int->Int->ρ)->Int->Prop)(S:Prop)(l:Int):Prop:=(∃R k,0<=k/\k<=l/\Q R k/\yCv f er R k)\/(zZy f er l/\S)
section
variable{ρ σ τ:Type}{er:ρ->Int}{er':σ->Int}{Q:(Int->Int->ρ)->Int->Prop}{Q':(Int->Int->σ)->Int->Prop}{S S':Prop}{l:Int}
theorem Ou.imp{f g:Int->Int->Nat->Option ρ}(h:Ou f er Q S l)(k:∀L U r,zF (f L U) r->zF (g L U) r):Ou g er Q S l:=by
 rcases h with⟨R,n,h0,h1,h2,h3,h4⟩|⟨h,s⟩;·exact .inl ⟨R,n,h0,h1,h2,λL U a b c=>k _ _ _ (h3 L U a b c),λL U a b c d=>by obtain⟨r,x,y⟩:=h4 L U a b c d;exact⟨r,k _ _ _ x,y⟩⟩
 ·exact .inr ⟨λU a b=>by obtain⟨r,x,y⟩:=h U a b;exact⟨r,k _ _ _ x,y⟩,s⟩
theorem Ou.mono{f:Int->Int->Nat->Option ρ}{Q2:(Int->Int->ρ)->Int->Prop}(h:Ou f er Q S l)(k:∀R n,0<=n->n<=l->Q R n->Q2 R n)(hs:S->S'):Ou f er Q2 S' l:=by
 rcases h with⟨R,n,h0,h1,h2,h3⟩|⟨h,s⟩;·exact .inl ⟨R,n,h0,h1,k R n h0 h1 h2,h3⟩
 ·exact .inr ⟨h,hs s⟩
theorem Ou.succ{f:Int->Int->Nat->Option ρ}(h:Ou (λL U q=>f L U (q+1)) er Q S l):Ou f er Q S l:=h.imp λ_ _ _ h=>h.succ
theorem Ou.pure{x:Option τ}{a:τ}{c:Int->Int->Nat->τ->Option ρ}(h:x=some a)(g:Ou (λL U q=>c L U q a) er Q S l):Ou (λL U q=>x>>=c L U q) er Q S l:=g.imp λ_ _ _ k=>zF.pure h k
theorem Ou.evt{x:Nat->Option τ}{a:τ}{c:Int->Int->Nat->τ->Option ρ}(h:zF x a)(g:Ou (λL U q=>c L U q a) er Q S l):Ou (λL U q=>x q>>=c L U q) er Q S l:=g.imp λ_ _ _ k=>zF.bind h k
theorem Ou.ite{b:Bool}{f g:Int->Int->Nat->Option ρ}(h:b=true->Ou f er Q S l)(k:b=false->Ou g er Q S l):Ou (λL U q=>if b=true then f L U q else g L U q) er Q S l:=by cases b with|true=>exact(h rfl).imp λ_ _ _ x=>zF.ifT rfl x|false=>exact(k rfl).imp λ_ _ _ x=>zF.ifF rfl x
theorem Ou.ifT{b:Bool}{f g:Int->Int->Nat->Option ρ}(h:b=true)(k:Ou f er Q S l):Ou (λL U q=>if b=true then f L U q else g L U q) er Q S l:=Ou.ite (λ_=>k) λh'=>by rw[h]at h';cases h'
theorem Ou.ifF{b:Bool}{f g:Int->Int->Nat->Option ρ}(h:b=false)(k:Ou g er Q S l):Ou (λL U q=>if b=true then f L U q else g L U q) er Q S l:=Ou.ite (λh'=>by rw[h]at h';cases h') λ_=>k
theorem Ou.ret{R:Int->Int->ρ}(h:0<=l)(k:Q R 0):Ou (λL U _=>some (R L U)) er Q S l:=.inl ⟨R,0,by omega,h,k,λL U _ _ _=>by rw[show L-0=L by omega,show U+0=U by omega];exact zF.ret,λL U _ _=>by omega⟩
theorem Ou.bind{f:Int->Int->Nat->Option ρ}{c:Nat->ρ->Option σ}(h:Ou f er Q S l)(hs:S->S')(he:∀r,er r=8->∃r',zF (λq=>c q r) r'/\er' r'=8)(hg:∀R k,0<=k->k<=l->Q R k->Ou (λL U q=>c q (R L U)) er' (λR' n=>Q' R' (k+n)) S' (l-k)):Ou (λL U q=>f L U q>>=c q) er' Q' S' l:=by
 rcases h with⟨R,k,h0,h1,h2,h3,h4⟩|⟨h,s⟩
 ·rcases hg R k h0 h1 h2 with⟨R',n,g0,g1,g2,g3,g4⟩|⟨g,s⟩
  ·refine .inl ⟨R',k+n,by omega,by omega,g2,λL U a b c=>?_,λL U a b c d=>?_⟩
   ·have:=g3 (L-k) (U+k) (by omega) (by omega) (by omega);rw[show L-(k+n)=L-k-n by omega,show U+(k+n)=U+k+n by omega];exact(h3 L U (by omega) b c).bind this
   ·by_cases e:L<k
    ·obtain⟨r,x,y⟩:=h4 L U a e c d;obtain⟨r',x',y'⟩:=he r y;exact⟨r',x.bind x',y'⟩
    ·obtain⟨r',x',y'⟩:=g4 (L-k) (U+k) (by omega) (by omega) (by omega) (by omega);exact⟨r',(h3 L U (by omega) c d).bind x',y'⟩
  ·refine .inr ⟨λU a b=>?_,s⟩;obtain⟨r',x',y'⟩:=g (U+k) (by omega) (by omega);exact⟨r',(h3 l U h1 a b).bind x',y'⟩
 ·refine .inr ⟨λU a b=>?_,hs s⟩;obtain⟨r,x,y⟩:=h U a b;obtain⟨r',x',y'⟩:=he r y;exact⟨r',x.bind x',y'⟩
end
theorem zAM(L U:Int)(h0:0<=L)(h1:0<=U)(h2:L+U<=1099511627776):zF (λq=>e76 q L U) (if 1<=L then(0,L-1,U+1)else(8,L,U)):=by
 simp only[e76,zYZ,zAJ,zAK,zAL];refine zF.bind (a:=if 1<=L then(0,L-1,U+1)else(8,L,U)) ?_ zF.ret;refine zF.ifF (by decide) (zF.pure rfl ?_);by_cases h:1<=L
 ·rw[if_pos h];refine zF.ifF (decide_eq_false (by omega)) (zF.pure rfl (zF.pure rfl (zF.ret.eq ?_)));have e:xC (0-1)=-1:=by decide
  rw[e,yS (x:=U+1) (by omega) (by omega)];show((0:Int),xC (L+-1),U+1)=_;rw[yS (by omega) (by omega)];rfl
 ·rw[if_neg h];exact zF.ifT (decide_eq_true (by omega)) zF.ret
theorem zMu(l:Int)(h:0<=l):Ou (λL U q=>e76 q L U) (λr=>r.1) (λR k=>k=1/\R=λL U=>(0,L,U)) (l<1) l:=by
 by_cases h1:1<=l;·refine .inl ⟨λL U=>(0,L,U),1,by omega,h1,⟨rfl,rfl⟩,λL U a b c=>(zAM L U (by omega) b c).eq (if_pos a),λL U a b c d=>⟨_,zAM L U a c d,?_⟩⟩;rw[if_neg (by omega)]
 ·refine .inr ⟨λU a b=>⟨_,zAM l U h a b,?_⟩,by omega⟩;rw[if_neg h1]
def qP(l:List yI)(t:Tm):Int:=if t.k=6 then(if t.n<l.length then(yA l t.n).kind else 0)else 0
theorem eT(l:List yI)(t:Tm)(h:0<=t.n):zF (λq=>zHh q (xI l) t) (qP l t):=by
 simp only[zHh,xI];unfold qP;by_cases k:t.k=6
 ·rw[if_pos k];refine zF.ifF (by simp[k]) ?_;by_cases n:t.n<l.length;·rw[if_pos n];exact zF.ifF (decide_eq_false (by omega)) (zF.pure (yT h n) zF.ret)
  ·rw[if_neg n];exact zF.ifT (decide_eq_true (by omega)) zF.ret
 ·rw[if_neg k];exact zF.ifT (by simp[k]) zF.ret
theorem tM{l:List yI}{t:Tm}{k:Int}(h:qP l t=k)(hk:k≠0):t.k=6/\t.n<l.length/\(yA l t.n).kind=k:=by
 unfold qP at h;split at h
 ·rename_i a;split at h;·rename_i b;exact⟨a,b,h⟩
  ·exact absurd h.symm hk
 ·exact absurd h.symm hk
def zZx(t:Tm):Tm×Int:=if zG t=true then(t,0)else(zT,2)
theorem zKw(t:Tm)(ho:t.Ok):zF (λq=>Z7 q t) (zZx t):=by
 simp only[Z7];refine(xM t ho).bind ?_;unfold zZx;by_cases h:zG t=true;·rw[if_pos h,if_pos h];exact zF.ret
 ·rw[if_neg h,if_neg h];exact zF.ret
theorem gN{t:Tm}(h:xQ t=true):0<=t.n:=by obtain⟨k,n,l⟩:=t;exact(jH (uB h).1).1
theorem zVE{l:List yI}{i:Int}(h0:0<=i)(h1:i<l.length):zS (xI l).own i=some (qD (yA l i)):=by have h:=yT (l:=l) h0 h1;unfold zS at h⊢;rw[if_pos h0]at h⊢;show(l.map qD)[i.toNat]?=_;rw[List.getElem?_map,h];rfl
theorem zSk{l:List yI}{i:Int}(h0:0<=i)(h1:i<l.length):zS (xI l).args i=some (wZ (yA l i)):=by have h:=yT (l:=l) h0 h1;unfold zS at h⊢;rw[if_pos h0]at h⊢;show(l.map wZ)[i.toNat]?=_;rw[List.getElem?_map,h];rfl
def vV(l:List yI)(t:Tm):Prop:=qP l (yK t)=2/\(xF t).length=uJ (yA l (yK t).n).type
instance(l:List yI)(t:Tm):Decidable (vV l t):=inferInstanceAs(Decidable (_/\_))
def kP(l:List yI)(t:Tm):Int×List Tm×Bool:=if vV l t then((yK t).n,xF t,true)else(0,[],false)
theorem s9(l:List yI)(t:Tm)(hs:zG t=true):zF (λq=>zOh q (xI l) t) (kP l t):=by
 simp only[zOh];have hn:=gN (zL (tS hs)).2.2;refine(kD t hs).bind ((eT l _ hn).bind ?_);by_cases h:qP l (yK t)=2
 ·have hk:=tM h (by decide);refine zF.ifF (by simp[h]) (zF.pure (zVE hn hk.2.1) ?_);have e:qD (yA l (yK t).n)=uJ (yA l (yK t).n).type:=by unfold qD;rw[if_pos hk.2.2]
  by_cases h2:(xF t).length=uJ (yA l (yK t).n).type
  ·have c:kP l t=((yK t).n,xF t,true):=if_pos ⟨h,h2⟩;rw[c];exact zF.ifF (by rw[e];simp[h2]) zF.ret
  ·have c:kP l t=(0,[],false):=if_neg (λh'=>h2 h'.2);rw[c];exact zF.ifT (by rw[e];simp;omega) zF.ret
 ·have c:kP l t=(0,[],false):=if_neg (λh'=>h h'.1);rw[c];exact zF.ifT (by simp[h]) zF.ret
theorem uD{l:List yI}{t:Tm}(hs:zG t=true)(h:vV l t):0<=(yK t).n/\(yK t).n<l.length/\(yA l (yK t).n).kind=2/\(xF t).length=uJ (yA l (yK t).n).type:=by have hk:=tM h.1 (by decide);exact⟨gN (zL (tS hs)).2.2,hk.2.1,hk.2.2,h.2⟩
def L2(b:Nat)(a:Int)(d:Bool)(e f g:Int)(m:yU)(c:Tm)(n:Int):Option (Tm×Int×Bool):=zNL b c>>=λr1=>if decide ((xC (a-r1))<0)then zEG b 0>>=λr4=>some (r4,(xC (a-r1)),true)else zJG b c n>>=λr6=>if r6.2 !=0 then zEG b 0>>=λr9=>some (r9,(xC (a-r1)),true)else some (r6.1,(xC (a-r1)),d)
theorem zSj{b a d e f g m c n}:Cz (L2 b a d e f g m c n) 139 [.cells [ai a,ab d,.clo 218 [] [.mp 1 0,.mp 2 0,.mp 3 0]],.cells [ai e],.cells [.mp 0 0],.cells [ai f,ai g,zN zA m .no]] [.mp 0 0,yZ c,ai n] (λr=>yZ r.1) (λr=>[.cells [ai r.2.1,ab r.2.2,.clo 218 [] [.mp 1 0,.mp 2 0,.mp 3 0]],.cells [ai e],.cells [.mp 0 0],.cells [ai f,ai g,zN zA m .no]]) 0:=fw func139<|rS (jL 0)<|rC 1 [] zYp λ_=>rB 3 (rC 1 [] zJF λ_=>fE 1)<|rC 1 [] zUb λ_=>rB 3 (rC 1 [] zJF λ_=>fE 1)<|fE 2
def L3(p:Nat)(g:Tm)(m a b:Int)(c:Bool)(d e:Int)(f:yU):Option (Tm×Bool×Int×Bool):=if g.k !=8 then some ((Tm.mk 0 0 []),false,b,c)else if g.n !=a then some ((Tm.mk 0 0 []),false,b,c)else L2 p b c a d e f (Tm.mk d e f) m>>=λr3=>some (r3.1,true,r3.2.1,r3.2.2)
theorem zSi{p g m a b c d e f}:Cz (L3 p g m a b c d e f) 218 [.cells [ai a],.cells [.mp 2 0],.cells [ai b,ab c,.clo 218 [] [.mp 0 0,.mp 1 0,.mp 3 0]],.cells [ai d,ai e,zN zA f .no]] [yZ g,ai m,.mp 0 0,.mp 1 0,.mp 3 0] (λr=>.tup [yZ r.1,ab r.2.1]) (λr=>[.cells [ai a],.cells [.mp 2 0],.cells [ai r.2.2.1,ab r.2.2.2,.clo 218 [] [.mp 0 0,.mp 1 0,.mp 3 0]],.cells [ai d,ai e,zN zA f .no]]) 0:=fw func218<|rB 1 (fE 1)<|rB 2 (fE 1)<|rC 2 [2,0,1,3] zSj λ_=>fE 1
mutual def mE:Nat->Int->Bool->Int->Int->Int->yU->Tm->Int->Option (Tm×Int×Bool)|0,_,_,_,_,_,_,_,_=>none|s+1,u,t,e,f,g,m,d,p=>if t then zEG s 0>>=λr2=>some (r2,u,t)else L3 s d p e u t f g m>>=λr4=>if r4.2.1 then some (r4.1,r4.2.2.1,r4.2.2.2)else if decide ((xC (r4.2.2.1-1))<0)then tD s e f g m d p 0 (xC (r4.2.2.1-1)) true []else tD s e f g m d p 0 (xC (r4.2.2.1-1)) r4.2.2.2 []def tD:Nat->Int->Int->Int->yU->Tm->Int->Int->Int->Bool->yU->Option (Tm×Int×Bool)
 |0,_,_,_,_,_,_,_,_,_,_=>none|s+1,e,f,g,m,d,p,q,a,b,c=>if decide (q<(d.sub.length:Int))then zS d.sub q>>=λx9=>if q==1 then if d.k !=5 then mE s a b e f g m x9 (xC (p+1))>>=λr13=>yX 40 c [r13.1]>>=λl15=>tD s e f g m d p (xC (q+1)) r13.2.1 r13.2.2 l15 else mE s a b e f g m x9 p>>=λr17=>yX 40 c [r17.1]>>=λl19=>tD s e f g m d p (xC (q+1)) r17.2.1 r17.2.2 l19 else mE s a b e f g m x9 p>>=λr21=>yX 40 c [r21.1]>>=λl23=>tD s e f g m d p (xC (q+1)) r21.2.1 r21.2.2 l23 else some ((Tm.mk d.k d.n c),a,b)end
theorem aI:∀s:Nat,(∀u t e f g m d p,Cz (mE s u t e f g m d p) 181 [.cells [ai u,ab t,.clo 218 [] [.mp 1 0,.mp 2 0,.mp 3 0]],.cells [ai e],.cells [.mp 0 0],.cells [ai f,ai g,zN zA m .no]] [.mp 0 0,yZ d,ai p] (λr=>yZ r.1) (λr=>[.cells [ai r.2.1,ab r.2.2,.clo 218 [] [.mp 1 0,.mp 2 0,.mp 3 0]],.cells [ai e],.cells [.mp 0 0],.cells [ai f,ai g,zN zA m .no]]) 0)/\(∀e f g m d p q a b c,Lz (tD s e f g m d p q a b c) 4 f181 (pt 262069 f181) (λj=>sp j 79 0 [(0,.mp 0 0),(2,ai p),(4,.mp 4 0),(6,.mp 5 0),(9,.mp 6 0),(51,zN zA d.sub .no),(52,ai (d.sub.length:Int)),(53,ai q)]) ⟨[(0,.cells [ai a,ab b,.clo 218 [] [.mp 1 0,.mp 2 0,.mp 3 0]]),(1,.cells [ai e]),(2,.cells [.mp 0 0]),(3,.cells [ai f,ai g,zN zA m .no]),(4,.cells [ai d.k,ai d.n,zN zA d.sub .no]),(5,.cells [ai 0,ai 0,zN zA ([]:yU) .nl]),(6,.cells [ai d.k,ai d.n,zN zA c (.st 0 3)])],7,[0],1,[]⟩ (λr=>yZ r.1) (λr=>[.cells [ai r.2.1,ab r.2.2,.clo 218 [] [.mp 1 0,.mp 2 0,.mp 3 0]],.cells [ai e],.cells [.mp 0 0],.cells [ai f,ai g,zN zA m .no]]) 0 [.blk 0,.seq (pt 4095 f181)]):=xX ⟨λ_ _ _ _ _ _ _ _=>cN,λ_ _ _ _ _ _ _ _ _ _=>lN⟩ λs ih=>⟨λu t e f g m d p=>fw func181<|rB 0 (rC 0 [] zJF λ_=>fE 1)<|rC 2 [1,2,0,3] zSi λ_=>rB 1 (fE 3)<|rB 5 (fH 6 [(some 7,2,3)] [0,1,2,3,4,5,7] [0] [0,2,4,6,9,51,52,53] (ih.2 _ _ _ _ _ _ _ _ _ _))<|fH 5 [(some 7,2,3)] [0,1,2,3,4,5,7] [0] [0,2,4,6,9,51,52,53] (ih.2 _ _ _ _ _ _ _ _ _ _),λe f g m d p q a b c=>lw λ_=>rB 0 (rA 0 (xP (o:=.no)) λ_=>rB 2 (rB 1 (rS (jL 1)<|rC 1 [0,1,2,3] (ih.1 _ _ _ _ _ _ _ _) λr13=>rS (oS 0 (xJ xY [r13.1]))<|rW (λh16=>oP 0 (vQ h16 (by simp))) λ_=>lH 2 [] [0,1,2,3,4,5,6] [1] [0,2,4,6,9,51,52,53] (ih.2 _ _ _ _ _ _ _ _ _ _))<|rS (jL 0)<|rC 1 [0,1,2,3] (ih.1 _ _ _ _ _ _ _ _) λr17=>rS (oS 0 (xJ xY [r17.1]))<|rW (λh20=>oP 0 (vQ h20 (by simp))) λ_=>lH 2 [] [0,1,2,3,4,5,6] [1] [0,2,4,6,9,51,52,53] (ih.2 _ _ _ _ _ _ _ _ _ _))<|rS (jL 0)<|rC 1 [0,1,2,3] (ih.1 _ _ _ _ _ _ _ _) λr21=>rS (oS 0 (xJ xY [r21.1]))<|rW (λh24=>oP 0 (vQ h24 (by simp))) λ_=>lH 2 [] [0,1,2,3,4,5,6] [1] [0,2,4,6,9,51,52,53] (ih.2 _ _ _ _ _ _ _ _ _ _))<|lE 2⟩
theorem zSh{s u t e f g m d p}:Cz (mE s u t e f g m d p) 181 [.cells [ai u,ab t,.clo 218 [] [.mp 1 0,.mp 2 0,.mp 3 0]],.cells [ai e],.cells [.mp 0 0],.cells [ai f,ai g,zN zA m .no]] [.mp 0 0,yZ d,ai p] (λr=>yZ r.1) (λr=>[.cells [ai r.2.1,ab r.2.2,.clo 218 [] [.mp 1 0,.mp 2 0,.mp 3 0]],.cells [ai e],.cells [.mp 0 0],.cells [ai f,ai g,zN zA m .no]]) 0:=(aI _).1 _ _ _ _ _ _ _ _
theorem zHf:∀{l:List Tm}{t:Tm},mW l->t.Ok->mW (l++[t])|[],t,_,h=>⟨h,trivial⟩|a::l,t,h,ht=>⟨h.1,zHf h.2 ht⟩
def zHe(g:Nat)(a:Int)(b:Bool)(c d e:Int)(f:yU):Option (Unit):=some ()
theorem zSg{g a b c d e f}:Cz (zHe g a b c d e f) 217 [.cells [ai a,ab b,.val .nilFunc],.cells [ai c],.cells [ai d,ai e,zN zA f .no]] [.mp 0 0,.mp 1 0,.mp 2 0] (λ_=>.clo 218 [] [.mp 1 0,.mp 3 0,.mp 2 0]) (λ_=>[.cells [ai a,ab b,.val .nilFunc],.cells [ai c],.cells [ai d,ai e,zN zA f .no],.cells [.mp 0 0]]) 0:=fw func217<|fF 0 [0,1,2,3]
def zAN(e:Nat)(f:Tm)(a b c:Int)(d:yU):Option (Tm×Int):=zHe e 8192 false a b c d>>=λr1=>mE e 8192 false a b c d f 0>>=λr3=>if r3.2.2 then some ((Tm.mk 0 0 []),2)else cG e r3.1>>=λr6=>if r6 then some (r3.1,0)else some ((Tm.mk 0 0 []),2)
theorem zSf{e f a b c d}:Cz (zAN e f a b c d) 135 [.cells [ai a],.cells [ai b,ai c,zN zA d .no]] [yZ f,.clo 217 [] [.mp 0 0,.mp 1 0]] (λr=>.tup [yZ r.1,ai r.2]) (λ_=>[.cells [ai a],.cells [ai b,ai c,zN zA d .no]]) 0:=fw func135<|rC 0 [4,0,1] zSg λ_=>rC 2 [4,0,5,1] zSh λ_=>rB 1 (fE 1)<|rK 1 [] aR (λ_=>fE 3) λ_=>fE 2
def zVF(b:Nat)(a:Int):Option (Bool):=if decide (a>=0)then some (decide (a<=1048576))else some false
theorem yEa{b a}:Cz (zVF b a) 216 [] [ai a] (λr=>ab r) (λ_=>[]) 0:=fw func216<|rB 0 (fE 1)<|fE 0
def zHd(b:Nat)(c a:Tm)(d:Int):Option (Tm×Int):=cG b c>>=λr1=>if r1 then cG b a>>=λr4=>if r4 then zVF b d>>=λr7=>if r7 then zAN b c d a.k a.n a.sub>>=λr10=>some (r10.1,r10.2)else some ((Tm.mk 0 0 []),5)else some ((Tm.mk 0 0 []),5)else some ((Tm.mk 0 0 []),5)
theorem zSe{b c a d}:Cz (zHd b c a d) 192 [] [yZ c,yZ a,ai d] (λr=>.tup [yZ r.1,ai r.2]) (λ_=>[]) 0:=fw func192<|rK 1 [] aR (λ_=>rK 2 [] aR (λ_=>rK 2 [] yEa (λ_=>rC 2 [2,1] zSf λ_=>fE 3) λ_=>fE 2) λ_=>fE 2) λ_=>fE 2
mutual def jN(a:Tm)(n:Int):Tm->Int->Tm|.mk k m l,b=>if k=8/\m=n then aS a 0 0 b else .mk k m (naL a n l k 0 b)def naL(a:Tm)(n:Int):List Tm->Int->Nat->Int->List Tm|[],_,_,_=>[]|t::l,k,i,b=>jN a n t (wW k i b)::naL a n l k (i+1) b end
theorem zHc(q0:Int)(q1:Bool)(q2 q3 q4:Int)(q5:List Tm)(a:Tm)(b:Int)(ho:a.Ok):zH (λq=>L2 q q0 q1 q2 q3 q4 q5 a b) λr=>r.1.Ok/\(r.2.2=false->q1=false/\r.1=aS a 0 0 b):=by
 simp only[L2];refine zH.bind (P:=λ_=>True) ((zEE a ho).tot trivial) λ_ _=>zH.ite (λ_=>?_) λ_=>?_;·exact zH.bind (P:=λy=>y.Ok) ((cK 0).tot (wP 2 0)) λy hy=>zH.ret ⟨hy,λh=>by cases h⟩
 ·refine zH.bind (P:=λy=>y=tC a b 0) ((zLJ a b ho).tot rfl) λy hy=>zH.ite (λ_=>?_) λh=>zH.ret ?_;·exact zH.bind (P:=λy=>y.Ok) ((cK 0).tot (wP 2 0)) λy hy=>zH.ret ⟨hy,λh=>by cases h⟩
  ·subst hy;exact⟨kE a b 0 ho,λhq=>⟨hq,(iC (by simpa using h)).2.2.2.2⟩⟩
theorem zHb(p0:Tm)(p1 q2 q3:Int)(q4:Bool)(a:Tm)(ho:a.Ok):zH (λq=>L3 q p0 p1 q2 q3 q4 a.k a.n a.sub) λr=>r.1.Ok/\(r.2.1=false->¬(p0.k=8/\p0.n=q2)/\r.2.2.1=q3/\r.2.2.2=q4)/\(r.2.1=true->p0.k=8/\p0.n=q2/\(r.2.2.2=false->q4=false/\r.1=aS a 0 0 p1)):=by
 simp only[L3,sX];refine zH.ite (λh=>zH.ret ⟨wP 0 0,λ_=>⟨λh'=>?_,rfl,rfl⟩,λh=>by cases h⟩) λh8=>zH.ite (λh=>zH.ret ⟨wP 0 0,λ_=>⟨λh'=>?_,rfl,rfl⟩,λh=>by cases h⟩) λhn=>?_;·rw[h'.1]at h;simp at h
 ·rw[h'.2]at h;simp at h
 ·exact(zHc _ _ _ _ _ _ a p1 ho).bind λr hr=>zH.ret ⟨hr.1,λh=>(by cases h),λ_=>⟨by simpa using h8,by simpa using hn,hr.2⟩⟩
mutual theorem bE(a:Tm)(ha:a.Ok)(n:Int):∀(t:Tm)(b left:Int)(long:Bool),xQ t=true->0<=b->b+t.high<=1152921504606846976->zH (λq=>mE q left long n a.k a.n a.sub t b) λr=>r.1.Ok/\(r.2.2=false->long=false/\r.1=jN a n t b)
 |.mk k m l,b,left,long,hg,hb,hb2=>by
  have hh:=uB hg;have hn:=jH hh.1;rw[Tm.high]at hb2;refine zH.succ ?_;simp only[mE];refine zH.ite (λhl=>zH.bind (P:=λy=>y.Ok) ((cK 0).tot (wP 2 0)) λy hy=>zH.ret ⟨hy,λh=>by rw[hl]at h;cases h⟩) λhl=>?_;refine(zHb (.mk k m l) b n left long a ha).bind λr hr=>zH.ite (λh=>zH.ret ⟨hr.1,λh2=>?_⟩) λh=>?_
  ·obtain⟨h3,h4,h5⟩:=hr.2.2 h;refine⟨(h5 h2).1,?_⟩;rw[jN,if_pos ⟨h3,h4⟩];exact(h5 h2).2
  ·obtain⟨h3,h4,h5⟩:=hr.2.1 (by simpa using h);have e:jN a n (.mk k m l) b=.mk k m (naL a n l k 0 b):=by rw[jN];exact if_neg h3
   refine zH.ite (λ_=>?_) λ_=>?_;·exact(C4 a ha n l (.mk k m l) b 0 _ true [] rfl hn.2.2.2.2 hh.2 rfl (by simp) trivial hb (by omega)).mono λr hr=>⟨hr.1,λh=>by cases(hr.2 h).1⟩
   ·refine(C4 a ha n l (.mk k m l) b 0 _ _ [] rfl hn.2.2.2.2 hh.2 rfl (by simp) trivial hb (by omega)).mono λr hr=>⟨hr.1,λh=>⟨by rw[<-h5];exact(hr.2 h).1,?_⟩⟩;rw[(hr.2 h).2,e];rfl theorem C4(a:Tm)(ha:a.Ok)(n:Int):∀(r:List Tm)(p:Tm)(b:Int)(v:Nat)(left:Int)(long:Bool)(acc:List Tm),p.sub.drop v=r->p.sub.length<=2->vS r=true->acc.length=v->v<=p.sub.length->mW acc->0<=b->b+1+uH r<=1152921504606846976->zH (λq=>tD q n a.k a.n a.sub p b (v:Int) left long acc) λx=>x.1.Ok/\(x.2.2=false->long=false/\x.1=.mk p.k p.n (acc++naL a n r p.k v b))
 |[],p,b,v,left,long,acc,hd,hl,hr,hac,hv,hb,h0,h1=>by
  refine zH.succ ?_;simp only[tD];refine zH.ite (λh=>?_) λ_=>zH.ret ⟨?_,λh=>⟨h,?_⟩⟩;·rw[zY hd]at h;cases h
  ·show(Tm.mk p.k p.n acc).Ok;rw[Tm.Ok];exact⟨by omega,hb⟩
  ·rw[naL,List.append_nil]|t::r,p,b,v,left,long,acc,hd,hl,hr,hac,hv,hb,h0,h1=>by
  have hlt:=yC hd;have hg:=wU hr;rw[uH]at h1;have next:∀(y:Tm×Int×Bool),y.1.Ok/\(y.2.2=false->long=false/\y.1=jN a n t (wW p.k v b))->zH (λq=>yX 40 acc [y.1]>>=λl=>tD q n a.k a.n a.sub p b (xC ((v:Int)+1)) y.2.1 y.2.2 l) λx=>x.1.Ok/\(x.2.2=false->long=false/\x.1=.mk p.k p.n (acc++naL a n (t::r) p.k v b)):=λy hy=>by rw[zU v (by omega)];refine zH.pure (yF (by simp;omega)) ((C4 a ha n r p b (v+1) _ _ _ (zR hd) hl hg.2 (by simp;omega) hlt (zHf hb hy.1) h0 (by omega)).mono λx hx=>⟨hx.1,λh=>?_⟩);obtain⟨h2,h3⟩:=hx.2 h;obtain⟨h4,h5⟩:=hy.2 h2;refine⟨h4,?_⟩;rw[h3,h5,naL];simp
  refine zH.succ ?_;simp only[tD];refine zH.ite (λ_=>zH.pure (zV hd) (zH.ite (λh2=>zH.ite (λh5=>?_) λh5=>?_) λh2=>?_)) λh=>?_
  ·have hv1:v=1:=by have:=eq_of_beq h2;omega
   have e:wW p.k v b=b+1:=by unfold wW;simp at h5;simp[h5,hv1]
   rw[yS (x:=b+1) (by omega) (by omega)];rw[e]at next;exact(bE a ha n t _ left long hg.1 (by omega) (by omega)).bind λy hy=>next y hy
  ·have e:wW p.k v b=b:=by unfold wW;simp at h5;simp[h5]
   rw[e]at next;exact(bE a ha n t _ left long hg.1 h0 (by omega)).bind λy hy=>next y hy
  ·have e:wW p.k v b=b:=by unfold wW;rw[if_neg];intro h;have h1:=h.1;subst h1;simp at h2
   rw[e]at next;exact(bE a ha n t _ left long hg.1 h0 (by omega)).bind λy hy=>next y hy
  ·rw[zX hd]at h;cases h end
def NaX(t a:Tm)(n:Int)(r:Tm×Int):Prop:=r.1.Ok/\r.2≠8/\(r.2=0->zG t=true/\zG a=true/\0<=n/\n<=1048576/\zG (jN a n t 0)=true/\r.1=jN a n t 0)/\(r.2=0\/r.2=2\/r.2=5)/\(zG t=true->zG a=true->0<=n->n<=1048576->r.2≠5)
theorem kI(t a:Tm)(n:Int)(ht:t.Ok)(ha:a.Ok):zH (λq=>zHd q t a n) (NaX t a n):=by
 have z:=wP 0 0;simp only[zHd];refine zH.bind (P:=λb=>b=zG t) ((xM t ht).tot rfl) λb hb=>zH.ite (λh=>?_) λh=>zH.ret ⟨z,by decide,λh=>(by cases h),.inr (.inr rfl),λh1=>by rw[hb,h1]at h;cases h⟩;refine zH.bind (P:=λb=>b=zG a) ((xM a ha).tot rfl) λb2 hb2=>zH.ite (λh2=>?_) λh2=>zH.ret ⟨z,by decide,λh=>(by cases h),.inr (.inr rfl),λ_ h1=>by rw[hb2,h1]at h2;cases h2⟩;have F:zH (λq=>zVF q n) λb=>(b=true->0<=n/\n<=1048576)/\(b=false->¬(0<=n/\n<=1048576)):=by simp only[zVF];exact zH.ite (λh=>zH.ret ⟨λh2=>⟨by simpa using h,by simpa using h2⟩,λh2 h3=>by simp at h2;omega⟩) λh=>zH.ret ⟨λh=>(by cases h),λ_ h3=>by simp at h;omega⟩
 refine F.bind λb3 h3=>zH.ite (λh4=>?_) λh4=>zH.ret ⟨z,by decide,λh=>(by cases h),.inr (.inr rfl),λ_ _ g1 g2=>absurd ⟨g1,g2⟩ (h3.2 (by simpa using h4))⟩;rw[h]at hb;rw[h2]at hb2;have hs:=zL hb.symm;refine zH.bind (P:=λr=>NaX t a n r/\r.2≠5) ?_ λr hr=>zH.ret ⟨hr.1.1,hr.1.2.1,hr.1.2.2.1,hr.1.2.2.2.1,λ_ _ _ _=>hr.2⟩;have long:NaX t a n (zT,2):=⟨z,by decide,λh=>(by cases h),.inr (.inl rfl),λ_ _ _ _=>by decide⟩;simp only[zAN];refine zH.pure rfl ((bE a ha n t 0 8192 false hs.2.2 (by omega) (by omega)).bind λr hr=>zH.ite (λ_=>zH.ret ⟨long,by decide⟩) λh5=>?_);refine zH.bind (P:=λb=>b=zG r.1) ((xM r.1 hr.1).tot rfl) λb6 hb6=>zH.ite (λh6=>zH.ret ?_) λ_=>zH.ret ⟨long,by decide⟩;have hx:=(hr.2 (by simpa using h5)).2;refine⟨⟨hr.1,(by show(0:Int)≠8;decide),λ_=>⟨hb.symm,hb2.symm,(h3.1 h4).1,(h3.1 h4).2,?_,hx⟩,.inl rfl,λ_ _ _ _=>(by show(0:Int)≠5;decide)⟩,(by show(0:Int)≠5;decide)⟩;rw[<-hx,<-hb6];exact h6
mutual theorem zEV{P:Int->Int->Prop}{a:Tm}{n:Int}(ha:xV P a):∀(t:Tm)(b:Int),xV (λk m=>P k m\/(k=8/\m=n)) t->xV P (jN a n t b)
 |.mk k m l,b,h=>by
  rw[xV]at h;rw[jN];by_cases h1:k=8/\m=n;·rw[if_pos h1];exact cX a 0 0 b ha
  ·rw[if_neg h1,xV];refine⟨?_,zHa ha l k 0 b h.2⟩;rcases h.1 with h2|h2|h2;·exact .inl h2
   ·exact .inr h2
   ·exact absurd h2 h1 theorem zHa{P:Int->Int->Prop}{a:Tm}{n:Int}(ha:xV P a):∀(l:List Tm)(k:Int)(i:Nat)(b:Int),vC (λk m=>P k m\/(k=8/\m=n)) l->vC P (naL a n l k i b)|[],_,_,_,_=>by rw[naL,vC];trivial|t::l,k,i,b,h=>by rw[vC]at h;rw[naL,vC];exact⟨zEV ha t _ h.1,zHa ha l k (i+1) b h.2⟩end
mutual theorem zSd{a:Tm}{n:Int}(ha:∀j,¬j∈sH a 0):∀(t:Tm)(b j:Int),0<=b->j∈sH (jN a n t b) b->j∈sH t b
 |.mk k m l,b,j,hb,h=>by
  rw[jN]at h;by_cases h1:k=8/\m=n
  ·rw[if_pos h1]at h;exact absurd (zHx a 0 b j hb (by rwa[Int.zero_add])) (ha j)
  ·rw[if_neg h1]at h;by_cases hk:k=1;·subst hk;exact qT.2 (qT.1 h)
   ·exact(sI hk).2 (zSc ha l k 0 b j hb ((sI hk).1 h))theorem zSc{a:Tm}{n:Int}(ha:∀j,¬j∈sH a 0):∀(l:List Tm)(k:Int)(i:Nat)(b j:Int),0<=b->j∈lvL (naL a n l k i b) k i b->j∈lvL l k i b
 |[],k,i,b,j,hb,h=>by rw[naL]at h;exact absurd h pZ|t::l,k,i,b,j,hb,h=>by
  rw[naL]at h;rcases vH.1 h with h|h;·exact vH.2 (.inl (zSd ha t _ j (by have:=zLT k i b;omega) h))
  ·exact vH.2 (.inr (zSc ha l k (i+1) b j hb h))end
mutual theorem zMs:∀(t:Tm)(b m:Int),xQ t=true->0<=m->(∀j∈sH t b,j<m)->kO t b<=m
 |.mk k n l,b,m,hg,hm,h=>by
  rw[kO];by_cases hk:k=1
  ·subst hk;rw[if_pos rfl];by_cases hb:b<=n;·have:=h (n-b) (qT.2 ⟨hb,rfl⟩);omega
   ·omega
  ·rw[if_neg hk];have hh:=uB hg;have hs:=tR hh.1;refine zHA l k 0 b m hh.2 ?_ hm λj hj=>h j ((sI hk).2 hj);have e1:k=3\/k=4\/k=5\/l.length<=1:=by
    by_cases h7:k=7
    ·obtain⟨x,hx,-⟩:=hs.2.2.2.2.2.2.1 h7;have hx':l=[x]:=hx;rw[hx'];simp
    ·by_cases h1:k=1\/k=2\/k=6\/k=8
     ·have hx:=hs.2.2.2.2.2.2.2.1 h1;have hx':l=[]:=hx;rw[hx'];simp
     ·have a1:1<=k:=hs.1;have a2:k<=8:=hs.2.1;omega
   omega theorem zHA:∀(l:List Tm)(k:Int)(i:Nat)(b m:Int),vS l=true->(k=3\/k=4\/k=5\/i+l.length<=1)->0<=m->(∀j∈lvL l k i b,j<m)->fL l k i b<=m|[],k,i,b,m,hg,hl,hm,h=>by rw[fL];exact hm|t::l,k,i,b,m,hg,hl,hm,h=>by rw[fL];have hc:=wU hg;rw[List.length_cons]at hl;have h1:=zMs t (wW k i b) m hc.1 hm λj hj=>h j (vH.2 (.inl hj));have h2:=zHA l k (i+1) b m hc.2 (by omega) hm λj hj=>h j (vH.2 (.inr hj));rw[zRU (by omega)]at h1;omega end
theorem L4{t:Tm}(hs:zG t=true):kO t 0<=0↔∀j,¬j∈sH t 0:=by
 have hg:=(zL hs).2.2;constructor
 ·intro h j hj;have:=zJT t 0 j hg hj;have:=zAD t 0 j hj;omega
 ·exactλh=>zMs t 0 0 hg (by omega) λj hj=>absurd hj (h j)
def uU(l:List yI)(t:Tm):Prop:=qA t 0 l.length=true
theorem eU{l:List yI}{t:Tm}:uU l t↔zG t=true/\(∀j,¬j∈sH t 0)/\xV (λk n=>k=6\/k=7->n<l.length) t:=by
 unfold uU qA;rw[<-eR (by decide) (by decide)];constructor
 ·intro h;simp only[Bool.and_eq_true,List.all_eq_true,decide_eq_true_eq]at h;exact⟨h.1.1,(L4 h.1.1).1 h.1.2,h.2⟩
 ·rintro⟨h1,h2,h3⟩;simp only[Bool.and_eq_true,List.all_eq_true,decide_eq_true_eq];exact⟨⟨h1,(L4 h1).2 h2⟩,h3⟩
theorem uU.na{l:List yI}{t a:Tm}{n:Int}(h:uU l t)(ha:uU l a)(hs:zG (jN a n t 0)=true):uU l (jN a n t 0):=by have h1:=eU.1 h;have h2:=eU.1 ha;exact eU.2 ⟨hs,λj hj=>h1.2.1 j (zSd h2.2.1 t 0 j (by omega) hj),zEV h2.2.2 t 0 (sL (λ_ _ h=>.inl h) h1.2.2)⟩
mutual def zHB:Nat->xK->Tm->Int->Int->Option (Tm×Int×Int×Int)|0,_,_,_,_=>none|b+1,M,a,c,d=>L5 b M c d a.k a.n a.sub def L5:Nat->xK->Int->Int->Int->Int->yU->Option (Tm×Int×Int×Int)
 |0,_,_,_,_,_,_=>none|b+1,M,m,p,e,f,g=>zVG b M (Tm.mk e f g) m p>>=λr1=>if r1.2.1 then if r1.2.2.1 !=0 then some ((Tm.mk 0 0 []),r1.2.2.1,r1.2.2.2.1,r1.2.2.2.2)else L5 b M r1.2.2.2.1 r1.2.2.2.2 r1.1.k r1.1.n r1.1.sub else if r1.2.2.1 !=0 then some ((Tm.mk 0 0 []),r1.2.2.1,r1.2.2.2.1,r1.2.2.2.2)else some ((Tm.mk e f g),0,r1.2.2.2.1,r1.2.2.2.2)def zVG:Nat->xK->Tm->Int->Int->Option (Tm×Bool×Int×Int×Int)
 |0,_,_,_,_=>none|b+1,M,a,c,d=>B9 b a>>=λr1=>if r1.1.k==4 then if decide ((r1.2.length:Int)>0)then zS r1.1.sub 1>>=λx5=>zS r1.2 0>>=λx7=>zUB b x5 x7>>=λr9=>mU r1.2 1 (r1.2.length:Int)>>=λx11=>aF b r9.1 x11>>=λr13=>if r9.2 !=0 then some (a,false,r9.2,c,d)else e76 b c d>>=λr16=>if r16.1 !=0 then some (a,false,r16.1,r16.2.1,r16.2.2)else Z7 b r13>>=λr19=>some (r19.1,true,r19.2,r16.2.1,r16.2.2)else zHh b M r1.1>>=λr21=>if r21==3 then zS M.l r1.1.n>>=λx24=>aF b x24.body r1.2>>=λr26=>e76 b c d>>=λr28=>if r28.1 !=0 then some (a,false,r28.1,r28.2.1,r28.2.2)else Z7 b r26>>=λr31=>some (r31.1,true,r31.2,r28.2.1,r28.2.2)else zHh b M r1.1>>=λr33=>if r33==4 then zSb b M r1.1 r1.2 c d>>=λr36=>if r36.2.1 then if r36.2.2.1 !=0 then some (a,false,r36.2.2.1,r36.2.2.2.1,r36.2.2.2.2)else e76 b r36.2.2.2.1 r36.2.2.2.2>>=λr40=>if r40.1 !=0 then some (a,false,r40.1,r40.2.1,r40.2.2)else Z7 b r36.1>>=λr43=>some (r43.1,true,r43.2,r40.2.1,r40.2.2)else if r36.2.2.1 !=0 then some (a,false,r36.2.2.1,r36.2.2.2.1,r36.2.2.2.2)else some (a,false,r36.2.2.1,r36.2.2.2.1,r36.2.2.2.2)else if r1.1.k==7 then zSa b M r1.1 r1.2 c d>>=λr47=>if r47.2.1 then if r47.2.2.1 !=0 then some (a,false,r47.2.2.1,r47.2.2.2.1,r47.2.2.2.2)else e76 b r47.2.2.2.1 r47.2.2.2.2>>=λr51=>if r51.1 !=0 then some (a,false,r51.1,r51.2.1,r51.2.2)else Z7 b r47.1>>=λr54=>some (r54.1,true,r54.2,r51.2.1,r51.2.2)else if r47.2.2.1 !=0 then some (a,false,r47.2.2.1,r47.2.2.2.1,r47.2.2.2.2)else some (a,false,r47.2.2.1,r47.2.2.2.1,r47.2.2.2.2)else some (a,false,0,c,d)else zHh b M r1.1>>=λr57=>if r57==3 then zS M.l r1.1.n>>=λx60=>aF b x60.body r1.2>>=λr62=>e76 b c d>>=λr64=>if r64.1 !=0 then some (a,false,r64.1,r64.2.1,r64.2.2)else Z7 b r62>>=λr67=>some (r67.1,true,r67.2,r64.2.1,r64.2.2)else zHh b M r1.1>>=λr69=>if r69==4 then zSb b M r1.1 r1.2 c d>>=λr72=>if r72.2.1 then if r72.2.2.1 !=0 then some (a,false,r72.2.2.1,r72.2.2.2.1,r72.2.2.2.2)else e76 b r72.2.2.2.1 r72.2.2.2.2>>=λr76=>if r76.1 !=0 then some (a,false,r76.1,r76.2.1,r76.2.2)else Z7 b r72.1>>=λr79=>some (r79.1,true,r79.2,r76.2.1,r76.2.2)else if r72.2.2.1 !=0 then some (a,false,r72.2.2.1,r72.2.2.2.1,r72.2.2.2.2)else some (a,false,r72.2.2.1,r72.2.2.2.1,r72.2.2.2.2)else if r1.1.k==7 then zSa b M r1.1 r1.2 c d>>=λr83=>if r83.2.1 then if r83.2.2.1 !=0 then some (a,false,r83.2.2.1,r83.2.2.2.1,r83.2.2.2.2)else e76 b r83.2.2.2.1 r83.2.2.2.2>>=λr87=>if r87.1 !=0 then some (a,false,r87.1,r87.2.1,r87.2.2)else Z7 b r83.1>>=λr90=>some (r90.1,true,r90.2,r87.2.1,r87.2.2)else if r83.2.2.1 !=0 then some (a,false,r83.2.2.1,r83.2.2.2.1,r83.2.2.2.2)else some (a,false,r83.2.2.1,r83.2.2.2.1,r83.2.2.2.2)else some (a,false,0,c,d)def zSb:Nat->xK->Tm->yU->Int->Int->Option (Tm×Bool×Int×Int×Int)
 |0,_,_,_,_,_=>none|b+1,M,a,q,c,d=>zS M.l a.n>>=λx1=>if decide ((q.length:Int)<=x1.pars)then some ((Tm.mk 0 0 []),false,0,c,d)else zS q x1.pars>>=λx4=>zHB b M x4 c d>>=λr6=>if r6.2.1 !=0 then some ((Tm.mk 0 0 []),false,r6.2.1,r6.2.2.1,r6.2.2.2)else zOh b M r6.1>>=λr9=>if r9.2.2 then zS M.l r9.1>>=λx12=>if x12.fam !=x1.fam then some ((Tm.mk 0 0 []),false,0,r6.2.2.1,r6.2.2.2)else mU r9.2.1 x12.pars (r9.2.1.length:Int)>>=λx15=>zJY b M.rl M.parts a.n x15>>=λr17=>mU q (xC (x1.pars+1)) (q.length:Int)>>=λx19=>aF b r17.1 x19>>=λr21=>some (r21,true,r17.2,r6.2.2.1,r6.2.2.2)else some ((Tm.mk 0 0 []),false,0,r6.2.2.1,r6.2.2.2)def zSa:Nat->xK->Tm->yU->Int->Int->Option (Tm×Bool×Int×Int×Int)
 |0,_,_,_,_,_=>none|b+1,M,a,q,c,d=>if decide (a.n>=(M.l.length:Int))then some ((Tm.mk 0 0 []),false,0,c,d)else zS M.l a.n>>=λx2=>if x2.kind !=1 then some ((Tm.mk 0 0 []),false,0,c,d)else zS M.args a.n>>=λx5=>if decide ((q.length:Int)<x5)then some ((Tm.mk 0 0 []),false,0,c,d)else zS q (xC (x5-1))>>=λx8=>zHB b M x8 c d>>=λr10=>if r10.2.1 !=0 then some ((Tm.mk 0 0 []),false,r10.2.1,r10.2.2.1,r10.2.2.2)else zOh b M r10.1>>=λr13=>if r13.2.2 then zS M.l r13.1>>=λx16=>if x16.fam !=a.n then some ((Tm.mk 0 0 []),false,0,r10.2.2.1,r10.2.2.2)else zS a.sub 0>>=λx19=>mU q 0 (xC ((xC (x2.pars+1))+(x2.cons.length:Int)))>>=λx21=>mU r13.2.1 x2.pars (r13.2.1.length:Int)>>=λx23=>zJZ b M.rl M.parts a.n x19.n r13.1 x21 x23>>=λr25=>mU q x5 (q.length:Int)>>=λx27=>aF b r25.1 x27>>=λr29=>some (r29,true,r25.2,r10.2.2.1,r10.2.2.2)else some ((Tm.mk 0 0 []),false,0,r10.2.2.1,r10.2.2.2)end
theorem iH:∀b:Nat,(∀M a c d,Cz (zHB b M a c d) 226 [mB M 1,mR M,.cells [ai c,ai d]] [.mp 0 0,yZ a,.mp 2 0] (λr=>.tup [yZ r.1,ai r.2.1]) (λr=>[mB M 1,mR M,.cells [ai r.2.2.1,ai r.2.2.2]]) 0)/\(∀M m p e f g,Lz (L5 b M m p e f g) 3 f226 (pt 885 f226) (λj=>sp j 28 0 [(0,.mp 0 0),(2,.mp 2 0),(4,.mp 3 0),(6,.mp 4 0)]) ⟨[(0,mB M 1),(1,mR M),(2,.cells [ai m,ai p]),(3,.cells [ai e,ai f,zN zA g .no]),(4,.cells [ai 0,ai 0,zN zA ([]:yU) .nl])],5,[],0,[]⟩ (λr=>.tup [yZ r.1,ai r.2.1]) (λr=>[mB M 1,mR M,.cells [ai r.2.2.1,ai r.2.2.2]]) 0 [.blk 0])/\(∀M a c d,Cz (zVG b M a c d) 234 [mB M 1,mR M,.cells [ai c,ai d]] [.mp 0 0,yZ a,.mp 2 0] (λr=>.tup [yZ r.1,ab r.2.1,ai r.2.2.1]) (λr=>[mB M 1,mR M,.cells [ai r.2.2.2.1,ai r.2.2.2.2]]) 0)/\(∀M a q c d,Cz (zSb b M a q c d) 247 [mB M 1,mR M,.cells [ai c,ai d]] [.mp 0 0,yZ a,zN zA q .no,.mp 2 0] (λr=>.tup [yZ r.1,ab r.2.1,ai r.2.2.1]) (λr=>[mB M 1,mR M,.cells [ai r.2.2.2.1,ai r.2.2.2.2]]) 0)/\(∀M a q c d,Cz (zSa b M a q c d) 248 [mB M 1,mR M,.cells [ai c,ai d]] [.mp 0 0,yZ a,zN zA q .no,.mp 2 0] (λr=>.tup [yZ r.1,ab r.2.1,ai r.2.2.1]) (λr=>[mB M 1,mR M,.cells [ai r.2.2.2.1,ai r.2.2.2.2]]) 0):=xX ⟨λ_ _ _ _=>cN,λ_ _ _ _ _ _=>lN,λ_ _ _ _=>cN,λ_ _ _ _ _=>cN,λ_ _ _ _ _=>cN⟩ λb ih=>⟨λM a c d=>fw func226<|fH 0 [] [0,1,2,3,4] [] [0,2,4,6] (ih.2.1 _ _ _ _ _ _),λM m p e f g=>lw λ_=>rC 1 [0,1,2] (ih.2.2.1 _ _ _ _) λ_=>rB 1 (rB 2 (lE 1)<|lH 2 [] [0,1,2,3,4] [] [0,2,4,6] (ih.2.1 _ _ _ _ _ _))<|rB 2 (lE 1)<|lE 2,λM a c d=>fw func234<|rC 1 [] zGI λ_=>rB 5 (rB 1 (rA 1 (xP (o:=.no)) λ_=>rA 1 (xP (o:=.no)) λ_=>rC 1 [] yDW λ_=>rA 4 qV λ_=>rC 0 [] Z5 λ_=>rB 1 (fE 2)<|rC 1 [2] c76 λ_=>rB 0 (fE 2)<|rC 1 [] zKx λ_=>fE 5)<|rC 1 [0,1] zSl λ_=>rB 0 (rA 2 (wM (o:=.no)) λ_=>rC 1 [] Z5 λ_=>rC 3 [2] c76 λ_=>rB 0 (fE 2)<|rC 1 [] zKx λ_=>fE 5)<|rC 1 [0,1] zSl λ_=>rB 0 (rC 1 [0,1,2] (ih.2.2.2.1 _ _ _ _ _) λ_=>rB 1 (rB 2 (fE 2)<|rC 1 [2] c76 λ_=>rB 0 (fE 2)<|rC 1 [] zKx λ_=>fE 5)<|rB 2 (fE 2)<|fE 3)<|rB 1 (rC 1 [0,1,2] (ih.2.2.2.2 _ _ _ _ _) λ_=>rB 1 (rB 2 (fE 2)<|rC 1 [2] c76 λ_=>rB 0 (fE 2)<|rC 1 [] zKx λ_=>fE 5)<|rB 2 (fE 2)<|fE 3)<|fE 4)<|rC 1 [0,1] zSl λ_=>rB 0 (rA 2 (wM (o:=.no)) λ_=>rC 1 [] Z5 λ_=>rC 3 [2] c76 λ_=>rB 0 (fE 2)<|rC 1 [] zKx λ_=>fE 5)<|rC 1 [0,1] zSl λ_=>rB 0 (rC 1 [0,1,2] (ih.2.2.2.1 _ _ _ _ _) λ_=>rB 1 (rB 2 (fE 2)<|rC 1 [2] c76 λ_=>rB 0 (fE 2)<|rC 1 [] zKx λ_=>fE 5)<|rB 2 (fE 2)<|fE 3)<|rB 1 (rC 1 [0,1,2] (ih.2.2.2.2 _ _ _ _ _) λ_=>rB 1 (rB 2 (fE 2)<|rC 1 [2] c76 λ_=>rB 0 (fE 2)<|rC 1 [] zKx λ_=>fE 5)<|rB 2 (fE 2)<|fE 3)<|fE 4,λM a q c d=>fw func247<|rH λ_ h2=>rS (oA 2 (wM (o:=.no) h2))<|rB 2 (fE 1)<|rA 0 (xP (o:=.no)) λ_=>rC 1 [0,1,2] (ih.1 _ _ _ _) λ_=>rB 3 (fE 1)<|rC 1 [0,1] zZz λ_=>rB 2 (rH λ_ h13=>rS (oA 2 (wM (o:=.no) h13))<|rS (oA 3 (wM (o:=.no) h2))<|rB 1 (fE 1)<|rS (oA 3 (wM (o:=.no) h13))<|rA 1 qV λ_=>rC 0 [1] yEd λ_=>rA 5 qV λ_=>rC 0 [] Z5 λ_=>fE 1)<|fE 2,λM a q c d=>fw func248<|rB 3 (fE 1)<|rH λ_ h3=>rS (oA 2 (wM (o:=.no) h3))<|rB 1 (fE 1)<|rH λ_ h6=>rS (oA 3 (oV (o:=.no) h6))<|rB 1 (fE 1)<|rS (oA 2 (oV (o:=.no) h6))<|rA 2 (xP (o:=.no)) λ_=>rC 1 [0,1,2] (ih.1 _ _ _ _) λ_=>rB 3 (fE 1)<|rC 1 [0,1] zZz λ_=>rB 2 (rA 2 (wM (o:=.no)) λ_=>rB 2 (fE 1)<|rS (oA 2 (wM (o:=.no) h3))<|rA 5 (xP (o:=.no)) λ_=>rA 6 lZ λ_=>rA 1 qV λ_=>rC 0 [1] yEc λ_=>rA 4 qV λ_=>rC 0 [] Z5 λ_=>fE 1)<|fE 2⟩
theorem yEB{b M a c d}:Cz (zHB b M a c d) 226 [mB M 1,mR M,.cells [ai c,ai d]] [.mp 0 0,yZ a,.mp 2 0] (λr=>.tup [yZ r.1,ai r.2.1]) (λr=>[mB M 1,mR M,.cells [ai r.2.2.1,ai r.2.2.2]]) 0:=(iH _).1 _ _ _ _
abbrev er4(r:Tm×Int×Int×Int):Int:=r.2.1
abbrev er5(r:Tm×Bool×Int×Int×Int):Int:=r.2.2.1
theorem bF(l:List yI):(xI l).l=l:=rfl
theorem zAO(l:List yI):(xI l).rl=l:=rfl
theorem eV(l:List yI):(xI l).parts=kK l l.length 0:=rfl
noncomputable def eW(l:List yI)(i:Int)(a:List Tm):Tm×Int:=open Classical in if h:∃r,zF (λq=>zJY q l (kK l l.length 0) i a) r then h.choose else(zT,5)
theorem eX{N:ByteArray->Bool}(l:List yI)(i:Int)(a:List Tm)(hE:vA N l)(ho:uT a)(hl:a.length<=1073741824):zF (λq=>zJY q l (kK l l.length 0) i a) (eW l i a)/\zET l i a (eW l i a):=by
 obtain⟨r,hr,hk⟩:=zOk l (kK l l.length 0) i a hE ho hl;have hx:∃r,zF (λq=>zJY q l (kK l l.length 0) i a) r:=⟨r,hr⟩;have e:eW l i a=r:=by unfold eW;rw[dif_pos hx];exact hx.choose_spec.det hr
 rw[e];exact⟨hr,hk⟩
noncomputable def X8(l:List yI)(d lev c:Int)(args own:List Tm):Tm×Int:=open Classical in if h:∃r,zF (λq=>zJZ q l (kK l l.length 0) d lev c args own) r then h.choose else(zT,5)
theorem C5{N:ByteArray->Bool}(l:List yI)(d lev c:Int)(args own:List Tm)(hE:vA N l)(ho4:uT args)(ho5:uT own)(hl4:args.length<=65535)(hl5:own.length<=65535):zF (λq=>zJZ q l (kK l l.length 0) d lev c args own) (X8 l d lev c args own)/\zKz l d lev c args own (X8 l d lev c args own):=by
 obtain⟨r,hr,hk⟩:=zSw l d lev c args own hE ho4 ho5 hl4 hl5;have hx:∃r,zF (λq=>zJZ q l (kK l l.length 0) d lev c args own) r:=⟨r,hr⟩;have e:X8 l d lev c args own=r:=by unfold X8;rw[dif_pos hx];exact hx.choose_spec.det hr
 rw[e];exact⟨hr,hk⟩
inductive Act where|none|red(Y:Tm)(e:Int)|tgt(a:Tm)
noncomputable def tN(l:List yI)(x:Tm):Act:=if(yK x).k=4/\0<(xF x).length then .red (mA (eM (sQ (yK x).sub 1) [sQ (xF x) 0]).1 ((xF x).drop 1)) (eM (sQ (yK x).sub 1) [sQ (xF x) 0]).2 else if qP l (yK x)=3 then .red (mA (yA l (yK x).n).body (xF x)) 0 else if qP l (yK x)=4 then(if((xF x).length:Int)<=(yA l (yK x).n).pars then .none else .tgt (sQ (xF x) (yA l (yK x).n).pars))else if(yK x).k=7 then(if G5 l (yK x).n 1=true/\wZ (yA l (yK x).n)<=(xF x).length then .tgt (sQ (xF x) (wZ (yA l (yK x).n)-1))else .none)else .none
noncomputable def sY(l:List yI)(x y:Tm):Option (Tm×Int):=if qP l (yK x)=4 then(if vV l y/\(yA l (yK y).n).fam=(yA l (yK x).n).fam then some (mA (eW l (yK x).n ((xF y).drop (yA l (yK y).n).pars.toNat)).1 ((xF x).drop ((yA l (yK x).n).pars+1).toNat),(eW l (yK x).n ((xF y).drop (yA l (yK y).n).pars.toNat)).2)else none)else(if vV l y/\(yA l (yK y).n).fam=(yK x).n then some (mA (X8 l (yK x).n (sQ (yK x).sub 0).n (yK y).n ((xF x).take ((yA l (yK x).n).pars+1+(yA l (yK x).n).cons.length).toNat) ((xF y).drop (yA l (yK x).n).pars.toNat)).1 ((xF x).drop (wZ (yA l (yK x).n)).toNat),(X8 l (yK x).n (sQ (yK x).sub 0).n (yK y).n ((xF x).take ((yA l (yK x).n).pars+1+(yA l (yK x).n).cons.length).toNat) ((xF y).drop (yA l (yK x).n).pars.toNat)).2)else none)
inductive Br(l:List yI):Tm->Tm->Int->Int->Prop|stop{x:Tm}:tN l x=.none->Br l x x 0 0|redE{x Y:Tm}{e:Int}:tN l x=.red Y e->e≠0->Br l x zT e 0|redL{x Y:Tm}:tN l x=.red Y 0->zG Y=false->Br l x zT 2 1|red{x Y y:Tm}{e k:Int}:tN l x=.red Y 0->zG Y=true->Br l Y y e k->Br l x y e (1+k)|tgtE{x a z:Tm}{e k:Int}:tN l x=.tgt a->Br l a z e k->e≠0->Br l x zT e k|tgtN{x a z:Tm}{k:Int}:tN l x=.tgt a->Br l a z 0 k->sY l x z=none->Br l x x 0 k|tgtRE{x a z Y:Tm}{e k:Int}:tN l x=.tgt a->Br l a z 0 k->sY l x z=some (Y,e)->e≠0->Br l x zT e k|tgtRL{x a z Y:Tm}{k:Int}:tN l x=.tgt a->Br l a z 0 k->sY l x z=some (Y,0)->zG Y=false->Br l x zT 2 (k+1)|tgtR{x a z Y y:Tm}{e k k':Int}:tN l x=.tgt a->Br l a z 0 k->sY l x z=some (Y,0)->zG Y=true->Br l Y y e k'->Br l x y e (k+1+k')
inductive On(l:List yI)(x:Tm):Tm->Bool->Int->Int->Prop|stop:tN l x=.none->On l x x false 0 0|redE{Y:Tm}{e:Int}:tN l x=.red Y e->e≠0->On l x x false e 0|redL{Y:Tm}:tN l x=.red Y 0->zG Y=false->On l x zT true 2 1|red{Y:Tm}:tN l x=.red Y 0->zG Y=true->On l x Y true 0 1|tgtE{a z:Tm}{e k:Int}:tN l x=.tgt a->Br l a z e k->e≠0->On l x x false e k|tgtN{a z:Tm}{k:Int}:tN l x=.tgt a->Br l a z 0 k->sY l x z=none->On l x x false 0 k|tgtRE{a z Y:Tm}{e k:Int}:tN l x=.tgt a->Br l a z 0 k->sY l x z=some (Y,e)->e≠0->On l x x false e k|tgtRL{a z Y:Tm}{k:Int}:tN l x=.tgt a->Br l a z 0 k->sY l x z=some (Y,0)->zG Y=false->On l x zT true 2 (k+1)|tgtR{a z Y:Tm}{k:Int}:tN l x=.tgt a->Br l a z 0 k->sY l x z=some (Y,0)->zG Y=true->On l x Y true 0 (k+1)
theorem Br.nn{l:List yI}{x y:Tm}{e k:Int}(h:Br l x y e k):0<=k:=by induction h<;>omega
theorem On.still{l:List yI}{x y:Tm}{k:Int}(h:On l x y false 0 k):y=x/\Br l x x 0 k:=by cases h with|stop h=>exact⟨rfl,.stop h⟩|redE _ h=>exact absurd rfl h|tgtE _ _ h=>exact absurd rfl h|tgtN a b c=>exact⟨rfl,.tgtN a b c⟩|tgtRE _ _ _ h=>exact absurd rfl h
theorem On.err{l:List yI}{x y:Tm}{d:Bool}{e k:Int}(h:On l x y d e k)(he:e≠0):Br l x zT e k:=by cases h with|redE a b=>exact .redE a b|redL a b=>exact .redL a b|tgtE a b c=>exact .tgtE a b c|tgtRE a b c d=>exact .tgtRE a b c d|tgtRL a b c d=>exact .tgtRL a b c d|_=>exact absurd rfl he
theorem On.step{l:List yI}{x Y:Tm}{k:Int}(h:On l x Y true 0 k):zG Y=true/\1<=k/\∀y e k',Br l Y y e k'->Br l x y e (k+k'):=by cases h with|red a b=>exact⟨b,by omega,λy e k' h=>.red a b h⟩|tgtR a b c d=>exact⟨d,by have:=b.nn;omega,λy e k' h=>.tgtR a b c d h⟩
def HB(l:List yI)(x:Tm)(f:Int):Prop:=Ou (λL U q=>zHB q (xI l) x L U) er4 (λR k=>∃y e,Br l x y e k/\R=λL U=>(y,e,L,U)) (∀y e k,Br l x y e k->f<k) f
def QO(l:List yI)(x:Tm)(R:Int->Int->Tm×Bool×Int×Int×Int)(k:Int):Prop:=∃Y d e,On l x Y d e k/\R=λL U=>(Y,d,e,L,U)
def QF(l:List yI)(x:Tm)(R:Int->Int->Tm×Bool×Int×Int×Int)(k:Int):Prop:=(tN l x=.none/\k=0/\∃Y,R=λL U=>(Y,false,0,L,U))\/∃a z e,tN l x=.tgt a/\Br l a z e k/\((e≠0/\∃Y,R=λL U=>(Y,false,e,L,U))\/(e=0/\((sY l x z=none/\∃Y,R=λL U=>(Y,false,0,L,U))\/∃Y e',Y.Ok/\sY l x z=some (Y,e')/\R=λL U=>(Y,true,e',L,U))))
theorem oE{t:Tm}(hg:xQ t=true)(h:t.k=3\/t.k=4\/t.k=5):∃a b,t.sub=[a,b]/\xQ a=true/\xQ b=true:=by obtain⟨k,n,l⟩:=t;have hh:=uB hg;obtain⟨a,b,rfl⟩:=zQR ((tR hh.1).2.2.2.2.2.1 h).1;have hc:=wU hh.2;exact⟨a,b,rfl,hc.1,(wU hc.2).1⟩
theorem zOg{N:ByteArray->Bool}(l:List yI)(hE:vA N l)(x:Tm)(hs:zG x=true)(f:Int)(hf:0<=f)(h3:(yK x).k≠4)(hk:qP l (yK x)=4)(hb:∀a∈xF x,HB l a f)(hB:∀a y k,zG a=true->Br l a y 0 k->zG y=true):Ou (λL U q=>zSb q (xI l) (yK x) (xF x) L U) er5 (QF l x) (∃a,tN l x=.tgt a/\∀z e k,Br l a z e k->f<k) f:=by
 have hh:=tS hs;have h0:=gN (zL hh).2.2;have hks:=tM hk (by decide);have h1:=hks.2.1;have ho:uT (xF x):=λy hy=>yB (xN hs hy);have hl:(xF x).length<=8192:=by have h:=zL hs;have:=sB _ h.2.2;omega
 have hp:=(xS (hE.2 _ h0 h1)).2.2.2.1 hks.2.2;unfold X5 at hp;simp only[Bool.and_eq_true]at hp;have hw:=pL hp.1;have hfam:=uC ((xS (hE.2 _ hw.1 (by omega))).2.1 hw.2.2.1);have hact:tN l x=if((xF x).length:Int)<=(yA l (yK x).n).pars then .none else .tgt (sQ (xF x) (yA l (yK x).n).pars):=by unfold tN;rw[if_neg (λh=>h3 h.1),if_neg (by omega),if_pos hk]
 have hre:∀y,sY l x y=if vV l y/\(yA l (yK y).n).fam=(yA l (yK x).n).fam then some (mA (eW l (yK x).n ((xF y).drop (yA l (yK y).n).pars.toNat)).1 ((xF x).drop ((yA l (yK x).n).pars+1).toNat),(eW l (yK x).n ((xF y).drop (yA l (yK y).n).pars.toNat)).2)else none:=λy=>by unfold sY;rw[if_pos hk]
 refine Ou.succ ?_;simp only[zSb,bF,zAO,eV];refine Ou.pure (yT h0 h1) (Ou.ite (λhn=>Ou.ret hf (.inl ⟨by rw[hact,if_pos (of_decide_eq_true hn)],rfl,_,rfl⟩)) λhn=>?_);have hn':=of_decide_eq_false hn;rw[if_neg hn']at hact;have hlt:(yA l (yK x).n).pars<(xF x).length:=by omega
 have hp0:0<=(yA l (yK x).n).pars:=by omega
 refine Ou.pure (tX hp0 hlt) (Ou.bind (hb _ (qM hp0 hlt)) (λh=>⟨_,hact,h⟩) (λr hr=>⟨_,zF.ifT (by show(r.2.1 !=0)=true;rw[show r.2.1=8 from hr];decide) zF.ret,hr⟩) ?_);rintro R k k0 k1⟨y,e,hbr,rfl⟩;dsimp only;refine Ou.ite (λh=>Ou.ret (by omega) (.inr ⟨_,y,e,hact,by rwa[Int.add_zero],.inl ⟨by simpa using h,_,rfl⟩⟩)) λh=>?_;have he:e=0:=by simpa using h
 subst he;have hy:=hB _ _ _ (xN hs (qM hp0 hlt)) hbr;refine Ou.evt (s9 l y hy) ?_;unfold kP;by_cases hc:vV l y
 ·rw[if_pos hc];have hcs:=uD hy hc;obtain⟨A,z,a1,-,-,a4,a5,a6,a7,-⟩:=uF hE hcs.1 hcs.2.1 hcs.2.2.1;refine Ou.ifT rfl (Ou.pure (yT hcs.1 hcs.2.1) (Ou.ite (λhf'=>Ou.ret (by omega) (.inr ⟨_,y,0,hact,by rwa[Int.add_zero],.inr ⟨rfl,.inl ⟨?_,_,rfl⟩⟩⟩)) λhf'=>?_));·rw[hre,if_neg (λh=>by simp[h.2]at hf')]
  ·have hf2:(yA l (yK y).n).fam=(yA l (yK x).n).fam:=by simpa using hf'
   have hra:uT (xF y):=λx hx=>yB (xN hy hx);have hrl:(xF y).length<=8192:=by have h:=zL hy;have:=sB _ h.2.2;omega
   have hlen:=hcs.2.2.2;have hX:=eX l (yK x).n ((xF y).drop (yA l (yK y).n).pars.toNat) hE (hra.drop _) (by rw[List.length_drop];omega);refine Ou.pure (qC a6 (by show(yA l (yK y).n).pars<=((xF y).length:Int);omega)) (Ou.evt hX.1 ?_);rw[yS (x:=(yA l (yK x).n).pars+1) (by omega) (by omega)];refine Ou.pure (qC (by omega) (by omega)) (Ou.evt (qY _ _ (by rw[List.length_drop];omega)) (Ou.ret (by omega) (.inr ⟨_,y,0,hact,by rwa[Int.add_zero],.inr ⟨rfl,.inr ⟨_,_,?_,?_,rfl⟩⟩⟩)));·exact mL _ _ hX.2.1 (ho.drop _)
   ·rw[hre,if_pos ⟨hc,hf2⟩]
 ·rw[if_neg hc];refine Ou.ifF rfl (Ou.ret (by omega) (.inr ⟨_,y,0,hact,by rwa[Int.add_zero],.inr ⟨rfl,.inl ⟨?_,_,rfl⟩⟩⟩));rw[hre,if_neg (λh=>hc h.1)]
theorem zSA{N:ByteArray->Bool}(l:List yI)(hE:vA N l)(x:Tm)(hs:zG x=true)(f:Int)(hf:0<=f)(hk:(yK x).k=7)(hb:∀a∈xF x,HB l a f)(hB:∀a y k,zG a=true->Br l a y 0 k->zG y=true):Ou (λL U q=>zSa q (xI l) (yK x) (xF x) L U) er5 (QF l x) (∃a,tN l x=.tgt a/\∀z e k,Br l a z e k->f<k) f:=by
 have hh:=tS hs;have hg:=(zL hh).2.2;have h0:=gN hg;have ho:uT (xF x):=λy hy=>yB (xN hs hy);have hl:(xF x).length<=8192:=by have h:=zL hs;have:=sB _ h.2.2;omega
 have hkk:∀n:Int,n≠0->qP l (yK x)≠n:=λn hn e=>by have:=(tM e hn).1;omega
 have hact:tN l x=if G5 l (yK x).n 1=true/\wZ (yA l (yK x).n)<=(xF x).length then .tgt (sQ (xF x) (wZ (yA l (yK x).n)-1))else .none:=by unfold tN;rw[if_neg (λh=>by omega),if_neg (hkk 3 (by decide)),if_neg (hkk 4 (by decide)),if_pos hk]
 have hre:∀y,sY l x y=if vV l y/\(yA l (yK y).n).fam=(yK x).n then some (mA (X8 l (yK x).n (sQ (yK x).sub 0).n (yK y).n ((xF x).take ((yA l (yK x).n).pars+1+(yA l (yK x).n).cons.length).toNat) ((xF y).drop (yA l (yK x).n).pars.toNat)).1 ((xF x).drop (wZ (yA l (yK x).n)).toNat),(X8 l (yK x).n (sQ (yK x).sub 0).n (yK y).n ((xF x).take ((yA l (yK x).n).pars+1+(yA l (yK x).n).cons.length).toNat) ((xF y).drop (yA l (yK x).n).pars.toNat)).2)else none:=λy=>by unfold sY;rw[if_neg (hkk 4 (by decide))]
 refine Ou.succ ?_;simp only[zSa,bF,zAO,eV];refine Ou.ite (λhn=>Ou.ret hf (.inl ⟨?_,rfl,_,rfl⟩)) λhn=>?_
 ·rw[hact,if_neg];intro h;have:=(tL h.1).2.1;have:=of_decide_eq_true hn;omega
 have h1:(yK x).n<l.length:=by have:=of_decide_eq_false hn;omega
 refine Ou.pure (yT h0 h1) (Ou.ite (λhk1=>Ou.ret hf (.inl ⟨?_,rfl,_,rfl⟩)) λhk1=>?_)
 ·rw[hact,if_neg];intro h;have h2:=(tL h.1).2.2;rw[h2]at hk1;simp at hk1
 have hk1':(yA l (yK x).n).kind=1:=by simpa using hk1
 have hfam:=uC ((xS (hE.2 _ h0 h1)).2.1 hk1');have hisT:G5 l (yK x).n 1=true:=by unfold G5;simp[h0,h1,hk1']
 have hargs:wZ (yA l (yK x).n)=(yA l (yK x).n).pars+2+(yA l (yK x).n).cons.length+(yA l (yK x).n).inds:=by unfold wZ;rw[if_pos hk1']
 refine Ou.pure (zSk h0 h1) (Ou.ite (λhn=>Ou.ret hf (.inl ⟨?_,rfl,_,rfl⟩)) λhn=>?_)
 ·rw[hact,if_neg];intro h;have:=of_decide_eq_true hn;omega
 have hn':=of_decide_eq_false hn;rw[if_pos ⟨hisT,by omega⟩]at hact;rw[yS (x:=wZ (yA l (yK x).n)-1) (by omega) (by omega)];have hp0:0<=wZ (yA l (yK x).n)-1:=by omega
 have hlt:wZ (yA l (yK x).n)-1<(xF x).length:=by omega
 refine Ou.pure (tX hp0 hlt) (Ou.bind (hb _ (qM hp0 hlt)) (λh=>⟨_,hact,h⟩) (λr hr=>⟨_,zF.ifT (by show(r.2.1 !=0)=true;rw[show r.2.1=8 from hr];decide) zF.ret,hr⟩) ?_);rintro R k k0 k1⟨y,e,hbr,rfl⟩;dsimp only;refine Ou.ite (λh=>Ou.ret (by omega) (.inr ⟨_,y,e,hact,by rwa[Int.add_zero],.inl ⟨by simpa using h,_,rfl⟩⟩)) λh=>?_;have he:e=0:=by simpa using h
 subst he;have hy:=hB _ _ _ (xN hs (qM hp0 hlt)) hbr;refine Ou.evt (s9 l y hy) ?_;unfold kP;by_cases hc:vV l y
 ·rw[if_pos hc];have hcs:=uD hy hc;obtain⟨A,z,a1,-,-,a4,a5,a6,a7,-,-,-,a8,-⟩:=uF hE hcs.1 hcs.2.1 hcs.2.2.1;refine Ou.ifT rfl (Ou.pure (yT hcs.1 hcs.2.1) (Ou.ite (λhf'=>Ou.ret (by omega) (.inr ⟨_,y,0,hact,by rwa[Int.add_zero],.inr ⟨rfl,.inl ⟨?_,_,rfl⟩⟩⟩)) λhf'=>?_));·rw[hre,if_neg (λh=>by simp[h.2]at hf')]
  ·have hf2:(yA l (yK y).n).fam=(yK x).n:=by simpa using hf'
   rw[hf2]at a8;have hra:uT (xF y):=λx hx=>yB (xN hy hx);have hrl:(xF y).length<=8192:=by have h:=zL hy;have:=sB _ h.2.2;omega
   have hlen:=hcs.2.2.2;have hsub:∃s,(yK x).sub=[s]:=by revert hg hk;generalize yK x=y;intro hk hg;obtain⟨kk,nn,ss⟩:=y;obtain⟨s,hs,-⟩:=(tR (uB hg).1).2.2.2.2.2.2.1 hk;exact⟨s,hs⟩
   obtain⟨s,hsb⟩:=hsub;rw[yS (x:=(yA l (yK x).n).pars+1) (by omega) (by omega),yS (x:=(yA l (yK x).n).pars+1+(yA l (yK x).n).cons.length) (by omega) (by omega)];have hX:=C5 l (yK x).n (sQ (yK x).sub 0).n (yK y).n ((xF x).take ((yA l (yK x).n).pars+1+(yA l (yK x).n).cons.length).toNat) ((xF y).drop (yA l (yK x).n).pars.toNat) hE (ho.take _) (hra.drop _) (by rw[List.length_take];omega) (by rw[List.length_drop];omega);refine Ou.pure (tX (by omega) (by rw[hsb];simp)) (Ou.pure (a:=(xF x).take ((yA l (yK x).n).pars+1+(yA l (yK x).n).cons.length).toNat) ?_ (Ou.pure (qC (by omega) (by show _<=((xF y).length:Int);omega)) (Ou.evt hX.1 ?_)));·rw[s8 (by omega) (by omega) (by omega)];simp
   refine Ou.pure (qC (by omega) (by omega)) (Ou.evt (qY _ _ (by rw[List.length_drop];omega)) (Ou.ret (by omega) (.inr ⟨_,y,0,hact,by rwa[Int.add_zero],.inr ⟨rfl,.inr ⟨_,_,?_,?_,rfl⟩⟩⟩)));·exact mL _ _ hX.2.1 (ho.drop _)
   ·rw[hre,if_pos ⟨hc,hf2⟩]
 ·rw[if_neg hc];refine Ou.ifF rfl (Ou.ret (by omega) (.inr ⟨_,y,0,hact,by rwa[Int.add_zero],.inr ⟨rfl,.inl ⟨?_,_,rfl⟩⟩⟩));rw[hre,if_neg (λh=>hc h.1)]
def yCu(l:List yI)(Y:Tm)(e0 k0:Int)(y:Tm)(e k:Int):Prop:=(e0≠0/\y=zT/\e=e0/\k=k0)\/(e0=0/\zG Y=false/\y=zT/\e=2/\k=k0+1)\/(e0=0/\zG Y=true/\∃k',Br l Y y e k'/\k=k0+1+k')
section
variable{l:List yI}{x y:Tm}{e k:Int}
theorem Br.inv_none(h:Br l x y e k)(ha:tN l x=.none):y=x/\e=0/\k=0:=by cases h with|stop _=>exact⟨rfl,rfl,rfl⟩|redE a=>rw[ha]at a;cases a|redL a=>rw[ha]at a;cases a|red a=>rw[ha]at a;cases a|tgtE a=>rw[ha]at a;cases a|tgtN a=>rw[ha]at a;cases a|tgtRE a=>rw[ha]at a;cases a|tgtRL a=>rw[ha]at a;cases a|tgtR a=>rw[ha]at a;cases a
theorem Br.inv_red{Y:Tm}{e0:Int}(h:Br l x y e k)(ha:tN l x=.red Y e0):yCu l Y e0 0 y e k:=by cases h with|stop a=>rw[ha]at a;cases a|redE a b=>rw[ha]at a;cases a;exact .inl ⟨b,rfl,rfl,rfl⟩|redL a b=>rw[ha]at a;cases a;exact .inr (.inl ⟨rfl,b,rfl,rfl,rfl⟩)|red a b c=>rw[ha]at a;cases a;exact .inr (.inr ⟨rfl,b,_,c,by omega⟩)|tgtE a=>rw[ha]at a;cases a|tgtN a=>rw[ha]at a;cases a|tgtRE a=>rw[ha]at a;cases a|tgtRL a=>rw[ha]at a;cases a|tgtR a=>rw[ha]at a;cases a
theorem Br.inv_tgt{a:Tm}(h:Br l x y e k)(ha:tN l x=.tgt a):∃z ea ka,Br l a z ea ka/\((ea≠0/\y=zT/\e=ea/\k=ka)\/(ea=0/\((sY l x z=none/\y=x/\e=0/\k=ka)\/∃Y e0,sY l x z=some (Y,e0)/\yCu l Y e0 ka y e k))):=by cases h with|stop a=>rw[ha]at a;cases a|redE a b=>rw[ha]at a;cases a|redL a b=>rw[ha]at a;cases a|red a b c=>rw[ha]at a;cases a|tgtE a b c=>rw[ha]at a;cases a;exact⟨_,_,_,b,.inl ⟨c,rfl,rfl,rfl⟩⟩|tgtN a b c=>rw[ha]at a;cases a;exact⟨_,_,_,b,.inr ⟨rfl,.inl ⟨c,rfl,rfl,rfl⟩⟩⟩|tgtRE a b c d=>rw[ha]at a;cases a;exact⟨_,_,_,b,.inr ⟨rfl,.inr ⟨_,_,c,.inl ⟨d,rfl,rfl,rfl⟩⟩⟩⟩|tgtRL a b c d=>rw[ha]at a;cases a;exact⟨_,_,_,b,.inr ⟨rfl,.inr ⟨_,_,c,.inr (.inl ⟨rfl,d,rfl,rfl,rfl⟩)⟩⟩⟩|tgtR a b c d f=>rw[ha]at a;cases a;exact⟨_,_,_,b,.inr ⟨rfl,.inr ⟨_,_,c,.inr (.inr ⟨rfl,d,_,f,rfl⟩)⟩⟩⟩
theorem Br.det(h:Br l x y e k):∀{y':Tm}{e' k':Int},Br l x y' e' k'->y'=y/\e'=e/\k'=k:=by induction h with
 |stop a=>intro y' e' k' h2;exact h2.inv_none a|redE a b=>
  intro y' e' k' h2;rcases h2.inv_red a with⟨c,d⟩|⟨c,d⟩|⟨c,d⟩;·exact d
  ·exact absurd c b
  ·exact absurd c b|redL a b=>
  intro y' e' k' h2;rcases h2.inv_red a with⟨c,d⟩|⟨c,d,f⟩|⟨c,d,f⟩;·exact absurd rfl c
  ·exact f
  ·rw[b]at d;cases d|red a b c ih=>
  intro y' e' k' h2;rcases h2.inv_red a with⟨c,d⟩|⟨c,d,f⟩|⟨c,d,n,f,g⟩;·exact absurd rfl c
  ·rw[b]at d;cases d
  ·obtain⟨rfl,rfl,rfl⟩:=ih f;exact⟨rfl,rfl,by omega⟩|tgtE a b c ih=>
  intro y' e' k' h2;obtain⟨z',ea,ka,hb',h3⟩:=h2.inv_tgt a;obtain⟨rfl,rfl,rfl⟩:=ih hb';rcases h3 with⟨_,d⟩|⟨d,_⟩;·exact d
  ·exact absurd d c|tgtN a b c ih=>
  intro y' e' k' h2;obtain⟨z',ea,ka,hb',h3⟩:=h2.inv_tgt a;obtain⟨rfl,rfl,rfl⟩:=ih hb';rcases h3 with⟨d,_⟩|⟨_,⟨_,d⟩|⟨Y,e0,d,_⟩⟩;·exact absurd rfl d
  ·exact d
  ·rw[c]at d;cases d|tgtRE a b c d ih=>
  intro y' e' k' h2;obtain⟨z',ea,ka,hb',h3⟩:=h2.inv_tgt a;obtain⟨rfl,rfl,rfl⟩:=ih hb';rcases h3 with⟨f,_⟩|⟨_,⟨f,_⟩|⟨Y,e0,f,g⟩⟩;·exact absurd rfl f
  ·rw[c]at f;cases f
  ·rw[c]at f;cases f;rcases g with⟨_,g⟩|⟨g,_⟩|⟨g,_⟩;·exact g
   ·exact absurd g d
   ·exact absurd g d|tgtRL a b c d ih=>
  intro y' e' k' h2;obtain⟨z',ea,ka,hb',h3⟩:=h2.inv_tgt a;obtain⟨rfl,rfl,rfl⟩:=ih hb';rcases h3 with⟨f,_⟩|⟨_,⟨f,_⟩|⟨Y,e0,f,g⟩⟩;·exact absurd rfl f
  ·rw[c]at f;cases f
  ·rw[c]at f;cases f;rcases g with⟨g,_⟩|⟨_,_,g⟩|⟨_,g,_⟩;·exact absurd rfl g
   ·exact g
   ·rw[d]at g;cases g|tgtR a b c d f ih ih2=>
  intro y' e' k' h2;obtain⟨z',ea,ka,hb',h3⟩:=h2.inv_tgt a;obtain⟨rfl,rfl,rfl⟩:=ih hb';rcases h3 with⟨f,_⟩|⟨_,⟨f,_⟩|⟨Y,e0,f,g⟩⟩;·exact absurd rfl f
  ·rw[c]at f;cases f
  ·rw[c]at f;cases f;rcases g with⟨g,_⟩|⟨_,g,_⟩|⟨_,_,n,g,rfl⟩;·exact absurd rfl g
   ·rw[d]at g;cases g
   ·obtain⟨rfl,rfl,rfl⟩:=ih2 g;exact⟨rfl,rfl,rfl⟩
theorem On.det{Y Y':Tm}{d d':Bool}{e e' k k':Int}(h:On l x Y d e k)(h':On l x Y' d' e' k'):Y'=Y/\d'=d/\e'=e/\k'=k:=by cases h with
 |stop a=>cases h' with|stop _=>exact⟨rfl,rfl,rfl,rfl⟩|redE b=>rw[a]at b;cases b|redL b=>rw[a]at b;cases b|red b=>rw[a]at b;cases b|tgtE b=>rw[a]at b;cases b|tgtN b=>rw[a]at b;cases b|tgtRE b=>rw[a]at b;cases b|tgtRL b=>rw[a]at b;cases b|tgtR b=>rw[a]at b;cases b
 |redE a c=>cases h' with|redE b=>rw[a]at b;cases b;exact⟨rfl,rfl,rfl,rfl⟩|redL b=>rw[a]at b;cases b;exact absurd rfl c|red b=>rw[a]at b;cases b;exact absurd rfl c|stop b=>rw[a]at b;cases b|tgtE b=>rw[a]at b;cases b|tgtN b=>rw[a]at b;cases b|tgtRE b=>rw[a]at b;cases b|tgtRL b=>rw[a]at b;cases b|tgtR b=>rw[a]at b;cases b
 |redL a c=>cases h' with|redE b d=>rw[a]at b;cases b;exact absurd rfl d|redL b=>exact⟨rfl,rfl,rfl,rfl⟩|red b d=>rw[a]at b;cases b;rw[c]at d;cases d|stop b=>rw[a]at b;cases b|tgtE b=>rw[a]at b;cases b|tgtN b=>rw[a]at b;cases b|tgtRE b=>rw[a]at b;cases b|tgtRL b=>rw[a]at b;cases b|tgtR b=>rw[a]at b;cases b
 |red a c=>cases h' with|redE b d=>rw[a]at b;cases b;exact absurd rfl d|redL b d=>rw[a]at b;cases b;rw[c]at d;cases d|red b d=>rw[a]at b;cases b;exact⟨rfl,rfl,rfl,rfl⟩|stop b=>rw[a]at b;cases b|tgtE b=>rw[a]at b;cases b|tgtN b=>rw[a]at b;cases b|tgtRE b=>rw[a]at b;cases b|tgtRL b=>rw[a]at b;cases b|tgtR b=>rw[a]at b;cases b
 |tgtE a c f=>cases h' with|stop b=>rw[a]at b;cases b|redE b=>rw[a]at b;cases b|redL b=>rw[a]at b;cases b|red b=>rw[a]at b;cases b|tgtE b g=>rw[a]at b;cases b;obtain⟨-,rfl,rfl⟩:=c.det g;exact⟨rfl,rfl,rfl,rfl⟩|tgtN b g=>rw[a]at b;cases b;exact absurd (c.det g).2.1.symm f|tgtRE b g=>rw[a]at b;cases b;exact absurd (c.det g).2.1.symm f|tgtRL b g=>rw[a]at b;cases b;exact absurd (c.det g).2.1.symm f|tgtR b g=>rw[a]at b;cases b;exact absurd (c.det g).2.1.symm f
 |tgtN a c f=>cases h' with|stop b=>rw[a]at b;cases b|redE b=>rw[a]at b;cases b|redL b=>rw[a]at b;cases b|red b=>rw[a]at b;cases b|tgtE b g n=>rw[a]at b;cases b;exact absurd (c.det g).2.1 n|tgtN b g=>rw[a]at b;cases b;obtain⟨-,-,rfl⟩:=c.det g;exact⟨rfl,rfl,rfl,rfl⟩|tgtRE b g n=>rw[a]at b;cases b;obtain⟨rfl,-,-⟩:=c.det g;rw[f]at n;cases n|tgtRL b g n=>rw[a]at b;cases b;obtain⟨rfl,-,-⟩:=c.det g;rw[f]at n;cases n|tgtR b g n=>rw[a]at b;cases b;obtain⟨rfl,-,-⟩:=c.det g;rw[f]at n;cases n
 |tgtRE a c f n0=>cases h' with|stop b=>rw[a]at b;cases b|redE b=>rw[a]at b;cases b|redL b=>rw[a]at b;cases b|red b=>rw[a]at b;cases b|tgtE b g n=>rw[a]at b;cases b;exact absurd (c.det g).2.1 n|tgtN b g n=>rw[a]at b;cases b;obtain⟨rfl,-,-⟩:=c.det g;rw[f]at n;cases n|tgtRE b g n=>rw[a]at b;cases b;obtain⟨rfl,-,rfl⟩:=c.det g;rw[f]at n;cases n;exact⟨rfl,rfl,rfl,rfl⟩|tgtRL b g n=>rw[a]at b;cases b;obtain⟨rfl,-,-⟩:=c.det g;rw[f]at n;cases n;exact absurd rfl n0|tgtR b g n=>rw[a]at b;cases b;obtain⟨rfl,-,-⟩:=c.det g;rw[f]at n;cases n;exact absurd rfl n0
 |tgtRL a c f n0=>cases h' with|stop b=>rw[a]at b;cases b|redE b=>rw[a]at b;cases b|redL b=>rw[a]at b;cases b|red b=>rw[a]at b;cases b|tgtE b g n=>rw[a]at b;cases b;exact absurd (c.det g).2.1 n|tgtN b g n=>rw[a]at b;cases b;obtain⟨rfl,-,-⟩:=c.det g;rw[f]at n;cases n|tgtRE b g n m=>rw[a]at b;cases b;obtain⟨rfl,-,-⟩:=c.det g;rw[f]at n;cases n;exact absurd rfl m|tgtRL b g n=>rw[a]at b;cases b;obtain⟨rfl,-,rfl⟩:=c.det g;exact⟨rfl,rfl,rfl,rfl⟩|tgtR b g n m=>rw[a]at b;cases b;obtain⟨rfl,-,-⟩:=c.det g;rw[f]at n;cases n;rw[n0]at m;cases m
 |tgtR a c f n0=>cases h' with|stop b=>rw[a]at b;cases b|redE b=>rw[a]at b;cases b|redL b=>rw[a]at b;cases b|red b=>rw[a]at b;cases b|tgtE b g n=>rw[a]at b;cases b;exact absurd (c.det g).2.1 n|tgtN b g n=>rw[a]at b;cases b;obtain⟨rfl,-,-⟩:=c.det g;rw[f]at n;cases n|tgtRE b g n m=>rw[a]at b;cases b;obtain⟨rfl,-,-⟩:=c.det g;rw[f]at n;cases n;exact absurd rfl m|tgtRL b g n m=>rw[a]at b;cases b;obtain⟨rfl,-,-⟩:=c.det g;rw[f]at n;cases n;rw[n0]at m;cases m|tgtR b g n=>rw[a]at b;cases b;obtain⟨rfl,-,rfl⟩:=c.det g;rw[f]at n;cases n;exact⟨rfl,rfl,rfl,rfl⟩
end
section
variable{l:List yI}{x y:Tm}{e k:Int}
theorem On.tgt_lt{a Y:Tm}{d:Bool}{f:Int}(h:On l x Y d e k)(ha:tN l x=.tgt a)(hl:∀z e k,Br l a z e k->f<k):f<k:=by cases h with|stop b=>rw[ha]at b;cases b|redE b=>rw[ha]at b;cases b|redL b=>rw[ha]at b;cases b|red b=>rw[ha]at b;cases b|tgtE b g=>rw[ha]at b;cases b;exact hl _ _ _ g|tgtN b g=>rw[ha]at b;cases b;exact hl _ _ _ g|tgtRE b g=>rw[ha]at b;cases b;exact hl _ _ _ g|tgtRL b g=>rw[ha]at b;cases b;have:=hl _ _ _ g;omega|tgtR b g=>rw[ha]at b;cases b;have:=hl _ _ _ g;omega
theorem On.red_lt{Y Z:Tm}{d:Bool}{e0:Int}(h:On l x Y d e k)(ha:tN l x=.red Z e0)(h0:e0=0):k=1:=by subst h0;cases h with|stop b=>rw[ha]at b;cases b|redE b c=>rw[ha]at b;cases b;exact absurd rfl c|redL b=>rfl|red b=>rfl|tgtE b g=>rw[ha]at b;cases b|tgtN b g=>rw[ha]at b;cases b|tgtRE b g=>rw[ha]at b;cases b|tgtRL b g=>rw[ha]at b;cases b|tgtR b g=>rw[ha]at b;cases b
theorem Br.first(h:Br l x y e k):∃Y d e1 k1,On l x Y d e1 k1/\k1<=k:=by cases h with|stop a=>exact⟨_,_,_,_,.stop a,by omega⟩|redE a b=>exact⟨_,_,_,_,.redE a b,by omega⟩|redL a b=>exact⟨_,_,_,_,.redL a b,by omega⟩|red a b c=>exact⟨_,_,_,_,.red a b,by have:=c.nn;omega⟩|tgtE a b c=>exact⟨_,_,_,_,.tgtE a b c,by omega⟩|tgtN a b c=>exact⟨_,_,_,_,.tgtN a b c,by omega⟩|tgtRE a b c d=>exact⟨_,_,_,_,.tgtRE a b c d,by omega⟩|tgtRL a b c d=>exact⟨_,_,_,_,.tgtRL a b c d,by omega⟩|tgtR a b c d f=>exact⟨_,_,_,_,.tgtR a b c d,by have:=f.nn;omega⟩
theorem Br.after{Y:Tm}{k1:Int}(h:Br l x y e k)(hO:On l x Y true 0 k1):∃k2,Br l Y y e k2/\k=k1+k2:=by cases hO with
 |red a b=>
  rcases h.inv_red a with⟨c,-⟩|⟨-,c,-⟩|⟨-,-,n,f,g⟩;·exact absurd rfl c
  ·rw[b]at c;cases c
  ·exact⟨n,f,by omega⟩|tgtR a b c d=>
  obtain⟨z',ea,ka,hb',h3⟩:=h.inv_tgt a;obtain⟨rfl,rfl,rfl⟩:=b.det hb';rcases h3 with⟨f,_⟩|⟨_,⟨f,_⟩|⟨Y,e0,f,g⟩⟩;·exact absurd rfl f
  ·rw[c]at f;cases f
  ·rw[c]at f;cases f;rcases g with⟨g,_⟩|⟨_,g,_⟩|⟨_,_,n,g,rfl⟩;·exact absurd rfl g
   ·rw[d]at g;cases g
   ·exact⟨n,g,by omega⟩
end
def zZw(b:Nat)(M:xK)(a:Tm):Option (Bool):=e68 b a 1048577 (M.l.length:Int)>>=λr1=>some r1
theorem yEC{b M a}:Cz (zZw b M a) 225 [mB M 1,mR M] [.mp 0 0,yZ a] (λr=>ab r) (λ_=>[mB M 1,mR M]) 0:=fw func225<|rC 4 [] c68 λ_=>fE 0
def zEW(a:Nat)(M:xK)(b:Tm)(c d:Int):Option (Tm×Int×Int×Int):=zZw a M b>>=λr1=>if r1 then zHB a M b c d>>=λr4=>if r4.2.1 !=0 then some ((Tm.mk 0 0 []),r4.2.1,r4.2.2.1,r4.2.2.2)else e64 a r4.1>>=λr7=>some (r7,0,r4.2.2.1,r4.2.2.2)else some ((Tm.mk 0 0 []),5,c,d)
theorem zVH{a M b c d}:Cz (zEW a M b c d) 209 [mB M 1,mR M,.cells [ai c,ai d]] [.mp 0 0,yZ b,.mp 2 0] (λr=>.tup [yZ r.1,ai r.2.1]) (λr=>[mB M 1,mR M,.cells [ai r.2.2.1,ai r.2.2.2]]) 0:=fw func209<|rK 1 [0,1] yEC (λ_=>rC 2 [0,1,2] yEB λ_=>rB 3 (fE 1)<|rC 1 [] c64 λ_=>fE 1) λ_=>fE 2
theorem Br.shaped{l:List yI}{x y:Tm}{e k:Int}(h:Br l x y e k):zG x=true->e=0->zG y=true:=by induction h with|stop _=>exactλhs _=>hs|redE _ h=>exactλ_ he=>absurd he h|redL _ _=>exactλ_ he=>absurd he (by decide)|red _ hY _ ih=>exactλ_ he=>ih hY he|tgtE _ _ h _=>exactλ_ he=>absurd he h|tgtN _ _ _ _=>exactλhs _=>hs|tgtRE _ _ _ h _=>exactλ_ he=>absurd he h|tgtRL _ _ _ _ _=>exactλ_ he=>absurd he (by decide)|tgtR _ _ _ hY _ _ ih=>exactλ_ he=>ih hY he
theorem zEX{Q:(Int->Int->Tm×Bool×Int×Int×Int)->Int->Prop}(p Y:Tm)(f:Int)(hf:0<=f)(ho:Y.Ok)(hL:zG Y=false->Q (λL U=>(zT,true,2,L,U)) 1)(hS:zG Y=true->Q (λL U=>(Y,true,0,L,U)) 1){S:Prop}(hsh:f<1->S):Ou (λL U q=>(e76 q L U)>>=λr28=>if(r28.1 !=0)=true then some (p,false,r28.1,r28.2.1,r28.2.2)else(Z7 q Y)>>=λr31=>some (r31.1,true,r31.2,r28.2.1,r28.2.2)) er5 Q S f:=by refine Ou.bind (zMu f hf) hsh (λr hr=>⟨_,zF.ifT (by show(r.1 !=0)=true;rw[show r.1=8 from hr];decide) zF.ret,hr⟩) ?_;rintro R k k0 k1⟨rfl,rfl⟩;dsimp only;refine Ou.ifF rfl (Ou.evt (zKw Y ho) ?_);unfold zZx;cases h:zG Y with|true=>exact Ou.ret (by omega) (hS h)|false=>exact Ou.ret (by omega) (hL h)
theorem zHC(l:List yI)(p:Tm)(f:Int)(hf:0<=f){g:Int->Int->Nat->Option (Tm×Bool×Int×Int×Int)}(h:Ou g er5 (QF l p) (∃a,tN l p=.tgt a/\∀z e k,Br l a z e k->f<k) f):Ou (λL U q=>g L U q>>=λr36=>if r36.2.1=true then(if(r36.2.2.1 !=0)=true then some (p,false,r36.2.2.1,r36.2.2.2.1,r36.2.2.2.2)else(e76 q r36.2.2.2.1 r36.2.2.2.2)>>=λr40=>if(r40.1 !=0)=true then some (p,false,r40.1,r40.2.1,r40.2.2)else(Z7 q r36.1)>>=λr43=>some (r43.1,true,r43.2,r40.2.1,r40.2.2))else(if(r36.2.2.1 !=0)=true then some (p,false,r36.2.2.1,r36.2.2.2.1,r36.2.2.2.2)else some (p,false,r36.2.2.1,r36.2.2.2.1,r36.2.2.2.2))) er5 (QO l p) (∀Y d e k,On l p Y d e k->f<k) f:=by
 refine Ou.bind h (λ⟨a,ha,h⟩Y d e k hO=>hO.tgt_lt ha h) (λr hr=>?_) ?_
 ·have hr':(r.2.2.1 !=0)=true:=by rw[show r.2.2.1=8 from hr];decide
  cases hd:r.2.1 with|true=>exact⟨_,zF.ifT rfl (zF.ifT hr' zF.ret),hr⟩|false=>exact⟨_,zF.ifF rfl (zF.ifT hr' zF.ret),hr⟩
 ·rintro R k k0 k1(⟨ha,rfl,Y,rfl⟩|⟨a,z,e,ha,hb,⟨he,Y,rfl⟩|⟨rfl,⟨hr,Y,rfl⟩|⟨Y,e',hY,hr,rfl⟩⟩⟩);·exact Ou.ifF rfl (Ou.ifF rfl (Ou.ret (by omega) ⟨p,false,0,On.stop ha,rfl⟩))
  ·dsimp only;exact Ou.ifF rfl (Ou.ifT (by simpa using he) (Ou.ret (by omega) ⟨p,false,e,by rw[Int.add_zero];exact On.tgtE ha hb he,rfl⟩))
  ·exact Ou.ifF rfl (Ou.ifF rfl (Ou.ret (by omega) ⟨p,false,0,by rw[Int.add_zero];exact On.tgtN ha hb hr,rfl⟩))
  ·dsimp only;refine Ou.ifT rfl (Ou.ite (λh=>?_) λh=>?_);·exact Ou.ret (by omega) ⟨p,false,e',by rw[Int.add_zero];exact On.tgtRE ha hb hr (by simpa using h),rfl⟩
   ·have he:e'=0:=by simpa using h
    subst he;refine zEX p Y (f-k) (by omega) hY (λhs=>⟨_,_,_,On.tgtRL ha hb hr hs,rfl⟩) (λhs=>⟨_,_,_,On.tgtR ha hb hr hs,rfl⟩) (λh Y' d' e' k' hO=>?_);cases hsY:zG Y with|true=>have:=(On.tgtR ha hb hr hsY).det hO;omega|false=>have:=(On.tgtRL ha hb hr hsY).det hO;omega
theorem zSB{N:ByteArray->Bool}(l:List yI)(hE:vA N l)(he:∀e∈l,jM e)(x:Tm)(hs:zG x=true)(f:Int)(hf:0<=f)(hb:∀a∈xF x,HB l a f):Ou (λL U q=>zVG q (xI l) x L U) er5 (QO l x) (∀Y d e k,On l x Y d e k->f<k) f:=by
 have hB:∀a y k,zG a=true->Br l a y 0 k->zG y=true:=λa y k h1 h2=>h2.shaped h1 rfl;have hh:=tS hs;have hg:=(zL hh).2.2;have hn:=gN hg;have ho:uT (xF x):=λy hy=>yB (xN hs hy);have hl:(xF x).length<=8192:=by have h:=zL hs;have:=sB _ h.2.2;omega
 refine Ou.succ ?_;simp only[zVG,bF,zAO,eV];refine Ou.evt (kD x hs) (Ou.ite (λh4=>?_) λh4=>?_)
 ·have h4':(yK x).k=4:=by simpa using h4
  have hkk:∀k:Int,k≠0->qP l (yK x)≠k:=λk hk e=>by have:=(tM e hk).1;omega
  refine Ou.ite (λhlen=>?_) λhlen=>?_
  ·have hlen':((xF x).length:Int)>0:=of_decide_eq_true hlen;obtain⟨a,b,hab,-,hgb⟩:=oE hg (.inr (.inl h4'));have hm:sQ (xF x) 0∈xF x:=qM (by omega) (by omega);have hbo:(sQ (yK x).sub 1).Ok:=by rw[hab];exact pB b hgb
   have hact:tN l x=.red (mA (eM (sQ (yK x).sub 1) [sQ (xF x) 0]).1 ((xF x).drop 1)) (eM (sQ (yK x).sub 1) [sQ (xF x) 0]).2:=by unfold tN;rw[if_pos ⟨h4',by omega⟩]
   refine Ou.pure (tX (by omega) (by rw[hab];simp)) (Ou.pure (tX (by omega) (by show(0:Int)<((xF x).length:Int);omega)) (Ou.evt (zYh _ _ hbo (ho _ hm)) (Ou.pure (qC (by omega) (by show(1:Int)<=((xF x).length:Int);omega)) (Ou.evt (qY _ _ (by show(List.drop _ (xF x)).length<_;rw[List.length_drop];omega)) ?_))));refine Ou.ite (λh=>Ou.ret hf ⟨_,_,_,On.redE hact (by simpa using h),rfl⟩) λh=>?_;have he0:(eM (sQ (yK x).sub 1) [sQ (xF x) 0]).2=0:=by simpa using h
   rw[he0]at hact;exact zEX x _ f hf (mL _ _ (s4 _ _ hbo (uT.one (ho _ hm))) (ho.drop _)) (λhs=>⟨_,_,_,On.redL hact hs,rfl⟩) (λhs=>⟨_,_,_,On.red hact hs,rfl⟩) (λh Y' d' e' k' hO=>by have:=hO.red_lt hact rfl;omega)
  ·have hlen':¬((xF x).length:Int)>0:=of_decide_eq_false hlen;have hact:tN l x=.none:=by unfold tN;rw[if_neg (λh=>by omega),if_neg (hkk 3 (by decide)),if_neg (hkk 4 (by decide)),if_neg (by omega)]
   refine Ou.evt (eT l _ hn) (Ou.ifF (by simpa using hkk 3 (by decide)) ?_);refine Ou.evt (eT l _ hn) (Ou.ifF (by simpa using hkk 4 (by decide)) ?_);exact Ou.ifF (by show((yK x).k==7)=false;rw[h4'];decide) (Ou.ret hf ⟨_,_,_,On.stop hact,rfl⟩)
 ·have h4':(yK x).k≠4:=by simpa using h4
  refine Ou.evt (eT l _ hn) (Ou.ite (λh=>?_) λh=>?_)
  ·have h3:qP l (yK x)=3:=by simpa using h
   have hk:=tM h3 (by decide);have hact:tN l x=.red (mA (yA l (yK x).n).body (xF x)) 0:=by unfold tN;rw[if_neg (λh=>h4' h.1),if_pos h3]
   refine Ou.pure (yT hn hk.2.1) (Ou.evt (qY _ _ (by show(xF x).length<_;omega)) ?_);exact zEX x _ f hf (mL _ _ (he _ (nS hn hk.2.1)).2.1 ho) (λhs=>⟨_,_,_,On.redL hact hs,rfl⟩) (λhs=>⟨_,_,_,On.red hact hs,rfl⟩) (λh Y' d' e' k' hO=>by have:=hO.red_lt hact rfl;omega)
  ·have h3:qP l (yK x)≠3:=by simpa using h
   refine Ou.evt (eT l _ hn) (Ou.ite (λh=>?_) λh=>?_);·exact zHC l x f hf (zOg l hE x hs f hf h4' (by simpa using h) hb hB)
   ·have h4k:qP l (yK x)≠4:=by simpa using h
    refine Ou.ite (λh=>zHC l x f hf (zSA l hE x hs f hf (by simpa using h) hb hB)) λh=>?_;have h7:(yK x).k≠7:=by simpa using h
    have hact:tN l x=.none:=by unfold tN;rw[if_neg (λh=>h4' h.1),if_neg h3,if_neg h4k,if_neg h7]
    exact Ou.ret hf ⟨_,_,_,On.stop hact,rfl⟩
theorem zOf{N:ByteArray->Bool}(l:List yI)(hE:vA N l)(he:∀e∈l,jM e):∀(F n:Nat)(x:Tm),zG x=true->x.nodes<=n->Ou (λL U q=>L5 q (xI l) L U x.k x.n x.sub) er4 (λR k=>∃y e,Br l x y e k/\R=λL U=>(y,e,L,U)) (∀y e k,Br l x y e k->(F:Int)<k) (F:Int):=by intro F;induction F using Nat.strongRecOn with|ind F IH=>intro n;induction n with|zero=>intro x _ h;have:=vR x;omega|succ n ih=>
 intro x hs hn;have hg:=(zL hs).2.2;have hb:∀a∈xF x,HB l a F:=λa ha=>by have:=((u7 x hg).2.2.2.2 a ha).2.1;refine Ou.succ ?_;simp only[zHB];exact ih a (xN hs ha) (by omega)
 refine Ou.succ ?_;simp only[L5,sX];refine Ou.bind (zSB l hE he x hs F (by omega) hb) (λh y e k hbr=>by obtain⟨Y,d,e1,k1,h1,h2⟩:=hbr.first;have:=h _ _ _ _ h1;omega) (λr hr=>?_) ?_
 ·have hr':(r.2.2.1 !=0)=true:=by rw[show r.2.2.1=8 from hr];decide
  cases hd:r.2.1 with|true=>exact⟨_,zF.ifT rfl (zF.ifT hr' zF.ret),hr⟩|false=>exact⟨_,zF.ifF rfl (zF.ifT hr' zF.ret),hr⟩
 ·rintro R k k0 k1⟨Y,d,e,hO,rfl⟩;dsimp only;by_cases e0:e=0
  ·subst e0;cases d with|true=>
    obtain⟨hY,hk1,hst⟩:=hO.step;refine Ou.ifT rfl (Ou.ifF rfl ?_);have:=IH ((F:Int)-k).toNat (by omega) Y.nodes Y hY (Nat.le_refl _);rw[show((((F:Int)-k).toNat:Nat):Int)=F-k by omega]at this;refine this.mono ?_ λh y e k' hbr=>?_
    ·rintro R n _ _⟨y,e,hbr,rfl⟩;exact⟨y,e,hst y e n hbr,rfl⟩
    ·obtain⟨k2,h2,h3⟩:=hbr.after hO;have:=h _ _ _ h2;omega|false=>obtain⟨rfl,hbr⟩:=hO.still;exact Ou.ifF rfl (Ou.ifF rfl (Ou.ret (by omega) ⟨Y,0,by rwa[Int.add_zero],rfl⟩))
  ·have hb:=hO.err e0;have hr':(e !=0)=true:=by simpa using e0
   cases d with|true=>exact Ou.ifT rfl (Ou.ifT hr' (Ou.ret (by omega) ⟨zT,e,by rwa[Int.add_zero],rfl⟩))|false=>exact Ou.ifF rfl (Ou.ifT hr' (Ou.ret (by omega) ⟨zT,e,by rwa[Int.add_zero],rfl⟩))
theorem zZv{N:ByteArray->Bool}(l:List yI)(hE:vA N l)(he:∀e∈l,jM e)(x:Tm)(hs:zG x=true)(f:Int)(hf:0<=f):HB l x f:=by refine Ou.succ ?_;simp only[zHB];have:=zOf l hE he f.toNat x.nodes x hs (Nat.le_refl _);rwa[show((f.toNat:Nat):Int)=f by omega]at this
def uZ(l:List yI)(x:Tm):Prop:=qA x 1048577 l.length=true
instance(l:List yI)(x:Tm):Decidable (uZ l x):=inferInstanceAs(Decidable (_=true))
theorem uZ.shaped{l:List yI}{x:Tm}(h:uZ l x):zG x=true:=by unfold uZ qA at h;simp only[Bool.and_eq_true]at h;exact h.1.1
def QBR(l:List yI)(x:Tm)(R:Int->Int->Tm×Int×Int×Int)(k:Int):Prop:=(¬uZ l x/\k=0/\R=λL U=>(zT,5,L,U))\/(uZ l x/\∃y e,Br l x y e k/\R=λL U=>(if e=0 then y else zT,e,L,U))
theorem zDn{N:ByteArray->Bool}(l:List yI)(hE:vA N l)(he:∀e∈l,jM e)(x:Tm)(ho:x.Ok)(f:Int)(hf:0<=f):Ou (λL U q=>zEW q (xI l) x L U) er4 (QBR l x) (uZ l x/\∀y e k,Br l x y e k->f<k) f:=by
 simp only[zEW,zZw,bF];refine Ou.evt (a:=qA x 1048577 l.length) ((kB x _ _ ho).bind zF.ret) (Ou.ite (λh=>?_) λh=>?_)
 ·have hR:uZ l x:=h;refine Ou.bind (zZv l hE he x hR.shaped f hf) (λh=>⟨hR,h⟩) (λr hr=>⟨_,zF.ifT (by show(r.2.1 !=0)=true;rw[show r.2.1=8 from hr];decide) zF.ret,hr⟩) ?_;rintro R k k0 k1⟨y,e,hbr,rfl⟩;dsimp only;by_cases e0:e=0
  ·subst e0;have hy:=hbr.shaped hR.shaped rfl;refine Ou.ifF rfl (Ou.evt (a:=y) ((sG y (yB hy)).eq (by unfold nZ;rw[if_pos hy])) (Ou.ret (by omega) (.inr ⟨hR,y,0,by rwa[Int.add_zero],rfl⟩)))
  ·refine Ou.ifT (by simpa using e0) (Ou.ret (by omega) (.inr ⟨hR,y,e,by rwa[Int.add_zero],?_⟩));rw[if_neg e0];rfl
 ·exact Ou.ret hf (.inl ⟨by unfold uZ;rw[h];simp,rfl,rfl⟩)
structure Inv(l:List yI)(I:Tm->Prop):Prop where
 spine:∀t,xQ t=true->I t->I (yK t)/\∀a∈xF t,I a
 ap:∀f as0,I f->(∀a∈as0,I a)->I (mA f as0)beta:∀(n:Int)(a b x:Tm),I (.mk 4 n [a,b])->I x->I (siT [x] b 0)body:∀i:Int,0<=i->i<l.length->(yA l i).kind=3->I (yA l i).body
 step:∀(d:Int)(s:Tm)(lev c:Int)(args own:List Tm),I (.mk 7 d [s])->G5 l c 2=true->(yA l c).fam=d->(args.length:Int)=(yA l d).pars+1+(yA l d).cons.length->own.length=(vN l c).args.length->(∀a∈args,I a)->(∀a∈own,I a)->I (zMz l d lev c args own)
theorem zVI{l:List yI}{I:Tm->Prop}(hI:Inv l I){x Y:Tm}(hs:zG x=true)(hx:I x)(h:tN l x=.red Y 0):I Y:=by
 have hsp:=hI.spine x (zL hs).2.2 hx;have hg:=(zL (tS hs)).2.2;unfold tN at h;by_cases h1:(yK x).k=4/\0<(xF x).length
 ·rw[if_pos h1]at h;have hm:sQ (xF x) 0∈xF x:=qM (by omega) (by omega);obtain⟨a,b,hab,-,-⟩:=oE hg (.inr (.inl h1.1));have hhd:yK x=.mk 4 (yK x).n [a,b]:=by rw[<-h1.1,<-hab,sX]
  injection h with hY he;rw[(s6 he).2.2.2]at hY;rw[<-hY];refine hI.ap _ _ ?_ λy hy=>hsp.2 y (List.mem_of_mem_drop hy);have hb:sQ (yK x).sub 1=b:=by rw[hab];rfl
  rw[hb];exact hI.beta (yK x).n a b _ (by rw[<-hhd];exact hsp.1) (hsp.2 _ hm)
 ·rw[if_neg h1]at h;by_cases h2:qP l (yK x)=3
  ·rw[if_pos h2]at h;injection h with hY he;rw[<-hY];have hk:=tM h2 (by decide);exact hI.ap _ _ (hI.body _ (gN hg) hk.2.1 hk.2.2) hsp.2
  ·rw[if_neg h2]at h;split at h;·split at h<;>cases h
   ·split at h;·split at h<;>cases h
    ·cases h
theorem p6{N:ByteArray->Bool}{l:List yI}(hE:vA N l){x a:Tm}(hs:zG x=true)(h:tN l x=.tgt a):a∈xF x/\(qP l (yK x)=4\/((yK x).k=7/\G5 l (yK x).n 1=true/\wZ (yA l (yK x).n)<=(xF x).length)):=by
 have hn:=gN (zL (tS hs)).2.2;unfold tN at h;by_cases h1:(yK x).k=4/\0<(xF x).length;·rw[if_pos h1]at h;cases h
 ·rw[if_neg h1]at h;by_cases h2:qP l (yK x)=3;·rw[if_pos h2]at h;cases h
  ·rw[if_neg h2]at h;by_cases h3:qP l (yK x)=4
   ·rw[if_pos h3]at h;split at h;·cases h
    ·injection h with h;have hk:=tM h3 (by decide);have hp:=(xS (hE.2 _ hn hk.2.1)).2.2.2.1 hk.2.2;unfold X5 at hp;simp only[Bool.and_eq_true]at hp;have hw:=pL hp.1;have hfam:=uC ((xS (hE.2 _ hw.1 (by omega))).2.1 hw.2.2.1);rw[<-h];exact⟨qM (by omega) (by omega),.inl h3⟩
   ·rw[if_neg h3]at h;by_cases h4:(yK x).k=7
    ·rw[if_pos h4]at h;split at h
     ·rename_i h5;injection h with h;have hi:=tL h5.1;have hfam:=uC ((xS (hE.2 _ hi.1 hi.2.1)).2.1 hi.2.2);have h6:=h5.2;unfold wZ at h6 h;rw[if_pos hi.2.2]at h6 h;rw[<-h];exact⟨qM (by omega) (by omega),.inr ⟨h4,h5⟩⟩
     ·cases h
    ·rw[if_neg h4]at h;cases h
theorem zOe{N:ByteArray->Bool}{l:List yI}{I:Tm->Prop}(hE:vA N l)(hI:Inv l I){x y Y a:Tm}(hs:zG x=true)(hsy:zG y=true)(hx:I x)(hy:I y)(ha:tN l x=.tgt a)(h:sY l x y=some (Y,0)):I Y:=by
 have hsp:=hI.spine x (zL hs).2.2 hx;have hsy2:=hI.spine y (zL hsy).2.2 hy;have hg:=(zL (tS hs)).2.2;have hox:uT (xF x):=λz hz=>yB (xN hs hz);have hoy:uT (xF y):=λz hz=>yB (xN hsy hz);have hlx:(xF x).length<=8192:=by have h:=zL hs;have:=sB _ h.2.2;omega
 have hly:(xF y).length<=8192:=by have h:=zL hsy;have:=sB _ h.2.2;omega
 have hca:=(p6 hE hs ha).2;unfold sY at h;by_cases h4:qP l (yK x)=4
 ·rw[if_pos h4]at h;split at h
  ·simp only[Option.some.injEq,Prod.mk.injEq]at h;have hX:=(eX l (yK x).n ((xF y).drop (yA l (yK y).n).pars.toNat) hE (hoy.drop _) (by rw[List.length_drop];omega)).2.2.2 h.2;rw[<-h.1];refine hI.ap _ _ ?_ λz hz=>hsp.2 z (List.mem_of_mem_drop hz);rw[hX.2.2.2];exact hsy2.2 _ (List.mem_of_mem_drop (qM hX.2.1 hX.2.2.1))
  ·cases h
 ·rw[if_neg h4]at h;obtain⟨h7,-,-⟩:=hca.resolve_left h4;split at h
  ·simp only[Option.some.injEq,Prod.mk.injEq]at h;have hX:=(C5 l (yK x).n (sQ (yK x).sub 0).n (yK y).n ((xF x).take ((yA l (yK x).n).pars+1+(yA l (yK x).n).cons.length).toNat) ((xF y).drop (yA l (yK x).n).pars.toNat) hE (hox.take _) (hoy.drop _) (by rw[List.length_take];omega) (by rw[List.length_drop];omega)).2.2.2 h.2;rw[<-h.1];refine hI.ap _ _ ?_ λz hz=>hsp.2 z (List.mem_of_mem_drop hz);obtain⟨-,-,b1,b2,b3,b4,-,-,b5,-⟩:=hX;rw[b5];obtain⟨s,hsb⟩:∃s,(yK x).sub=[s]:=by revert hg h7;generalize yK x=w;intro hg h7;obtain⟨kk,nn,ss⟩:=w;obtain⟨s,hs,-⟩:=(tR (uB hg).1).2.2.2.2.2.2.1 h7;exact⟨s,hs⟩
   have hhd:yK x=.mk 7 (yK x).n [s]:=by rw[<-h7,<-hsb,sX]
   exact hI.step _ s _ _ _ _ (by rw[<-hhd];exact hsp.1) b1 b2 b3 b4 (λz hz=>hsp.2 z (List.mem_of_mem_take hz)) (λz hz=>hsy2.2 z (List.mem_of_mem_drop hz))
  ·cases h
theorem Br.inv{N:ByteArray->Bool}{l:List yI}{I:Tm->Prop}(hE:vA N l)(hI:Inv l I){x y:Tm}{e k:Int}(h:Br l x y e k):zG x=true->e=0->I x->I y:=by induction h with|stop _=>exactλ_ _ hx=>hx|redE _ h=>exactλ_ he=>absurd he h|redL _ _=>exactλ_ he=>absurd he (by decide)|red a hY _ ih=>exactλhs he hx=>ih hY he (zVI hI hs hx a)|tgtE _ _ h _=>exactλ_ he=>absurd he h|tgtN _ _ _ _=>exactλ_ _ hx=>hx|tgtRE _ _ _ h _=>exactλ_ he=>absurd he h|tgtRL _ _ _ _ _=>exactλ_ he=>absurd he (by decide)|tgtR a b c hY _ ih ih2=>intro hs he hx;have hm:=(p6 hE hs a).1;have hsa:=xN hs hm;exact ih2 hY he (zOe hE hI hs (b.shaped hsa rfl) hx (ih hsa rfl ((hI.spine _ (zL hs).2.2 hx).2 _ hm)) a c)
theorem zDm{N:ByteArray->Bool}{l:List yI}(hE:vA N l){P:Int->Int->Prop}(hP:∀k n:Int,k≠8->(k=6\/k=7->n<l.length)->P k n):Inv l (xV P)where
 spine:=λt hg h=>nG t hg h
 ap:=λf as0 hf ha=>gJ as0 f (hP 5 0 (by decide) (by omega)) hf ha
 beta:=λn a b x h hx=>by rw[xV,vC,vC,vC]at h;exact s7 [x] (λy hy=>by rw[List.mem_singleton.1 hy];exact hx) b 0 h.2.2.1
 body:=λi h0 h1 hk=>by have hd:=(xS (hE.2 i h0 h1)).2.2.2.2.1 hk;unfold zJN at hd;simp only[Bool.and_eq_true]at hd;exact sL (λk n h=>hP k n h.2 λh'=>by have:=h.1 h';omega) (gK hd.1)
 step:=λd s lev c args own h7 hc hf ha ho h1 h2=>by have hi:=tL hc;obtain⟨A,y,hw,-⟩:=uF hE hi.1 hi.2.1 hi.2.2;rw[xV]at h7;refine zOi (hP 4 0 (by decide) (by omega)) (hP 5 0 (by decide) (by omega)) (hP 0 0 (by decide) (by omega)) (hP 2 _ (by decide) (by omega)) (h7.1.resolve_left (by decide)) h1 h2 ?_;exact zKy (by rw[hw]) (sL (λk n h=>hP k n h.2 λh'=>by have:=h.1 h';omega) (gK (xS (hE.2 _ hi.1 hi.2.1)).1))
theorem zZu{N:ByteArray->Bool}{l:List yI}(hE:vA N l)(V:Int->Prop):Inv l (λt=>∀j∈sH t 0,V j)where
 spine:=λt hg h=>⟨λj hj=>h j ((K9 t hg 0 j).1 hj),λa ha j hj=>h j ((K9 t hg 0 j).2 a ha hj)⟩
 ap:=λf as0 hf ha j hj=>by
  rcases(zDs as0 f 0 j).1 hj with h|⟨a,h1,h2⟩;·exact hf j h
  ·exact ha a h1 j h2
 beta:=λn a b x h hx j hj=>by
  obtain⟨i,hi,h1|⟨h1,h2⟩⟩:=zRQ [x] b 0 j (Int.le_refl 0) hj
  ·refine h j (zRT.2 (.inr ?_));simp only[List.length_cons,List.length_nil]at h1;have:=(iD b 0 1 j (by omega)).2 ⟨by omega,by rwa[show j+1=i by omega]⟩;exact this
  ·simp only[List.length_cons,List.length_nil]at h1;refine hx j ?_;have e:i.toNat=0:=by omega
   simpa[e]using h2
 body:=λi h0 h1 hk j hj=>by have hd:=(xS (hE.2 i h0 h1)).2.2.2.2.1 hk;unfold zJN at hd;simp only[Bool.and_eq_true]at hd;exact absurd hj (zDr hd.1 0 j (Int.le_refl 0))
 step:=λd s lev c args own h7 hc hf ha ho h1 h2 j hj=>by
  rcases zVC hE hc hf ha ho hj with⟨a,h3,h4⟩|⟨a,h3,h4⟩;·exact h1 a h3 j h4
  ·exact h2 a h3 j h4
def C6:Nat->yU->Int->Option (Int)|0,_,_=>none|c+1,a,b=>if decide ((a.length:Int)>0)then if decide (b<=8192)then zS a (xC ((a.length:Int)-1))>>=λx3=>mU a 0 (xC ((a.length:Int)-1))>>=λx5=>yX 40 ([]:yU) x5>>=λl7=>mU x3.sub 0 (zXK (x3.sub.length:Int) 8193)>>=λx10=>yX 40 l7 x10>>=λl12=>C6 c l12 (xC (b+1))else some b else some b
def e28(c:Nat)(d:Tm):Option (Int):=C6 c [d] 0
theorem zZs:∀c:Nat,∀a b,Lz (C6 c a b) 0 f28 (pt 4069 f28) (λj=>sp j 39 0 [(3,zN zA a .full),(4,ai b)]) ⟨[],0,[],0,[]⟩ (λr=>ai r) (λ_=>[]) 0 [.blk 0,.seq (pt 255 f28)]/\Lz (C6 c a b) 0 f28 (pt 4069 f28) (λj=>sp j 39 0 [(3,zN zA a (.st 0 3)),(4,ai b)]) ⟨[],0,[0],1,[]⟩ (λr=>ai r) (λ_=>[]) 0 [.blk 0,.seq (pt 255 f28)]:=xX (λ_ _=>⟨lN,lN⟩) λc ih=>λa b=>⟨lw λ_=>rB 1 (rB 0 (rA 2 (xP (o:=.full)) λ_=>rW (λh6=>oF 5 (zLA (o:=.full) h6)) λx5=>rH λ_ h8=>rZ (List.length x5=0) (λh9=>rS (oP 0 (nY h8 h9))<|rA 4 lZ λx10=>rH λ_ h13=>rZ (List.length x10=0) (λh14=>rS (oP 0 (nY h13 h14))<|lH 1 [] [] [] [3,4] ((ih _ _).1)) λh14=>rS (oP 0 (vQ h13 h14))<|lH 1 [] [] [0] [3,4] ((ih _ _).2)) λh9=>rS (oP 0 (vQ h8 h9))<|rA 4 lZ λx10=>rH λ_ h13=>rZ (List.length x10=0) (λh14=>rS (oP 0 (nY h13 h14))<|lH 1 [] [] [0] [3,4] ((ih _ _).2)) λh14=>rS (oP 0 (vQ h13 h14))<|lH 1 [] [] [1] [3,4] ((ih _ _).2))<|lE 0)<|lE 0,lw λ_=>rB 1 (rB 0 (rA 2 (xP (o:=(.st 0 3))) λ_=>rW (λh6=>oF 5 (zLA (o:=(.st 0 3)) h6)) λx5=>rH λ_ h8=>rZ (List.length x5=0) (λh9=>rS (oP 0 (nY h8 h9))<|rA 4 lZ λx10=>rH λ_ h13=>rZ (List.length x10=0) (λh14=>rS (oP 0 (nY h13 h14))<|lH 1 [] [] [] [3,4] ((ih _ _).1)) λh14=>rS (oP 0 (vQ h13 h14))<|lH 1 [] [] [1] [3,4] ((ih _ _).2)) λh9=>rS (oP 0 (vQ h8 h9))<|rA 4 lZ λx10=>rH λ_ h13=>rZ (List.length x10=0) (λh14=>rS (oP 0 (nY h13 h14))<|lH 1 [] [] [1] [3,4] ((ih _ _).2)) λh14=>rS (oP 0 (vQ h13 h14))<|lH 1 [] [] [2] [3,4] ((ih _ _).2))<|lE 0)<|lE 0⟩
theorem c28{c d}:Cz (e28 c d) 28 [] [yZ d] (λr=>ai r) (λ_=>[]) 0:=fw func28<|rS (oS 1 (xJ xY [d]))<|fH 0 [] [] [] [3,4] ((zZs _ _ _).1)
mutual def C7:Nat->yU->Int->Option (Int)|0,_,_=>none|c+1,b,a=>if decide ((b.length:Int)>0)then if decide (a<129)then C8 c b a [] 0 else some a else some a def C8:Nat->yU->Int->yU->Int->Option (Int)|0,_,_,_,_=>none|c+1,b,a,e,d=>if decide (d<(b.length:Int))then zS b d>>=λx7=>yX 40 e x7.sub>>=λl9=>C8 c b a l9 (xC (d+1))else C7 c e (xC (a+1))end
def e84(c:Nat)(f:Tm):Option (Int):=e28 c f>>=λr1=>if decide (r1>8192)then some 129 else C7 c [f] 0
theorem zEY:∀c:Nat,(∀b a,Lz (C7 c b a) 0 f84 (pt 16357 f84) (λj=>sp j 37 0 [(3,zN zA b .full),(4,ai a)]) ⟨[],0,[],0,[]⟩ (λr=>ai r) (λ_=>[]) 0 [.blk 0,.seq (pt 1023 f84)]/\Lz (C7 c b a) 0 f84 (pt 16357 f84) (λj=>sp j 37 0 [(3,zN zA b (.st 0 3)),(4,ai a)]) ⟨[],0,[0],1,[]⟩ (λr=>ai r) (λ_=>[]) 0 [.blk 0,.seq (pt 1023 f84)])/\(∀b a e d,Lz (C8 c b a e d) 0 f84 (pt 268007349 f84) (λj=>sp j 37 0 [(3,zN zA b .full),(4,ai a),(5,zN zA e (.st 0 3)),(6,ai d)]) ⟨[],0,[0],1,[]⟩ (λr=>ai r) (λ_=>[]) 0 [.blk 2,.seq (pt 4187615 f84),.blk 1,.loop (pt 16357 f84),.blk 0,.seq (pt 1023 f84)]/\Lz (C8 c b a e d) 0 f84 (pt 268007349 f84) (λj=>sp j 37 0 [(3,zN zA b (.st 0 3)),(4,ai a),(5,zN zA e (.st 1 3)),(6,ai d)]) ⟨[],0,[0,1],2,[]⟩ (λr=>ai r) (λ_=>[]) 0 [.blk 2,.seq (pt 4187615 f84),.blk 1,.loop (pt 16357 f84),.blk 0,.seq (pt 1023 f84)]):=xX ⟨λ_ _=>⟨lN,lN⟩,λ_ _ _ _=>⟨lN,lN⟩⟩ λc ih=>⟨λb a=>⟨lw λ_=>rB 1 (rB 0 (lH 1 [(none,5,3)] [] [0] [3,4,5,6] ((ih.2 _ _ _ _).1))<|lE 0)<|lE 0,lw λ_=>rB 1 (rB 0 (lH 1 [(none,5,3)] [] [0,1] [3,4,5,6] ((ih.2 _ _ _ _).2))<|lE 0)<|lE 0⟩,λb a e d=>⟨lw λ_=>rB 1 (rA 0 (xP (o:=.full)) λx7=>rH λ_ h10=>rZ (List.length x7.sub=0) (λh11=>rS (oP 1 (nY h10 h11))<|lH 1 [] [] [0] [3,4,5,6] ((ih.2 _ _ _ _).1)) λh11=>rS (oP 1 (vQ h10 h11))<|lH 1 [] [] [1] [3,4,5,6] ((ih.2 _ _ _ _).1))<|lH 1 [] [] [0] [3,4] ((ih.1 _ _).2),lw λ_=>rB 1 (rA 0 (xP (o:=(.st 0 3))) λx7=>rH λ_ h10=>rZ (List.length x7.sub=0) (λh11=>rS (oP 1 (nY h10 h11))<|lH 1 [] [] [0,1] [3,4,5,6] ((ih.2 _ _ _ _).2)) λh11=>rS (oP 1 (vQ h10 h11))<|lH 1 [] [] [0,2] [3,4,5,6] ((ih.2 _ _ _ _).2))<|lH 1 [] [] [1] [3,4] ((ih.1 _ _).2)⟩⟩
theorem c84{c f}:Cz (e84 c f) 84 [] [yZ f] (λr=>ai r) (λ_=>[]) 0:=fw func84<|rC 1 [] c28 λ_=>rB 0 (fE 0)<|rS (oS 1 (xJ xY [f]))<|fH 0 [] [] [] [3,4] ((((zEY _).1) _ _).1)
theorem gO:∀a b:List Tm,yW (a++b)=yW a+yW b|[],b=>by simp[yW]|t::a,b=>by simp only[List.cons_append,yW,gO a b];omega
theorem kJ:∀l:List Tm,l.length<=yW l|[]=>by simp[yW]|t::l=>by rw[yW];have:=kJ l;have:=vR t;simp;omega
theorem bG(t:Tm):t.nodes=1+yW t.sub:=by cases t;rw[Tm.nodes,Tm.sub]
theorem zHD(t:Tm):t.high=1+uH t.sub:=by cases t;rw[Tm.high,Tm.sub]
theorem zDl:∀a b:List Tm,uH (a++b)=max (uH a) (uH b)|[],b=>by simp[uH]|t::a,b=>by simp only[List.cons_append,uH,zDl a b];omega
theorem zSC{α:Type}{l:List α}{a b:Nat}(h1:a<=b)(h2:b<=l.length):mU l (a:Int) (b:Int)=some ((l.drop a).take (b-a)):=by unfold mU;rw[if_pos (by omega),show((b:Int)-(a:Int)).toNat=b-a by omega,show(a:Int).toNat=a by omega]
theorem zOd{α:Type}(l:List α)(x:α):zS (l++[x]) (l.length:Int)=some x:=by unfold zS;rw[if_pos (by omega)];simp
theorem zOc:∀(m h:Nat)(todo:List Tm),h+m=8193->todo.length<=1+h*8193->zF (λq=>C6 q todo (h:Int)) ((min (h+yW todo) 8193:Nat):Int):=by intro m;induction m with
 |zero=>
  intro h todo hm hl;refine zF.succ ?_;simp only[C6];have:h=8193:=by omega
  subst this;rcases todo with _|⟨x,todo⟩;·exact zF.ifF (by simp) (zF.ret.eq (by simp))
  ·refine zF.ifT (by simp<;>omega) (zF.ifF (by simp) (zF.ret.eq ?_));have:min (8193+yW (x::todo)) 8193=8193:=by omega
   rw[this]|succ m ih=>
  intro h todo hm hl;refine zF.succ ?_;simp only[C6];rcases List.eq_nil_or_concat todo with rfl|⟨ini,x,rfl⟩
  ·refine zF.ifF (by simp) (zF.ret.eq ?_);have:min (h+yW []) 8193=h:=by rw[yW];omega
   rw[this]
  ·simp only[List.concat_eq_append]at hl⊢;have hlen:(ini++[x]).length=ini.length+1:=by simp
   have hb:h*8193<=8192*8193:=Nat.mul_le_mul_right _ (by omega);have e1:xC (((ini++[x]).length:Int)-1)=(ini.length:Int):=by rw[yS (by omega) (by omega),hlen];omega
   refine zF.ifT (by simp<;>omega) (zF.ifT (by simp<;>omega) ?_);rw[e1];refine zF.pure (zOd ini x) ?_;have e2:mU (ini++[x]) 0 (ini.length:Int)=some ini:=by have:=zSC (l:=ini++[x]) (a:=0) (b:=ini.length) (by omega) (by omega);simpa using this
   refine zF.pure e2 (zF.pure (yF (by simp<;>omega)) ?_);have e3:zXK (x.sub.length:Int) 8193=((min x.sub.length 8193:Nat):Int):=by unfold zXK;split<;>omega
   rw[e3];have e4:=zSC (l:=x.sub) (a:=0) (b:=min x.sub.length 8193) (by omega) (by omega);refine zF.pure (by simpa using e4) (zF.pure (yF (by simp<;>omega)) ?_);rw[zU h (by omega)];refine(ih (h+1) _ (by omega) (by simp<;>omega)).eq ?_;have hn:=bG x;simp only[List.nil_append,gO,yW,Nat.add_zero];by_cases hs:x.sub.length<=8193
   ·rw[show min x.sub.length 8193=x.sub.length by omega,List.take_length];omega
   ·have h1:=kJ (x.sub.take (min x.sub.length 8193));have h2:=kJ x.sub;simp only[List.length_take]at h1;omega
theorem zHE(t:Tm):zF (λq=>e28 q t) ((min t.nodes 8193:Nat):Int):=by simp only[e28];refine(zOc 8193 0 [t] (by omega) (by simp)).eq ?_;simp[yW]
theorem zDk:∀l:List Tm,l≠[]->uH l=1+uH (l.flatMap Tm.sub)|[t],_=>by simp[uH,zHD t]|t::u::l,_=>by have h1:=zDk (u::l) (by simp);have h2:(t::u::l).flatMap Tm.sub=t.sub++(u::l).flatMap Tm.sub:=rfl;rw[uH,h1,h2,zDl,zHD t];omega
theorem zAP:∀l:List Tm,yW l=l.length+yW (l.flatMap Tm.sub)|[]=>by simp[yW]|t::l=>by rw[yW,List.flatMap_cons,gO,zAP l,bG t];simp;omega
theorem zKv:∀(m d:Nat)(l:List Tm),d+m=129->yW l<=8192->zF (λq=>C7 q l (d:Int)) ((min (d+uH l) 129:Nat):Int):=by intro m;induction m with
 |zero=>
  intro d l hm hl;refine zF.succ ?_;simp only[C7];have:d=129:=by omega
  subst this;rcases l with _|⟨x,l⟩;·exact zF.ifF (by simp) (zF.ret.eq (by simp))
  ·refine zF.ifT (by simp<;>omega) (zF.ifF (by simp) (zF.ret.eq ?_));have:min (129+uH (x::l)) 129=129:=by omega
   rw[this]|succ m ih=>
  intro d l hm hl;refine zF.succ ?_;simp only[C7];by_cases h:l=[]
  ·subst h;refine zF.ifF (by simp) (zF.ret.eq ?_);have:min (d+uH []) 129=d:=by rw[uH];omega
   rw[this]
  ·have hpos:0<l.length:=List.length_pos_iff.2 h;refine zF.ifT (by simp<;>omega) (zF.ifT (by simp<;>omega) ?_);have hfn:=zAP l;have key:∀(r:List Tm)(v:Nat)(acc:List Tm),l.drop v=r->acc.length+yW (r.flatMap Tm.sub)<=8192->zF (λq=>C8 q l (d:Int) acc (v:Int)) ((min (d+1+uH (acc++r.flatMap Tm.sub)) 129:Nat):Int)\/yW (acc++r.flatMap Tm.sub)>8192:=by intro r;induction r with
    |nil=>
     intro v acc hd ha;by_cases hn:yW acc<=8192
     ·refine .inl (zF.succ ?_);simp only[C8];refine zF.ifF (zY hd) ?_;rw[zU d (by omega)];refine(ih (d+1) acc (by omega) hn).eq (by simp)
     ·exact .inr (by simp<;>omega)|cons x r ihr=>
     intro v acc hd ha;have hlt:=yC hd;have hll:=kJ l;have hsl:=kJ x.sub;rw[List.flatMap_cons,gO]at ha;rcases ihr (v+1) (acc++x.sub) (zR hd) (by simp<;>omega)with h1|h1;·refine .inl (zF.succ ?_);simp only[C8];refine zF.ifT (zX hd) (zF.pure (zV hd) (zF.pure (yF (by omega)) ?_));rw[zU v (by omega)];refine h1.eq ?_;rw[List.flatMap_cons,List.append_assoc]
     ·refine .inr ?_;rw[List.flatMap_cons,<-List.append_assoc];exact h1
   rcases key l 0 [] rfl (by simp<;>omega)with h1|h1
   ·refine h1.eq ?_;rw[zDk l h];simp;omega
   ·simp only[List.nil_append]at h1;omega
def zSD(t:Tm):Int:=if t.nodes<=8192 then((min t.high 129:Nat):Int)else 129
theorem zOb(t:Tm):zF (λq=>e84 q t) (zSD t):=by
 simp only[e84];refine(zHE t).bind ?_;unfold zSD;by_cases h:t.nodes<=8192
 ·rw[if_pos h];refine zF.ifF (by simp<;>omega) ((zKv 129 0 [t] (by omega) (by simpa[yW]using h)).eq ?_);simp[uH]
 ·rw[if_neg h];exact zF.ifT (by simp<;>omega) zF.ret
theorem L6{p:Tm}{c:Nat}{m:Int}{X:Nat->Option Bool}{r:Bool}(h:p.sub.length=c->0<=p.n->p.n<=m->zF X r):zF (λq=>if((List.length p.sub:Int)!=(c:Int))=true then some false else if decide (p.n<0)=true then some false else if decide (p.n>m)=true then some false else X q) (decide (p.sub.length=c)&&decide (0<=p.n)&&decide (p.n<=m)&&r):=by
 by_cases h1:p.sub.length=c
 ·refine zF.ifF (by simp<;>omega) ?_;by_cases h2:p.n<0;·exact zF.ifT (by simpa using h2) (zF.ret.eq (by simp<;>omega))
  ·refine zF.ifF (by simpa using h2) ?_;by_cases h3:p.n>m;·exact zF.ifT (by simpa using h3) (zF.ret.eq (by simp<;>omega))
   ·refine zF.ifF (by simpa using h3) ((h h1 (by omega) (by omega)).eq ?_);simp[h1,show 0<=p.n by omega,show p.n<=m by omega]
 ·exact zF.ifT (by simp<;>omega) (zF.ret.eq (by simp[h1]))
def zMr(d:Nat)(c a b:Int):Option (Int):=some b
theorem zVJ{d c a b}:Cz (zMr d c a b) 47 [.cells [ai c,ai a]] [.mp 0 0,ai b] (λ_=>.tup []) (λr=>[.cells [ai r,ai a]]) 0:=fw func47<|fE 1
def e30(b:Nat)(a:Int):Option ((Int)⊕(Int×Int×Int)):=if decide (a<0)then some (Sum.inl 5)else if decide (a>1048576)then some (Sum.inl 5)else zMr b 0 0 a>>=λr3=>some (Sum.inr (0,r3,0))
theorem c30{b a}:Cz (e30 b a) 30 [] [ai a] (Sum.elim (λx=>.tup [.val (.pointer none),ai x]) (λx=>.tup [.mp 0 0,ai x.1])) (Sum.elim (λ_=>[]) (λx=>[.cells [ai x.2.1,ai x.2.2]])) 0:=fw func30<|rB 0 (fE 0)<|rB 0 (fE 0)<|rC 0 [0] zVJ λ_=>fF 0 [0]
mutual def e39:Nat->Tm->Tm->Option (Bool)
 |0,_,_=>none|c+1,a,b=>if a.k !=b.k then some false else if a.n !=b.n then some false else if(a.sub.length:Int)!=(b.sub.length:Int)then some false else R9 c a b 0 def R9:Nat->Tm->Tm->Int->Option (Bool)
 |0,_,_,_=>none|c+1,a,b,d=>if decide (d<(a.sub.length:Int))then zS a.sub d>>=λx5=>zS b.sub d>>=λx7=>e39 c x5 x7>>=λr9=>if r9 then R9 c a b (xC (d+1))else some false else some true end
theorem zOa:∀c:Nat,(∀a b,Cz (e39 c a b) 39 [] [yZ a,yZ b] (λr=>ab r) (λ_=>[]) 0)/\(∀a b d,Lz (R9 c a b d) 0 f39 (pt 4021 f39) (λj=>sp j 46 0 [(2,.mp 0 0),(3,.mp 1 0),(5,ai d)]) ⟨[(0,.cells [ai a.k,ai a.n,zN zA a.sub .no]),(1,.cells [ai b.k,ai b.n,zN zA b.sub .no])],2,[],0,[]⟩ (λr=>ab r) (λ_=>[]) 0 [.blk 0,.seq (pt 63 f39)]):=xX ⟨λ_ _=>cN,λ_ _ _=>lN⟩ λc ih=>⟨λa b=>fw func39<|rB 2 (fE 0)<|rB 2 (fE 0)<|rB 4 (fE 0)<|fH 0 [] [0,1] [] [2,3,5] (ih.2 _ _ _),λa b d=>lw λ_=>rB 2 (rA 1 (xP (o:=.no)) λ_=>rA 2 (xP (o:=.no)) λ_=>rK 1 [] (ih.1 _ _) (λ_=>lH 2 [] [0,1] [] [2,3,5] (ih.2 _ _ _)) λ_=>lE 1)<|lE 0⟩
theorem c39{c a b}:Cz (e39 c a b) 39 [] [yZ a,yZ b] (λr=>ab r) (λ_=>[]) 0:=(zOa _).1 _ _
mutual theorem zDj:∀(t:Tm),t.Ok->zF (λq=>e39 q t t) true|.mk k n l,ho=>by rw[Tm.Ok]at ho;refine zF.succ ?_;simp only[e39];exact zF.ifF (by simp) (zF.ifF (by simp) (zF.ifF (by simp) (zAQ l (.mk k n l) 0 rfl ho.1 ho.2)))theorem zAQ:∀(l:List Tm)(p:Tm)(v:Nat),p.sub.drop v=l->p.sub.length<9223372036854775808->mW l->zF (λq=>R9 q p p (v:Int)) true|[],p,v,hd,hl,ho=>by refine zF.succ ?_;simp only[R9];exact zF.ifF (zY hd) zF.ret|t::l,p,v,hd,hl,ho=>by have hlt:=yC hd;rw[mW]at ho;refine zF.succ ?_;simp only[R9];refine zF.ifT (zX hd) (zF.pure (zV hd) (zF.pure (zV hd) ((zDj t ho.1).bind (zF.ifT rfl ?_))));rw[zU v (by omega)];exact zAQ l p (v+1) (zR hd) hl ho.2 end
theorem zVK(f:Int)(h0:0<=f)(h1:f<=1048576):zF (λq=>e30 q f) (.inr (0,f,0)):=by simp only[e30];exact zF.ifF (decide_eq_false (by omega)) (zF.ifF (decide_eq_false (by omega)) (zF.bind (a:=f) (zF.mk λ_=>rfl) zF.ret))
theorem Br.e8{N:ByteArray->Bool}{l:List yI}(hE:vA N l){x y:Tm}{e k:Int}(h:Br l x y e k):zG x=true->e≠8:=by induction h with
 |stop _=>exactλ_=>by decide|@redE x Y e a h=>
  intro hs;unfold tN at a;split at a;·injection a with h1 h2;rw[<-h2];exact zLS _ _
  ·split at a
   ·injection a with h1 h2;rw[<-h2];decide
   ·split at a;·split at a<;>cases a
    ·split at a;·split at a<;>cases a
     ·cases a|redL _ _=>exactλ_=>by decide|red _ hY _ ih=>exactλ_=>ih hY|tgtE a _ _ ih=>exactλhs=>ih (xN hs (p6 hE hs a).1)|tgtN _ _ _ _=>exactλ_=>by decide|@tgtRE x a z Y e k ha hb hr he ih=>
  intro hs;have hm:=(p6 hE hs ha).1;have hz:=hb.shaped (xN hs hm) rfl;have hox:uT (xF x):=λz hz=>yB (xN hs hz);have hoy:uT (xF z):=λw hw=>yB (xN hz hw);have hlx:(xF x).length<=8192:=by have h:=zL hs;have:=sB _ h.2.2;omega
  have hly:(xF z).length<=8192:=by have h:=zL hz;have:=sB _ h.2.2;omega
  unfold sY at hr;split at hr
  ·split at hr
   ·simp only[Option.some.injEq,Prod.mk.injEq]at hr;rw[<-hr.2];exact(eX l (yK x).n ((xF z).drop (yA l (yK z).n).pars.toNat) hE (hoy.drop _) (by rw[List.length_drop];omega)).2.2.1
   ·cases hr
  ·split at hr
   ·simp only[Option.some.injEq,Prod.mk.injEq]at hr;rw[<-hr.2];exact(C5 l (yK x).n (sQ (yK x).sub 0).n (yK z).n ((xF x).take ((yA l (yK x).n).pars+1+(yA l (yK x).n).cons.length).toNat) ((xF z).drop (yA l (yK x).n).pars.toNat) hE (hox.take _) (hoy.drop _) (by rw[List.length_take];omega) (by rw[List.length_drop];omega)).2.2.1
   ·cases hr|tgtRL _ _ _ _ _=>exactλ_=>by decide|tgtR a b c hY _ ih ih2=>exactλ_=>ih2 hY
theorem Br.zero{l:List yI}{x y:Tm}{e k:Int}(h:Br l x y e k):e=0->k<=0->y=x:=by cases h with|stop _=>exactλ_ _=>rfl|redE _ h=>exactλhe=>absurd he h|redL _ _=>exactλhe=>absurd he (by decide)|red _ _ h=>exactλ_ hk=>by have:=h.nn;omega|tgtE _ _ h=>exactλhe=>absurd he h|tgtN _ _ _=>exactλ_ _=>rfl|tgtRE _ _ _ h=>exactλhe=>absurd he h|tgtRL _ _ _ _=>exactλhe=>absurd he (by decide)|tgtR _ h1 _ _ h2=>exactλ_ hk=>by have:=h1.nn;have:=h2.nn;omega
theorem Ou.evt0{ρ:Type}{f:Int->Int->Nat->Option ρ}{er:ρ->Int}{Q:(Int->Int->ρ)->Int->Prop}{S:Prop}{l:Int}{R:Int->Int->ρ}(h:∀L U,zF (f L U) (R L U))(h0:0<=l)(k:Q R 0):Ou f er Q S l:=.inl ⟨R,0,by omega,h0,k,λL U _ _ _=>by rw[show L-0=L by omega,show U+0=U by omega];exact h L U,λL U _ _=>by omega⟩
abbrev PE:=(Tm×Int)×(Tm×Int)
def nH(t:Tm):Tm×Int:=if t.k=4 then(sQ t.sub 1,0)else(.mk 5 0 [(tC t 1 0).1,.mk 1 0 []],if(tC t 1 0).2=0 then(if zG (.mk 5 0 [(tC t 1 0).1,.mk 1 0 []])=true then 0 else 2)else(tC t 1 0).2)
def vW(l:List yI)(c:Int):List Int:=(yA l (yA l c).fam).fields
def rQ(l:List yI)(t:Tm):Prop:=vV l t/\vW l (yK t).n≠[]
instance(l:List yI)(t:Tm):Decidable (rQ l t):=inferInstanceAs(Decidable (_/\_))
def sM(l:List yI)(t:Tm)(c:Int)(i:Nat)(pars:List Tm):Tm×Int:=if rQ l t/\(yK t).n=c then(sQ (xF t) ((pars.length+i:Nat):Int),0)else(.mk 5 0 [mA (.mk 6 (((vW l c)[i]?).getD (-1)) []) pars,t],if zG (.mk 5 0 [mA (.mk 6 (((vW l c)[i]?).getD (-1)) []) pars,t])=true then 0 else 2)
def iI(l:List yI)(t:Tm):List Tm:=(xF t).take (yA l (yK t).n).pars.toNat
def zHF(l:List yI)(x y:Tm)(c:Int)(pars:List Tm):Nat->Nat->List PE|0,_=>[]|m+1,i=>(sM l x c i pars,sM l y c i pars)::zHF l x y c pars m (i+1)
def zHG:List Tm->List Tm->List PE|a::l,b::m=>((a,0),(b,0))::zHG l m|_,_=>[]
def zVL(x y:Tm):List PE:=(if(yK x).k=3 then[((sQ (yK x).sub 0,0),(sQ (yK y).sub 0,0)),((sQ (yK x).sub 1,0),(sQ (yK y).sub 1,0))]else[])++zHG (xF x) (xF y)
inductive Hd where|ans(b:Bool)|all(ps:List PE)|pi(a b c d:Tm)
def eY(x y:Tm):Hd:=if(yK x).k≠(yK y).k\/(yK x).n≠(yK y).n\/(xF x).length≠(xF y).length\/((yK x).k=7/\(sQ (yK x).sub 0).n≠(sQ (yK y).sub 0).n)then .ans false else .all (zVL x y)
def qE(l:List yI)(m:Bool)(x y:Tm):Hd:=if x.k=4\/y.k=4 then .all [(nH x,nH y)]else if rQ l x then(if rQ l y/\(yK x).n≠(yK y).n then .ans false else .all (zHF l x y (yK x).n (iI l x) (vW l (yK x).n).length 0))else if rQ l y then .all (zHF l x y (yK y).n (iI l y) (vW l (yK y).n).length 0)else if x.k≠y.k then .ans false else if x.k=3 then .pi (sQ x.sub 0) (sQ y.sub 0) (sQ x.sub 1) (sQ y.sub 1)else if x.k=2 then .ans (if m=true then decide (x.n<=y.n)else x.n==y.n)else eY x y
def tP(C:Tm->Tm->Bool->Int->Prop):List PE->Bool->Int->Prop|[],b,k=>b=true/\k=0|p::r,b,k=>p.1.2=0/\p.2.2=0/\∃b1 k1,C p.1.1 p.2.1 b1 k1/\((b1=false/\b=false/\k=k1)\/(b1=true/\∃k2,tP C r b k2/\k=k1+k2))
def HdR(C:Bool->Tm->Tm->Bool->Int->Prop)(m:Bool):Hd->Bool->Int->Prop|.ans b0,b,k=>b=b0/\k=0|.all ps,b,k=>tP (C false) ps b k|.pi a a' c c',b,k=>∃b1 k1,C false a a' b1 k1/\((b1=false/\b=false/\k=k1)\/(b1=true/\∃k2,C m c c' b k2/\k=k1+k2))
def CvN(l:List yI):Nat->Bool->Tm->Tm->Bool->Int->Prop|0,_,_,_,_,_=>False|n+1,m,x,y,b,k=>uZ l x/\uZ l y/\∃x' k1 y' k2 k3,Br l x x' 0 k1/\Br l y y' 0 k2/\HdR (CvN l n) m (qE l m x' y') b k3/\k=k1+k2+k3
def Cv(l:List yI)(m:Bool)(x y:Tm)(b:Bool)(k:Int):Prop:=∃n,CvN l n m x y b k
section
variable{C C':Tm->Tm->Bool->Int->Prop}
theorem tP.mono(h:∀x y b k,C x y b k->C' x y b k):∀{ps:List PE}{b:Bool}{k:Int},tP C ps b k->tP C' ps b k|[],_,_,a=>a|_::_,_,_,⟨a,b,b1,k1,c,d⟩=>⟨a,b,b1,k1,h _ _ _ _ c,d.imp id λ⟨e,k2,f,g⟩=>⟨e,k2,tP.mono h f,g⟩⟩
theorem tP.nn(h:∀x y b k,C x y b k->0<=k):∀{ps:List PE}{b:Bool}{k:Int},tP C ps b k->0<=k
 |[],_,_,⟨_,a⟩=>by omega|_::_,_,_,⟨_,_,b1,k1,c,d⟩=>by
  have:=h _ _ _ _ c;rcases d with⟨_,_,d⟩|⟨_,k2,d,e⟩;·omega
  ·have:=tP.nn h d;omega
theorem tP.det(h:∀x y b k b' k',C x y b k->C' x y b' k'->b'=b/\k'=k):∀{ps:List PE}{b b':Bool}{k k':Int},tP C ps b k->tP C' ps b' k'->b'=b/\k'=k
 |[],_,_,_,_,⟨a,b⟩,⟨c,d⟩=>by subst a;subst c;exact⟨rfl,by omega⟩|_::_,_,_,_,_,⟨_,_,b1,k1,c,d⟩,⟨_,_,b1',k1',c',d'⟩=>by
  obtain⟨rfl,rfl⟩:=h _ _ _ _ _ _ c c';rcases d with⟨d1,d2,d3⟩|⟨d1,k2,d2,d3⟩
  ·rcases d' with⟨_,e2,e3⟩|⟨e1,_⟩;·subst d2;subst e2;exact⟨rfl,by omega⟩
   ·rw[d1]at e1;cases e1
  ·rcases d' with⟨e1,_⟩|⟨_,k2',e2,e3⟩;·rw[d1]at e1;cases e1
   ·obtain⟨rfl,rfl⟩:=tP.det h d2 e2;exact⟨rfl,by omega⟩
end
section
variable{C C':Bool->Tm->Tm->Bool->Int->Prop}{m:Bool}
theorem HdR.mono(h:∀m x y b k,C m x y b k->C' m x y b k):∀{q:Hd}{b:Bool}{k:Int},HdR C m q b k->HdR C' m q b k|.ans _,_,_,a=>a|.all _,_,_,a=>tP.mono (h false) a|.pi _ _ _ _,_,_,⟨b1,k1,c,d⟩=>⟨b1,k1,h _ _ _ _ _ c,d.imp id λ⟨e,k2,f,g⟩=>⟨e,k2,h _ _ _ _ _ f,g⟩⟩
theorem HdR.nn(h:∀m x y b k,C m x y b k->0<=k):∀{q:Hd}{b:Bool}{k:Int},HdR C m q b k->0<=k
 |.ans _,_,_,⟨_,a⟩=>by omega|.all _,_,_,a=>tP.nn (h false) a|.pi _ _ _ _,_,_,⟨b1,k1,c,d⟩=>by
  have:=h _ _ _ _ _ c;rcases d with⟨_,_,d⟩|⟨_,k2,d,e⟩;·omega
  ·have:=h _ _ _ _ _ d;omega
theorem HdR.det(h:∀m x y b k b' k',C m x y b k->C' m x y b' k'->b'=b/\k'=k):∀{q:Hd}{b b':Bool}{k k':Int},HdR C m q b k->HdR C' m q b' k'->b'=b/\k'=k
 |.ans _,_,_,_,_,⟨a,b⟩,⟨c,d⟩=>by subst a;subst c;exact⟨rfl,by omega⟩|.all _,_,_,_,_,a,b=>tP.det (h false) a b|.pi _ _ _ _,_,_,_,_,⟨b1,k1,c,d⟩,⟨b1',k1',c',d'⟩=>by
  obtain⟨rfl,rfl⟩:=h _ _ _ _ _ _ _ c c';rcases d with⟨d1,d2,d3⟩|⟨d1,k2,d2,d3⟩
  ·rcases d' with⟨_,e2,e3⟩|⟨e1,_⟩;·subst d2;subst e2;exact⟨rfl,by omega⟩
   ·rw[d1]at e1;cases e1
  ·rcases d' with⟨e1,_⟩|⟨_,k2',e2,e3⟩;·rw[d1]at e1;cases e1
   ·obtain⟨rfl,rfl⟩:=h _ _ _ _ _ _ _ d2 e2;exact⟨rfl,by omega⟩
end
theorem CvN.mono{l:List yI}:∀{n:Nat}{m:Bool}{x y:Tm}{b:Bool}{k:Int},CvN l n m x y b k->CvN l (n+1) m x y b k|0,_,_,_,_,_,h=>h.elim|n+1,m,x,y,b,k,⟨r1,r2,x',k1,y',k2,k3,h1,h2,h3,h4⟩=>⟨r1,r2,x',k1,y',k2,k3,h1,h2,h3.mono (λ_ _ _ _ _ h=>CvN.mono h),h4⟩
theorem CvN.le{l:List yI}{n n':Nat}{m:Bool}{x y:Tm}{b:Bool}{k:Int}(h:CvN l n m x y b k)(hm:n<=n'):CvN l n' m x y b k:=by induction hm with|refl=>exact h|step _ ih=>exact ih.mono
theorem CvN.nn{l:List yI}:∀{n:Nat}{m:Bool}{x y:Tm}{b:Bool}{k:Int},CvN l n m x y b k->0<=k|0,_,_,_,_,_,h=>h.elim|n+1,m,x,y,b,k,⟨r1,r2,x',k1,y',k2,k3,h1,h2,h3,h4⟩=>by have:=h1.nn;have:=h2.nn;have:=h3.nn (λ_ _ _ _ _ h=>CvN.nn h);omega
theorem CvN.det{l:List yI}:∀{n n':Nat}{m:Bool}{x y:Tm}{b b':Bool}{k k':Int},CvN l n m x y b k->CvN l n' m x y b' k'->b'=b/\k'=k|0,_,_,_,_,_,_,_,_,h,_=>h.elim|_+1,0,_,_,_,_,_,_,_,_,h=>h.elim|n+1,n'+1,m,x,y,b,b',k,k',⟨_,_,x',k1,y',k2,k3,h1,h2,h3,h4⟩,⟨_,_,x1',j1,y1',j2,j3,g1,g2,g3,g4⟩=>by obtain⟨rfl,-,rfl⟩:=h1.det g1;obtain⟨rfl,-,rfl⟩:=h2.det g2;obtain⟨rfl,rfl⟩:=HdR.det (C:=CvN l n) (C':=CvN l n') (λ_ _ _ _ _ _ _ a b=>CvN.det a b) h3 g3;exact⟨rfl,by omega⟩
theorem Cv.det{l:List yI}{m:Bool}{x y:Tm}{b b':Bool}{k k':Int}:Cv l m x y b k->Cv l m x y b' k'->b'=b/\k'=k:=λ⟨_,a⟩⟨_,b⟩=>a.det b
theorem Cv.nn{l:List yI}{m:Bool}{x y:Tm}{b:Bool}{k:Int}:Cv l m x y b k->0<=k:=λ⟨_,a⟩=>a.nn
theorem tP.bound{l:List yI}:∀{ps:List PE}{b:Bool}{k:Int},tP (Cv l false) ps b k->∃n,tP (CvN l n false) ps b k
 |[],_,_,a=>⟨0,a⟩|_::_,_,_,⟨a,b,b1,k1,⟨n,c⟩,d⟩=>by
  rcases d with d|⟨e,k2,f,g⟩;·exact⟨n,a,b,b1,k1,c,.inl d⟩
  ·obtain⟨n',f⟩:=tP.bound f;exact⟨max n n',a,b,b1,k1,c.le (by omega),.inr ⟨e,k2,f.mono (λ_ _ _ _ h=>h.le (by omega)),g⟩⟩
theorem HdR.bound{l:List yI}{m:Bool}:∀{q:Hd}{b:Bool}{k:Int},HdR (Cv l) m q b k->∃n,HdR (CvN l n) m q b k
 |.ans _,_,_,a=>⟨0,a⟩|.all _,_,_,a=>tP.bound a|.pi _ _ _ _,_,_,⟨b1,k1,⟨n,c⟩,d⟩=>by
  rcases d with d|⟨e,k2,⟨n',f⟩,g⟩;·exact⟨n,b1,k1,c,.inl d⟩
  ·exact⟨max n n',b1,k1,c.le (by omega),.inr ⟨e,k2,f.le (by omega),g⟩⟩
theorem Cv.mk{l:List yI}{m:Bool}{x y x' y':Tm}{b:Bool}{k1 k2 k3:Int}(r1:uZ l x)(r2:uZ l y)(h1:Br l x x' 0 k1)(h2:Br l y y' 0 k2)(h3:HdR (Cv l) m (qE l m x' y') b k3):Cv l m x y b (k1+k2+k3):=by obtain⟨n,h3⟩:=h3.bound;exact⟨n+1,r1,r2,x',k1,y',k2,k3,h1,h2,h3,rfl⟩
theorem Cv.inv{l:List yI}{m:Bool}{x y:Tm}{b:Bool}{k:Int}(h:Cv l m x y b k):uZ l x/\uZ l y/\∃x' k1 y' k2 k3,Br l x x' 0 k1/\Br l y y' 0 k2/\HdR (Cv l) m (qE l m x' y') b k3/\k=k1+k2+k3:=by obtain⟨n,h⟩:=h;cases n with|zero=>exact h.elim|succ n=>obtain⟨r1,r2,x',k1,y',k2,k3,h1,h2,h3,h4⟩:=h;exact⟨r1,r2,x',k1,y',k2,k3,h1,h2,h3.mono (λ_ _ _ _ _ h=>⟨n,h⟩),h4⟩
def nwT(l:List yI)(k n:Int):Nat:=if k=4 then 3 else if k=6/\(yA l n).kind=2 then 2 else 1
mutual def qQ(l:List yI):Tm->Nat|.mk k n s=>nwT l k n+oO l s def oO(l:List yI):List Tm->Nat|[]=>0|t::s=>qQ l t+oO l s end
theorem S0(l:List yI)(k n:Int):1<=nwT l k n/\nwT l k n<=3:=by unfold nwT;split<;>(try split)<;>omega
theorem zEZ(l:List yI):∀t:Tm,1<=qQ l t|.mk k n s=>by rw[qQ];have:=S0 l k n;omega
theorem zFz(l:List yI):∀{s:List Tm}{x:Tm},x∈s->qQ l x<=oO l s
 |a::s,x,h=>by
  rw[oO];rcases List.mem_cons.1 h with rfl|h;·omega
  ·have:=zFz l h;omega
theorem zFy(l:List yI):∀a b:List Tm,oO l (a++b)=oO l a+oO l b|[],b=>by simp[oO]|t::a,b=>by simp only[List.cons_append,oO,zFy l a b];omega
mutual theorem zXk(l:List yI):∀(t:Tm)(b c k:Int),qQ l (aS t b c k)<=qQ l t
 |.mk kd n s,b,c,k=>by
  rw[aS];split
  ·rename_i h;rw[qQ,qQ,oO];have e:∀m,nwT l 1 m=1:=λm=>by unfold nwT;simp
   have:=(S0 l kd n).1;rw[e];omega
  ·rw[qQ,qQ];have:=zSE l s kd 0 b c k;omega theorem zSE(l:List yI):∀(s:List Tm)(kd:Int)(i:Nat)(b c k:Int),oO l (u9 s kd i b c k)<=oO l s|[],_,_,_,_,_=>by rw[u9];omega|t::s,kd,i,b,c,k=>by rw[u9,oO,oO];have:=zXk l t (wW kd i b) c k;have:=zSE l s kd (i+1) b c k;omega end
theorem zXj(l:List yI):∀(s:List Tm)(f:Tm),qQ l (mA f s)=qQ l f+oO l s+s.length
 |[],f=>by rw[mA,oO];simp|a::s,f=>by
  have e:nwT l 5 0=1:=by unfold nwT;simp
  rw[mA,zXj l s,qQ,oO,oO,oO,oO,e,List.length_cons];omega
theorem zAS(l:List yI):∀t:Tm,xQ t=true->qQ l t=qQ l (yK t)+oO l (xF t)+(xF t).length:=by
 refine cJ ?_ ?_;·intro t hg hk;rw[gF hk,mX hk,oO];simp
 ·intro n a b hg ha hb ih;have e:nwT l 5 n=1:=by unfold nwT;simp
  rw[cI,kZ,qQ,oO,oO,oO,e,zFy,oO,oO,List.length_append,ih];simp;omega
theorem S1(l:List yI)(t:Tm):qQ l t=nwT l t.k t.n+oO l t.sub:=by cases t;rw[qQ,Tm.k,Tm.n,Tm.sub]
abbrev wL(t:Tm):List Int:=sF t 8 8
theorem qF{t:Tm}{Q:Int->Prop}:(∀x∈wL t,Q x)↔xV (λk n=>k=8->Q n) t:=by rw[eR (by decide) (by decide)];exact⟨sL λk n h e=>h (.inl e),sL λk n h e=>h (by omega)⟩
theorem zDh{a t:Tm}{n:Int}{x:Int}(h:x∈wL (jN a n t 0)):x∈wL a\/(x∈wL t/\x≠n):=by
 have:=(qF (Q:=λx=>x∈wL a\/(x∈wL t/\x≠n)) (t:=jN a n t 0)).2;refine this (zEV ?_ t 0 ?_) x h;·exact sL (λk n h e=>.inl (h e)) (qF.1 λx h=>h)
 ·refine sL (λk m h=>?_) (qF.1 λx(h:x∈wL t)=>h);by_cases e:k=8/\m=n;·exact .inr e
  ·exact .inl λe8=>.inr ⟨h e8,λe2=>e ⟨e8,e2⟩⟩
structure fM(c:List zJ):Prop where
 len:c.length<=256
 each:∀v∈c,0<=v.n_/\v.n_<=1048576/\zG v.type_=true/\∀j,¬j∈sH v.type_ 0
 nd:(c.map (·.n_)).Nodup
 self:∀v∈c,¬v.n_∈wL v.type_
 ord:c.Pairwise λv w=>¬w.n_∈wL v.type_
structure zHH(c:List zJ)(n:Int)(t:Tm)(d:List zJ):Prop where
 right:fM d
 has:n∈c.map (·.n_)perm:(d.map (·.n_)).Perm ((c.map (·.n_)).erase n)typ:∀v∈d,∃w∈c,w.n_=v.n_/\w.n_≠n/\v.type_=jN t n w.type_ 0
theorem zHH.length{c d:List zJ}{n:Int}{t:Tm}(h:zHH c n t d):d.length+1=c.length:=by have h1:=h.perm.length_eq;rw[List.length_map,List.length_erase_of_mem h.has,List.length_map]at h1;have h2:0<(c.map (·.n_)).length:=List.length_pos_of_mem h.has;rw[List.length_map]at h2;omega
structure fN(l:List yI)(c:List zJ)(td:List zI)(so:List zO)(N:Nat):Prop where
 ctx:fM c
 typ:∀v∈c,uU l v.type_
 may:∀e∈td,uU l e.a_/\uU l e.b_
 sol:∀s∈so,uU l s.t_
 oc:∀s∈so,∀v∈c,v.n_≠s.n_/\¬s.n_∈wL v.type_
 ot:∀s∈so,∀e∈td,¬s.n_∈wL e.a_/\¬s.n_∈wL e.b_
 os:∀s∈so,∀r∈so,¬s.n_∈wL r.t_
 nd:(so.map (·.n_)).Nodup
 len:c.length+so.length=N
def naE(t:Tm)(n:Int)(e:zI):zI:=⟨jN t n e.a_ 0,jN t n e.b_ 0⟩
def naS(t:Tm)(n:Int)(s:zO):zO:=⟨s.n_,jN t n s.t_ 0⟩
theorem fN.solve{l:List yI}{c d:List zJ}{td:List zI}{so:List zO}{N:Nat}{e0:zI}{n:Int}{t:Tm}(h:fN l c (e0::td) so N)(ht:uU l t)(hf:∀x∈wL t,x∈wL e0.a_\/x∈wL e0.b_)(hn:¬n∈wL t)(hp:zHH c n t d)(ha:∀e∈td,zG (jN t n e.a_ 0)=true/\zG (jN t n e.b_ 0)=true)(hs:∀s∈so,zG (jN t n s.t_ 0)=true):fN l d (td.map (naE t n)) (so.map (naS t n)++[⟨n,t⟩]) N:=by
 have hto:∀s∈so,¬s.n_∈wL t:=λs hs' hx=>by
  rcases hf _ hx with h1|h1;·exact(h.ot s hs' e0 (by simp)).1 h1
  ·exact(h.ot s hs' e0 (by simp)).2 h1
 have na:∀x u,¬x∈wL t->¬x∈wL u->¬x∈wL (jN t n u 0):=λx u h1 h2 h3=>by
  rcases zDh h3 with h4|h4;·exact h1 h4
  ·exact h2 h4.1
 have nn:∀u,¬n∈wL (jN t n u 0):=λu h3=>by
  rcases zDh h3 with h4|h4;·exact hn h4
  ·exact h4.2 rfl
 have hnc:∀s∈so,s.n_≠n:=λs hs' e=>by obtain⟨v,hv,hvn⟩:=List.mem_map.1 hp.has;exact(h.oc s hs' v hv).1 (by rw[e];exact hvn)
 refine⟨hp.right,λv hv=>?_,λe he=>?_,λs hs'=>?_,λs hs' v hv=>?_,λs hs' e he=>?_,λs hs' r hr=>?_,?_,?_⟩
 ·obtain⟨w,hw,-,-,e⟩:=hp.typ v hv;rw[e];exact(h.typ w hw).na ht (by rw[<-e];exact(hp.right.each v hv).2.2.1)
 ·obtain⟨e',he',rfl⟩:=List.mem_map.1 he;exact⟨(h.may e' (by simp[he'])).1.na ht (ha e' he').1,(h.may e' (by simp[he'])).2.na ht (ha e' he').2⟩
 ·rcases List.mem_append.1 hs' with h1|h1
  ·obtain⟨s',h2,rfl⟩:=List.mem_map.1 h1;exact(h.sol s' h2).na ht (hs s' h2)
  ·rw[List.mem_singleton.1 h1];exact ht
 ·obtain⟨w,hw,e1,e2,e⟩:=hp.typ v hv;rw[e];rcases List.mem_append.1 hs' with h1|h1
  ·obtain⟨s',h2,rfl⟩:=List.mem_map.1 h1;exact⟨by rw[<-e1];exact(h.oc s' h2 w hw).1,na _ _ (hto s' h2) (h.oc s' h2 w hw).2⟩
  ·rw[List.mem_singleton.1 h1];exact⟨by rw[<-e1];exact e2,nn _⟩
 ·obtain⟨e',he',rfl⟩:=List.mem_map.1 he;rcases List.mem_append.1 hs' with h1|h1
  ·obtain⟨s',h2,rfl⟩:=List.mem_map.1 h1;have h3:=h.ot s' h2 e' (by simp[he']);exact⟨na _ _ (hto s' h2) h3.1,na _ _ (hto s' h2) h3.2⟩
  ·rw[List.mem_singleton.1 h1];exact⟨nn _,nn _⟩
 ·have key:∀u:zO,u∈so.map (naS t n)++[⟨n,t⟩]->(∃u'∈so,u=naS t n u')\/u=⟨n,t⟩:=λu hu=>by
   rcases List.mem_append.1 hu with h1|h1;·obtain⟨u',h2,rfl⟩:=List.mem_map.1 h1;exact .inl ⟨u',h2,rfl⟩
   ·exact .inr (List.mem_singleton.1 h1)
  rcases key s hs' with⟨s',h2,rfl⟩|rfl
  ·rcases key r hr with⟨r',h3,rfl⟩|rfl;·exact na _ _ (hto s' h2) (h.os s' h2 r' h3)
   ·exact hto s' h2
  ·rcases key r hr with⟨r',h3,rfl⟩|rfl;·exact nn _
   ·exact hn
 ·rw[List.map_append,List.map_map];have e:(λs:zO=>s.n_)∘naS t n=λs=>s.n_:=rfl;rw[e,List.nodup_append];refine⟨h.nd,by simp,λx hx y hy=>?_⟩;obtain⟨s,hs',rfl⟩:=List.mem_map.1 hx;simp at hy;rw[hy];exact hnc s hs'
 ·have:=hp.length;have:=h.len;simp only[List.length_append,List.length_map,List.length_cons,List.length_nil];omega
theorem fN.more{l:List yI}{c:List zJ}{td more:List zI}{so:List zO}{N:Nat}{e0:zI}(h:fN l c (e0::td) so N)(hm:∀e∈more,uU l e.a_/\uU l e.b_/\(∀x∈wL e.a_,x∈wL e0.a_\/x∈wL e0.b_)/\∀x∈wL e.b_,x∈wL e0.a_\/x∈wL e0.b_):fN l c (more++td) so N:=by
 refine⟨h.ctx,h.typ,λe he=>?_,h.sol,h.oc,λs hs e he=>?_,h.os,h.nd,h.len⟩
 ·rcases List.mem_append.1 he with h1|h1;·exact⟨(hm e h1).1,(hm e h1).2.1⟩
  ·exact h.may e (by simp[h1])
 ·rcases List.mem_append.1 he with h1|h1
  ·have h0:=h.ot s hs e0 (by simp);exact⟨λhx=>((hm e h1).2.2.1 _ hx).elim h0.1 h0.2,λhx=>((hm e h1).2.2.2 _ hx).elim h0.1 h0.2⟩
  ·exact h.ot s hs e (by simp[h1])
theorem uU.br{N:ByteArray->Bool}{l:List yI}(hE:vA N l){x y:Tm}{k:Int}(hx:uU l x)(h:Br l x y 0 k):uU l y/\∀z∈wL y,z∈wL x:=by
 have h1:=eU.1 hx;refine⟨eU.2 ⟨h.shaped h1.1 rfl,λj hj=>?_,?_⟩,?_⟩;·exact h.inv hE (zZu hE (λ_=>False)) h1.1 rfl (λj hj=>h1.2.1 j hj) j hj
 ·exact h.inv hE (zDm hE λk n _ h=>h) h1.1 rfl h1.2.2
 ·exact qF.2 (h.inv hE (zDm hE λk n h8 _ h=>absurd h h8) h1.1 rfl (qF.1 λz hz=>hz))
def zHI(l:List yI)(c:List zJ)(e:zI)(n:Int)(t:Tm):Prop:=∃x y k j,Br l e.a_ x 0 k/\Br l e.b_ y 0 j/\n∈c.map (·.n_)/\((x.k=8/\x.n=n/\t=y)\/(y.k=8/\y.n=n/\t=x))
def sZ(l:List yI)(t:Tm):List Tm:=(xF t).drop (yA l (yK t).n).pars.toNat
inductive Bnt(l:List yI)(n:Int):Tm->Prop|here{t a:Tm}:vV l t->a∈sZ l t->a.k=8->a.n=n->Bnt l n t|deep{t a:Tm}:vV l t->a∈sZ l t->Bnt l n a->Bnt l n t
def sN(a b:List Tm):List zI:=List.zipWith zI.mk a b
theorem oH:∀{a b:List Tm}{e:zI},e∈sN a b->e.a_∈a/\e.b_∈b
 |[],_,e,h=>by simp[sN]at h|_::_,[],e,h=>by simp[sN]at h|x::a,y::b,e,h=>by
  rw[sN,List.zipWith_cons_cons,List.mem_cons]at h;rcases h with rfl|h;·exact⟨by simp,by simp⟩
  ·have:=oH (a:=a) (b:=b) h;exact⟨by simp[this.1],by simp[this.2]⟩
inductive Un(l:List yI):List zJ->List zI->List zO->Option (List zJ×List zO)->Prop|done{c:List zJ}{so:List zO}:Un l c [] so (some (c,so))|sol{c d:List zJ}{e:zI}{td:List zI}{so:List zO}{n:Int}{t:Tm}{r:Option (List zJ×List zO)}:zHI l c e n t->¬n∈wL t->zHH c n t d->(∀e∈td,zG (jN t n e.a_ 0)=true/\zG (jN t n e.b_ 0)=true)->(∀s∈so,zG (jN t n s.t_ 0)=true)->Un l d (td.map (naE t n)) (so.map (naS t n)++[⟨n,t⟩]) r->Un l c (e::td) so r|cyc{c:List zJ}{e:zI}{td:List zI}{so:List zO}{n:Int}{t:Tm}:zHI l c e n t->Bnt l n t->Un l c (e::td) so none|conf{c:List zJ}{e:zI}{td:List zI}{so:List zO}{x y:Tm}{k j:Int}:Br l e.a_ x 0 k->Br l e.b_ y 0 j->vV l x->vV l y->(yK x).n≠(yK y).n->Un l c (e::td) so none|inj{c:List zJ}{e:zI}{td:List zI}{so:List zO}{x y:Tm}{k j:Int}{r:Option (List zJ×List zO)}:Br l e.a_ x 0 k->Br l e.b_ y 0 j->vV l x->vV l y->(yK x).n=(yK y).n->(∀i:Nat,(i:Int)<(yA l (yK x).n).pars->∃k,Cv l false (sQ (xF x) i) (sQ (xF y) i) true k)->Un l c (sN (sZ l x) (sZ l y)++td) so r->Un l c (e::td) so r
theorem uU.ar{l:List yI}{t a:Tm}(h:uU l t)(ha:a∈xF t):uU l a/\∀z∈wL a,z∈wL t:=by have h1:=eU.1 h;have hg:=(zL h1.1).2.2;refine⟨eU.2 ⟨xN h1.1 ha,λj hj=>h1.2.1 j ((K9 t hg 0 j).2 a ha hj),(nG t hg h1.2.2).2 a ha⟩,?_⟩;exact qF.2 ((nG t hg (qF.1 λz hz=>hz)).2 a ha)
theorem zHI.may{N:ByteArray->Bool}{l:List yI}(hE:vA N l){c:List zJ}{e:zI}{n:Int}{t:Tm}(h:zHI l c e n t)(ha:uU l e.a_)(hb:uU l e.b_):uU l t/\∀x∈wL t,x∈wL e.a_\/x∈wL e.b_:=by
 obtain⟨x,y,k,j,hx,hy,-,⟨-,-,rfl⟩|⟨-,-,rfl⟩⟩:=h;·exact⟨(hb.br hE hy).1,λz hz=>.inr ((hb.br hE hy).2 z hz)⟩
 ·exact⟨(ha.br hE hx).1,λz hz=>.inl ((ha.br hE hx).2 z hz)⟩
theorem fN.inj{N:ByteArray->Bool}{l:List yI}(hE:vA N l){c:List zJ}{e:zI}{td:List zI}{so:List zO}{x y:Tm}{k j:Int}{M:Nat}(h:fN l c (e::td) so M)(hx:Br l e.a_ x 0 k)(hy:Br l e.b_ y 0 j):fN l c (sN (sZ l x) (sZ l y)++td) so M:=by have h0:=h.may e (by simp);have h1:=h0.1.br hE hx;have h2:=h0.2.br hE hy;refine h.more λe' he'=>?_;have hm:=oH he';have g1:=h1.1.ar (List.mem_of_mem_drop hm.1);have g2:=h2.1.ar (List.mem_of_mem_drop hm.2);exact⟨g1.1,g2.1,λz hz=>.inl (h1.2 z (g1.2 z hz)),λz hz=>.inr (h2.2 z (g2.2 z hz))⟩
theorem Un.inv{N:ByteArray->Bool}{l:List yI}(hE:vA N l){c:List zJ}{td:List zI}{so:List zO}{r:Option (List zJ×List zO)}{M:Nat}(h:Un l c td so r):fN l c td so M->∀c' so',r=some (c',so')->fN l c' [] so' M:=by induction h with|done=>intro hI c' so' e;cases e;exact hI|sol a b d e f _ ih=>intro hI;have h0:=hI.may _ (List.mem_cons_self ..);have hm:=a.may hE h0.1 h0.2;exact ih (hI.solve hm.1 hm.2 b d e f)|cyc _ _=>intro _ c' so' e;cases e|conf _ _ _ _ _=>intro _ c' so' e;cases e|inj a b _ _ _ _ _ ih=>intro hI;exact ih (hI.inj hE a b)
def S2(a:Nat)(M:xK)(b:Tm):Option (Int×yU×Bool):=cG a b>>=λr1=>if r1 then e64 a b>>=λr4=>zOh a M r4>>=λr6=>some (r6.1,r6.2.1,r6.2.2)else some (0,[],false)
theorem zKu{a M b}:Cz (S2 a M b) 147 [mB M 1,mR M] [.mp 0 0,yZ b] (λr=>.tup [ai r.1,.sl (zC zA r.2.1) r.2.1.length .no,ab r.2.2]) (λ_=>[mB M 1,mR M]) 0:=fw func147<|rK 2 [] aR (λ_=>rC 2 [] c64 λ_=>rC 0 [0,1] zZz λ_=>fE 3) λ_=>fE 1
def zOA(b:Nat)(M:xK)(a:Int):Option (Int):=if decide (a<0)then some 0 else if decide (a>=(M.l.length:Int))then some 0 else zS M.l a>>=λx3=>some x3.pars
theorem zZr{b M a}:Cz (zOA b M a) 148 [mB M 1,mR M] [.mp 0 0,ai a] (λr=>ai r) (λ_=>[mB M 1,mR M]) 0:=fw func148<|rB 1 (fE 0)<|rB 2 (fE 0)<|rA 1 (wM (o:=.no)) λ_=>fE 1
def bH:Nat->Int->yD->Int->Option (Bool)|0,_,_,_=>none|c+1,b,r1,a=>if decide (a<(r1.length:Int))then zS r1 a>>=λx4=>if x4==b then some true else bH c b r1 (xC (a+1))else some false
def zVM(c:Nat)(d:Tm)(b:Int):Option (Bool):=e69 c d>>=λr1=>bH c b r1 0
theorem zVN:∀c:Nat,∀b r1 a,Lz (bH c b r1 a) 0 f252 (pt 949 f252) (λj=>sp j 18 0 [(1,ai b),(8,zN zZ r1 .no),(9,ai (r1.length:Int)),(10,ai a)]) ⟨[],0,[],0,[]⟩ (λr=>ab r) (λ_=>[]) 0 [.blk 0,.seq (pt 15 f252)]:=xX (λ_ _ _=>lN) λc ih=>λb r1 a=>lw λ_=>rB 0 (rA 0 (oV (o:=.no)) λ_=>rB 1 (lE 0)<|lH 1 [] [] [] [1,8,9,10] (ih _ _ _))<|lE 0
theorem yED{c d b}:Cz (zVM c d b) 252 [] [yZ d,ai b] (λr=>ab r) (λ_=>[]) 0:=fw func252<|rC 1 [] c69 λ_=>fH 1 [] [] [] [1,8,9,10] (zVN _ _ _ _)
mutual def zHJ:Nat->xK->Tm->Int->Option (Bool)
 |0,_,_,_=>none|c+1,M,d,a=>S2 c M d>>=λr1=>if r1.2.2 then zOA c M r1.1>>=λr4=>mU r1.2.1 r4 (r1.2.1.length:Int)>>=λx6=>jA c M a x6 0 else some false def jA:Nat->xK->Int->yU->Int->Option (Bool)
 |0,_,_,_,_=>none|c+1,M,a,x6,b=>if decide (b<(x6.length:Int))then zS x6 b>>=λx9=>if x9.k==8 then if x9.n==a then some true else zHJ c M x9 a>>=λr13=>if r13 then some true else jA c M a x6 (xC (b+1))else zHJ c M x9 a>>=λr16=>if r16 then some true else jA c M a x6 (xC (b+1))else some false end
theorem zHK:∀c:Nat,(∀M d a,Cz (zHJ c M d a) 253 [mB M 1,mR M] [.mp 0 0,yZ d,ai a] (λr=>ab r) (λ_=>[mB M 1,mR M]) 0)/\(∀M a x6 b,Lz (jA c M a x6 b) 2 f253 (pt 16309 f253) (λj=>sp j 47 0 [(0,.mp 0 0),(2,ai a),(25,zN zA x6 .no),(26,ai (x6.length:Int)),(27,ai b)]) ⟨[(0,mB M 1),(1,mR M)],2,[],0,[]⟩ (λr=>ab r) (λ_=>[mB M 1,mR M]) 0 [.blk 0,.seq (pt 255 f253)]):=xX ⟨λ_ _ _=>cN,λ_ _ _ _=>lN⟩ λc ih=>⟨λM d a=>fw func253<|rC 1 [0,1] zKu λ_=>rB 2 (rC 1 [0,1] zZr λ_=>rA 0 qV λ_=>fH 1 [] [0,1] [] [0,2,25,26,27] (ih.2 _ _ _ _))<|fE 1,λM a x6 b=>lw λ_=>rB 0 (rA 0 (xP (o:=.no)) λ_=>rB 3 (rB 1 (lE 0)<|rK 1 [0,1] (ih.1 _ _ _) (λ_=>lE 0) λ_=>lH 1 [] [0,1] [] [0,2,25,26,27] (ih.2 _ _ _ _))<|rK 1 [0,1] (ih.1 _ _ _) (λ_=>lE 0) λ_=>lH 1 [] [0,1] [] [0,2,25,26,27] (ih.2 _ _ _ _))<|lE 0⟩
theorem yEE{c M d a}:Cz (zHJ c M d a) 253 [mB M 1,mR M] [.mp 0 0,yZ d,ai a] (λr=>ab r) (λ_=>[mB M 1,mR M]) 0:=(zHK _).1 _ _ _
theorem zAT(L:List Int)(n:Int):∀(r:List Int)(v:Nat),L.drop v=r->L.length<=17592186044416->zF (λq=>bH q n L (v:Int)) (decide (n∈r))
 |[],v,hd,hl=>by refine zF.succ ?_;simp only[bH];exact zF.ifF (zY hd) (zF.ret.eq (by simp))|x::r,v,hd,hl=>by
  have hlt:=yC hd;refine zF.succ ?_;simp only[bH];refine zF.ifT (zX hd) (zF.pure (zV hd) ?_);by_cases e:x=n;·exact zF.ifT (by simp[e]) (zF.ret.eq (by simp[e]))
  ·refine zF.ifF (by simp[e]) ?_;rw[zU v (by omega)];exact(zAT L n r (v+1) (zR hd) hl).eq (by simp[show¬n=x fromλh=>e h.symm])
theorem lM{N:ByteArray->Bool}{l:List yI}(hE:vA N l){t:Tm}(hs:zG t=true)(hc:vV l t):∃p:Nat,(yA l (yK t).n).pars=(p:Int)/\p<=(xF t).length/\0<=(yK t).n/\(yK t).n<l.length:=by have h:=uD hs hc;obtain⟨A,y,hw,-,-,hp,-,q0,q1,-⟩:=uF hE h.1 h.2.1 h.2.2.1;exact⟨(yA l (yK t).n).pars.toNat,by omega,by rw[h.2.2.2];omega,h.1,h.2.1⟩
theorem L7(l:List yI)(t:Tm)(hs:zG t=true):zF (λq=>S2 q (xI l) t) (kP l t):=by simp only[S2];refine(xM t (yB hs)).bind (zF.ifT hs (((sG t (yB hs)).eq (by unfold nZ;rw[if_pos hs])).bind ((s9 l t hs).bind zF.ret)))
theorem zAU(l:List yI){c:Int}(h0:0<=c)(h1:c<l.length):zF (λq=>zOA q (xI l) c) (yA l c).pars:=by simp only[zOA,bF];exact zF.ifF (decide_eq_false (by omega)) (zF.ifF (decide_eq_false (by omega)) (zF.pure (yT h0 h1) zF.ret))
theorem zOB(t:Tm)(n:Int)(hs:zG t=true):zF (λq=>zVM q t n) (decide (n∈wL t)):=by
 simp only[zVM];refine(kA t (yB hs)).bind ?_;have e:mS t 8 8=vI (sF t 8 8):=by unfold mS;rw[if_pos hs]
 rw[e];have hl:=nP t 8 8;have hn:=(zL hs).1;refine(zAT (vI (sF t 8 8)) n _ 0 rfl (by have:=nW (sF t 8 8);omega)).eq ?_;simp[qX]
theorem zDg{l:List yI}(n:Int)(t:Tm)(hs:zG t=true)(hc:vV l t)(H:∀a∈sZ l t,zG a=true->zH (λq=>zHJ q (xI l) a n) λb=>b=true->Bnt l n a)(hl:(sZ l t).length<=17592186044416):∀(r:List Tm)(v:Nat),(sZ l t).drop v=r->zH (λq=>jA q (xI l) n (sZ l t) (v:Int)) λb=>b=true->Bnt l n t
 |[],v,hd=>by refine zH.succ ?_;simp only[jA];refine zH.ite (λh=>?_) λ_=>zH.ret λh=>(by cases h);rw[zY hd]at h;cases h|x::r,v,hd=>by
  have hlt:=yC hd;have hx:x∈sZ l t:=List.mem_of_mem_drop (by rw[hd];simp);have hsx:zG x=true:=xN hs (List.mem_of_mem_drop hx);have rest:∀b,(b=true->Bnt l n x)->zH (λq=>if b=true then some true else jA q (xI l) n (sZ l t) (xC ((v:Int)+1))) λb=>b=true->Bnt l n t:=λb hb=>by refine zH.ite (λh=>zH.ret λ_=>.deep hc hx (hb h)) λ_=>?_;rw[zU v (by omega)];exact zDg n t hs hc H hl r (v+1) (zR hd)
  refine zH.succ ?_;simp only[jA];refine zH.ite (λ_=>zH.pure (zV hd) (zH.ite (λh8=>zH.ite (λhn=>zH.ret λ_=>.here hc hx (by simpa using h8) (by simpa using hn)) λ_=>?_) λ_=>?_)) λh=>?_;·exact(H x hx hsx).bind rest
  ·exact(H x hx hsx).bind rest
  ·rw[zX hd]at h;cases h
theorem zHL{N:ByteArray->Bool}{l:List yI}(hE:vA N l)(n:Int):∀(m:Nat)(t:Tm),t.nodes<=m->zG t=true->zH (λq=>zHJ q (xI l) t n) λb=>b=true->Bnt l n t
 |0,.mk k i ls,hm,_=>by rw[Tm.nodes]at hm;omega|m+1,t,hm,hs=>by
  refine zH.succ ?_;simp only[zHJ];refine zH.bind (P:=λr=>r=kP l t) ((L7 l t hs).tot rfl) λr1 h1=>zH.ite (λh=>?_) λ_=>zH.ret λh=>(by cases h);subst h1;by_cases hc:vV l t
  ·have hx:kP l t=((yK t).n,xF t,true):=if_pos hc;obtain⟨p,hp,h3,h4,h5⟩:=lM hE hs hc;rw[hx];refine zH.bind (P:=λr=>r=(p:Int)) ((zAU l h4 h5).tot hp) λr4 h6=>?_;subst h6;have e:sZ l t=(xF t).drop p:=by unfold sZ;rw[hp];rfl
   refine zH.pure (a:=sZ l t) ((qC (by omega) (show(p:Int)<=(xF t).length by omega)).trans (by rw[e];rfl)) ?_;have hlen:(sZ l t).length<=17592186044416:=by have h:=zL hs;have:=sB t h.2.2;rw[e,List.length_drop];omega
   exact zDg n t hs hc (by intro a ha hsa;refine zHL hE n m a ?_ hsa;have h:=zL hs;have:=((u7 t h.2.2).2.2.2.2 a (List.mem_of_mem_drop ha)).2.1;omega) hlen _ 0 rfl
  ·have hx:kP l t=(0,[],false):=if_neg hc;rw[hx]at h;cases h
def zVO(b:Nat)(a:Int):Option (Bool):=if decide (a>=0)then some (decide (a<=1048576))else some false
theorem yEF{b a}:Cz (zVO b a) 106 [] [ai a] (λr=>ab r) (λ_=>[]) 0:=fw func106<|rB 0 (fE 1)<|fE 0
def C9:Nat->xU->Int->(List (Int×Int))->Option ((Unit)⊕((List (Int×Int))))
 |0,_,_,_=>none|d+1,c,b,a=>if decide (b<(c.length:Int))then zS c b>>=λx2=>zVO d x2.n_>>=λr4=>if r4 then cG d x2.type_>>=λr7=>if r7 then if decide ((c.length:Int)>256)then some (Sum.inl ())else if Q0 a x2.n_ then C9 d c (xC (b+1)) a else C9 d c (xC (b+1)) (aE a x2.n_ b)else some (Sum.inl ())else some (Sum.inl ())else some (Sum.inr a)
def e74(d:Nat)(c:xU):Option ((Unit)⊕((List (Int×Int)))):=C9 d c 0 ([]:List (Int×Int))
theorem zZq:∀d:Nat,∀c b a,Lz (C9 d c b a) 0 f74 (pt 4021 f74) (λj=>sp j 47 0 [(0,zN zD c .no),(4,.obj 0),(10,zN zD c .no),(11,ai (c.length:Int)),(12,ai b)]) ⟨[(0,B2 a)],1,[],0,[]⟩ (Sum.elim (λ_=>.tup [.val (.map none),ab false]) (λ_=>.tup [.obj 0,ab true])) (Sum.elim (λ_=>[]) (λx=>[B2 x])) 0 [.blk 0,.seq (pt 63 f74)]:=xX (λ_ _ _=>lN) λd ih=>λc b a=>lw λ_=>rB 0 (rA 0 (Q3 (o:=.no)) λx2=>rK 3 [] yEF (λ_=>rK 2 [] aR (λ_=>rB 2 (lE 0)<|rS (oL 1 (zQB a x2.n_))<|rB 1 (lH 2 [] [0] [] [0,4,10,11,12] (ih _ _ _))<|rS (oU 2 (zYu a x2.n_ b))<|lH 1 [] [0] [] [0,4,10,11,12] (ih _ _ _)) λ_=>lE 1) λ_=>lE 1)<|lF 0 [0]
theorem c74{d c}:Cz (e74 d c) 74 [] [zN zD c .no] (Sum.elim (λ_=>.tup [.val (.map none),ab false]) (λ_=>.tup [.obj 0,ab true])) (Sum.elim (λ_=>[]) (λx=>[B2 x])) 0:=fw func74<|fH 1 [] [0] [] [0,4,10,11,12] (zZq _ _ _ _)
def e75(b:Nat)(a:Tm):Option (Int):=cG b a>>=λr1=>if r1 then e95 b a 0>>=λr4=>some r4 else some 0
theorem c75{b a}:Cz (e75 b a) 75 [] [yZ a] (λr=>ai r) (λ_=>[]) 0:=fw func75<|rK 1 [] aR (λ_=>rC 2 [] c95 λ_=>fE 0) λ_=>fE 1
mutual def D0:Nat->xU->(List (Int×Int))->Int->Option (Bool)|0,_,_,_=>none|d+1,b,y3,a=>if decide (a<(b.length:Int))then zS b a>>=λx6=>e75 d x6.type_>>=λr8=>if decide (r8>0)then some false else e69 d x6.type_>>=λr11=>eZ d b y3 a r11 0 else some true def eZ:Nat->xU->(List (Int×Int))->Int->yD->Int->Option (Bool)
 |0,_,_,_,_,_=>none|d+1,b,y3,a,r11,c=>if decide (c<(r11.length:Int))then zS r11 c>>=λx14=>if Q0 y3 x14 then if decide ((zJg y3 x14)>=a)then some false else eZ d b y3 a r11 (xC (c+1))else eZ d b y3 a r11 (xC (c+1))else D0 d b y3 (xC (a+1))end
def e50(d:Nat)(b:xU):Option (Bool):=e74 d b>>=λr1=>match r1 with|Sum.inl y5=>some false|Sum.inr y3=>if(y3.length:Int)!=(b.length:Int)then some false else D0 d b y3 0
theorem zFx:∀d:Nat,(∀b y3 a,Lz (D0 d b y3 a) 0 f50 (pt 16309 f50) (λj=>sp j 58 0 [(3,.obj 0),(25,zN zD b .no),(26,ai (b.length:Int)),(27,ai a)]) ⟨[(0,B2 y3)],1,[],0,[]⟩ (λr=>ab r) (λ_=>[]) 0 [.blk 0,.seq (pt 255 f50)])/\(∀b y3 a r11 c,Lz (eZ d b y3 a r11 c) 0 f50 (pt 4275562485 f50) (λj=>sp j 58 0 [(3,.obj 0),(5,ai a),(25,zN zD b .no),(26,ai (b.length:Int)),(27,ai a),(38,zN zZ r11 .no),(39,ai (r11.length:Int)),(40,ai c)]) ⟨[(0,B2 y3)],1,[],0,[]⟩ (λr=>ab r) (λ_=>[]) 0 [.blk 2,.blk 1,.seq (pt 1043839 f50),.loop (pt 16309 f50),.blk 0,.seq (pt 255 f50)]):=xX ⟨λ_ _ _=>lN,λ_ _ _ _ _=>lN⟩ λd ih=>⟨λb y3 a=>lw λ_=>rB 0 (rA 0 (Q3 (o:=.no)) λ_=>rC 3 [] c75 λ_=>rB 0 (lE 0)<|rC 1 [] c69 λ_=>lH 1 [] [0] [] [3,5,25,26,27,38,39,40] (ih.2 _ _ _ _ _))<|lE 0,λb y3 a r11 c=>lw λ_=>rB 0 (rA 0 (oV (o:=.no)) λx14=>rS (oL 1 (zQB y3 x14))<|rB 1 (rB 0 (lE 0)<|lH 1 [] [0] [] [3,5,25,26,27,38,39,40] (ih.2 _ _ _ _ _))<|lH 1 [] [0] [] [3,5,25,26,27,38,39,40] (ih.2 _ _ _ _ _))<|lH 1 [] [0] [] [3,25,26,27] (ih.1 _ _ _)⟩
theorem c50{d b}:Cz (e50 d b) 50 [] [zN zD b .no] (λr=>ab r) (λ_=>[]) 0:=fw func50<|rC 0 [] c74<|sD (λ_=>fE 3) λy3=>rS (oN 3 (zQC y3))<|rB 1 (fE 0)<|fH 1 [] [0] [] [3,25,26,27] (((zFx _).1) _ _ _)
end Go.Proofs.YtohkcbcddindpaaGreat
