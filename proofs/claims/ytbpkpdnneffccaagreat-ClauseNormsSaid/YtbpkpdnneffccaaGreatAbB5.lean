/- Parts of the proof that the law returns true: walks of the functions, plain laws. -/
import Derived.Test.YtbpkpdnneffccaaGreatAbB4
set_option linter.unusedVariables false
set_option linter.unusedSimpArgs false
set_option linter.unusedSectionVars false
namespace Go.Proofs.YtbpkpdnneffccaaGreat
open Go Go.Ab Go.Proofs.Tryz
def wI(y:Tm):List Tm:=if y.k=3∨y.k=4 then y.sub else if y.k=5 then yG y else []
def cA(y:Tm)(ps:List Tm):Tm:=if y.k=3∨y.k=4 then .mk y.k 0 ps else if y.k=5 then wJ (zN y) ps else y
def sV(P:Tm->Tm->Int->Prop):List Tm->List Tm->Int->Prop
 | [],xs,k=>xs=[]∧k=0
 |t::ts,xs,k=>∃x xs' k1 k2,xs=x::xs'∧P t x k1∧sV P ts xs' k2∧k=k1+k2
def cB(l:List zU):Nat->Tm->Tm->Int->Prop
 |0,_,_,_=>False
 |n+1,t,x,k=>wA l t∧∃y k1 ps k2,Br l t y 0 k1∧sV (cB l n) (wI y) ps k2∧x=cA y ps∧k=k1+k2
def Nm(l:List zU)(t x:Tm)(k:Int):Prop:=∃n,cB l n t x k
def P0(l:List zU)(ts xs:List Tm)(k:Int):Prop:=∃n,sV (cB l n) ts xs k
section
variable {P P':Tm->Tm->Int->Prop}
theorem sV.mono(h:∀t x k,P t x k->P' t x k):∀ {ts xs:List Tm} {k:Int},sV P ts xs k->sV P' ts xs k
 | [],_,_,a=>a
 |_::_,_,_,⟨x,xs',k1,k2,a,b,c,d⟩=>⟨x,xs',k1,k2,a,h _ _ _ b,sV.mono h c,d⟩
theorem sV.len:∀ {ts xs:List Tm} {k:Int},sV P ts xs k->xs.length=ts.length
 | [],_,_,⟨a,_⟩=>by rw[a]
 |_::_,_,_,⟨x,xs',k1,k2,a,_,c,_⟩=>by rw[a,List.length_cons,List.length_cons,sV.len c]
theorem sV.nn(h:∀t x k,P t x k->0≤k):∀ {ts xs:List Tm} {k:Int},sV P ts xs k->0≤k
 | [],_,_,⟨_,a⟩=>by omega
 |_::_,_,_,⟨x,xs',k1,k2,_,b,c,d⟩=>by have:=h _ _ _ b;have:=sV.nn h c;omega
theorem sV.at:∀ {ts xs:List Tm} {k:Int},sV P ts xs k->∀(i:Nat) (h:i<ts.length) (h':i<xs.length),∃k1,P ts[i] xs[i] k1
 | [],_,_,_,i,h,_=>by simp at h
 |_::_,_,_,⟨x,xs',k1,k2,a,b,_,_⟩,0,_,_=>by subst a;exact⟨k1,b⟩
 |_::_,_,_,⟨x,xs',k1,k2,a,_,c,_⟩,i+1,h,h'=>by
  subst a
  exact sV.at c i (by simpa using h) (by simpa using h')
theorem sV.self:∀ {ts:List Tm},(∀t∈ts,P t t 0)->sV P ts ts 0
 | [],_=>⟨rfl,rfl⟩
 |t::ts,h=>⟨t,ts,0,0,rfl,h t (by simp),sV.self fun x hx=>h x (by simp[hx]),rfl⟩
theorem sV.mem:∀ {ts xs:List Tm} {k:Int},sV P ts xs k->∀x∈xs,∃t∈ts,∃k1,P t x k1
 | [],_,_,⟨a,_⟩,x,hx=>by rw[a]at hx;cases hx
 |t::_,_,_,⟨y,xs',k1,k2,a,b,c,_⟩,x,hx=>by
  subst a
  rcases List.mem_cons.1 hx with rfl|hx
  ·exact⟨t,by simp,k1,b⟩
  ·obtain⟨t',h1,h2⟩:=sV.mem c x hx
   exact⟨t',by simp[h1],h2⟩
theorem sV.det(h:∀t x k x' k',P t x k->P' t x' k'->x'=x∧k'=k):∀ {ts xs xs':List Tm} {k k':Int},sV P ts xs k->sV P' ts xs' k'->xs'=xs∧k'=k
 | [],_,_,_,_,⟨a,b⟩,⟨c,d⟩=>by subst a;subst c;exact⟨rfl,by omega⟩
 |_::_,_,_,_,_,⟨x,xs1,k1,k2,a,b,c,d⟩,⟨x',xs1',k1',k2',a',b',c',d'⟩=>by
  obtain⟨h1,h2⟩:=h _ _ _ _ _ b b'
  obtain⟨h3,h4⟩:=sV.det h c c'
  subst a;subst a';subst h1;subst h3
  exact⟨rfl,by omega⟩
end
theorem cB.mono{l:List zU}:∀ {n:Nat} {t x:Tm} {k:Int},cB l n t x k->cB l (n+1) t x k
 |0,_,_,_,h=>h.elim
 |n+1,t,x,k,⟨hR,y,k1,ps,k2,a,b,c,d⟩=>⟨hR,y,k1,ps,k2,a,sV.mono (fun _ _ _ h=>cB.mono h) b,c,d⟩
theorem cB.le{l:List zU}{n m:Nat}{t x:Tm}{k:Int}(h:cB l n t x k)(hm:n≤m):cB l m t x k:=by
 induction hm with
 |refl=>exact h
 |step _ ih=>exact ih.mono
theorem cB.nn{l:List zU}:∀ {n:Nat} {t x:Tm} {k:Int},cB l n t x k->0≤k
 |0,_,_,_,h=>h.elim
 |n+1,t,x,k,⟨_,y,k1,ps,k2,a,b,_,d⟩=>by
  have:=a.nn
  have:=sV.nn (fun _ _ _ h=>cB.nn h) b
  omega
theorem cB.det{l:List zU}:∀ {n m:Nat} {t x x':Tm} {k k':Int},cB l n t x k->cB l m t x' k'->x'=x∧k'=k
 |0,_,_,_,_,_,_,h,_=>h.elim
 |_+1,0,_,_,_,_,_,_,h=>h.elim
 |n+1,m+1,t,x,x',k,k',⟨_,y,k1,ps,k2,a,b,c,d⟩,⟨_,y',k1',ps',k2',a',b',c',d'⟩=>by
  obtain⟨rfl,-,rfl⟩:=a.det a'
  obtain⟨rfl,rfl⟩:=sV.det (P:=cB l n) (P':=cB l m) (fun _ _ _ _ _ h1 h2=>cB.det h1 h2) b b'
  subst c;subst c';subst d;subst d'
  exact⟨rfl,rfl⟩
theorem Nm.det{l:List zU}{t x x':Tm}{k k':Int}:Nm l t x k->Nm l t x' k'->x'=x∧k'=k:=fun⟨_,a⟩ ⟨_,b⟩=>a.det b
theorem P0.nn{l:List zU}{t x:List Tm}{k:Int}:P0 l t x k->0≤k:=fun⟨_,a⟩=>sV.nn (fun _ _ _ h=>cB.nn h) a
theorem Nm.right{l:List zU}{t x:Tm}{k:Int}:Nm l t x k->wA l t
 |⟨0,h⟩=>h.elim
 |⟨_+1,h⟩=>h.1
theorem P0.nil{l:List zU}:P0 l [] [] 0:=⟨0,rfl,rfl⟩
theorem P0.cons{l:List zU}{t x:Tm}{ts xs:List Tm}{k k':Int}:Nm l t x k->P0 l ts xs k'->P0 l (t::ts) (x::xs) (k+k'):=fun⟨n,a⟩ ⟨m,b⟩=>
 ⟨max n m,x,xs,k,k',rfl,a.le (by omega),sV.mono (fun _ _ _ h=>h.le (by omega)) b,rfl⟩
theorem P0.cons_inv{l:List zU}{t:Tm}{ts xs:List Tm}{k:Int}(h:P0 l (t::ts) xs k):∃x xs' k1 k2,xs=x::xs'∧Nm l t x k1∧P0 l ts xs' k2∧k=k1+k2:=by
 obtain⟨n,x,xs',k1,k2,a,b,c,d⟩:=h
 exact⟨x,xs',k1,k2,a,⟨n,b⟩,⟨n,c⟩,d⟩
theorem Nm.mk{l:List zU}{t y:Tm}{ps:List Tm}{k1 k2:Int}(hR:wA l t)(h:Br l t y 0 k1)(hp:P0 l (wI y) ps k2):Nm l t (cA y ps) (k1+k2):=by
 obtain⟨n,hp⟩:=hp
 exact⟨n+1,hR,y,k1,ps,k2,h,hp,rfl,rfl⟩
theorem Nm.inv{l:List zU}{t x:Tm}{k:Int}(h:Nm l t x k):∃y k1 ps k2,wA l t∧Br l t y 0 k1∧P0 l (wI y) ps k2∧x=cA y ps∧k=k1+k2:=by
 obtain⟨n,h⟩:=h
 cases n with
 |zero=>exact h.elim
 |succ n=>
  obtain⟨hR,y,k1,ps,k2,a,b,c,d⟩:=h
  exact⟨y,k1,ps,k2,hR,a,⟨n,b⟩,c,d⟩
theorem W8:∀(l:List Tm) (f:Tm),zN (wJ f l)=zN f
 | [],f=>by rw[wJ]
 |a::l,f=>by rw[wJ,W8 l,qO]
theorem zBq:∀(l:List Tm) (f:Tm),yG (wJ f l)=yG f++l
 | [],f=>by rw[wJ,List.append_nil]
 |a::l,f=>by rw[wJ,zBq l,rB];simp
theorem zSg:∀(l:List Tm) (f:Tm),l≠[]->(wJ f l).k=5
 | [],_,h=>absurd rfl h
 | [a],f,_=>by rw[wJ,wJ,Tm.k]
 |a::b::l,f,_=>by rw[wJ];exact zSg (b::l) _ (by simp)
theorem zUf{y:Tm}(hg:xG y=true)(h:y.k=5):yG y≠[]:=by
 obtain⟨a,b,hs,-,-⟩:=tS hg (.inr (.inr h))
 obtain⟨k,n,l⟩:=y
 have h':k=5:=h
 have hs':l=[a,b]:=hs
 subst h';subst hs'
 rw[rB];simp
theorem J2{y:Tm}{ps:List Tm}(hs:zH y=true)(hl:ps.length=(wI y).length):wI (cA y ps)=ps∧cA (cA y ps) ps=cA y ps∧(zN (cA y ps)=zN y∧(yG (cA y ps)).length=(yG y).length∨(y.k=3∨y.k=4)):=by
 have hg:=(zI hs).2.2
 unfold wI at hl
 by_cases h1:y.k=3∨y.k=4
 ·have e:cA y ps = .mk y.k 0 ps:=by unfold cA;rw[if_pos h1]
  rw[e]
  refine⟨?_,?_,.inr h1⟩
  ·unfold wI;rw[if_pos (by simpa[Tm.k]using h1)];rfl
  ·unfold cA;rw[if_pos (by simpa[Tm.k]using h1)];rfl
 ·rw[if_neg h1]at hl
  by_cases h2:y.k=5
  ·rw[if_pos h2]at hl
   have e:cA y ps=wJ (zN y) ps:=by unfold cA;rw[if_neg h1,if_pos h2]
   have hne:ps≠[]:=fun h=>by
    have:=zUf hg h2
    rw[h]at hl
    exact this (List.length_eq_zero_iff.1 hl.symm)
   have hk:=zSg ps (zN y) hne
   have hd5:=(mW y hg).2.1
   have hh:zN (wJ (zN y) ps)=zN y:=by rw[W8,vH hd5]
   have ha:yG (wJ (zN y) ps)=ps:=by rw[zBq,tL hd5,List.nil_append]
   rw[e]
   refine⟨?_,?_,.inl ⟨hh,by rw[ha,hl]⟩⟩
   ·unfold wI;rw[if_neg (by omega),if_pos hk,ha]
   ·unfold cA;rw[if_neg (by omega),if_pos hk,hh]
  ·rw[if_neg h2]at hl
   have hp:ps=[]:=List.length_eq_zero_iff.1 (by simpa using hl)
   have e:cA y ps=y:=by unfold cA;rw[if_neg h1,if_neg h2]
   rw[e,hp]
   refine⟨?_,?_,.inl ⟨rfl,rfl⟩⟩
   ·unfold wI;rw[if_neg h1,if_neg h2]
   ·unfold cA;rw[if_neg h1,if_neg h2]
theorem zQY{l:List zU}{y:Tm}(h:y.k=3∨y.k=4):¬vJ l y:=fun hc=>by
 have:=(wD hc.1 (by decide)).1
 rw[vH (by omega)]at this
 omega
theorem zQZ{l:List zU}{y:Tm}{ps:List Tm}(hs:zH y=true)(hl:ps.length=(wI y).length)(h:vJ l (cA y ps)):vJ l y∧zN (cA y ps)=zN y:=by
 rcases(J2 hs hl).2.2 with⟨h1,h2⟩|h3
 ·unfold vJ at h ⊢
  rw[h1,h2]at h
  exact⟨h,h1⟩
 ·have e:cA y ps = .mk y.k 0 ps:=by unfold cA;rw[if_pos h3]
  rw[e]at h
  exact absurd h (zQY (by simpa[Tm.k]using h3))
theorem W9{l:List zU}{x y:Tm}:uA l x y=none ↔ ¬(vJ l y∧(zK l (zN y).n).fam=if wR l (zN x)=4 then(zK l (zN x).n).fam else(zN x).n):=by
 unfold uA
 by_cases h:wR l (zN x)=4
 ·rw[if_pos h,if_pos h]
  by_cases h2:vJ l y∧(zK l (zN y).n).fam=(zK l (zN x).n).fam
  ·rw[if_pos h2];simp[h2]
  ·rw[if_neg h2];simp only[true_iff];exact h2
 ·rw[if_neg h,if_neg h]
  by_cases h2:vJ l y∧(zK l (zN y).n).fam=(zN x).n
  ·rw[if_pos h2];simp[h2]
  ·rw[if_neg h2];simp only[true_iff];exact h2
theorem zNB{N:ByteArray->Bool}{l:List zU}(hE:xA N l){x y:Tm}(hs:zH y=true)(hh:zN x=zN y)(ha:(yG x).length=(yG y).length):(wW l y = .none->wW l x = .none)∧∀a,wW l y = .tgt a->∃i:Int,0≤i∧i<(yG y).length∧a=nth (yG y) i∧wW l x = .tgt (nth (yG x) i):=by
 have hn:=mH (zI (wG hs)).2.2
 unfold wW
 rw[hh,ha]
 by_cases h1:(zN y).k=4∧0<(yG y).length
 ·rw[if_pos h1,if_pos h1];exact⟨fun h=>(by cases h),fun a h=>(by cases h)⟩
 ·rw[if_neg h1,if_neg h1]
  by_cases h2:wR l (zN y)=3
  ·rw[if_pos h2,if_pos h2];exact⟨fun h=>(by cases h),fun a h=>(by cases h)⟩
  ·rw[if_neg h2,if_neg h2]
   by_cases h3:wR l (zN y)=4
   ·rw[if_pos h3,if_pos h3]
    by_cases h4:((yG y).length:Int)≤(zK l (zN y).n).pars
    ·rw[if_pos h4,if_pos h4];exact⟨id,fun a h=>(by cases h)⟩
    ·rw[if_neg h4,if_neg h4]
     have hk:=wD h3 (by decide)
     have hp:=(yQ (hE.2 _ hn hk.2.1)).2.2.2.1 hk.2.2
     unfold dW at hp
     simp only[Bool.and_eq_true]at hp
     have hw:=tZ hp.1
     have hfam:=wE ((yQ (hE.2 _ hw.1 (by omega))).2.1 hw.2.2.1)
     exact⟨fun h=>(by cases h),fun a h=>by injection h with h;exact⟨_,by omega,by omega,h.symm,rfl⟩⟩
   ·rw[if_neg h3,if_neg h3]
    by_cases h4:(zN y).k=7
    ·rw[if_pos h4,if_pos h4]
     by_cases h5:kH l (zN y).n 1=true∧xI (zK l (zN y).n)≤(yG y).length
     ·rw[if_pos h5,if_pos h5]
      have hi:=wU h5.1
      have hfam:=wE ((yQ (hE.2 _ hi.1 hi.2.1)).2.1 hi.2.2)
      have h6:xI (zK l (zN y).n)=(zK l (zN y).n).pars+2+(zK l (zN y).n).cons.length+(zK l (zN y).n).inds:=by unfold xI;rw[if_pos hi.2.2]
      exact⟨fun h=>(by cases h),fun a h=>by injection h with h;exact⟨_,by omega,by omega,h.symm,rfl⟩⟩
     ·rw[if_neg h5,if_neg h5];exact⟨id,fun a h=>(by cases h)⟩
    ·rw[if_neg h4,if_neg h4];exact⟨id,fun a h=>(by cases h)⟩
theorem On.still_inv{l:List zU}{y:Tm}{j:Int}(h:On l y y false 0 j):wW l y = .none∨∃a z j',wW l y = .tgt a∧Br l a z 0 j'∧uA l y z=none:=by
 cases h with
 |stop a=>exact .inl a
 |redE _ b=>exact absurd rfl b
 |tgtE _ _ c=>exact absurd rfl c
 |tgtN a b c=>exact .inr ⟨_,_,_,a,b,c⟩
 |tgtRE _ _ _ d=>exact absurd rfl d
theorem zFE{t x:Tm}(h:zH t=true)(hx:x∈t.sub):zH x=true:=by
 obtain⟨k,n,l⟩:=t
 have hs:=zI h
 have hg:=(xV hs.2.2).2
 rw[Tm.nodes,Tm.high]at hs
 have key:∀l:List Tm,qF l=true->∀x∈l,xG x=true∧x.nodes≤yN l∧x.high≤pI l:=by
  intro l
  induction l with
  |nil=>intro _ x hx;cases hx
  |cons a l ih=>
   intro hg x hx
   have hc:=wC hg
   rw[yN,pI]
   rcases List.mem_cons.1 hx with rfl|hx
   ·exact⟨hc.1,by omega,by omega⟩
   ·have:=ih hc.2 x hx;exact⟨this.1,by omega,by omega⟩
 have:=key l hg x hx
 exact mE (by omega) (by omega) this.1
theorem lN{y x:Tm}(h:zH y=true)(hx:x∈wI y):zH x=true:=by
 unfold wI at hx
 split at hx
 ·exact zFE h hx
 ·split at hx
  ·exact yW h hx
  ·cases hx
theorem cB.again{N:ByteArray->Bool}{l:List zU}(hE:xA N l):∀ {n:Nat} {t x:Tm} {k:Int},cB l n t x k->zH x=true->cB l n x x 0
 |0,_,_,_,h,_=>h.elim
 |n+1,t,x,k,⟨hR,y,k1,ps,k2,a,b,c,d⟩,hs=>by
  have hRy:=a.right hE hR
  have hsy:=hRy.shaped
  have hlen:=b.len
  obtain⟨e1,e2,e3⟩:=J2 hsy hlen
  rw[←c]at e1 e2 e3
  have hps:∀p∈ps,cB l n p p 0:=fun p hp=>by
   obtain⟨q,hq,kq,hn⟩:=b.mem p hp
   exact cB.again hE hn (lN hs (by rw[e1];exact hp))
  have hn0:∀ {p:Tm},cB l n p p 0->wA l p∧Br l p p 0 0:=fun {p} h=>by
   cases n with
   |zero=>exact h.elim
   |succ n=>
    obtain⟨hR,y,k1,ps,k2,a,b,c,d⟩:=h
    have h1:=a.nn
    have h2:=sV.nn (fun _ _ _ h=>cB.nn h) b
    have hz:k1=0:=by omega
    subst hz
    refine⟨hR,?_⟩
    have hy:y=p:=by
     have key:∀ {x y:Tm} {e k:Int},Br l x y e k->e=0->k≤0->y=x:=fun h=>by
      cases h with
      |stop _=>exact fun _ _=>rfl
      |redE _ h=>exact fun he=>absurd he h
      |redL _ _=>exact fun he=>absurd he (by decide)
      |red _ _ h=>exact fun _ hk=>by have:=h.nn;omega
      |tgtE _ _ h=>exact fun he=>absurd he h
      |tgtN _ _ _=>exact fun _ _=>rfl
      |tgtRE _ _ _ h=>exact fun he=>absurd he h
      |tgtRL _ _ _ _=>exact fun he=>absurd he (by decide)
      |tgtR _ h1 _ _ h2=>exact fun _ hk=>by have:=h1.nn;have:=h2.nn;omega
     exact key a rfl (Int.le_refl 0)
    rw[hy]at a;exact a
  have hP5:(fun(k n:Int)=>k=6∨k=7->n<(l.length:Int)) 5 0:=fun h=>by omega
  have hyN:=(mI.1 hRy).2
  have hRx:wA l x:=by
   refine mI.2 ⟨hs,?_⟩
   have hpsN:∀p∈ps,xH (fun k n=>k=6∨k=7->n<l.length) p:=fun p hp=>(mI.1 (hn0 (hps p hp)).1).2
   rw[c]
   unfold cA
   by_cases h1:y.k=3∨y.k=4
   ·rw[if_pos h1,xH,eK]
    exact⟨.inr fun h=>by omega,hpsN⟩
   ·rw[if_neg h1]
    by_cases h2:y.k=5
    ·rw[if_pos h2]
     exact mX ps _ hP5 (jR y (zI hsy).2.2 hyN).1 hpsN
    ·rw[if_neg h2];exact hyN
  have hbr:Br l x x 0 0:=by
   rcases e3 with⟨hh,ha⟩|h34
   ·obtain⟨j,-,hon⟩:=a.last rfl
    have hact:=zNB hE hsy hh ha
    rcases hon.still_inv with h|⟨a',z,j',h1,h2,h3⟩
    ·exact .stop (hact.1 h)
    ·obtain⟨i,i0,i1,i2,i3⟩:=hact.2 a' h1
     have hy5:y.k=5:=by
      by_cases h5:y.k=5
      ·exact h5
      ·rw[tL h5]at i1;simp at i1;omega
     have hpy:wI y=yG y:=by unfold wI;rw[if_neg (by omega),if_pos hy5]
     have hpx:yG x=ps:=by
      have e:x=wJ (zN y) ps:=by rw[c];unfold cA;rw[if_neg (by omega),if_pos hy5]
      rw[e,zBq,tL (mW y (zI hsy).2.2).2.1,List.nil_append]
     rw[hpy]at hlen b
     have hi1:i.toNat<(yG y).length:=by omega
     have hi2:i.toNat<ps.length:=by omega
     obtain⟨ki,hki⟩:=b.at i.toNat hi1 hi2
     have ea:a'=(yG y)[i.toNat]:=by rw[i2];unfold nth;rw[List.getElem?_eq_getElem hi1];rfl
     have eb:nth (yG x) i=ps[i.toNat]:=by rw[hpx];unfold nth;rw[List.getElem?_eq_getElem hi2];rfl
     rw[←ea]at hki
     have hself:=hps _ (List.getElem_mem hi2)
     refine .tgtN (i3.trans (by rw[eb])) (hn0 hself).2 ?_
     cases n with
     |zero=>exact hki.elim
     |succ n=>
      obtain⟨hRa,w,w1,qs,w2,u1,u2,u3,u4⟩:=hki
      obtain⟨rfl,-,-⟩:=h2.det u1
      have hsw:=u1.shaped hRa.shaped rfl
      rw[W9]at h3 ⊢
      rw[hh]
      rintro ⟨c1,c2⟩
      rw[u3]at c1 c2
      obtain⟨d1,d2⟩:=zQZ hsw u2.len c1
      rw[d2]at c2
      exact h3 ⟨d1,c2⟩
   ·have hx34:x.k=3∨x.k=4:=by rw[c];unfold cA;rw[if_pos h34];simpa[Tm.k]using h34
    refine .stop ?_
    unfold wW
    rw[vH (by omega),tL (by omega)]
    have hk:∀m:Int,m≠0->wR l x≠m:=fun m hm e=>by have:=(wD e hm).1;omega
    rw[if_neg (by simp),if_neg (hk 3 (by decide)),if_neg (hk 4 (by decide)),if_neg (by omega)]
  exact⟨hRx,x,0,ps,0,hbr,by rw[e1];exact sV.self hps,e2.symm,rfl⟩
mutual
def e39:Nat->wF->Int->Int->Int->Tm->Option (Tm×Int×Int×Int)
 |0,_,_,_,_,_=>none
 |qq+1,M,fl,fu,q0_e,p1=>
 e60 qq M p1 fl fu>>=fun r1=>
 if r1.2.1 != 0 then
 some ((Tm.mk 0 0 []),r1.2.1,r1.2.2.1,r1.2.2.2)
 else
 if r1.1.k==4 then
 e61 qq M r1.2.2.1 r1.2.2.2 q0_e r1.1.sub>>=fun r5=>
 some ((Tm.mk r1.1.k 0 r5.1),r5.2.1,r5.2.2.1,r5.2.2.2)
 else
 if r1.1.k==3 then
 e61 qq M r1.2.2.1 r1.2.2.2 q0_e r1.1.sub>>=fun r8=>
 some ((Tm.mk r1.1.k 0 r8.1),r8.2.1,r8.2.2.1,r8.2.2.2)
 else
 if r1.1.k==5 then
 e62 qq r1.1>>=fun r11=>
 e61 qq M r1.2.2.1 r1.2.2.2 q0_e r11.2>>=fun r13=>
 e63 qq r11.1 r13.1>>=fun r15=>
 some (r15,r13.2.1,r13.2.2.1,r13.2.2.2)
 else
 some (r1.1,q0_e,r1.2.2.1,r1.2.2.2)
def e61:Nat->wF->Int->Int->Int->zQ->Option (zQ×Int×Int×Int)
 |0,_,_,_,_,_=>none
 |qq+1,M,fl,fu,q0_e,p1=>
 lO qq M p1 0 [] q0_e fl fu
def lO:Nat->wF->zQ->Int->zQ->Int->Int->Int->Option (zQ×Int×Int×Int)
 |0,_,_,_,_,_,_,_=>none
 |qq+1,M,p1,v10,v5,xC,xP,xX=>
 if decide (v10<(p1.length:Int))then
 zR p1 v10>>=fun x2=>
 if xC != 0 then
 some ([],xC,xP,xX)
 else
 e39 qq M xP xX xC x2>>=fun r5=>
 xQ 40 v5 [r5.1]>>=fun l7=>
 lO qq M p1 (xL (v10+1)) l7 r5.2.1 r5.2.2.1 r5.2.2.2
 else
 some (v5,xC,xP,xX)
end
abbrev K39 (M:wF) (fl fu q0_e:Int) (p1:Tm) (r:Tm×Int×Int×Int) (C:Cf):Prop:=C 39 [.cells [.mp 1 0,.mp 3 0,ai q0_e],mB M 2,mR M,.cells [ai fl,ai fu]] [.mp 0 0,xF p1] (xF r.1) [.cells [.mp 1 0,.mp 3 0,ai r.2.1],mB M 2,mR M,.cells [ai r.2.2.1,ai r.2.2.2]] 0
abbrev K61 (M:wF) (fl fu q0_e:Int) (p1:zQ) (r:zQ×Int×Int×Int) (C:Cf):Prop:=C 61 [.cells [.mp 1 0,.mp 3 0,ai q0_e],mB M 2,mR M,.cells [ai fl,ai fu]] [.mp 0 0,zO zD p1 .no] (.sl (flat zD r.1) r.1.length .no) [.cells [.mp 1 0,.mp 3 0,ai r.2.1],mB M 2,mR M,.cells [ai r.2.2.1,ai r.2.2.2]] 0
theorem q39:Qf 39 f39:=⟨func39,rfl⟩
theorem k39{M fl fu q0_e p1 r}(h:K39 M fl fu q0_e p1 r Ci):K39 M fl fu q0_e p1 r Ct:=⟨h,⟨(lz rfl),⟨tv,tv,⟨tv,dT _⟩,tv⟩,tv⟩,(zC ⟨(lz rfl),(lz rfl),tv,tv⟩ (eH (lz rfl) (zC ⟨tv,tv,tv⟩ zA))),⟨tv,tv,dT _,tv⟩,(zC ⟨(lz rfl),(lz rfl),tv,tv⟩ (iY (lz rfl) (zC ⟨tv,tv,tv⟩ zA)))⟩
theorem zBp:∀qq:Nat,(∀ {M fl fu q0_e p1 r},e39 qq M fl fu q0_e p1=some r->K39 M fl fu q0_e p1 r Ct)∧(∀ {M fl fu q0_e p1 r},e61 qq M fl fu q0_e p1=some r->K61 M fl fu q0_e p1 r Ct)∧(∀ {M p1 v10 v5 xC xP xX r},lO qq M p1 v10 v5 xC xP xX=some r->(∀j,dL 4 (pt 4021 f61) (sp j 27 0 [(0,.mp 0 0),(5,zO zD v5 (.st 0 3)),(8,zO zD p1 .no),(9,ai (p1.length:Int)),(10,ai v10)]) (⟨[(0,.cells [.mp 1 0,.mp 3 0,ai xC]),(1,mB M 2),(2,mR M),(3,.cells [ai xP,ai xX])],4,[0],1,[]⟩) (fQ 4 (nQ 4 f61 (.sl (flat zD r.1) r.1.length .no) [.cells [.mp 1 0,.mp 3 0,ai r.2.1],mB M 2,mR M,.cells [ai r.2.2.1,ai r.2.2.2]] 0) [.blk 0,.seq (pt 63 f61)]))):=by
 intro qq
 induction qq with
 |zero=>
  exact⟨fun h=>nn h,fun h=>nn h,fun h=>nn h⟩
 |succ qq ih=>
  obtain⟨zZx,zUd,zHj⟩:=ih
  refine⟨?_,?_,?_⟩
  intro M fl fu q0_e p1 r h
  rw[e39]at h
  obtain⟨r1,h2,h⟩:=zB h
  have k:=oC 3 [1,2,3] (c60 h2) o0
  obtain⟨h3,h⟩|⟨h3,h⟩:=zL h
  cases h
  exact k39 (tF q39 2 [0,1,2,3] (oD (dT ([]:zQ))<|rF M<|oB 3 h3 k))
  have k:=oB 3 h3 k
  obtain⟨h4,h⟩|⟨h4,h⟩:=zL h
  obtain⟨r5,h6,h⟩:=zB h
  cases h
  exact k39 (tF q39 1 [0,1,2,3] (oD (dT r5.1)<|rF M<|oC 1 [0,1,2,3] (zUd h6)<|oCl 0<|oB 1 h4 k))
  have k:=oB 1 h4 k
  obtain⟨h7,h⟩|⟨h7,h⟩:=zL h
  obtain⟨r8,h9,h⟩:=zB h
  cases h
  exact k39 (tF q39 1 [0,1,2,3] (oD (dT r8.1)<|rF M<|oC 1 [0,1,2,3] (zUd h9)<|oCl 0<|oB 0 h7 k))
  have k:=oB 0 h7 k
  obtain⟨h10,h⟩|⟨h10,h⟩:=zL h
  obtain⟨r11,h12,h⟩:=zB h
  obtain⟨r13,h14,h⟩:=zB h
  obtain⟨r15,h16,h⟩:=zB h
  cases h
  exact k39 (tF q39 1 [0,1,2,3] (oD (dT r15.sub)<|rF M<|oC 0 [] (c63 h16)<|oC 4 [0,1,2,3] (zUd h14)<|oC 1 [] (c62 h12)<|oB 0 h10 k))
  cases h
  exact k39 (tF q39 2 [0,1,2,3] (oD (dT r1.1.sub)<|rF M<|oB 0 h10 k))
  intro M fl fu q0_e p1 r h
  rw[e61]at h
  exact⟨tH ⟨func61,rfl⟩ 1 [(none,5,3)] [0,1,2,3] [0] [0,5,8,9,10] (oD (dT p1)<|oD (dT ([]:zQ))<|oD (dC M.parts)<|oD (dE M.rl)<|oD (dI M.own)<|oD (dI M.args)<|oD (dE M.l) o0) (zHj h),⟨(lz rfl),⟨tv,dT _⟩,tv⟩,(zC ⟨(lz rfl),(lz rfl),tv,tv⟩ (eH (lz rfl) (zC ⟨tv,tv,tv⟩ zA))),dT _,(zC ⟨(lz rfl),(lz rfl),tv,tv⟩ (iY (lz rfl) (zC ⟨tv,tv,tv⟩ zA)))⟩
  intro M p1 v10 v5 xC xP xX r h
  rw[lO]at h
  obtain⟨h1,h⟩|⟨h1,h⟩:=zL h
  obtain⟨x2,h3,h⟩:=zB h
  have k:=oA 0 (wN (o:=.no) h3)<|oB 0 h1 o0
  obtain⟨h4,h⟩|⟨h4,h⟩:=zL h
  cases h
  exact fun j=>lF 0 [0,1,2,3] (oD (dT ([]:zQ))<|rF M<|oB 3 h4 k)
  obtain⟨r5,h6,h⟩:=zB h
  obtain⟨l7,h8,h⟩:=zB h
  exact fun j=>lH 1 [] [0,1,2,3] [1] [0,5,8,9,10] (oD (dT p1)<|oD (dT l7)<|rF M<|oP 0 (sE h8 (by simp))<|oS 0 (xJ xM [r5.1])<|oC 1 [0,1,2,3] (zZx h6)<|oB 3 h4 k) (zHj h)
  cases h
  exact fun j=>lF 0 [0,1,2,3] (oD (dT v5)<|rF M<|oB 0 h1 o0)
theorem c39{qq M fl fu q0_e p1 r}(h:e39 qq M fl fu q0_e p1=some r):K39 M fl fu q0_e p1 r Ct:=(zBp _).1 h
def zNC(r:List Tm×Int×Int×Int):Int:=if r.1.length≤8192 then r.2.1 else 9
theorem zND{r:List Tm×Int×Int×Int}(h:zNC r=8):r.1.length≤8192∧r.2.1=8:=by
 unfold zNC at h
 split at h
 ·exact⟨by assumption,h⟩
 ·omega
def QN(l:List zU)(t:Tm)(R:Int->Int->Tm×Int×Int×Int)(k:Int):Prop:=∃x e,x.Ok∧e≠8∧(e=0->Nm l t x k)∧(e≠0->∀x k,¬Nm l t x k)∧R=fun L U=>(x,e,L,U)
def HN(l:List zU)(t:Tm)(f:Int):Prop:=Ou (fun L U q=>e39 q (yX l) L U 0 t) er4 (QN l t) (∀x k,Nm l t x k->f<k) f
def QNL(l:List zU)(ts:List Tm)(R:Int->Int->List Tm×Int×Int×Int)(k:Int):Prop:=∃xs e,vK xs∧xs.length≤ts.length∧e≠8∧(e=0->P0 l ts xs k)∧(e≠0->∀xs k,¬P0 l ts xs k)∧R=fun L U=>(xs,e,L,U)
theorem Br.e8{N:ByteArray->Bool}{l:List zU}(hE:xA N l){x y:Tm}{e k:Int}(h:Br l x y e k):zH x=true->e≠8:=by
 induction h with
 |stop _=>exact fun _=>by decide
 | @redE x Y e a h=>
  intro hs
  unfold wW at a
  split at a
  ·injection a with h1 h2
   rw[←h2];exact zHy _ _
  ·split at a
   ·injection a with h1 h2
    rw[←h2];decide
   ·split at a
    ·split at a<;>cases a
    ·split at a
     ·split at a<;>cases a
     ·cases a
 |redL _ _=>exact fun _=>by decide
 |red _ hY _ ih=>exact fun _=>ih hY
 |tgtE a _ _ ih=>exact fun hs=>ih (yW hs (iB hE hs a).1)
 |tgtN _ _ _ _=>exact fun _=>by decide
 | @tgtRE x a z Y e k ha hb hr he ih=>
  intro hs
  have hm:=(iB hE hs ha).1
  have hz:=hb.shaped (yW hs hm) rfl
  have hox:vK (yG x):=fun z hz=>zX (yW hs hz)
  have hoy:vK (yG z):=fun w hw=>zX (yW hz hw)
  have hlx:(yG x).length≤8192:=by
   have h:=zI hs
   have:=sB _ h.2.2
   omega
  have hly:(yG z).length≤8192:=by
   have h:=zI hz
   have:=sB _ h.2.2
   omega
  unfold uA at hr
  split at hr
  ·split at hr
   ·simp only[Option.some.injEq,Prod.mk.injEq]at hr
    rw[←hr.2]
    exact(mZ l (zN x).n ((yG z).drop (zK l (zN z).n).pars.toNat) hE (hoy.drop _) (by rw[List.length_drop];omega)).2.2.1
   ·cases hr
  ·split at hr
   ·simp only[Option.some.injEq,Prod.mk.injEq]at hr
    rw[←hr.2]
    exact(iA l (zN x).n (nth (zN x).sub 0).n (zN z).n ((yG x).take ((zK l (zN x).n).pars+1+(zK l (zN x).n).cons.length).toNat) ((yG z).drop (zK l (zN x).n).pars.toNat) hE (hox.take _) (hoy.drop _) (by rw[List.length_take];omega) (by rw[List.length_drop];omega)).2.2.1
   ·cases hr
 |tgtRL _ _ _ _ _=>exact fun _=>by decide
 |tgtR a b c hY _ ih ih2=>exact fun _=>ih2 hY
theorem Br.zero{l:List zU}{x y:Tm}{e k:Int}(h:Br l x y e k):e=0->k≤0->y=x:=by
 cases h with
 |stop _=>exact fun _ _=>rfl
 |redE _ h=>exact fun he=>absurd he h
 |redL _ _=>exact fun he=>absurd he (by decide)
 |red _ _ h=>exact fun _ hk=>by have:=h.nn;omega
 |tgtE _ _ h=>exact fun he=>absurd he h
 |tgtN _ _ _=>exact fun _ _=>rfl
 |tgtRE _ _ _ h=>exact fun he=>absurd he h
 |tgtRL _ _ _ _=>exact fun he=>absurd he (by decide)
 |tgtR _ h1 _ _ h2=>exact fun _ hk=>by have:=h1.nn;have:=h2.nn;omega
theorem Ou.evt0{ρ:Type}{f:Int->Int->Nat->Option ρ}{er:ρ->Int}{Q:(Int->Int->ρ)->Int->Prop}{S:Prop}{l:Int}{R:Int->Int->ρ}(h:∀L U,zG (f L U) (R L U))(h0:0≤l)(k:Q R 0):Ou f er Q S l:=
 .inl ⟨R,0,by omega,h0,k,fun L U _ _ _=>by rw[show L-0=L by omega,show U+0=U by omega];exact h L U,fun L U _ _=>by omega⟩
theorem zHi(l:List zU)(ts acc:List Tm)(v:Nat)(e:Int)(he:e≠0):∃xs,(xs=[]∨xs=acc)∧∀L U,zG (fun q=>lO q (yX l) ts (v:Int) acc e L U) (xs,e,L,U):=by
 cases hd:ts.drop v with
 |nil=>
  refine⟨acc,.inr rfl,fun L U=>zG.succ ?_⟩
  simp only[lO]
  exact zG.ifF (drop_nil hd) zG.ret
 |cons t r=>
  refine⟨[],.inl rfl,fun L U=>zG.succ ?_⟩
  simp only[lO]
  exact zG.ifT (yK hd) (zG.pure (yD hd) (zG.ifT (by simpa using he) zG.ret))
theorem zDB(l:List zU):∀(r ts acc:List Tm) (v:Nat) (f:Int),ts.drop v=r->v≤ts.length->ts.length≤8192->acc.length=v->vK acc->(∀t∈r,∀g,0≤g->g≤f->HN l t g)->0≤f ->
  Ou (fun L U q=>lO q (yX l) ts (v:Int) acc 0 L U) zNC (fun R k=>∃xs e,vK xs∧xs.length≤ts.length∧e≠8∧(e=0->∃ys,xs=acc++ys∧P0 l r ys k)∧(e≠0->∀xs k,¬P0 l r xs k)∧R=fun L U=>(xs,e,L,U)) (∀xs k,P0 l r xs k->f<k) f
 | [],ts,acc,v,f,hd,hv,hl,ha,ho,hb,hf=>by
  refine Ou.succ ?_
  simp only[lO]
  exact Ou.ifF (drop_nil hd) (Ou.ret hf ⟨acc,0,ho,by omega,by decide,fun _=>⟨[],by simp,P0.nil⟩,fun h=>absurd rfl h,rfl⟩)
 |t::r,ts,acc,v,f,hd,hv,hl,ha,ho,hb,hf=>by
  have hlt:=yY hd
  refine Ou.succ ?_
  simp only[lO]
  refine Ou.ifT (yK hd) (Ou.pure (yD hd) (Ou.ifF rfl (Ou.bind (hb t (by simp) f hf (Int.le_refl f)) (fun h xs k hn=>?_) (fun r5 hr=>?_) ?_)))
  ·obtain⟨x,xs',k1,k2,-,h1,h2,rfl⟩:=hn.cons_inv
   have:=h _ _ h1
   have:=h2.nn
   omega
  ·have hr':r5.2.1=8:=hr
   obtain⟨xs,hxs,hx⟩:=zHi l ts (acc++[r5.1]) (v+1) 8 (by decide)
   refine⟨(xs,8,r5.2.2.1,r5.2.2.2),zG.pure (xB (by simp;omega)) ?_,?_⟩
   ·rw[yE v (by omega),hr']
    exact hx _ _
   ·unfold zNC
    rw[if_pos]
    show xs.length≤8192
    rcases hxs with rfl|rfl
    ·simp
    ·simp;omega
  ·rintro R k k0 k1 ⟨x,e,hx,h8,h0,hn,rfl⟩
   dsimp only
   refine Ou.pure (xB (by simp;omega)) ?_
   rw[yE v (by omega)]
   by_cases e0:e=0
   ·subst e0
    have hN:=h0 rfl
    refine(zDB l r ts (acc++[x]) (v+1) (f-k) (zZ hd) (by omega) hl (by simp;omega) (ho.app (vK.one hx)) (fun t ht g g0 g1=>hb t (by simp[ht]) g g0 (by omega)) (by omega)).mono ?_ fun hs xs n hn=>?_
    ·rintro R n _ _ ⟨xs,e,h1,h2,h3,h4,h5,rfl⟩
     refine⟨xs,e,h1,h2,h3,fun he=>?_,fun he xs k hn=>?_,rfl⟩
     ·obtain⟨ys,h6,h7⟩:=h4 he
      exact⟨x::ys,by rw[h6];simp,P0.cons hN h7⟩
     ·obtain⟨x',xs',k1,k2,-,h6,h7,-⟩:=hn.cons_inv
      exact h5 he _ _ h7
    ·obtain⟨x',xs',k1,k2,-,h6,h7,rfl⟩:=hn.cons_inv
     obtain⟨-,rfl⟩:=hN.det h6
     have:=hs _ _ h7
     omega
   ·obtain⟨xs,hxs,hev⟩:=zHi l ts (acc++[x]) (v+1) e e0
    refine Ou.evt0 hev (by omega) ⟨xs,e,?_,?_,h8,fun h=>absurd h e0,fun _ xs k hn'=>?_,rfl⟩
    ·rcases hxs with rfl|rfl
     ·exact vK.nil
     ·exact ho.app (vK.one hx)
    ·rcases hxs with rfl|rfl
     ·simp
     ·simp;omega
    ·obtain⟨x',xs',k1,k2,-,h6,-,-⟩:=hn'.cons_inv
     exact hn e0 _ _ h6
theorem zRz(l:List zU)(ts:List Tm)(f:Int)(hl:ts.length≤8192)(hb:∀t∈ts,∀g,0≤g->g≤f->HN l t g)(hf:0≤f):Ou (fun L U q=>e61 q (yX l) L U 0 ts) zNC (QNL l ts) (∀xs k,P0 l ts xs k->f<k) f:=by
 refine Ou.succ ?_
 simp only[e61]
 refine(zDB l ts ts [] 0 f rfl (by omega) hl rfl vK.nil hb hf).mono ?_ id
 rintro R n _ _ ⟨xs,e,h1,h2,h3,h4,h5,rfl⟩
 exact⟨xs,e,h1,h2,h3,fun he=>by obtain⟨ys,h6,h7⟩:=h4 he;rw[h6];simpa using h7,h5,rfl⟩
theorem zNE{N:ByteArray->Bool}(l:List zU)(hE:xA N l)(he:∀e∈l,hJ e):∀(F n:Nat) (t:Tm),t.Ok->t.nodes≤n->HN l t (F:Int):=by
 intro F
 induction F using Nat.strongRecOn with
 |ind F IH=>
  intro n
  induction n with
  |zero=>intro t _ h;have:=uS t;omega
  |succ n ih=>
   intro t ht hn
   refine Ou.succ ?_
   simp only[e39]
   refine Ou.bind (J1 l hE he t ht F (by omega)) (fun h x k hN=>?_) (fun r hr=>⟨_,zG.ifT (by show (r.2.1 != 0)=true;rw[show r.2.1=8 from hr];decide) zG.ret,hr⟩) ?_
   ·obtain⟨y,k1,ps,k2,-,h1,h2,-,rfl⟩:=hN.inv
    have:=h.2 _ _ _ h1
    have:=h2.nn
    omega
   ·rintro R k k0 k1 (⟨hR,rfl,rfl⟩|⟨hR,y,e,hbr,rfl⟩)
    ·exact Ou.ifT rfl (Ou.ret (by omega) ⟨zT,5,j5,by decide,fun h=>absurd h (by decide),fun _ x k hN=>hR hN.right,rfl⟩)
    ·dsimp only
     by_cases e0:e=0
     ·subst e0
      have hRy:=hbr.right hE hR
      have hsy:=hRy.shaped
      have hgy:=(zI hsy).2.2
      rw[if_pos rfl]
      have hpb:∀p∈wI y,∀g,0≤g->g≤(F:Int)-k->HN l p g:=fun p hp g g0 g1=>by
       have hp':=lN hsy hp
       have hnp:p.nodes<y.nodes:=by
        unfold wI at hp
        split at hp
        ·have key:∀l:List Tm,∀x∈l,x.nodes≤yN l:=by
          intro l
          induction l with
          |nil=>intro x hx;cases hx
          |cons a l ih=>
           intro x hx
           rw[yN]
           rcases List.mem_cons.1 hx with rfl|hx
           ·omega
           ·have:=ih x hx;omega
         have:=key _ p hp
         have:=zAz y
         omega
        ·split at hp
         ·exact((mW y hgy).2.2.2.2 p hp).2.1
         ·cases hp
       by_cases hk:k≤0
       ·have:=hbr.zero rfl hk
        subst this
        by_cases hg:g=F
        ·subst hg
         exact ih p (zX hp') (by omega)
        ·have:=IH g.toNat (by omega) p.nodes p (zX hp') (Nat.le_refl _)
         rwa[show ((g.toNat:Nat):Int)=g by omega]at this
       ·have:=IH g.toNat (by omega) p.nodes p (zX hp') (Nat.le_refl _)
        rwa[show ((g.toNat:Nat):Int)=g by omega]at this
      have hlen:(wI y).length≤8192:=by
       unfold wI
       split
       ·rename_i h
        obtain⟨a,b,hab,-,-⟩:=tS hgy (by omega)
        rw[hab];simp
       ·split
        ·have:=sB y hgy;have:=(zI hsy).1;omega
        ·simp
      have hall:=zRz l (wI y) ((F:Int)-k) hlen hpb (by omega)
      have fin:∀(xs:List Tm) (k':Int),P0 l (wI y) xs k'->Nm l t (cA y xs) (k+k'):=fun xs k' h=>Nm.mk hR hbr h
      have sh:(∀xs k',P0 l (wI y) xs k'->(F:Int)-k<k')->∀x k,Nm l t x k->(F:Int)<k:=fun h x k' hN=>by
       obtain⟨y',k1',ps,k2,-,h1,h2,-,rfl⟩:=hN.inv
       obtain⟨rfl,-,rfl⟩:=hbr.det h1
       have:=h _ _ h2
       omega
      have no:∀e:Int,e≠0->(∀xs k',¬P0 l (wI y) xs k')->∀x k,¬Nm l t x k:=fun e _ h x k' hN=>by
       obtain⟨y',k1',ps,k2,-,h1,h2,-,-⟩:=hN.inv
       obtain⟨rfl,-,rfl⟩:=hbr.det h1
       exact h _ _ h2
      refine Ou.ifF rfl ?_
      have two:y.k=4∨y.k=3->Ou (fun L U q=>e61 q (yX l) L U 0 y.sub>>=fun r5=>some ((Tm.mk y.k 0 r5.1),r5.2.1,r5.2.2.1,r5.2.2.2)) er4 (fun R n=>QN l t R (k+n)) (∀x k,Nm l t x k->(F:Int)<k) ((F:Int)-k):=fun h34=>by
       have hp:wI y=y.sub:=by unfold wI;rw[if_pos (by omega)]
       rw[hp]at hall fin sh no
       refine Ou.bind hall sh (fun r hr=>⟨_,zG.ret,(zND hr).2⟩) ?_
       rintro R n n0 n1 ⟨xs,e,h1,h2,h3,h4,h5,rfl⟩
       refine Ou.ret (by omega) ⟨.mk y.k 0 xs,e,?_,h3,fun he=>?_,fun he=>no e he (h5 he),rfl⟩
       ·obtain⟨a,b,hab,-,-⟩:=tS hgy (by omega)
        rw[hab]at h2
        rw[Tm.Ok]
        refine⟨by simp at h2;omega,?_⟩
        have key:∀l:List Tm,vK l->mN l:=by
         intro l
         induction l with
         |nil=>intro _;rw[mN];trivial
         |cons a l ih=>intro h;rw[mN];exact⟨h a (by simp),ih fun x hx=>h x (by simp[hx])⟩
        exact key xs h1
       ·have:=fin xs n (h4 he)
        unfold cA at this
        rw[if_pos (by omega)]at this
        rwa[Int.add_zero]
      refine Ou.ite (fun h=>two (.inl (by simpa using h))) fun h4=>Ou.ite (fun h=>two (.inr (by simpa using h))) fun h3=>?_
      have h4':y.k≠4:=by simpa using h4
      have h3':y.k≠3:=by simpa using h3
      refine Ou.ite (fun h5=>?_) fun h5=>?_
      ·have h5':y.k=5:=by simpa using h5
       have hp:wI y=yG y:=by unfold wI;rw[if_neg (by omega),if_pos h5']
       rw[hp]at hall fin sh no
       refine Ou.evt (oI y hsy) (Ou.bind hall sh (fun r hr=>?_) ?_)
       ·have:=zND hr
        exact⟨_,zG.bind (a:=wJ (zN y) r.1) (rM (zN y) r.1 (by omega)) zG.ret,this.2⟩
       ·rintro R n n0 n1 ⟨xs,e,h1,h2,h3,h4,h5,rfl⟩
        dsimp only
        have hal:=sB y hgy
        have hny:=(zI hsy).1
        refine Ou.evt (rM (zN y) xs (by omega)) (Ou.ret (by omega) ⟨wJ (zN y) xs,e,pQ _ _ (zX (wG hsy)) h1,h3,fun he=>?_,fun he=>no e he (h5 he),rfl⟩)
        have:=fin xs n (h4 he)
        unfold cA at this
        rw[if_neg (by omega),if_pos h5']at this
        rwa[Int.add_zero]
      ·have h5':y.k≠5:=by simpa using h5
       have hp:wI y=[]:=by unfold wI;rw[if_neg (by omega),if_neg h5']
       refine Ou.ret (by omega) ⟨y,0,zX hsy,by decide,fun _=>?_,fun h=>absurd rfl h,rfl⟩
       have:=fin [] 0 (by rw[hp];exact P0.nil)
       unfold cA at this
       rwa[if_neg (by omega),if_neg h5']at this
     ·rw[if_neg e0]
      refine Ou.ifT (by simpa using e0) (Ou.ret (by omega) ⟨zT,e,j5,hbr.e8 hE hR.shaped,fun h=>absurd h e0,fun _ x k hN=>?_,rfl⟩)
      obtain⟨y',k1',ps,k2,-,h1,-,-,-⟩:=hN.inv
      exact e0 (hbr.det h1).2.1.symm
mutual
def zFF:Nat->zF->Int->Option Int
 |0,_,_=>none
 |qq+1,p0,p1=>
 iC qq p0 (xL (p1+1)) 0
def iC:Nat->zF->Int->Int->Option Int
 |0,_,_,_=>none
 |qq+1,p0,v1,v12=>
 if decide (v12<(p0.sub_.length:Int))then
 zR p0.sub_ v12>>=fun x2=>
 if decide (v1>8192)then
 some v1
 else
 zFF qq (zF.mk x2.kind_ x2.n_ x2.at_ x2.sub_ x2.t_) v1>>=fun r5=>
 iC qq p0 r5 (xL (v12+1))
 else
 some v1
end
abbrev zWV (p0:zF) (p1 r:Int) (C:Cf):Prop:=C 166 [] [vN p0,ai p1] (ai r) [] 0
theorem zDC:∀qq:Nat,(∀ {p0 p1 r},zFF qq p0 p1=some r->zWV p0 p1 r Ct)∧(∀ {p0 v1 v12 r},iC qq p0 v1 v12=some r->(∀j,dL 0 (pt 4021 f166) (sp j 23 0 [(1,ai v1),(10,zO zP p0.sub_ .no),(11,ai (p0.sub_.length:Int)),(12,ai v12)]) (⟨[],0,[],0,[]⟩) (fQ 0 (nQ 0 f166 (ai r) [] 0) [.blk 0,.seq (pt 63 f166)]))):=by
 intro qq
 induction qq with
 |zero=>
  exact⟨fun h=>nn h,fun h=>nn h⟩
 |succ qq ih=>
  obtain⟨zWW,zDD⟩:=ih
  refine⟨?_,?_⟩
  intro p0 p1 r h
  rw[zFF]at h
  exact⟨tH ⟨func166,rfl⟩ 3 [] [] [] [1,10,11,12] (oD (zS p0.sub_) o0) (zDD h),⟨⟨tv,tv,tv,⟨tv,zS _⟩,tv,tv,⟨tv,dT _⟩,tv⟩,tv,tv⟩,zA,tv,zA⟩
  intro p0 v1 v12 r h
  rw[iC]at h
  obtain⟨h1,h⟩|⟨h1,h⟩:=zL h
  obtain⟨x2,h3,h⟩:=zB h
  have k:=oA 0 (zAN (o:=.no) h3)<|oB 0 h1 o0
  obtain⟨h4,h⟩|⟨h4,h⟩:=zL h
  obtain rfl:=sj h
  exact fun j=>lF 0 [] (oB 2 h4 k)
  obtain⟨r5,h6,h⟩:=zB h
  exact fun j=>lH 1 [] [] [] [1,10,11,12] (oD (zS p0.sub_)<|oC 1 [] (zWW h6)<|oB 2 h4 k) (zDD h)
  obtain rfl:=sj h
  exact fun j=>lF 0 [] (oB 0 h1 o0)
theorem zZw{qq p0 p1 r}(h:zFF qq p0 p1=some r):zWV p0 p1 r Ct:=(zDC _).1 h
def zRy(qq:Nat)(p0:zF):Option Int:=
 zFF qq (zF.mk p0.kind_ p0.n_ p0.at_ p0.sub_ p0.t_) 0>>=fun r1=>
 some r1
theorem zZv{qq p0 r}(h:zRy qq p0=some r):Ct 136 [] [vN p0] (ai r) [] 0:=⟨by
 unfold zRy at h
 obtain⟨r1,h2,h⟩:=zB h
 obtain rfl:=sj h
 exact tF ⟨func136,rfl⟩ 0 [] (oC 1 [] (zZw h2) o0),⟨⟨tv,tv,tv,⟨tv,zS _⟩,tv,tv,⟨tv,dT _⟩,tv⟩,tv⟩,zA,tv,zA⟩
mutual
def zFG:Nat->zF->Int->Option Int
 |0,_,_=>none
 |qq+1,p0,p1=>
 if decide (p1>128)then
 some p1
 else
 iD qq p0 p1 0 p1
def iD:Nat->zF->Int->Int->Int->Option Int
 |0,_,_,_,_=>none
 |qq+1,p0,p1,v15,v5=>
 if decide (v15<(p0.sub_.length:Int))then
 zR p0.sub_ v15>>=fun x3=>
 zFG qq (zF.mk x3.kind_ x3.n_ x3.at_ x3.sub_ x3.t_) (xL (p1+1))>>=fun r5=>
 iD qq p0 p1 (xL (v15+1)) (kW v5 r5)
 else
 some v5
end
abbrev zRx (p0:zF) (p1 r:Int) (C:Cf):Prop:=C 137 [] [vN p0,ai p1] (ai r) [] 0
theorem zWX:Qf 137 f137:=⟨func137,rfl⟩
theorem zWY{p0 p1 r}(h:zRx p0 p1 r Ci):zRx p0 p1 r Ct:=⟨h,⟨⟨tv,tv,tv,⟨tv,zS _⟩,tv,tv,⟨tv,dT _⟩,tv⟩,tv,tv⟩,zA,tv,zA⟩
theorem zDE:∀qq:Nat,(∀ {p0 p1 r},zFG qq p0 p1=some r->zRx p0 p1 r Ct)∧(∀ {p0 p1 v15 v5 r},iD qq p0 p1 v15 v5=some r->(∀j,dL 0 (pt 16309 f137) (sp j 27 0 [(1,ai p1),(5,ai v5),(13,zO zP p0.sub_ .no),(14,ai (p0.sub_.length:Int)),(15,ai v15)]) (⟨[],0,[],0,[]⟩) (fQ 0 (nQ 0 f137 (ai r) [] 0) [.blk 0,.seq (pt 255 f137)]))):=by
 intro qq
 induction qq with
 |zero=>
  exact⟨fun h=>nn h,fun h=>nn h⟩
 |succ qq ih=>
  obtain⟨zWZ,zDF⟩:=ih
  refine⟨?_,?_⟩
  intro p0 p1 r h
  rw[zFG]at h
  obtain⟨h1,h⟩|⟨h1,h⟩:=zL h
  obtain rfl:=sj h
  exact zWY (tF zWX 0 [] (oB 0 h1 o0))
  exact zWY (tH zWX 2 [] [] [] [1,5,13,14,15] (oD (zS p0.sub_)<|oB 0 h1 o0) (zDF h))
  intro p0 p1 v15 v5 r h
  rw[iD]at h
  obtain⟨h2,h⟩|⟨h2,h⟩:=zL h
  obtain⟨x3,h4,h⟩:=zB h
  obtain⟨r5,h6,h⟩:=zB h
  exact fun j=>lH 2 [] [] [] [1,5,13,14,15] (oD (zS p0.sub_)<|oC 4 [] (zWZ h6)<|oA 0 (zAN (o:=.no) h4)<|oB 0 h2 o0) (zDF h)
  obtain rfl:=sj h
  exact fun j=>lF 0 [] (oB 0 h2 o0)
theorem zZu{qq p0 p1 r}(h:zFG qq p0 p1=some r):zRx p0 p1 r Ct:=(zDE _).1 h
def zJX(qq:Nat)(p0:zF):Option Bool:=
 zRy qq (zF.mk p0.kind_ p0.n_ p0.at_ p0.sub_ p0.t_)>>=fun r1=>
 if decide (r1≤8192)then
 zFG qq (zF.mk p0.kind_ p0.n_ p0.at_ p0.sub_ p0.t_) 1>>=fun r4=>
 some (decide (r4≤128))
 else
 some false
theorem zXz:Qf 108 f108:=⟨func108,rfl⟩
theorem zRw{qq p0 r}(h:zJX qq p0=some r):Ct 108 [] [vN p0] (ab r) [] 0:=⟨by
 unfold zJX at h
 obtain⟨r1,h2,h⟩:=zB h
 have k:=oC 1 [] (zZv h2) o0
 obtain⟨h3,h⟩|⟨h3,h⟩:=zL h
 obtain⟨r4,h5,h⟩:=zB h
 cases h
 exact tF zXz 1 [] (oC 1 [] (zZu h5)<|oB 0 h3 k)
 cases h
 exact tF zXz 0 [] (oB 0 h3 k),⟨⟨tv,tv,tv,⟨tv,zS _⟩,tv,tv,⟨tv,dT _⟩,tv⟩,tv⟩,zA,tv,zA⟩
def zFH(qq:Nat)(p0:Tm):Option Bool:=
 if p0.k==0 then
 if p0.n==0 then
 some ((p0.sub.length:Int)==0)
 else
 some false
 else
 some false
theorem zUc:Qf 138 f138:=⟨func138,rfl⟩
theorem zRv{qq p0 r}(h:zFH qq p0=some r):Ct 138 [] [xF p0] (ab r) [] 0:=⟨by
 unfold zFH at h
 obtain⟨h1,h⟩|⟨h1,h⟩:=zL h
 have k:=oB 1 h1 o0
 obtain⟨h2,h⟩|⟨h2,h⟩:=zL h
 cases h
 exact tF zUc 3 [] (oB 1 h2 k)
 cases h
 exact tF zUc 0 [] (oB 1 h2 k)
 cases h
 exact tF zUc 0 [] (oB 1 h1 o0),⟨⟨tv,tv,⟨tv,dT _⟩,tv⟩,tv⟩,zA,tv,zA⟩
def eQ:Nat->yU->Int->Int->Int->Int->zQ->Option Int
 |0,_,_,_,_,_,_=>none
 |qq+1,p0,p1,v5,yB,vO,xC=>
 if yB==3 then
 zR xC 1>>=fun x7=>
 eQ qq p0 p1 (xL (v5+1)) x7.k x7.n x7.sub
 else
 zR p0 p1>>=fun x9=>
 some (xL (v5-x9.pars))
def zNF(qq:Nat)(p0:yU)(p1:Int):Option Int:=
 if decide (p1<0)then
 some (-1)
 else
 if decide (p1≥(p0.length:Int))then
 some (-1)
 else
 zR p0 p1>>=fun x3=>
 if x3.kind != 2 then
 some (-1)
 else
 eQ qq p0 p1 0 x3.type.k x3.type.n x3.type.sub
theorem zRu:Qf 139 f139:=⟨func139,rfl⟩
theorem zRt:∀qq:Nat,(∀ {p0 p1 v5 yB vO xC r},eQ qq p0 p1 v5 yB vO xC=some r->(∀j,dL 0 (pt 16309 f139) (sp j 45 0 [(0,zO yZ p0 .no),(1,ai p1),(5,ai v5),(6,.mp 0 0)]) (⟨[(0,.cells [ai yB,ai vO,zO zD xC .no])],1,[],0,[]⟩) (fQ 0 (nQ 0 f139 (ai r) [] 0) [.blk 0,.seq (pt 255 f139)]))):=by
 intro qq
 induction qq with
 |zero=>
  exact fun h=>nn h
 |succ qq ih=>
  intro p0 p1 v5 yB vO xC r h
  rw[eQ]at h
  obtain⟨h6,h⟩|⟨h6,h⟩:=zL h
  obtain⟨x7,h8,h⟩:=zB h
  exact fun j=>lH 2 [] [1] [] [0,1,5,6] (oD (dE p0)<|oD (dT x7.sub)<|oA 4 (wN (o:=.no) h8)<|oB 1 h6 o0) (ih h)
  obtain⟨x9,h10,h⟩:=zB h
  cases h
  exact fun j=>lF 2 [] (oA 0 (wM (o:=.no) h10)<|oB 1 h6 o0)
theorem zZt{qq p0 p1 r}(h:zNF qq p0 p1=some r):Ct 139 [] [zO yZ p0 .no,ai p1] (ai r) [] 0:=⟨by
 unfold zNF at h
 obtain⟨h1,h⟩|⟨h1,h⟩:=zL h
 cases h
 exact tF zRu 0 [] (oB 0 h1 o0)
 have k:=oB 0 h1 o0
 obtain⟨h2,h⟩|⟨h2,h⟩:=zL h
 cases h
 exact tF zRu 0 [] (oB 1 h2 k)
 obtain⟨x3,h4,h⟩:=zB h
 have k:=oA 0 (wM (o:=.no) h4)<|oB 1 h2 k
 obtain⟨h5,h⟩|⟨h5,h⟩:=zL h
 cases h
 exact tF zRu 0 [] (oB 1 h5 k)
 exact tH zRu 2 [] [0] [] [0,1,5,6] (oD (dE p0)<|oD (dT x3.type.sub)<|oA 0 (wM (o:=.no) h4)<|oB 1 h5 k) (zRt _ h),⟨⟨tv,dE _⟩,tv,tv⟩,zA,tv,zA⟩
mutual
def D2:Nat->List zF->yU->Option Bool
 |0,_,_=>none
 |qq+1,p0,q1=>
 D3 qq p0 q1>>=fun r1=>
 some (decide (r1≥0))
def D3:Nat->List zF->yU->Option Int
 |0,_,_=>none
 |qq+1,p0,q1=>
 sW qq p0 q1 0
def sW:Nat->List zF->yU->Int->Option Int
 |0,_,_,_=>none
 |qq+1,p0,q1,v8=>
 if decide (v8<(p0.length:Int))then
 zR p0 v8>>=fun x2=>
 D4 qq (zF.mk x2.kind_ x2.n_ x2.at_ x2.sub_ x2.t_) q1>>=fun r4=>
 if r4 then
 some v8
 else
 sW qq p0 q1 (xL (v8+1))
 else
 some (-1)
def D4:Nat->zF->yU->Option Bool
 |0,_,_=>none
 |qq+1,p0,q1=>
 mJ qq q1 (zF.mk p0.kind_ p0.n_ p0.at_ p0.sub_ p0.t_)>>=fun r1=>
 some (!r1)
def mJ:Nat->yU->zF->Option Bool
 |0,_,_=>none
 |qq+1,p0,p1=>
 if p1.kind_==1 then
 if decide (p1.n_≥0)then
 if decide (p1.n_≤1048576)then
 if (p1.sub_.length:Int)==0 then
 zFH qq p1.t_>>=fun r5=>
 some r5
 else
 some false
 else
 some false
 else
 some false
 else
 if p1.kind_==3 then
 if p1.n_==0 then
 if (p1.sub_.length:Int)==0 then
 G3 qq p1.t_>>=fun r10=>
 some r10
 else
 some false
 else
 some false
 else
 if p1.kind_==4 then
 if p1.n_==0 then
 if (p1.sub_.length:Int)==0 then
 zFH qq p1.t_>>=fun r15=>
 some r15
 else
 some false
 else
 some false
 else
 if p1.kind_==2 then
 zNF qq p0 p1.n_>>=fun r18=>
 if r18 != (p1.sub_.length:Int)then
 some false
 else
 zFH qq p1.t_>>=fun r21=>
 if r21 then
 D2 qq p1.sub_ p0>>=fun r24=>
 some (!r24)
 else
 some false
 else
 some false
end
abbrev zNG (p0:List zF) (q1:yU) (r:Bool) (C:Cf):Prop:=C 140 [.cells [zO yZ q1 .no]] [zO zP p0 .no,.clo 141 [] [.mp 0 0]] (ab r) [.cells [zO yZ q1 .no]] 0
abbrev zNH (p0:List zF) (q1:yU) (r:Int) (C:Cf):Prop:=C 167 [.cells [zO yZ q1 .no]] [zO zP p0 .no,.clo 141 [] [.mp 0 0]] (ai r) [.cells [zO yZ q1 .no]] 0
abbrev zNI (p0:zF) (q1:yU) (r:Bool) (C:Cf):Prop:=C 141 [.cells [zO yZ q1 .no]] [vN p0,.mp 0 0] (ab r) [.cells [zO yZ q1 .no]] 0
abbrev D5 (p0:yU) (p1:zF) (r:Bool) (C:Cf):Prop:=C 109 [] [zO yZ p0 .no,vN p1] (ab r) [] 0
theorem uW:Qf 109 f109:=⟨func109,rfl⟩
theorem uX{p0 p1 r}(h:D5 p0 p1 r Ci):D5 p0 p1 r Ct:=⟨h,⟨⟨tv,dE _⟩,⟨tv,tv,tv,⟨tv,zS _⟩,tv,tv,⟨tv,dT _⟩,tv⟩,tv⟩,zA,tv,zA⟩
theorem tX:∀qq:Nat,(∀ {p0 q1 r},D2 qq p0 q1=some r->zNG p0 q1 r Ct)∧(∀ {p0 q1 r},D3 qq p0 q1=some r->zNH p0 q1 r Ct)∧(∀ {p0 q1 v8 r},sW qq p0 q1 v8=some r->(∀j,dL 1 (pt 949 f167) (sp j 19 0 [(0,zO zP p0 .no),(1,.clo 141 [] [.mp 0 0]),(7,ai (p0.length:Int)),(8,ai v8)]) (⟨[(0,.cells [zO yZ q1 .no])],1,[],0,[]⟩) (fQ 1 (nQ 1 f167 (ai r) [.cells [zO yZ q1 .no]] 0) [.blk 0,.seq (pt 15 f167)])))∧(∀ {p0 q1 r},D4 qq p0 q1=some r->zNI p0 q1 r Ct)∧(∀ {p0 p1 r},mJ qq p0 p1=some r->D5 p0 p1 r Ct):=by
 intro qq
 induction qq with
 |zero=>
  exact⟨fun h=>nn h,fun h=>nn h,fun h=>nn h,fun h=>nn h,fun h=>nn h⟩
 |succ qq ih=>
  obtain⟨zJY,zJZ,D6,zAy,zKz⟩:=ih
  refine⟨?_,?_,?_,?_,?_⟩
  intro p0 q1 r h
  rw[D2]at h
  obtain⟨r1,h2,h⟩:=zB h
  obtain rfl:=sj h
  exact⟨tF ⟨func140,rfl⟩ 1 [0] (oD (dE q1)<|oC 0 [0] (zJZ h2) o0),⟨⟨tv,zS _⟩,⟨tv,⟨(lz rfl),tv⟩⟩,tv⟩,(zC ⟨⟨tv,dE _⟩,tv⟩ zA),tv,(zC ⟨dE _,tv⟩ zA)⟩
  intro p0 q1 r h
  rw[D3]at h
  exact⟨tH ⟨func167,rfl⟩ 1 [] [0] [] [0,1,7,8] (oD (zS p0)<|oD (dE q1) o0) (D6 h),⟨⟨tv,zS _⟩,⟨tv,⟨(lz rfl),tv⟩⟩,tv⟩,(zC ⟨⟨tv,dE _⟩,tv⟩ zA),tv,(zC ⟨dE _,tv⟩ zA)⟩
  intro p0 q1 v8 r h
  rw[sW]at h
  obtain⟨h1,h⟩|⟨h1,h⟩:=zL h
  obtain⟨x2,h3,h⟩:=zB h
  obtain⟨r4,h5,h⟩:=zB h
  have k:=oA 0 (zAN (o:=.no) h3)<|oB 0 h1 o0
  obtain⟨h6,h⟩|⟨h6,h⟩:=zL h
  obtain rfl:=sj h
  exact fun j=>lF 0 [0] (oD (dE q1)<|oK 1 [0] h6 (zAy h5) k)
  exact fun j=>lH 1 [] [0] [] [0,1,7,8] (oD (zS p0)<|oD (dE q1)<|oK 1 [0] h6 (zAy h5) k) (D6 h)
  obtain rfl:=sj h
  exact fun j=>lF 0 [0] (oD (dE q1)<|oB 0 h1 o0)
  intro p0 q1 r h
  rw[D4]at h
  obtain⟨r1,h2,h⟩:=zB h
  obtain rfl:=sj h
  exact⟨tF ⟨func141,rfl⟩ 1 [0] (oD (dE q1)<|oC 2 [] (zKz h2) o0),⟨⟨tv,tv,tv,⟨tv,zS _⟩,tv,tv,⟨tv,dT _⟩,tv⟩,(lz rfl),tv⟩,(zC ⟨⟨tv,dE _⟩,tv⟩ zA),tv,(zC ⟨dE _,tv⟩ zA)⟩
  intro p0 p1 r h
  rw[mJ]at h
  obtain⟨h1,h⟩|⟨h1,h⟩:=zL h
  have k:=oB 1 h1 o0
  obtain⟨h2,h⟩|⟨h2,h⟩:=zL h
  have k:=oB 1 h2 k
  obtain⟨h3,h⟩|⟨h3,h⟩:=zL h
  have k:=oB 1 h3 k
  obtain⟨h4,h⟩|⟨h4,h⟩:=zL h
  obtain⟨r5,h6,h⟩:=zB h
  obtain rfl:=sj h
  exact uX (tF uW 0 [] (oC 1 [] (zRv h6)<|oB 2 h4 k))
  obtain rfl:=sj h
  exact uX (tF uW 0 [] (oB 2 h4 k))
  obtain rfl:=sj h
  exact uX (tF uW 0 [] (oB 1 h3 k))
  obtain rfl:=sj h
  exact uX (tF uW 0 [] (oB 1 h2 k))
  have k:=oB 1 h1 o0
  obtain⟨h7,h⟩|⟨h7,h⟩:=zL h
  have k:=oB 0 h7 k
  obtain⟨h8,h⟩|⟨h8,h⟩:=zL h
  have k:=oB 1 h8 k
  obtain⟨h9,h⟩|⟨h9,h⟩:=zL h
  obtain⟨r10,h11,h⟩:=zB h
  obtain rfl:=sj h
  exact uX (tF uW 0 [] (oC 1 [] (mO h11)<|oB 2 h9 k))
  obtain rfl:=sj h
  exact uX (tF uW 0 [] (oB 2 h9 k))
  obtain rfl:=sj h
  exact uX (tF uW 0 [] (oB 1 h8 k))
  have k:=oB 0 h7 k
  obtain⟨h12,h⟩|⟨h12,h⟩:=zL h
  have k:=oB 0 h12 k
  obtain⟨h13,h⟩|⟨h13,h⟩:=zL h
  have k:=oB 1 h13 k
  obtain⟨h14,h⟩|⟨h14,h⟩:=zL h
  obtain⟨r15,h16,h⟩:=zB h
  obtain rfl:=sj h
  exact uX (tF uW 0 [] (oC 1 [] (zRv h16)<|oB 2 h14 k))
  obtain rfl:=sj h
  exact uX (tF uW 0 [] (oB 2 h14 k))
  obtain rfl:=sj h
  exact uX (tF uW 0 [] (oB 1 h13 k))
  have k:=oB 0 h12 k
  obtain⟨h17,h⟩|⟨h17,h⟩:=zL h
  obtain⟨r18,h19,h⟩:=zB h
  have k:=oCl 0<|oC 2 [] (zZt h19)<|oB 0 h17 k
  obtain⟨h20,h⟩|⟨h20,h⟩:=zL h
  obtain rfl:=sj h
  exact uX (tF uW 0 [] (oB 1 h20 k))
  obtain⟨r21,h22,h⟩:=zB h
  have k:=oB 1 h20 k
  obtain⟨h23,h⟩|⟨h23,h⟩:=zL h
  obtain⟨r24,h25,h⟩:=zB h
  obtain rfl:=sj h
  exact uX (tF uW 1 [] (oC 2 [0] (zJY h25)<|oK 1 [] h23 (zRv h22) k))
  obtain rfl:=sj h
  exact uX (tF uW 1 [] (oK 1 [] h23 (zRv h22) k))
  obtain rfl:=sj h
  exact uX (tF uW 0 [] (oB 0 h17 k))
theorem zNJ{qq p0 p1 r}(h:mJ qq p0 p1=some r):D5 p0 p1 r Ct:=(tX _).2.2.2.2 h
mutual
def e73:Nat->List zF->Option yV
 |0,_=>none
 |qq+1,p0=>
 fN qq p0 [] 0
def fN:Nat->List zF->yV->Int->Option yV
 |0,_,_,_=>none
 |qq+1,p0,v3,v8=>
 if decide (v8<(p0.length:Int))then
 zR p0 v8>>=fun x2=>
 zJX qq (zF.mk x2.kind_ x2.n_ x2.at_ x2.sub_ x2.t_)>>=fun r4=>
 if r4 then
 zNK qq (zF.mk x2.kind_ x2.n_ x2.at_ x2.sub_ x2.t_)>>=fun r7=>
 xQ 8 v3 r7>>=fun l9=>
 fN qq p0 l9 (xL (v8+1))
 else
 fN qq p0 v3 (xL (v8+1))
 else
 some v3
def zNK:Nat->zF->Option yV
 |0,_=>none
 |qq+1,p0=>
 if p0.kind_==1 then
 some [p0.n_]
 else
 e73 qq p0.sub_>>=fun r2=>
 some r2
end
abbrev K73 (p0:List zF) (r:yV) (C:Cf):Prop:=C 73 [] [zO zP p0 .no] (zO yH r (.st 0 1)) [] 1
abbrev zUb (p0:zF) (r:yV) (C:Cf):Prop:=C 110 [] [vN p0] (.sl (flat yH r) r.length .no) [] 0
theorem zXy:Qf 110 f110:=⟨func110,rfl⟩
theorem zXx{p0 r}(h:zUb p0 r Ci):zUb p0 r Ct:=⟨h,⟨⟨tv,tv,tv,⟨tv,zS _⟩,tv,tv,⟨tv,dT _⟩,tv⟩,tv⟩,zA,dI _,zA⟩
theorem u6:∀qq:Nat,(∀ {p0 r},e73 qq p0=some r->K73 p0 r Ct)∧(∀ {p0 v3 v8 r},fN qq p0 v3 v8=some r->(∀j,dL 0 (pt 4021 f73) (sp j 20 0 [(3,zO yH v3 (.st 0 1)),(6,zO zP p0 .no),(7,ai (p0.length:Int)),(8,ai v8)]) (⟨[],0,[0],1,[]⟩) (fQ 0 (nQ 0 f73 (zO yH r (.st 0 1)) [] 1) [.blk 0,.seq (pt 63 f73)])))∧(∀ {p0 r},zNK qq p0=some r->zUb p0 r Ct):=by
 intro qq
 induction qq with
 |zero=>
  exact⟨fun h=>nn h,fun h=>nn h,fun h=>nn h⟩
 |succ qq ih=>
  obtain⟨zZs,P1,zXw⟩:=ih
  refine⟨?_,?_,?_⟩
  intro p0 r h
  rw[e73]at h
  exact⟨tH ⟨func73,rfl⟩ 1 [(none,3,1)] [] [0] [3,6,7,8] (oD (zS p0)<|oD (dI ([]:yV)) o0) (P1 h),⟨⟨tv,zS _⟩,tv⟩,zA,dI _,zA⟩
  intro p0 v3 v8 r h
  rw[fN]at h
  obtain⟨h1,h⟩|⟨h1,h⟩:=zL h
  obtain⟨x2,h3,h⟩:=zB h
  obtain⟨r4,h5,h⟩:=zB h
  have k:=oA 0 (zAN (o:=.no) h3)<|oB 0 h1 o0
  obtain⟨h6,h⟩|⟨h6,h⟩:=zL h
  obtain⟨r7,h8,h⟩:=zB h
  obtain⟨l9,h10,h⟩:=zB h
  have k:=oC 1 [] (zXw h8)<|oK 3 [] h6 (zRw h5) k
  by_cases h11:List.length r7=0
  exact fun j=>lH 1 [] [] [0] [3,6,7,8] (oD (zS p0)<|oD (dI l9)<|oP 0 (zGB h10 h11) k) (P1 h)
  exact fun j=>lH 1 [] [] [1] [3,6,7,8] (oD (zS p0)<|oD (dI l9)<|oP 0 (kB h10 h11) k) (P1 h)
  exact fun j=>lH 1 [] [] [0] [3,6,7,8] (oD (zS p0)<|oD (dI v3)<|oK 3 [] h6 (zRw h5) k) (P1 h)
  obtain rfl:=sj h
  exact fun j=>lG 0 [] [] [0] true (oD (dI v3)<|oB 0 h1 o0)
  intro p0 r h
  rw[zNK]at h
  obtain⟨h1,h⟩|⟨h1,h⟩:=zL h
  obtain rfl:=sj h
  exact zXx (tF zXy 2 [] (oD (dI [p0.n_])<|oB 1 h1 o0))
  obtain⟨r2,h3,h⟩:=zB h
  obtain rfl:=sj h
  exact zXx (tF zXy 0 [] (oD (dI r2)<|oC 1 [] (zZs h3)<|oB 1 h1 o0))
theorem c73{qq p0 r}(h:e73 qq p0=some r):K73 p0 r Ct:=(u6 _).1 h
def e71(qq:Nat)(p0:List zF):Option Bool:=
 (e73 qq p0)>>=fun l=>
 if decide (List.length l<4611686018427387904)=true then(e44 qq (xS l))>>=fun m=>some ((List.length (vM m):Int)==(List.length (xS l):Int))else none
theorem zZr{qq:Nat}{p0:yV}{r:yV}(h:e44 qq p0=some r):CT prog 44 [] [.sl (flat yH p0) p0.length .no] (.sl (flat yH r) r.length (.st 0 1)) [] 1:=by
 have hr:r=p0:=by have:=(qE h).2;simpa using this
 subst hr
 by_cases h1:List.length r=0
 ·have hp:r=[]:=List.length_eq_zero_iff.1 h1
  subst hp
  exact CT.stampNil (zSp (qq:=qq) (p0:=[]) (r:=.inl ()) rfl)
 ·exact CT.freezeS (zSp (qq:=qq) (p0:=r) (r:=.inr r) (by unfold zMj;rw[if_neg (by simpa using h1),show xQ 8 ([]:yV) r=some r from h];rfl)) (dI _) (tQ kX.len _)
section
open Go.RowKit Go.Sort Go.Proofs
theorem V.blind{G G':Gh}{w w':World}{es:List AV}{n:Nat}{o:qA}{u:Value}(h:V G w (.sl es n o) u):V G' w' (.sl [] n .no) u:=by
 simp only[V]at h ⊢
 obtain⟨cap,h1,⟨h2,h3,h4,h5,_⟩|⟨b,off,h2,_,_⟩⟩:=h
 ·exact⟨cap,h1,.inl ⟨trivial,h3,h4,h5,trivial⟩⟩
 ·exact⟨cap,h1,.inr ⟨b,off,h2,by simp only[VC],trivial⟩⟩
theorem zHh{G:Gh}{w:World}{s:yT}{k:Nat}{l:yV}{u:Value}(hR:yA G (yJ (wY 0) s) w)(ho:s.own.any (Nat.beq k)=true)(hu:V G w (.sl (flat yH l) l.length (.st k 1)) u) :
  (l=[]∧∃p cap,u = .slice p 0 cap)∨∃b off cap,u = .slice (some ⟨b,off,none⟩) l.length cap∧l.length≤cap∧Holds (Value.int .i64) w b off l.toArray∧b<w.heap.size∧¬G.F b∧(∀i,G.ρ i≠some b)∧∀u',V G w (.sl (flat yH l) l.length (.st k 1)) u'->u' = .slice (some ⟨b,off,none⟩) l.length cap:=by
 have hu0:=hu
 simp only[V]at hu
 obtain⟨cap,hcap,⟨he,hn,hc0,hu',_⟩|⟨b,off,rfl,hC,hq,hO⟩⟩:=hu
 ·exact .inl ⟨List.length_eq_zero_iff.1 hn,_,_,hu'⟩
 ·rcases hO with⟨hn,hc⟩|⟨hm,hF,hτ⟩
  ·exact .inl ⟨List.length_eq_zero_iff.1 hn,_,_,by rw[hn]⟩
  ·by_cases hl:l=[]
   ·exact .inl ⟨hl,_,cap,by rw[hl];rfl⟩
   right
   obtain⟨b',f,t,q1,q2⟩:=hR.own k (by rw[tP];exact ho)
   rw[hτ]at q1
   cases q1
   have hpos:0<l.length:=List.length_pos_iff.2 hl
   rcases q2 with q2|⟨_,q3,_,vs,T,q5,q6⟩
   ·omega
   obtain⟨us,h1,h2⟩:=VC.cells _ _ _ hC
   have hus:=VL.ints_eq l us h1
   subst hus
   have hH:Holds (Value.int .i64) w b off l.toArray:=by
    intro j hj
    have hj':j<l.length:=by simpa using hj
    refine⟨?_,by simp[World.frozen?,q5]⟩
    rw[h2 j (by simpa using hj')]
    simp[hj']
   refine⟨b,off,cap,rfl,hcap,hH,(Array.getElem?_eq_some_iff.1 q5).1,hF,q3,fun u' hu'=>?_⟩
   simp only[V]at hu'
   obtain⟨cap',_,⟨_,hn,_⟩|⟨b2,off2,rfl,_,_,hO2⟩⟩:=hu'
   ·omega
   ·rcases hO2 with⟨hn,_⟩|⟨hm2,_,hτ2⟩
    ·omega
    ·rw[hτ,hm]at hτ2
     simp only[Option.some.injEq,Prod.mk.injEq]at hτ2
     obtain⟨rfl,h5,h6⟩:=hτ2
     obtain rfl:off2=off:=by omega
     obtain rfl:cap'=cap:=by omega
     rfl
theorem J3(l:yV):(xS l).length=l.length:=(mC l).length_eq
theorem zKy{G:Gh}{w:World}{s:yT}{k:Nat}{l:yV}{u:Value}(hR:yA G (yJ (wY 0) s) w)(ho:s.own.any (Nat.beq k)=true)(hsz:l.length<4611686018427387904)(hu:V G w (.sl (flat yH l) l.length (.st k 1)) u) :
  Calls prog 106 #[u] w fun e w'=>∃(v:Value) (b:Nat) (S:Nat->Nat->Prop),e = .returned v∧¬G.F b∧(∀i,G.ρ i≠some b)∧wZ (fun c=>c<w.heap.size∧c≠b) w w' ∧
   (∀c o,S c o->c=b∧∃x,w'.cell? ⟨c,o,none⟩=some x)∧∀G',(∀c o,S c o->G'.L c o)->V G' w' (.val (.tuple #[])) v∧∀u',V G w (.sl (flat yH l) l.length (.st k 1)) u'->V G' w' (.sl (flat yH (xS l)) (xS l).length .no) u':=by
 rcases zHh hR ho hu with⟨rfl,p,cap,rfl⟩|⟨b,off,cap,rfl,hcap,hH,hb,hF,hρ,huniq⟩
 ·refine Calls.mono (AnyM.slices_Sort_int_none Tryz.sortI p cap w) ?_
  rintro e w' ⟨rfl,rfl⟩
  exact⟨_,w'.heap.size,fun _ _=>False,rfl,fun h=>Nat.lt_irrefl _ (hR.base _ h),fun i hi=>Nat.lt_irrefl _ (hR.ρ_lt hi),wZ.refl _ _,fun _ _ h=>h.elim,fun G' _=>⟨by simp only[V],fun u' h=>V.blind h⟩⟩
 ·refine Calls.mono (o8 (cap:=cap) hH hb hsz) ?_
  rintro e w' ⟨rfl,n,os,rfl⟩
  have hl:(l.mergeSort fun x y=>decide (x≤y)).length=l.length:=List.length_mergeSort _
  have hH1:Holds (Value.int .i64) (Sort.grow (putRow (Value.int .i64) (Sort.ahead w n) b off (l.mergeSort fun x y=>decide (x≤y)).toArray) os) b off (l.mergeSort fun x y=>decide (x≤y)).toArray:=
   holds_grow _ _ _ _ _ _ (by simpa using hb) (holds_putRow _ _ _ _ l.toArray _ hH (by simp[hl]))
  rw[iR]at hH1 ⊢
  have hil:=J3 l
  have hcell:∀i (h:i<(xS l).length),(Sort.grow (putRow (Value.int .i64) (Sort.ahead w n) b off (xS l).toArray) os).cell? ⟨b,off+i,none⟩=some (.int .i64 (xS l)[i]):=fun i h=>by
   have:=(hH1 i (by simpa using h)).1
   rw[this];simp[h]
  refine⟨_,b,fun c o=>c=b∧off≤o∧o<off+(xS l).length,rfl,hF,hρ,wZ.trans (wZ.putRow _ w n b off _) ((wZ.grow _ os b).mono fun k hk=>⟨by simpa using hk.1,hk.2⟩),?_,fun G' hS=>⟨by simp only[V],fun u' h=>?_⟩⟩
  ·rintro c o ⟨rfl,h1,h2⟩
   exact⟨rfl,.int .i64 ((xS l)[o-off]'(by omega)),by have:=hcell (o-off) (by omega);rwa[show off+(o-off)=o by omega]at this⟩
  ·rw[huniq u' h]
   simp only[V]
   refine⟨cap,by omega,.inr ⟨b,off,by rw[hil],VC.of_cells _ _ b off (VL.ints (xS l)) (fun i hi=>hS _ _ ⟨rfl,by omega,?_⟩) (fun i hi=>?_),trivial⟩⟩
   ·have:i<(xS l).length:=by simpa using hi
    omega
   ·rw[hcell i (by simpa using hi)];simp
theorem zBo{w:World}{p:Option Addr}{cap:Nat}{G:Gh}(hV:V G w (.sl [] 0 .no) (.slice p 0 cap)) :
  Calls prog 107 #[.slice p 0 cap] w fun e w'=>∃v,e = .returned v∧(wZ (fun c=>c<w.heap.size) w w'∧∀G',V G' w' (.sl [] 0 .no) v):=by
 refine(zRU (atW w) w #[.slice p 0 cap] (zCi w) (zGe w) ?_).mono ?_
 ·simp only[VL];exact⟨V.none hV,trivial⟩
 ·rintro e w2 ⟨v,G',s',rfl,hE,hR,hv,_⟩
  refine⟨v,rfl,?_,fun G'=>V.none hv⟩
  have:=hR.below
  rw[hE.F,hE.w0]at this
  exact this
theorem zBn{G:Gh}{w:World}{s:yT}{k:Nat}{l:yV}{u:Value}(hR:yA G (yJ (wY 0) s) w)(ho:s.own.any (Nat.beq k)=true)(hsz:l.length<4611686018427387904)(hu:V G w (.sl (flat yH l) l.length (.st k 1)) u) :
  Calls prog 107 #[u] w fun e w'=>∃(v:Value) (b:Nat) (S:Nat->Nat->Prop),e = .returned v∧¬G.F b∧(∀i,G.ρ i≠some b)∧wZ (fun c=>c<w.heap.size∧c≠b) w w' ∧
   (∀c o,S c o->c=b∧∃x,w'.cell? ⟨c,o,none⟩=some x)∧∀G',(∀c o,S c o->G'.L c o)->V G' w' (.sl (flat yH (vM l)) (vM l).length .no) v:=by
 rcases zHh hR ho hu with⟨rfl,p,cap,rfl⟩|⟨b,off,cap,rfl,hcap,hH,hb,hF,hρ,huniq⟩
 ·refine(zBo (G:=G) (V.blind hu)).mono ?_
  rintro e w' ⟨v,rfl,hK,hv⟩
  exact⟨v,w.heap.size,fun _ _=>False,rfl,fun h=>Nat.lt_irrefl _ (hR.base _ h),fun i hi=>Nat.lt_irrefl _ (hR.ρ_lt hi),hK.mono fun k hk=>hk.1,fun _ _ h=>h.elim,fun G' _=>hv G'⟩
 ·have hc:=aZ (cap:=cap) hH hsz hcap
  have e1:Go.Lib.compactUpTo l.toArray l.toArray.size=vM l:=by have:=jB l l.length (Nat.le_refl _);rw[List.take_length]at this;simpa using this
  rw[e1]at hc
  have hcl:=S8 l
  refine hc.mono ?_
  rintro e w' ⟨rfl,q,rfl⟩
  have hcell:∀i (h:i<(vM l).length),(putRow (Value.int .i64) (Sort.ahead w q) b off (vM l++List.replicate (l.toArray.size-(vM l).length) 0).toArray).cell? ⟨b,off+i,none⟩=some (.int .i64 (vM l)[i]):=fun i h=>by
   rw[cell?_putRow (Value.int .i64) _ b off l.toArray _ (holds_ahead _ _ _ _ _ _ hH) (by simp;omega) i (by simp;omega)]
   simp[List.getElem?_append_left h,h]
  refine⟨_,b,fun c o=>c=b∧off≤o∧o<off+(vM l).length,rfl,hF,hρ,(wZ.putRow _ w q b off _),?_,fun G' hS=>?_⟩
  ·rintro c o ⟨rfl,h1,h2⟩
   exact⟨rfl,.int .i64 ((vM l)[o-off]'(by omega)),by have:=hcell (o-off) (by omega);rwa[show off+(o-off)=o by omega]at this⟩
  ·simp only[V]
   refine⟨cap,Nat.le_trans hcl hcap,.inr ⟨b,off,rfl,VC.of_cells _ _ b off (VL.ints (vM l)) (fun i hi=>hS _ _ ⟨rfl,by omega,?_⟩) (fun i hi=>?_),trivial⟩⟩
   ·have:i<(vM l).length:=by simpa using hi
    omega
   ·rw[hcell i (by simpa using hi)];simp
end
theorem c71{qq:Nat}{p0:List zF}{r:Bool}(h:e71 qq p0=some r):CT prog 71 [] [zO zP p0 .no] (ab r) [] 0:=by
 unfold e71 at h
 obtain⟨l,h2,h⟩:=zB h
 rcases H9 (decide (List.length l<4611686018427387904))with h6|h6
 ·replace h:=ifT h6 h
  obtain⟨m,h5,h⟩:=zB h
  replace h:=Option.some.inj h
  subst h
  have hsz:List.length l<4611686018427387904:=by simpa using h6
  have hm:m=xS l:=by have:=(qE h5).2;simpa using this
  have hsm:List.length m<4611686018427387904:=by rw[hm,J3];exact hsz
  refine⟨?_,⟨⟨tv,zS _⟩,tv⟩,zA,tv,zA⟩
  have k0:knd (wT f71)=1:=by kernel_rfl
  have k1:knd (yO (wT f71))=1:=by kernel_rfl
  have k2:knd (yO (yO (wT f71)))=1:=by kernel_rfl
  have k3:gY (sD (yO (yO (wT f71))))=true:=by kernel_rfl
  have k4:S5 (xN (sD (yO (yO (wT f71)))))[1]? = some (some 7,106,#[.tmp 6]):=by kernel_rfl
  have k5:(f106.name == "runtime.NumGoroutine")=false:=by kernel_rfl
  have k6:f106.body.isNone=false:=by kernel_rfl
  have k7:knd (yO (yO (yO (wT f71))))=1:=by kernel_rfl
  have k8:gY (sD (yO (yO (yO (wT f71)))))=true:=by kernel_rfl
  have k9:S5 (xN (sD (yO (yO (yO (wT f71))))))[2]? = some (some 10,107,#[.tmp 9]):=by kernel_rfl
  have k10:(f107.name == "runtime.NumGoroutine")=false:=by kernel_rfl
  have k11:f107.body.isNone=false:=by kernel_rfl
  have x1:qH prog sO 3000 (.run (sD (wT f71))) [] ([zO zP p0 .no]++List.replicate (f71.ntmps-1) (.val undef)) (H2 []) []=some (.fin .normal,[zO zP p0 .no,.val undef,ab false,.val undef,.val undef,.val undef,.val undef,.val undef,.val undef,.val undef,.val undef,.val undef,.val undef,.val undef,.val undef],⟨[],0,[],0,[]⟩,[],[]):=by kernel_rfl
  have x2:qH prog sO 3000 (.run (sD (yO (wT f71)))) [] [zO zP p0 .no,.val undef,ab false,.val undef,.val undef,.val undef,.val undef,.val undef,.val undef,.val undef,.val undef,.val undef,.val undef,.val undef,.val undef] ⟨[],0,[],0,[]⟩ [.call [] [] 1 (.sl (flat yH l) l.length (.st 0 1)) none]=some (.fin .normal,[zO zP p0 .no,.val undef,ab false,.sl (flat yH l) l.length (.st 0 1),zO zP p0 .no,.sl (flat yH l) l.length (.st 0 1),.val undef,.val undef,.val undef,.val undef,.val undef,.val undef,.val undef,.val undef,.val undef],⟨[],0,[0],1,[]⟩,[],[.call 73 [] [zO zP p0 .no] (.sl (flat yH l) l.length (.st 0 1)) [] 1]):=by kernel_rfl
  have x3:(lW prog sO (xN (sD (yO (yO (wT f71))))) ((xN (sD (yO (yO (wT f71))))).toList.take 1) 0 [zO zP p0 .no,.val undef,ab false,.sl (flat yH l) l.length (.st 0 1),zO zP p0 .no,.sl (flat yH l) l.length (.st 0 1),.val undef,.val undef,.val undef,.val undef,.val undef,.val undef,.val undef,.val undef,.val undef] ⟨[],0,[0],1,[]⟩ []).map Prod.snd=some ([zO zP p0 .no,.val undef,ab false,.sl (flat yH l) l.length (.st 0 1),zO zP p0 .no,.sl (flat yH l) l.length (.st 0 1),.sl (flat yH l) l.length (.st 0 1),.val undef,.val undef,.val undef,.val undef,.val undef,.val undef,.val undef,.val undef],⟨[],0,[0],1,[]⟩,[],[]):=by kernel_rfl
  have x4:∀j:Nat->Value,(lW prog sO (xN (sD (yO (yO (wT f71))))) ((xN (sD (yO (yO (wT f71))))).toList.drop 2) 2 (eset (tells [(3,.sl (flat yH (xS l)) (xS l).length .no)] (mutEnv [] j [zO zP p0 .no,.val undef,ab false,.sl (flat yH l) l.length (.st 0 1),zO zP p0 .no,.sl (flat yH l) l.length (.st 0 1),.sl (flat yH l) l.length (.st 0 1),.val undef,.val undef,.val undef,.val undef,.val undef,.val undef,.val undef,.val undef] 0)) (some 7) (.val (.tuple #[]))) (qM [] ⟨[],0,[0],1,[]⟩) []).map Prod.snd=some ([.val (j 0),.val undef,ab false,.sl (flat yH (xS l)) (xS l).length .no,.val (j 4),.val (j 5),.val (j 6),.val (.tuple #[]),.val undef,.val undef,.val undef,.val undef,.val undef,.val undef,.val undef],⟨[],0,[],0,[]⟩,[],[]):=fun j=>by kernel_rfl
  have x5:∀j:Nat->Value,(lW prog sO (xN (sD (yO (yO (yO (wT f71)))))) ((xN (sD (yO (yO (yO (wT f71)))))).toList.take 2) 0 [.val (j 0),.val undef,ab false,.sl (flat yH (xS l)) (xS l).length .no,.val (j 4),.val (j 5),.val (j 6),.val (.tuple #[]),.val undef,.val undef,.val undef,.val undef,.val undef,.val undef,.val undef] ⟨[],0,[],0,[]⟩ [.call [] [] 1 (.sl (flat yH m) m.length (.st 0 1)) none]).map Prod.snd=some ([.val (j 0),.val undef,ab false,.sl (flat yH (xS l)) (xS l).length .no,.val (j 4),.val (j 5),.val (j 6),.val (.tuple #[]),.sl (flat yH (xS l)) (xS l).length .no,.sl (flat yH m) m.length (.st 0 1),.val undef,.val undef,.val undef,.val undef,.val undef],⟨[],0,[0],1,[]⟩,[],[.call 44 [] [.sl (flat yH (xS l)) (xS l).length .no] (.sl (flat yH m) m.length (.st 0 1)) [] 1]):=fun j=>by kernel_rfl
  have x6:∀j i:Nat->Value,(lW prog sO (xN (sD (yO (yO (yO (wT f71)))))) ((xN (sD (yO (yO (yO (wT f71)))))).toList.drop 3) 3 (eset (tells [(3,.sl [] (xS l).length .no)] (mutEnv [] i [.val (j 0),.val undef,ab false,.sl (flat yH (xS l)) (xS l).length .no,.val (j 4),.val (j 5),.val (j 6),.val (.tuple #[]),.sl (flat yH (xS l)) (xS l).length .no,.sl (flat yH m) m.length (.st 0 1),.val undef,.val undef,.val undef,.val undef,.val undef] 0)) (some 10) (.sl (flat yH (vM m)) (vM m).length .no)) (qM [] ⟨[],0,[0],1,[]⟩) [.no,.no,.no]).map Prod.snd=some ([.val (j 0),.val undef,ab ((List.length (vM m):Int)==(List.length (xS l):Int)),.sl [] (xS l).length .no,.val (j 4),.val (j 5),.val (j 6),.val (.tuple #[]),.val (i 8),.val (i 9),.sl (flat yH (vM m)) (vM m).length .no,ai (vM m).length,.sl [] (xS l).length .no,ai (xS l).length,ab ((List.length (vM m):Int)==(List.length (xS l):Int))],⟨[],0,[],0,[]⟩,[],[]):=fun j i=>by kernel_rfl
  have x7:∀j i:Nat->Value,dA prog sO 0 f71 3000 (.run (yO (yO (yO (yO (wT f71)))))) [] [.val (j 0),.val undef,ab ((List.length (vM m):Int)==(List.length (xS l):Int)),.sl [] (xS l).length .no,.val (j 4),.val (j 5),.val (j 6),.val (.tuple #[]),.val (i 8),.val (i 9),.sl (flat yH (vM m)) (vM m).length .no,ai (vM m).length,.sl [] (xS l).length .no,ai (xS l).length,ab ((List.length (vM m):Int)==(List.length (xS l):Int))] ⟨[],0,[],0,[]⟩ [] [] [] [] false=some (ab ((List.length (vM m):Int)==(List.length (xS l):Int)),[],[]):=fun j i=>by kernel_rfl
  refine uH.body func71 (by kernel_rfl) ?_
  refine Dv.seqP k0 ?_
  refine pU (Q:=_) xW mixed 3000 (.run (sD (wT f71))) [] _ _ _ _ _ _ _ _ x1 zW.nil ?_
  refine Dv.seqP k1 ?_
  refine pU (Q:=_) xW mixed 3000 (.run (sD (yO (wT f71)))) [] _ _ _ _ _ _ _ _ x2 (zW.cons (gX (c73 h2)) zW.nil) ?_
  refine Dv.seqP k2 ?_
  obtain⟨id,z7⟩:=zIX k3
  rw[z7]
  refine Dv.mut xW (na:=(0:Nat)) rfl 1 [] [(3,.sl (flat yH (xS l)) (xS l).length .no)] (.val (.tuple #[])) x3 zW.nil k4 func106 k5 k6 (fun i X h=>by cases h) ?_ x4 zW.nil ?_
  ·intro G0 W hB G w hE hR u hu
   refine(zKy hR (by rfl) hsz hu).mono ?_
   rintro e w' ⟨v,b,S,z1,z2,z3,z4,z5,z6⟩
   refine⟨v,b,S,z1,z2,z3,z4,z5,fun G' _ _ hS=>⟨(z6 G' hS).1,fun q hq u' hu'=>?_⟩⟩
   simp only[List.mem_singleton]at hq
   subst hq
   exact(z6 G' hS).2 u' hu'
  intro j
  refine Dv.seqP k7 ?_
  obtain⟨id2,z8⟩:=zIX k8
  rw[z8]
  refine Dv.mut xW (na:=(0:Nat)) rfl 2 [] [(3,.sl [] (xS l).length .no)] (.sl (flat yH (vM m)) (vM m).length .no) (x5 j) (zW.cons (gX (zZr h5)) zW.nil) k9 func107 k10 k11 (fun i X h=>by cases h) ?_ (x6 j) zW.nil ?_
  ·intro G0 W hB G w hE hR u hu
   refine(zBn hR (by rfl) hsm hu).mono ?_
   rintro e w' ⟨v,b,S,z1,z2,z3,z4,z5,z6⟩
   refine⟨v,b,S,z1,z2,z3,z4,z5,fun G' _ _ hS=>⟨z6 G' hS,fun q hq u' hu'=>?_⟩⟩
   simp only[List.mem_singleton]at hq
   subst hq
   exact V.blind hu'
  intro i
  exact kV (na:=(0:Nat)) xW mixed (x7 j i) zW.nil (by decide)
 ·replace h:=ifF h6 h
  cases h
theorem pR(p:zF):zF.mk p.kind_ p.n_ p.at_ p.sub_ p.t_=p:=by cases p;rfl
mutual
def iE:zF->Prop
 | .mk _ _ _ sub t=>sub.length≤17592186044416∧lP sub∧t.Ok
def lP:List zF->Prop
 | []=>True
 |p::ps=>iE p∧lP ps
end
theorem zBm:∀ {l:List zF},(∀k∈l,iE k)->lP l
 | [],_=>trivial
 |k::l,h=>by rw[lP];exact⟨h k (by simp),zBm fun x hx=>h x (by simp[hx])⟩
theorem zHg:∀ {l:List zF},lP l->∀k∈l,iE k
 | [],_,_,h=>nomatch h
 |k::l,h,x,hx=>by
  rw[lP]at h
  rcases List.mem_cons.1 hx with rfl|hx
  ·exact h.1
  ·exact zHg h.2 x hx
def okC(c:zJ):Prop:=c.pats_.length≤17592186044416∧lP c.pats_∧c.body_.Ok
mutual
def ndP:zF->Nat
 | .mk _ _ _ sub _=>1+tE sub
def tE:List zF->Nat
 | []=>0
 |p::ps=>ndP p+tE ps
end
theorem zHf(p:zF):ndP p=1+tE p.sub_:=by cases p;rw[ndP];rfl
theorem zDG:∀ {l:List zF} {p:zF},p∈l->ndP p≤tE l
 | [],_,h=>nomatch h
 |x::l,p,h=>by
  rw[tE]
  rcases List.mem_cons.1 h with rfl|h
  ·omega
  ·have:=zDG h;omega
theorem X0:∀l:List zF,l.length≤tE l
 | []=>by simp
 |x::l=>by rw[tE,zHf];have:=X0 l;simp;omega
mutual
theorem zHe:∀(p:zF) (n:Int),iE p->zM (fun q=>zFF q p n) fun _=>True
 | .mk k n0 a sub t,n,ho=>by
  rw[iE]at ho
  refine zM.succ ?_
  simp only[zFF]
  exact zDH sub (.mk k n0 a sub t) _ 0 rfl ho.2.1 ho.1
theorem zDH:∀(r:List zF) (p:zF) (n:Int) (v:Nat),p.sub_.drop v=r->lP r->p.sub_.length≤17592186044416->zM (fun q=>iC q p n (v:Int)) fun _=>True
 | [],p,n,v,hd,ho,hl=>by
  refine zM.succ ?_
  simp only[iC]
  refine zM.ite (fun h=>?_) fun _=>zM.ret trivial
  rw[drop_nil hd]at h;cases h
 |x::r,p,n,v,hd,ho,hl=>by
  have hlt:=yY hd
  rw[lP]at ho
  refine zM.succ ?_
  simp only[iC,pR]
  refine zM.ite (fun _=>zM.pure (yD hd) (zM.ite (fun _=>zM.ret trivial) fun _=>(zHe x n ho.1).bind fun y _=>?_)) fun h=>?_
  ·rw[yE v (by omega)]
   exact zDH r p y (v+1) (zZ hd) ho.2 hl
  ·rw[yK hd]at h;cases h
end
mutual
theorem zHd:∀(p:zF) (n:Int),iE p->zM (fun q=>zFG q p n) fun _=>True
 | .mk k n0 a sub t,n,ho=>by
  rw[iE]at ho
  refine zM.succ ?_
  simp only[zFG]
  exact zM.ite (fun _=>zM.ret trivial) fun _=>zDI sub (.mk k n0 a sub t) _ _ 0 rfl ho.2.1 ho.1
theorem zDI:∀(r:List zF) (p:zF) (n m:Int) (v:Nat),p.sub_.drop v=r->lP r->p.sub_.length≤17592186044416->zM (fun q=>iD q p n (v:Int) m) fun _=>True
 | [],p,n,m,v,hd,ho,hl=>by
  refine zM.succ ?_
  simp only[iD]
  refine zM.ite (fun h=>?_) fun _=>zM.ret trivial
  rw[drop_nil hd]at h;cases h
 |x::r,p,n,m,v,hd,ho,hl=>by
  have hlt:=yY hd
  rw[lP]at ho
  refine zM.succ ?_
  simp only[iD,pR]
  refine zM.ite (fun _=>zM.pure (yD hd) ((zHd x _ ho.1).bind fun y _=>?_)) fun h=>?_
  ·rw[yE v (by omega)]
   exact zDI r p n _ (v+1) (zZ hd) ho.2 hl
  ·rw[yK hd]at h;cases h
end
theorem X1(p:zF)(ho:iE p):zM (fun q=>zJX q p) fun _=>True:=by
 simp only[zJX,zRy,pR]
 exact zM.bind (P:=fun _=>True) ((zHe p 0 ho).bind fun _ _=>zM.ret trivial) fun _ _=>zM.ite (fun _=>(zHd p 1 ho).bind fun _ _=>zM.ret trivial) fun _=>zM.ret trivial
mutual
theorem zKx:∀(p:zF),iE p->ndP p≤100000->zM (fun q=>zNK q p) fun r=>r.length≤ndP p
 | .mk k n0 a sub t,ho,hn=>by
  rw[iE]at ho
  rw[ndP]at hn ⊢
  refine zM.succ ?_
  simp only[zNK]
  refine zM.ite (fun _=>zM.ret (by simp)) fun _=>zM.bind (P:=fun r=>r.length≤tE sub) ?_ fun r hr=>zM.ret (by omega)
  refine zM.succ ?_
  simp only[e73]
  exact(iF sub sub 0 [] rfl ho.2.1 (by simp;omega) ho.1).mono fun r hr=>by simpa using hr
theorem iF:∀(r l:List zF) (v:Nat) (acc:List Int),l.drop v=r->lP r->acc.length+tE r≤100000->l.length≤17592186044416->zM (fun q=>fN q l acc (v:Int)) fun o=>o.length≤acc.length+tE r
 | [],l,v,acc,hd,ho,hn,hl=>by
  refine zM.succ ?_
  simp only[fN]
  refine zM.ite (fun h=>?_) fun _=>zM.ret (by omega)
  rw[drop_nil hd]at h;cases h
 |x::r,l,v,acc,hd,ho,hn,hl=>by
  have hlt:=yY hd
  rw[lP]at ho
  rw[tE]at hn ⊢
  refine zM.succ ?_
  simp only[fN,pR]
  refine zM.ite (fun _=>zM.pure (yD hd) ((X1 x ho.1).bind fun _ _=>zM.ite (fun _=>(zKx x ho.1 (by omega)).bind fun y hy=>zM.pure (xB (by omega)) ?_) fun _=>?_)) fun h=>?_
  ·rw[yE v (by omega)]
   exact(iF r l (v+1) _ (zZ hd) ho.2 (by simp;omega) hl).mono fun o h=>by simp at h;omega
  ·rw[yE v (by omega)]
   exact(iF r l (v+1) _ (zZ hd) ho.2 (by omega) hl).mono fun o h=>by omega
  ·rw[yK hd]at h;cases h
end
theorem zAx(l:List zF)(ho:lP l)(hn:tE l≤100000):zM (fun q=>e73 q l) fun r=>r.length≤tE l:=by
 have:=X0 l
 refine zM.succ ?_
 simp only[e73]
 exact(iF l l 0 [] rfl ho (by simp;omega) (by omega)).mono fun r hr=>by simpa using hr
theorem zDJ(l:List zF)(ho:lP l)(hn:tE l≤100000):zM (fun q=>e71 q l) fun _=>True:=by
 simp only[e71]
 refine(zAx l ho hn).bind fun r hr=>zM.ite (fun _=>?_) fun h=>?_
 ·refine zM.bind (P:=fun _=>True) ?_ fun _ _=>zM.ret trivial
  have hi:=J3 r
  exact zM.mono (P:=fun _=>True) ⟨_,zG.mk fun _=>xB (by simp;omega),trivial⟩ fun _ h=>h
 ·have:=of_decide_eq_false h
  omega
def zKw(l:List zU)(n:Int):Int:=if 0≤n∧n<l.length∧(zK l n).kind=2 then vZ (zK l n).type-(zK l n).pars else -1
theorem zKv(l:List zU)(n:Int)(h0:0≤n)(h1:n<l.length)(tot:Int)(ht:tot≤8192)(hp:0≤(zK l n).pars∧(zK l n).pars≤24) :
  ∀(m:Nat) (t:Tm) (v:Int),t.nodes≤m->xG t=true->0≤v->v+vZ t=tot->zG (fun q=>eQ q l n v t.k t.n t.sub) (tot-(zK l n).pars):=by
 intro m
 induction m with
 |zero=>intro t v h;have:=uS t;omega
 |succ m ih=>
  intro t v hm hg hv0 hv
  refine zG.succ ?_
  simp only[eQ]
  by_cases k:t.k=3
  ·obtain⟨x,y,e,hx,hy⟩:=jL hg k
   rw[e]at hv hm ⊢
   rw[C0]at hv
   refine zG.ifT (by simp[Tm.k]) (zG.pure (a:=y) (by simp[zR,Tm.sub]) ?_)
   rw[yM (x:=v+1) (by omega) (by omega)]
   refine ih y (v+1) ?_ hy (by omega) (by omega)
   rw[Tm.nodes,yN,yN,yN]at hm
   have:=uS x
   omega
  ·rw[zAU k]at hv
   refine zG.ifF (by simp[k]) (zG.pure (yP h0 h1) (zG.ret.eq ?_))
   rw[yM (by omega) (by omega)];omega
theorem zNL{N:ByteArray->Bool}{l:List zU}(hE:xA N l)(n:Int):zG (fun q=>zNF q l n) (zKw l n):=by
 simp only[zNF]
 unfold zKw
 by_cases h0:0≤n
 ·by_cases h1:n<l.length
  ·by_cases hk:(zK l n).kind=2
   ·rw[if_pos ⟨h0,h1,hk⟩]
    have hs:=yQ (hE.2 n h0 h1)
    have hsh:=(zI (sL hs.1))
    have hp:vZ (zK l n).type≤8192:=Nat.le_trans (g7 _ hsh.2.2) hsh.1
    obtain⟨A,y,-,-,-,a3,a4,a5,a6,-⟩:=vB hE h0 h1 hk
    refine zG.ifF (decide_eq_false (by omega)) (zG.ifF (decide_eq_false (by omega)) (zG.pure (yP h0 h1) (zG.ifF (by simp[hk]) ?_)))
    exact zKv l n h0 h1 (vZ (zK l n).type) (by omega) ⟨a5,by omega⟩ _ _ 0 (Nat.le_refl _) hsh.2.2 (by omega) (by omega)
   ·rw[if_neg fun h=>hk h.2.2]
    exact zG.ifF (decide_eq_false (by omega)) (zG.ifF (decide_eq_false (by omega)) (zG.pure (yP h0 h1) (zG.ifT (by simp[hk]) zG.ret)))
  ·rw[if_neg fun h=>h1 h.2.1]
   exact zG.ifF (decide_eq_false (by omega)) (zG.ifT (decide_eq_true (by omega)) zG.ret)
 ·rw[if_neg fun h=>h0 h.1]
  exact zG.ifT (decide_eq_true (by omega)) zG.ret
mutual
def GP(l:List zU):zF->Prop
 | .mk k n _ sub _=>(k≠1->k≠3->k≠4->k=2∧zKw l n=sub.length)∧GPs l sub
def GPs(l:List zU):List zF->Prop
 | []=>True
 |p::ps=>GP l p∧GPs l ps
end
theorem zNM{l:List zU}:∀ {ps:List zF},GPs l ps->∀k∈ps,GP l k
 | [],_,_,h=>nomatch h
 |k::ps,h,x,hx=>by
  rw[GPs]at h
  rcases List.mem_cons.1 hx with rfl|hx
  ·exact h.1
  ·exact zNM h.2 x hx
theorem zHc(l:List zU):GPs l []:=by rw[GPs];trivial
theorem J4(t:Tm):zM (fun q=>zFH q t) fun _=>True:=by
 simp only[zFH]
 exact zM.ite (fun _=>zM.ite (fun _=>zM.ret trivial) fun _=>zM.ret trivial) fun _=>zM.ret trivial
section
variable {N:ByteArray->Bool} {l:List zU} (hE:xA N l)
include hE
mutual
theorem zDK:∀(p:zF),iE p->zM (fun q=>mJ q l p) fun b=>b=true->GP l p
 | .mk k n a sub t,ho=>by
  rw[iE]at ho
  have no:∀b:Bool,b=false->(b=true->GP l (.mk k n a sub t)):=fun b h h'=>by rw[h]at h';cases h'
  have leaf:sub.length=0->(k=1∨k=3∨k=4)->GP l (.mk k n a sub t):=fun h hk=>by
   have:sub=[]:=List.length_eq_zero_iff.1 h
   subst this
   rw[GP];exact⟨fun a b c=>by omega,zHc l⟩
  refine zM.succ ?_
  simp only[mJ]
  refine zM.ite (fun h1=>zM.ite (fun _=>zM.ite (fun _=>zM.ite (fun hs=>?_) fun _=>zM.ret (no _ rfl)) fun _=>zM.ret (no _ rfl)) fun _=>zM.ret (no _ rfl)) fun h1=>zM.ite (fun h3=>zM.ite (fun _=>zM.ite (fun hs=>?_) fun _=>zM.ret (no _ rfl)) fun _=>zM.ret (no _ rfl)) fun h3=>zM.ite (fun h4=>zM.ite (fun _=>zM.ite (fun hs=>?_) fun _=>zM.ret (no _ rfl)) fun _=>zM.ret (no _ rfl)) fun h4=>zM.ite (fun h2=>?_) fun _=>zM.ret (no _ rfl)
  ·have e:sub.length=0:=by have:(sub.length:Int)=0:=(by simpa[zF.sub_]using hs);omega
   exact(J4 t).bind fun _ _=>zM.ret fun _=>leaf e (.inl (by simpa[zF.kind_]using h1))
  ·have e:sub.length=0:=by have:(sub.length:Int)=0:=(by simpa[zF.sub_]using hs);omega
   exact zM.bind (P:=fun _=>True) ((xR t ho.2.2).tot trivial) fun _ _=>zM.ret fun _=>leaf e (.inr (.inl (by simpa[zF.kind_]using h3)))
  ·have e:sub.length=0:=by have:(sub.length:Int)=0:=(by simpa[zF.sub_]using hs);omega
   exact(J4 t).bind fun _ _=>zM.ret fun _=>leaf e (.inr (.inr (by simpa[zF.kind_]using h4)))
  ·refine zM.bind (P:=fun r=>r=zKw l n) ((zNL hE n).tot rfl) fun r hr=>zM.ite (fun _=>zM.ret (no _ rfl)) fun hn=>(J4 t).bind fun _ _=>zM.ite (fun _=>?_) fun _=>zM.ret (no _ rfl)
   have hn':r=(sub.length:Int):=by simpa[zF.sub_]using hn
   refine zM.bind (P:=fun b=>b=false->GPs l sub) ?_ fun b hb=>zM.ret fun h=>?_
   ·refine zM.succ ?_
    simp only[D2]
    refine zM.bind (P:=fun i:Int=>i<0->GPs l sub) ?_ fun i hi=>zM.ret fun h=>hi (by have:=of_decide_eq_false h;omega)
    refine zM.succ ?_
    simp only[D3]
    exact zAw sub sub 0 rfl ho.2.1 ho.1
   ·rw[GP]
    exact⟨fun _ _ _=>⟨by simpa[zF.kind_]using h2,by rw[←hr,hn']⟩,hb (by simpa using h)⟩
theorem zAw:∀(r ps:List zF) (v:Nat),ps.drop v=r->lP r->ps.length≤17592186044416->zM (fun q=>sW q ps l (v:Int)) fun i=>i<0->GPs l r
 | [],ps,v,hd,ho,hl=>by
  refine zM.succ ?_
  simp only[sW]
  refine zM.ite (fun h=>?_) fun _=>zM.ret fun _=>zHc l
  rw[drop_nil hd]at h;cases h
 |x::r,ps,v,hd,ho,hl=>by
  have hlt:=yY hd
  rw[lP]at ho
  refine zM.succ ?_
  simp only[sW,pR]
  refine zM.ite (fun _=>zM.pure (yD hd) (zM.bind (P:=fun b=>b=false->GP l x) ?_ fun b hb=>zM.ite (fun _=>zM.ret fun h=>by omega) fun hf=>?_)) fun h=>?_
  ·refine zM.succ ?_
   simp only[D4,pR]
   exact(zDK x ho.1).bind fun b hb=>zM.ret fun h=>hb (by simpa using h)
  ·rw[yE v (by omega)]
   exact(zAw r ps (v+1) (zZ hd) ho.2 hl).mono fun i hi h=>by rw[GPs];exact⟨hb hf,hi h⟩
  ·rw[yK hd]at h;cases h
end
end
end Go.Proofs.YtbpkpdnneffccaaGreat
namespace Go.Proofs.YtbpkpdnneffccaaGreat
open Go Go.Ab Go.RowKit Go.Proofs Go.Proofs.Tryz
theorem zXu{α:Type}(l:List α)(h:l.length=7):∃c0 c1 c2 c3 c4 c5 c6,l=[c0,c1,c2,c3,c4,c5,c6]:=by
 rcases l with _|⟨c0,_|⟨c1,_|⟨c2,_|⟨c3,_|⟨c4,_|⟨c5,_|⟨c6,_|⟨zz,zs⟩⟩⟩⟩⟩⟩⟩⟩<;>simp only[List.length_nil,List.length_cons]at h<;>first|exact⟨c0,c1,c2,c3,c4,c5,c6,rfl⟩|omega
theorem zSe{α:Type}(l:List α)(h:l.length=5):∃c0 c1 c2 c3 c4,l=[c0,c1,c2,c3,c4]:=by
 rcases l with _|⟨c0,_|⟨c1,_|⟨c2,_|⟨c3,_|⟨c4,_|⟨zz,zs⟩⟩⟩⟩⟩⟩<;>simp only[List.length_nil,List.length_cons]at h<;>first|exact⟨c0,c1,c2,c3,c4,rfl⟩|omega
theorem X2{H:Type}{enc:TypeId×Value->H}{W:World}:∀fuel:Nat,∀(cs:List Value) (x:DataW H×List MemPlace),DataW.trod enc prog W 0 (fun _=>true) true fuel 59 cs=some x->Wt prog 59 x.1->∃e:zF,VL (L7 W) W (zP e) cs∧iE e:=by
 intro fuel
 induction fuel using Nat.strongRecOn with
 |ind fuel ih=>
  intro cs x h hw
  obtain⟨xs,n,hn,hx,hlen,hxs,hf⟩:=DataW.trod_struct Tryz.underlying59 h
  rw[hx]at hw
  have cc:prog.cellsOf 59=7:=by kernel_rfl
  obtain⟨c0,c1,c2,c3,c4,c5,c6,rfl⟩:=zXu cs (hlen.trans cc)
  obtain⟨y0,y1,y2,y3,y4,rfl⟩:=zSe xs hxs
  have k3:prog.cellsOf 3=1:=by kernel_rfl
  have k31:prog.cellsOf 31=3:=by kernel_rfl
  have k48:prog.cellsOf 48=1:=by kernel_rfl
  have f0:DataW.trod enc prog W 0 (fun _=>true) true n 3 ((List.drop 0 [c0,c1,c2,c3,c4,c5,c6]).take (prog.cellsOf 3))=some y0:=hf 0 _ rfl
  rw[k3]at f0
  replace f0:DataW.trod enc prog W 0 (fun _=>true) true n 3 [c0]=some y0:=f0
  have w0:Wt prog 3 y0.1:=rL Tryz.underlying59 hw (i:=0) rfl rfl
  have f1:DataW.trod enc prog W 0 (fun _=>true) true n 3 ((List.drop 1 [c0,c1,c2,c3,c4,c5,c6]).take (prog.cellsOf 3))=some y1:=hf 1 _ rfl
  rw[k3]at f1
  replace f1:DataW.trod enc prog W 0 (fun _=>true) true n 3 [c1]=some y1:=f1
  have w1:Wt prog 3 y1.1:=rL Tryz.underlying59 hw (i:=1) rfl rfl
  have f2:DataW.trod enc prog W 0 (fun _=>true) true n 3 ((List.drop 2 [c0,c1,c2,c3,c4,c5,c6]).take (prog.cellsOf 3))=some y2:=hf 2 _ rfl
  rw[k3]at f2
  replace f2:DataW.trod enc prog W 0 (fun _=>true) true n 3 [c2]=some y2:=f2
  have w2:Wt prog 3 y2.1:=rL Tryz.underlying59 hw (i:=2) rfl rfl
  have f3:DataW.trod enc prog W 0 (fun _=>true) true n 48 ((List.drop 3 [c0,c1,c2,c3,c4,c5,c6]).take (prog.cellsOf 48))=some y3:=hf 3 _ rfl
  rw[k48]at f3
  replace f3:DataW.trod enc prog W 0 (fun _=>true) true n 48 [c3]=some y3:=f3
  have w3:Wt prog 48 y3.1:=rL Tryz.underlying59 hw (i:=3) rfl rfl
  have f4:DataW.trod enc prog W 0 (fun _=>true) true n 31 ((List.drop 4 [c0,c1,c2,c3,c4,c5,c6]).take (prog.cellsOf 31))=some y4:=hf 4 _ rfl
  rw[k31]at f4
  replace f4:DataW.trod enc prog W 0 (fun _=>true) true n 31 [c4,c5,c6]=some y4:=f4
  have w4:Wt prog 31 y4.1:=rL Tryz.underlying59 hw (i:=4) rfl rfl
  obtain⟨n0,e0,-,-⟩:=DataW.trod_int Tryz.underlying3 f0
  cases e0
  obtain⟨n1,e1,-,-⟩:=DataW.trod_int Tryz.underlying3 f1
  cases e1
  obtain⟨n2,e2,-,-⟩:=DataW.trod_int Tryz.underlying3 f2
  cases e2
  obtain⟨l3,v3,o3,b3⟩:=kC zP 7 rR.len (by omega) (Q:=iE) Tryz.underlying48 (by kernel_rfl) (fun m hm cs x h hw=>(ih m (by omega)) cs x h hw) (n:=n) f3 w3
  have b3:l3.length≤17592186044416:=by
   have hb:prog.bytesOf 59=88:=by kernel_rfl
   rw[hb]at b3
   have:reachBytes=140737488351232:=rfl
   omega
  rw[←pP]at v3
  obtain⟨l4,v4,o4⟩:=A8 n _ _ f4
  simp only[gW,VL]at v4
  refine⟨zF.mk n0 n1 n2 l3 l4,?_,by rw[iE];exact⟨b3,zBm o3,o4⟩⟩
  rw[zP]
  simp only[VL]
  exact⟨by simp only[V],by simp only[V],by simp only[V],v3,v4.1,v4.2.1,v4.2.2.1,trivial⟩
theorem zXt{α:Type}(l:List α)(h:l.length=3):∃c0 c1 c2,l=[c0,c1,c2]:=by
 rcases l with _|⟨c0,_|⟨c1,_|⟨c2,_|⟨zz,zs⟩⟩⟩⟩<;>simp only[List.length_nil,List.length_cons]at h<;>first|exact⟨c0,c1,c2,rfl⟩|omega
theorem J5{H:Type}{enc:TypeId×Value->H}{W:World}(fuel:Nat):∀(cs:List Value) (x:DataW H×List MemPlace),DataW.trod enc prog W 0 (fun _=>true) true fuel 50 cs=some x->Wt prog 50 x.1->∃e:zJ,VL (L7 W) W (zY e) cs∧okC e:=by
 intro cs x h hw
 obtain⟨xs,n,hn,hx,hlen,hxs,hf⟩:=DataW.trod_struct Tryz.underlying50 h
 rw[hx]at hw
 have cc:prog.cellsOf 50=5:=by kernel_rfl
 obtain⟨c0,c1,c2,c3,c4,rfl⟩:=zSe cs (hlen.trans cc)
 obtain⟨y0,y1,y2,rfl⟩:=zXt xs hxs
 have k4:prog.cellsOf 4=1:=by kernel_rfl
 have k31:prog.cellsOf 31=3:=by kernel_rfl
 have k48:prog.cellsOf 48=1:=by kernel_rfl
 have f0:DataW.trod enc prog W 0 (fun _=>true) true n 48 ((List.drop 0 [c0,c1,c2,c3,c4]).take (prog.cellsOf 48))=some y0:=hf 0 _ rfl
 rw[k48]at f0
 replace f0:DataW.trod enc prog W 0 (fun _=>true) true n 48 [c0]=some y0:=f0
 have w0:Wt prog 48 y0.1:=rL Tryz.underlying50 hw (i:=0) rfl rfl
 have f1:DataW.trod enc prog W 0 (fun _=>true) true n 4 ((List.drop 1 [c0,c1,c2,c3,c4]).take (prog.cellsOf 4))=some y1:=hf 1 _ rfl
 rw[k4]at f1
 replace f1:DataW.trod enc prog W 0 (fun _=>true) true n 4 [c1]=some y1:=f1
 have w1:Wt prog 4 y1.1:=rL Tryz.underlying50 hw (i:=1) rfl rfl
 have f2:DataW.trod enc prog W 0 (fun _=>true) true n 31 ((List.drop 2 [c0,c1,c2,c3,c4]).take (prog.cellsOf 31))=some y2:=hf 2 _ rfl
 rw[k31]at f2
 replace f2:DataW.trod enc prog W 0 (fun _=>true) true n 31 [c2,c3,c4]=some y2:=f2
 have w2:Wt prog 31 y2.1:=rL Tryz.underlying50 hw (i:=2) rfl rfl
 obtain⟨l0,v0,o0,b0⟩:=kC zP 7 rR.len (by omega) (Q:=iE) Tryz.underlying48 (by kernel_rfl) (fun m _ cs x h hw=>X2 m cs x h hw) (n:=n) f0 w0
 have b0:l0.length≤17592186044416:=by
  have hb:prog.bytesOf 59=88:=by kernel_rfl
  rw[hb]at b0
  have:reachBytes=140737488351232:=rfl
  omega
 obtain⟨n1,e1,-⟩:=DataW.trod_bool Tryz.underlying4 f1
 cases e1
 obtain⟨l2,v2,o2⟩:=A8 n _ _ f2
 simp only[gW,VL]at v2
 refine⟨zJ.mk l0 n1 l2,?_,⟨b0,zBm o0,o2⟩⟩
 simp only[zY]
 simp only[VL]
 exact⟨v0,by simp only[V],v2.1,v2.2.1,v2.2.2.1,trivial⟩
theorem zFJ{H:Type}{enc:TypeId×Value->H}{W:World}{v:Value}{d:DataW H}{p:List MemPlace}(hv:∃(q:Option Addr) (m c:Nat),v = .slice q m c)(h:DataW.Trod enc prog W 0 (fun _=>true) true 23 v d p)(hw:Wt prog 23 d):∃l:List zJ,V (L7 W) W (.sl (flat zY l) l.length .no) v∧(∀e∈l,okC e)∧l.length≤17592186044416:=by
 obtain⟨q,m,c,rfl⟩:=hv
 obtain⟨fuel,hf⟩:=h
 obtain⟨l,h1,h2,h3⟩:=kC zY 5 qN.len (by omega) (Q:=okC) Tryz.underlying23 (by kernel_rfl) (fun m _ cs x h hw=>J5 m cs x h hw) (n:=fuel) (by simpa[Value.cells]using hf) hw
 refine⟨l,h1,h2,?_⟩
 have:prog.bytesOf 50=72:=by kernel_rfl
 rw[this]at h3
 have:reachBytes=140737488351232:=rfl
 omega
abbrev PE:=(Tm×Int)×(Tm×Int)
def pE(t:Tm):Tm×Int:=
 if t.k=4 then(nth t.sub 1,0)else
  (.mk 5 0 [(uK t 1 0).1,.mk 1 0 []],if (uK t 1 0).2=0 then(if zH (.mk 5 0 [(uK t 1 0).1,.mk 1 0 []])=true then 0 else 2)else(uK t 1 0).2)
def wX(l:List zU)(c:Int):List Int:=(zK l (zK l c).fam).fields
def tT(l:List zU)(t:Tm):Prop:=vJ l t∧wX l (zN t).n≠[]
instance (l:List zU) (t:Tm):Decidable (tT l t):=inferInstanceAs (Decidable (_∧_))
def uO(l:List zU)(t:Tm)(c:Int)(i:Nat)(pars:List Tm):Tm×Int:=
 if tT l t∧(zN t).n=c then(nth (yG t) ((pars.length+i:Nat):Int),0)else
  (.mk 5 0 [wJ (.mk 6 (((wX l c)[i]?).getD (-1)) []) pars,t],if zH (.mk 5 0 [wJ (.mk 6 (((wX l c)[i]?).getD (-1)) []) pars,t])=true then 0 else 2)
def kM(l:List zU)(t:Tm):List Tm:=(yG t).take (zK l (zN t).n).pars.toNat
def u7(l:List zU)(x y:Tm)(c:Int)(pars:List Tm):Nat->Nat->List PE
 |0,_=>[]
 |m+1,i=>(uO l x c i pars,uO l y c i pars)::u7 l x y c pars m (i+1)
def u9:List Tm->List Tm->List PE
 |a::l,b::m=>((a,0),(b,0))::u9 l m
 |_,_=>[]
def zNN(x y:Tm):List PE:=(if (zN x).k=3 then [((nth (zN x).sub 0,0),(nth (zN y).sub 0,0)),((nth (zN x).sub 1,0),(nth (zN y).sub 1,0))]else [])++u9 (yG x) (yG y)
inductive Hd where
 |ans (b:Bool)
 |all (ps:List PE)
 |pi (a b c d:Tm)
def gB(x y:Tm):Hd:=
 if (zN x).k≠(zN y).k∨(zN x).n≠(zN y).n∨(yG x).length≠(yG y).length∨((zN x).k=7∧(nth (zN x).sub 0).n≠(nth (zN y).sub 0).n)then .ans false else .all (zNN x y)
def sN(l:List zU)(m:Bool)(x y:Tm):Hd:=
 if x.k=4∨y.k=4 then .all [(pE x,pE y)]
 else if tT l x then(if tT l y∧(zN x).n≠(zN y).n then .ans false else .all (u7 l x y (zN x).n (kM l x) (wX l (zN x).n).length 0))
 else if tT l y then .all (u7 l x y (zN y).n (kM l y) (wX l (zN y).n).length 0)
 else if x.k≠y.k then .ans false
 else if x.k=3 then .pi (nth x.sub 0) (nth y.sub 0) (nth x.sub 1) (nth y.sub 1)
 else if x.k=2 then .ans (if m=true then decide (x.n≤y.n)else x.n==y.n)
 else gB x y
def uB(C:Tm->Tm->Bool->Int->Prop):List PE->Bool->Int->Prop
 | [],b,k=>b=true∧k=0
 |p::r,b,k=>p.1.2=0∧p.2.2=0∧∃b1 k1,C p.1.1 p.2.1 b1 k1∧((b1=false∧b=false∧k=k1)∨(b1=true∧∃k2,uB C r b k2∧k=k1+k2))
def Z2(C:Bool->Tm->Tm->Bool->Int->Prop)(m:Bool):Hd->Bool->Int->Prop
 | .ans b0,b,k=>b=b0∧k=0
 | .all ps,b,k=>uB (C false) ps b k
 | .pi a a' c c',b,k=>∃b1 k1,C false a a' b1 k1∧((b1=false∧b=false∧k=k1)∨(b1=true∧∃k2,C m c c' b k2∧k=k1+k2))
def t6(l:List zU):Nat->Bool->Tm->Tm->Bool->Int->Prop
 |0,_,_,_,_,_=>False
 |n+1,m,x,y,b,k=>wA l x∧wA l y∧∃x' k1 y' k2 k3,Br l x x' 0 k1∧Br l y y' 0 k2∧Z2 (t6 l n) m (sN l m x' y') b k3∧k=k1+k2+k3
def Cv(l:List zU)(m:Bool)(x y:Tm)(b:Bool)(k:Int):Prop:=∃n,t6 l n m x y b k
section
variable {C C':Tm->Tm->Bool->Int->Prop}
theorem uB.mono(h:∀x y b k,C x y b k->C' x y b k):∀ {ps:List PE} {b:Bool} {k:Int},uB C ps b k->uB C' ps b k
 | [],_,_,a=>a
 |_::_,_,_,⟨a,b,b1,k1,c,d⟩=>⟨a,b,b1,k1,h _ _ _ _ c,d.imp id fun⟨e,k2,f,g⟩=>⟨e,k2,uB.mono h f,g⟩⟩
theorem uB.nn(h:∀x y b k,C x y b k->0≤k):∀ {ps:List PE} {b:Bool} {k:Int},uB C ps b k->0≤k
 | [],_,_,⟨_,a⟩=>by omega
 |_::_,_,_,⟨_,_,b1,k1,c,d⟩=>by
  have:=h _ _ _ _ c
  rcases d with⟨_,_,d⟩|⟨_,k2,d,e⟩
  ·omega
  ·have:=uB.nn h d;omega
theorem uB.det(h:∀x y b k b' k',C x y b k->C' x y b' k'->b'=b∧k'=k):∀ {ps:List PE} {b b':Bool} {k k':Int},uB C ps b k->uB C' ps b' k'->b'=b∧k'=k
 | [],_,_,_,_,⟨a,b⟩,⟨c,d⟩=>by subst a;subst c;exact⟨rfl,by omega⟩
 |_::_,_,_,_,_,⟨_,_,b1,k1,c,d⟩,⟨_,_,b1',k1',c',d'⟩=>by
  obtain⟨rfl,rfl⟩:=h _ _ _ _ _ _ c c'
  rcases d with⟨d1,d2,d3⟩|⟨d1,k2,d2,d3⟩
  ·rcases d' with⟨_,e2,e3⟩|⟨e1,_⟩
   ·subst d2;subst e2;exact⟨rfl,by omega⟩
   ·rw[d1]at e1;cases e1
  ·rcases d' with⟨e1,_⟩|⟨_,k2',e2,e3⟩
   ·rw[d1]at e1;cases e1
   ·obtain⟨rfl,rfl⟩:=uB.det h d2 e2;exact⟨rfl,by omega⟩
end
section
variable {C C':Bool->Tm->Tm->Bool->Int->Prop} {m:Bool}
theorem Z2.mono(h:∀m x y b k,C m x y b k->C' m x y b k):∀ {q:Hd} {b:Bool} {k:Int},Z2 C m q b k->Z2 C' m q b k
 | .ans _,_,_,a=>a
 | .all _,_,_,a=>uB.mono (h false) a
 | .pi _ _ _ _,_,_,⟨b1,k1,c,d⟩=>⟨b1,k1,h _ _ _ _ _ c,d.imp id fun⟨e,k2,f,g⟩=>⟨e,k2,h _ _ _ _ _ f,g⟩⟩
theorem Z2.nn(h:∀m x y b k,C m x y b k->0≤k):∀ {q:Hd} {b:Bool} {k:Int},Z2 C m q b k->0≤k
 | .ans _,_,_,⟨_,a⟩=>by omega
 | .all _,_,_,a=>uB.nn (h false) a
 | .pi _ _ _ _,_,_,⟨b1,k1,c,d⟩=>by
  have:=h _ _ _ _ _ c
  rcases d with⟨_,_,d⟩|⟨_,k2,d,e⟩
  ·omega
  ·have:=h _ _ _ _ _ d;omega
theorem Z2.det(h:∀m x y b k b' k',C m x y b k->C' m x y b' k'->b'=b∧k'=k):∀ {q:Hd} {b b':Bool} {k k':Int},Z2 C m q b k->Z2 C' m q b' k'->b'=b∧k'=k
 | .ans _,_,_,_,_,⟨a,b⟩,⟨c,d⟩=>by subst a;subst c;exact⟨rfl,by omega⟩
 | .all _,_,_,_,_,a,b=>uB.det (h false) a b
 | .pi _ _ _ _,_,_,_,_,⟨b1,k1,c,d⟩,⟨b1',k1',c',d'⟩=>by
  obtain⟨rfl,rfl⟩:=h _ _ _ _ _ _ _ c c'
  rcases d with⟨d1,d2,d3⟩|⟨d1,k2,d2,d3⟩
  ·rcases d' with⟨_,e2,e3⟩|⟨e1,_⟩
   ·subst d2;subst e2;exact⟨rfl,by omega⟩
   ·rw[d1]at e1;cases e1
  ·rcases d' with⟨e1,_⟩|⟨_,k2',e2,e3⟩
   ·rw[d1]at e1;cases e1
   ·obtain⟨rfl,rfl⟩:=h _ _ _ _ _ _ _ d2 e2;exact⟨rfl,by omega⟩
end
theorem t6.mono{l:List zU}:∀ {n:Nat} {m:Bool} {x y:Tm} {b:Bool} {k:Int},t6 l n m x y b k->t6 l (n+1) m x y b k
 |0,_,_,_,_,_,h=>h.elim
 |n+1,m,x,y,b,k,⟨r1,r2,x',k1,y',k2,k3,h1,h2,h3,h4⟩=>⟨r1,r2,x',k1,y',k2,k3,h1,h2,h3.mono (fun _ _ _ _ _ h=>t6.mono h),h4⟩
theorem t6.le{l:List zU}{n n':Nat}{m:Bool}{x y:Tm}{b:Bool}{k:Int}(h:t6 l n m x y b k)(hm:n≤n'):t6 l n' m x y b k:=by
 induction hm with
 |refl=>exact h
 |step _ ih=>exact ih.mono
theorem t6.nn{l:List zU}:∀ {n:Nat} {m:Bool} {x y:Tm} {b:Bool} {k:Int},t6 l n m x y b k->0≤k
 |0,_,_,_,_,_,h=>h.elim
 |n+1,m,x,y,b,k,⟨r1,r2,x',k1,y',k2,k3,h1,h2,h3,h4⟩=>by
  have:=h1.nn
  have:=h2.nn
  have:=h3.nn (fun _ _ _ _ _ h=>t6.nn h)
  omega
theorem t6.det{l:List zU}:∀ {n n':Nat} {m:Bool} {x y:Tm} {b b':Bool} {k k':Int},t6 l n m x y b k->t6 l n' m x y b' k'->b'=b∧k'=k
 |0,_,_,_,_,_,_,_,_,h,_=>h.elim
 |_+1,0,_,_,_,_,_,_,_,_,h=>h.elim
 |n+1,n'+1,m,x,y,b,b',k,k',⟨_,_,x',k1,y',k2,k3,h1,h2,h3,h4⟩,⟨_,_,x1',j1,y1',j2,j3,g1,g2,g3,g4⟩=>by
  obtain⟨rfl,-,rfl⟩:=h1.det g1
  obtain⟨rfl,-,rfl⟩:=h2.det g2
  obtain⟨rfl,rfl⟩:=Z2.det (C:=t6 l n) (C':=t6 l n') (fun _ _ _ _ _ _ _ a b=>t6.det a b) h3 g3
  exact⟨rfl,by omega⟩
theorem Cv.det{l:List zU}{m:Bool}{x y:Tm}{b b':Bool}{k k':Int}:Cv l m x y b k->Cv l m x y b' k'->b'=b∧k'=k:=fun⟨_,a⟩ ⟨_,b⟩=>a.det b
theorem Cv.nn{l:List zU}{m:Bool}{x y:Tm}{b:Bool}{k:Int}:Cv l m x y b k->0≤k:=fun⟨_,a⟩=>a.nn
theorem uB.bound{l:List zU}:∀ {ps:List PE} {b:Bool} {k:Int},uB (Cv l false) ps b k->∃n,uB (t6 l n false) ps b k
 | [],_,_,a=>⟨0,a⟩
 |_::_,_,_,⟨a,b,b1,k1,⟨n,c⟩,d⟩=>by
  rcases d with d|⟨e,k2,f,g⟩
  ·exact⟨n,a,b,b1,k1,c,.inl d⟩
  ·obtain⟨n',f⟩:=uB.bound f
   exact⟨max n n',a,b,b1,k1,c.le (by omega),.inr ⟨e,k2,f.mono (fun _ _ _ _ h=>h.le (by omega)),g⟩⟩
theorem Z2.bound{l:List zU}{m:Bool}:∀ {q:Hd} {b:Bool} {k:Int},Z2 (Cv l) m q b k->∃n,Z2 (t6 l n) m q b k
 | .ans _,_,_,a=>⟨0,a⟩
 | .all _,_,_,a=>uB.bound a
 | .pi _ _ _ _,_,_,⟨b1,k1,⟨n,c⟩,d⟩=>by
  rcases d with d|⟨e,k2,⟨n',f⟩,g⟩
  ·exact⟨n,b1,k1,c,.inl d⟩
  ·exact⟨max n n',b1,k1,c.le (by omega),.inr ⟨e,k2,f.le (by omega),g⟩⟩
theorem Cv.mk{l:List zU}{m:Bool}{x y x' y':Tm}{b:Bool}{k1 k2 k3:Int}(r1:wA l x)(r2:wA l y)(h1:Br l x x' 0 k1)(h2:Br l y y' 0 k2)(h3:Z2 (Cv l) m (sN l m x' y') b k3):Cv l m x y b (k1+k2+k3):=by
 obtain⟨n,h3⟩:=h3.bound
 exact⟨n+1,r1,r2,x',k1,y',k2,k3,h1,h2,h3,rfl⟩
theorem Cv.inv{l:List zU}{m:Bool}{x y:Tm}{b:Bool}{k:Int}(h:Cv l m x y b k):wA l x∧wA l y∧∃x' k1 y' k2 k3,Br l x x' 0 k1∧Br l y y' 0 k2∧Z2 (Cv l) m (sN l m x' y') b k3∧k=k1+k2+k3:=by
 obtain⟨n,h⟩:=h
 cases n with
 |zero=>exact h.elim
 |succ n=>
  obtain⟨r1,r2,x',k1,y',k2,k3,h1,h2,h3,h4⟩:=h
  exact⟨r1,r2,x',k1,y',k2,k3,h1,h2,h3.mono (fun _ _ _ _ _ h=>⟨n,h⟩),h4⟩
def X3(l:List zU)(k n:Int):Nat:=if k=4 then 3 else if k=6∧(zK l n).kind=2 then 2 else 1
mutual
def rH(l:List zU):Tm->Nat
 | .mk k n s=>X3 l k n+pB l s
def pB(l:List zU):List Tm->Nat
 | []=>0
 |t::s=>rH l t+pB l s
end
theorem J6(l:List zU)(k n:Int):1≤X3 l k n∧X3 l k n≤3:=by unfold X3;split<;>(try split)<;>omega
theorem zBl(l:List zU):∀t:Tm,1≤rH l t
 | .mk k n s=>by rw[rH];have:=J6 l k n;omega
theorem zBk(l:List zU):∀ {s:List Tm} {x:Tm},x∈s->rH l x≤pB l s
 |a::s,x,h=>by
  rw[pB]
  rcases List.mem_cons.1 h with rfl|h
  ·omega
  ·have:=zBk l h;omega
theorem zBj(l:List zU):∀a b:List Tm,pB l (a++b)=pB l a+pB l b
 | [],b=>by simp[pB]
 |t::a,b=>by simp only[List.cons_append,pB,zBj l a b];omega
mutual
theorem zSd(l:List zU):∀(t:Tm) (b c k:Int),rH l (vS t b c k)≤rH l t
 | .mk kd n s,b,c,k=>by
  rw[vS]
  split
  ·rename_i h
   rw[rH,rH,pB]
   have e:∀m,X3 l 1 m=1:=fun m=>by unfold X3;simp
   have:=(J6 l kd n).1
   rw[e];omega
  ·rw[rH,rH]
   have:=zNO l s kd 0 b c k
   omega
theorem zNO(l:List zU):∀(s:List Tm) (kd:Int) (i:Nat) (b c k:Int),pB l (sC s kd i b c k)≤pB l s
 | [],_,_,_,_,_=>by rw[sC];omega
 |t::s,kd,i,b,c,k=>by
  rw[sC,pB,pB]
  have:=zSd l t (xZ kd i b) c k
  have:=zNO l s kd (i+1) b c k
  omega
end
theorem zSc(l:List zU):∀(s:List Tm) (f:Tm),rH l (wJ f s)=rH l f+pB l s+s.length
 | [],f=>by rw[wJ,pB];simp
 |a::s,f=>by
  have e:X3 l 5 0=1:=by unfold X3;simp
  rw[wJ,zSc l s,rH,pB,pB,pB,pB,e,List.length_cons];omega
theorem X4(l:List zU):∀t:Tm,xG t=true->rH l t=rH l (zN t)+pB l (yG t)+(yG t).length:=by
 refine jG ?_ ?_
 ·intro t hg hk
  rw[vH hk,tL hk,pB];simp
 ·intro n a b hg ha hb ih
  have e:X3 l 5 n=1:=by unfold X3;simp
  rw[qO,rB,rH,pB,pB,pB,e,zBj,pB,pB,List.length_append,ih];simp;omega
theorem J7(l:List zU)(t:Tm):rH l t=X3 l t.k t.n+pB l t.sub:=by cases t;rw[rH,Tm.k,Tm.n,Tm.sub]
theorem uB.rel{C:Tm->Tm->Bool->Int->Prop}{R:Tm->Tm->Prop}(h:∀x y b k,R x y->C x y b k->b=true):∀ {ps:List PE} {b:Bool} {k:Int},(∀p∈ps,R p.1.1 p.2.1)->uB C ps b k->b=true
 | [],_,_,_,a=>a.1
 |p::_,_,_,hp,⟨_,_,b1,k1,c,d⟩=>by
  have:=h _ _ _ _ (hp p (by simp)) c
  rcases d with⟨d,_⟩|⟨_,k2,d,_⟩
  ·rw[this]at d;cases d
  ·exact uB.rel h (fun q hq=>hp q (by simp[hq])) d
theorem zDL{l:List zU}{x y:Tm}{c:Int}{pars:List Tm}:∀ {m i:Nat} {p:PE},p∈u7 l x y c pars m i->∃j,p=(uO l x c j pars,uO l y c j pars)
 |0,_,_,h=>by cases h
 |m+1,i,p,h=>by
  rw[u7]at h
  rcases List.mem_cons.1 h with h|h
  ·exact⟨i,h⟩
  ·exact zDL h
def oX(l:List zU)(t x:Tm):Prop:=t=x∨(zH x=true∧∃k,Nm l t x k)
theorem fO(a:Tm):∀(s:List Tm) (f:Tm),wJ f (s++[a]) = .mk 5 0 [wJ f s,a]
 | [],f=>by rw[List.nil_append,wJ,wJ,wJ]
 |b::s,f=>by rw[List.cons_append,wJ,wJ,fO a s]
section
variable {l:List zU} {x:Tm} (a:Tm)
def M9(l:List zU)(x:Tm):Prop:=(wR l (zN x)=4->((zK l (zN x).n).pars+1).toNat≤(yG x).length)∧(wR l (zN x)≠4->(xI (zK l (zN x).n)).toNat≤(yG x).length∧((zK l (zN x).n).pars+1+(zK l (zN x).n).cons.length).toNat≤(yG x).length)
end
def X5(n b k:Int):Int:=if b≤n then n+k else n
theorem tU{n b k:Int}{l:List Tm}(hk:0≤k):vS (.mk 1 n l) b 0 k = .mk 1 (X5 n b k) []:=by
 rw[vS,if_pos rfl]
 congr 1
 unfold X5
 by_cases h:b≤n
 ·rw[if_pos h,if_pos h,if_neg (by omega)];omega
 ·rw[if_neg h,if_neg h]
theorem wV{kd n b k:Int}{l:List Tm}(h:kd≠1):vS (.mk kd n l) b 0 k = .mk kd n (sC l kd 0 b 0 k):=by rw[vS,if_neg h]
mutual
theorem zHb(b d k:Int)(hb:0≤b)(hd:0≤d)(hk:0≤k):∀(t:Tm) (e:Int),vS (vS t e 0 b) (e+(b+d)) 0 k=vS (vS t (e+d) 0 k) e 0 b
 | .mk kd n l,e=>by
  by_cases h:kd=1
  ·subst h
   rw[tU hb,tU hk,tU hk,tU hb]
   congr 1
   unfold X5
   by_cases h1:e≤n
   ·by_cases h2:e+d≤n
    ·rw[if_pos h1,if_pos h2,if_pos (by omega),if_pos (by omega)];omega
    ·rw[if_pos h1,if_neg h2,if_neg (by omega),if_pos h1]
   ·rw[if_neg h1,if_neg (show ¬e+(b+d)≤n by omega),if_neg (show ¬e+d≤n by omega),if_neg h1]
  ·rw[wV h,wV h,wV h,wV h,zNP b d k hb hd hk l kd 0 e]
theorem zNP(b d k:Int)(hb:0≤b)(hd:0≤d)(hk:0≤k):∀(l:List Tm) (kd:Int) (i:Nat) (e:Int),sC (sC l kd i e 0 b) kd i (e+(b+d)) 0 k=sC (sC l kd i (e+d) 0 k) kd i e 0 b
 | [],kd,i,e=>by simp only[sC]
 |t::l,kd,i,e=>by
  rw[sC,sC,sC,sC,zNP b d k hb hd hk l kd (i+1) e,sF,sF,zHb b d k hb hd hk t (xZ kd i e)]
end
theorem zUa(d k:Int)(ls:List Tm)(i:Nat)(h:i<ls.length):(ls.map fun a=>vS a d 0 k)[i]'(by simpa using h)=vS ls[i] d 0 k:=by simp
mutual
theorem zNQ(d k:Int)(hd:0≤d)(hk:0≤k)(ls:List Tm):∀(t:Tm) (b:Int),0≤b->vS (vQ ls t b) (b+d) 0 k=vQ (ls.map fun a=>vS a d 0 k) (vS t (b+(ls.length+d)) 0 k) b
 | .mk kd n l,b,hb=>by
  by_cases h:kd=1
  ·subst h
   rw[tU hk,vQ,vQ]
   by_cases h1:b≤n
   ·rw[if_pos ⟨rfl,h1⟩]
    by_cases h2:(n-b).toNat<ls.length
    ·have e:X5 n (b+(ls.length+d)) k=n:=by unfold X5;rw[if_neg (by omega)]
     rw[dif_pos h2,e,if_pos ⟨rfl,h1⟩,dif_pos (by simpa using h2),zUa]
     have:=zHb b d k hb hd hk ls[(n-b).toNat] 0
     rwa[Int.zero_add,Int.zero_add]at this
    ·rw[dif_neg h2,tU hk]
     have h3:b≤X5 n (b+(ls.length+d)) k∧(ls.length:Int)≤X5 n (b+(ls.length+d)) k-b∧X5 n (b+(ls.length+d)) k-ls.length=X5 (n-ls.length) (b+d) k:=by
      unfold X5
      by_cases h4:b+(ls.length+d)≤n
      ·rw[if_pos h4,if_pos (by omega)];omega
      ·rw[if_neg h4,if_neg (by omega)];omega
     rw[if_pos ⟨rfl,h3.1⟩,dif_neg (by simp;omega),List.length_map,h3.2.2]
   ·have e:X5 n (b+(ls.length+d)) k=n:=by unfold X5;rw[if_neg (by omega)]
    have e2:X5 n (b+d) k=n:=by unfold X5;rw[if_neg (by omega)]
    rw[if_neg (fun a=>h1 a.2),tU hk,e,if_neg (fun a=>h1 a.2),e2,rN]
  ·rw[wV h,vQ,vQ,if_neg (fun a=>h a.1),if_neg (fun a=>h a.1),wV h,zNR d k hd hk ls l kd 0 b hb]
theorem zNR(d k:Int)(hd:0≤d)(hk:0≤k)(ls:List Tm):∀(l:List Tm) (kd:Int) (i:Nat) (b:Int),0≤b->sC (rN ls l kd i b) kd i (b+d) 0 k=rN (ls.map fun a=>vS a d 0 k) (sC l kd i (b+(ls.length+d)) 0 k) kd i b
 | [],kd,i,b,hb=>by simp only[sC,rN]
 |t::l,kd,i,b,hb=>by
  have:=eN kd i b
  rw[rN,sC,sC,rN,zNR d k hd hk ls l kd (i+1) b hb,sF,sF,zNQ d k hd hk ls t (xZ kd i b) (by omega)]
end
mutual
theorem zNS(k:Int)(hk:0≤k):∀(t:Tm) (b:Int),xG t=true->(∀j,¬j∈tC t b)->vS t b 0 k=t
 | .mk kd n l,b,hg,h=>by
  have hh:=xV hg
  by_cases h1:kd=1
  ·subst h1
   have hl:l=[]:=(wQ hh.1).2.2.2.2.2.2.2.1 (.inl rfl)
   subst hl
   rw[tU hk]
   unfold X5
   rw[if_neg fun hb=>h (n-b) (rG.2 ⟨hb,rfl⟩)]
  ·rw[wV h1,zNT k hk l kd 0 b hh.2 fun j hj=>h j ((tM h1).2 hj)]
theorem zNT(k:Int)(hk:0≤k):∀(l:List Tm) (kd:Int) (i:Nat) (b:Int),qF l=true->(∀j,¬j∈w9 l kd i b)->sC l kd i b 0 k=l
 | [],kd,i,b,hg,h=>by rw[sC]
 |t::l,kd,i,b,hg,h=>by
  have hh:=wC hg
  rw[sC,zNS k hk t _ hh.1 fun j hj=>h j (wO.2 (.inl hj)),zNT k hk l kd (i+1) b hh.2 fun j hj=>h j (wO.2 (.inr hj))]
end
theorem zXs(kd d:Int):xZ kd 0 d=d:=by unfold xZ;simp
theorem zRr(i:Nat)(d:Int):xZ 5 i d=d:=by unfold xZ;simp
theorem J8{n d k:Int}{a b:Tm}:vS (.mk 5 n [a,b]) d 0 k = .mk 5 n [vS a d 0 k,vS b d 0 k]:=by
 rw[wV (by decide),sC,sC,sC,zRr,zRr]
theorem zHa{n d k:Int}{a b:Tm}:vS (.mk 4 n [a,b]) d 0 k = .mk 4 n [vS a d 0 k,vS b (d+1) 0 k]:=by
 rw[wV (by decide),sC,sC,sC,zXs];rfl
theorem D7(d k:Int):∀(l:List Tm) (f:Tm),vS (wJ f l) d 0 k=wJ (vS f d 0 k) (l.map fun a=>vS a d 0 k)
 | [],f=>by rw[wJ,List.map_nil,wJ]
 |a::l,f=>by rw[wJ,D7 d k l,J8,List.map_cons,wJ]
theorem zSb(c k:Int)(hk:0≤k):∀(m v:Nat),((v+m:Nat):Int)≤c->(I8 m v).map (fun a=>vS a c 0 k)=I8 m v
 |0,v,h=>rfl
 |m+1,v,h=>by
  rw[I8,List.map_cons,zSb c k hk m (v+1) (by omega),tU hk]
  unfold X5
  rw[if_neg (by omega)]
theorem zNU(c k:Int)(hk:0≤k):∀(m:Nat),(m:Int)≤c->(kK m).map (fun a=>vS a c 0 k)=kK m
 |0,h=>rfl
 |m+1,h=>by
  rw[kK,List.map_cons,zNU c k hk m (by omega),tU hk]
  unfold X5
  rw[if_neg (by omega)]
theorem zNV(n:Nat)(d k:Int)(hd:0≤d)(hk:0≤k)(l:List Tm):(M3 n l).map (fun a=>vS a (n+d) 0 k)=M3 n (l.map fun a=>vS a d 0 k):=by
 unfold M3
 rw[List.map_map,List.map_map]
 refine List.map_congr_left fun a _=>?_
 have:=zHb n d k (by omega) hd hk a 0
 rw[Int.zero_add,Int.zero_add]at this
 exact this
theorem zNW{t:Tm}{own:Nat}{outer:List Tm}{d k:Int}(hd:0≤d)(hk:0≤k)(hg:xG t=true)(h:∀j∈tC t own,j<outer.length):vS (oZ t own outer) (own+d) 0 k=oZ t own (outer.map fun a=>vS a d 0 k):=by
 unfold oZ
 have h1:=zNQ (own+d) k (by omega) hk (I8 own 0++(M3 own outer).reverse) t 0 (Int.le_refl 0)
 have h2:(I8 own 0++(M3 own outer).reverse).length=own+outer.length:=by rw[List.length_append,jZ,List.length_reverse];unfold M3;rw[List.length_map]
 have h3:vS t (0+(((I8 own 0++(M3 own outer).reverse).length:Int)+(own+d))) 0 k=t:=by
  refine zNS k hk t _ hg fun j hj=>?_
  rw[h2,show (0:Int)+(((own+outer.length:Nat):Int)+(own+d))=own+(outer.length+own+d) by omega]at hj
  have h4:=(qV t own _ j (by omega)).1 hj
  have h5:=h _ h4.2
  omega
 rw[Int.zero_add,h3,List.map_append,zSb _ k hk own 0 (by omega),List.map_reverse,zNV own d k hd hk]at h1
 exact h1
def X6(k:Int):List Tm->Int->List Tm
 | [],_=>[]
 |a::l,d=>vS a d 0 k::X6 k l (d+1)
theorem zNX(k:Int):∀(l:List Tm) (t:Tm) (d:Int),vS (lM l t) d 0 k=lM (X6 k l d) (vS t (d+l.length) 0 k)
 | [],t,d=>by show vS t d 0 k=vS t (d+0) 0 k;rw[Int.add_zero]
 |a::l,t,d=>by
  show vS (.mk 4 0 [a,lM l t]) d 0 k = .mk 4 0 [vS a d 0 k,lM (X6 k l (d+1)) (vS t (d+(a::l).length) 0 k)]
  rw[zHa,zNX k l t (d+1),show d+1+(l.length:Int)=d+(a::l).length by simp;omega]
theorem zHA{outer:List Tm}{d k:Int}(hd:0≤d)(hk:0≤k):∀(l:List Tm) (v:Nat),(∀(i:Nat) (h:i<l.length),xG l[i]=true∧∀j∈tC l[i] ((v+i:Nat):Int),j<outer.length)->X6 k (sU outer l v) (v+d)=sU (outer.map fun a=>vS a d 0 k) l v
 | [],v,h=>rfl
 |a::l,v,h=>by
  have h0:=h 0 (by simp)
  have e0:vS (oZ a v outer) (v+d) 0 k=oZ a v (outer.map fun a=>vS a d 0 k):=zNW hd hk (by simpa using h0.1) (by simpa using h0.2)
  rw[sU,sU,X6,e0,show (v:Int)+d+1=((v+1:Nat):Int)+d by omega,zHA hd hk l (v+1) fun i hi=>by
   have:=h (i+1) (by simp;omega)
   rw[show v+(i+1)=v+1+i by omega]at this
   simpa using this]
def zFK(r:uT):Prop:=(∀t∈r.around,xG t=true)∧∀t∈r.at',xG t=true
theorem zUA{head:Tm}{args outer:List Tm}{r:uT}{a:Tm}{d k:Int}(hd:0≤d)(hk:0≤k)(hh:∀c,vS head c 0 k=head)(hr:D0 r outer.length)(hg:zFK r) :
  vS (I9 head args outer r a) d 0 k=I9 head (args.map fun a=>vS a d 0 k) (outer.map fun a=>vS a d 0 k) r (vS a d 0 k):=by
 unfold I9
 rw[zNX,fG,J8,D7,D7,hh,D7,show d+(r.around.length:Int)=r.around.length+d by omega,zNV _ d k hd hk,zNU _ k hk _ (by omega)]
 have h1:=zHA hd hk r.around 0 (outer:=outer) (k:=k) (d:=d) fun i hi=>⟨hg.1 _ (List.getElem_mem hi),by simpa using hr.1 i hi⟩
 rw[show ((0:Nat):Int)+d=d by omega]at h1
 rw[h1]
 have h2:(r.at'.map fun t=>oZ t r.around.length outer).map (fun a=>vS a (r.around.length+d) 0 k)=r.at'.map fun t=>oZ t r.around.length (outer.map fun a=>vS a d 0 k):=by
  rw[List.map_map]
  exact List.map_congr_left fun t ht=>zNW hd hk (hg.2 t ht) (hr.2 t ht)
 have h3:=zHb r.around.length d k (by omega) hd hk a 0
 rw[Int.zero_add,Int.zero_add]at h3
 rw[h2,h3]
theorem P2{l:List Tm}{n:Int}(f:Tm->Tm)(h:n.toNat<l.length):nth (l.map f) n=f (nth l n):=by
 unfold nth
 rw[List.getElem?_eq_getElem h,List.getElem?_eq_getElem (by simpa using h)];simp
theorem zDM{dd lev:Int}{args own:List Tm}{pars:Nat}{d k:Int}(hd:0≤d)(hk:0≤k)(hp:pars≤args.length):∀(rs:List uT) (v:Nat) (t:Tm),v+rs.length≤own.length->(∀(i:Nat) (h:i<rs.length),D0 rs[i] (pars+(v+i))∧zFK rs[i]) ->
  vS (tD dd lev args own pars rs v t) d 0 k=tD dd lev (args.map fun a=>vS a d 0 k) (own.map fun a=>vS a d 0 k) pars rs v (vS t d 0 k)
 | [],v,t,_,_=>rfl
 |r::rs,v,t,hl,hr=>by
  rw[List.length_cons]at hl
  rw[tD,tD,zDM hd hk hp rs (v+1) _ (by omega) (fun i hi=>by
   have:=hr (i+1) (by simp;omega)
   rw[show v+1+i=v+(i+1) by omega]
   simpa using this)]
  congr 1
  by_cases h:r.is=true
  ·have h0:=hr 0 (by simp)
   have hlen:(args.take pars++own.take v).length=pars+v:=by rw[List.length_append,List.length_take,List.length_take];omega
   rw[if_pos h,if_pos h,J8,zUA hd hk (fun c=>?_) (by rw[hlen];simpa using h0.1) (by simpa using h0.2),List.map_append,List.map_take,List.map_take,P2 _ (by simp;omega)]
   rw[wV (by decide),sC,sC,wV (by decide),sC]
  ·rw[if_neg h,if_neg h]
theorem zXr{l:List zU}{t:Tm}{of b:Int}:zFK (N3 l t of b):=by
 unfold N3
 split
 ·rename_i a
  have hw:=rC (t:=t) (l:=(yR t).1) (y:=(yR t).2.1) (by rw[←a.1])
  exact⟨fun x hx=>(zI (hw.2.2.2.2.2 x hx)).2.2,fun x hx=>(zI (yW hw.2.2.2.2.1 (List.mem_of_mem_drop hx))).2.2⟩
 ·exact⟨fun x hx=>(nomatch hx),fun x hx=>(nomatch hx)⟩
theorem zNY{l:List zU}{of:Int}:∀(r:List Tm) (B:Int),∀x∈nB l of r B,zFK x
 | [],B,x,h=>nomatch h
 |a::r,B,x,h=>by
  rcases List.mem_cons.1 h with h|h
  ·rw[h];exact zXr
  ·exact zNY r (B+1) x h
theorem zHB{l:List zU}{i:Int}:∀x∈(xU l i).recs,zFK x:=by unfold xU;exact zNY _ _
theorem zRq{N:ByteArray->Bool}{l:List zU}{dd lev c:Int}{args own:List Tm}{d k:Int}(hd:0≤d)(hk:0≤k)(hE:xA N l)(hc:kH l c 2=true)(hf:(zK l c).fam=dd)(ha:(args.length:Int)=(zK l dd).pars+1+(zK l dd).cons.length)(ho:own.length=(xU l c).args.length) :
  vS (kL l dd lev c args own) d 0 k=kL l dd lev c (args.map fun a=>vS a d 0 k) (own.map fun a=>vS a d 0 k):=by
 have hi:=wU hc
 obtain⟨A,y,hw,hy,hA,hAp,hA24,p0,p1,f0,f1,fk,fp,fi,fs,hap,q0,q1⟩:=vB hE hi.1 hi.2.1 hi.2.2
 rw[hf]at fp q1
 have hlen:(xU l c).recs.length=(xU l c).args.length:=by unfold xU;exact kI l _ _ _
 have hsc:=W4 hE hi.1 hi.2.1 hi.2.2
 unfold kL
 rw[zDM hd hk (pars:=(zK l dd).pars.toNat) (by omega) _ 0 _ (by omega) (fun i hi=>?_),D7,P2 _ (by omega)]
 have:=hsc i hi
 rw[fp,show (zK l dd).pars.toNat+i=(zK l dd).pars.toNat+(0+i) by omega]at this
 exact⟨this,zHB _ (List.getElem_mem hi)⟩
theorem uL{ls:List Tm}{kd n b:Int}{l:List Tm}(h:kd≠1):vQ ls (.mk kd n l) b = .mk kd n (rN ls l kd 0 b):=by rw[vQ,if_neg (fun a=>h a.1)]
theorem mK{ls:List Tm}{n b:Int}{l:List Tm}(h:¬b≤n):vQ ls (.mk 1 n l) b = .mk 1 n (rN ls l 1 0 b):=by rw[vQ,if_neg (fun a=>h a.2)]
theorem M7{ls:List Tm}{n b:Int}{l:List Tm}(h:b≤n)(h2:(n-b).toNat<ls.length):vQ ls (.mk 1 n l) b=vS (ls[(n-b).toNat]) 0 0 b:=by rw[vQ,if_pos ⟨rfl,h⟩,dif_pos h2]
theorem cC{ls:List Tm}{n b:Int}{l:List Tm}(h:b≤n)(h2:¬(n-b).toNat<ls.length):vQ ls (.mk 1 n l) b = .mk 1 (n-ls.length) []:=by rw[vQ,if_pos ⟨rfl,h⟩,dif_neg h2]
theorem bK{n b k:Int}(h:b≤n):X5 n b k=n+k:=by unfold X5;rw[if_pos h]
theorem X7{n b k:Int}(h:¬b≤n):X5 n b k=n:=by unfold X5;rw[if_neg h]
mutual
theorem zHC(m b x:Int)(hm:0≤m)(hx:0≤x)(hxm:x≤m)(hb:0≤b):∀(t:Tm) (c:Int),vS (vS t c 0 m) (c+x) 0 b=vS t c 0 (m+b)
 | .mk kd n l,c=>by
  by_cases h:kd=1
  ·subst h
   rw[tU hm,tU hb,tU (by omega)]
   by_cases h1:c≤n
   ·rw[bK h1,bK (by omega),bK h1,Int.add_assoc]
   ·rw[X7 h1,X7 (by omega),X7 h1]
  ·rw[wV h,wV h,wV h,zDN m b x hm hx hxm hb l kd 0 c]
theorem zDN(m b x:Int)(hm:0≤m)(hx:0≤x)(hxm:x≤m)(hb:0≤b):∀(l:List Tm) (kd:Int) (i:Nat) (c:Int),sC (sC l kd i c 0 m) kd i (c+x) 0 b=sC l kd i c 0 (m+b)
 | [],kd,i,c=>by simp only[sC]
 |t::l,kd,i,c=>by rw[sC,sC,sC,sF,zHC m b x hm hx hxm hb t,zDN m b x hm hx hxm hb l kd (i+1) c]
end
mutual
theorem zHD(us:List Tm)(b d:Int)(hb:0≤b)(hd:0≤d):∀(t:Tm) (e:Int),0≤e->vQ us (vS t e 0 b) (e+(b+d))=vS (vQ us t (e+d)) e 0 b
 | .mk kd n l,e,he=>by
  by_cases h:kd=1
  ·subst h
   rw[tU hb]
   by_cases h1:e+d≤n
   ·rw[bK (by omega)]
    have e2:n+b-(e+(b+d))=n-(e+d):=by omega
    by_cases h2:(n-(e+d)).toNat<us.length
    ·rw[M7 (by omega) (by rw[e2];exact h2),M7 h1 h2]
     simp only[e2]
     have:=zHC (e+d) b e (by omega) he (by omega) hb us[(n-(e+d)).toNat] 0
     rw[Int.zero_add]at this
     rw[this,show e+d+b=e+(b+d) by omega]
    ·rw[cC (by omega) (by rw[e2];exact h2),cC h1 h2,tU hb,bK (by omega),show n+b-(us.length:Int)=n-us.length+b by omega]
   ·have h3:¬e+(b+d)≤X5 n e b:=by unfold X5;split<;>omega
    rw[mK h3,mK h1,rN,tU hb]
  ·rw[wV h,uL h,uL h,wV h,zNZ us b d hb hd l kd 0 e he]
theorem zNZ(us:List Tm)(b d:Int)(hb:0≤b)(hd:0≤d):∀(l:List Tm) (kd:Int) (i:Nat) (e:Int),0≤e->rN us (sC l kd i e 0 b) kd i (e+(b+d))=sC (rN us l kd i (e+d)) kd i e 0 b
 | [],kd,i,e,he=>by simp only[sC,rN]
 |t::l,kd,i,e,he=>by
  have:=eN kd i e
  rw[sC,rN,rN,sC,sF,sF,zHD us b d hb hd t _ (by omega),zNZ us b d hb hd l kd (i+1) e he]
end
mutual
theorem zSa(ls:List Tm)(m x:Int)(hx:0≤x)(hm:x+ls.length≤m):∀(t:Tm) (c:Int),vQ ls (vS t c 0 m) (c+x)=vS t c 0 (m-ls.length)
 | .mk kd n l,c=>by
  by_cases h:kd=1
  ·subst h
   rw[tU (by omega),tU (by omega)]
   by_cases h1:c≤n
   ·rw[bK h1,bK h1,cC (by omega) (by omega),show n+m-(ls.length:Int)=n+(m-ls.length) by omega]
   ·rw[X7 h1,X7 h1,mK (by omega),rN]
  ·rw[wV h,wV h,uL h,zOz ls m x hx hm l kd 0 c]
theorem zOz(ls:List Tm)(m x:Int)(hx:0≤x)(hm:x+ls.length≤m):∀(l:List Tm) (kd:Int) (i:Nat) (c:Int),rN ls (sC l kd i c 0 m) kd i (c+x)=sC l kd i c 0 (m-ls.length)
 | [],kd,i,c=>by simp only[sC,rN]
 |t::l,kd,i,c=>by rw[sC,rN,sC,sF,zSa ls m x hx hm t,zOz ls m x hx hm l kd (i+1) c]
end
mutual
theorem zOy(us ls:List Tm)(d:Int)(hd:0≤d):∀(t:Tm) (b:Int),0≤b->vQ us (vQ ls t b) (b+d)=vQ (ls.map fun a=>vQ us a d) (vQ us t (b+(ls.length+d))) b
 | .mk kd n l,b,hb=>by
  by_cases h:kd=1
  ·subst h
   by_cases h1:b≤n
   ·by_cases h2:(n-b).toNat<ls.length
    ·rw[M7 h1 h2,mK (show ¬b+(ls.length+d)≤n by omega),M7 h1 (by simpa using h2)]
     have:=zHD us b d hb hd ls[(n-b).toNat] 0 (Int.le_refl 0)
     rw[Int.zero_add,Int.zero_add]at this
     rw[this]
     simp
    ·rw[cC h1 h2]
     by_cases h3:b+(ls.length+d)≤n
     ·have e1:n-(ls.length:Int)-(b+d)=n-(b+(ls.length+d)):=by omega
      by_cases h4:(n-(b+(ls.length+d))).toNat<us.length
      ·rw[M7 (by omega) (by rw[e1];exact h4),M7 h3 h4]
       simp only[e1]
       have:=zSa (ls.map fun a=>vQ us a d) (b+(ls.length+d)) b hb (by simp;omega) us[(n-(b+(ls.length+d))).toNat] 0
       rw[Int.zero_add,List.length_map]at this
       rw[this,show b+((ls.length:Int)+d)-ls.length=b+d by omega]
      ·rw[cC (by omega) (by rw[e1];exact h4),cC h3 h4,cC (by omega) (by simp;omega),List.length_map,show n-(ls.length:Int)-us.length=n-us.length-ls.length by omega]
     ·rw[mK (show ¬b+d≤n-(ls.length:Int) by omega),rN,mK h3,cC h1 (by simpa using h2),List.length_map]
   ·rw[mK h1,mK (by omega),mK (by omega),mK h1,zFL us ls d hd l 1 0 b hb]
  ·rw[uL h,uL h,uL h,uL h,zFL us ls d hd l kd 0 b hb]
theorem zFL(us ls:List Tm)(d:Int)(hd:0≤d):∀(l:List Tm) (kd:Int) (i:Nat) (b:Int),0≤b->rN us (rN ls l kd i b) kd i (b+d)=rN (ls.map fun a=>vQ us a d) (rN us l kd i (b+(ls.length+d))) kd i b
 | [],kd,i,b,hb=>by simp only[rN]
 |t::l,kd,i,b,hb=>by
  have:=eN kd i b
  rw[rN,rN,rN,rN,sF,sF,zOy us ls d hd t _ (by omega),zFL us ls d hd l kd (i+1) b hb]
end
mutual
theorem zOx(us:List Tm):∀(t:Tm) (b:Int),xG t=true->(∀j,¬j∈tC t b)->vQ us t b=t
 | .mk kd n l,b,hg,h=>by
  have hh:=xV hg
  by_cases h1:kd=1
  ·subst h1
   have hl:l=[]:=(wQ hh.1).2.2.2.2.2.2.2.1 (.inl rfl)
   subst hl
   rw[mK fun hb=>h (n-b) (rG.2 ⟨hb,rfl⟩),rN]
  ·rw[uL h1,zOw us l kd 0 b hh.2 fun j hj=>h j ((tM h1).2 hj)]
theorem zOw(us:List Tm):∀(l:List Tm) (kd:Int) (i:Nat) (b:Int),qF l=true->(∀j,¬j∈w9 l kd i b)->rN us l kd i b=l
 | [],kd,i,b,hg,h=>by rw[rN]
 |t::l,kd,i,b,hg,h=>by
  have hh:=wC hg
  rw[rN,zOx us t _ hh.1 fun j hj=>h j (wO.2 (.inl hj)),zOw us l kd (i+1) b hh.2 fun j hj=>h j (wO.2 (.inr hj))]
end
section
variable {us:List Tm}
theorem J9{n d:Int}{a b:Tm}:vQ us (.mk 5 n [a,b]) d = .mk 5 n [vQ us a d,vQ us b d]:=by
 rw[uL (by decide),rN,rN,rN,zRr,zRr]
theorem zHE{n d:Int}{a b:Tm}:vQ us (.mk 4 n [a,b]) d = .mk 4 n [vQ us a d,vQ us b (d+1)]:=by
 rw[uL (by decide),rN,rN,rN,zXs];rfl
theorem D8(d:Int):∀(l:List Tm) (f:Tm),vQ us (wJ f l) d=wJ (vQ us f d) (l.map fun a=>vQ us a d)
 | [],f=>by rw[wJ,List.map_nil,wJ]
 |a::l,f=>by rw[wJ,D8 d l,J9,List.map_cons,wJ]
theorem zSA(c:Int):∀(m v:Nat),((v+m:Nat):Int)≤c->(I8 m v).map (fun a=>vQ us a c)=I8 m v
 |0,v,h=>rfl
 |m+1,v,h=>by rw[I8,List.map_cons,zSA c m (v+1) (by omega),mK (by omega),rN]
theorem zOv(c:Int):∀(m:Nat),(m:Int)≤c->(kK m).map (fun a=>vQ us a c)=kK m
 |0,h=>rfl
 |m+1,h=>by rw[kK,List.map_cons,zOv c m (by omega),mK (by omega),rN]
theorem zOu(n:Nat)(d:Int)(hd:0≤d)(l:List Tm):(M3 n l).map (fun a=>vQ us a (n+d))=M3 n (l.map fun a=>vQ us a d):=by
 unfold M3
 rw[List.map_map,List.map_map]
 refine List.map_congr_left fun a _=>?_
 have:=zHD us n d (by omega) hd a 0 (Int.le_refl 0)
 rw[Int.zero_add,Int.zero_add]at this
 exact this
theorem zOt{t:Tm}{own:Nat}{outer:List Tm}{d:Int}(hd:0≤d)(hg:xG t=true)(h:∀j∈tC t own,j<outer.length):vQ us (oZ t own outer) (own+d)=oZ t own (outer.map fun a=>vQ us a d):=by
 unfold oZ
 have h1:=zOy us (I8 own 0++(M3 own outer).reverse) (own+d) (by omega) t 0 (Int.le_refl 0)
 have h2:(I8 own 0++(M3 own outer).reverse).length=own+outer.length:=by rw[List.length_append,jZ,List.length_reverse];unfold M3;rw[List.length_map]
 have h3:vQ us t (0+(((I8 own 0++(M3 own outer).reverse).length:Int)+(own+d)))=t:=by
  refine zOx us t _ hg fun j hj=>?_
  rw[h2,show (0:Int)+(((own+outer.length:Nat):Int)+(own+d))=own+(outer.length+own+d) by omega]at hj
  have h4:=(qV t own _ j (by omega)).1 hj
  have h5:=h _ h4.2
  omega
 rw[Int.zero_add,h3,List.map_append,zSA _ own 0 (by omega),List.map_reverse,zOu own d hd]at h1
 exact h1
def X8(us:List Tm):List Tm->Int->List Tm
 | [],_=>[]
 |a::l,d=>vQ us a d::X8 us l (d+1)
theorem zOs:∀(l:List Tm) (t:Tm) (d:Int),vQ us (lM l t) d=lM (X8 us l d) (vQ us t (d+l.length))
 | [],t,d=>by show vQ us t d=vQ us t (d+0);rw[Int.add_zero]
 |a::l,t,d=>by
  show vQ us (.mk 4 0 [a,lM l t]) d = .mk 4 0 [vQ us a d,lM (X8 us l (d+1)) (vQ us t (d+(a::l).length))]
  rw[zHE,zOs l t (d+1),show d+1+(l.length:Int)=d+(a::l).length by simp;omega]
theorem zHF{outer:List Tm}{d:Int}(hd:0≤d):∀(l:List Tm) (v:Nat),(∀(i:Nat) (h:i<l.length),xG l[i]=true∧∀j∈tC l[i] ((v+i:Nat):Int),j<outer.length)->X8 us (sU outer l v) (v+d)=sU (outer.map fun a=>vQ us a d) l v
 | [],v,h=>rfl
 |a::l,v,h=>by
  have h0:=h 0 (by simp)
  have e0:vQ us (oZ a v outer) (v+d)=oZ a v (outer.map fun a=>vQ us a d):=zOt hd (by simpa using h0.1) (by simpa using h0.2)
  rw[sU,sU,X8,e0,show (v:Int)+d+1=((v+1:Nat):Int)+d by omega,zHF hd l (v+1) fun i hi=>by
   have:=h (i+1) (by simp;omega)
   rw[show v+(i+1)=v+1+i by omega]at this
   simpa using this]
theorem zUB{head:Tm}{args outer:List Tm}{r:uT}{a:Tm}{d:Int}(hd:0≤d)(hh:∀c,vQ us head c=head)(hr:D0 r outer.length)(hg:zFK r) :
  vQ us (I9 head args outer r a) d=I9 head (args.map fun a=>vQ us a d) (outer.map fun a=>vQ us a d) r (vQ us a d):=by
 unfold I9
 rw[zOs,fG,J9,D8,D8,hh,D8,show d+(r.around.length:Int)=r.around.length+d by omega,zOu _ d hd,zOv _ _ (by omega)]
 have h1:=zHF (us:=us) hd r.around 0 (outer:=outer) (d:=d) fun i hi=>⟨hg.1 _ (List.getElem_mem hi),by simpa using hr.1 i hi⟩
 rw[show ((0:Nat):Int)+d=d by omega]at h1
 rw[h1]
 have h2:(r.at'.map fun t=>oZ t r.around.length outer).map (fun a=>vQ us a (r.around.length+d))=r.at'.map fun t=>oZ t r.around.length (outer.map fun a=>vQ us a d):=by
  rw[List.map_map]
  exact List.map_congr_left fun t ht=>zOt hd (hg.2 t ht) (hr.2 t ht)
 have h3:=zHD us r.around.length d (by omega) hd a 0 (Int.le_refl 0)
 rw[Int.zero_add,Int.zero_add]at h3
 rw[h2,h3]
theorem zDO{dd lev:Int}{args own:List Tm}{pars:Nat}{d:Int}(hd:0≤d)(hp:pars≤args.length):∀(rs:List uT) (v:Nat) (t:Tm),v+rs.length≤own.length->(∀(i:Nat) (h:i<rs.length),D0 rs[i] (pars+(v+i))∧zFK rs[i]) ->
  vQ us (tD dd lev args own pars rs v t) d=tD dd lev (args.map fun a=>vQ us a d) (own.map fun a=>vQ us a d) pars rs v (vQ us t d)
 | [],v,t,_,_=>rfl
 |r::rs,v,t,hl,hr=>by
  rw[List.length_cons]at hl
  rw[tD,tD,zDO hd hp rs (v+1) _ (by omega) (fun i hi=>by
   have:=hr (i+1) (by simp;omega)
   rw[show v+1+i=v+(i+1) by omega]
   simpa using this)]
  congr 1
  by_cases h:r.is=true
  ·have h0:=hr 0 (by simp)
   have hlen:(args.take pars++own.take v).length=pars+v:=by rw[List.length_append,List.length_take,List.length_take];omega
   rw[if_pos h,if_pos h,J9,zUB hd (fun c=>?_) (by rw[hlen];simpa using h0.1) (by simpa using h0.2),List.map_append,List.map_take,List.map_take,P2 _ (by simp;omega)]
   rw[uL (by decide),rN,rN,uL (by decide),rN]
  ·rw[if_neg h,if_neg h]
theorem zRp{N:ByteArray->Bool}{l:List zU}{dd lev c:Int}{args own:List Tm}{d:Int}(hd:0≤d)(hE:xA N l)(hc:kH l c 2=true)(hf:(zK l c).fam=dd)(ha:(args.length:Int)=(zK l dd).pars+1+(zK l dd).cons.length)(ho:own.length=(xU l c).args.length) :
  vQ us (kL l dd lev c args own) d=kL l dd lev c (args.map fun a=>vQ us a d) (own.map fun a=>vQ us a d):=by
 have hi:=wU hc
 obtain⟨A,y,hw,hy,hA,hAp,hA24,p0,p1,f0,f1,fk,fp,fi,fs,hap,q0,q1⟩:=vB hE hi.1 hi.2.1 hi.2.2
 rw[hf]at fp q1
 have hlen:(xU l c).recs.length=(xU l c).args.length:=by unfold xU;exact kI l _ _ _
 have hsc:=W4 hE hi.1 hi.2.1 hi.2.2
 unfold kL
 rw[zDO hd (pars:=(zK l dd).pars.toNat) (by omega) _ 0 _ (by omega) (fun i hi=>?_),D8,P2 _ (by omega)]
 have:=hsc i hi
 rw[fp,show (zK l dd).pars.toNat+i=(zK l dd).pars.toNat+(0+i) by omega]at this
 exact⟨this,zHB _ (List.getElem_mem hi)⟩
end
def yI(P:Tm->Tm->Prop):List Tm->List Tm->Prop
 | [],[]=>True
 |a::l,b::m=>P a b∧yI P l m
 |_,_=>False
section
variable {P Q:Tm->Tm->Prop}
theorem yI.iff:∀ {l m:List Tm},yI P l m↔l.length=m.length∧∀i:Nat,i<l.length->P (l.getD i zT) (m.getD i zT)
 | [],[]=>⟨fun _=>⟨rfl,fun i h=>absurd h (by simp)⟩,fun _=>trivial⟩
 | [],_::_=>⟨fun h=>h.elim,fun h=>absurd h.1 (by simp)⟩
 |_::_,[]=>⟨fun h=>h.elim,fun h=>absurd h.1 (by simp)⟩
 |a::l,b::m=>by
  rw[yI,yI.iff (l:=l) (m:=m)]
  constructor
  ·rintro ⟨h,h1,h2⟩
   refine⟨by simp[h1],fun i hi=>?_⟩
   rcases i with _|i
   ·exact h
   ·exact h2 i (by simpa using hi)
  ·rintro ⟨h1,h2⟩
   exact⟨h2 0 (by simp),by simpa using h1,fun i hi=>h2 (i+1) (by simpa using hi)⟩
theorem yI.len:∀ {l m:List Tm},yI P l m->l.length=m.length
 | [],[],_=>rfl
 |_::_,_::_,⟨_,b⟩=>by rw[List.length_cons,List.length_cons,yI.len b]
theorem yI.refl(h:∀a,P a a):∀l:List Tm,yI P l l
 | []=>trivial
 |a::l=>⟨h a,yI.refl h l⟩
theorem yI.app:∀ {l m l' m':List Tm},yI P l m->yI P l' m'->yI P (l++l') (m++m')
 | [],[],_,_,_,h=>h
 |_::_,_::_,_,_,⟨a,b⟩,h=>⟨a,yI.app b h⟩
theorem yI.take:∀ {l m:List Tm} (n:Nat),yI P l m->yI P (l.take n) (m.take n)
 | [],[],n,_=>by rw[List.take_nil];trivial
 |a::l,b::m,0,_=>trivial
 |a::l,b::m,n+1,⟨h,t⟩=>⟨h,yI.take n t⟩
theorem yI.drop:∀ {l m:List Tm} (n:Nat),yI P l m->yI P (l.drop n) (m.drop n)
 | [],[],n,_=>by rw[List.drop_nil];trivial
 |a::l,b::m,0,h=>h
 |a::l,b::m,n+1,⟨_,t⟩=>yI.drop n t
theorem yI.map{f g:Tm->Tm}(h:∀a b,P a b->Q (f a) (g b)):∀ {l m:List Tm},yI P l m->yI Q (l.map f) (m.map g)
 | [],[],_=>trivial
 |_::_,_::_,⟨a,b⟩=>⟨h _ _ a,yI.map h b⟩
theorem yI.rev:∀ {l m:List Tm},yI P l m->yI P l.reverse m.reverse
 | [],[],_=>trivial
 |_::_,_::_,⟨a,b⟩=>by rw[List.reverse_cons,List.reverse_cons];exact(yI.rev b).app ⟨a,trivial⟩
theorem yI.nth(hz:P zT zT):∀ {l m:List Tm} (n:Int),yI P l m->P (nth l n) (nth m n):=by
 intro l m n h
 unfold Go.Proofs.YtbpkpdnneffccaaGreat.nth
 have k:=yI.iff.1 h
 by_cases hn:n.toNat<l.length
 ·have:=k.2 n.toNat hn
  simpa[List.getD]using this
 ·rw[List.getElem?_eq_none (by omega),List.getElem?_eq_none (by omega)];exact hz
theorem yI.get{l m:List Tm}(h:yI P l m)(i:Nat)(h1:i<l.length)(h2:i<m.length):P l[i] m[i]:=by
 have:=(yI.iff.1 h).2 i h1
 simpa[List.getD,h1,h2]using this
end
inductive t7 where
 |delta (c:Int)
 |fld (f c:Int)
 |io (d lev c:Int)
def rX(l:List zU):t7->Nat
 | .delta _=>0
 | .fld f _=>(zK l f).pars.toNat
 | .io d _ _=>(xI (zK l d)-1).toNat
def mL(l:List zU):t7->Nat
 | .delta _=>0
 | .fld f c=>(zK l f).pars.toNat+vZ (zK l c).type
 | .io d _ c=>(xI (zK l d)-1).toNat+vZ (zK l c).type
def zUC:t7->Tm
 | .delta c=>.mk 6 c []
 | .fld f _=>.mk 6 f []
 | .io d lev _=>.mk 7 d [.mk 2 lev []]
def vW(l:List zU):t7->List Tm->Tm
 | .delta c,_=>.mk 6 c []
 | .fld f c,ps=>.mk 5 0 [wJ (.mk 6 f []) (ps.take (rX l (.fld f c))),wJ (.mk 6 c []) (ps.drop (rX l (.fld f c)))]
 | .io d lev c,ps=>.mk 5 0 [wJ (.mk 7 d [.mk 2 lev []]) (ps.take (rX l (.io d lev c))),wJ (.mk 6 c []) (ps.drop (rX l (.io d lev c)))]
def pF(l:List zU):t7->List Tm->Tm
 | .delta c,_=>(zK l c).body
 | .fld f c,ps=>nth ((ps.drop (rX l (.fld f c))).drop (zK l c).pars.toNat) (zK l f).place
 | .io d lev c,ps=>kL l d lev c (ps.take ((zK l d).pars+1+(zK l d).cons.length).toNat) ((ps.drop (rX l (.io d lev c))).drop (zK l d).pars.toNat)
def oT(l:List zU):t7->Prop
 | .delta c=>0≤c∧c<l.length∧(zK l c).kind=3
 | .fld f c=>0≤f∧f<l.length∧(zK l f).kind=4∧kH l c 2=true∧(zK l c).fam=(zK l f).fam
 | .io d _ c=>kH l d 1=true∧kH l c 2=true∧(zK l c).fam=d
inductive Pr (l:List zU):Tm->Tm->Prop
 |node0 {k n:Int} {ts us:List Tm}:ts.length=us.length->(∀i:Nat,i<ts.length->Pr l (ts.getD i zT) (us.getD i zT))->Pr l (.mk k n ts) (.mk k n us)
 |beta {n m:Int} {A b b' a a':Tm}:Pr l b b'->Pr l a a'->Pr l (.mk 5 n [.mk 4 m [A,b],a]) (vQ [a'] b' 0)
 |rule0 {g:t7} {ps qs:List Tm}:oT l g->ps.length=mL l g->ps.length=qs.length->(∀i:Nat,i<ps.length->Pr l (ps.getD i zT) (qs.getD i zT))->Pr l (vW l g ps) (pF l g qs)
section
variable {l:List zU}
theorem Pr.node{k n:Int}{ts us:List Tm}(h:yI (Pr l) ts us):Pr l (.mk k n ts) (.mk k n us):=.node0 (yI.iff.1 h).1 (yI.iff.1 h).2
theorem Pr.rule{g:t7}{ps qs:List Tm}(h1:oT l g)(h2:ps.length=mL l g)(h:yI (Pr l) ps qs):Pr l (vW l g ps) (pF l g qs):=.rule0 h1 h2 (yI.iff.1 h).1 (yI.iff.1 h).2
theorem Pr.ind{C:Tm->Tm->Prop}
  (node:∀ {k n:Int} {ts us:List Tm},yI (fun a b=>Pr l a b∧C a b) ts us->C (.mk k n ts) (.mk k n us))
  (beta:∀ {n m:Int} {A b b' a a':Tm},Pr l b b'->Pr l a a'->C b b'->C a a'->C (.mk 5 n [.mk 4 m [A,b],a]) (vQ [a'] b' 0))
  (rule:∀ {g:t7} {ps qs:List Tm},oT l g->ps.length=mL l g->yI (fun a b=>Pr l a b∧C a b) ps qs->C (vW l g ps) (pF l g qs))
  {t u:Tm} (h:Pr l t u):C t u:=by
 induction h with
 |node0 h1 h2 ih=>exact node (yI.iff.2 ⟨h1,fun i hi=>⟨h2 i hi,ih i hi⟩⟩)
 |beta h1 h2 i1 i2=>exact beta h1 h2 i1 i2
 |rule0 h1 h2 h3 h4 ih=>exact rule h1 h2 (yI.iff.2 ⟨h3,fun i hi=>⟨h4 i hi,ih i hi⟩⟩)
mutual
theorem Pr.refl:∀t:Tm,Pr l t t
 | .mk k n ts=>.node (PrL.refl ts)
theorem PrL.refl:∀ts:List Tm,yI (Pr l) ts ts
 | []=>trivial
 |t::ts=>⟨Pr.refl t,PrL.refl ts⟩
end
theorem Pr.app{n:Int}{f f' a a':Tm}(h:Pr l f f')(k:Pr l a a'):Pr l (.mk 5 n [f,a]) (.mk 5 n [f',a']):=.node ⟨h,k,trivial⟩
theorem Pr.ap:∀ {xs bs:List Tm} {f f':Tm},Pr l f f'->yI (Pr l) xs bs->Pr l (wJ f xs) (wJ f' bs)
 | [],[],_,_,h,_=>h
 |_::_,_::_,_,_,h,⟨a,b⟩=>by rw[wJ,wJ];exact Pr.ap (h.app a) b
theorem zHG{k:Int}{P:Tm->Tm->Prop}{Q:Tm->Tm->Prop}(h:∀a b,P a b->∀d,0≤d->Q (vS a d 0 k) (vS b d 0 k)):∀ {ts us:List Tm} (kd:Int) (i:Nat) (d:Int),0≤d->yI P ts us->yI Q (sC ts kd i d 0 k) (sC us kd i d 0 k)
 | [],[],kd,i,d,hd,_=>by rw[sC];trivial
 |t::ts,u::us,kd,i,d,hd,⟨a,b⟩=>by
  rw[sC,sC]
  have:=eN kd i d
  exact⟨h _ _ a _ (by omega),zHG h kd (i+1) d hd b⟩
theorem zBi{ls ms:List Tm}{P:Tm->Tm->Prop}{Q:Tm->Tm->Prop}(h:∀a b,P a b->∀d,0≤d->Q (vQ ls a d) (vQ ms b d)):∀ {ts us:List Tm} (kd:Int) (i:Nat) (d:Int),0≤d->yI P ts us->yI Q (rN ls ts kd i d) (rN ms us kd i d)
 | [],[],kd,i,d,hd,_=>by rw[rN,rN];trivial
 |t::ts,u::us,kd,i,d,hd,⟨a,b⟩=>by
  rw[rN,rN]
  have:=eN kd i d
  exact⟨h _ _ a _ (by omega),zBi h kd (i+1) d hd b⟩
theorem zDP{ts:List Tm}{n:Int}(f:Tm->Tm)(h:f zT=zT):nth (ts.map f) n=f (nth ts n):=by
 unfold nth
 rw[List.getElem?_map]
 cases ts[n.toNat]? with
 |none=>exact h.symm
 |some a=>rfl
end
section
variable {N:ByteArray->Bool} {l:List zU}
theorem zOr(hE:xA N l){d lev c:Int}{ps:List Tm}(hg:oT l (.io d lev c))(hp:ps.length=mL l (.io d lev c)) :
  ((ps.take ((zK l d).pars+1+(zK l d).cons.length).toNat).length:Int)=(zK l d).pars+1+(zK l d).cons.length∧((ps.drop (rX l (.io d lev c))).drop (zK l d).pars.toNat).length=(xU l c).args.length:=by
 obtain⟨h1,h2,h3⟩:=hg
 have hi:=wU h2
 obtain⟨A,y,hw,hy,hA,hAp,hA24,p0,p1,f0,f1,fk,fp,fi,fs,hap,q0,q1⟩:=vB hE hi.1 hi.2.1 hi.2.2
 rw[h3]at fp q1 fk fi fs
 have ha:xI (zK l d)=(zK l d).pars+2+(zK l d).cons.length+(zK l d).inds:=by unfold xI;rw[if_pos fk]
 have e1:ps.length=(xI (zK l d)-1).toNat+vZ (zK l c).type:=hp
 have e2:rX l (.io d lev c)=(xI (zK l d)-1).toNat:=rfl
 have e3:(xU l c).args=A.drop (zK l c).pars.toNat:=by unfold xU;rw[hw]
 rw[List.length_take,List.length_drop,List.length_drop,e1,e2,e3,List.length_drop]
 omega
theorem zDQ(hE:xA N l){c:Int}(hg:oT l (.delta c)):xG (zK l c).body=true∧∀d,0≤d->∀j,¬j∈tC (zK l c).body d:=by
 have hb:=(yQ (hE.2 _ hg.1 hg.2.1)).2.2.2.2.1 hg.2.2
 unfold zDw at hb
 simp only[Bool.and_eq_true]at hb
 exact⟨(zI (sL hb.1)).2.2,fun d hd j=>I7 hb.1 d j hd⟩
theorem zOq(hE:xA N l){d k:Int}(hd:0≤d)(hk:0≤k){g:t7}{ps:List Tm}(hg:oT l g)(hp:ps.length=mL l g) :
  vS (vW l g ps) d 0 k=vW l g (ps.map fun a=>vS a d 0 k)∧vS (pF l g ps) d 0 k=pF l g (ps.map fun a=>vS a d 0 k):=by
 have h6:∀c:Int,vS (.mk 6 c []) d 0 k = .mk 6 c []:=fun c=>by rw[wV (by decide),sC]
 cases g with
 |delta c=>
  have hb:=zDQ hE hg
  exact⟨h6 c,zNS k hk _ _ hb.1 (hb.2 d hd)⟩
 |fld f c=>
  constructor
  ·rw[vW,vW,J8,D7,D7,h6,h6,List.map_take,List.map_drop]
  ·rw[pF,pF,←List.map_drop,←List.map_drop,zDP (fun a=>vS a d 0 k)]
   show vS (.mk 0 0 []) d 0 k=_
   rw[wV (by decide),sC];rfl
 |io i lev c=>
  constructor
  ·rw[vW,vW,J8,D7,D7,h6,List.map_take,List.map_drop]
   have:vS (.mk 7 i [.mk 2 lev []]) d 0 k = .mk 7 i [.mk 2 lev []]:=by
    rw[wV (by decide),sC,sC,wV (by decide),sC]
   rw[this]
  ·have hl:=zOr hE hg hp
   rw[pF,pF,←List.map_drop,←List.map_drop,←List.map_take,zRq hd hk hE hg.2.1 hg.2.2 hl.1 hl.2]
theorem zOp(hE:xA N l){us:List Tm}{d:Int}(hd:0≤d){g:t7}{ps:List Tm}(hg:oT l g)(hp:ps.length=mL l g) :
  vQ us (vW l g ps) d=vW l g (ps.map fun a=>vQ us a d)∧vQ us (pF l g ps) d=pF l g (ps.map fun a=>vQ us a d):=by
 have h6:∀c:Int,vQ us (.mk 6 c []) d = .mk 6 c []:=fun c=>by rw[uL (by decide),rN]
 cases g with
 |delta c=>
  have hb:=zDQ hE hg
  exact⟨h6 c,zOx us _ _ hb.1 (hb.2 d hd)⟩
 |fld f c=>
  constructor
  ·rw[vW,vW,J9,D8,D8,h6,h6,List.map_take,List.map_drop]
  ·rw[pF,pF,←List.map_drop,←List.map_drop,zDP (fun a=>vQ us a d)]
   show vQ us (.mk 0 0 []) d=_
   rw[uL (by decide),rN];rfl
 |io i lev c=>
  constructor
  ·rw[vW,vW,J9,D8,D8,h6,List.map_take,List.map_drop]
   have:vQ us (.mk 7 i [.mk 2 lev []]) d = .mk 7 i [.mk 2 lev []]:=by
    rw[uL (by decide),rN,rN,uL (by decide),rN]
   rw[this]
  ·have hl:=zOr hE hg hp
   rw[pF,pF,←List.map_drop,←List.map_drop,←List.map_take,zRp hd hE hg.2.1 hg.2.2 hl.1 hl.2]
theorem zOo(hE:xA N l){k:Int}(hk:0≤k){t u:Tm}(h:Pr l t u):∀d,0≤d->Pr l (vS t d 0 k) (vS u d 0 k):=by
 refine Pr.ind (C:=fun t u=>∀d,0≤d->Pr l (vS t d 0 k) (vS u d 0 k)) ?_ ?_ ?_ h
 ·intro kd n ts us h d hd
  by_cases h1:kd=1
  ·subst h1;rw[tU hk,tU hk];exact .refl _
  ·rw[wV h1,wV h1]
   exact .node (zHG (fun a b h=>h.2) kd 0 d hd h)
 ·intro n m A b b' a a' _ _ ib ia d hd
  have h2:=zNQ d k hd hk [a'] b' 0 (Int.le_refl 0)
  rw[Int.zero_add,Int.zero_add,show ((([a']:List Tm).length:Int)+d)=d+1 by simp;omega]at h2
  rw[J8,zHa,h2]
  exact .beta (ib _ (by omega)) (ia _ hd)
 ·intro g ps qs hg hp h d hd
  have hq:qs.length=mL l g:=by rw[←h.len];exact hp
  rw[(zOq hE hd hk hg hp).1,(zOq hE hd hk hg hq).2]
  exact .rule hg (by rw[List.length_map];exact hp) (h.map fun a b h=>h.2 d hd)
theorem zAv(hE:xA N l){t u:Tm}(h:Pr l t u):∀(us vs:List Tm),yI (Pr l) us vs->∀d,0≤d->Pr l (vQ us t d) (vQ vs u d):=by
 refine Pr.ind (C:=fun t u=>∀(us vs:List Tm),yI (Pr l) us vs->∀d,0≤d->Pr l (vQ us t d) (vQ vs u d)) ?_ ?_ ?_ h
 ·intro kd n ts ts' h us vs hv d hd
  by_cases h1:kd=1
  ·subst h1
   by_cases h2:d≤n
   ·have hl:=hv.len
    by_cases h3:(n-d).toNat<us.length
    ·rw[M7 h2 h3,M7 h2 (by omega)]
     exact zOo hE hd (hv.get _ h3 (by omega)) 0 (Int.le_refl 0)
    ·rw[cC h2 h3,cC h2 (by omega),hl];exact .refl _
   ·rw[mK h2,mK h2]
    exact .node (zBi (fun a b h=>h.2 us vs hv) 1 0 d hd h)
  ·rw[uL h1,uL h1]
   exact .node (zBi (fun a b h=>h.2 us vs hv) kd 0 d hd h)
 ·intro n m A b b' a a' _ _ ib ia us vs hv d hd
  have h2:=zOy vs [a'] d hd b' 0 (Int.le_refl 0)
  rw[Int.zero_add,Int.zero_add,show ((([a']:List Tm).length:Int)+d)=d+1 by simp;omega]at h2
  rw[J9,zHE,h2]
  exact .beta (ib us vs hv _ (by omega)) (ia us vs hv _ hd)
 ·intro g ps qs hg hp h us vs hv d hd
  have hq:qs.length=mL l g:=by rw[←h.len];exact hp
  rw[(zOp hE hd hg hp).1,(zOp hE hd hg hq).2]
  exact .rule hg (by rw[List.length_map];exact hp) (h.map fun a b h=>h.2 us vs hv d hd)
theorem zOn(hE:xA N l){n:Nat}{us vs:List Tm}(h:yI (Pr l) us vs):yI (Pr l) (M3 n us) (M3 n vs):=by
 unfold M3
 exact yI.map (P:=Pr l) (fun a b h=>zOo hE (k:=(n:Int)) (by omega) h 0 (Int.le_refl 0)) h
theorem zOm(hE:xA N l)(t:Tm)(own:Nat){us vs:List Tm}(h:yI (Pr l) us vs):Pr l (oZ t own us) (oZ t own vs):=by
 unfold oZ
 exact zAv hE (.refl t) _ _ (yI.app (PrL.refl _) (zOn hE h).rev) 0 (Int.le_refl 0)
theorem zHH(hE:xA N l){us vs:List Tm}(h:yI (Pr l) us vs):∀(r:List Tm) (v:Nat),yI (Pr l) (sU us r v) (sU vs r v)
 | [],v=>trivial
 |t::r,v=>⟨zOm hE t v h,zHH hE h r (v+1)⟩
theorem zOl:∀ {us vs:List Tm} {t u:Tm},yI (Pr l) us vs->Pr l t u->Pr l (lM us t) (lM vs u)
 | [],[],_,_,_,h=>h
 |_::_,_::_,_,_,⟨a,b⟩,h=>.node ⟨a,zOl b h,trivial⟩
theorem zUD(hE:xA N l){head:Tm}{xs bs us vs:List Tm}{r:uT}{a b:Tm}(ha:yI (Pr l) xs bs)(hu:yI (Pr l) us vs)(h:Pr l a b):Pr l (I9 head xs us r a) (I9 head bs vs r b):=by
 unfold I9
 refine zOl (zHH hE hu _ _) (.app (.ap (.ap (.refl _) (zOn hE ha)) ?_) (.ap (zOo hE (k:=(r.around.length:Int)) (by omega) h 0 (Int.le_refl 0)) (PrL.refl _)))
 generalize r.at'=L
 induction L with
 |nil=>exact trivial
 |cons t L ih=>exact⟨zOm hE t _ hu,ih⟩
theorem zDR(hE:xA N l){dd lev:Int}{xs bs us vs:List Tm}{pars:Nat}(ha:yI (Pr l) xs bs)(hu:yI (Pr l) us vs):∀(rs:List uT) (v:Nat) (t u:Tm),Pr l t u->Pr l (tD dd lev xs us pars rs v t) (tD dd lev bs vs pars rs v u)
 | [],v,t,u,h=>h
 |r::rs,v,t,u,h=>by
  rw[tD,tD]
  refine zDR hE ha hu rs (v+1) _ _ ?_
  by_cases hr:r.is=true
  ·rw[if_pos hr,if_pos hr]
   exact h.app (zUD hE ha ((ha.take _).app (hu.take _)) (hu.nth (.refl _) _))
  ·rw[if_neg hr,if_neg hr];exact h
theorem zBh(hE:xA N l)(g:t7){ps qs:List Tm}(h:yI (Pr l) ps qs):Pr l (pF l g ps) (pF l g qs):=by
 cases g with
 |delta c=>exact .refl _
 |fld f c=>exact((h.drop _).drop _).nth (.refl _) _
 |io d lev c=>
  rw[pF,pF]
  unfold kL
  exact zDR hE (h.take _) ((h.drop _).drop _) _ _ _ _ (.ap ((h.take _).nth (.refl _) _) ((h.drop _).drop _))
end
theorem zDS:∀(l:List Tm) (f:Tm),(wJ f l).nodes=f.nodes+yN l+l.length
 | [],f=>by rw[wJ,yN];simp
 |a::l,f=>by rw[wJ,zDS l,Tm.nodes,yN,yN,yN,yN,List.length_cons];omega
theorem zBg:∀ {l:List Tm},∀x∈l,x.nodes≤yN l
 |a::l,x,h=>by
  rw[yN]
  rcases List.mem_cons.1 h with h|h
  ·subst h;omega
  ·have:=zBg x h;omega
section
variable {N:ByteArray->Bool} {l:List zU}
theorem Pr.inv{t u:Tm}(h:Pr l t u):(∃us,u = .mk t.k t.n us∧yI (Pr l) t.sub us)∨(∃n m A b b' a a',t = .mk 5 n [.mk 4 m [A,b],a]∧u=vQ [a'] b' 0∧Pr l b b'∧Pr l a a')∨(∃g ps qs,oT l g∧ps.length=mL l g∧yI (Pr l) ps qs∧t=vW l g ps∧u=pF l g qs):=by
 cases h with
 |node0 h1 h2=>exact .inl ⟨_,rfl,yI.iff.2 ⟨h1,h2⟩⟩
 |beta h1 h2=>exact .inr (.inl ⟨_,_,_,_,_,_,_,rfl,rfl,h1,h2⟩)
 |rule0 h1 h2 h3 h4=>exact .inr (.inr ⟨_,_,_,h1,h2,yI.iff.2 ⟨h3,h4⟩,rfl,rfl⟩)
theorem iG(g:t7)(ps:List Tm):zN (vW l g ps)=zUC g:=by
 cases g with
 |delta c=>exact vH (t:=.mk 6 c []) (by show (6:Int)≠5;decide)
 |fld f c=>rw[vW,qO,W8];exact vH (t:=.mk 6 f []) (by show (6:Int)≠5;decide)
 |io d lev c=>rw[vW,qO,W8];exact vH (t:=.mk 7 d [.mk 2 lev []]) (by show (7:Int)≠5;decide)
theorem N5{h:Tm}(hk:h.k≠5)(xs:List Tm):zN (wJ h xs)=h:=by rw[W8,vH hk]
theorem gC{h:Tm}(hk:h.k≠5)(xs:List Tm):yG (wJ h xs)=xs:=by rw[zBq,tL hk];rfl
def zHI(l:List zU)(h:Tm)(xs:List Tm):Prop:=h.k≠5∧(h.k=4->xs=[])∧∀pre suf,xs=pre++suf->∀g ps,oT l g->ps.length=mL l g->wJ h pre≠vW l g ps
theorem D9{h:Tm}:∀(n:Nat) (xs:List Tm) (u:Tm),xs.length=n->zHI l h xs->Pr l (wJ h xs) u->∃us ys,u=wJ (.mk h.k h.n us) ys∧yI (Pr l) h.sub us∧yI (Pr l) xs ys:=by
 intro n
 induction n with
 |zero=>
  intro xs u hn hi hu
  obtain rfl:xs=[]:=List.length_eq_zero_iff.1 hn
  rcases hu.inv with⟨us,h1,h2⟩|⟨_,_,_,_,_,_,_,h1,_⟩|⟨g,ps,qs,h1,h2,h3,h4,h5⟩
  ·exact⟨us,[],h1,h2,trivial⟩
  ·rw[wJ]at h1
   exact absurd (by rw[h1];rfl) hi.1
  ·exact absurd h4 (hi.2.2 [] [] rfl g ps h1 h2)
 |succ n ih=>
  intro xs u hn hi hu
  obtain⟨zs,a,rfl⟩:∃zs a,xs=zs++[a]:=⟨xs.dropLast,xs.getLast (by intro h;rw[h]at hn;cases hn),(List.dropLast_concat_getLast _).symm⟩
  rw[fO]at hu
  have hz:zs.length=n:=by rw[List.length_append]at hn;simpa using hn
  have h4:h.k≠4:=fun h4=>by have:=hi.2.1 h4;simp at this
  rcases hu.inv with⟨us,h1,h2⟩|⟨_,_,_,_,_,_,_,h1,_⟩|⟨g,ps,qs,h1,h2,h3,h5,_⟩
  ·rcases us with _|⟨f',_|⟨a',_|⟨b',us⟩⟩⟩
   ·exact h2.elim
   ·exact h2.2.elim
   ·obtain⟨ws,ys,e1,e2,e3⟩:=ih zs f' hz ⟨hi.1,fun h=>absurd h h4,fun pre suf e=>hi.2.2 pre (suf++[a]) (by rw[e,List.append_assoc])⟩ h2.1
    exact⟨ws,ys++[a'],by rw[fO,←e1];exact h1,e2,e3.app ⟨h2.2.1,trivial⟩⟩
   ·exact h2.2.2.elim
  ·injection h1 with _ _ h1
   injection h1 with h1 _
   have hh:=N5 hi.1 zs
   rw[h1,vH (by show (4:Int)≠5;decide)]at hh
   exact absurd (by rw[←hh];rfl) h4
  ·exact absurd (by rw[fO];exact h5) (hi.2.2 (zs++[a]) [] (by simp) g ps h1 h2)
theorem zHJ{n:Int}{u:Tm}(h:Pr l (.mk 2 n []) u):u = .mk 2 n []:=by
 rcases h.inv with⟨us,h1,h2⟩|⟨_,_,_,_,_,_,_,h1,_⟩|⟨g,ps,qs,h1,h2,h3,h5,_⟩
 ·cases us with
  |nil=>exact h1
  |cons=>exact h2.elim
 ·injection h1 with h1;cases h1
 ·have:=iG (l:=l) g ps
  rw[←h5,vH (by show (2:Int)≠5;decide)]at this
  cases g<;>(injection this with this;cases this)
theorem zKu{c:Int}(hc:kH l c 2=true)(xs:List Tm):zHI l (.mk 6 c []) xs:=by
 refine⟨by show (6:Int)≠5;decide,fun h=>absurd h (by show (6:Int)≠4;decide),fun pre suf e g ps hg hp h=>?_⟩
 have hh:=N5 (h:=.mk 6 c []) (by show (6:Int)≠5;decide) pre
 rw[h,iG]at hh
 have h2:=(wU hc).2.2
 cases g with
 |delta d=>injection hh with _ hh;subst hh;have:=hg.2.2;omega
 |fld f d=>injection hh with _ hh;subst hh;have:=hg.2.2.1;omega
 |io d lev e=>injection hh with hh;cases hh
theorem zFM{c:Int}(hc:kH l c 2=true){xs:List Tm}{u:Tm}(h:Pr l (wJ (.mk 6 c []) xs) u):∃ys,u=wJ (.mk 6 c []) ys∧yI (Pr l) xs ys:=by
 obtain⟨us,ys,h1,h2,h3⟩:=D9 xs.length xs u rfl (zKu hc xs) h
 cases us with
 |nil=>exact⟨ys,h1,h3⟩
 |cons=>exact h2.elim
theorem lA{g:t7}(ps:List Tm)(hp:ps.length=mL l g):(ps.take (rX l g)).length=rX l g:=by
 rw[List.length_take,hp]
 cases g<;>simp only[mL,rX]<;>omega
theorem zRo{g g':t7}{ps ps':List Tm}(h1:oT l g)(h2:ps.length=mL l g)(h1':oT l g')(h2':ps'.length=mL l g')(h:vW l g ps=vW l g' ps'):g=g'∧ps=ps':=by
 have hh:=iG (l:=l) g ps
 rw[h,iG]at hh
 have k6:∀c:Int,(Tm.mk 6 c []).k≠5:=fun c=>by show (6:Int)≠5;decide
 have k7:∀(d:Int) (s:List Tm),(Tm.mk 7 d s).k≠5:=fun c _=>by show (7:Int)≠5;decide
 cases g with
 |delta c=>
  cases g' with
  |delta c'=>
   injection hh with _ hh
   subst hh
   have e1:ps=[]:=List.length_eq_zero_iff.1 h2
   have e2:ps'=[]:=List.length_eq_zero_iff.1 h2'
   exact⟨rfl,by rw[e1,e2]⟩
  |fld f c'=>injection hh with _ hh;subst hh;have:=h1.2.2;have:=h1'.2.2.1;omega
  |io d lev c'=>injection hh with hh;cases hh
 |fld f c=>
  cases g' with
  |delta c'=>injection hh with _ hh;subst hh;have:=h1'.2.2;have:=h1.2.2.1;omega
  |fld f' c'=>
   injection hh with _ hh
   subst hh
   rw[vW,vW]at h
   injection h with _ _ h
   injection h with ha h
   injection h with hb _
   have e1:=congrArg yG ha
   rw[gC (k6 _),gC (k6 _)]at e1
   have e2:=congrArg zN hb
   rw[N5 (k6 _),N5 (k6 _)]at e2
   injection e2 with _ e2
   subst e2
   have e3:=congrArg yG hb
   rw[gC (k6 _),gC (k6 _)]at e3
   exact⟨rfl,by rw[←List.take_append_drop (rX l (.fld f' c)) ps,←List.take_append_drop (rX l (.fld f' c)) ps',e1,e3]⟩
  |io d lev c'=>injection hh with hh;cases hh
 |io d lev c=>
  cases g' with
  |delta c'=>injection hh with hh;cases hh
  |fld f' c'=>injection hh with hh;cases hh
  |io d' lev' c'=>
   injection hh with _ hd hl
   injection hl with hl
   injection hl with _ hl
   subst hd
   subst hl
   rw[vW,vW]at h
   injection h with _ _ h
   injection h with ha h
   injection h with hb _
   have e1:=congrArg yG ha
   rw[gC (k7 _ _),gC (k7 _ _)]at e1
   have e2:=congrArg zN hb
   rw[N5 (k6 _),N5 (k6 _)]at e2
   injection e2 with _ e2
   subst e2
   have e3:=congrArg yG hb
   rw[gC (k6 _),gC (k6 _)]at e3
   exact⟨rfl,by rw[←List.take_append_drop (rX l (.io d' lev' c)) ps,←List.take_append_drop (rX l (.io d' lev' c)) ps',e1,e3]⟩
theorem zUE{g:t7}{ps:List Tm}(hp:ps.length=mL l g):(yG (vW l g ps)).length=(match g with | .delta _=>0|_=>rX l g+1):=by
 cases g with
 |delta c=>rw[vW,tL (by show (6:Int)≠5;decide)];rfl
 |fld f c=>rw[vW,rB,gC (by show (6:Int)≠5;decide),List.length_append,lA ps hp];rfl
 |io d lev c=>rw[vW,rB,gC (by show (7:Int)≠5;decide),List.length_append,lA ps hp];rfl
theorem zAu{g:t7}(hg:oT l g){xs:List Tm}(hx:xs.length=rX l g)(hd:∀c,g≠.delta c):zHI l (zUC g) xs:=by
 refine⟨?_,?_,fun pre suf e g' ps hg' hp h=>?_⟩
 ·cases g with
  |delta c=>show (6:Int)≠5;decide
  |fld f c=>show (6:Int)≠5;decide
  |io d lev c=>show (7:Int)≠5;decide
 ·cases g with
  |delta c=>exact fun h=>absurd h (by show (6:Int)≠4;decide)
  |fld f c=>exact fun h=>absurd h (by show (6:Int)≠4;decide)
  |io d lev c=>exact fun h=>absurd h (by show (7:Int)≠4;decide)
 ·have hk:(zUC g).k≠5:=by
   cases g with
   |delta c=>show (6:Int)≠5;decide
   |fld f c=>show (6:Int)≠5;decide
   |io d lev c=>show (7:Int)≠5;decide
  have hh:=N5 hk pre
  rw[h,iG]at hh
  have ha:=zUE (l:=l) hp
  rw[←h,gC hk]at ha
  have hl:=congrArg List.length e
  rw[List.length_append,hx]at hl
  cases g with
  |delta c=>exact hd c rfl
  |fld f c=>
   cases g' with
   |delta c'=>injection hh with _ hh;subst hh;have:=hg'.2.2;have:=hg.2.2.1;omega
   |fld f' c'=>
    injection hh with _ hh;subst hh
    simp only[rX]at hl ha;omega
   |io d lev c'=>injection hh with hh;cases hh
  |io d lev c=>
   cases g' with
   |delta c'=>injection hh with hh;cases hh
   |fld f' c'=>injection hh with hh;cases hh
   |io d' lev' c'=>
    injection hh with _ hh;subst hh
    simp only[rX]at hl ha;omega
theorem zOk{g:t7}{ps:List Tm}{u:Tm}(hg:oT l g)(hp:ps.length=mL l g)(h:Pr l (vW l g ps) u):∃qs,yI (Pr l) ps qs∧(u=vW l g qs∨u=pF l g qs):=by
 rcases h.inv with⟨us,h1,h2⟩|⟨n,m,A,b,b',a,a',h1,_⟩|⟨g',ps',qs,h1,h2,h3,h5,h6⟩
 ·cases g with
  |delta c=>
   have e1:ps=[]:=List.length_eq_zero_iff.1 hp
   subst e1
   cases us with
   |nil=>exact⟨[],trivial,.inl h1⟩
   |cons=>exact h2.elim
  |fld f c=>
   rcases us with _|⟨f',_|⟨a',_|⟨b',us⟩⟩⟩
   ·exact h2.elim
   ·exact h2.2.elim
   ·obtain⟨ws,xs,e1,e2,e3⟩:=D9 _ _ _ rfl (zAu hg (lA ps hp) (fun c h=>by cases h)) h2.1
    obtain⟨ys,e4,e5⟩:=zFM hg.2.2.2.1 h2.2.1
    have e6:ws=[]:=by cases ws with|nil=>rfl|cons=>exact e2.elim
    subst e6
    refine⟨xs++ys,?_,.inl ?_⟩
    ·rw[←List.take_append_drop (rX l (.fld f c)) ps];exact e3.app e5
    ·have hl:=e3.len
     rw[lA ps hp]at hl
     rw[h1,e1,e4]
     show Tm.mk 5 0 [wJ (.mk 6 f []) xs,wJ (.mk 6 c []) ys]=_
     rw[vW,hl,List.take_left,List.drop_left]
   ·exact h2.2.2.elim
  |io d lev c=>
   rcases us with _|⟨f',_|⟨a',_|⟨b',us⟩⟩⟩
   ·exact h2.elim
   ·exact h2.2.elim
   ·obtain⟨ws,xs,e1,e2,e3⟩:=D9 _ _ _ rfl (zAu hg (lA ps hp) (fun c h=>by cases h)) h2.1
    obtain⟨ys,e4,e5⟩:=zFM hg.2.1 h2.2.1
    have e6:ws=[.mk 2 lev []]:=by
     rcases ws with _|⟨w,_|⟨w',ws⟩⟩
     ·exact e2.elim
     ·rw[zHJ e2.1]
     ·exact e2.2.elim
    subst e6
    refine⟨xs++ys,?_,.inl ?_⟩
    ·rw[←List.take_append_drop (rX l (.io d lev c)) ps];exact e3.app e5
    ·have hl:=e3.len
     rw[lA ps hp]at hl
     rw[h1,e1,e4]
     show Tm.mk 5 0 [wJ (.mk 7 d [.mk 2 lev []]) xs,wJ (.mk 6 c []) ys]=_
     rw[vW,hl,List.take_left,List.drop_left]
   ·exact h2.2.2.elim
 ·have hh:=iG (l:=l) g ps
  rw[h1,qO,vH (by show (4:Int)≠5;decide)]at hh
  cases g<;>(injection hh with hh;cases hh)
 ·obtain⟨rfl,rfl⟩:=zRo hg hp h1 h2 h5
  exact⟨qs,h3,.inr h6⟩
end
section
variable {N:ByteArray->Bool} {l:List zU}
theorem yI.one{P:Tm->Tm->Prop}{a b:Tm}(h:P a b):yI P [a] [b]:=⟨h,trivial⟩
theorem zUF{m:Int}{A b u:Tm}(h:Pr l (.mk 4 m [A,b]) u):∃A' b',u = .mk 4 m [A',b']∧Pr l A A'∧Pr l b b':=by
 rcases h.inv with⟨us,h1,h2⟩|⟨_,_,_,_,_,_,_,h1,_⟩|⟨g,ps,qs,h1,h2,h3,h5,_⟩
 ·rcases us with _|⟨f',_|⟨a',_|⟨b',us⟩⟩⟩
  ·exact h2.elim
  ·exact h2.2.elim
  ·exact⟨f',a',h1,h2.1,h2.2.1⟩
  ·exact h2.2.2.elim
 ·injection h1 with h1;cases h1
 ·have:=iG (l:=l) g ps
  rw[←h5,vH (by show (4:Int)≠5;decide)]at this
  cases g<;>(injection this with this;cases this)
theorem zUG{g:t7}{ps:List Tm}{n m:Int}{A b a:Tm}(h:vW l g ps = .mk 5 n [.mk 4 m [A,b],a]):False:=by
 have hh:=iG (l:=l) g ps
 rw[h,qO,vH (by show (4:Int)≠5;decide)]at hh
 cases g<;>(injection hh with hh;cases hh)
theorem zHK{n m:Int}{A b a u:Tm}(h:Pr l (.mk 5 n [.mk 4 m [A,b],a]) u):∃A' b' a',Pr l A A'∧Pr l b b'∧Pr l a a'∧(u = .mk 5 n [.mk 4 m [A',b'],a']∨u=vQ [a'] b' 0):=by
 rcases h.inv with⟨us,h1,h2⟩|⟨_,_,_,_,b',_,a',h1,h2,h3,h4⟩|⟨g,ps,qs,h1,h2,h3,h5,_⟩
 ·rcases us with _|⟨f',_|⟨a',_|⟨b',us⟩⟩⟩
  ·exact h2.elim
  ·exact h2.2.elim
  ·obtain⟨A',b',e,hA,hb⟩:=zUF h2.1
   exact⟨A',b',a',hA,hb,h2.2.1,.inl (by rw[h1,e];rfl)⟩
  ·exact h2.2.2.elim
 ·injection h1 with _ _ h1
  injection h1 with e1 h1
  injection h1 with e2 _
  injection e1 with _ _ e1
  injection e1 with e3 e4
  injection e4 with e4 _
  subst e2;subst e3;subst e4
  exact⟨_,b',a',.refl _,h3,h4,.inr h2⟩
 ·exact(zUG h5.symm).elim
theorem zKt{g:t7}{ps:List Tm}(hp:ps.length=mL l g):∀a∈ps,a.nodes<(vW l g ps).nodes:=by
 intro a ha
 have hs:∀n:Nat,a∈ps.take n∨a∈ps.drop n:=fun n=>by
  rw[←List.take_append_drop n ps]at ha;exact List.mem_append.1 ha
 cases g with
 |delta c=>rw[List.length_eq_zero_iff.1 hp]at ha;cases ha
 |fld f c=>
  rw[vW,Tm.nodes,yN,yN,yN,zDS,zDS]
  rcases hs (rX l (.fld f c))with h|h<;>(have:=zBg a h;omega)
 |io d lev c=>
  rw[vW,Tm.nodes,yN,yN,yN,zDS,zDS]
  rcases hs (rX l (.io d lev c))with h|h<;>(have:=zBg a h;omega)
theorem zHL(g:t7){ps qs:List Tm}(h:yI (Pr l) ps qs):Pr l (vW l g ps) (vW l g qs):=by
 cases g with
 |delta c=>exact .refl _
 |fld f c=>exact .app (.ap (.refl _) (h.take _)) (.ap (.refl _) (h.drop _))
 |io d lev c=>exact .app (.ap (.refl _) (h.take _)) (.ap (.refl _) (h.drop _))
theorem X9:∀ {ts us vs:List Tm},(∀a∈ts,∀u v,Pr l a u->Pr l a v->∃w,Pr l u w∧Pr l v w)->yI (Pr l) ts us->yI (Pr l) ts vs->∃ws,yI (Pr l) us ws∧yI (Pr l) vs ws
 | [],[],[],_,_,_=>⟨[],trivial,trivial⟩
 |t::ts,u::us,v::vs,h,⟨a,b⟩,⟨c,d⟩=>by
  obtain⟨w,h1,h2⟩:=h t (by simp) _ _ a c
  obtain⟨ws,h3,h4⟩:=X9 (fun a ha=>h a (by simp[ha])) b d
  exact⟨w::ws,⟨h1,h3⟩,⟨h2,h4⟩⟩
theorem zRn(hE:xA N l):∀(n:Nat) (t u v:Tm),t.nodes≤n->Pr l t u->Pr l t v->∃w,Pr l u w∧Pr l v w:=by
 intro n
 induction n with
 |zero=>intro t u v hn;have:=uS t;omega
 |succ n ih=>
  intro t u v hn hu hv
  by_cases ht:∃g ps,oT l g∧ps.length=mL l g∧t=vW l g ps
  ·obtain⟨g,ps,hg,hp,rfl⟩:=ht
   obtain⟨us,hus,eu⟩:=zOk hg hp hu
   obtain⟨vs,hvs,ev⟩:=zOk hg hp hv
   obtain⟨ws,h1,h2⟩:=X9 (fun a ha u v=>ih a u v (by have:=zKt hp a ha;omega)) hus hvs
   have lu:us.length=mL l g:=by rw[←hus.len];exact hp
   have lv:vs.length=mL l g:=by rw[←hvs.len];exact hp
   rcases eu with rfl|rfl<;>rcases ev with rfl|rfl
   ·exact⟨vW l g ws,zHL g h1,zHL g h2⟩
   ·exact⟨pF l g ws,.rule hg lu h1,zBh hE g h2⟩
   ·exact⟨pF l g ws,zBh hE g h1,.rule hg lv h2⟩
   ·exact⟨pF l g ws,zBh hE g h1,zBh hE g h2⟩
  by_cases hb:∃n m A b a,t = .mk 5 n [.mk 4 m [A,b],a]
  ·obtain⟨j,m,A,b,a,rfl⟩:=hb
   obtain⟨A1,b1,a1,hA1,hb1,ha1,eu⟩:=zHK hu
   obtain⟨A2,b2,a2,hA2,hb2,ha2,ev⟩:=zHK hv
   simp only[Tm.nodes,yN]at hn
   obtain⟨A3,hA3,hA4⟩:=ih A _ _ (by omega) hA1 hA2
   obtain⟨b3,hb3,hb4⟩:=ih b _ _ (by omega) hb1 hb2
   obtain⟨a3,ha3,ha4⟩:=ih a _ _ (by omega) ha1 ha2
   rcases eu with rfl|rfl<;>rcases ev with rfl|rfl
   ·exact⟨.mk 5 j [.mk 4 m [A3,b3],a3],.app (.node ⟨hA3,hb3,trivial⟩) ha3,.app (.node ⟨hA4,hb4,trivial⟩) ha4⟩
   ·exact⟨vQ [a3] b3 0,.beta hb3 ha3,zAv hE hb4 _ _ (.one ha4) 0 (Int.le_refl 0)⟩
   ·exact⟨vQ [a3] b3 0,zAv hE hb3 _ _ (.one ha3) 0 (Int.le_refl 0),.beta hb4 ha4⟩
   ·exact⟨vQ [a3] b3 0,zAv hE hb3 _ _ (.one ha3) 0 (Int.le_refl 0),zAv hE hb4 _ _ (.one ha4) 0 (Int.le_refl 0)⟩
  have nd:∀ {u:Tm},Pr l t u->∃us,u = .mk t.k t.n us∧yI (Pr l) t.sub us:=fun h=>by
   rcases h.inv with h|⟨_,_,_,_,_,_,_,h1,_⟩|⟨g,ps,qs,h1,h2,h3,h5,_⟩
   ·exact h
   ·exact absurd ⟨_,_,_,_,_,h1⟩ hb
   ·exact absurd ⟨g,ps,h1,h2,h5⟩ ht
  obtain⟨us,rfl,hus⟩:=nd hu
  obtain⟨vs,rfl,hvs⟩:=nd hv
  obtain⟨ws,h1,h2⟩:=X9 (fun a ha u v=>ih a u v (by
   have:=zBg a ha
   obtain⟨k,i,ts⟩:=t
   rw[Tm.nodes]at hn
   show a.nodes≤n
   have:a.nodes≤yN ts:=this
   omega)) hus hvs
  exact⟨.mk t.k t.n ws,.node h1,.node h2⟩
inductive sX (l:List zU):Tm->Tm->Prop
 |refl {t:Tm}:sX l t t
 |step {t u v:Tm}:Pr l t u->sX l u v->sX l t v
theorem sX.one{t u:Tm}(h:Pr l t u):sX l t u:=.step h .refl
theorem sX.trans{t u v:Tm}(h:sX l t u)(k:sX l u v):sX l t v:=by
 induction h with
 |refl=>exact k
 |step a _ ih=>exact .step a (ih k)
theorem sX.ctx{F:Tm->Tm}(hF:∀a b,Pr l a b->Pr l (F a) (F b)){t u:Tm}(h:sX l t u):sX l (F t) (F u):=by
 induction h with
 |refl=>exact .refl
 |step a _ ih=>exact .step (hF _ _ a) ih
theorem zXq(hE:xA N l){t u v:Tm}(h:sX l t v):Pr l t u->∃w,sX l u w∧Pr l v w:=by
 intro k
 induction h generalizing u with
 |refl=>exact⟨u,.refl,k⟩
 |step a _ ih=>
  obtain⟨w,h1,h2⟩:=zRn hE _ _ _ _ (Nat.le_refl _) k a
  obtain⟨w',h3,h4⟩:=ih h2
  exact⟨w',.step h1 h3,h4⟩
theorem zSB(hE:xA N l){t u v:Tm}(h:sX l t u)(k:sX l t v):∃w,sX l u w∧sX l v w:=by
 induction h generalizing v with
 |refl=>exact⟨v,k,.refl⟩
 |step a _ ih=>
  obtain⟨w,h1,h2⟩:=zXq hE k a
  obtain⟨w',h3,h4⟩:=ih h1
  exact⟨w',h3,.step h2 h4⟩
def Jn(l:List zU)(x y:Tm):Prop:=∃z,sX l x z∧sX l y z
theorem Jn.refl(x:Tm):Jn l x x:=⟨x,.refl,.refl⟩
theorem Jn.symm{x y:Tm}(h:Jn l x y):Jn l y x:=by obtain⟨z,a,b⟩:=h;exact⟨z,b,a⟩
theorem Jn.down(hE:xA N l){x y x':Tm}(h:Jn l x y)(k:sX l x x'):Jn l x' y:=by
 obtain⟨z,a,b⟩:=h
 obtain⟨w,c,d⟩:=zSB hE a k
 exact⟨w,d,b.trans c⟩
theorem Jn.down2(hE:xA N l){x y x' y':Tm}(h:Jn l x y)(k:sX l x x')(k2:sX l y y'):Jn l x' y':=((h.down hE k).symm.down hE k2).symm
theorem sX.app{n:Int}{f f' a a':Tm}(h:sX l f f')(k:sX l a a'):sX l (.mk 5 n [f,a]) (.mk 5 n [f',a']):=
 (h.ctx (F:=fun f=>.mk 5 n [f,a]) fun _ _ h=>.app h (.refl _)).trans (k.ctx (F:=fun a=>.mk 5 n [f',a]) fun _ _ h=>.app (.refl _) h)
theorem sX.ap:∀ {xs bs:List Tm} {f f':Tm},sX l f f'->yI (sX l) xs bs->sX l (wJ f xs) (wJ f' bs)
 | [],[],_,_,h,_=>h
 |_::_,_::_,_,_,h,⟨a,b⟩=>by rw[wJ,wJ];exact sX.ap (h.app a) b
theorem sX.nodeL(k n:Int):∀ {ts us:List Tm} (pre:List Tm),yI (sX l) ts us->sX l (.mk k n (pre++ts)) (.mk k n (pre++us))
 | [],[],_,_=>.refl
 |t::ts,u::us,pre,⟨a,b⟩=>by
  have h1:=a.ctx (F:=fun a=>.mk k n (pre++a::ts)) fun x y h=>.node ((PrL.refl pre).app ⟨h,PrL.refl ts⟩)
  have h2:=sX.nodeL k n (pre++[u]) b
  rw[List.append_assoc,List.append_assoc]at h2
  exact h1.trans h2
theorem sX.node{k n:Int}{ts us:List Tm}(h:yI (sX l) ts us):sX l (.mk k n ts) (.mk k n us):=sX.nodeL k n [] h
theorem zRm{c:Int}(hc:kH l c 2=true){t u:Tm}(h:sX l t u):∀ {xs:List Tm},t=wJ (.mk 6 c []) xs->∃ys,u=wJ (.mk 6 c []) ys∧yI (sX l) xs ys:=by
 induction h with
 |refl=>exact fun h=>⟨_,h,yI.refl (fun _=>.refl) _⟩
 |step a _ ih=>
  intro xs e
  subst e
  obtain⟨ys,h1,h2⟩:=zFM hc a
  obtain⟨zs,h3,h4⟩:=ih h1
  refine⟨zs,h3,?_⟩
  have hl:=h2.len
  refine yI.iff.2 ⟨by rw[hl,h4.len],fun i hi=>.step ((yI.iff.1 h2).2 i hi) ((yI.iff.1 h4).2 i (by omega))⟩
end
section
variable {N:ByteArray->Bool} {l:List zU}
theorem rE:∀t:Tm,xG t=true->wJ (zN t) (yG t)=t:=by
 refine jG ?_ ?_
 ·intro t hg hk
  rw[vH hk,tL hk];rfl
 ·intro n a b hg ha hb ih
  have h0:n=0:=by
   have h:=wQ (xV hg).1
   have h1:=h.2.2.1
   have h2:=(h.2.2.2.2.2.1 (.inr (.inr rfl))).2
   have h3:(Tm.mk 5 n [a,b]).n=n:=rfl
   rw[h3]at h1 h2
   omega
  rw[qO,rB,fO,ih,h0]
theorem yI.get?{P:Tm->Tm->Prop}{xs ys:List Tm}(h:yI P xs ys){i:Nat}{b:Tm}(hb:ys[i]? = some b):∃a,xs[i]? = some a∧P a b:=by
 have hi:i<ys.length:=(List.getElem?_eq_some_iff.1 hb).1
 have hl:=h.len
 have h2:=h.get i (by omega) hi
 rw[(List.getElem?_eq_some_iff.1 hb).2]at h2
 exact⟨_,List.getElem?_eq_getElem (by omega),h2⟩
theorem yI.trans{xs ys zs:List Tm}(h:yI (Pr l) xs ys)(k:yI (sX l) ys zs):yI (sX l) xs zs:=by
 have hl:=h.len
 exact yI.iff.2 ⟨by rw[hl,k.len],fun i hi=>.step ((yI.iff.1 h).2 i hi) ((yI.iff.1 k).2 i (by omega))⟩
def Qt(l:List zU)(fam:Int)(t:Tm):Prop:=∀u,sX l t u->∀c xs,kH l c 2=true->(zK l c).fam=fam->xs.length=vZ (zK l c).type->u≠wJ (.mk 6 c []) xs
structure iV (l:List zU) (k n:Int) (xs:List Tm):Prop where
 app:k≠5
 lam:k=4->xs=[]
 delta:k=6->¬oT l (.delta n)
 fld:k=6->0≤n->n<l.length->(zK l n).kind=4->∀a,xs[(zK l n).pars.toNat]? = some a->Qt l (zK l n).fam a
 io:k=7->kH l n 1=true->∀a,xs[(xI (zK l n)-1).toNat]? = some a->Qt l n a
theorem iV.pr{k n:Int}{xs ys:List Tm}(h:iV l k n xs)(hp:yI (Pr l) xs ys):iV l k n ys:=by
 refine⟨h.app,fun e=>?_,h.delta,fun e h0 h1 h2 b hb=>?_,fun e h1 b hb=>?_⟩
 ·have:=h.lam e
  subst this
  cases ys with
  |nil=>rfl
  |cons=>exact hp.elim
 ·obtain⟨a,ha,hab⟩:=hp.get? hb
  exact fun u hu=>h.fld e h0 h1 h2 a ha u (.step hab hu)
 ·obtain⟨a,ha,hab⟩:=hp.get? hb
  exact fun u hu=>h.io e h1 a ha u (.step hab hu)
theorem zOj{xs pre suf ps:List Tm}{n:Nat}{a:Tm}(h1:xs=pre++suf)(h2:pre=ps++[a])(h3:ps.length=n):xs[n]? = some a:=by
 subst h1;subst h2;subst h3;simp
theorem iV.inert{h:Tm}{xs:List Tm}(hn:iV l h.k h.n xs):zHI l h xs:=by
 refine⟨hn.app,hn.lam,fun pre suf e g ps hg hp heq=>?_⟩
 have hh:=N5 hn.app pre
 rw[heq,iG]at hh
 have ha:=gC hn.app pre
 rw[heq]at ha
 subst hh
 have hd:(ps.drop (rX l g)).length=mL l g-rX l g:=by rw[List.length_drop,hp]
 cases g with
 |delta c=>exact hn.delta rfl hg
 |fld f c=>
  rw[vW,rB,gC (by show (6:Int)≠5;decide)]at ha
  refine hn.fld rfl hg.1 hg.2.1 hg.2.2.1 _ (zOj e ha.symm (lA ps hp)) _ .refl c _ hg.2.2.2.1 hg.2.2.2.2 ?_ rfl
  rw[hd];simp only[mL,rX];omega
 |io d lev c=>
  rw[vW,rB,gC (by show (7:Int)≠5;decide)]at ha
  refine hn.io rfl hg.1 _ (zOj e ha.symm (lA ps hp)) _ .refl c _ hg.2.1 hg.2.2 ?_ rfl
  rw[hd];simp only[mL,rX];omega
theorem zFN{t u:Tm}(hp:sX l t u):∀ {h:Tm} {xs:List Tm},t=wJ h xs->iV l h.k h.n xs->∃us ys,u=wJ (.mk h.k h.n us) ys∧yI (sX l) h.sub us∧yI (sX l) xs ys:=by
 induction hp with
 |refl=>exact fun {h xs} e _=>⟨h.sub,xs,by rw[uQ];exact e,yI.refl (fun _=>.refl) _,yI.refl (fun _=>.refl) _⟩
 |step a _ ih=>
  intro h xs e hn
  subst e
  obtain⟨us,ys,h1,h2,h3⟩:=D9 _ _ _ rfl hn.inert a
  obtain⟨us',ys',h4,h5,h6⟩:=ih h1 (hn.pr h3)
  exact⟨us',ys',h4,h2.trans h5,h3.trans h6⟩
theorem hd6{x:Tm}(hs:zH x=true)(hk:(zN x).k=6):zN x = .mk 6 (zN x).n []:=by
 have hg:=(zI (wG hs)).2.2
 revert hg hk
 generalize zN x=y
 intro hk hg
 obtain⟨kk,nn,ss⟩:=y
 have h1:kk=6:=hk
 have h2:ss=[]:=(wQ (xV hg).1).2.2.2.2.2.2.2.1 (.inr (.inr (.inl h1)))
 subst h1;subst h2;rfl
theorem hd7{x:Tm}(hs:zH x=true)(hk:(zN x).k=7):zN x = .mk 7 (zN x).n [.mk 2 (nth (zN x).sub 0).n []]:=by
 have hg:=(zI (wG hs)).2.2
 revert hg hk
 generalize zN x=y
 intro hk hg
 obtain⟨kk,nn,ss⟩:=y
 have h1:kk=7:=hk
 obtain⟨s,h2,h3⟩:=(wQ (xV hg).1).2.2.2.2.2.2.1 h1
 have h2:ss=[s]:=h2
 subst h1;subst h2
 obtain⟨k2,n2,s2⟩:=s
 have h3:k2=2:=h3
 have h4:s2=[]:=(wQ (xV (wC (xV hg).2).1).1).2.2.2.2.2.2.2.1 (.inr (.inl h3))
 subst h3;subst h4;rfl
theorem zXp{c:Int}{t:Tm}(h0:0≤c)(h:wR l t=2)(e:t = .mk 6 c []):kH l c 2=true:=by
 subst e
 have:=wD h (by decide)
 have h1:c<l.length:=this.2.1
 have h2:(zK l c).kind=2:=this.2.2
 unfold kH
 simp[h0,h1,h2]
theorem zOi{c:Int}(h:kH l c 2=true):wR l (.mk 6 c [])=2:=by
 have:=wU h
 unfold wR
 rw[if_pos (show (Tm.mk 6 c []).k=6 from rfl),if_pos (show (Tm.mk 6 c []).n<(l.length:Int)from this.2.1)];exact this.2.2
theorem zOh{z:Tm}(hs:zH z=true)(hc:vJ l z):kH l (zN z).n 2=true∧z=wJ (.mk 6 (zN z).n []) (yG z):=by
 have hk:=wD hc.1 (by decide)
 have h6:=hd6 hs hk.1
 refine⟨zXp (mH (zI (wG hs)).2.2) hc.1 h6,?_⟩
 rw[←h6,rE z (zI hs).2.2]
theorem zXo(hE:xA N l){a z:Tm}{fam:Int}(h:sX l a z)(hs:zH z=true)(hz:iV l (zN z).k (zN z).n (yG z))(hr:¬(vJ l z∧(zK l (zN z).n).fam=fam)):Qt l fam a:=by
 intro u hu c xs hc hf hl e
 subst e
 obtain⟨w,h1,h2⟩:=zSB hE h hu
 obtain⟨ys,e1,h3⟩:=zRm hc h2 rfl
 obtain⟨us,zs,e2,h4,h5⟩:=zFN h1 (rE z (zI hs).2.2).symm hz
 have k6:(Tm.mk 6 c []).k≠5:=by show (6:Int)≠5;decide
 have kz:(Tm.mk (zN z).k (zN z).n us).k≠5:=hz.app
 have e3:=congrArg zN e2
 rw[e1,N5 k6,N5 kz]at e3
 injection e3 with e3 e4
 have e5:=congrArg yG e2
 rw[e1,gC k6,gC kz]at e5
 refine hr ⟨⟨?_,?_⟩,?_⟩
 ·rw[hd6 hs e3.symm,←e4];exact zOi hc
 ·rw[h5.len,←e5,←h3.len,hl,←e4]
 ·rw[←e4];exact hf
end
section
variable {N:ByteArray->Bool} {l:List zU}
theorem zDT{t:Tm}(h:t.k=6)(h2:t.n<l.length):wR l t=(zK l t.n).kind:=by
 unfold wR;rw[if_pos h,if_pos h2]
theorem zKs{t:Tm}(h:t.k≠6):wR l t=0:=by
 unfold wR;rw[if_neg h]
theorem zDU:∀(a b:List Tm) (f:Tm),wJ f (a++b)=wJ (wJ f a) b
 | [],b,f=>rfl
 |x::a,b,f=>by rw[List.cons_append,wJ,zDU a b,wJ]
theorem zOg{x:Tm}(hs:zH x=true)(h:wW l x = .none):iV l (zN x).k (zN x).n (yG x):=by
 have hg:=mW x (zI hs).2.2
 unfold wW at h
 by_cases h1:(zN x).k=4∧0<(yG x).length
 ·rw[if_pos h1]at h;cases h
 rw[if_neg h1]at h
 by_cases h2:wR l (zN x)=3
 ·rw[if_pos h2]at h;cases h
 rw[if_neg h2]at h
 refine⟨hg.2.1,fun h4=>List.length_eq_zero_iff.1 (by omega),fun h6 hk=>h2 (by rw[zDT h6 hk.2.1];exact hk.2.2),fun h6 h0 h3 h4 a ha=>?_,fun h7 h3 a ha=>?_⟩
 ·rw[if_pos (by rw[zDT h6 h3];exact h4)]at h
  have:=(List.getElem?_eq_some_iff.1 ha).1
  split at h
  ·omega
  ·cases h
 ·rw[if_neg (by rw[zKs (by omega)];decide),if_pos h7]at h
  have:=(List.getElem?_eq_some_iff.1 ha).1
  split at h
  ·cases h
  ·rename_i h5
   exact absurd ⟨h3,by omega⟩ h5
theorem zOf(hE:xA N l){x a:Tm}(hs:zH x=true)(h:wW l x = .tgt a):(wR l (zN x)=4∧(yG x)[(zK l (zN x).n).pars.toNat]? = some a)∨(wR l (zN x)≠4∧(zN x).k=7∧kH l (zN x).n 1=true∧xI (zK l (zN x).n)≤(yG x).length∧(yG x)[(xI (zK l (zN x).n)-1).toNat]? = some a):=by
 have hm:0<(yG x).length:=List.length_pos_of_mem (iB hE hs h).1
 have nt:∀ {n:Int},n<(yG x).length->nth (yG x) n=a->(yG x)[n.toNat]? = some a:=fun {n} hn e=>by
  unfold nth at e
  rw[List.getElem?_eq_getElem (by omega)]at e ⊢
  exact congrArg some e
 unfold wW at h
 by_cases h1:(zN x).k=4∧0<(yG x).length
 ·rw[if_pos h1]at h;cases h
 rw[if_neg h1]at h
 by_cases h2:wR l (zN x)=3
 ·rw[if_pos h2]at h;cases h
 rw[if_neg h2]at h
 by_cases h3:wR l (zN x)=4
 ·rw[if_pos h3]at h
  split at h
  ·cases h
  ·injection h with h
   exact .inl ⟨h3,nt (by omega) h⟩
 ·rw[if_neg h3]at h
  by_cases h4:(zN x).k=7
  ·rw[if_pos h4]at h
   split at h
   ·rename_i h5
    injection h with h
    exact .inr ⟨h3,h4,h5.1,h5.2,nt (by omega) h⟩
   ·cases h
  ·rw[if_neg h4]at h;cases h
theorem zRl{x Y:Tm}(hs:zH x=true)(h:wW l x = .red Y 0):sX l x Y:=by
 have hx:=rE x (zI hs).2.2
 unfold wW at h
 by_cases h1:(zN x).k=4∧0<(yG x).length
 ·rw[if_pos h1]at h
  injection h with hY h0
  obtain⟨A,B,hAB,-,-⟩:=tS (zI (wG hs)).2.2 (.inr (.inl h1.1))
  rw[(eJ h0).2.2.2,hAB]at hY
  obtain⟨a,rest,hr⟩:∃a rest,yG x=a::rest:=by
   cases hA:yG x with
   |nil=>rw[hA]at h1;exact absurd h1.2 (by simp)
   |cons a r=>exact⟨a,r,rfl⟩
  rw[hr]at hY
  have e:zN x = .mk 4 (zN x).n [A,B]:=by
   have:=uQ (zN x)
   rw[h1.1,hAB]at this
   exact this.symm
  rw[←hx,hr,wJ,e,←hY]
  exact .one (.ap (.beta (.refl _) (.refl _)) (PrL.refl _))
 rw[if_neg h1]at h
 by_cases h2:wR l (zN x)=3
 ·rw[if_pos h2]at h
  injection h with hY h0
  have hk:=wD h2 (by decide)
  have h6:=hd6 hs hk.1
  rw[←hY]
  conv=>lhs;rw[←hx,h6]
  exact .one (.ap (.rule (g:=.delta (zN x).n) (ps:=[]) (qs:=[]) ⟨mH (zI (wG hs)).2.2,hk.2.1,hk.2.2⟩ rfl trivial) (PrL.refl _))
 rw[if_neg h2]at h
 split at h
 ·split at h<;>cases h
 ·split at h
  ·split at h<;>cases h
  ·cases h
theorem zOe{xs:List Tm}{n:Nat}{a:Tm}(h:xs[n]? = some a):xs=xs.take n++a::xs.drop (n+1):=by
 have hn:=(List.getElem?_eq_some_iff.1 h).1
 conv=>lhs;rw[←List.take_append_drop n xs,List.drop_eq_getElem_cons hn,(List.getElem?_eq_some_iff.1 h).2]
theorem zOd{h a z:Tm}{pre suf:List Tm}(k:sX l a z):sX l (wJ h (pre++a::suf)) (wJ (.mk 5 0 [wJ h pre,z]) suf):=by
 have h1:=k.ctx (F:=fun a=>wJ h (pre++a::suf)) fun _ _ h=>.ap (.refl _) ((PrL.refl pre).app ⟨h,PrL.refl suf⟩)
 have h2:wJ h (pre++z::suf)=wJ (.mk 5 0 [wJ h pre,z]) suf:=by rw[zDU,wJ]
 rw[h2]at h1
 exact h1
theorem zOc{xs ys:List Tm}{n m:Nat}(h:m≤n)(hn:n≤xs.length):(xs.take n++ys).take m=xs.take m:=by
 rw[List.take_append_of_le_length (by rw[List.length_take];omega),List.take_take,Nat.min_eq_left h]
theorem zKr(hE:xA N l){x a z Y:Tm}(hs:zH x=true)(hz:zH z=true)(ha:wW l x = .tgt a)(hp:sX l a z)(hr:uA l x z=some (Y,0)):sX l x Y:=by
 have hx:=rE x (zI hs).2.2
 have hox:vK (yG x):=fun y hy=>zX (yW hs hy)
 have hoz:vK (yG z):=fun w hw=>zX (yW hz hw)
 have hlx:(yG x).length≤8192:=by
  have h:=zI hs
  have:=sB _ h.2.2
  omega
 have hlz:(yG z).length≤8192:=by
  have h:=zI hz
  have:=sB _ h.2.2
  omega
 have hn0:=mH (zI (wG hs)).2.2
 unfold uA at hr
 rcases zOf hE hs ha with⟨h4,hat⟩|⟨h4,h7,hd,hle,hat⟩
 ·rw[if_pos h4]at hr
  split at hr
  ·rename_i hc
   injection hr with hr
   injection hr with hY he
   obtain⟨c1,c2⟩:=zOh hz hc.1
   have hk:=wD h4 (by decide)
   have hlen:=(List.getElem?_eq_some_iff.1 hat).1
   have hp0:0≤(zK l (zN x).n).pars:=by
    have hp:=(yQ (hE.2 _ hn0 hk.2.1)).2.2.2.1 hk.2.2
    unfold dW at hp
    simp only[Bool.and_eq_true]at hp
    have hw:=tZ hp.1
    have hf:=wE ((yQ (hE.2 _ hw.1 (by omega))).2.1 hw.2.2.1)
    omega
   have g1:=(mZ l (zN x).n ((yG z).drop (zK l (zN z).n).pars.toNat) hE (hoz.drop _) (by rw[List.length_drop];omega)).2.2.2 he
   have h6:=hd6 hs hk.1
   have ok:oT l (.fld (zN x).n (zN z).n):=⟨hn0,hk.2.1,hk.2.2,c1,hc.2⟩
   have htl:((yG x).take (zK l (zN x).n).pars.toNat).length=(zK l (zN x).n).pars.toNat:=by rw[List.length_take];omega
   have hr1:Pr l (vW l (.fld (zN x).n (zN z).n) ((yG x).take (zK l (zN x).n).pars.toNat++yG z)) _:=.rule ok (by
    rw[List.length_append,htl,hc.1.2];rfl) (PrL.refl _)
   have e1:vW l (.fld (zN x).n (zN z).n) ((yG x).take (zK l (zN x).n).pars.toNat++yG z) = .mk 5 0 [wJ (zN x) ((yG x).take (zK l (zN x).n).pars.toNat),z]:=by
    rw[vW]
    simp only[rX]
    rw[List.take_left' htl,List.drop_left' htl,←c2,←h6]
   have e2:pF l (.fld (zN x).n (zN z).n) ((yG x).take (zK l (zN x).n).pars.toNat++yG z)=nth ((yG z).drop (zK l (zN z).n).pars.toNat) (zK l (zN x).n).place:=by
    rw[pF]
    simp only[rX]
    rw[List.drop_left' htl]
   rw[e1,e2]at hr1
   rw[←hY,g1.2.2.2,show ((zK l (zN x).n).pars+1).toNat=(zK l (zN x).n).pars.toNat+1 by omega]
   conv=>lhs;rw[←hx,zOe hat]
   exact(zOd hp).trans (.one (.ap hr1 (PrL.refl _)))
  ·cases hr
 ·rw[if_neg h4]at hr
  split at hr
  ·rename_i hc
   injection hr with hr
   injection hr with hY he
   obtain⟨c1,c2⟩:=zOh hz hc.1
   have hi:=wU hd
   have hf:=wE ((yQ (hE.2 _ hi.1 hi.2.1)).2.1 hi.2.2)
   have ha6:xI (zK l (zN x).n)=(zK l (zN x).n).pars+2+(zK l (zN x).n).cons.length+(zK l (zN x).n).inds:=by unfold xI;rw[if_pos hi.2.2]
   have hlen:=(List.getElem?_eq_some_iff.1 hat).1
   have g1:=(iA l (zN x).n (nth (zN x).sub 0).n (zN z).n ((yG x).take ((zK l (zN x).n).pars+1+(zK l (zN x).n).cons.length).toNat) ((yG z).drop (zK l (zN x).n).pars.toNat) hE (hox.take _) (hoz.drop _) (by rw[List.length_take];omega) (by rw[List.length_drop];omega)).2.2.2 he
   have h6:=hd7 hs h7
   generalize hlev:(nth (zN x).sub 0).n=lev at *
   have ok:oT l (.io (zN x).n lev (zN z).n):=⟨hd,c1,hc.2⟩
   have htl:((yG x).take (xI (zK l (zN x).n)-1).toNat).length=(xI (zK l (zN x).n)-1).toNat:=by rw[List.length_take];omega
   have hr1:Pr l (vW l (.io (zN x).n lev (zN z).n) ((yG x).take (xI (zK l (zN x).n)-1).toNat++yG z)) _:=.rule ok (by
    rw[List.length_append,htl,hc.1.2];rfl) (PrL.refl _)
   have e1:vW l (.io (zN x).n lev (zN z).n) ((yG x).take (xI (zK l (zN x).n)-1).toNat++yG z) = .mk 5 0 [wJ (zN x) ((yG x).take (xI (zK l (zN x).n)-1).toNat),z]:=by
    rw[vW]
    simp only[rX]
    rw[List.take_left' htl,List.drop_left' htl,←c2,←h6]
   have e2:pF l (.io (zN x).n lev (zN z).n) ((yG x).take (xI (zK l (zN x).n)-1).toNat++yG z)=kL l (zN x).n lev (zN z).n ((yG x).take ((zK l (zN x).n).pars+1+(zK l (zN x).n).cons.length).toNat) ((yG z).drop (zK l (zN x).n).pars.toNat):=by
    rw[pF]
    simp only[rX]
    rw[List.drop_left' htl,zOc (by omega) (by omega)]
   rw[e1,e2]at hr1
   rw[←hY,g1.2.2.2.2.2.2.2.2.1,show (xI (zK l (zN x).n)).toNat=(xI (zK l (zN x).n)-1).toNat+1 by omega]
   conv=>lhs;rw[←hx,zOe hat]
   exact(zOd hp).trans (.one (.ap hr1 (PrL.refl _)))
  ·cases hr
theorem Y0(hE:xA N l){x y:Tm}{e k:Int}(h:Br l x y e k):zH x=true->e=0->sX l x y∧iV l (zN y).k (zN y).n (yG y):=by
 induction h with
 |stop h=>exact fun hs _=>⟨.refl,zOg hs h⟩
 |redE _ h=>exact fun _ he=>absurd he h
 |redL _ _=>exact fun _ he=>absurd he (by decide)
 |red h hY _ ih=>exact fun hs he=>⟨(zRl hs h).trans (ih hY he).1,(ih hY he).2⟩
 |tgtE _ _ h _=>exact fun _ he=>absurd he h
 | @tgtN x a z k h hb hr ih=>
  intro hs _
  have has:=yW hs (iB hE hs h).1
  have hz:=hb.shaped has rfl
  obtain⟨i1,i2⟩:=ih has rfl
  have hq:=fun fam=>zXo (fam:=fam) hE i1 hz i2
  have hr:=W9.1 hr
  have hg:=mW x (zI hs).2.2
  refine⟨.refl,?_⟩
  rcases zOf hE hs h with⟨h4,hat⟩|⟨h4,h7,hd,hle,hat⟩
  ·have hk:=wD h4 (by decide)
   rw[if_pos h4]at hr
   refine⟨hg.2.1,fun h=>absurd h (by omega),fun _ h=>absurd h.2.2 (by omega),fun _ _ _ _ b hb=>?_,fun h=>absurd h (by omega)⟩
   rw[hat]at hb
   injection hb with hb
   subst hb
   exact hq _ hr
  ·rw[if_neg h4]at hr
   refine⟨hg.2.1,fun h=>absurd h (by omega),fun h=>absurd h (by omega),fun h=>absurd h (by omega),fun _ _ b hb=>?_⟩
   rw[hat]at hb
   injection hb with hb
   subst hb
   exact hq _ hr
 |tgtRE _ _ _ h _=>exact fun _ he=>absurd he h
 |tgtRL _ _ _ _ _=>exact fun _ he=>absurd he (by decide)
 |tgtR h hb hr hY _ i1 i2=>
  intro hs he
  have has:=yW hs (iB hE hs h).1
  have hz:=hb.shaped has rfl
  exact⟨(zKr hE hs hz h (i1 has rfl).1 hr).trans (i2 hY he).1,(i2 hY he).2⟩
end
structure fP (l:List zU) (x y:Tm):Prop where
 k:(zN x).k=(zN y).k
 n:(zN x).n=(zN y).n
 sub:yI (Jn l) (zN x).sub (zN y).sub
 ar:yI (Jn l) (yG x) (yG y)
theorem zFO{l:List zU}:∀ {xs ys us:List Tm},yI (sX l) xs us->yI (sX l) ys us->yI (Jn l) xs ys
 | [],[],_,_,_=>trivial
 | [],_::_,[],_,h=>h.elim
 | [],_::_,_::_,h,_=>h.elim
 |_::_,[],[],h,_=>h.elim
 |_::_,[],_::_,_,h=>h.elim
 |_::_,_::_,_::_,⟨a,b⟩,⟨c,d⟩=>⟨⟨_,a,c⟩,zFO b d⟩
theorem zDV{l:List zU}{t u:Tm}(h:sX l t u):∀ {n:Int},t = .mk 2 n []->u = .mk 2 n []:=by
 induction h with
 |refl=>exact fun h=>h
 |step a _ ih=>intro n e;subst e;exact ih (zHJ a)
section
variable {N:ByteArray->Bool} {l:List zU}
theorem zOb{x y:Tm}(hs:zH x=true)(hs':zH y=true)(hx:iV l (zN x).k (zN x).n (yG x))(hy:iV l (zN y).k (zN y).n (yG y))(h:Jn l x y):fP l x y:=by
 obtain⟨w,h1,h2⟩:=h
 obtain⟨us,zs,e1,a1,b1⟩:=zFN h1 (rE x (zI hs).2.2).symm hx
 obtain⟨us',zs',e2,a2,b2⟩:=zFN h2 (rE y (zI hs').2.2).symm hy
 have kx:(Tm.mk (zN x).k (zN x).n us).k≠5:=hx.app
 have ky:(Tm.mk (zN y).k (zN y).n us').k≠5:=hy.app
 have e3:=congrArg zN e2
 have e4:=congrArg yG e2
 rw[e1,N5 kx,N5 ky]at e3
 rw[e1,gC kx,gC ky]at e4
 injection e3 with f1 f2 f3
 subst f3;subst e4
 exact⟨f1,f2,zFO a1 a2,zFO b1 b2⟩
theorem fP.hk{x y:Tm}(hs:zH x=true)(hs':zH y=true)(h:fP l x y):x.k=y.k:=by
 have hl:=h.ar.len
 by_cases h1:x.k=5
 ·by_cases h2:y.k=5
  ·omega
  ·rw[tL h2]at hl
   exact absurd (List.length_eq_zero_iff.1 hl) (zUf (zI hs).2.2 h1)
 ·by_cases h2:y.k=5
  ·rw[tL h1]at hl
   exact absurd (List.length_eq_zero_iff.1 hl.symm) (zUf (zI hs').2.2 h2)
  ·have:=h.k
   rwa[vH h1,vH h2]at this
theorem fP.flat{x y:Tm}(hs:zH x=true)(hs':zH y=true)(h:fP l x y)(h5:x.k≠5):x.n=y.n∧yI (Jn l) x.sub y.sub:=by
 have h1:=h.hk hs hs'
 have h2:=h.n
 have h3:=h.sub
 rw[vH h5,vH (by omega)]at h2 h3
 exact⟨h2,h3⟩
theorem K0{xs ys:List Tm}(h:yI (Jn l) xs ys)(n:Int):Jn l (nth xs n) (nth ys n):=h.nth (Jn.refl _) n
theorem zKq{x y:Tm}(h1:x.k=y.k)(h2:x.n=y.n):wR l x=wR l y:=by unfold wR;rw[h1,h2]
theorem fP.con{x y:Tm}(h:fP l x y):vJ l x↔vJ l y:=by
 unfold vJ
 rw[zKq h.k h.n,h.ar.len,h.n]
theorem fP.isR{x y:Tm}(h:fP l x y):tT l x↔tT l y:=by
 unfold tT
 rw[h.con,h.n]
theorem zHM:∀ {a b:List Tm} {p:PE},yI (Jn l) a b->p∈u9 a b->Jn l p.1.1 p.2.1
 | [],[],_,_,h=>by cases h
 |a::xs,b::ys,p,⟨h1,h2⟩,h=>by
  rw[u9]at h
  rcases List.mem_cons.1 h with h|h
  ·rw[h];exact h1
  ·exact zHM h2 h
theorem zRk{C:Bool->Tm->Tm->Bool->Int->Prop}(hC:∀m x y b k,Jn l x y->C m x y b k->b=true){m:Bool}{x y:Tm}{b:Bool}{k:Int}(hs:zH x=true)(hs':zH y=true)(h:fP l x y)(hd:Z2 C m (sN l m x y) b k):b=true:=by
 have ht:∀ {ps:List PE},(∀p∈ps,Jn l p.1.1 p.2.1)->Z2 C m (.all ps) b k->b=true:=fun hp a=>uB.rel (R:=Jn l) (fun x y b k e c=>hC _ _ _ _ _ e c) hp a
 have hk:=h.hk hs hs'
 have hl:=h.ar.len
 unfold sN at hd
 split at hd
 ·rename_i h4
  have hx:x.k=4:=by omega
  have hf:=h.flat hs hs' (by omega)
  refine ht (fun p hp=>?_) hd
  rw[List.mem_singleton.1 hp]
  unfold pE
  rw[if_pos hx,if_pos (by omega)]
  exact K0 hf.2 1
 ·split at hd
  ·rename_i hr
   have hr':=h.isR.1 hr
   split at hd
   ·rename_i g;exact absurd h.n g.2
   ·refine ht (fun p hp=>?_) hd
    obtain⟨j,rfl⟩:=zDL hp
    unfold uO
    rw[if_pos ⟨hr,rfl⟩,if_pos ⟨hr',h.n.symm⟩]
    exact K0 h.ar _
  ·rename_i hr
   rw[if_neg (fun g=>hr (h.isR.2 g)),if_neg (fun g=>g hk)]at hd
   split at hd
   ·rename_i h3
    have hf:=h.flat hs hs' (by omega)
    obtain⟨b1,k1,c,d⟩:=hd
    have e:=hC _ _ _ _ _ (K0 hf.2 0) c
    rcases d with⟨d,_⟩|⟨_,k2,d,_⟩
    ·rw[e]at d;cases d
    ·exact hC _ _ _ _ _ (K0 hf.2 1) d
   ·split at hd
    ·rename_i h2
     have hf:=h.flat hs hs' (by omega)
     obtain⟨e,-⟩:=hd
     rw[e,hf.1];split<;>simp
    ·unfold gB at hd
     have h7:¬((zN x).k=7∧(nth (zN x).sub 0).n≠(nth (zN y).sub 0).n):=by
      rintro ⟨h7,hne⟩
      have e1:=hd7 hs h7
      have e2:=hd7 hs' (by rw[←h.k];exact h7)
      have e3:=h.sub
      rw[e1,e2]at e3
      obtain⟨⟨u,p1,p2⟩,-⟩:=e3
      have q1:=zDV p1 rfl
      have q2:=zDV p2 rfl
      rw[q1]at q2
      injection q2 with _ q2
      exact hne q2
     rw[if_neg (by
      rintro (g|g|g|g)
      ·exact g h.k
      ·exact g h.n
      ·exact g hl
      ·exact h7 g)]at hd
     refine ht (fun p hp=>?_) hd
     unfold zNN at hp
     rcases List.mem_append.1 hp with hp|hp
     ·split at hp
      ·simp only[List.mem_cons,List.not_mem_nil,or_false]at hp
       rcases hp with rfl|rfl
       ·exact K0 h.sub 0
       ·exact K0 h.sub 1
      ·cases hp
     ·exact zHM h.ar hp
theorem zOa(hE:xA N l):∀(n:Nat) (m:Bool) (x y:Tm) (b:Bool) (k:Int),Jn l x y->t6 l n m x y b k->b=true
 |0,_,_,_,_,_,_,h=>h.elim
 |n+1,m,x,y,b,k,hj,⟨r1,r2,x',k1,y',k2,k3,h1,h2,h3,h4⟩=>by
  obtain⟨p1,n1⟩:=Y0 hE h1 r1.shaped rfl
  obtain⟨p2,n2⟩:=Y0 hE h2 r2.shaped rfl
  have s1:=h1.shaped r1.shaped rfl
  have s2:=h2.shaped r2.shaped rfl
  exact zRk (zOa hE n) s1 s2 (zOb s1 s2 n1 n2 (hj.down2 hE p1 p2)) h3
theorem zXn(hE:xA N l){m:Bool}{x y:Tm}{b:Bool}{k:Int}(h:Jn l x y):Cv l m x y b k->b=true:=fun⟨n,a⟩=>zOa hE n m x y b k h a
theorem zDW{P:Tm->Tm->Int->Prop}(h:∀t x k,P t x k->sX l t x):∀ {ts xs:List Tm} {k:Int},sV P ts xs k->yI (sX l) ts xs
 | [],_,_,⟨a,_⟩=>by subst a;trivial
 |_::_,_,_,⟨x,xs',k1,k2,a,b,c,d⟩=>by subst a;exact⟨h _ _ _ b,zDW h c⟩
theorem zHN(hE:xA N l):∀(n:Nat) (t x:Tm) (k:Int),cB l n t x k->sX l t x
 |0,_,_,_,h=>h.elim
 |n+1,t,x,k,⟨r,y,k1,ps,k2,h1,h2,h3,h4⟩=>by
  obtain⟨p1,-⟩:=Y0 hE h1 r.shaped rfl
  have hs:=h1.shaped r.shaped rfl
  have hg:=(zI hs).2.2
  have hp:=zDW (zHN hE n) h2
  refine p1.trans ?_
  rw[h3]
  unfold wI at hp
  unfold cA
  by_cases h34:y.k=3∨y.k=4
  ·rw[if_pos h34]at hp ⊢
   have h0:y.n=0:=by
    have hsp:=wQ (t:=y) (by cases y;exact(xV hg).1)
    have:=(hsp.2.2.2.2.2.1 (h34.elim .inl fun h=>.inr (.inl h))).2
    have:=hsp.2.2.1
    omega
   have e:=uQ y
   rw[h0]at e
   conv=>lhs;rw[←e]
   exact .node hp
  ·rw[if_neg h34]at hp ⊢
   by_cases h5:y.k=5
   ·rw[if_pos h5]at hp ⊢
    conv=>lhs;rw[←rE y hg]
    exact .ap .refl hp
   ·rw[if_neg h5];exact .refl
end
def Hw(l:List zU)(t y:Tm):Prop:=(vJ l t∧y=t)∨(¬vJ l t∧wA l t∧vJ l y∧∃j,Br l t y 0 j)
mutual
def Mr(l:List zU):zF->Tm->Int->Tm->Int->List Tm->Prop
  | .mk k n _ ps _,t,how,x,e,bs=>
    (k=3∧how=0∧x=t∧e=0∧bs=[])∨(k=1∧how=0∧x=t∧e=0∧bs=[t])∨(k=4∧how=1∧x=t∧e=0)∨(k≠1∧k≠3∧k≠4 ∧
      ((e≠0∧how=2∧¬vJ l t∧∀y j,wA l t->¬Br l t y 0 j) ∨
       (e=0∧how=2∧x=t∧¬vJ l t∧wA l t∧∃y j,Br l t y 0 j∧¬vJ l y) ∨
       ∃y,Hw l t y∧((e=0∧how=1∧x=y∧(zN y).n≠n)∨((zN y).n=n∧∃xs,G5 l ps ((yG y).drop (zK l n).pars.toNat) how xs e bs∧x=wJ (zN y) ((yG y).take (zK l n).pars.toNat++xs)))))
def G5(l:List zU):List zF->List Tm->Int->List Tm->Int->List Tm->Prop
 | [],ts,how,xs,e,bs=>how=0∧xs=ts∧e=0∧bs=[]
 |_::_,[],_,_,_,_=>False
 |p::ps,t::ts,how,xs,e,bs=>(how≠0∧∃x,Mr l p t how x e bs∧xs=x::ts)∨∃x b1 b2 xs',Mr l p t 0 x 0 b1∧G5 l ps ts how xs' e b2∧xs=x::xs'∧bs=b1++b2
end
section
variable {N:ByteArray->Bool} {l:List zU}
theorem K1{y:Tm}(hs:zH y=true)(hc:vJ l y):iV l (zN y).k (zN y).n (yG y):=by
 have hk:=wD hc.1 (by decide)
 exact⟨by omega,fun h=>absurd h (by omega),fun _ h=>absurd h.2.2 (by omega),fun _ _ _ h=>absurd h (by omega),fun h=>absurd h (by omega)⟩
theorem Hw.prs(hE:xA N l){t y:Tm}(hs:zH t=true)(h:Hw l t y):sX l t y∧zH y=true∧vJ l y:=by
 rcases h with⟨h,rfl⟩|⟨-,-,h,j,hb⟩
 ·exact⟨.refl,hs,h⟩
 ·exact⟨(Y0 hE hb hs rfl).1,hb.shaped hs rfl,h⟩
theorem Hw.same(hE:xA N l){t t' y y':Tm}(hs:zH t=true)(hs':zH t'=true)(h:Hw l t y)(h':Hw l t' y')(hj:Jn l t t'):fP l y y':=by
 obtain⟨a1,a2,a3⟩:=h.prs hE hs
 obtain⟨b1,b2,b3⟩:=h'.prs hE hs'
 exact zOb a2 b2 (K1 a2 a3) (K1 b2 b3) (hj.down2 hE a1 b1)
theorem Hw.stuck(hE:xA N l){t t' y y':Tm}{j:Int}(hs:zH t=true)(hs':zH t'=true)(h:Hw l t y)(hb:Br l t' y' 0 j)(hn:¬vJ l y')(hj:Jn l t t'):False:=by
 obtain⟨a1,a2,a3⟩:=h.prs hE hs
 obtain⟨b1,b2⟩:=Y0 hE hb hs' rfl
 have b3:=hb.shaped hs' rfl
 exact hn ((zOb a2 b3 (K1 a2 a3) b2 (hj.down2 hE a1 b1)).con.1 a3)
theorem rO(ts:List Tm):yI (sX l) ts ts:=yI.refl (fun _=>.refl) ts
mutual
theorem zBf(hE:xA N l):∀(p:zF) {t x:Tm} {how:Int} {bs:List Tm},zH t=true->Mr l p t how x 0 bs->sX l t x
 | .mk k n _ ps _,t,x,how,bs,hs,h=>by
  rw[Mr]at h
  rcases h with⟨-,-,rfl,-⟩|⟨-,-,rfl,-⟩|⟨-,-,rfl,-⟩|⟨-,-,-,⟨h,-⟩|⟨-,-,rfl,-⟩|⟨y,hw,⟨-,-,rfl,-⟩|⟨hn,xs,hm,rfl⟩⟩⟩
  ·exact .refl
  ·exact .refl
  ·exact .refl
  ·exact absurd rfl h
  ·exact .refl
  ·exact(hw.prs hE hs).1
  ·obtain⟨a1,a2,a3⟩:=hw.prs hE hs
   have h1:=zHO hE ps (fun a ha=>yW a2 (List.mem_of_mem_drop ha)) hm
   refine a1.trans ?_
   conv=>lhs;rw[←rE y (zI a2).2.2,←List.take_append_drop (zK l n).pars.toNat (yG y)]
   exact .ap .refl ((rO _).app h1)
theorem zHO(hE:xA N l):∀(ps:List zF) {ts xs:List Tm} {how:Int} {bs:List Tm},(∀t∈ts,zH t=true)->G5 l ps ts how xs 0 bs->yI (sX l) ts xs
 | [],ts,xs,how,bs,hs,h=>by
  rw[G5]at h
  rw[h.2.1];exact rO _
 |p::ps,[],xs,how,bs,hs,h=>by rw[G5]at h;exact h.elim
 |p::ps,t::ts,xs,how,bs,hs,h=>by
  rw[G5]at h
  rcases h with⟨-,x,h1,rfl⟩|⟨x,b1,b2,xs',h1,h2,rfl,-⟩
  ·exact⟨zBf hE p (hs t (by simp)) h1,rO _⟩
  ·exact⟨zBf hE p (hs t (by simp)) h1,zHO hE ps (fun a ha=>hs a (by simp[ha])) h2⟩
end
mutual
theorem zDX(hE:xA N l):∀(p:zF) {t t' x x':Tm} {how how':Int} {bs bs':List Tm},zH t=true->zH t'=true->Jn l t t'->Mr l p t how x 0 bs->Mr l p t' how' x' 0 bs'->how=how'∧(how=0->yI (Jn l) bs bs')
 | .mk k n _ ps _,t,t',x,x',how,how',bs,bs',hs,hs',hj,h,h'=>by
  rw[Mr]at h h'
  rcases h with⟨k1,h1,-,-,h2⟩|⟨k1,h1,-,-,h2⟩|⟨k1,h1,-,-⟩|⟨k1,k2,k3,h⟩
  ·rcases h' with⟨-,g1,-,-,g2⟩|⟨k',_⟩|⟨k',_⟩|⟨_,k',_⟩
   ·rw[h1,g1,h2,g2];exact⟨rfl,fun _=>trivial⟩
   all_goals (exfalso;rw[k1]at k';revert k';decide)
  ·rcases h' with⟨k',_⟩|⟨-,g1,-,-,g2⟩|⟨k',_⟩|⟨k',_⟩
   rotate_left
   ·rw[h1,g1,h2,g2];exact⟨rfl,fun _=>⟨hj,trivial⟩⟩
   all_goals (exfalso;rw[k1]at k';revert k';decide)
  ·rcases h' with⟨k',_⟩|⟨k',_⟩|⟨-,g1,-,-⟩|⟨_,_,k',_⟩
   rotate_left 2
   ·rw[h1,g1];exact⟨rfl,fun h=>absurd h (by decide)⟩
   all_goals (exfalso;rw[k1]at k';revert k';decide)
  ·rcases h' with⟨k',_⟩|⟨k',_⟩|⟨k',_⟩|⟨-,-,-,h'⟩
   ·exact absurd k' k2
   ·exact absurd k' k1
   ·exact absurd k' k3
   rcases h with⟨h,-⟩|⟨-,rfl,-,-,-,y,j,hb,hy⟩|⟨y,hw,hh⟩
   ·exact absurd rfl h
   ·rcases h' with⟨h',-⟩|⟨-,rfl,-⟩|⟨y',hw',-⟩
    ·exact absurd rfl h'
    ·exact⟨rfl,fun h=>absurd h (by decide)⟩
    ·exact(hw'.stuck hE hs' hs hb hy hj.symm).elim
   ·rcases h' with⟨h',-⟩|⟨-,rfl,-,-,-,y',j,hb,hy⟩|⟨y',hw',hh'⟩
    ·exact absurd rfl h'
    ·exact(hw.stuck hE hs hs' hb hy hj).elim
    ·have hsw:=hw.same hE hs hs' hw' hj
     have hn:=hsw.n
     obtain⟨a1,a2,a3⟩:=hw.prs hE hs
     obtain⟨b1,b2,b3⟩:=hw'.prs hE hs'
     rcases hh with⟨-,rfl,-,e1⟩|⟨e1,xs,hm,-⟩
     ·rcases hh' with⟨-,rfl,-⟩|⟨e2,-⟩
      ·exact⟨rfl,fun h=>absurd h (by decide)⟩
      ·omega
     ·rcases hh' with⟨-,-,-,e2⟩|⟨e2,xs',hm',-⟩
      ·omega
      ·exact zOA hE ps (fun a ha=>yW a2 (List.mem_of_mem_drop ha)) (fun a ha=>yW b2 (List.mem_of_mem_drop ha)) (hsw.ar.drop _) hm hm'
theorem zOA(hE:xA N l):∀(ps:List zF) {ts ts' xs xs':List Tm} {how how':Int} {bs bs':List Tm},(∀t∈ts,zH t=true)->(∀t∈ts',zH t=true)->yI (Jn l) ts ts'->G5 l ps ts how xs 0 bs->G5 l ps ts' how' xs' 0 bs'->how=how'∧(how=0->yI (Jn l) bs bs')
 | [],ts,ts',xs,xs',how,how',bs,bs',hs,hs',hj,h,h'=>by
  rw[G5]at h h'
  rw[h.1,h'.1,h.2.2.2,h'.2.2.2];exact⟨rfl,fun _=>trivial⟩
 |p::ps,[],ts',xs,xs',how,how',bs,bs',hs,hs',hj,h,h'=>by rw[G5]at h;exact h.elim
 |p::ps,_::_,[],xs,xs',how,how',bs,bs',hs,hs',hj,h,h'=>by rw[G5]at h';exact h'.elim
 |p::ps,t::ts,t'::ts',xs,xs',how,how',bs,bs',hs,hs',⟨hj,hjs⟩,h,h'=>by
  rw[G5]at h h'
  have st:=hs t (by simp)
  have st':=hs' t' (by simp)
  rcases h with⟨h0,x,h1,-⟩|⟨x,b1,b2,ys,h1,h2,-,rfl⟩
  ·rcases h' with⟨g0,x',g1,-⟩|⟨x',c1,c2,ys',g1,g2,-,rfl⟩
   ·exact⟨(zDX hE p st st' hj h1 g1).1,fun h=>absurd h h0⟩
   ·exact absurd (zDX hE p st st' hj h1 g1).1 h0
  ·rcases h' with⟨g0,x',g1,-⟩|⟨x',c1,c2,ys',g1,g2,-,rfl⟩
   ·exact absurd (zDX hE p st st' hj h1 g1).1.symm g0
   ·have r1:=zDX hE p st st' hj h1 g1
    have r2:=zOA hE ps (fun a ha=>hs a (by simp[ha])) (fun a ha=>hs' a (by simp[ha])) hjs h2 g2
    exact⟨r2.1,fun h=>(r1.2 rfl).app (r2.2 h)⟩
end
end
section
variable {N:ByteArray->Bool} {l:List zU}
theorem zRj{x y:Tm}{e k:Int}(h:Br l x y e k):e=0->k=0->y=x:=by
 cases h with
 |stop _=>exact fun _ _=>rfl
 |redE _ h=>exact fun he=>absurd he h
 |redL _ _=>exact fun he=>absurd he (by decide)
 |red _ _ h=>exact fun _ hk=>by have:=h.nn;omega
 |tgtE _ _ h=>exact fun he=>absurd he h
 |tgtN _ _ _=>exact fun _ _=>rfl
 |tgtRE _ _ _ h=>exact fun he=>absurd he h
 |tgtRL _ _ _ _=>exact fun he=>absurd he (by decide)
 |tgtR _ h1 _ _ h2=>exact fun _ hk=>by have:=h1.nn;have:=h2.nn;omega
def Nf(l:List zU)(t:Tm):Prop:=∃n,cB l n t t 0
theorem Nf.inv(hE:xA N l){t:Tm}(h:Nf l t):wA l t∧Br l t t 0 0∧∀a∈wI t,Nf l a:=by
 obtain⟨n,h⟩:=h
 cases n with
 |zero=>exact h.elim
 |succ n=>
  obtain⟨hR,y,k1,ps,k2,a,b,c,d⟩:=h
  have h1:=a.nn
  have h2:=sV.nn (fun _ _ _ h=>cB.nn h) b
  have hz:k1=0:=by omega
  subst hz
  have hy:=zRj a rfl rfl
  subst hy
  refine⟨hR,a,fun p hp=>?_⟩
  have hps:ps=wI y:=by
   have:=(J2 hR.shaped b.len).1
   rw[←c]at this
   exact this.symm
  subst hps
  obtain⟨i,hi,rfl⟩:=List.getElem_of_mem hp
  obtain⟨k1,hk⟩:=b.at i hi hi
  exact⟨n,hk.again hE (lN hR.shaped hp)⟩
theorem Nf.ar(hE:xA N l){t:Tm}(h:Nf l t):∀a∈yG t,Nf l a:=by
 intro a ha
 by_cases h5:t.k=5
 ·refine(h.inv hE).2.2 a ?_
  unfold wI
  rw[if_neg (by omega),if_pos h5];exact ha
 ·rw[tL h5]at ha;cases ha
theorem Hw.nf(hE:xA N l){t y:Tm}(h:Nf l t)(hw:Hw l t y):y=t:=by
 rcases hw with⟨-,h⟩|⟨-,-,-,j,hb⟩
 ·exact h
 ·exact((h.inv hE).2.1.det hb).1
mutual
theorem zOB(hE:xA N l):∀(p:zF) {t x:Tm} {how e:Int} {bs:List Tm},Nf l t->Mr l p t how x e bs->e=0∧x=t
 | .mk k n _ ps _,t,x,how,e,bs,hn,h=>by
  rw[Mr]at h
  rcases h with⟨-,-,h1,h2,-⟩|⟨-,-,h1,h2,-⟩|⟨-,-,h1,h2⟩|⟨-,-,-,⟨-,-,-,h⟩|⟨h2,-,h1,-⟩|⟨y,hw,⟨h2,-,h1,-⟩|⟨-,xs,hm,h1⟩⟩⟩
  ·exact⟨h2,h1⟩
  ·exact⟨h2,h1⟩
  ·exact⟨h2,h1⟩
  ·exact absurd (hn.inv hE).2.1 (h _ _ (hn.inv hE).1)
  ·exact⟨h2,h1⟩
  ·exact⟨h2,by rw[h1,hw.nf hE hn]⟩
  ·have hy:=hw.nf hE hn
   subst hy
   obtain⟨r1,r2⟩:=zOC hE ps (fun a ha=>hn.ar hE a (List.mem_of_mem_drop ha)) hm
   exact⟨r1,by rw[h1,r2,List.take_append_drop,rE y (zI (hn.inv hE).1.shaped).2.2]⟩
theorem zOC(hE:xA N l):∀(ps:List zF) {ts xs:List Tm} {how e:Int} {bs:List Tm},(∀t∈ts,Nf l t)->G5 l ps ts how xs e bs->e=0∧xs=ts
 | [],ts,xs,how,e,bs,hn,h=>by
  rw[G5]at h
  exact⟨h.2.2.1,h.2.1⟩
 |p::ps,[],xs,how,e,bs,hn,h=>by rw[G5]at h;exact h.elim
 |p::ps,t::ts,xs,how,e,bs,hn,h=>by
  rw[G5]at h
  rcases h with⟨-,x,h1,h2⟩|⟨x,b1,b2,ys,h1,h2,h3,-⟩
  ·have r:=zOB hE p (hn t (by simp)) h1
   exact⟨r.1,by rw[h2,r.2]⟩
  ·have r:=zOB hE p (hn t (by simp)) h1
   have r2:=zOC hE ps (fun a ha=>hn a (by simp[ha])) h2
   exact⟨r2.1,by rw[h3,r.2,r2.2]⟩
end
theorem zBe(hE:xA N l)(t:Tm):∀ {us vs:List Tm} (pre:List Tm),yI (sX l) us vs->sX l (vQ (pre++us) t 0) (vQ (pre++vs) t 0)
 | [],[],_,_=>.refl
 |u::us,v::vs,pre,⟨a,b⟩=>by
  have h1:=a.ctx (F:=fun a=>vQ (pre++a::us) t 0) fun x y h=>zAv hE (.refl t) (pre++x::us) (pre++y::us) ((PrL.refl pre).app ⟨h,PrL.refl us⟩) 0 (Int.le_refl 0)
  have h2:=zBe hE t (pre++[v]) b
  rw[List.append_assoc,List.append_assoc]at h2
  exact h1.trans h2
theorem zAt:∀ {us vs:List Tm},yI (Jn l) us vs->∃ws,yI (sX l) us ws∧yI (sX l) vs ws
 | [],[],_=>⟨[],trivial,trivial⟩
 |u::us,v::vs,⟨⟨w,a,b⟩,c⟩=>by
  obtain⟨ws,h1,h2⟩:=zAt c
  exact⟨w::ws,⟨a,h1⟩,⟨b,h2⟩⟩
theorem zXm(hE:xA N l)(t:Tm){us vs:List Tm}(h:yI (Jn l) us vs):Jn l (vQ us t 0) (vQ vs t 0):=by
 obtain⟨ws,h1,h2⟩:=zAt h
 exact⟨_,zBe hE t [] h1,zBe hE t [] h2⟩
def Rw(l:List zU):List zF->List Tm->Int->List Tm->Int->List Tm->Prop
 | [],ts,how,xs,e,bs=>how=0∧xs=ts∧e=0∧bs=[]
 |_::_,[],_,_,_,_=>False
 |p::ps,t::ts,how,xs,e,bs=>∃how1 x e1 b1,Mr l p t how1 x e1 b1 ∧
   ((e1≠0∧e=e1)∨(e1=0∧zH x=false∧e=2)∨(e1=0∧zH x=true ∧
    ((how1≠0∧how=how1∧xs=x::ts∧e=0)∨(how1=0∧∃xs' b2,Rw l ps ts how xs' e b2∧xs=x::xs'∧bs=b1++b2))))
theorem zOD(hE:xA N l):∀(ps:List zF) {ts xs:List Tm} {how:Int} {bs:List Tm},(∀t∈ts,zH t=true)->Rw l ps ts how xs 0 bs->yI (sX l) ts xs∧∀x∈xs,zH x=true
 | [],ts,xs,how,bs,hs,h=>by
  rw[Rw]at h
  rw[h.2.1];exact⟨rO _,hs⟩
 |p::ps,[],xs,how,bs,hs,h=>by rw[Rw]at h;exact h.elim
 |p::ps,t::ts,xs,how,bs,hs,h=>by
  rw[Rw]at h
  obtain⟨how1,x,e1,b1,h1,⟨h2,h3⟩|⟨-,-,h3⟩|⟨rfl,hx,⟨-,-,rfl,-⟩|⟨-,xs',b2,h4,rfl,-⟩⟩⟩:=h
  ·exact absurd h3.symm h2
  ·exact absurd h3 (by decide)
  ·refine⟨⟨zBf hE p (hs t (by simp)) h1,rO _⟩,fun y hy=>?_⟩
   rcases List.mem_cons.1 hy with rfl|hy
   ·exact hx
   ·exact hs y (by simp[hy])
  ·have r:=zOD hE ps (fun a ha=>hs a (by simp[ha])) h4
   refine⟨⟨zBf hE p (hs t (by simp)) h1,r.1⟩,fun y hy=>?_⟩
   rcases List.mem_cons.1 hy with rfl|hy
   ·exact hx
   ·exact r.2 y hy
theorem zSC(hE:xA N l):∀(ps:List zF) {ts xs:List Tm} {how e:Int} {bs:List Tm},(∀t∈ts,Nf l t)->Rw l ps ts how xs e bs->e=0∧xs=ts
 | [],ts,xs,how,e,bs,hn,h=>by
  rw[Rw]at h
  exact⟨h.2.2.1,h.2.1⟩
 |p::ps,[],xs,how,e,bs,hn,h=>by rw[Rw]at h;exact h.elim
 |p::ps,t::ts,xs,how,e,bs,hn,h=>by
  rw[Rw]at h
  have ht:=hn t (by simp)
  obtain⟨how1,x,e1,b1,h1,h2⟩:=h
  obtain⟨r1,r2⟩:=zOB hE p ht h1
  rcases h2 with⟨h2,-⟩|⟨-,h3,-⟩|⟨-,-,⟨-,-,h3,h4⟩|⟨-,xs',b2,h4,h5,-⟩⟩
  ·exact absurd r1 h2
  ·rw[r2,(ht.inv hE).1.shaped]at h3;cases h3
  ·exact⟨h4,by rw[h3,r2]⟩
  ·have r:=zSC hE ps (fun a ha=>hn a (by simp[ha])) h4
   exact⟨r.1,by rw[h5,r2,r.2]⟩
theorem zSD(hE:xA N l):∀(ps:List zF) {ts ts' xs xs':List Tm} {how how':Int} {bs bs':List Tm},(∀t∈ts,zH t=true)->(∀t∈ts',zH t=true)->yI (Jn l) ts ts'->Rw l ps ts how xs 0 bs->Rw l ps ts' how' xs' 0 bs'->how=how'∧(how=0->yI (Jn l) bs bs')
 | [],ts,ts',xs,xs',how,how',bs,bs',hs,hs',hj,h,h'=>by
  rw[Rw]at h h'
  rw[h.1,h'.1,h.2.2.2,h'.2.2.2];exact⟨rfl,fun _=>trivial⟩
 |p::ps,[],ts',xs,xs',how,how',bs,bs',hs,hs',hj,h,h'=>by rw[Rw]at h;exact h.elim
 |p::ps,_::_,[],xs,xs',how,how',bs,bs',hs,hs',hj,h,h'=>by rw[Rw]at h';exact h'.elim
 |p::ps,t::ts,t'::ts',xs,xs',how,how',bs,bs',hs,hs',⟨hj,hjs⟩,h,h'=>by
  rw[Rw]at h h'
  have st:=hs t (by simp)
  have st':=hs' t' (by simp)
  obtain⟨how1,x,e1,b1,h1,⟨h2,h3⟩|⟨-,-,h3⟩|⟨rfl,-,h⟩⟩:=h
  ·exact absurd h3.symm h2
  ·exact absurd h3 (by decide)
  obtain⟨how1',x',e1',b1',g1,⟨g2,g3⟩|⟨-,-,g3⟩|⟨rfl,-,h'⟩⟩:=h'
  ·exact absurd g3.symm g2
  ·exact absurd g3 (by decide)
  have r:=zDX hE p st st' hj h1 g1
  rcases h with⟨h0,rfl,-⟩|⟨rfl,ys,b2,h2,-,rfl⟩
  ·rcases h' with⟨g0,rfl,-⟩|⟨rfl,ys',c2,g2,-,rfl⟩
   ·exact⟨r.1,fun h=>absurd h h0⟩
   ·exact absurd r.1 h0
  ·rcases h' with⟨g0,rfl,-⟩|⟨rfl,ys',c2,g2,-,rfl⟩
   ·exact absurd r.1.symm g0
   ·have r2:=zSD hE ps (fun a ha=>hs a (by simp[ha])) (fun a ha=>hs' a (by simp[ha])) hjs h2 g2
    exact⟨r2.1,fun h=>(r.2 rfl).app (r2.2 h)⟩
end
section
variable {N:ByteArray->Bool} {l:List zU}
mutual
theorem zSE(hE:xA N l):∀(p:zF) {t x:Tm} {how:Int} {bs:List Tm},zH t=true->Mr l p t how x 0 bs->how=0->∀b∈bs,zH b=true
 | .mk k n _ ps _,t,x,how,bs,hs,h,h0=>by
  rw[Mr]at h
  rcases h with⟨-,-,-,-,rfl⟩|⟨-,-,-,-,rfl⟩|⟨-,h1,-⟩|⟨-,-,-,⟨h,-⟩|⟨-,h1,-⟩|⟨y,hw,⟨-,h1,-⟩|⟨-,xs,hm,-⟩⟩⟩
  ·exact fun b hb=>nomatch hb
  ·exact fun b hb=>by rw[List.mem_singleton.1 hb];exact hs
  ·rw[h0]at h1;cases h1
  ·exact absurd rfl h
  ·rw[h0]at h1;cases h1
  ·rw[h0]at h1;cases h1
  ·obtain⟨a1,a2,a3⟩:=hw.prs hE hs
   exact zOE hE ps (fun a ha=>yW a2 (List.mem_of_mem_drop ha)) hm h0
theorem zOE(hE:xA N l):∀(ps:List zF) {ts xs:List Tm} {how:Int} {bs:List Tm},(∀t∈ts,zH t=true)->G5 l ps ts how xs 0 bs->how=0->∀b∈bs,zH b=true
 | [],ts,xs,how,bs,hs,h,h0=>by
  rw[G5]at h
  rw[h.2.2.2];exact fun b hb=>nomatch hb
 |p::ps,[],xs,how,bs,hs,h,h0=>by rw[G5]at h;exact h.elim
 |p::ps,t::ts,xs,how,bs,hs,h,h0=>by
  rw[G5]at h
  rcases h with⟨h1,-⟩|⟨x,b1,b2,xs',h1,h2,-,rfl⟩
  ·exact absurd h0 h1
  ·intro b hb
   rcases List.mem_append.1 hb with hb|hb
   ·exact zSE hE p (hs t (by simp)) h1 rfl b hb
   ·exact zOE hE ps (fun a ha=>hs a (by simp[ha])) h2 h0 b hb
end
theorem zSF(hE:xA N l):∀(ps:List zF) {ts xs:List Tm} {how:Int} {bs:List Tm},(∀t∈ts,zH t=true)->Rw l ps ts how xs 0 bs->how=0->∀b∈bs,zH b=true
 | [],ts,xs,how,bs,hs,h,h0=>by
  rw[Rw]at h
  rw[h.2.2.2];exact fun b hb=>nomatch hb
 |p::ps,[],xs,how,bs,hs,h,h0=>by rw[Rw]at h;exact h.elim
 |p::ps,t::ts,xs,how,bs,hs,h,h0=>by
  rw[Rw]at h
  obtain⟨how1,x,e1,b1,h1,⟨h2,h3⟩|⟨-,-,h3⟩|⟨rfl,hx,⟨h4,h5,-⟩|⟨h5,xs',b2,h4,-,rfl⟩⟩⟩:=h
  ·exact absurd h3.symm h2
  ·exact absurd h3 (by decide)
  ·exact absurd (h5.symm.trans h0) h4
  ·intro b hb
   rcases List.mem_append.1 hb with hb|hb
   ·exact zSE hE p (hs t (by simp)) h1 h5 b hb
   ·exact zSF hE ps (fun a ha=>hs a (by simp[ha])) h4 h0 b hb
def Ap(l:List zU):List zJ->Int->List Tm->Int->Tm->Int->Prop
 | [],_,_,_,_,e=>e=16
 |c::cs,i,own,r,T,e=>∃how xs e1 bs,Rw l c.pats_ own how xs e1 bs ∧
   ((e1≠0∧e=e1)∨(e1=0∧((how=1∧Ap l cs (i+1) xs r T e)∨(how=2∧e=13)∨(how=0∧c.has_=false∧e=13) ∨
    (how=0∧c.has_=true∧e=(oJ c.body_ bs.reverse).2∧(e=0->r=i∧T=(oJ c.body_ bs.reverse).1)))))
theorem zKp{t:Tm}{ls:List Tm}(h1:zH t=true)(h2:∀a∈ls,zH a=true):(oJ t ls).2=0∨(oJ t ls).2=2:=by
 unfold oJ
 rw[if_pos ⟨h1,List.all_eq_true.2 h2⟩]
 split
 ·exact .inr rfl
 ·split
  ·exact .inl rfl
  ·exact .inr rfl
theorem zSG(hE:xA N l):∀(cs:List zJ) (i:Int) {own own':List Tm} {r r':Int} {T T':Tm} {e':Int},(∀t∈own,zH t=true)->(∀t∈own',Nf l t)->yI (Jn l) own own'->Ap l cs i own r T 0->Ap l cs i own' r' T' e' ->
  (e'=0∨e'=2)∧(e'=0->r=r'∧Jn l T T')
 | [],i,own,own',r,r',T,T',e',hs,hn,hj,h,h'=>by rw[Ap]at h;exact absurd h (by decide)
 |c::cs,i,own,own',r,r',T,T',e',hs,hn,hj,h,h'=>by
  rw[Ap]at h h'
  obtain⟨how,xs,e1,bs,h1,h2⟩:=h
  obtain⟨how',xs',e1',bs',g1,g2⟩:=h'
  have hs':∀t∈own',zH t=true:=fun t ht=>((hn t ht).inv hE).1.shaped
  obtain⟨n1,n2⟩:=zSC hE c.pats_ hn g1
  subst n1;subst n2
  rcases h2 with⟨h2,h3⟩|⟨rfl,h2⟩
  ·exact absurd h3.symm h2
  rcases g2 with⟨g2,-⟩|⟨-,g2⟩
  ·exact absurd rfl g2
  obtain⟨q1,q2⟩:=zSD hE c.pats_ hs hs' hj h1 g1
  subst q1
  obtain⟨p1,p2⟩:=zOD hE c.pats_ hs h1
  rcases h2 with⟨h3,h4⟩|⟨-,h3⟩|⟨-,-,h3⟩|⟨h3,h4,h5,h6⟩
  ·rcases g2 with⟨-,g4⟩|⟨g3,-⟩|⟨g3,-⟩|⟨g3,-⟩
   ·refine zSG hE cs (i+1) p2 hn ?_ h4 g4
    obtain⟨hl,hp⟩:=yI.iff.1 p1
    obtain⟨hl2,hp2⟩:=yI.iff.1 hj
    exact yI.iff.2 ⟨by omega,fun i hi=>(hp2 i (by omega)).down hE (hp i (by omega))⟩
   ·rw[h3]at g3;cases g3
   ·rw[h3]at g3;cases g3
   ·rw[h3]at g3;cases g3
  ·exact absurd h3 (by decide)
  ·exact absurd h3 (by decide)
  ·rcases g2 with⟨g3,-⟩|⟨g3,-⟩|⟨-,g3,-⟩|⟨-,-,g5,g6⟩
   ·rw[h3]at g3;cases g3
   ·rw[h3]at g3;cases g3
   ·rw[h4]at g3;cases g3
   ·have hb:=zSF hE c.pats_ hs' g1 h3
    have hid:=eJ h5.symm
    refine⟨by rw[g5];exact zKp hid.1 (fun a ha=>hb a (List.mem_reverse.1 ha)),fun e0=>?_⟩
    obtain⟨r1,t1⟩:=h6 rfl
    obtain⟨r2,t2⟩:=g6 e0
    rw[e0]at g5
    have hid':=eJ g5.symm
    refine⟨by rw[r1,r2],?_⟩
    rw[t1,t2,hid.2.2.2,hid'.2.2.2]
    exact zXm hE _ (q2 h3).rev
end
mutual
def e12:Nat->zF->Int->Option (xE×Int)
 |0,_,_=>none
 |qq+1,p0,p1=>
 bL qq p0 (xL (p1-1)) 0 []
def bL:Nat->zF->Int->Int->List xE->Option (xE×Int)
 |0,_,_,_,_=>none
 |qq+1,p0,v1,v7,E0=>
 if decide (v7<(p0.sub_.length:Int))then
 if decide (v1>(-9000))then
 zR p0.sub_ v7>>=fun x3=>
 e12 qq (zF.mk x3.kind_ x3.n_ x3.at_ x3.sub_ x3.t_) v1>>=fun r5=>
 xQ 88 E0 [(xE.mk r5.1.kind_ r5.1.n_ r5.1.at_ r5.1.sub_ r5.1.t_)]>>=fun l7=>
 bL qq p0 r5.2 (xL (v7+1)) l7
 else
 some ((xE.mk p0.kind_ p0.n_ p0.at_ E0 p0.t_),v1)
 else
 some ((xE.mk p0.kind_ p0.n_ p0.at_ E0 p0.t_),v1)
end
abbrev K12 (p0:zF) (p1:Int) (r:xE×Int) (C:Cf):Prop:=C 12 [] [vN p0,ai p1] (.tup [zGA (xE.mk r.1.kind_ r.1.n_ r.1.at_ r.1.sub_ r.1.t_),ai r.2]) [] 0
theorem zKo:∀qq:Nat,(∀ {p0 p1 r},e12 qq p0 p1=some r->K12 p0 p1 r Ct)∧(∀ {p0 v1 v7 E0 r},bL qq p0 v1 v7 E0=some r->(∀j,dL 0 (pt 16309 Tryz.f12) (sp j 51 0 [(1,ai v1),(2,.mp 0 0),(4,.mp 1 0),(6,.mp 2 0),(7,ai v7)]) (⟨[(0,.cells [ai p0.kind_,ai p0.n_,ai p0.at_,zO zP p0.sub_ .no,ai p0.t_.k,ai p0.t_.n,zO zD p0.t_.sub .no]),(1,.cells [ai 0,ai 0,ai 0,zO tK ([]:List xE) .nl,ai 0,ai 0,zO zD ([]:zQ) .nl]),(2,.cells [ai p0.kind_,ai p0.n_,ai p0.at_,zO tK E0 (.st 0 7),ai p0.t_.k,ai p0.t_.n,zO zD p0.t_.sub .no])],3,[0],1,[]⟩) (fQ 0 (nQ 0 Tryz.f12 (.tup [zGA (xE.mk r.1.kind_ r.1.n_ r.1.at_ r.1.sub_ r.1.t_),ai r.2]) [] 0) [.blk 0,.seq (pt 255 Tryz.f12)]))):=by
 intro qq
 induction qq with
 |zero=>
  exact⟨fun h=>nn h,fun h=>nn h⟩
 |succ qq ih=>
  obtain⟨zZp,zHP⟩:=ih
  refine⟨?_,?_⟩
  intro p0 p1 r h
  rw[e12]at h
  exact⟨tH ⟨func12,rfl⟩ 6 [(some 2,3,7)] [0,1,2] [0] [1,2,4,6,7] (oD (dT p0.t_.sub)<|oD (pV ([]:List xE))<|oD (dT ([]:zQ))<|oD (pV ([]:List xE))<|oD (dT p0.t_.sub)<|oD (zS p0.sub_) o0) (zHP h),⟨⟨tv,tv,tv,⟨tv,zS _⟩,tv,tv,⟨tv,dT _⟩,tv⟩,tv,tv⟩,zA,⟨⟨tv,tv,tv,pV _,tv,tv,dT _,tv⟩,tv,tv⟩,zA⟩
  intro p0 v1 v7 E0 r h
  rw[bL]at h
  obtain⟨h1,h⟩|⟨h1,h⟩:=zL h
  have k:=oB 2 h1 o0
  obtain⟨h2,h⟩|⟨h2,h⟩:=zL h
  obtain⟨x3,h4,h⟩:=zB h
  obtain⟨r5,h6,h⟩:=zB h
  obtain⟨l7,h8,h⟩:=zB h
  exact fun j=>lH 2 [] [0,1,2] [1] [1,2,4,6,7] (oD (dT p0.t_.sub)<|oD (pV l7)<|oD (dT ([]:zQ))<|oD (pV ([]:List xE))<|oD (dT p0.t_.sub)<|oD (zS p0.sub_)<|oP 0 (zRY h8 (by simp))<|oS 5 (xJ eG [(xE.mk r5.1.kind_ r5.1.n_ r5.1.at_ r5.1.sub_ r5.1.t_)])<|oC 1 [] (zZp h6)<|oA 1 (zAN (o:=.no) h4)<|oB 0 h2 k) (zHP h)
  cases h
  exact fun j=>lF 2 [] (oD (dT p0.t_.sub)<|oD (pV E0)<|oB 0 h2 k)
  cases h
  exact fun j=>lF 2 [] (oD (dT p0.t_.sub)<|oD (pV E0)<|oB 2 h1 o0)
theorem c12{qq p0 p1 r}(h:e12 qq p0 p1=some r):K12 p0 p1 r Ct:=(zKo _).1 h
def e46(qq:Nat)(M:wF):Option yU:=
 e20 qq M.l>>=fun r1=>
 some r1
theorem c46{qq M r}(h:e46 qq M=some r):Ct 46 [mB M 1,mR M] [.mp 0 0] (.sl (flat yZ r) r.length .no) [mB M 1,mR M] 0:=⟨by
 unfold e46 at h
 obtain⟨r1,h2,h⟩:=zB h
 obtain rfl:=sj h
 exact tF ⟨func46,rfl⟩ 0 [0,1] (oD (dE r1)<|rF M<|oC 2 [] (c20 h2) o0),⟨(lz rfl),tv⟩,(eH (lz rfl) zA),dE _,(iY (lz rfl) zA)⟩
def e72(qq:Nat)(p0:yU)(p1:zF):Option Bool:=
 e42 qq p0>>=fun r1=>
 if r1 then
 zJX qq (zF.mk p1.kind_ p1.n_ p1.at_ p1.sub_ p1.t_)>>=fun r4=>
 if r4 then
 mJ qq p0 (zF.mk p1.kind_ p1.n_ p1.at_ p1.sub_ p1.t_)>>=fun r7=>
 some r7
 else
 some false
 else
 some false
theorem q72:Qf 72 f72:=⟨func72,rfl⟩
theorem c72{qq p0 p1 r}(h:e72 qq p0 p1=some r):Ct 72 [] [zO yZ p0 .no,vN p1] (ab r) [] 0:=⟨by
 unfold e72 at h
 obtain⟨r1,h2,h⟩:=zB h
 obtain⟨h3,h⟩|⟨h3,h⟩:=zL h
 obtain⟨r4,h5,h⟩:=zB h
 have k:=oK 0 [] h3 (c42 h2) o0
 obtain⟨h6,h⟩|⟨h6,h⟩:=zL h
 obtain⟨r7,h8,h⟩:=zB h
 obtain rfl:=sj h
 exact tF q72 0 [] (oC 1 [] (zNJ h8)<|oK 1 [] h6 (zRw h5) k)
 obtain rfl:=sj h
 exact tF q72 0 [] (oK 1 [] h6 (zRw h5) k)
 obtain rfl:=sj h
 exact tF q72 0 [] (oK 0 [] h3 (c42 h2) o0),⟨⟨tv,dE _⟩,⟨tv,tv,tv,⟨tv,zS _⟩,tv,tv,⟨tv,dT _⟩,tv⟩,tv⟩,zA,tv,zA⟩
def bM:Nat->yU->zJ->Int->Option Bool
 |0,_,_,_=>none
 |qq+1,p0,p1,v23=>
 if decide (v23<(p1.pats_.length:Int))then
 zR p1.pats_ v23>>=fun x6=>
 e72 qq p0 (zF.mk x6.kind_ x6.n_ x6.at_ x6.sub_ x6.t_)>>=fun r8=>
 if r8 then
 bM qq p0 p1 (xL (v23+1))
 else
 some false
 else
 if p1.has_ then
 e73 qq p1.pats_>>=fun r12=>
 e48 qq p1.body_ (r12.length:Int) (p0.length:Int)>>=fun r14=>
 if r14 then
 e49 qq p1.body_>>=fun r17=>
 some ((r17.length:Int)==0)
 else
 some false
 else
 if p1.body_.k==0 then
 if p1.body_.n==0 then
 some ((p1.body_.sub.length:Int)==0)
 else
 some false
 else
 some false
def e47(qq:Nat)(p0:yU)(p1:zJ)(p2:Int):Option Bool:=
 if (p1.pats_.length:Int) != p2 then
 some false
 else
 e71 qq p1.pats_>>=fun r2=>
 if r2 then
 bM qq p0 p1 0
 else
 some false
theorem q47:Qf 47 f47:=⟨func47,rfl⟩
theorem zUJ:∀qq:Nat,(∀ {p0 p1 v23 r},bM qq p0 p1 v23=some r->(∀j,dL 0 (pt 4021 f47) (sp j 68 0 [(0,zO yZ p0 .no),(4,.mp 0 0),(21,zO zP p1.pats_ .no),(22,ai (p1.pats_.length:Int)),(23,ai v23)]) (⟨[(0,.cells [zO zP p1.pats_ .no,ab p1.has_,ai p1.body_.k,ai p1.body_.n,zO zD p1.body_.sub .no])],1,[],0,[]⟩) (fQ 0 (nQ 0 f47 (ab r) [] 0) [.blk 0,.seq (pt 63 f47)]))):=by
 intro qq
 induction qq with
 |zero=>
  exact fun h=>nn h
 |succ qq ih=>
  intro p0 p1 v23 r h
  rw[bM]at h
  obtain⟨h5,h⟩|⟨h5,h⟩:=zL h
  obtain⟨x6,h7,h⟩:=zB h
  obtain⟨r8,h9,h⟩:=zB h
  have k:=oA 0 (zAN (o:=.no) h7)<|oB 0 h5 o0
  obtain⟨h10,h⟩|⟨h10,h⟩:=zL h
  exact fun j=>lH 2 [] [0] [] [0,4,21,22,23] (oD (zS p1.pats_)<|oD (dE p0)<|oD (dT p1.body_.sub)<|oD (zS p1.pats_)<|oK 3 [] h10 (c72 h9) k) (ih h)
  cases h
  exact fun j=>lF 1 [] (oK 3 [] h10 (c72 h9) k)
  have k:=oB 0 h5 o0
  obtain⟨h11,h⟩|⟨h11,h⟩:=zL h
  obtain⟨r12,h13,h⟩:=zB h
  obtain⟨r14,h15,h⟩:=zB h
  have k:=oC 3 [] (c73 h13)<|oB 0 h11 k
  obtain⟨h16,h⟩|⟨h16,h⟩:=zL h
  obtain⟨r17,h18,h⟩:=zB h
  cases h
  exact fun j=>lF 2 [] (oC 1 [] (c49 h18)<|oK 2 [] h16 (c48 h15) k)
  cases h
  exact fun j=>lF 0 [] (oK 2 [] h16 (c48 h15) k)
  have k:=oB 0 h11 k
  obtain⟨h19,h⟩|⟨h19,h⟩:=zL h
  have k:=oB 2 h19 k
  obtain⟨h20,h⟩|⟨h20,h⟩:=zL h
  cases h
  exact fun j=>lF 3 [] (oB 1 h20 k)
  cases h
  exact fun j=>lF 0 [] (oB 1 h20 k)
  cases h
  exact fun j=>lF 0 [] (oB 2 h19 k)
theorem c47{qq p0 p1 p2 r}(h:e47 qq p0 p1 p2=some r):Ct 47 [] [zO yZ p0 .no,w5 p1,ai p2] (ab r) [] 0:=⟨by
 unfold e47 at h
 obtain⟨h1,h⟩|⟨h1,h⟩:=zL h
 cases h
 exact tF q47 0 [] (oB 2 h1 o0)
 obtain⟨r2,h3,h⟩:=zB h
 have k:=oB 2 h1 o0
 obtain⟨h4,h⟩|⟨h4,h⟩:=zL h
 exact tH q47 3 [] [0] [] [0,4,21,22,23] (oD (zS p1.pats_)<|oD (dE p0)<|oD (dT p1.body_.sub)<|oD (zS p1.pats_)<|oK 1 [] h4 (c71 h3) k) (zUJ _ h)
 cases h
 exact tF q47 1 [] (oK 1 [] h4 (c71 h3) k),⟨⟨tv,dE _⟩,⟨⟨tv,zS _⟩,tv,tv,tv,⟨tv,dT _⟩,tv⟩,tv,tv⟩,zA,tv,zA⟩
def bN:Nat->wF->zQ->yU->Int->Option Bool
 |0,_,_,_,_=>none
 |qq+1,M,p2,r1,v31=>
 if decide (v31<(p2.length:Int))then
 zR p2 v31>>=fun x10=>
 e48 qq x10 0 (r1.length:Int)>>=fun r12=>
 if r12 then
 e49 qq x10>>=fun r15=>
 if decide ((r15.length:Int)>0)then
 some false
 else
 bN qq M p2 r1 (xL (v31+1))
 else
 some false
 else
 some true
def bO:Nat->wF->List zJ->zQ->yU->Int->Option Bool
 |0,_,_,_,_,_=>none
 |qq+1,M,p1,p2,r1,v18=>
 if decide (v18<(p1.length:Int))then
 zR p1 v18>>=fun x4=>
 e47 qq r1 (zJ.mk x4.pats_ x4.has_ x4.body_) (p2.length:Int)>>=fun r6=>
 if r6 then
 bO qq M p1 p2 r1 (xL (v18+1))
 else
 some false
 else
 bN qq M p2 r1 0
def e22(qq:Nat)(M:wF)(p1:List zJ)(p2:zQ):Option Bool:=
 e46 qq M>>=fun r1=>
 bO qq M p1 p2 r1 0
theorem zUL:∀qq:Nat,(∀ {M p2 r1 v31 r},bN qq M p2 r1 v31=some r->(∀j,dL 2 (pt 65461 f22) (sp j 47 0 [(7,zO yZ r1 .no),(29,zO zD p2 .no),(30,ai (p2.length:Int)),(31,ai v31)]) (⟨[(0,mB M 1),(1,mR M)],2,[],0,[]⟩) (fQ 2 (nQ 2 f22 (ab r) [mB M 1,mR M] 0) [.blk 2,.seq (pt 1023 f22)]))):=by
 intro qq
 induction qq with
 |zero=>
  exact fun h=>nn h
 |succ qq ih=>
  intro M p2 r1 v31 r h
  rw[bN]at h
  obtain⟨h9,h⟩|⟨h9,h⟩:=zL h
  obtain⟨x10,h11,h⟩:=zB h
  obtain⟨r12,h13,h⟩:=zB h
  have k:=oA 0 (wN (o:=.no) h11)<|oB 0 h9 o0
  obtain⟨h14,h⟩|⟨h14,h⟩:=zL h
  obtain⟨r15,h16,h⟩:=zB h
  have k:=oC 2 [] (c49 h16)<|oK 4 [] h14 (c48 h13) k
  obtain⟨h17,h⟩|⟨h17,h⟩:=zL h
  cases h
  exact fun j=>lF 0 [0,1] (rF M<|oB 1 h17 k)
  exact fun j=>lH 1 [] [0,1] [] [7,29,30,31] (oD (dT p2)<|oD (dE r1)<|rF M<|oB 1 h17 k) (ih h)
  cases h
  exact fun j=>lF 1 [0,1] (rF M<|oK 4 [] h14 (c48 h13) k)
  cases h
  exact fun j=>lF 0 [0,1] (rF M<|oB 0 h9 o0)
theorem zUM:∀qq:Nat,(∀ {M p1 p2 r1 v18 r},bO qq M p1 p2 r1 v18=some r->(∀j,dL 2 (pt 16309 f22) (sp j 47 0 [(2,zO zD p2 .no),(7,zO yZ r1 .no),(16,zO zY p1 .no),(17,ai (p1.length:Int)),(18,ai v18)]) (⟨[(0,mB M 1),(1,mR M)],2,[],0,[]⟩) (fQ 2 (nQ 2 f22 (ab r) [mB M 1,mR M] 0) [.blk 0,.seq (pt 255 f22)]))):=by
 intro qq
 induction qq with
 |zero=>
  exact fun h=>nn h
 |succ qq ih=>
  intro M p1 p2 r1 v18 r h
  rw[bO]at h
  obtain⟨h3,h⟩|⟨h3,h⟩:=zL h
  obtain⟨x4,h5,h⟩:=zB h
  obtain⟨r6,h7,h⟩:=zB h
  have k:=oA 0 (zJv (o:=.no) h5)<|oB 0 h3 o0
  obtain⟨h8,h⟩|⟨h8,h⟩:=zL h
  exact fun j=>lH 2 [] [0,1] [] [2,7,16,17,18] (oD (yC p1)<|oD (dE r1)<|oD (dT p2)<|rF M<|oK 4 [] h8 (c47 h7) k) (ih h)
  cases h
  exact fun j=>lF 1 [0,1] (rF M<|oK 4 [] h8 (c47 h7) k)
  exact fun j=>lH 1 [] [0,1] [] [7,29,30,31] (oD (dT p2)<|oD (dE r1)<|rF M<|oB 0 h3 o0) (zUL _ h)
theorem c22{qq M p1 p2 r}(h:e22 qq M p1 p2=some r):Ct 22 [mB M 1,mR M] [.mp 0 0,zO zY p1 .no,zO zD p2 .no] (ab r) [mB M 1,mR M] 0:=⟨by
 unfold e22 at h
 obtain⟨r1,h2,h⟩:=zB h
 exact tH ⟨func22,rfl⟩ 1 [] [0,1] [] [2,7,16,17,18] (oD (yC p1)<|oD (dE r1)<|oD (dT p2)<|rF M<|oC 1 [0,1] (c46 h2) o0) (zUM _ h),⟨(lz rfl),⟨tv,yC _⟩,⟨tv,dT _⟩,tv⟩,(eH (lz rfl) zA),tv,(iY (lz rfl) zA)⟩
mutual
def cD:Nat->List zJ->List wB->Int->Int->Option (List wB×Bool)
 |0,_,_,_,_=>none
 |qq+1,p0,v4,v5,v6=>
 if decide (v6<(p0.length:Int))then
 zR p0 v6>>=fun x2=>
 E1 qq p0 v4 v6 x2 v5 0 []
 else
 some (v4,true)
def E1:Nat->List zJ->List wB->Int->zJ->Int->Int->List xE->Option (List wB×Bool)
 |0,_,_,_,_,_,_,_=>none
 |qq+1,p0,v4,v6,x2,v5,v8,yB=>
 zR p0 v6>>=fun x4=>
 if decide (v8<(x4.pats_.length:Int))then
 if decide (v5>0)then
 zR x4.pats_ v8>>=fun x8=>
 e12 qq (zF.mk x8.kind_ x8.n_ x8.at_ x8.sub_ x8.t_) v5>>=fun r10=>
 xQ 88 yB [(xE.mk r10.1.kind_ r10.1.n_ r10.1.at_ r10.1.sub_ r10.1.t_)]>>=fun l12=>
 E1 qq p0 v4 v6 x2 r10.2 (xL (v8+1)) l12
 else
 if decide ((xL (v5-1))≤0)then
 some ([],false)
 else
 e13 qq x2.body_>>=fun r15=>
 if decide (r15>150)then
 some ([],false)
 else
 xQ 72 v4 [(wB.mk yB x2.has_ x2.body_)]>>=fun l18=>
 cD qq p0 l18 (xL (v5-1)) (xL (v6+1))
 else
 if decide ((xL (v5-1))≤0)then
 some ([],false)
 else
 e13 qq x2.body_>>=fun r21=>
 if decide (r21>150)then
 some ([],false)
 else
 xQ 72 v4 [(wB.mk yB x2.has_ x2.body_)]>>=fun l24=>
 cD qq p0 l24 (xL (v5-1)) (xL (v6+1))
end
def e4(qq:Nat)(p0:List zJ):Option (List wB×Bool):=
 cD qq p0 [] 300 0
theorem zFP:∀qq:Nat,(∀ {p0 v4 v5 v6 r},cD qq p0 v4 v5 v6=some r->(∀j,dL 0 (pt 16309 Tryz.f4) (sp j 78 0 [(0,zO zY p0 .no),(4,zO tB v4 (.st 0 5)),(5,ai v5),(6,ai v6)]) (⟨[],0,[0],1,[]⟩) (fQ 0 (nQ 0 Tryz.f4 (.tup [.sl (flat tB r.1) r.1.length .no,ab r.2]) [] 0) [.blk 0,.seq (pt 255 Tryz.f4)])))∧(∀ {p0 v4 v6 x2 v5 v8 yB r},E1 qq p0 v4 v6 x2 v5 v8 yB=some r->(∀j,dL 0 (pt 1068885941 Tryz.f4) (sp j 78 0 [(0,zO zY p0 .no),(4,zO tB v4 (.st 0 5)),(5,ai v5),(6,ai v6),(7,.mp 0 0),(8,ai v8)]) (⟨[(0,.cells [zO tK yB (.st 1 7),ab x2.has_,ai x2.body_.k,ai x2.body_.n,zO zD x2.body_.sub .no])],1,[0,1],2,[]⟩) (fQ 0 (nQ 0 Tryz.f4 (.tup [.sl (flat tB r.1) r.1.length .no,ab r.2]) [] 0) [.blk 2,.seq (pt 16701343 Tryz.f4),.blk 1,.seq (pt 260959 Tryz.f4),.loop (pt 16309 Tryz.f4),.blk 0,.seq (pt 255 Tryz.f4)]))):=by
 intro qq
 induction qq with
 |zero=>
  exact⟨fun h=>nn h,fun h=>nn h⟩
 |succ qq ih=>
  obtain⟨zOF,zOG⟩:=ih
  refine⟨?_,?_⟩
  intro p0 v4 v5 v6 r h
  rw[cD]at h
  obtain⟨h1,h⟩|⟨h1,h⟩:=zL h
  obtain⟨x2,h3,h⟩:=zB h
  exact fun j=>lH 2 [(some 0,0,7)] [0] [0,1] [0,4,5,6,7,8] (oD (uJ v4)<|oD (yC p0)<|oD (dT x2.body_.sub)<|oD (pV ([]:List xE))<|oA 1 (zJv (o:=.no) h3)<|oA 0 (zJv (o:=.no) h3)<|oB 1 h1 o0) (zOG h)
  cases h
  exact fun j=>lF 0 [] (oD (uJ v4)<|oB 1 h1 o0)
  intro p0 v4 v6 x2 v5 v8 yB r h
  rw[E1]at h
  obtain⟨x4,h5,h⟩:=zB h
  have k:=oA 0 (zJv (o:=.no) h5) o0
  obtain⟨h6,h⟩|⟨h6,h⟩:=zL h
  have k:=oB 2 h6 k
  obtain⟨h7,h⟩|⟨h7,h⟩:=zL h
  obtain⟨x8,h9,h⟩:=zB h
  obtain⟨r10,h11,h⟩:=zB h
  obtain⟨l12,h13,h⟩:=zB h
  exact fun j=>lH 2 [] [0] [0,2] [0,4,5,6,7,8] (oD (uJ v4)<|oD (yC p0)<|oD (dT x2.body_.sub)<|oD (pV l12)<|oP 0 (zRY h13 (by simp))<|oS 5 (xJ eG [(xE.mk r10.1.kind_ r10.1.n_ r10.1.at_ r10.1.sub_ r10.1.t_)])<|oC 1 [] (c12 h11)<|oA 1 (zAN (o:=.no) h9)<|oA 0 (zJv (o:=.no) h5)<|oB 0 h7 k) (zOG h)
  have k:=oB 0 h7 k
  obtain⟨h14,h⟩|⟨h14,h⟩:=zL h
  cases h
  exact fun j=>lF 0 [] (oD (uJ ([]:List wB))<|oB 1 h14 k)
  obtain⟨r15,h16,h⟩:=zB h
  have k:=oC 1 [] (m7 h16)<|oB 1 h14 k
  obtain⟨h17,h⟩|⟨h17,h⟩:=zL h
  cases h
  exact fun j=>lF 0 [] (oD (uJ ([]:List wB))<|oB 0 h17 k)
  obtain⟨l18,h19,h⟩:=zB h
  exact fun j=>lH 1 [] [] [2] [0,4,5,6] (oD (uJ l18)<|oD (yC p0)<|oP 2 (zRX h19 (by simp))<|oB 0 h17 k) (zOF h)
  have k:=oB 2 h6 k
  obtain⟨h20,h⟩|⟨h20,h⟩:=zL h
  cases h
  exact fun j=>lF 0 [] (oD (uJ ([]:List wB))<|oB 1 h20 k)
  obtain⟨r21,h22,h⟩:=zB h
  have k:=oC 1 [] (m7 h22)<|oB 1 h20 k
  obtain⟨h23,h⟩|⟨h23,h⟩:=zL h
  cases h
  exact fun j=>lF 0 [] (oD (uJ ([]:List wB))<|oB 0 h23 k)
  obtain⟨l24,h25,h⟩:=zB h
  exact fun j=>lH 1 [] [] [2] [0,4,5,6] (oD (uJ l24)<|oD (yC p0)<|oP 2 (zRX h25 (by simp))<|oB 0 h23 k) (zOF h)
theorem c4{qq p0 r}(h:e4 qq p0=some r):Ct 4 [] [zO zY p0 .no] (.tup [.sl (flat tB r.1) r.1.length .no,ab r.2]) [] 0:=⟨by
 unfold e4 at h
 exact tH ⟨func4,rfl⟩ 1 [(none,4,5)] [] [0] [0,4,5,6] (oD (uJ ([]:List wB))<|oD (yC p0) o0) ((zFP _).1 h),⟨⟨tv,yC _⟩,tv⟩,zA,⟨uJ _,tv,tv⟩,zA⟩
mutual
theorem zAs:∀(p:zF) (n:Int),iE p->-8999≤n->n≤1000000->zM (fun q=>e12 q p n) fun r=>r.2≤n-1∧-9000≤r.2∧(-9000<r.2->(ndP p:Int)+r.2≤n)
 | .mk k n0 a sub t,n,ho,h0,h1=>by
  rw[iE]at ho
  refine zM.succ ?_
  simp only[e12]
  rw[yM (x:=n-1) (by omega) (by omega)]
  refine(Y1 sub (.mk k n0 a sub t) (n-1) 0 [] rfl ho.2.1 ho.1 (by simp;omega) (by omega)).mono fun r hr=>⟨hr.1,hr.2.1,fun h=>?_⟩
  have:=hr.2.2 h
  rw[ndP];omega
theorem Y1:∀(r:List zF) (p:zF) (n:Int) (v:Nat) (acc:List xE),p.sub_.drop v=r->lP r->p.sub_.length≤17592186044416->(acc.length:Int)+n≤1000000->-9000≤n->zM (fun q=>bL q p n (v:Int) acc) fun o=>o.2≤n∧-9000≤o.2∧(-9000<o.2->(tE r:Int)+o.2≤n)
 | [],p,n,v,acc,hd,ho,hl,ha,hn=>by
  refine zM.succ ?_
  simp only[bL]
  refine zM.ite (fun h=>?_) fun _=>zM.ret ⟨Int.le_refl _,hn,fun _=>by rw[tE];simp⟩
  rw[drop_nil hd]at h;cases h
 |x::r,p,n,v,acc,hd,ho,hl,ha,hn=>by
  have hlt:=yY hd
  rw[lP]at ho
  refine zM.succ ?_
  simp only[bL,pR]
  refine zM.ite (fun _=>zM.ite (fun hp=>zM.pure (yD hd) ((zAs x n ho.1 (by have:=of_decide_eq_true hp;omega) (by omega)).bind fun y hy=>zM.pure (xB (by simp;omega)) ?_)) fun hp=>zM.ret ⟨Int.le_refl _,hn,fun h=>?_⟩) fun h=>?_
  ·rw[yE v (by omega)]
   have h1:=hy.1
   have h2:=hy.2.1
   refine(Y1 r p y.2 (v+1) _ (zZ hd) ho.2 hl (by simp;omega) h2).mono fun o h=>⟨by have:=h.1;omega,h.2.1,fun h'=>?_⟩
   have a1:=h.2.2 h'
   have a2:=hy.2.2 (by have:=h.1;omega)
   rw[tE];omega
  ·exfalso
   have:=of_decide_eq_false hp
   simp only[]at h
   omega
  ·rw[yK hd]at h;cases h
end
theorem zRi(cs:List zJ)(hcs:cs.length≤17592186044416)(v4:List wB)(i:Nat)(c:zJ)(hd:∃r,cs.drop i=c::r)(hc:okC c){P:List wB×Bool->Prop}(hP:P ([],false))(left:Int)(hleft:left≤300)
  (K:∀(n:Int) (acc:List xE),n≤left-1->(tE c.pats_:Int)+n≤left->0<n->zM (fun q=>xQ 72 v4 [wB.mk acc c.has_ c.body_]>>=fun l=>cD q cs l n (xL ((i:Int)+1))) P) :
  ∀(r:List zF) (v:Nat) (n:Int) (acc:List xE),c.pats_.drop v=r->lP r->(acc.length:Int)+n≤300->-9000≤n->n≤left->(tE c.pats_:Int)+n≤left+tE r->zM (fun q=>E1 q cs v4 (i:Int) c n (v:Int) acc) P:=by
 obtain⟨rr,hd⟩:=hd
 have fin:∀(n:Int) (acc:List xE),-9000≤n->n≤left->(tE c.pats_:Int)+n≤left->zM (fun q=>if decide (xL (n-1)≤0)=true then some ([],false)else e13 q c.body_>>=fun r15=>if decide (r15>150)=true then some ([],false)else xQ 72 v4 [wB.mk acc c.has_ c.body_]>>=fun l=>cD q cs l (xL (n-1)) (xL ((i:Int)+1))) P:=fun n acc h0 h1 h2=>by
  rw[yM (x:=n-1) (by omega) (by omega)]
  refine zM.ite (fun _=>zM.ret hP) fun h=>zM.bind (P:=fun _=>True) ((zDA c.body_).tot trivial) fun _ _=>zM.ite (fun _=>zM.ret hP) fun _=>K (n-1) acc (by omega) (by omega) (by have:=of_decide_eq_false h;omega)
 intro r
 induction r with
 |nil=>
  intro v n acc hv ho ha h0 h1 h2
  refine zM.succ ?_
  simp only[E1]
  refine zM.pure (yD hd) (zM.ite (fun h=>?_) fun _=>fin n acc h0 h1 (by rw[tE]at h2;omega))
  rw[drop_nil hv]at h;cases h
 |cons x r ih=>
  intro v n acc hv ho ha h0 h1 h2
  have hlt:=yY hv
  have hcl:=hc.1
  rw[lP]at ho
  rw[tE]at h2
  refine zM.succ ?_
  simp only[E1,pR]
  refine zM.pure (yD hd) (zM.ite (fun _=>zM.ite (fun hp=>zM.pure (yD hv) ?_) fun hp=>?_) fun h=>?_)
  ·have hp':=of_decide_eq_true hp
   refine(zAs x n ho.1 (by omega) (by omega)).bind fun y hy=>zM.pure (xB (by simp;omega)) ?_
   rw[yE v (by omega)]
   have b1:=hy.1
   have b2:=hy.2.1
   by_cases b3:-9000<y.2
   ·have:=hy.2.2 b3
    exact ih (v+1) y.2 _ (zZ hv) ho.2 (by simp;omega) b2 (by omega) (by omega)
   ·-- too great: what follows says no
    have hz:y.2 = -9000:=by omega
    rw[hz]
    have no:∀(r:List zF) (v:Nat) (acc:List xE),c.pats_.drop v=r->zM (fun q=>E1 q cs v4 (i:Int) c (-9000) (v:Int) acc) P:=fun r v acc hv=>by
     refine zM.succ ?_
     simp only[E1,pR]
     exact zM.pure (yD hd) (zM.ite (fun _=>zM.ite (fun h=>by cases h) fun _=>zM.ite (fun _=>zM.ret hP) fun h=>by cases h) fun _=>zM.ite (fun _=>zM.ret hP) fun h=>by cases h)
    exact no r (v+1) _ (zZ hv)
  ·have hp':=of_decide_eq_false hp
   rw[yM (x:=n-1) (by omega) (by omega)]
   refine zM.ite (fun _=>zM.ret hP) fun h=>?_
   have:=of_decide_eq_false h
   omega
  ·rw[yK hv]at h;cases h
theorem zHQ(cs:List zJ)(hcs:cs.length≤17592186044416):∀(r:List zJ) (i:Nat) (acc:List wB) (n:Int),cs.drop i=r->(∀c∈r,okC c)->(acc.length:Int)+n≤300->0≤n->zM (fun q=>cD q cs acc n (i:Int)) fun o=>o.2=true->∀c∈r,tE c.pats_≤300
 | [],i,acc,n,hd,ho,ha,h0=>by
  refine zM.succ ?_
  simp only[cD]
  refine zM.ite (fun h=>?_) fun _=>zM.ret fun _ _ h=>nomatch h
  rw[drop_nil hd]at h;cases h
 |c::r,i,acc,n,hd,ho,ha,h0=>by
  have hlt:=yY hd
  refine zM.succ ?_
  simp only[cD]
  refine zM.ite (fun _=>zM.pure (yD hd) ?_) fun h=>?_
  ·refine zRi cs hcs acc i c ⟨r,hd⟩ (ho c (by simp)) (fun h=>nomatch h) n (by omega) (fun n' acc' h1 h2 h3=>zM.pure (xB (by simp;omega)) ?_) c.pats_ 0 n [] rfl (ho c (by simp)).2.1 (by simp;omega) (by omega) (by omega) (by omega)
   rw[yE i (by omega)]
   refine(zHQ cs hcs r (i+1) _ n' (zZ hd) (fun x hx=>ho x (by simp[hx])) (by simp;omega) (by omega)).mono fun o h hb x hx=>?_
   rcases List.mem_cons.1 hx with rfl|hx
   ·omega
   ·exact h hb x hx
  ·rw[yK hd]at h;cases h
theorem zOH(cs:List zJ)(hcs:cs.length≤17592186044416)(ho:∀c∈cs,okC c):zM (fun q=>e4 q cs) fun o=>o.2=true->∀c∈cs,tE c.pats_≤300:=by
 simp only[e4]
 exact zHQ cs hcs cs 0 [] 300 rfl ho (by simp) (by omega)
section
variable {N:ByteArray->Bool} {l:List zU} (hE:xA N l) (hF:zG (fun q=>e42 q l) true)
include hE hF
theorem zFQ(p:zF)(ho:iE p):zM (fun q=>e72 q l p) fun b=>b=true->GP l p:=by
 simp only[e72,pR]
 refine zM.bind (P:=fun b=>b=true) (hF.tot rfl) fun _ _=>zM.ite (fun _=>(X1 p ho).bind fun _ _=>zM.ite (fun _=>(zDK hE p ho).bind fun b hb=>zM.ret hb) fun _=>zM.ret fun h=>nomatch h) fun _=>zM.ret fun h=>nomatch h
theorem zDY(c:zJ)(ho:okC c)(hn:tE c.pats_≤300)(n:Int):∀(r:List zF) (v:Nat),c.pats_.drop v=r->zM (fun q=>bM q l c (v:Int)) fun b=>b=true->∀p∈r,GP l p:=by
 intro r
 induction r with
 |nil=>
  intro v hd
  refine zM.succ ?_
  simp only[bM]
  refine zM.ite (fun h=>?_) fun _=>?_
  ·rw[drop_nil hd]at h;cases h
  refine zM.mono (P:=fun _=>True) ?_ fun _ _ _ _ h=>nomatch h
  refine zM.ite (fun _=>?_) fun _=>zM.ite (fun _=>zM.ite (fun _=>zM.ret trivial) fun _=>zM.ret trivial) fun _=>zM.ret trivial
  refine(zAx c.pats_ ho.2.1 (by omega)).bind fun r hr=>zM.bind (P:=fun _=>True) ((kD c.body_ _ _ ho.2.2).tot trivial) fun _ _=>zM.ite (fun _=>?_) fun _=>zM.ret trivial
  exact zM.bind (P:=fun _=>True) ((T9 c.body_ ho.2.2).tot trivial) fun _ _=>zM.ret trivial
 |cons x r ih=>
  intro v hd
  have hlt:=yY hd
  have:=ho.1
  refine zM.succ ?_
  simp only[bM,pR]
  refine zM.ite (fun _=>zM.pure (yD hd) ((zFQ hE hF x (zHg ho.2.1 x (List.mem_of_mem_drop (by rw[hd];simp)))).bind fun b hb=>zM.ite (fun h=>?_) fun _=>zM.ret fun h=>nomatch h)) fun h=>?_
  ·rw[yE v (by omega)]
   refine(ih (v+1) (zZ hd)).mono fun o ho' h' p hp=>?_
   rcases List.mem_cons.1 hp with rfl|hp
   ·exact hb h
   ·exact ho' h' p hp
  ·rw[yK hd]at h;cases h
theorem zFR(c:zJ)(ho:okC c)(hn:tE c.pats_≤300)(n:Int):zM (fun q=>e47 q l c n) fun b=>b=true->(c.pats_.length:Int)=n∧∀p∈c.pats_,GP l p:=by
 simp only[e47]
 refine zM.ite (fun _=>zM.ret fun h=>nomatch h) fun h=>(zDJ c.pats_ ho.2.1 (by omega)).bind fun _ _=>zM.ite (fun _=>?_) fun _=>zM.ret fun h=>nomatch h
 exact(zDY hE hF c ho hn n c.pats_ 0 rfl).mono fun b hb h'=>⟨by simpa using h,hb h'⟩
def zOI(l:List zU)(cs:List zJ)(n:Nat):Prop:=∀c∈cs,c.pats_.length=n∧∀p∈c.pats_,GP l p
end
def e78(qq:Nat)(M:wF)(p1:Tm):Option (Int×zQ×Bool):=
 G3 qq p1>>=fun r1=>
 if r1 then
 e26 qq p1>>=fun r4=>
 zFd qq M r4>>=fun r6=>
 some (r6.1,r6.2.1,r6.2.2)
 else
 some (0,[],false)
theorem q78:Qf 78 f78:=⟨func78,rfl⟩
theorem c78{qq M p1 r}(h:e78 qq M p1=some r):Ct 78 [mB M 1,mR M] [.mp 0 0,xF p1] (.tup [ai r.1,.sl (flat zD r.2.1) r.2.1.length .no,ab r.2.2]) [mB M 1,mR M] 0:=⟨by
 unfold e78 at h
 obtain⟨r1,h2,h⟩:=zB h
 obtain⟨h3,h⟩|⟨h3,h⟩:=zL h
 obtain⟨r4,h5,h⟩:=zB h
 obtain⟨r6,h7,h⟩:=zB h
 cases h
 exact tF q78 3 [0,1] (oD (dT r6.2.1)<|rF M<|oC 0 [0,1] (zUq h7)<|oC 2 [] (c26 h5)<|oK 2 [] h3 (mO h2) o0)
 cases h
 exact tF q78 1 [0,1] (oD (dT ([]:zQ))<|rF M<|oK 2 [] h3 (mO h2) o0),⟨(lz rfl),⟨tv,tv,⟨tv,dT _⟩,tv⟩,tv⟩,(eH (lz rfl) zA),⟨tv,dT _,tv,tv⟩,(iY (lz rfl) zA)⟩
def e80(qq:Nat)(M:wF)(p1:Int):Option Int:=
 if decide (p1<0)then
 some 0
 else
 if decide (p1≥(M.l.length:Int))then
 some 0
 else
 zR M.l p1>>=fun x3=>
 some x3.pars
theorem q80:Qf 80 f80:=⟨func80,rfl⟩
theorem c80{qq M p1 r}(h:e80 qq M p1=some r):Ct 80 [mB M 1,mR M] [.mp 0 0,ai p1] (ai r) [mB M 1,mR M] 0:=⟨by
 unfold e80 at h
 obtain⟨h1,h⟩|⟨h1,h⟩:=zL h
 obtain rfl:=sj h
 exact tF q80 0 [0,1] (rF M<|oB 1 h1 o0)
 have k:=oB 1 h1 o0
 obtain⟨h2,h⟩|⟨h2,h⟩:=zL h
 obtain rfl:=sj h
 exact tF q80 0 [0,1] (rF M<|oB 2 h2 k)
 obtain⟨x3,h4,h⟩:=zB h
 obtain rfl:=sj h
 exact tF q80 1 [0,1] (rF M<|oA 1 (wM (o:=.no) h4)<|oB 2 h2 k),⟨(lz rfl),tv,tv⟩,(eH (lz rfl) zA),tv,(iY (lz rfl) zA)⟩
theorem iH{n:Nat}{v:Nat}(h:v<n):A0 n (v:Int)=some v:=by unfold A0;rw[if_pos (by omega)];simp
theorem fR{α:Type}{l:List α}{v:Nat}(h:v<l.length):zR l (v:Int)=some l[v]:=by unfold zR;rw[if_pos (by omega)];simp[h]
theorem zUO{e:Int}(h:e=8):(e != 0)=true:=by rw[h];decide
theorem zKn{N:ByteArray->Bool}{l:List zU}(hE:xA N l){t:Tm}(hs:zH t=true)(hc:vJ l t):∃p:Nat,(zK l (zN t).n).pars=(p:Int)∧p≤(yG t).length∧0≤(zN t).n∧(zN t).n<l.length:=by
 have h:=rW hs hc
 obtain⟨A,y,hw,-,-,hp,-,q0,q1,-⟩:=vB hE h.1 h.2.1 h.2.2.1
 exact⟨(zK l (zN t).n).pars.toNat,by omega,by rw[h.2.2.2];omega,h.1,h.2.1⟩
theorem zHR(l:List zU)(t:Tm)(hs:zH t=true):zG (fun q=>e78 q (yX l) t) (N4 l t):=by
 simp only[e78]
 refine(xR t (zX hs)).bind (zG.ifT hs (((nJ t (zX hs)).eq (by unfold iZ;rw[if_pos hs])).bind ((O8 l t hs).bind zG.ret)))
theorem zUP{t:Tm}(hs:zH t=true):(yG t).length≤8192:=by
 have h:=zI hs
 have:=sB t h.2.2
 omega
def rY:Nat->zQ->Nat->Nat->Int->Int->Int->zQ->Option Tm
 |0,_,_,_,_,_,_,_=>none
 |qq+1,q1,q2,q3,v9,qT,oN,uM=>
 if decide (v9<(q2:Int))then
 A0 q2 v9>>=fun x2=>
 zR q1 (x2:Int)>>=fun x4=>
 e94 qq (Tm.mk qT oN uM) x4>>=fun r6=>
 rY qq q1 q2 q3 (xL (v9+1)) r6.k r6.n r6.sub
 else
 some (Tm.mk qT oN uM)
def eR(qq:Nat)(p0:Tm)(q1:zQ)(q2 q3:Nat):Option Tm:=
 rY qq q1 q2 q3 0 p0.k p0.n p0.sub
theorem zFS:∀qq:Nat,(∀ {q1 q2 q3 v9 qT oN uM r},rY qq q1 q2 q3 v9 qT oN uM=some r->(∀j,dL 1 (pt 949 f63) (sp j 18 0 [(2,.mp 1 0),(4,.mp 2 0),(7,.ms 0 0 q2 q3 3),(8,ai (q2:Int)),(9,ai v9)]) (⟨[(0,.row (flat zD q1)),(1,.cells [ai qT,ai oN,zO zD uM .no]),(2,.cells [ai 0,ai 0,zO zD ([]:zQ) .nl])],3,[],0,[]⟩) (fQ 1 (nQ 1 f63 (xF r) [.row (flat zD q1)] 0) [.blk 0,.seq (pt 15 f63)]))):=by
 intro qq
 induction qq with
 |zero=>
  exact fun h=>nn h
 |succ qq ih=>
  intro q1 q2 q3 v9 qT oN uM r h
  rw[rY]at h
  obtain⟨h1,h⟩|⟨h1,h⟩:=zL h
  obtain⟨x2,h3,h⟩:=zB h
  obtain⟨x4,h5,h⟩:=zB h
  obtain⟨r6,h7,h⟩:=zB h
  exact fun j=>lH 2 [] [0,1,2] [] [2,4,7,8,9] (oD (dT ([]:zQ))<|oD (dT r6.sub)<|oD (dT q1)<|oC 3 [] (c94 h7)<|oG (a:=(.agg [ai x4.k,ai x4.n,zO zD x4.sub .no])) 0 (ldE vV h5 (true,3) (val:=.agg [ai x4.k,ai x4.n,zO zD x4.sub .no]) (by rw[xM];rfl))<|oA 0 (fB (b:=0) (c:=q3) (z:=3) h3)<|oB 0 h1 o0) (ih h)
  cases h
  exact fun j=>lF 2 [0] (oD (dT uM)<|oD (dT q1)<|oB 0 h1 o0)
theorem zHS{qq p0 q1 q2 q3 r}(h:eR qq p0 q1 q2 q3=some r):Ct 63 [.row (flat zD q1)] [xF p0,.ms 0 0 q2 q3 3] (xF r) [.row (flat zD q1)] 0:=⟨by
 unfold eR at h
 exact tH ⟨func63,rfl⟩ 1 [] [0,1,2] [] [2,4,7,8,9] (oD (dT ([]:zQ))<|oD (dT p0.sub)<|oD (dT q1) o0) (zFS _ h),⟨⟨tv,tv,⟨tv,dT _⟩,tv⟩,(lz rfl),tv⟩,(zC (dT _) zA),⟨tv,tv,dT _,tv⟩,(zC (dT _) zA)⟩
def sY:Nat->zQ->Int->Int->zQ->Option zQ
 |0,_,_,_,_=>none
 |qq+1,q0,v2,v3,yB=>
 if decide (v2<v3)then
 A0 q0.length v3>>=fun x2=>
 zR yB (x2:Int)>>=fun x4=>
 A0 q0.length v2>>=fun x6=>
 zR yB (x6:Int)>>=fun x8=>
 A4 yB x6 x4>>=fun x10=>
 A4 x10 x2 x8>>=fun x12=>
 sY qq q0 (xL (v2+1)) (xL (v3-1)) x12
 else
 some yB
def E2(qq:Nat)(q0:zQ):Option zQ:=
 sY qq q0 0 (xL ((q0.length:Int)-1)) q0
theorem zFT:∀qq:Nat,(∀ {q0 v2 v3 yB r},sY qq q0 v2 v3 yB=some r->(∀j,dL 1 (pt 53 f87) (sp j 28 0 [(0,.ms 0 0 q0.length q0.length 3),(2,ai v2),(3,ai v3)]) (⟨[(0,.row (flat zD yB))],1,[],0,[]⟩) (fQ 1 (nQ 1 f87 (.tup []) [.row (flat zD r)] 0) [.blk 0]))):=by
 intro qq
 induction qq with
 |zero=>
  exact fun h=>nn h
 |succ qq ih=>
  intro q0 v2 v3 yB r h
  rw[sY]at h
  obtain⟨h1,h⟩|⟨h1,h⟩:=zL h
  obtain⟨x2,h3,h⟩:=zB h
  obtain⟨x4,h5,h⟩:=zB h
  obtain⟨x6,h7,h⟩:=zB h
  obtain⟨x8,h9,h⟩:=zB h
  obtain⟨x10,h11,h⟩:=zB h
  obtain⟨x12,h13,h⟩:=zB h
  exact fun j=>lH 2 [] [0] [] [0,2,3] (oD (dT x12)<|oW 0 (wtE (x:=x8) (cs:=[ai x8.k,ai x8.n,zO zD x8.sub .no]) vV (by rw[xM];rfl) h13)<|oA 0 (fB (b:=0) (c:=List.length q0) (z:=3) h3)<|oW 0 (wtE (x:=x4) (cs:=[ai x4.k,ai x4.n,zO zD x4.sub .no]) vV (by rw[xM];rfl) h11)<|oA 0 (fB (b:=0) (c:=List.length q0) (z:=3) h7)<|oG (a:=(.agg [ai x8.k,ai x8.n,zO zD x8.sub .no])) 0 (ldE vV h9 (true,3) (val:=.agg [ai x8.k,ai x8.n,zO zD x8.sub .no]) (by rw[xM];rfl))<|oA 0 (fB (b:=0) (c:=List.length q0) (z:=3) h7)<|oG (a:=(.agg [ai x4.k,ai x4.n,zO zD x4.sub .no])) 0 (ldE vV h5 (true,3) (val:=.agg [ai x4.k,ai x4.n,zO zD x4.sub .no]) (by rw[xM];rfl))<|oA 0 (fB (b:=0) (c:=List.length q0) (z:=3) h3)<|oB 0 h1 o0) (ih h)
  obtain rfl:=sj h
  exact fun j=>lF 0 [0] (oD (dT yB)<|oB 0 h1 o0)
theorem zRg{qq q0 r}(h:E2 qq q0=some r):Ct 87 [.row (flat zD q0)] [.ms 0 0 q0.length q0.length 3] (.tup []) [.row (flat zD r)] 0:=⟨by
 unfold E2 at h
 exact tH ⟨func87,rfl⟩ 2 [] [0] [] [0,2,3] (oD (dT q0) o0) (zFT _ h),⟨(lz rfl),tv⟩,(zC (dT _) zA),tv,(zC (dT _) zA)⟩
theorem nN{α:Type}{l:List α}{k:Nat}(x:α)(h:k<l.length):A4 l k x=some (l.set k x):=by unfold A4;rw[if_pos h]
theorem zHT(l:List Tm)(h:l.length≤1000000):zG (fun q=>M2 q l) (if l=[]then .inl ()else .inr l):=by
 refine zG.mk fun q=>?_
 unfold M2
 by_cases hl:l=[]
 ·subst hl;rfl
 ·rw[if_neg (by simpa using hl),if_neg hl,xB (by simp;omega)];rfl
theorem zOJ(c:Nat)(row:List Tm)(hl:row.length≤1000000):∀(r:List Tm) (v:Nat) (f:Tm),row.drop v=r->zG (fun q=>rY q row row.length c (v:Int) f.k f.n f.sub) (wJ f r)
 | [],v,f,hd=>by
  refine zG.succ ?_
  simp only[rY,uQ]
  exact zG.ifF (drop_nil hd) (zG.ret.eq rfl)
 |x::r,v,f,hd=>by
  have hlt:=yY hd
  have hx:row[v]=x:=by have:=yD hd;rw[fR hlt]at this;exact Option.some.inj this
  refine zG.succ ?_
  simp only[rY,uQ]
  refine zG.ifT (yK hd) (zG.pure (iH hlt) (zG.pure (fR hlt) ((cX f _).bind ?_)))
  rw[yE v (by omega),hx]
  exact zOJ c row hl r (v+1) (.mk 5 0 [f,x]) (zZ hd)
theorem zOK(f:Tm)(row:List Tm)(n c:Nat)(hn:row.length=n)(hl:n≤1000000):zG (fun q=>eR q f row n c) (wJ f row):=by
 subst hn
 simp only[eR]
 exact zOJ c row hl row 0 f rfl
abbrev RM:=Int×Tm×Int×Int×Int×List Tm×Nat×Nat
def er8(r:RM):Int:=if r.1=2 then r.2.2.1 else 9
theorem zDZ{r:RM}(h:er8 r=8):r.1=2∧r.2.2.1=8:=by
 unfold er8 at h
 split at h
 ·rename_i h2;exact⟨h2,h⟩
 ·omega
theorem zOL{r:RM}(h1:r.1=2)(h2:r.2.2.1=8):er8 r=8:=by unfold er8;rw[if_pos h1];exact h2
mutual
def nO:Nat->yU->yU->tW->yV->yV->Int->Int->Int->zF->Tm->zQ->Nat->Nat->Option (Int×Tm×Int×Int×Int×zQ×Nat×Nat)
 |0,_,_,_,_,_,_,_,_,_,_,_,_,_=>none
 |qq+1,q0,q1,q2,q3,q4,q5,q6,q7,p1,p2,qG,tV,q12=>
 if p1.kind_==3 then
 some (0,p2,q7,q5,q6,qG,tV,q12)
 else
 if p1.kind_==1 then
 gfz tV qG>>=fun l3=>
 xQ 40 l3 [(Tm.mk 0 0 [])]>>=fun l5=>
 A0 l5.length (tV:Int)>>=fun x7=>
 A4 l5 x7 p2>>=fun x9=>
 some (0,p2,q7,q5,q6,x9,List.length l5,List.length l5)
 else
 if p1.kind_==4 then
 some (1,p2,q7,q5,q6,qG,tV,q12)
 else
 e78 qq (wF.mk q0 q1 q2 q3 q4) p2>>=fun r12=>
 if r12.2.2 then
 if r12.1 != p1.n_ then
 some (1,p2,q7,q5,q6,qG,tV,q12)
 else
 e80 qq (wF.mk q0 q1 q2 q3 q4) r12.1>>=fun r16=>
 kY r12.2.1 r16 (r12.2.1.length:Int)>>=fun x18=>
 nP qq q0 q1 q2 q3 q4 q5 q6 q7 p1.sub_ x18 p2 qG tV q12>>=fun r20=>
 some (r20.1,r20.2.1,r20.2.2.1,r20.2.2.2.1,r20.2.2.2.2.1,r20.2.2.2.2.2.1,r20.2.2.2.2.2.2.1,r20.2.2.2.2.2.2.2)
 else
 e60 qq (wF.mk q0 q1 q2 q3 q4) p2 q5 q6>>=fun r22=>
 if r22.2.1 != 0 then
 some (2,p2,r22.2.1,r22.2.2.1,r22.2.2.2,qG,tV,q12)
 else
 e78 qq (wF.mk q0 q1 q2 q3 q4) r22.1>>=fun r25=>
 if r25.2.2 then
 if r25.1 != p1.n_ then
 some (1,r22.1,q7,r22.2.2.1,r22.2.2.2,qG,tV,q12)
 else
 e80 qq (wF.mk q0 q1 q2 q3 q4) r25.1>>=fun r29=>
 kY r25.2.1 r29 (r25.2.1.length:Int)>>=fun x31=>
 nP qq q0 q1 q2 q3 q4 r22.2.2.1 r22.2.2.2 q7 p1.sub_ x31 r22.1 qG tV q12>>=fun r33=>
 some (r33.1,r33.2.1,r33.2.2.1,r33.2.2.2.1,r33.2.2.2.2.1,r33.2.2.2.2.2.1,r33.2.2.2.2.2.2.1,r33.2.2.2.2.2.2.2)
 else
 some (2,p2,q7,r22.2.2.1,r22.2.2.2,qG,tV,q12)
 termination_by structural n=>n
def nP:Nat->yU->yU->tW->yV->yV->Int->Int->Int->List zF->zQ->Tm->zQ->Nat->Nat->Option (Int×Tm×Int×Int×Int×zQ×Nat×Nat)
 |0,_,_,_,_,_,_,_,_,_,_,_,_,_,_=>none
 |qq+1,q0,q1,q2,q3,q4,q5,q6,q7,p1,p2,p3,tV,q12,q13=>
 e62 qq p3>>=fun r1=>
 M2 qq r1.2>>=fun r3=>
 match r3 with
 | .inl y5=>
  tI qq q0 q1 q2 q3 q4 p1 p2 r1 (List.length ([]:zQ)) (List.length ([]:zQ)) 0 q7 q5 q6 q13 q12 ([]:zQ) tV
 | .inr y6=>
  tI qq q0 q1 q2 q3 q4 p1 p2 r1 y6.length y6.length 0 q7 q5 q6 q13 q12 y6 tV
 termination_by structural n=>n
def tI:Nat->yU->yU->tW->yV->yV->List zF->zQ->(Tm×zQ)->Nat->Nat->Int->Int->Int->Int->Nat->Nat->zQ->zQ->Option (Int×Tm×Int×Int×Int×zQ×Nat×Nat)
 |0,_,_,_,_,_,_,_,_,_,_,_,_,_,_,_,_,_,_=>none
 |qq+1,q0,q1,q2,q3,q4,p1,p2,r1,v13_c,v13_n,v27,xC,xP,xX,eS,eT,zAr,Y2=>
 if decide (v27<(p1.length:Int))then
 zR p1 v27>>=fun x7=>
 zR p2 v27>>=fun x9=>
 nO qq q0 q1 q2 q3 q4 xP xX xC (zF.mk x7.kind_ x7.n_ x7.at_ x7.sub_ x7.t_) x9 Y2 eT eS>>=fun r11=>
 A0 v13_n (xL ((xL ((v13_n:Int)-(p2.length:Int)))+v27))>>=fun x13=>
 A4 zAr x13 r11.2.1>>=fun x15=>
 if r11.1 != 0 then
 eR qq r1.1 x15 v13_n v13_c>>=fun r18=>
 some (r11.1,r18,r11.2.2.1,r11.2.2.2.1,r11.2.2.2.2.1,r11.2.2.2.2.2.1,r11.2.2.2.2.2.2.1,r11.2.2.2.2.2.2.2)
 else
 tI qq q0 q1 q2 q3 q4 p1 p2 r1 v13_c v13_n (xL (v27+1)) r11.2.2.1 r11.2.2.2.1 r11.2.2.2.2.1 r11.2.2.2.2.2.2.2 r11.2.2.2.2.2.2.1 x15 r11.2.2.2.2.2.1
 else
 eR qq r1.1 zAr v13_n v13_c>>=fun r20=>
 some (0,r20,xC,xP,xX,Y2,eT,eS)
 termination_by structural n=>n
end
abbrev P3 (q0 q1:yU) (q2:tW) (q3 q4:yV) (q5 q6 q7:Int) (p1:zF) (p2:Tm) (qG:zQ) (tV q12:Nat) (r:Int×Tm×Int×Int×Int×zQ×Nat×Nat) (C:Cf):Prop:=C 50 [.cells [.mp 1 0,.mp 3 0,ai q7],qB q0 2 q3 q4,qR q1 q2,.cells [ai q5,ai q6],.cells [.ms 5 0 tV q12 3],.row (flat zD qG)] [.mp 0 0,vN p1,xF p2,.mp 4 0] (.tup [ai r.1,xF r.2.1]) [.cells [.mp 1 0,.mp 3 0,ai r.2.2.1],qB q0 2 q3 q4,qR q1 q2,.cells [ai r.2.2.2.1,ai r.2.2.2.2.1],.cells [.ms 6 0 r.2.2.2.2.2.2.1 r.2.2.2.2.2.2.2 3],.dead,.row (flat zD r.2.2.2.2.2.1)] 0
abbrev zBd (q0 q1:yU) (q2:tW) (q3 q4:yV) (q5 q6 q7:Int) (p1:List zF) (p2:zQ) (p3:Tm) (tV:zQ) (q12 q13:Nat) (r:Int×Tm×Int×Int×Int×zQ×Nat×Nat) (C:Cf):Prop:=C 79 [.cells [.mp 1 0,.mp 3 0,ai q7],qB q0 2 q3 q4,qR q1 q2,.cells [ai q5,ai q6],.cells [.ms 5 0 q12 q13 3],.row (flat zD tV)] [.mp 0 0,zO zP p1 .no,zO zD p2 .no,xF p3,.mp 4 0] (.tup [ai r.1,xF r.2.1]) [.cells [.mp 1 0,.mp 3 0,ai r.2.2.1],qB q0 2 q3 q4,qR q1 q2,.cells [ai r.2.2.2.1,ai r.2.2.2.2.1],.cells [.ms 6 0 r.2.2.2.2.2.2.1 r.2.2.2.2.2.2.2 3],.dead,.row (flat zD r.2.2.2.2.2.1)] 0
theorem nR:Qf 50 f50:=⟨func50,rfl⟩
theorem nS{q0 q1 q2 q3 q4 q5 q6 q7 p1 p2 qG tV q12 r}(h:P3 q0 q1 q2 q3 q4 q5 q6 q7 p1 p2 qG tV q12 r Ci):P3 q0 q1 q2 q3 q4 q5 q6 q7 p1 p2 qG tV q12 r Ct:=⟨h,⟨(lz rfl),⟨tv,tv,tv,⟨tv,zS _⟩,tv,tv,⟨tv,dT _⟩,tv⟩,⟨tv,tv,⟨tv,dT _⟩,tv⟩,(lz rfl),tv⟩,(zC ⟨(lz rfl),(lz rfl),tv,tv⟩ (eH (lz rfl) (zC ⟨tv,tv,tv⟩ (zC ⟨(lz rfl),tv⟩ (zC (dT _) zA))))),⟨tv,⟨tv,tv,dT _,tv⟩,tv⟩,(zC ⟨(lz rfl),(lz rfl),tv,tv⟩ (iY (lz rfl) (zC ⟨tv,tv,tv⟩ (zC ⟨(lz rfl),tv⟩ (zC tv (zC (dT _) zA))))))⟩
theorem zHU:Qf 79 f79:=⟨func79,rfl⟩
theorem zHV{q0 q1 q2 q3 q4 q5 q6 q7 p1 p2 p3 tV q12 q13 r}(h:zBd q0 q1 q2 q3 q4 q5 q6 q7 p1 p2 p3 tV q12 q13 r Ci):zBd q0 q1 q2 q3 q4 q5 q6 q7 p1 p2 p3 tV q12 q13 r Ct:=⟨h,⟨(lz rfl),⟨tv,zS _⟩,⟨tv,dT _⟩,⟨tv,tv,⟨tv,dT _⟩,tv⟩,(lz rfl),tv⟩,(zC ⟨(lz rfl),(lz rfl),tv,tv⟩ (eH (lz rfl) (zC ⟨tv,tv,tv⟩ (zC ⟨(lz rfl),tv⟩ (zC (dT _) zA))))),⟨tv,⟨tv,tv,dT _,tv⟩,tv⟩,(zC ⟨(lz rfl),(lz rfl),tv,tv⟩ (iY (lz rfl) (zC ⟨tv,tv,tv⟩ (zC ⟨(lz rfl),tv⟩ (zC tv (zC (dT _) zA))))))⟩
theorem lQ:∀qq:Nat,(∀ {q0 q1 q2 q3 q4 q5 q6 q7 p1 p2 qG tV q12 r},nO qq q0 q1 q2 q3 q4 q5 q6 q7 p1 p2 qG tV q12=some r->P3 q0 q1 q2 q3 q4 q5 q6 q7 p1 p2 qG tV q12 r Ct)∧(∀ {q0 q1 q2 q3 q4 q5 q6 q7 p1 p2 p3 tV q12 q13 r},nP qq q0 q1 q2 q3 q4 q5 q6 q7 p1 p2 p3 tV q12 q13=some r->zBd q0 q1 q2 q3 q4 q5 q6 q7 p1 p2 p3 tV q12 q13 r Ct)∧(∀ {q0 q1 q2 q3 q4 p1 p2 r1 v13_c v13_n v27 xC xP xX eS eT zAr Y2 r},tI qq q0 q1 q2 q3 q4 p1 p2 r1 v13_c v13_n v27 xC xP xX eS eT zAr Y2=some r->(∀j,dL 6 (pt 16309 f79) (sp j 63 0 [(0,.mp 0 0),(2,zO zD p2 .no),(4,.mp 4 0),(11,.mp 6 0),(12,.mp 7 0),(13,.ms 8 0 v13_n v13_c 3),(25,zO zP p1 .no),(26,ai (p1.length:Int)),(27,ai v27)]) (⟨[(0,.cells [.mp 1 0,.mp 3 0,ai xC]),(1,qB q0 2 q3 q4),(2,qR q1 q2),(3,.cells [ai xP,ai xX]),(4,.cells [.ms 9 0 eT eS 3]),(5,.dead),(6,.cells [ai 0,ai 0,zO zD ([]:zQ) .nl]),(7,.cells [ai r1.1.k,ai r1.1.n,zO zD r1.1.sub .no]),(8,.row (flat zD zAr)),(9,.row (flat zD Y2))],10,[],0,[]⟩) (fQ 6 (nQ 6 f79 (.tup [ai r.1,xF r.2.1]) [.cells [.mp 1 0,.mp 3 0,ai r.2.2.1],qB q0 2 q3 q4,qR q1 q2,.cells [ai r.2.2.2.1,ai r.2.2.2.2.1],.cells [.ms 6 0 r.2.2.2.2.2.2.1 r.2.2.2.2.2.2.2 3],.dead,.row (flat zD r.2.2.2.2.2.1)] 0) [.blk 0,.seq (pt 255 f79)]))):=by
 intro qq
 induction qq with
 |zero=>
  exact⟨fun h=>nn h,fun h=>nn h,fun h=>nn h⟩
 |succ qq ih=>
  obtain⟨zOM,zEz,fS⟩:=ih
  refine⟨?_,?_,?_⟩
  intro q0 q1 q2 q3 q4 q5 q6 q7 p1 p2 qG tV q12 r h
  rw[nO]at h
  have z {os ob} (k:Oz os ob):=oD (dT p2.sub)<|oD (dT qG)<|A7 q0 q1 q2 q3 q4<|k
  obtain⟨h1,h⟩|⟨h1,h⟩:=zL h
  cases h
  exact nS (tG nR 2 [(some 5,0,0)] [0,1,2,3,4,5,9] [] false (z<|oB 1 h1 o0))
  have k:=oB 1 h1 o0
  obtain⟨h2,h⟩|⟨h2,h⟩:=zL h
  obtain⟨l3,h4,h⟩:=zB h
  obtain⟨l5,h6,h⟩:=zB h
  obtain⟨x7,h8,h⟩:=zB h
  obtain⟨x9,h10,h⟩:=zB h
  cases h
  exact nS (tF nR 3 [0,1,2,3,4,5,9] (oD (dT p2.sub)<|oD (dT x9)<|A7 q0 q1 q2 q3 q4<|oW 0 (wtE (x:=p2) (cs:=[ai p2.k,ai p2.n,zO zD p2.sub .no]) vV (by rw[xM];rfl) h10)<|oA 0 (fB (b:=9) (c:=List.length l5) (z:=3) h8)<|oM 0 (zSZ h4 h6 (by simp))<|oS 3 (xJ xM [(Tm.mk 0 0 [])])<|oB 0 h2 k))
  have k:=oB 0 h2 k
  obtain⟨h11,h⟩|⟨h11,h⟩:=zL h
  cases h
  exact nS (tG nR 2 [(some 5,0,0)] [0,1,2,3,4,5,9] [] false (z<|oB 0 h11 k))
  obtain⟨r12,h13,h⟩:=zB h
  have k:=oC 2 [1,2] (c78 h13)<|oB 0 h11 k
  obtain⟨h14,h⟩|⟨h14,h⟩:=zL h
  have k:=oB 2 h14 k
  obtain⟨h15,h⟩|⟨h15,h⟩:=zL h
  cases h
  exact nS (tG nR 2 [(some 5,0,0)] [0,1,2,3,4,5,9] [] false (z<|oB 2 h15 k))
  obtain⟨r16,h17,h⟩:=zB h
  obtain⟨x18,h19,h⟩:=zB h
  obtain⟨r20,h21,h⟩:=zB h
  cases h
  exact nS (tF nR 3 [0,1,2,3,4,5,9] (oD (dT r20.2.1.sub)<|oD (dT r20.2.2.2.2.2.1)<|A7 q0 q1 q2 q3 q4<|oC 1 [0,1,2,3,4,5] (zEz h21)<|oA 0 (rK h19)<|oC 1 [1,2] (c80 h17)<|oCl 0<|oB 2 h15 k))
  obtain⟨r22,h23,h⟩:=zB h
  have k:=oC 4 [1,2,3] (c60 h23)<|oB 2 h14 k
  obtain⟨h24,h⟩|⟨h24,h⟩:=zL h
  cases h
  exact nS (tG nR 3 [(some 5,0,0)] [0,1,2,3,4,5,10] [] false (z<|oB 3 h24 k))
  obtain⟨r25,h26,h⟩:=zB h
  have k:=oC 2 [1,2] (c78 h26)<|oB 3 h24 k
  obtain⟨h27,h⟩|⟨h27,h⟩:=zL h
  have k:=oB 2 h27 k
  obtain⟨h28,h⟩|⟨h28,h⟩:=zL h
  cases h
  exact nS (tG nR 2 [(some 5,0,0)] [0,1,2,3,4,5,10] [] false (oD (dT r22.1.sub)<|oD (dT qG)<|A7 q0 q1 q2 q3 q4<|oB 4 h28 k))
  obtain⟨r29,h30,h⟩:=zB h
  obtain⟨x31,h32,h⟩:=zB h
  obtain⟨r33,h34,h⟩:=zB h
  cases h
  exact nS (tF nR 3 [0,1,2,3,4,5,10] (oD (dT r33.2.1.sub)<|oD (dT r33.2.2.2.2.2.1)<|A7 q0 q1 q2 q3 q4<|oC 1 [0,1,2,3,4,5] (zEz h34)<|oA 0 (rK h32)<|oC 1 [1,2] (c80 h30)<|oCl 0<|oB 4 h28 k))
  cases h
  exact nS (tG nR 3 [(some 5,0,0)] [0,1,2,3,4,5,10] [] false (z<|oB 2 h27 k))
  intro q0 q1 q2 q3 q4 q5 q6 q7 p1 p2 p3 tV q12 q13 r h
  rw[nP]at h
  obtain⟨r1,h2,h⟩:=zB h
  obtain⟨r3,h4,h⟩:=zB h
  have k:=oC 1 [] (c62 h2) o0
  rcases r3 with y5|y6
  dsimp only at h
  exact zHV (tH zHU 1 [(some 5,0,0),(none,13,4099)] [0,1,2,3,4,5,7,8,10,9] [] [0,2,4,11,12,13,25,26,27] (oD (zS p1)<|oD (dT p2)<|oD (dT tV)<|oD (dT ([]:zQ))<|oD (dT r1.1.sub)<|oD (dT ([]:zQ))<|A7 q0 q1 q2 q3 q4<|oC 3 [] (iU h4) k) (fS h))
  dsimp only at h
  exact zHV (tH zHU 1 [(some 5,0,0)] [0,1,2,3,4,5,7,8,9,10] [] [0,2,4,11,12,13,25,26,27] (oD (zS p1)<|oD (dT p2)<|oD (dT tV)<|oD (dT y6)<|oD (dT r1.1.sub)<|oD (dT ([]:zQ))<|A7 q0 q1 q2 q3 q4<|oC 3 [] (iU h4) k) (fS h))
  intro q0 q1 q2 q3 q4 p1 p2 r1 v13_c v13_n v27 xC xP xX eS eT zAr Y2 r h
  rw[tI]at h
  obtain⟨h6,h⟩|⟨h6,h⟩:=zL h
  obtain⟨x7,h8,h⟩:=zB h
  obtain⟨x9,h10,h⟩:=zB h
  obtain⟨r11,h12,h⟩:=zB h
  obtain⟨x13,h14,h⟩:=zB h
  obtain⟨x15,h16,h⟩:=zB h
  have k:=oW 0 (wtE (x:=r11.2.1) (cs:=[ai r11.2.1.k,ai r11.2.1.n,zO zD r11.2.1.sub .no]) vV (by rw[xM];rfl) h16)<|oA 8 (fB (b:=8) (c:=v13_c) (z:=3) h14)<|oC 1 [0,1,2,3,4,9] (zOM h12)<|oA 3 (wN (o:=.no) h10)<|oA 0 (zAN (o:=.no) h8)<|oB 0 h6 o0
  obtain⟨h17,h⟩|⟨h17,h⟩:=zL h
  obtain⟨r18,h19,h⟩:=zB h
  cases h
  exact fun j=>lF 1 [0,1,2,3,4,5,11] (oD (dT r18.sub)<|oD (dT r11.2.2.2.2.2.1)<|A7 q0 q1 q2 q3 q4<|oC 1 [8] (zHS h19)<|oB 0 h17 k)
  exact fun j=>lH 1 [] [0,1,2,3,4,5,6,7,8,11] [] [0,2,4,11,12,13,25,26,27] (oD (zS p1)<|oD (dT p2)<|oD (dT r11.2.2.2.2.2.1)<|oD (dT x15)<|oD (dT r1.1.sub)<|oD (dT ([]:zQ))<|A7 q0 q1 q2 q3 q4<|oB 0 h17 k) (fS h)
  obtain⟨r20,h21,h⟩:=zB h
  cases h
  exact fun j=>lF 1 [0,1,2,3,4,5,9] (oD (dT r20.sub)<|oD (dT Y2)<|A7 q0 q1 q2 q3 q4<|oC 1 [8] (zHS h21)<|oB 0 h6 o0)
theorem zRf{qq q0 q1 q2 q3 q4 q5 q6 q7 p1 p2 qG tV q12 r}(h:nO qq q0 q1 q2 q3 q4 q5 q6 q7 p1 p2 qG tV q12=some r):P3 q0 q1 q2 q3 q4 q5 q6 q7 p1 p2 qG tV q12 r Ct:=(lQ _).1 h
def QG(l:List zU)(p:zF)(t:Tm)(b:List Tm)(R:Int->Int->RM)(_:Int):Prop:=
 ∃how x e bs c',x.Ok∧(e≠0->how=2)∧(∀y∈bs,zH y=true)∧bs.length≤ndP p∧Mr l p t how x e bs∧R=fun L U=>(how,x,e,L,U,b++bs,(b++bs).length,c')
def QGs(l:List zU)(ps:List zF)(ts pre:List Tm)(h:Tm)(b:List Tm)(R:Int->Int->RM)(_:Int):Prop:=
 ∃how xs e bs c',(wJ h (pre++xs)).Ok∧(e≠0->how=2)∧(∀y∈bs,zH y=true)∧bs.length≤tE ps∧G5 l ps ts how xs e bs∧R=fun L U=>(how,wJ h (pre++xs),e,L,U,b++bs,(b++bs).length,c')
section
variable {N:ByteArray->Bool} (l:List zU) (hE:xA N l) (he:∀e∈l,hJ e)
def HG(p:zF):Prop:=∀(t:Tm) (b:List Tm) (c:Nat) (f:Int),zH t=true->b.length+ndP p≤1000000->0≤f ->
 Ou (fun L U q=>nO q (yX l).l (yX l).rl (yX l).parts (yX l).args (yX l).own L U 0 p t b b.length c) er8 (QG l p t b) True f
theorem zBc(pre rest:List Tm)(t x:Tm):(pre++t::rest).set pre.length x=(pre++[x])++rest:=by
 rw[List.set_append_right _ _ (Nat.le_refl _),Nat.sub_self,List.append_assoc];rfl
theorem zHW(ps:List zF)(own y6:List Tm)(r1:Tm×List Tm)(hlen:ps.length=own.length)(hown:∀x∈own,zH x=true)(hr1:r1.1.Ok)(hy:own.length≤y6.length)(hy8:y6.length≤8192) :
  ∀(r:List zF) (v:Nat) (b:List Tm) (c:Nat) (pre:List Tm) (f:Int),ps.drop v=r->v≤own.length->(∀p∈r,HG l p)->pre.length=y6.length-own.length+v->vK pre->b.length+tE r≤1000000->0≤f ->
  Ou (fun L U q=>tI q (yX l).l (yX l).rl (yX l).parts (yX l).args (yX l).own ps own r1 y6.length y6.length (v:Int) 0 L U c b.length (pre++own.drop v) b) er8 (QGs l r (own.drop v) pre r1.1 b) True f:=by
 have oks:vK own:=fun x hx=>zX (hown x hx)
 intro r
 induction r with
 |nil=>
  intro v b c pre f hd hvl hp ha hao hbl hf
  have hv:own.length≤v:=by
   have:=congrArg List.length hd
   rw[List.length_drop]at this;simp at this;omega
  have hvd:own.drop v=[]:=List.drop_eq_nil_of_le hv
  refine Ou.succ ?_
  simp only[tI]
  rw[hvd,List.append_nil]
  refine Ou.ifF (drop_nil hd) (Ou.evt (zOK r1.1 pre y6.length y6.length (by omega) (by omega)) (Ou.ret hf ⟨0,[],0,[],c,?_,fun h=>absurd rfl h,(fun _ h=>nomatch h),by simp,?_,?_⟩))
  ·rw[List.append_nil];exact pQ _ _ hr1 hao
  ·rw[G5];exact⟨rfl,rfl,rfl,rfl⟩
  ·rw[List.append_nil,List.append_nil]
 |cons p r ih=>
  intro v b c pre f hd hvl hp ha hao hbl hf
  have hlt:=yY hd
  have hvo:v<own.length:=by omega
  rw[tE]at hbl
  have hidx:xL (xL ((y6.length:Int)-(own.length:Int))+(v:Int))=(pre.length:Int):=by
   rw[yM (x:=(y6.length:Int)-(own.length:Int)) (by omega) (by omega),yM (by omega) (by omega)];omega
  have hod:own.drop v=own[v]::own.drop (v+1):=List.drop_eq_getElem_cons hvo
  have hal:(pre++own.drop v).length=y6.length:=by rw[List.length_append,List.length_drop];omega
  have hset:∀x,(pre++own.drop v).set pre.length x=(pre++[x])++own.drop (v+1):=fun x=>by rw[hod];exact zBc _ _ _ _
  refine Ou.succ ?_
  simp only[tI,pR,hidx]
  refine Ou.ifT (yK hd) (Ou.pure (yD hd) (Ou.pure (fR (l:=own) (by omega)) (Ou.bind (hp p (by simp) _ b c f (hown _ (List.getElem_mem _)) (by omega) hf) id (fun r hr=>?_) ?_)))
  ·obtain⟨a1,a2⟩:=zDZ hr
   exact⟨_,zG.pure (iH (by omega)) (zG.pure (nN _ (by omega)) (zG.ifT (by rw[a1];decide) ((zOK r1.1 _ y6.length y6.length (by rw[List.length_set];exact hal) (by omega)).bind zG.ret))),zOL a1 a2⟩
  ·rintro R k k0 k1 ⟨how,x,e,bs,c',hx,he,hbs,hbl',hm,rfl⟩
   dsimp only
   refine Ou.pure (iH (by omega)) (Ou.pure (nN _ (by omega)) (Ou.ite (fun h0=>?_) fun h0=>?_))
   ·have h0':how≠0:=by simpa using h0
    refine Ou.evt (zOK r1.1 _ y6.length y6.length (by rw[List.length_set];exact hal) (by omega)) (Ou.ret (by omega) ⟨how,x::own.drop (v+1),e,bs,c',?_,he,hbs,by rw[tE];omega,?_,?_⟩)
    ·refine pQ _ _ hr1 fun y hy=>?_
     rcases List.mem_append.1 hy with hy|hy
     ·exact hao y hy
     ·rcases List.mem_cons.1 hy with rfl|hy
      ·exact hx
      ·exact oks y (List.mem_of_mem_drop hy)
    ·rw[hod,G5];exact .inl ⟨h0',x,hm,rfl⟩
    ·rw[hset,List.append_assoc];rfl
   ·have h0':how=0:=by simpa using h0
    have e0:e=0:=Decidable.byContradiction fun h=>by have:=he h;omega
    subst e0;subst h0'
    rw[yE v (by have:=hy8;omega),hset]
    refine(ih (v+1) (b++bs) c' (pre++[x]) (f-k) (zZ hd) (by omega) (fun p h=>hp p (by simp[h])) (by rw[List.length_append,ha];simp;omega) (hao.app fun y hy=>by rw[List.mem_singleton.1 hy];exact hx) (by rw[List.length_append];omega) (by omega)).mono ?_ id
    rintro R n _ _ ⟨how,xs,e,b2,c2,g1,g2,g3,g4,g5,g6⟩
    refine⟨how,x::xs,e,bs++b2,c2,by rw[List.append_assoc]at g1;exact g1,g2,fun y hy=>?_,by rw[tE,List.length_append];omega,?_,?_⟩
    ·rcases List.mem_append.1 hy with hy|hy
     ·exact hbs y hy
     ·exact g3 y hy
    ·rw[hod,G5];exact .inr ⟨x,bs,b2,xs,hm,g5,rfl,rfl⟩
    ·rw[g6,List.append_assoc,List.append_assoc];rfl
theorem zRe(ps:List zF)(hp:∀p∈ps,HG l p)(t:Tm)(ht:zH t=true)(j:Nat)(hj:j≤(yG t).length)(hlen:ps.length=((yG t).drop j).length)(b:List Tm)(c:Nat)(hbl:b.length+tE ps≤1000000)(f:Int)(hf:0≤f) :
  Ou (fun L U q=>nP q (yX l).l (yX l).rl (yX l).parts (yX l).args (yX l).own L U 0 ps ((yG t).drop j) t b b.length c) er8 (QGs l ps ((yG t).drop j) ((yG t).take j) (zN t) b) True f:=by
 have hal:=zUP ht
 refine Ou.succ ?_
 simp only[nP]
 refine Ou.evt (oI t ht) (Ou.evt (zHT (yG t) (by omega)) ?_)
 by_cases h:yG t=[]
 ·rw[if_pos h]
  have hps:ps=[]:=List.length_eq_zero_iff.1 (by rw[hlen,h];simp)
  subst hps
  have h2:=zHW l [] ((yG t).drop j) [] (zN t,yG t) hlen (fun x hx=>yW ht (List.mem_of_mem_drop hx)) (zX (wG ht)) (by rw[h];simp) (by simp) [] 0 b c [] f rfl (by omega) (fun _ h=>nomatch h) (by rw[h];simp) (fun _ h=>nomatch h) hbl hf
  rw[List.drop_zero,List.nil_append]at h2
  simp only[h,List.drop_nil,List.take_nil]at h2 ⊢
  exact h2
 ·rw[if_neg h]
  have:=zHW l ps ((yG t).drop j) (yG t) (zN t,yG t) hlen (fun x hx=>yW ht (List.mem_of_mem_drop hx)) (zX (wG ht)) (by simp) hal ps 0 b c ((yG t).take j) f rfl (by omega) hp (by rw[List.length_take,List.length_drop];omega) (fun x hx=>zX (yW ht (List.mem_of_mem_take hx))) hbl hf
  rw[List.drop_zero,List.take_append_drop]at this
  exact this
include hE he
theorem zRd:∀(n:Nat) (p:zF),ndP p≤n->GP l p->HG l p:=by
 intro n
 induction n with
 |zero=>intro p hn;rw[zHf]at hn;omega
 |succ n ih=>
  intro p hn hg t b c f ht hbl hf
  obtain⟨pk,pn,pa,ps,pt⟩:=p
  rw[GP]at hg
  rw[ndP]at hn hbl
  have hps:∀s∈ps,HG l s:=fun s hs=>ih s (by have:=zDG hs;omega) (zNM hg.2 s hs)
  have con:∀(x:Tm) (hx:zH x=true) (hc:vJ l x) (hw:Hw l t x) (h1:pk≠1) (h3:pk≠3) (h4:pk≠4) (hk:¬((zN x).n != pn)=true) (hari:zKw l pn=ps.length) (f:Int) (hf:0≤f),Ou (fun L U q=>e80 q (yX l) (zN x).n>>=fun r16=>kY (yG x) r16 ((yG x).length:Int)>>=fun x18=>nP q (yX l).l (yX l).rl (yX l).parts (yX l).args (yX l).own L U 0 ps x18 x b b.length c>>=fun r20=>some (r20.1,r20.2.1,r20.2.2.1,r20.2.2.2.1,r20.2.2.2.2.1,r20.2.2.2.2.2.1,r20.2.2.2.2.2.2.1,r20.2.2.2.2.2.2.2)) er8 (QG l (.mk pk pn pa ps pt) t b) True f:=by
   intro x hx hc hw h1p h3p h4p hk hari f hf
   obtain⟨j,hj,h1,h2,h3⟩:=zKn hE hx hc
   have hP:zG (fun q=>e80 q (yX l) (zN x).n) (j:Int):=by
    simp only[e80,eP]
    exact zG.ifF (decide_eq_false (by omega)) (zG.ifF (decide_eq_false (by omega)) (zG.pure (yP h2 h3) (zG.ret.eq hj)))
   have hs:=rW hx hc
   have hpn:(zN x).n=pn:=by simpa using hk
   have hlen:ps.length=((yG x).drop j).length:=by
    unfold zKw at hari
    rw[←hpn,if_pos ⟨hs.1,hs.2.1,hs.2.2.1⟩]at hari
    have:=hs.2.2.2
    simp;omega
   refine Ou.evt hP (Ou.pure (zFD h1 (Nat.le_refl _)) ?_)
   rw[show ((yG x).drop j).take ((yG x).length-j)=(yG x).drop j from List.take_of_length_le (by simp)]
   refine Ou.bind (zRe l ps hps x hx j h1 hlen b c (by omega) f hf) id (fun r hr=>⟨_,zG.ret,hr⟩) ?_
   rintro R k k0 k1 ⟨how,xs,e,bs,c',g1,g2,g3,g4,g5,rfl⟩
   have hjp:(zK l pn).pars.toNat=j:=by rw[←hpn];omega
   refine Ou.ret (by omega) ⟨how,_,e,bs,c',g1,g2,g3,by rw[ndP];omega,?_,rfl⟩
   rw[Mr]
   exact .inr (.inr (.inr ⟨h1p,h3p,h4p,.inr (.inr ⟨x,hw,.inr ⟨hpn,xs,by rw[hjp];exact g5,by rw[hjp]⟩⟩)⟩))
  refine Ou.succ ?_
  simp only[nO,zF.kind_,zF.n_,zF.sub_]
  refine Ou.ite (fun h3=>Ou.ret hf ⟨0,t,0,[],c,zX ht,fun h=>absurd rfl h,(fun _ h=>nomatch h),by simp,?_,by rw[List.append_nil]⟩) fun h3=>Ou.ite (fun h1=>?_) fun h1=>Ou.ite (fun h4=>Ou.ret hf ⟨1,t,0,[],c,zX ht,fun h=>absurd rfl h,(fun _ h=>nomatch h),by simp,?_,by rw[List.append_nil]⟩) fun h4=>?_
  ·rw[Mr];exact .inl ⟨by simpa using h3,rfl,rfl,rfl,rfl⟩
  ·refine Ou.pure (a:=b) (by simp[gfz]) (Ou.pure (xB (by simp;omega)) (Ou.pure (iH (by simp)) (Ou.pure (nN _ (by simp)) ?_)))
   have e:(b++[Tm.mk 0 0 []]).set b.length t=b++[t]:=by simp
   have e2:(b++[Tm.mk 0 0 []]).length=(b++[t]).length:=by simp
   rw[e,e2]
   refine Ou.ret hf ⟨0,t,0,[t],_,zX ht,fun h=>absurd rfl h,fun y hy=>by rw[List.mem_singleton.1 hy];exact ht,by rw[ndP];simp,?_,rfl⟩
   rw[Mr];exact .inr (.inl ⟨by simpa using h1,rfl,rfl,rfl,rfl⟩)
  ·rw[Mr];exact .inr (.inr (.inl ⟨by simpa using h4,rfl,rfl,rfl⟩))
  ·have n1:pk≠1:=by simpa using h1
   have n3:pk≠3:=by simpa using h3
   have n4:pk≠4:=by simpa using h4
   obtain⟨-,hari⟩:=hg.1 n1 n3 n4
   refine Ou.evt (zHR l t ht) ?_
   unfold N4
   by_cases hc:vJ l t
   ·rw[if_pos hc]
    refine Ou.ifT rfl (Ou.ite (fun hk=>Ou.ret hf ⟨1,t,0,[],c,zX ht,fun h=>absurd rfl h,(fun _ h=>nomatch h),by simp,?_,by rw[List.append_nil]⟩) fun hk=>?_)
    ·rw[Mr];exact .inr (.inr (.inr ⟨n1,n3,n4,.inr (.inr ⟨t,.inl ⟨hc,rfl⟩,.inl ⟨rfl,rfl,rfl,by simpa using hk⟩⟩)⟩))
    ·exact con t ht hc (.inl ⟨hc,rfl⟩) n1 n3 n4 (by simpa using hk) hari f hf
   ·rw[if_neg hc]
    refine Ou.ifF rfl (Ou.bind (J1 l hE he t (zX ht) f hf) (fun _=>trivial) (fun r hr=>⟨_,zG.ifT (zUO hr) zG.ret,zOL rfl hr⟩) ?_)
    rintro R k k0 k1 (⟨hR,-,rfl⟩|⟨hR,y,e,hB,rfl⟩)
    ·dsimp only
     refine Ou.ifT (by decide) (Ou.ret (by omega) ⟨2,t,5,[],c,zX ht,fun _=>rfl,(fun _ h=>nomatch h),by simp,?_,by rw[List.append_nil]⟩)
     rw[Mr];exact .inr (.inr (.inr ⟨n1,n3,n4,.inl ⟨by decide,rfl,hc,fun _ _ h=>absurd h hR⟩⟩))
    ·dsimp only
     by_cases e0:e=0
     ·subst e0
      rw[if_pos rfl]
      have hy:=hB.shaped ht rfl
      refine Ou.ifF rfl (Ou.evt (zHR l y hy) ?_)
      unfold N4
      by_cases hc':vJ l y
      ·have hw:Hw l t y:=.inr ⟨hc,hR,hc',_,hB⟩
       rw[if_pos hc']
       refine Ou.ifT rfl (Ou.ite (fun hk=>Ou.ret (by omega) ⟨1,y,0,[],c,zX hy,fun h=>absurd rfl h,(fun _ h=>nomatch h),by simp,?_,by rw[List.append_nil]⟩) fun hk=>?_)
       ·rw[Mr];exact .inr (.inr (.inr ⟨n1,n3,n4,.inr (.inr ⟨y,hw,.inl ⟨rfl,rfl,rfl,by simpa using hk⟩⟩)⟩))
       ·exact(con y hy hc' hw n1 n3 n4 (by simpa using hk) hari (f-k) (by omega)).mono (fun _ _ _ _ h=>h) id
      ·rw[if_neg hc']
       refine Ou.ifF rfl (Ou.ret (by omega) ⟨2,t,0,[],c,zX ht,fun h=>absurd rfl h,(fun _ h=>nomatch h),by simp,?_,by rw[List.append_nil]⟩)
       rw[Mr];exact .inr (.inr (.inr ⟨n1,n3,n4,.inr (.inl ⟨rfl,rfl,rfl,hc,hR,y,_,hB,hc'⟩)⟩))
     ·refine Ou.ifT (by simpa using e0) (Ou.ret (by omega) ⟨2,t,e,[],c,zX ht,fun _=>rfl,(fun _ h=>nomatch h),by simp,?_,by rw[List.append_nil]⟩)
      rw[Mr];exact .inr (.inr (.inr ⟨n1,n3,n4,.inl ⟨e0,rfl,hc,fun z j _ h=>e0 (hB.det h).2.1.symm⟩⟩))
end
def tJ:Nat->yU->yU->tW->yV->yV->List zF->Nat->Nat->Int->Int->Int->Int->zQ->Nat->Nat->zQ->Option ((Int×zQ×Int×Int×Int×zQ) ⊕ (zQ×Int×Nat×Int×Int×Int×zQ))
 |0,_,_,_,_,_,_,_,_,_,_,_,_,_,_,_,_=>none
 |qq+1,q0,q1,q2,q3,q4,p1,qG,tV,v15,xC,xP,xX,oR,eU,eV,Y3=>
 if decide (v15<(p1.length:Int))then
 zR p1 v15>>=fun x2=>
 A0 qG v15>>=fun x4=>
 zR oR (x4:Int)>>=fun x6=>
 nO qq q0 q1 q2 q3 q4 xP xX xC (zF.mk x2.kind_ x2.n_ x2.at_ x2.sub_ x2.t_) x6 Y3 eV eU>>=fun r8=>
 if r8.2.2.1==0 then
 G3 qq r8.2.1>>=fun r11=>
 if r11 then
 A4 oR x4 r8.2.1>>=fun x14=>
 if r8.1 != 0 then
 some (.inl (r8.1,[],r8.2.2.1,r8.2.2.2.1,r8.2.2.2.2.1,x14))
 else
 if r8.2.2.1 != 0 then
 some (.inl (r8.1,[],r8.2.2.1,r8.2.2.2.1,r8.2.2.2.2.1,x14))
 else
 tJ qq q0 q1 q2 q3 q4 p1 qG tV (xL (v15+1)) r8.2.2.1 r8.2.2.2.1 r8.2.2.2.2.1 x14 r8.2.2.2.2.2.2.2 r8.2.2.2.2.2.2.1 r8.2.2.2.2.2.1
 else
 A4 oR x4 r8.2.1>>=fun x18=>
 if r8.1 != 0 then
 some (.inl (r8.1,[],2,r8.2.2.2.1,r8.2.2.2.2.1,x18))
 else
 some (.inl (r8.1,[],2,r8.2.2.2.1,r8.2.2.2.2.1,x18))
 else
 A4 oR x4 r8.2.1>>=fun x21=>
 if r8.1 != 0 then
 some (.inl (r8.1,[],r8.2.2.1,r8.2.2.2.1,r8.2.2.2.2.1,x21))
 else
 if r8.2.2.1 != 0 then
 some (.inl (r8.1,[],r8.2.2.1,r8.2.2.2.1,r8.2.2.2.2.1,x21))
 else
 tJ qq q0 q1 q2 q3 q4 p1 qG tV (xL (v15+1)) r8.2.2.1 r8.2.2.2.1 r8.2.2.2.2.1 x21 r8.2.2.2.2.2.2.2 r8.2.2.2.2.2.2.1 r8.2.2.2.2.2.1
 else
 gfz eV Y3>>=fun l25=>
 some (.inr (l25,0,eU,xC,xP,xX,oR))
def lB(qq:Nat)(q0 q1:yU)(q2:tW)(q3 q4:yV)(q5 q6 q7:Int)(p1:List zF)(q9:zQ)(qG tV:Nat):Option ((Int×zQ×Int×Int×Int×zQ) ⊕ (zQ×Int×Nat×Int×Int×Int×zQ)):=
 tJ qq q0 q1 q2 q3 q4 p1 qG tV 0 q7 q5 q6 q9 (List.length ([]:zQ)) (List.length ([]:zQ)) ([]:zQ)
section
variable (q0 q1:yU) (q2:tW) (q3 q4:yV) (q5 q6 q7:Int) (p1:List zF) (q9:zQ) (qG tV:Nat)
abbrev zKm (r:Int×zQ×Int×Int×Int×zQ) (C:Cf):Prop:=C 24 [.cells [.mp 1 0,.mp 3 0,ai q7],qB q0 2 q3 q4,qR q1 q2,.cells [ai q5,ai q6],.row (flat zD q9)] [.mp 0 0,zO zP p1 .no,.ms 4 0 qG tV 3] (.tup [ai r.1,.sl (flat zD r.2.1) r.2.1.length .no]) [.cells [.mp 1 0,.mp 3 0,ai r.2.2.1],qB q0 2 q3 q4,qR q1 q2,.cells [ai r.2.2.2.1,ai r.2.2.2.2.1],.row (flat zD r.2.2.2.2.2)] 0
abbrev zKl (r:zQ×Int×Nat×Int×Int×Int×zQ) (C:Cf):Prop:=C 24 [.cells [.mp 1 0,.mp 3 0,ai q7],qB q0 2 q3 q4,qR q1 q2,.cells [ai q5,ai q6],.row (flat zD q9)] [.mp 0 0,zO zP p1 .no,.ms 4 0 qG tV 3] (.tup [ai r.2.1,.ms 5 0 r.1.length r.2.2.1 3]) [.cells [.mp 1 0,.mp 3 0,ai r.2.2.2.1],qB q0 2 q3 q4,qR q1 q2,.cells [ai r.2.2.2.2.1,ai r.2.2.2.2.2.1],.row (flat zD r.2.2.2.2.2.2),.row (flat zD r.1)] 0
end
theorem zHX:Qf 24 f24:=⟨func24,rfl⟩
theorem Y4:∀qq:Nat,(∀ {q0 q1 q2 q3 q4 p1 qG tV v15 xC xP xX oR eU eV Y3 r},tJ qq q0 q1 q2 q3 q4 p1 qG tV v15 xC xP xX oR eU eV Y3=some r->(∀j,dL 5 (pt 4021 f24) (sp j 59 0 [(0,.mp 0 0),(2,.ms 4 0 qG tV 3),(8,.mp 5 0),(13,zO zP p1 .no),(14,ai (p1.length:Int)),(15,ai v15)]) (⟨[(0,.cells [.mp 1 0,.mp 3 0,ai xC]),(1,qB q0 2 q3 q4),(2,qR q1 q2),(3,.cells [ai xP,ai xX]),(4,.row (flat zD oR)),(5,.cells [.ms 6 0 eV eU 3]),(6,.row (flat zD Y3))],7,[],0,[]⟩) (fQ 5 ((match (generalizing:=false) r with | .inl x=>nQ 5 f24 (.tup [ai x.1,.sl (flat zD x.2.1) x.2.1.length .no]) [.cells [.mp 1 0,.mp 3 0,ai x.2.2.1],qB q0 2 q3 q4,qR q1 q2,.cells [ai x.2.2.2.1,ai x.2.2.2.2.1],.row (flat zD x.2.2.2.2.2)] 0 | .inr x=>nQ 5 f24 (.tup [ai x.2.1,.ms 5 0 x.1.length x.2.2.1 3]) [.cells [.mp 1 0,.mp 3 0,ai x.2.2.2.1],qB q0 2 q3 q4,qR q1 q2,.cells [ai x.2.2.2.2.1,ai x.2.2.2.2.2.1],.row (flat zD x.2.2.2.2.2.2),.row (flat zD x.1)] 0)) [.blk 0,.seq (pt 63 f24)]))):=by
 intro qq
 induction qq with
 |zero=>
  exact fun h=>nn h
 |succ qq ih=>
  intro q0 q1 q2 q3 q4 p1 qG tV v15 xC xP xX oR eU eV Y3 r h
  rw[tJ]at h
  obtain⟨h1,h⟩|⟨h1,h⟩:=zL h
  obtain⟨x2,h3,h⟩:=zB h
  obtain⟨x4,h5,h⟩:=zB h
  obtain⟨x6,h7,h⟩:=zB h
  obtain⟨r8,h9,h⟩:=zB h
  have k:=oC 0 [0,1,2,3,5,6] (zRf h9)<|oG (a:=(.agg [ai x6.k,ai x6.n,zO zD x6.sub .no])) 0 (ldE vV h7 (true,3) (val:=.agg [ai x6.k,ai x6.n,zO zD x6.sub .no]) (by rw[xM];rfl))<|oA 3 (fB (b:=4) (c:=tV) (z:=3) h5)<|oA 0 (zAN (o:=.no) h3)<|oB 0 h1 o0
  obtain⟨h10,h⟩|⟨h10,h⟩:=zL h
  obtain⟨r11,h12,h⟩:=zB h
  have k:=oB 4 h10 k
  obtain⟨h13,h⟩|⟨h13,h⟩:=zL h
  obtain⟨x14,h15,h⟩:=zB h
  have k:=oW 0 (wtE (x:=r8.2.1) (cs:=[ai r8.2.1.k,ai r8.2.1.n,zO zD r8.2.1.sub .no]) vV (by rw[xM];rfl) h15)<|oA 2 (fB (b:=4) (c:=tV) (z:=3) h5)<|oK 1 [] h13 (mO h12) k
  obtain⟨h16,h⟩|⟨h16,h⟩:=zL h
  cases h
  exact fun j=>lF 0 [0,1,2,3,4] (oD (dT ([]:zQ))<|oD (dT x14)<|A7 q0 q1 q2 q3 q4<|oB 0 h16 k)
  have k:=oB 0 h16 k
  obtain⟨h17,h⟩|⟨h17,h⟩:=zL h
  cases h
  exact fun j=>lF 0 [0,1,2,3,4] (oD (dT ([]:zQ))<|oD (dT x14)<|A7 q0 q1 q2 q3 q4<|oB 1 h17 k)
  exact fun j=>lH 1 [] [0,1,2,3,4,5,8] [] [0,2,8,13,14,15] (oD (zS p1)<|oD (dT r8.2.2.2.2.2.1)<|oD (dT x14)<|A7 q0 q1 q2 q3 q4<|oB 1 h17 k) (ih h)
  obtain⟨x18,h19,h⟩:=zB h
  have k:=oW 0 (wtE (x:=r8.2.1) (cs:=[ai r8.2.1.k,ai r8.2.1.n,zO zD r8.2.1.sub .no]) vV (by rw[xM];rfl) h19)<|oA 3 (fB (b:=4) (c:=tV) (z:=3) h5)<|oK 1 [] h13 (mO h12) k
  obtain⟨h20,h⟩|⟨h20,h⟩:=zL h
  cases h
  exact fun j=>lF 0 [0,1,2,3,4] (oD (dT ([]:zQ))<|oD (dT x18)<|A7 q0 q1 q2 q3 q4<|oB 0 h20 k)
  cases h
  exact fun j=>lF 2 [0,1,2,3,4] (oD (dT ([]:zQ))<|oD (dT x18)<|A7 q0 q1 q2 q3 q4<|oB 0 h20 k)
  obtain⟨x21,h22,h⟩:=zB h
  have k:=oW 0 (wtE (x:=r8.2.1) (cs:=[ai r8.2.1.k,ai r8.2.1.n,zO zD r8.2.1.sub .no]) vV (by rw[xM];rfl) h22)<|oA 1 (fB (b:=4) (c:=tV) (z:=3) h5)<|oB 4 h10 k
  obtain⟨h23,h⟩|⟨h23,h⟩:=zL h
  cases h
  exact fun j=>lF 0 [0,1,2,3,4] (oD (dT ([]:zQ))<|oD (dT x21)<|A7 q0 q1 q2 q3 q4<|oB 0 h23 k)
  have k:=oB 0 h23 k
  obtain⟨h24,h⟩|⟨h24,h⟩:=zL h
  cases h
  exact fun j=>lF 0 [0,1,2,3,4] (oD (dT ([]:zQ))<|oD (dT x21)<|A7 q0 q1 q2 q3 q4<|oB 1 h24 k)
  exact fun j=>lH 1 [] [0,1,2,3,4,5,8] [] [0,2,8,13,14,15] (oD (zS p1)<|oD (dT r8.2.2.2.2.2.1)<|oD (dT x21)<|A7 q0 q1 q2 q3 q4<|oB 1 h24 k) (ih h)
  obtain⟨l25,h26,h⟩:=zB h
  obtain⟨h26a,h26b⟩:=gZ h26
  cases h
  obtain rfl:=h26a.symm
  try dsimp only
  rw[←h26b]
  exact fun j=>lF 1 [0,1,2,3,4,6] (oD (dT Y3)<|oD (dT oR)<|A7 q0 q1 q2 q3 q4<|oB 0 h1 o0)
theorem zON{qq q0 q1 q2 q3 q4 q5 q6 q7 p1 q9 qG tV r}(h:lB qq q0 q1 q2 q3 q4 q5 q6 q7 p1 q9 qG tV=some r):(match (generalizing:=false) r with | .inl x=>zKm q0 q1 q2 q3 q4 q5 q6 q7 p1 q9 qG tV x Ct | .inr x=>zKl q0 q1 q2 q3 q4 q5 q6 q7 p1 q9 qG tV x Ct):=by
 unfold lB at h
 have z {os ob} (k:Oz os ob):=oD (zS p1)<|oD (dT ([]:zQ))<|oD (dT q9)<|oD (dC q2)<|oD (dE q1)<|oD (dI q4)<|oD (dI q3)<|k
 rcases r with y0|y1
 exact⟨tH zHX 1 [(some 5,0,4099)] [0,1,2,3,4,5,6] [] [0,2,8,13,14,15] (z<|oD (dE q0) o0) (Y4 _ h),⟨(lz rfl),⟨tv,zS _⟩,(lz rfl),tv⟩,(zC ⟨(lz rfl),(lz rfl),tv,tv⟩ (eH (lz rfl) (zC ⟨tv,tv,tv⟩ (zC (dT _) zA)))),⟨tv,dT _,tv⟩,(zC ⟨(lz rfl),(lz rfl),tv,tv⟩ (iY (lz rfl) (zC ⟨tv,tv,tv⟩ (zC (dT _) zA))))⟩
 exact⟨tH zHX 1 [(some 5,0,4099)] [0,1,2,3,4,5,6] [] [0,2,8,13,14,15] (z<|oD (dE q0) o0) (Y4 _ h),⟨(lz rfl),⟨tv,zS _⟩,(lz rfl),tv⟩,(zC ⟨(lz rfl),(lz rfl),tv,tv⟩ (eH (lz rfl) (zC ⟨tv,tv,tv⟩ (zC (dT _) zA)))),⟨tv,(lz rfl),tv⟩,(zC ⟨(lz rfl),(lz rfl),tv,tv⟩ (iY (lz rfl) (zC ⟨tv,tv,tv⟩ (zC (dT _) (zC (dT _) zA)))))⟩
theorem zHY{qq q0 q1 q2 q3 q4 q5 q6 q7 p1 q9 qG tV r}(h:lB qq q0 q1 q2 q3 q4 q5 q6 q7 p1 q9 qG tV=some r):(match (generalizing:=false) r with | .inl x=>CT prog 24 [.cells [.mp 1 0,.mp 3 0,ai q7],qB q0 2 q3 q4,qR q1 q2,.cells [ai q5,ai q6],.row (flat zD q9)] [.mp 0 0,zO zP p1 .no,.ms 4 0 qG tV 3] (.tup [ai x.1,.sl (flat zD x.2.1) x.2.1.length .no]) [.cells [.mp 1 0,.mp 3 0,ai x.2.2.1],qB q0 2 q3 q4,qR q1 q2,.cells [ai x.2.2.2.1,ai x.2.2.2.2.1],.row (flat zD x.2.2.2.2.2)] 0 | .inr x=>CT prog 24 [.cells [.mp 1 0,.mp 3 0,ai q7],qB q0 2 q3 q4,qR q1 q2,.cells [ai q5,ai q6],.row (flat zD q9)] [.mp 0 0,zO zP p1 .no,.ms 4 0 qG tV 3] (.tup [ai x.2.1,.sl (flat zD x.1) x.1.length .no]) [.cells [.mp 1 0,.mp 3 0,ai x.2.2.2.1],qB q0 2 q3 q4,qR q1 q2,.cells [ai x.2.2.2.2.1,ai x.2.2.2.2.2.1],.row (flat zD x.2.2.2.2.2.2)] 0):=by
 have k:=zON h
 rcases r with y0|y1
 ·exact k
 ·exact CT.freeze (H1:=[.cells [.mp 1 0,.mp 3 0,ai y1.2.2.2.1],qB q0 2 q3 q4,qR q1 q2,.cells [ai y1.2.2.2.2.1,ai y1.2.2.2.2.2.1],.row (flat zD y1.2.2.2.2.2.2)]) (cs:=flat zD y1.1) (res':=(.tup [ai y1.2.1,.sl (flat zD y1.1) y1.1.length .no])) k (Nat.le_of_ble_eq_true rfl) (zC ⟨(lz rfl),(lz rfl),tv,tv⟩ (iY (lz rfl) (zC ⟨tv,tv,tv⟩ (zC (dT _) zA)))) (dT _) ⟨trivial,(.inl ⟨rfl,rfl⟩),tv⟩ (by rfl) rfl
abbrev RRW:=(Int×List Tm×Int×Int×Int×List Tm) ⊕ (List Tm×Int×Nat×Int×Int×Int×List Tm)
def erW:RRW->Int
 | .inl y=>y.2.2.1
 | .inr y=>y.2.2.2.1
def t8(l:List Tm):Prop:=∀x∈l,zH x=true
theorem t8.app{a b:List Tm}(h:t8 a)(k:t8 b):t8 (a++b):=fun x hx=>(List.mem_append.1 hx).elim (h x) (k x)
theorem t8.one{x:Tm}(h:zH x=true):t8 [x]:=fun y hy=>by rw[List.mem_singleton.1 hy];exact h
def QWG(l:List zU)(r:List zF)(ts pre b:List Tm)(n:Nat)(R:Int->Int->RRW)(_:Int):Prop:=
 (∃how e xs bs,(pre++xs).length=n∧(e=0->how≠0∧t8 (pre++xs))∧Rw l r ts how xs e bs∧R=fun L U=>.inl (how,[],e,L,U,pre++xs)) ∨
 ∃xs bs c,(pre++xs).length=n∧t8 (pre++xs)∧t8 (b++bs)∧(b++bs).length≤1000000∧Rw l r ts 0 xs 0 bs∧R=fun L U=>.inr (b++bs,0,c,0,L,U,pre++xs)
section
variable {N:ByteArray->Bool} (l:List zU) (hE:xA N l) (he:∀e∈l,hJ e)
theorem zRc(ps:List zF)(ts:List Tm)(n:Nat)(hps:ps.length=n)(hts:ts.length=n)(hn:n≤1000000)(hs:t8 ts):∀(r:List zF) (b:List Tm) (c:Nat) (pre:List Tm) (f:Int),ps.drop pre.length=r->pre.length≤n->(∀p∈r,HG l p)->t8 pre->t8 b->b.length+tE r≤1000000->0≤f ->
  Ou (fun L U q=>tJ q (yX l).l (yX l).rl (yX l).parts (yX l).args (yX l).own ps n n (pre.length:Int) 0 L U (pre++ts.drop pre.length) c b.length b) erW (QWG l r (ts.drop pre.length) pre b n) True f:=by
 intro r
 induction r with
 |nil=>
  intro b c pre f hd hv hp hsp hb hbl hf
  have hv2:n≤pre.length:=by
   have:=congrArg List.length hd
   rw[List.length_drop]at this;simp at this;omega
  have hvd:ts.drop pre.length=[]:=List.drop_eq_nil_of_le (by omega)
  refine Ou.succ ?_
  simp only[tJ]
  rw[hvd]
  refine Ou.ifF (drop_nil hd) (Ou.pure (a:=b) (by simp[gfz]) (Ou.ret hf (.inr ⟨[],[],c,by simp;omega,by rw[List.append_nil];exact hsp,by rw[List.append_nil];exact hb,by rw[List.append_nil];omega,?_,by simp⟩)))
  rw[Rw];exact⟨rfl,rfl,rfl,rfl⟩
 |cons p r ih=>
  intro b c pre f hd hv hp hsp hb hbl hf
  have hlt:=yY hd
  have hvo:pre.length<ts.length:=by omega
  rw[tE]at hbl
  have hod:ts.drop pre.length=ts[pre.length]::ts.drop (pre.length+1):=List.drop_eq_getElem_cons hvo
  have hal:(pre++ts.drop pre.length).length=n:=by rw[List.length_append,List.length_drop];omega
  have hset:∀x,(pre++ts.drop pre.length).set pre.length x=(pre++[x])++ts.drop (pre.length+1):=fun x=>by rw[hod];exact zBc _ _ _ _
  have hget:zR (pre++ts.drop pre.length) (pre.length:Int)=some ts[pre.length]:=by
   rw[fR (by omega)]
   congr 1
   rw[List.getElem_append_right (Nat.le_refl _)]
   simp
  have hsr:t8 (ts.drop (pre.length+1)):=fun x hx=>hs x (List.mem_of_mem_drop hx)
  refine Ou.succ ?_
  simp only[tJ,pR]
  refine Ou.ifT (yK hd) (Ou.pure (yD hd) (Ou.pure (iH (by omega)) (Ou.pure hget (Ou.bind (hp p (by simp) _ b c f (hs _ (List.getElem_mem _)) (by omega) hf) id (fun r hr=>?_) ?_))))
  ·obtain⟨a1,a2⟩:=zDZ hr
   exact⟨_,zG.ifF (by rw[a2];decide) (zG.pure (nN _ (by omega)) (zG.ifT (by rw[a1];decide) zG.ret)),a2⟩
  ·rintro R k k0 k1 ⟨how,x,e,bs,c',hx,he,hbs,hbl',hm,rfl⟩
   dsimp only
   by_cases e0:e=0
   ·subst e0
    refine Ou.ifT rfl (Ou.evt (xR x hx) (Ou.ite (fun hsx=>?_) fun hsx=>?_))
    ·refine Ou.pure (nN _ (by omega)) (Ou.ite (fun h0=>?_) fun h0=>Ou.ifF rfl ?_)
     ·have h0':how≠0:=by simpa using h0
      rw[hset,List.append_assoc]
      refine Ou.ret (by omega) (.inl ⟨how,0,x::ts.drop (pre.length+1),bs,?_,fun _=>⟨h0',hsp.app ((t8.one hsx).app hsr)⟩,?_,rfl⟩)
      ·rw[hod]at hal
       rw[List.length_append,List.length_cons]at hal ⊢;exact hal
      ·rw[hod,Rw];exact⟨how,x,0,bs,hm,.inr (.inr ⟨rfl,hsx,.inl ⟨h0',rfl,rfl,rfl⟩⟩)⟩
     ·have h0':how=0:=by simpa using h0
      subst h0'
      rw[yE _ (by omega),hset]
      have h1:=ih (b++bs) c' (pre++[x]) (f-k) (by rw[List.length_append];exact zZ hd) (by rw[List.length_append];simp;omega) (fun p h=>hp p (by simp[h])) (hsp.app (.one hsx)) (hb.app hbs) (by rw[List.length_append];omega) (by omega)
      rw[show (pre++[x]).length=pre.length+1 by simp]at h1
      refine h1.mono ?_ id
      rintro R n' _ _ (⟨how,e,xs,b2,g1,g2,g3,g4⟩|⟨xs,b2,c2,g1,g2,g3,g4,g5,g6⟩)
      ·rw[List.append_assoc]at g1 g2 g4
       refine .inl ⟨how,e,x::xs,bs++b2,g1,g2,?_,g4⟩
       rw[hod,Rw];exact⟨0,x,0,bs,hm,.inr (.inr ⟨rfl,hsx,.inr ⟨rfl,xs,b2,g3,rfl,rfl⟩⟩)⟩
      ·rw[List.append_assoc]at g1 g2 g3 g4 g6
       rw[List.append_assoc pre]at g6
       refine .inr ⟨x::xs,bs++b2,c2,g1,g2,g3,g4,?_,g6⟩
       rw[hod,Rw];exact⟨0,x,0,bs,hm,.inr (.inr ⟨rfl,hsx,.inr ⟨rfl,xs,b2,g5,rfl,rfl⟩⟩)⟩
    ·have hR:Rw l (p::r) (ts.drop pre.length) how (x::ts.drop (pre.length+1)) 2 bs:=by
      rw[hod,Rw];exact⟨how,x,0,bs,hm,.inr (.inl ⟨rfl,by simpa using hsx,rfl⟩)⟩
     have hL:(pre++x::ts.drop (pre.length+1)).length=n:=by
      rw[hod]at hal
      rw[List.length_append,List.length_cons]at hal ⊢;exact hal
     refine Ou.pure (nN _ (by omega)) ?_
     rw[hset,List.append_assoc]
     exact Ou.ite (fun _=>Ou.ret (by omega) (.inl ⟨how,2,_,bs,hL,fun h=>absurd h (by decide),hR,rfl⟩)) fun _=>Ou.ret (by omega) (.inl ⟨how,2,_,bs,hL,fun h=>absurd h (by decide),hR,rfl⟩)
   ·have h2:=he e0
    subst h2
    have hR:Rw l (p::r) (ts.drop pre.length) 2 (x::ts.drop (pre.length+1)) e bs:=by
     rw[hod,Rw];exact⟨2,x,e,bs,hm,.inl ⟨e0,rfl⟩⟩
    have hL:(pre++x::ts.drop (pre.length+1)).length=n:=by
     rw[hod]at hal
     rw[List.length_append,List.length_cons]at hal ⊢;exact hal
    refine Ou.ifF (by simpa using e0) (Ou.pure (nN _ (by omega)) ?_)
    rw[hset,List.append_assoc]
    exact Ou.ifT rfl (Ou.ret (by omega) (.inl ⟨2,e,_,bs,hL,fun h=>absurd h e0,hR,rfl⟩))
include hE he in
theorem zOO(ps:List zF)(hg:∀p∈ps,GP l p)(hnd:tE ps≤1000000)(ts:List Tm)(hps:ps.length=ts.length)(hs:t8 ts)(f:Int)(hf:0≤f) :
  Ou (fun L U q=>lB q (yX l).l (yX l).rl (yX l).parts (yX l).args (yX l).own L U 0 ps ts ts.length ts.length) erW (QWG l ps ts [] [] ts.length) True f:=by
 simp only[lB]
 have:=X0 ps
 exact zRc l ps ts ts.length hps rfl (by omega) hs ps [] 0 [] f rfl (by simp) (fun p hp=>zRd l hE he _ p (Nat.le_refl _) (hg p hp)) (fun _ h=>nomatch h) (fun _ h=>nomatch h) (by simpa using hnd) hf
end
def zFU(qq:Nat)(p0:zQ)(v2 v3:Int):Option Unit:=
 if decide (v2<v3)then
 none
 else
 some ()
def e87(qq:Nat)(p0:zQ):Option Unit:=
 zFU qq p0 0 (xL ((p0.length:Int)-1))
theorem zUQ{qq p0 v2 v3 r}(h:zFU qq p0 v2 v3=some r):(∀j,dL 0 (pt 53 f87) (sp j 28 0 [(0,zO zD p0 .no),(2,ai v2),(3,ai v3)]) (⟨[],0,[],0,[]⟩) (fQ 0 (nQ 0 f87 (.tup []) [] 0) [.blk 0])):=by
 unfold zFU at h
 obtain⟨h1,h⟩:=zVQ h
 cases h
 exact fun j=>lF 0 [] (oB 0 h1 o0)
theorem c87{qq p0 r}(h:e87 qq p0=some r):Ct 87 [] [zO zD p0 .no] (.tup []) [] 0:=⟨by
 unfold e87 at h
 exact tH ⟨func87,rfl⟩ 2 [] [] [] [0,2,3] (oD (dT p0) o0) (zUQ h),⟨⟨tv,dT _⟩,tv⟩,zA,tv,zA⟩
def e52(qq:Nat)(p0:zQ):Option ((Unit) ⊕ zQ):=
 M2 qq p0>>=fun r1=>
 match r1 with
 | .inl y3=>
  e87 qq []>>=fun r4=>
  some (.inl ())
 | .inr y6=>
  E2 qq y6>>=fun r7=>
  gfz y6.length r7>>=fun l9=>
  some (.inr l9)
abbrev zXj (p0:zQ) (C:Cf):Prop:=C 52 [] [zO zD p0 .no] (zO zD ([]:zQ) .full) [] 0
abbrev zXi (p0 r:zQ) (C:Cf):Prop:=C 52 [] [zO zD p0 .no] (.ms 0 0 r.length r.length 3) [.row (flat zD r)] 0
theorem q52:Qf 52 f52:=⟨func52,rfl⟩
theorem zZj{qq p0 r}(h:e52 qq p0=some r):(match (generalizing:=false) r with | .inl x=>zXj p0 Ct | .inr x=>zXi p0 x Ct):=by
 unfold e52 at h
 obtain⟨r1,h2,h⟩:=zB h
 rcases r1 with y3|y6
 dsimp only at h
 obtain⟨r4,h5,h⟩:=zB h
 cases h
 exact⟨tG q52 0 [] [] [] true (oD (dT ([]:zQ))<|oC 0 [] (c87 h5)<|oC 0 [] (iU h2) o0),⟨⟨tv,dT _⟩,tv⟩,zA,dT _,zA⟩
 dsimp only at h
 obtain⟨r7,h8,h⟩:=zB h
 obtain⟨l9,h10,h⟩:=zB h
 obtain⟨h10a,h10b⟩:=gZ h10
 cases h
 obtain rfl:=h10a.symm
 try dsimp only
 exact⟨by rw[←h10b];exact(tF q52 0 [0] (oD (dT r7)<|oC 0 [0] (zRg h8)<|oC 0 [] (iU h2) o0)),⟨⟨tv,dT _⟩,tv⟩,zA,(lz rfl),(zC (dT _) zA)⟩
theorem c52{qq p0 r}(h:e52 qq p0=some r):(match (generalizing:=false) r with | .inl x=>CT prog 52 [] [zO zD p0 .no] (zO zD ([]:zQ) .full) [] 0 | .inr x=>CT prog 52 [] [zO zD p0 .no] (.sl (flat zD x) x.length .no) [] 0):=by
 have k:=zZj h
 rcases r with y0|y1
 ·exact k
 ·exact CT.freeze (H1:=[]) (cs:=flat zD y1) (res':=(.sl (flat zD y1) y1.length .no)) k (Nat.le_of_ble_eq_true rfl) zA (dT _) (.inl ⟨rfl,rfl⟩) (by rfl) rfl
def e25(qq:Nat)(p0:Tm)(p1:zQ):Option (Tm×Int):=
 e52 qq p1>>=fun r1=>
 match r1 with
 | .inl y3=>
  e51 qq p0 []>>=fun r4=>
  some (r4.1,r4.2)
 | .inr y6=>
  e51 qq p0 y6>>=fun r7=>
  some (r7.1,r7.2)
theorem q25:Qf 25 f25:=⟨func25,rfl⟩
theorem c25{qq p0 p1 r}(h:e25 qq p0 p1=some r):Ct 25 [] [xF p0,zO zD p1 .no] (.tup [xF r.1,ai r.2]) [] 0:=⟨by
 unfold e25 at h
 obtain⟨r1,h2,h⟩:=zB h
 rcases r1 with y3|y6
 dsimp only at h
 obtain⟨r4,h5,h⟩:=zB h
 cases h
 exact tF q25 3 [] (oD (dT r4.1.sub)<|oC 0 [] (c51 h5)<|oC 1 [] (c52 h2) o0)
 dsimp only at h
 obtain⟨r7,h8,h⟩:=zB h
 cases h
 exact tF q25 3 [] (oD (dT r7.1.sub)<|oC 0 [] (c51 h8)<|oC 1 [] (c52 h2) o0),⟨⟨tv,tv,⟨tv,dT _⟩,tv⟩,⟨tv,dT _⟩,tv⟩,zA,⟨⟨tv,tv,dT _,tv⟩,tv,tv⟩,zA⟩
theorem zEy(pre rest:List Tm)(t x:Tm)(k:Nat)(hk:k=pre.length):(pre++t::rest).set k x=pre++x::rest:=by
 subst hk;rw[zBc,List.append_assoc];rfl
theorem zHZ(pre rest:List Tm)(t:Tm)(k:Nat)(hk:k=pre.length):zR (pre++t::rest) (k:Int)=some t:=by
 subst hk
 rw[fR (by simp)]
 simp
theorem zOP(q0:List Tm)(hq:q0.length≤1000000):∀(m:Nat) (X M Y:List Tm),M.length≤m->X.length+M.length+Y.length=q0.length->zG (fun q=>sY q q0 (X.length:Int) ((X.length:Int)+M.length-1) (X++(M++Y))) (X++(M.reverse++Y)):=by
 intro m
 induction m with
 |zero=>
  intro X M Y hm hl
  obtain rfl:M=[]:=List.length_eq_zero_iff.1 (by omega)
  refine zG.succ ?_
  simp only[sY]
  exact zG.ifF (decide_eq_false (by simp;omega)) zG.ret
 |succ m ih=>
  intro X M Y hm hl
  rcases M with _|⟨a,M⟩
  ·exact ih X [] Y (by simp) hl
  ·rcases List.eq_nil_or_concat M with rfl|⟨M',b,rfl⟩
   ·refine zG.succ ?_
    simp only[sY]
    exact zG.ifF (decide_eq_false (by simp)) zG.ret
   ·simp only[List.concat_eq_append]at hm hl ⊢
    simp only[List.length_cons,List.length_append,List.length_nil]at hm hl
    have hj:(X.length:Int)+((a::(M'++[b])).length:Int)-1=((X.length+M'.length+1:Nat):Int):=by simp;omega
    have e1:X++((a::(M'++[b]))++Y)=X++a::(M'++b::Y):=by simp
    have e2:X++a::(M'++b::Y)=(X++a::M')++b::Y:=by simp
    have e3:X++b::(M'++b::Y)=(X++b::M')++b::Y:=by simp
    have l2:X.length+M'.length+1=(X++a::M').length:=by simp;omega
    have l3:X.length+M'.length+1=(X++b::M').length:=by simp;omega
    rw[hj,e1]
    refine zG.succ ?_
    simp only[sY]
    refine zG.ifT (decide_eq_true (by omega)) (zG.pure (iH (by omega)) (zG.pure (by rw[e2];exact zHZ _ _ _ _ l2) (zG.pure (iH (by omega)) (zG.pure (zHZ X _ a X.length rfl) (zG.pure (nN _ (by simp)) (zG.pure (nN _ (by simp;omega)) ?_))))))
    rw[zEy X _ a b X.length rfl,e3,zEy _ _ b a _ l3]
    have h:=ih (X++[b]) M' (a::Y) (by omega) (by simp;omega)
    rw[yE _ (by omega),yM (x:=((X.length+M'.length+1:Nat):Int)-1) (by omega) (by omega)]
    have e4:(X++b::M')++a::Y=(X++[b])++(M'++a::Y):=by simp
    have e5:X++((a::(M'++[b])).reverse++Y)=(X++[b])++(M'.reverse++a::Y):=by simp
    have e6:((X++[b]).length:Int)+(M'.length:Int)-1=((X.length+M'.length+1:Nat):Int)-1:=by simp;omega
    have e7:((X++[b]).length:Int)=((X.length+1:Nat):Int):=by simp
    rw[e6,e7]at h
    rw[e4,e5]
    exact h
theorem zOQ:zG (fun q=>e52 q []) (.inl ()):=by
 simp only[e52]
 refine zG.bind (a:=.inl ()) ((zHT [] (by simp)).eq (if_pos rfl)) ?_
 exact zG.bind (a:=()) (zG.mk fun _=>rfl) zG.ret
theorem zOR(ls:List Tm)(h:ls.length≤1000000)(hl:ls≠[]):zG (fun q=>e52 q ls) (.inr ls.reverse):=by
 have hpos:=List.length_pos_iff.2 hl
 have hr:zG (fun q=>E2 q ls) ls.reverse:=by
  simp only[E2]
  rw[yM (x:=(ls.length:Int)-1) (by omega) (by omega)]
  have:=zOP ls h ls.length [] ls [] (Nat.le_refl _) (by simp)
  simpa using this
 simp only[e52]
 refine zG.bind (a:=.inr ls) ((zHT ls h).eq (if_neg hl)) ?_
 refine zG.bind (a:=ls.reverse) hr ?_
 refine zG.pure (a:=ls.reverse) ?_ zG.ret
 unfold gfz
 rw[if_pos (List.length_reverse)]
theorem zRb(t:Tm)(ls:List Tm)(ht:t.Ok)(h:ls.length≤1000000)(ho:vK ls):zG (fun q=>e25 q t ls) (oJ t ls.reverse):=by
 simp only[e25]
 by_cases hl:ls=[]
 ·subst hl
  refine zG.bind zOQ ?_
  exact zG.bind (O4 t [] ht (fun _ h=>nomatch h) (by simp)) zG.ret
 ·refine zG.bind (zOR ls h hl) ?_
  exact zG.bind (O4 t ls.reverse ht (fun x hx=>ho x (List.mem_reverse.1 hx)) (by rw[List.length_reverse];omega)) zG.ret
end Go.Proofs.YtbpkpdnneffccaaGreat
