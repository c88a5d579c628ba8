/- Parts of the proof that the law returns true: walks of the functions, plain laws. -/
import Derived.Test.YtfbkefchjcocmaaGreatAbB4
set_option linter.unusedVariables false
set_option linter.unusedSimpArgs false
set_option linter.unusedSectionVars false
namespace Go.Proofs.YtfbkefchjcocmaaGreat
open Go Go.Ab Go.Proofs.Tryz
def sM(y:Tm):List Tm:=if y.k=3∨y.k=4 then y.sub else if y.k=5 then yS y else []
def P2(y:Tm)(ps:List Tm):Tm:=if y.k=3∨y.k=4 then .mk y.k 0 ps else if y.k=5 then uF (yF y) ps else y
def lX(P:Tm->Tm->Int->Prop):List Tm->List Tm->Int->Prop
 | [],xs,k=>xs=[]∧k=0
 |t::ts,xs,k=>∃x xs' k1 k2,xs=x::xs'∧P t x k1∧lX P ts xs' k2∧k=k1+k2
def NmN(l:List yI):Nat->Tm->Tm->Int->Prop
 |0,_,_,_=>False
 |n+1,t,x,k=>wT l t∧∃y k1 ps k2,Br l t y 0 k1∧lX (NmN l n) (sM y) ps k2∧x=P2 y ps∧k=k1+k2
def Nm(l:List yI)(t x:Tm)(k:Int):Prop:=∃n,NmN l n t x k
def NmL(l:List yI)(ts xs:List Tm)(k:Int):Prop:=∃n,lX (NmN l n) ts xs k
section
variable {P P':Tm->Tm->Int->Prop}
theorem lX.len:∀ {ts xs:List Tm} {k:Int},lX P ts xs k->xs.length=ts.length
 | [],_,_,⟨a,_⟩=>by rw[a]
 |_::_,_,_,⟨x,xs',k1,k2,a,_,c,_⟩=>by rw[a,List.length_cons,List.length_cons,lX.len c]
theorem lX.nn(h:∀t x k,P t x k->0≤k):∀ {ts xs:List Tm} {k:Int},lX P ts xs k->0≤k
 | [],_,_,⟨_,a⟩=>by omega
 |_::_,_,_,⟨x,xs',k1,k2,_,b,c,d⟩=>by have:=h _ _ _ b;have:=lX.nn h c;omega
theorem lX.at:∀ {ts xs:List Tm} {k:Int},lX P ts xs k->∀(i:Nat) (h:i<ts.length) (h':i<xs.length),∃k1,P ts[i] xs[i] k1
 | [],_,_,_,i,h,_=>by simp at h
 |_::_,_,_,⟨x,xs',k1,k2,a,b,_,_⟩,0,_,_=>by subst a;exact⟨k1,b⟩
 |_::_,_,_,⟨x,xs',k1,k2,a,_,c,_⟩,i+1,h,h'=>by
  subst a
  exact lX.at c i (by simpa using h) (by simpa using h')
theorem lX.self:∀ {ts:List Tm},(∀t∈ts,P t t 0)->lX P ts ts 0
 | [],_=>⟨rfl,rfl⟩
 |t::ts,h=>⟨t,ts,0,0,rfl,h t (by simp),lX.self fun x hx=>h x (by simp[hx]),rfl⟩
theorem lX.mem:∀ {ts xs:List Tm} {k:Int},lX P ts xs k->∀x∈xs,∃t∈ts,∃k1,P t x k1
 | [],_,_,⟨a,_⟩,x,hx=>by rw[a]at hx;cases hx
 |t::_,_,_,⟨y,xs',k1,k2,a,b,c,_⟩,x,hx=>by
  subst a
  rcases List.mem_cons.1 hx with rfl|hx
  ·exact⟨t,by simp,k1,b⟩
  ·obtain⟨t',h1,h2⟩:=lX.mem c x hx
   exact⟨t',by simp[h1],h2⟩
end
theorem NmN.nn{l:List yI}:∀ {n:Nat} {t x:Tm} {k:Int},NmN l n t x k->0≤k
 |0,_,_,_,h=>h.elim
 |n+1,t,x,k,⟨_,y,k1,ps,k2,a,b,_,d⟩=>by
  have:=a.nn
  have:=lX.nn (fun _ _ _ h=>NmN.nn h) b
  omega
theorem NmL.nn{l:List yI}{t x:List Tm}{k:Int}:NmL l t x k->0≤k:=fun⟨_,a⟩=>lX.nn (fun _ _ _ h=>NmN.nn h) a
theorem Nm.inv{l:List yI}{t x:Tm}{k:Int}(h:Nm l t x k):∃y k1 ps k2,wT l t∧Br l t y 0 k1∧NmL l (sM y) ps k2∧x=P2 y ps∧k=k1+k2:=by
 obtain⟨n,h⟩:=h
 cases n with
 |zero=>exact h.elim
 |succ n=>
  obtain⟨hR,y,k1,ps,k2,a,b,c,d⟩:=h
  exact⟨y,k1,ps,k2,hR,a,⟨n,b⟩,c,d⟩
theorem P3:∀(l:List Tm) (f:Tm),yF (uF f l)=yF f
 | [],f=>by rw[uF]
 |a::l,f=>by rw[uF,P3 l,kG]
theorem aW:∀(l:List Tm) (f:Tm),yS (uF f l)=yS f++l
 | [],f=>by rw[uF,List.append_nil]
 |a::l,f=>by rw[uF,aW l,pA];simp
theorem zKz:∀(l:List Tm) (f:Tm),l≠[]->(uF f l).k=5
 | [],_,h=>absurd rfl h
 | [a],f,_=>by rw[uF,uF,Tm.k]
 |a::b::l,f,_=>by rw[uF];exact zKz (b::l) _ (by simp)
theorem zZk{y:Tm}(hg:xB y=true)(h:y.k=5):yS y≠[]:=by
 obtain⟨a,b,hs,-,-⟩:=rN hg (.inr (.inr h))
 obtain⟨k,n,l⟩:=y
 have h':k=5:=h
 have hs':l=[a,b]:=hs
 subst h';subst hs'
 rw[pA];simp
theorem P4{y:Tm}{ps:List Tm}(hs:zH y=true)(hl:ps.length=(sM y).length):sM (P2 y ps)=ps∧P2 (P2 y ps) ps=P2 y ps∧(yF (P2 y ps)=yF y∧(yS (P2 y ps)).length=(yS y).length∨(y.k=3∨y.k=4)):=by
 have hg:=(zO hs).2.2
 unfold sM at hl
 by_cases h1:y.k=3∨y.k=4
 ·have e:P2 y ps = .mk y.k 0 ps:=by unfold P2;rw[if_pos h1]
  rw[e]
  refine⟨?_,?_,.inr h1⟩
  ·unfold sM;rw[if_pos (by simpa[Tm.k]using h1)];rfl
  ·unfold P2;rw[if_pos (by simpa[Tm.k]using h1)];rfl
 ·rw[if_neg h1]at hl
  by_cases h2:y.k=5
  ·rw[if_pos h2]at hl
   have e:P2 y ps=uF (yF y) ps:=by unfold P2;rw[if_neg h1,if_pos h2]
   have hne:ps≠[]:=fun h=>by
    have:=zZk hg h2
    rw[h]at hl
    exact this (List.length_eq_zero_iff.1 hl.symm)
   have hk:=zKz ps (yF y) hne
   have hd5:=(kH y hg).2.1
   have hh:yF (uF (yF y) ps)=yF y:=by rw[P3,tS hd5]
   have ha:yS (uF (yF y) ps)=ps:=by rw[aW,tY hd5,List.nil_append]
   rw[e]
   refine⟨?_,?_,.inl ⟨hh,by rw[ha,hl]⟩⟩
   ·unfold sM;rw[if_neg (by omega),if_pos hk,ha]
   ·unfold P2;rw[if_neg (by omega),if_pos hk,hh]
  ·rw[if_neg h2]at hl
   have hp:ps=[]:=List.length_eq_zero_iff.1 (by simpa using hl)
   have e:P2 y ps=y:=by unfold P2;rw[if_neg h1,if_neg h2]
   rw[e,hp]
   refine⟨?_,?_,.inl ⟨rfl,rfl⟩⟩
   ·unfold sM;rw[if_neg h1,if_neg h2]
   ·unfold P2;rw[if_neg h1,if_neg h2]
theorem zDq{l:List yI}{y:Tm}(h:y.k=3∨y.k=4):¬xV l y:=fun hc=>by
 have:=(wD hc.1 (by decide)).1
 rw[tS (by omega)]at this
 omega
theorem zTe{l:List yI}{y:Tm}{ps:List Tm}(hs:zH y=true)(hl:ps.length=(sM y).length)(h:xV l (P2 y ps)):xV l y∧yF (P2 y ps)=yF y:=by
 rcases(P4 hs hl).2.2 with⟨h1,h2⟩|h3
 ·unfold xV at h ⊢
  rw[h1,h2]at h
  exact⟨h,h1⟩
 ·have e:P2 y ps = .mk y.k 0 ps:=by unfold P2;rw[if_pos h3]
  rw[e]at h
  exact absurd h (zDq (by simpa[Tm.k]using h3))
theorem zIk{l:List yI}{x y:Tm}:uJ l x y=none ↔ ¬(xV l y∧(ent l (yF y).n).fam=if wH l (yF x)=4 then(ent l (yF x).n).fam else(yF x).n):=by
 unfold uJ
 by_cases h:wH l (yF x)=4
 ·rw[if_pos h,if_pos h]
  by_cases h2:xV l y∧(ent l (yF y).n).fam=(ent l (yF x).n).fam
  ·rw[if_pos h2];simp[h2]
  ·rw[if_neg h2];simp only[true_iff];exact h2
 ·rw[if_neg h,if_neg h]
  by_cases h2:xV l y∧(ent l (yF y).n).fam=(yF x).n
  ·rw[if_pos h2];simp[h2]
  ·rw[if_neg h2];simp only[true_iff];exact h2
theorem zQi{N:ByteArray->Bool}{l:List yI}(hE:wP N l){x y:Tm}(hs:zH y=true)(hh:yF x=yF y)(ha:(yS x).length=(yS y).length):(wQ l y = .none->wQ l x = .none)∧∀a,wQ l y = .tgt a->∃i:Int,0≤i∧i<(yS y).length∧a=tJ (yS y) i∧wQ l x = .tgt (tJ (yS x) i):=by
 have hn:=kY (zO (uP hs)).2.2
 unfold wQ
 rw[hh,ha]
 by_cases h1:(yF y).k=4∧0<(yS y).length
 ·rw[if_pos h1,if_pos h1];exact⟨fun h=>(by cases h),fun a h=>(by cases h)⟩
 ·rw[if_neg h1,if_neg h1]
  by_cases h2:wH l (yF y)=3
  ·rw[if_pos h2,if_pos h2];exact⟨fun h=>(by cases h),fun a h=>(by cases h)⟩
  ·rw[if_neg h2,if_neg h2]
   by_cases h3:wH l (yF y)=4
   ·rw[if_pos h3,if_pos h3]
    by_cases h4:((yS y).length:Int)≤(ent l (yF y).n).pars
    ·rw[if_pos h4,if_pos h4];exact⟨id,fun a h=>(by cases h)⟩
    ·rw[if_neg h4,if_neg h4]
     have hk:=wD h3 (by decide)
     have hp:=(xD (hE.2 _ hn hk.2.1)).2.2.2.1 hk.2.2
     unfold F5 at hp
     simp only[Bool.and_eq_true]at hp
     have hw:=rK hp.1
     have hfam:=wU ((xD (hE.2 _ hw.1 (by omega))).2.1 hw.2.2.1)
     exact⟨fun h=>(by cases h),fun a h=>by injection h with h;exact⟨_,by omega,by omega,h.symm,rfl⟩⟩
   ·rw[if_neg h3,if_neg h3]
    by_cases h4:(yF y).k=7
    ·rw[if_pos h4,if_pos h4]
     by_cases h5:aN l (yF y).n 1=true∧wG (ent l (yF y).n)≤(yS y).length
     ·rw[if_pos h5,if_pos h5]
      have hi:=tM h5.1
      have hfam:=wU ((xD (hE.2 _ hi.1 hi.2.1)).2.1 hi.2.2)
      have h6:wG (ent l (yF y).n)=(ent l (yF y).n).pars+2+(ent l (yF y).n).cons.length+(ent l (yF y).n).inds:=by unfold wG;rw[if_pos hi.2.2]
      exact⟨fun h=>(by cases h),fun a h=>by injection h with h;exact⟨_,by omega,by omega,h.symm,rfl⟩⟩
     ·rw[if_neg h5,if_neg h5];exact⟨id,fun a h=>(by cases h)⟩
    ·rw[if_neg h4,if_neg h4];exact⟨id,fun a h=>(by cases h)⟩
theorem On.still_inv{l:List yI}{y:Tm}{j:Int}(h:On l y y false 0 j):wQ l y = .none∨∃a z j',wQ l y = .tgt a∧Br l a z 0 j'∧uJ l y z=none:=by
 cases h with
 |stop a=>exact .inl a
 |redE _ b=>exact absurd rfl b
 |tgtE _ _ c=>exact absurd rfl c
 |tgtN a b c=>exact .inr ⟨_,_,_,a,b,c⟩
 |tgtRE _ _ _ d=>exact absurd rfl d
theorem zIj{t x:Tm}(h:zH t=true)(hx:x∈t.sub):zH x=true:=by
 obtain⟨k,n,l⟩:=t
 have hs:=zO h
 have hg:=(wF hs.2.2).2
 rw[Tm.nodes,Tm.high]at hs
 have key:∀l:List Tm,wZ l=true->∀x∈l,xB x=true∧x.nodes≤yP l∧x.high≤vQ l:=by
  intro l
  induction l with
  |nil=>intro _ x hx;cases hx
  |cons a l ih=>
   intro hg x hx
   have hc:=wB hg
   rw[yP,vQ]
   rcases List.mem_cons.1 hx with rfl|hx
   ·exact⟨hc.1,by omega,by omega⟩
   ·have:=ih hc.2 x hx;exact⟨this.1,by omega,by omega⟩
 have:=key l hg x hx
 exact lA (by omega) (by omega) this.1
theorem bO{y x:Tm}(h:zH y=true)(hx:x∈sM y):zH x=true:=by
 unfold sM at hx
 split at hx
 ·exact zIj h hx
 ·split at hx
  ·exact xI h hx
  ·cases hx
theorem NmN.again{N:ByteArray->Bool}{l:List yI}(hE:wP N l):∀ {n:Nat} {t x:Tm} {k:Int},NmN l n t x k->zH x=true->NmN l n x x 0
 |0,_,_,_,h,_=>h.elim
 |n+1,t,x,k,⟨hR,y,k1,ps,k2,a,b,c,d⟩,hs=>by
  have hRy:=a.right hE hR
  have hsy:=hRy.shaped
  have hlen:=b.len
  obtain⟨e1,e2,e3⟩:=P4 hsy hlen
  rw[←c]at e1 e2 e3
  have hps:∀p∈ps,NmN l n p p 0:=fun p hp=>by
   obtain⟨q,hq,kq,hn⟩:=b.mem p hp
   exact NmN.again hE hn (bO hs (by rw[e1];exact hp))
  have hn0:∀ {p:Tm},NmN l n p p 0->wT l p∧Br l p p 0 0:=fun {p} h=>by
   cases n with
   |zero=>exact h.elim
   |succ n=>
    obtain⟨hR,y,k1,ps,k2,a,b,c,d⟩:=h
    have h1:=a.nn
    have h2:=lX.nn (fun _ _ _ h=>NmN.nn h) b
    have hz:k1=0:=by omega
    subst hz
    refine⟨hR,?_⟩
    have hy:y=p:=by
     have key:∀ {x y:Tm} {e k:Int},Br l x y e k->e=0->k≤0->y=x:=fun h=>by
      cases h with
      |stop _=>exact fun _ _=>rfl
      |redE _ h=>exact fun he=>absurd he h
      |redL _ _=>exact fun he=>absurd he (by decide)
      |red _ _ h=>exact fun _ hk=>by have:=h.nn;omega
      |tgtE _ _ h=>exact fun he=>absurd he h
      |tgtN _ _ _=>exact fun _ _=>rfl
      |tgtRE _ _ _ h=>exact fun he=>absurd he h
      |tgtRL _ _ _ _=>exact fun he=>absurd he (by decide)
      |tgtR _ h1 _ _ h2=>exact fun _ hk=>by have:=h1.nn;have:=h2.nn;omega
     exact key a rfl (Int.le_refl 0)
    rw[hy]at a;exact a
  have hP5:(fun(k n:Int)=>k=6∨k=7->n<(l.length:Int)) 5 0:=fun h=>by omega
  have hyN:=(lL.1 hRy).2
  have hRx:wT l x:=by
   refine lL.2 ⟨hs,?_⟩
   have hpsN:∀p∈ps,xM (fun k n=>k=6∨k=7->n<l.length) p:=fun p hp=>(lL.1 (hn0 (hps p hp)).1).2
   rw[c]
   unfold P2
   by_cases h1:y.k=3∨y.k=4
   ·rw[if_pos h1,xM,zBf]
    exact⟨.inr fun h=>by omega,hpsN⟩
   ·rw[if_neg h1]
    by_cases h2:y.k=5
    ·rw[if_pos h2]
     exact gH ps _ hP5 (lI y (zO hsy).2.2 hyN).1 hpsN
    ·rw[if_neg h2];exact hyN
  have hbr:Br l x x 0 0:=by
   rcases e3 with⟨hh,ha⟩|h34
   ·obtain⟨j,-,hon⟩:=a.last rfl
    have hact:=zQi hE hsy hh ha
    rcases hon.still_inv with h|⟨a',z,j',h1,h2,h3⟩
    ·exact .stop (hact.1 h)
    ·obtain⟨i,i0,i1,i2,i3⟩:=hact.2 a' h1
     have hy5:y.k=5:=by
      by_cases h5:y.k=5
      ·exact h5
      ·rw[tY h5]at i1;simp at i1;omega
     have hpy:sM y=yS y:=by unfold sM;rw[if_neg (by omega),if_pos hy5]
     have hpx:yS x=ps:=by
      have e:x=uF (yF y) ps:=by rw[c];unfold P2;rw[if_neg (by omega),if_pos hy5]
      rw[e,aW,tY (kH y (zO hsy).2.2).2.1,List.nil_append]
     rw[hpy]at hlen b
     have hi1:i.toNat<(yS y).length:=by omega
     have hi2:i.toNat<ps.length:=by omega
     obtain⟨ki,hki⟩:=b.at i.toNat hi1 hi2
     have ea:a'=(yS y)[i.toNat]:=by rw[i2];unfold tJ;rw[List.getElem?_eq_getElem hi1];rfl
     have eb:tJ (yS x) i=ps[i.toNat]:=by rw[hpx];unfold tJ;rw[List.getElem?_eq_getElem hi2];rfl
     rw[←ea]at hki
     have hself:=hps _ (List.getElem_mem hi2)
     refine .tgtN (i3.trans (by rw[eb])) (hn0 hself).2 ?_
     cases n with
     |zero=>exact hki.elim
     |succ n=>
      obtain⟨hRa,w,w1,qs,w2,u1,u2,u3,u4⟩:=hki
      obtain⟨rfl,-,-⟩:=h2.det u1
      have hsw:=u1.shaped hRa.shaped rfl
      rw[zIk]at h3 ⊢
      rw[hh]
      rintro ⟨c1,c2⟩
      rw[u3]at c1 c2
      obtain⟨d1,d2⟩:=zTe hsw u2.len c1
      rw[d2]at c2
      exact h3 ⟨d1,c2⟩
   ·have hx34:x.k=3∨x.k=4:=by rw[c];unfold P2;rw[if_pos h34];simpa[Tm.k]using h34
    refine .stop ?_
    unfold wQ
    rw[tS (by omega),tY (by omega)]
    have hk:∀m:Int,m≠0->wH l x≠m:=fun m hm e=>by have:=(wD e hm).1;omega
    rw[if_neg (by simp),if_neg (hk 3 (by decide)),if_neg (hk 4 (by decide)),if_neg (by omega)]
  exact⟨hRx,x,0,ps,0,hbr,by rw[e1];exact lX.self hps,e2.symm,rfl⟩
theorem Br.e8{N:ByteArray->Bool}{l:List yI}(hE:wP N l){x y:Tm}{e k:Int}(h:Br l x y e k):zH x=true->e≠8:=by
 induction h with
 |stop _=>exact fun _=>by decide
 | @redE x Y e a h=>
  intro hs
  unfold wQ at a
  split at a
  ·injection a with h1 h2
   rw[←h2];exact zJK _ _
  ·split at a
   ·injection a with h1 h2
    rw[←h2];decide
   ·split at a
    ·split at a<;>cases a
    ·split at a
     ·split at a<;>cases a
     ·cases a
 |redL _ _=>exact fun _=>by decide
 |red _ hY _ ih=>exact fun _=>ih hY
 |tgtE a _ _ ih=>exact fun hs=>ih (xI hs (W0 hE hs a).1)
 |tgtN _ _ _ _=>exact fun _=>by decide
 | @tgtRE x a z Y e k ha hb hr he ih=>
  intro hs
  have hm:=(W0 hE hs ha).1
  have hz:=hb.shaped (xI hs hm) rfl
  have hox:sL (yS x):=fun z hz=>yB (xI hs hz)
  have hoy:sL (yS z):=fun w hw=>yB (xI hz hw)
  have hlx:(yS x).length≤8192:=by
   have h:=zO hs
   have:=rE _ h.2.2
   omega
  have hly:(yS z).length≤8192:=by
   have h:=zO hz
   have:=rE _ h.2.2
   omega
  unfold uJ at hr
  split at hr
  ·split at hr
   ·simp only[Option.some.injEq,Prod.mk.injEq]at hr
    rw[←hr.2]
    exact(eR l (yF x).n ((yS z).drop (ent l (yF z).n).pars.toNat) hE (hoy.drop _) (by rw[List.length_drop];omega)).2.2.1
   ·cases hr
  ·split at hr
   ·simp only[Option.some.injEq,Prod.mk.injEq]at hr
    rw[←hr.2]
    exact(gR l (yF x).n (tJ (yF x).sub 0).n (yF z).n ((yS x).take ((ent l (yF x).n).pars+1+(ent l (yF x).n).cons.length).toNat) ((yS z).drop (ent l (yF x).n).pars.toNat) hE (hox.take _) (hoy.drop _) (by rw[List.length_take];omega) (by rw[List.length_drop];omega)).2.2.1
   ·cases hr
 |tgtRL _ _ _ _ _=>exact fun _=>by decide
 |tgtR a b c hY _ ih U5=>exact fun _=>U5 hY
theorem Br.zero{l:List yI}{x y:Tm}{e k:Int}(h:Br l x y e k):e=0->k≤0->y=x:=by
 cases h with
 |stop _=>exact fun _ _=>rfl
 |redE _ h=>exact fun he=>absurd he h
 |redL _ _=>exact fun he=>absurd he (by decide)
 |red _ _ h=>exact fun _ hk=>by have:=h.nn;omega
 |tgtE _ _ h=>exact fun he=>absurd he h
 |tgtN _ _ _=>exact fun _ _=>rfl
 |tgtRE _ _ _ h=>exact fun he=>absurd he h
 |tgtRL _ _ _ _=>exact fun he=>absurd he (by decide)
 |tgtR _ h1 _ _ h2=>exact fun _ hk=>by have:=h1.nn;have:=h2.nn;omega
theorem Ou.evt0{ρ:Type}{f:Int->Int->Nat->Option ρ}{er:ρ->Int}{Q:(Int->Int->ρ)->Int->Prop}{S:Prop}{l:Int}{R:Int->Int->ρ}(h:∀L U,zJ (f L U) (R L U))(h0:0≤l)(k:Q R 0):Ou f er Q S l:=
 .inl ⟨R,0,by omega,h0,k,fun L U _ _ _=>by rw[show L-0=L by omega,show U+0=U by omega];exact h L U,fun L U _ _=>by omega⟩
abbrev PE:=(Tm×Int)×(Tm×Int)
def pU(t:Tm):Tm×Int:=
 if t.k=4 then(tJ t.sub 1,0)else
  (.mk 5 0 [(tB t 1 0).1,.mk 1 0 []],if (tB t 1 0).2=0 then(if zH (.mk 5 0 [(tB t 1 0).1,.mk 1 0 []])=true then 0 else 2)else(tB t 1 0).2)
def vF(l:List yI)(c:Int):List Int:=(ent l (ent l c).fam).fields
def uQ(l:List yI)(t:Tm):Prop:=xV l t∧vF l (yF t).n≠[]
instance (l:List yI) (t:Tm):Decidable (uQ l t):=inferInstanceAs (Decidable (_∧_))
def tN(l:List yI)(t:Tm)(c:Int)(i:Nat)(pars:List Tm):Tm×Int:=
 if uQ l t∧(yF t).n=c then(tJ (yS t) ((pars.length+i:Nat):Int),0)else
  (.mk 5 0 [uF (.mk 6 (((vF l c)[i]?).getD (-1)) []) pars,t],if zH (.mk 5 0 [uF (.mk 6 (((vF l c)[i]?).getD (-1)) []) pars,t])=true then 0 else 2)
def jT(l:List yI)(t:Tm):List Tm:=(yS t).take (ent l (yF t).n).pars.toNat
def zAJ(l:List yI)(x y:Tm)(c:Int)(pars:List Tm):Nat->Nat->List PE
 |0,_=>[]
 |m+1,i=>(tN l x c i pars,tN l y c i pars)::zAJ l x y c pars m (i+1)
def U6:List Tm->List Tm->List PE
 |a::l,b::m=>((a,0),(b,0))::U6 l m
 |_,_=>[]
def zIi(x y:Tm):List PE:=(if (yF x).k=3 then [((tJ (yF x).sub 0,0),(tJ (yF y).sub 0,0)),((tJ (yF x).sub 1,0),(tJ (yF y).sub 1,0))]else [])++U6 (yS x) (yS y)
inductive Hd where
 |ans (b:Bool)
 |all (ps:List PE)
 |pi (a b c d:Tm)
def kZ(x y:Tm):Hd:=
 if (yF x).k≠(yF y).k∨(yF x).n≠(yF y).n∨(yS x).length≠(yS y).length∨((yF x).k=7∧(tJ (yF x).sub 0).n≠(tJ (yF y).sub 0).n)then .ans false else .all (zIi x y)
def tO(l:List yI)(m:Bool)(x y:Tm):Hd:=
 if x.k=4∨y.k=4 then .all [(pU x,pU y)]
 else if uQ l x then(if uQ l y∧(yF x).n≠(yF y).n then .ans false else .all (zAJ l x y (yF x).n (jT l x) (vF l (yF x).n).length 0))
 else if uQ l y then .all (zAJ l x y (yF y).n (jT l y) (vF l (yF y).n).length 0)
 else if x.k≠y.k then .ans false
 else if x.k=3 then .pi (tJ x.sub 0) (tJ y.sub 0) (tJ x.sub 1) (tJ y.sub 1)
 else if x.k=2 then .ans (if m=true then decide (x.n≤y.n)else x.n==y.n)
 else kZ x y
def uK(C:Tm->Tm->Bool->Int->Prop):List PE->Bool->Int->Prop
 | [],b,k=>b=true∧k=0
 |p::r,b,k=>p.1.2=0∧p.2.2=0∧∃b1 k1,C p.1.1 p.2.1 b1 k1∧((b1=false∧b=false∧k=k1)∨(b1=true∧∃k2,uK C r b k2∧k=k1+k2))
def S9(C:Bool->Tm->Tm->Bool->Int->Prop)(m:Bool):Hd->Bool->Int->Prop
 | .ans b0,b,k=>b=b0∧k=0
 | .all ps,b,k=>uK (C false) ps b k
 | .pi a a' c c',b,k=>∃b1 k1,C false a a' b1 k1∧((b1=false∧b=false∧k=k1)∨(b1=true∧∃k2,C m c c' b k2∧k=k1+k2))
def T3(l:List yI):Nat->Bool->Tm->Tm->Bool->Int->Prop
 |0,_,_,_,_,_=>False
 |n+1,m,x,y,b,k=>wT l x∧wT l y∧∃x' k1 y' k2 k3,Br l x x' 0 k1∧Br l y y' 0 k2∧S9 (T3 l n) m (tO l m x' y') b k3∧k=k1+k2+k3
def Cv(l:List yI)(m:Bool)(x y:Tm)(b:Bool)(k:Int):Prop:=∃n,T3 l n m x y b k
section
variable {C C':Tm->Tm->Bool->Int->Prop}
theorem uK.mono(h:∀x y b k,C x y b k->C' x y b k):∀ {ps:List PE} {b:Bool} {k:Int},uK C ps b k->uK C' ps b k
 | [],_,_,a=>a
 |_::_,_,_,⟨a,b,b1,k1,c,d⟩=>⟨a,b,b1,k1,h _ _ _ _ c,d.imp id fun⟨e,k2,f,g⟩=>⟨e,k2,uK.mono h f,g⟩⟩
theorem uK.nn(h:∀x y b k,C x y b k->0≤k):∀ {ps:List PE} {b:Bool} {k:Int},uK C ps b k->0≤k
 | [],_,_,⟨_,a⟩=>by omega
 |_::_,_,_,⟨_,_,b1,k1,c,d⟩=>by
  have:=h _ _ _ _ c
  rcases d with⟨_,_,d⟩|⟨_,k2,d,e⟩
  ·omega
  ·have:=uK.nn h d;omega
theorem uK.det(h:∀x y b k b' k',C x y b k->C' x y b' k'->b'=b∧k'=k):∀ {ps:List PE} {b b':Bool} {k k':Int},uK C ps b k->uK C' ps b' k'->b'=b∧k'=k
 | [],_,_,_,_,⟨a,b⟩,⟨c,d⟩=>by subst a;subst c;exact⟨rfl,by omega⟩
 |_::_,_,_,_,_,⟨_,_,b1,k1,c,d⟩,⟨_,_,b1',k1',c',d'⟩=>by
  obtain⟨rfl,rfl⟩:=h _ _ _ _ _ _ c c'
  rcases d with⟨d1,d2,d3⟩|⟨d1,k2,d2,d3⟩
  ·rcases d' with⟨_,e2,e3⟩|⟨e1,_⟩
   ·subst d2;subst e2;exact⟨rfl,by omega⟩
   ·rw[d1]at e1;cases e1
  ·rcases d' with⟨e1,_⟩|⟨_,k2',e2,e3⟩
   ·rw[d1]at e1;cases e1
   ·obtain⟨rfl,rfl⟩:=uK.det h d2 e2;exact⟨rfl,by omega⟩
end
section
variable {C C':Bool->Tm->Tm->Bool->Int->Prop} {m:Bool}
theorem S9.mono(h:∀m x y b k,C m x y b k->C' m x y b k):∀ {q:Hd} {b:Bool} {k:Int},S9 C m q b k->S9 C' m q b k
 | .ans _,_,_,a=>a
 | .all _,_,_,a=>uK.mono (h false) a
 | .pi _ _ _ _,_,_,⟨b1,k1,c,d⟩=>⟨b1,k1,h _ _ _ _ _ c,d.imp id fun⟨e,k2,f,g⟩=>⟨e,k2,h _ _ _ _ _ f,g⟩⟩
theorem S9.nn(h:∀m x y b k,C m x y b k->0≤k):∀ {q:Hd} {b:Bool} {k:Int},S9 C m q b k->0≤k
 | .ans _,_,_,⟨_,a⟩=>by omega
 | .all _,_,_,a=>uK.nn (h false) a
 | .pi _ _ _ _,_,_,⟨b1,k1,c,d⟩=>by
  have:=h _ _ _ _ _ c
  rcases d with⟨_,_,d⟩|⟨_,k2,d,e⟩
  ·omega
  ·have:=h _ _ _ _ _ d;omega
theorem S9.det(h:∀m x y b k b' k',C m x y b k->C' m x y b' k'->b'=b∧k'=k):∀ {q:Hd} {b b':Bool} {k k':Int},S9 C m q b k->S9 C' m q b' k'->b'=b∧k'=k
 | .ans _,_,_,_,_,⟨a,b⟩,⟨c,d⟩=>by subst a;subst c;exact⟨rfl,by omega⟩
 | .all _,_,_,_,_,a,b=>uK.det (h false) a b
 | .pi _ _ _ _,_,_,_,_,⟨b1,k1,c,d⟩,⟨b1',k1',c',d'⟩=>by
  obtain⟨rfl,rfl⟩:=h _ _ _ _ _ _ _ c c'
  rcases d with⟨d1,d2,d3⟩|⟨d1,k2,d2,d3⟩
  ·rcases d' with⟨_,e2,e3⟩|⟨e1,_⟩
   ·subst d2;subst e2;exact⟨rfl,by omega⟩
   ·rw[d1]at e1;cases e1
  ·rcases d' with⟨e1,_⟩|⟨_,k2',e2,e3⟩
   ·rw[d1]at e1;cases e1
   ·obtain⟨rfl,rfl⟩:=h _ _ _ _ _ _ _ d2 e2;exact⟨rfl,by omega⟩
end
theorem T3.mono{l:List yI}:∀ {n:Nat} {m:Bool} {x y:Tm} {b:Bool} {k:Int},T3 l n m x y b k->T3 l (n+1) m x y b k
 |0,_,_,_,_,_,h=>h.elim
 |n+1,m,x,y,b,k,⟨r1,r2,x',k1,y',k2,k3,h1,h2,h3,h4⟩=>⟨r1,r2,x',k1,y',k2,k3,h1,h2,h3.mono (fun _ _ _ _ _ h=>T3.mono h),h4⟩
theorem T3.le{l:List yI}{n n':Nat}{m:Bool}{x y:Tm}{b:Bool}{k:Int}(h:T3 l n m x y b k)(hm:n≤n'):T3 l n' m x y b k:=by
 induction hm with
 |refl=>exact h
 |step _ ih=>exact ih.mono
theorem T3.nn{l:List yI}:∀ {n:Nat} {m:Bool} {x y:Tm} {b:Bool} {k:Int},T3 l n m x y b k->0≤k
 |0,_,_,_,_,_,h=>h.elim
 |n+1,m,x,y,b,k,⟨r1,r2,x',k1,y',k2,k3,h1,h2,h3,h4⟩=>by
  have:=h1.nn
  have:=h2.nn
  have:=h3.nn (fun _ _ _ _ _ h=>T3.nn h)
  omega
theorem T3.det{l:List yI}:∀ {n n':Nat} {m:Bool} {x y:Tm} {b b':Bool} {k k':Int},T3 l n m x y b k->T3 l n' m x y b' k'->b'=b∧k'=k
 |0,_,_,_,_,_,_,_,_,h,_=>h.elim
 |_+1,0,_,_,_,_,_,_,_,_,h=>h.elim
 |n+1,n'+1,m,x,y,b,b',k,k',⟨_,_,x',k1,y',k2,k3,h1,h2,h3,h4⟩,⟨_,_,x1',j1,y1',j2,j3,g1,g2,g3,g4⟩=>by
  obtain⟨rfl,-,rfl⟩:=h1.det g1
  obtain⟨rfl,-,rfl⟩:=h2.det g2
  obtain⟨rfl,rfl⟩:=S9.det (C:=T3 l n) (C':=T3 l n') (fun _ _ _ _ _ _ _ a b=>T3.det a b) h3 g3
  exact⟨rfl,by omega⟩
theorem Cv.det{l:List yI}{m:Bool}{x y:Tm}{b b':Bool}{k k':Int}:Cv l m x y b k->Cv l m x y b' k'->b'=b∧k'=k:=fun⟨_,a⟩ ⟨_,b⟩=>a.det b
theorem Cv.nn{l:List yI}{m:Bool}{x y:Tm}{b:Bool}{k:Int}:Cv l m x y b k->0≤k:=fun⟨_,a⟩=>a.nn
theorem uK.bound{l:List yI}:∀ {ps:List PE} {b:Bool} {k:Int},uK (Cv l false) ps b k->∃n,uK (T3 l n false) ps b k
 | [],_,_,a=>⟨0,a⟩
 |_::_,_,_,⟨a,b,b1,k1,⟨n,c⟩,d⟩=>by
  rcases d with d|⟨e,k2,f,g⟩
  ·exact⟨n,a,b,b1,k1,c,.inl d⟩
  ·obtain⟨n',f⟩:=uK.bound f
   exact⟨max n n',a,b,b1,k1,c.le (by omega),.inr ⟨e,k2,f.mono (fun _ _ _ _ h=>h.le (by omega)),g⟩⟩
theorem S9.bound{l:List yI}{m:Bool}:∀ {q:Hd} {b:Bool} {k:Int},S9 (Cv l) m q b k->∃n,S9 (T3 l n) m q b k
 | .ans _,_,_,a=>⟨0,a⟩
 | .all _,_,_,a=>uK.bound a
 | .pi _ _ _ _,_,_,⟨b1,k1,⟨n,c⟩,d⟩=>by
  rcases d with d|⟨e,k2,⟨n',f⟩,g⟩
  ·exact⟨n,b1,k1,c,.inl d⟩
  ·exact⟨max n n',b1,k1,c.le (by omega),.inr ⟨e,k2,f.le (by omega),g⟩⟩
theorem Cv.mk{l:List yI}{m:Bool}{x y x' y':Tm}{b:Bool}{k1 k2 k3:Int}(r1:wT l x)(r2:wT l y)(h1:Br l x x' 0 k1)(h2:Br l y y' 0 k2)(h3:S9 (Cv l) m (tO l m x' y') b k3):Cv l m x y b (k1+k2+k3):=by
 obtain⟨n,h3⟩:=h3.bound
 exact⟨n+1,r1,r2,x',k1,y',k2,k3,h1,h2,h3,rfl⟩
theorem Cv.inv{l:List yI}{m:Bool}{x y:Tm}{b:Bool}{k:Int}(h:Cv l m x y b k):wT l x∧wT l y∧∃x' k1 y' k2 k3,Br l x x' 0 k1∧Br l y y' 0 k2∧S9 (Cv l) m (tO l m x' y') b k3∧k=k1+k2+k3:=by
 obtain⟨n,h⟩:=h
 cases n with
 |zero=>exact h.elim
 |succ n=>
  obtain⟨r1,r2,x',k1,y',k2,k3,h1,h2,h3,h4⟩:=h
  exact⟨r1,r2,x',k1,y',k2,k3,h1,h2,h3.mono (fun _ _ _ _ _ h=>⟨n,h⟩),h4⟩
def m1(l:List yI)(k n:Int):Nat:=if k=4 then 3 else if k=6∧(ent l n).kind=2 then 2 else 1
mutual
def rZ(l:List yI):Tm->Nat
 | .mk k n s=>m1 l k n+pP l s
def pP(l:List yI):List Tm->Nat
 | []=>0
 |t::s=>rZ l t+pP l s
end
theorem P5(l:List yI)(k n:Int):1≤m1 l k n∧m1 l k n≤3:=by unfold m1;split<;>(try split)<;>omega
theorem zDp(l:List yI):∀t:Tm,1≤rZ l t
 | .mk k n s=>by rw[rZ];have:=P5 l k n;omega
theorem zDo(l:List yI):∀ {s:List Tm} {x:Tm},x∈s->rZ l x≤pP l s
 |a::s,x,h=>by
  rw[pP]
  rcases List.mem_cons.1 h with rfl|h
  ·omega
  ·have:=zDo l h;omega
theorem zDn(l:List yI):∀a b:List Tm,pP l (a++b)=pP l a+pP l b
 | [],b=>by simp[pP]
 |t::a,b=>by simp only[List.cons_append,pP,zDn l a b];omega
mutual
theorem zUA(l:List yI):∀(t:Tm) (b c k:Int),rZ l (jM t b c k)≤rZ l t
 | .mk kd n s,b,c,k=>by
  rw[jM]
  split
  ·rename_i h
   rw[rZ,rZ,pP]
   have e:∀m,m1 l 1 m=1:=fun m=>by unfold m1;simp
   have:=(P5 l kd n).1
   rw[e];omega
  ·rw[rZ,rZ]
   have:=zQh l s kd 0 b c k
   omega
theorem zQh(l:List yI):∀(s:List Tm) (kd:Int) (i:Nat) (b c k:Int),pP l (C0 s kd i b c k)≤pP l s
 | [],_,_,_,_,_=>by rw[C0];omega
 |t::s,kd,i,b,c,k=>by
  rw[C0,pP,pP]
  have:=zUA l t (xU kd i b) c k
  have:=zQh l s kd (i+1) b c k
  omega
end
theorem zUB(l:List yI):∀(s:List Tm) (f:Tm),rZ l (uF f s)=rZ l f+pP l s+s.length
 | [],f=>by rw[uF,pP];simp
 |a::s,f=>by
  have e:m1 l 5 0=1:=by unfold m1;simp
  rw[uF,zUB l s,rZ,pP,pP,pP,pP,e,List.length_cons];omega
theorem m3(l:List yI):∀t:Tm,xB t=true->rZ l t=rZ l (yF t)+pP l (yS t)+(yS t).length:=by
 refine iT ?_ ?_
 ·intro t hg hk
  rw[tS hk,tY hk,pP];simp
 ·intro n a b hg ha hb ih
  have e:m1 l 5 n=1:=by unfold m1;simp
  rw[kG,pA,rZ,pP,pP,pP,e,zDn,pP,pP,List.length_append,ih];simp;omega
theorem P6(l:List yI)(t:Tm):rZ l t=m1 l t.k t.n+pP l t.sub:=by cases t;rw[rZ,Tm.k,Tm.n,Tm.sub]
abbrev nY (t:Tm):List Int:=qL t 8 8
theorem eS{t:Tm}{Q:Int->Prop}:(∀x∈nY t,Q x)↔xM (fun k n=>k=8->Q n) t:=by
 rw[jP (by decide) (by decide)]
 exact⟨oV fun k n h e=>h (.inl e),oV fun k n h e=>h (by omega)⟩
theorem zUC{a t:Tm}{n:Int}{x:Int}(h:x∈nY (qM a n t 0)):x∈nY a∨(x∈nY t∧x≠n):=by
 have:=(eS (Q:=fun x=>x∈nY a∨(x∈nY t∧x≠n)) (t:=qM a n t 0)).2
 refine this (zDv ?_ t 0 ?_) x h
 ·exact oV (fun k n h e=>.inl (h e)) (eS.1 fun x h=>h)
 ·refine oV (fun k m h=>?_) (eS.1 fun x (h:x∈nY t)=>h)
  by_cases e:k=8∧m=n
  ·exact .inr e
  ·exact .inl fun e8=>.inr ⟨h e8,fun e2=>e ⟨e8,e2⟩⟩
structure zFU (c:List zR):Prop where
 len:c.length≤256
 each:∀v∈c,0≤v.n_∧v.n_≤1048576∧zH v.type_=true∧∀j,¬j∈sF v.type_ 0
 nd:(c.map (·.n_)).Nodup
 self:∀v∈c,¬v.n_∈nY v.type_
 ord:c.Pairwise fun v w=>¬w.n_∈nY v.type_
structure zFV (c:List zR) (n:Int) (t:Tm) (d:List zR):Prop where
 right:zFU d
 has:n∈c.map (·.n_)
 perm:(d.map (·.n_)).Perm ((c.map (·.n_)).erase n)
 typ:∀v∈d,∃w∈c,w.n_=v.n_∧w.n_≠n∧v.type_=qM t n w.type_ 0
theorem zFV.length{c d:List zR}{n:Int}{t:Tm}(h:zFV c n t d):d.length+1=c.length:=by
 have h1:=h.perm.length_eq
 rw[List.length_map,List.length_erase_of_mem h.has,List.length_map]at h1
 have h2:0<(c.map (·.n_)).length:=List.length_pos_of_mem h.has
 rw[List.length_map]at h2
 omega
structure bB (l:List yI) (c:List zR) (td:List zM) (so:List zS) (N:Nat):Prop where
 ctx:zFU c
 typ:∀v∈c,uN l v.type_
 may:∀e∈td,uN l e.a_∧uN l e.b_
 sol:∀s∈so,uN l s.t_
 oc:∀s∈so,∀v∈c,v.n_≠s.n_∧¬s.n_∈nY v.type_
 ot:∀s∈so,∀e∈td,¬s.n_∈nY e.a_∧¬s.n_∈nY e.b_
 os:∀s∈so,∀r∈so,¬s.n_∈nY r.t_
 nd:(so.map (·.n_)).Nodup
 len:c.length+so.length=N
def naE(t:Tm)(n:Int)(e:zM):zM:=⟨qM t n e.a_ 0,qM t n e.b_ 0⟩
def naS(t:Tm)(n:Int)(s:zS):zS:=⟨s.n_,qM t n s.t_ 0⟩
theorem bB.solve{l:List yI}{c d:List zR}{td:List zM}{so:List zS}{N:Nat}{e0:zM}{n:Int}{t:Tm}(h:bB l c (e0::td) so N)
  (ht:uN l t) (hf:∀x∈nY t,x∈nY e0.a_∨x∈nY e0.b_) (hn:¬n∈nY t) (hp:zFV c n t d)
  (ha:∀e∈td,zH (qM t n e.a_ 0)=true∧zH (qM t n e.b_ 0)=true) (hs:∀s∈so,zH (qM t n s.t_ 0)=true) :
  bB l d (td.map (naE t n)) (so.map (naS t n)++[⟨n,t⟩]) N:=by
 have hto:∀s∈so,¬s.n_∈nY t:=fun s hs' hx=>by
  rcases hf _ hx with h1|h1
  ·exact(h.ot s hs' e0 (by simp)).1 h1
  ·exact(h.ot s hs' e0 (by simp)).2 h1
 have na:∀x u,¬x∈nY t->¬x∈nY u->¬x∈nY (qM t n u 0):=fun x u h1 h2 h3=>by
  rcases zUC h3 with h4|h4
  ·exact h1 h4
  ·exact h2 h4.1
 have nn:∀u,¬n∈nY (qM t n u 0):=fun u h3=>by
  rcases zUC h3 with h4|h4
  ·exact hn h4
  ·exact h4.2 rfl
 have hnc:∀s∈so,s.n_≠n:=fun s hs' e=>by
  obtain⟨v,hv,hvn⟩:=List.mem_map.1 hp.has
  exact(h.oc s hs' v hv).1 (by rw[e];exact hvn)
 refine⟨hp.right,fun v hv=>?_,fun e he=>?_,fun s hs'=>?_,fun s hs' v hv=>?_,fun s hs' e he=>?_,fun s hs' r hr=>?_,?_,?_⟩
 ·obtain⟨w,hw,-,-,e⟩:=hp.typ v hv
  rw[e]
  exact(h.typ w hw).na ht (by rw[←e];exact(hp.right.each v hv).2.2.1)
 ·obtain⟨e',he',rfl⟩:=List.mem_map.1 he
  exact⟨(h.may e' (by simp[he'])).1.na ht (ha e' he').1,(h.may e' (by simp[he'])).2.na ht (ha e' he').2⟩
 ·rcases List.mem_append.1 hs' with h1|h1
  ·obtain⟨s',h2,rfl⟩:=List.mem_map.1 h1
   exact(h.sol s' h2).na ht (hs s' h2)
  ·rw[List.mem_singleton.1 h1];exact ht
 ·obtain⟨w,hw,e1,e2,e⟩:=hp.typ v hv
  rw[e]
  rcases List.mem_append.1 hs' with h1|h1
  ·obtain⟨s',h2,rfl⟩:=List.mem_map.1 h1
   exact⟨by rw[←e1];exact(h.oc s' h2 w hw).1,na _ _ (hto s' h2) (h.oc s' h2 w hw).2⟩
  ·rw[List.mem_singleton.1 h1];exact⟨by rw[←e1];exact e2,nn _⟩
 ·obtain⟨e',he',rfl⟩:=List.mem_map.1 he
  rcases List.mem_append.1 hs' with h1|h1
  ·obtain⟨s',h2,rfl⟩:=List.mem_map.1 h1
   have h3:=h.ot s' h2 e' (by simp[he'])
   exact⟨na _ _ (hto s' h2) h3.1,na _ _ (hto s' h2) h3.2⟩
  ·rw[List.mem_singleton.1 h1];exact⟨nn _,nn _⟩
 ·have key:∀u:zS,u∈so.map (naS t n)++[⟨n,t⟩]->(∃u'∈so,u=naS t n u')∨u=⟨n,t⟩:=fun u hu=>by
   rcases List.mem_append.1 hu with h1|h1
   ·obtain⟨u',h2,rfl⟩:=List.mem_map.1 h1;exact .inl ⟨u',h2,rfl⟩
   ·exact .inr (List.mem_singleton.1 h1)
  rcases key s hs' with⟨s',h2,rfl⟩|rfl
  ·rcases key r hr with⟨r',h3,rfl⟩|rfl
   ·exact na _ _ (hto s' h2) (h.os s' h2 r' h3)
   ·exact hto s' h2
  ·rcases key r hr with⟨r',h3,rfl⟩|rfl
   ·exact nn _
   ·exact hn
 ·rw[List.map_append,List.map_map]
  have e:(fun s:zS=>s.n_) ∘ naS t n=fun s=>s.n_:=rfl
  rw[e,List.nodup_append]
  refine⟨h.nd,by simp,fun x hx y hy=>?_⟩
  obtain⟨s,hs',rfl⟩:=List.mem_map.1 hx
  simp at hy
  rw[hy];exact hnc s hs'
 ·have:=hp.length
  have:=h.len
  simp only[List.length_append,List.length_map,List.length_cons,List.length_nil]
  omega
theorem bB.more{l:List yI}{c:List zR}{td more:List zM}{so:List zS}{N:Nat}{e0:zM}(h:bB l c (e0::td) so N)
  (hm:∀e∈more,uN l e.a_∧uN l e.b_∧(∀x∈nY e.a_,x∈nY e0.a_∨x∈nY e0.b_)∧∀x∈nY e.b_,x∈nY e0.a_∨x∈nY e0.b_):bB l c (more++td) so N:=by
 refine⟨h.ctx,h.typ,fun e he=>?_,h.sol,h.oc,fun s hs e he=>?_,h.os,h.nd,h.len⟩
 ·rcases List.mem_append.1 he with h1|h1
  ·exact⟨(hm e h1).1,(hm e h1).2.1⟩
  ·exact h.may e (by simp[h1])
 ·rcases List.mem_append.1 he with h1|h1
  ·have h0:=h.ot s hs e0 (by simp)
   exact⟨fun hx=>((hm e h1).2.2.1 _ hx).elim h0.1 h0.2,fun hx=>((hm e h1).2.2.2 _ hx).elim h0.1 h0.2⟩
  ·exact h.ot s hs e (by simp[h1])
theorem uN.br{N:ByteArray->Bool}{l:List yI}(hE:wP N l){x y:Tm}{k:Int}(hx:uN l x)(h:Br l x y 0 k):uN l y∧∀z∈nY y,z∈nY x:=by
 have h1:=gQ.1 hx
 refine⟨gQ.2 ⟨h.shaped h1.1 rfl,fun j hj=>?_,?_⟩,?_⟩
 ·exact h.inv hE (zWn hE (fun _=>False)) h1.1 rfl (fun j hj=>h1.2.1 j hj) j hj
 ·exact h.inv hE (P1 hE fun k n _ h=>h) h1.1 rfl h1.2.2
 ·exact eS.2 (h.inv hE (P1 hE fun k n h8 _ h=>absurd h h8) h1.1 rfl (eS.1 fun z hz=>hz))
def zFW(l:List yI)(c:List zR)(e:zM)(n:Int)(t:Tm):Prop:=
 ∃x y k j,Br l e.a_ x 0 k∧Br l e.b_ y 0 j∧n∈c.map (·.n_)∧((x.k=8∧x.n=n∧t=y)∨(y.k=8∧y.n=n∧t=x))
def nM(l:List yI)(t:Tm):List Tm:=(yS t).drop (ent l (yF t).n).pars.toNat
inductive Bnt (l:List yI) (n:Int):Tm->Prop
 |here {t a:Tm}:xV l t->a∈nM l t->a.k=8->a.n=n->Bnt l n t
 |deep {t a:Tm}:xV l t->a∈nM l t->Bnt l n a->Bnt l n t
def tD(a b:List Tm):List zM:=List.zipWith zM.mk a b
theorem I2:∀ {a b:List Tm} {e:zM},e∈tD a b->e.a_∈a∧e.b_∈b
 | [],_,e,h=>by simp[tD]at h
 |_::_,[],e,h=>by simp[tD]at h
 |x::a,y::b,e,h=>by
  rw[tD,List.zipWith_cons_cons,List.mem_cons]at h
  rcases h with rfl|h
  ·exact⟨by simp,by simp⟩
  ·have:=I2 (a:=a) (b:=b) h
   exact⟨by simp[this.1],by simp[this.2]⟩
inductive Un (l:List yI):List zR->List zM->List zS->Option (List zR×List zS)->Prop
 |done {c:List zR} {so:List zS}:Un l c [] so (some (c,so))
 |sol {c d:List zR} {e:zM} {td:List zM} {so:List zS} {n:Int} {t:Tm} {r:Option (List zR×List zS)} :
   zFW l c e n t->¬n∈nY t->zFV c n t d->(∀e∈td,zH (qM t n e.a_ 0)=true∧zH (qM t n e.b_ 0)=true)->(∀s∈so,zH (qM t n s.t_ 0)=true) ->
   Un l d (td.map (naE t n)) (so.map (naS t n)++[⟨n,t⟩]) r->Un l c (e::td) so r
 |cyc {c:List zR} {e:zM} {td:List zM} {so:List zS} {n:Int} {t:Tm}:zFW l c e n t->Bnt l n t->Un l c (e::td) so none
 |conf {c:List zR} {e:zM} {td:List zM} {so:List zS} {x y:Tm} {k j:Int}:Br l e.a_ x 0 k->Br l e.b_ y 0 j->xV l x->xV l y->(yF x).n≠(yF y).n->Un l c (e::td) so none
 |inj {c:List zR} {e:zM} {td:List zM} {so:List zS} {x y:Tm} {k j:Int} {r:Option (List zR×List zS)}:Br l e.a_ x 0 k->Br l e.b_ y 0 j->xV l x->xV l y->(yF x).n=(yF y).n ->
   (∀i:Nat,(i:Int)<(ent l (yF x).n).pars->∃k,Cv l false (tJ (yS x) i) (tJ (yS y) i) true k)->Un l c (tD (nM l x) (nM l y)++td) so r->Un l c (e::td) so r
theorem uN.ar{l:List yI}{t a:Tm}(h:uN l t)(ha:a∈yS t):uN l a∧∀z∈nY a,z∈nY t:=by
 have h1:=gQ.1 h
 have hg:=(zO h1.1).2.2
 refine⟨gQ.2 ⟨xI h1.1 ha,fun j hj=>h1.2.1 j ((G5 t hg 0 j).2 a ha hj),(lI t hg h1.2.2).2 a ha⟩,?_⟩
 exact eS.2 ((lI t hg (eS.1 fun z hz=>hz)).2 a ha)
theorem zFW.may{N:ByteArray->Bool}{l:List yI}(hE:wP N l){c:List zR}{e:zM}{n:Int}{t:Tm}(h:zFW l c e n t)(ha:uN l e.a_)(hb:uN l e.b_):uN l t∧∀x∈nY t,x∈nY e.a_∨x∈nY e.b_:=by
 obtain⟨x,y,k,j,hx,hy,-,⟨-,-,rfl⟩|⟨-,-,rfl⟩⟩:=h
 ·exact⟨(hb.br hE hy).1,fun z hz=>.inr ((hb.br hE hy).2 z hz)⟩
 ·exact⟨(ha.br hE hx).1,fun z hz=>.inl ((ha.br hE hx).2 z hz)⟩
theorem bB.inj{N:ByteArray->Bool}{l:List yI}(hE:wP N l){c:List zR}{e:zM}{td:List zM}{so:List zS}{x y:Tm}{k j:Int}{M:Nat}(h:bB l c (e::td) so M)(hx:Br l e.a_ x 0 k)(hy:Br l e.b_ y 0 j):bB l c (tD (nM l x) (nM l y)++td) so M:=by
 have h0:=h.may e (by simp)
 have h1:=h0.1.br hE hx
 have h2:=h0.2.br hE hy
 refine h.more fun e' he'=>?_
 have hm:=I2 he'
 have g1:=h1.1.ar (List.mem_of_mem_drop hm.1)
 have g2:=h2.1.ar (List.mem_of_mem_drop hm.2)
 exact⟨g1.1,g2.1,fun z hz=>.inl (h1.2 z (g1.2 z hz)),fun z hz=>.inr (h2.2 z (g2.2 z hz))⟩
theorem Un.inv{N:ByteArray->Bool}{l:List yI}(hE:wP N l){c:List zR}{td:List zM}{so:List zS}{r:Option (List zR×List zS)}{M:Nat}(h:Un l c td so r):bB l c td so M->∀c' so',r=some (c',so')->bB l c' [] so' M:=by
 induction h with
 |done=>intro hI c' so' e;cases e;exact hI
 |sol a b d e f _ ih=>
  intro hI
  have h0:=hI.may _ (List.mem_cons_self ..)
  have hm:=a.may hE h0.1 h0.2
  exact ih (hI.solve hm.1 hm.2 b d e f)
 |cyc _ _=>intro _ c' so' e;cases e
 |conf _ _ _ _ _=>intro _ c' so' e;cases e
 |inj a b _ _ _ _ _ ih=>intro hI;exact ih (hI.inj hE a b)
def gV:Nat->Int->zZ->Int->Option Bool
 |0,_,_,_=>none
 |qq+1,p1,r1,v10=>
 if decide (v10<(r1.length:Int))then
 zW r1 v10>>=fun x4=>
 if x4==p1 then
 some true
 else
 gV qq p1 r1 (xL (v10+1))
 else
 some false
def zQg(qq:Nat)(p0:Tm)(p1:Int):Option Bool:=
 zCC qq p0>>=fun r1=>
 gV qq p1 r1 0
theorem zTd:∀qq:Nat,(∀ {p1 r1 v10 r},gV qq p1 r1 v10=some r->(∀j,dL 0 (pt 949 f138) (sp j 18 0 [(1,ai p1),(8,zV yC r1 .no),(9,ai (r1.length:Int)),(10,ai v10)]) (⟨[],0,[],0,[]⟩) (fQ 0 (nQ 0 f138 (ab r) [] 0) [.blk 0,.seq (pt 15 f138)]))):=by
 intro qq
 induction qq with
 |zero=>
  exact fun h=>nn h
 |succ qq ih=>
  intro p1 r1 v10 r h
  rw[gV]at h
  obtain⟨h3,h⟩|⟨h3,h⟩:=zU h
  obtain⟨x4,h5,h⟩:=zC h
  have k:=oA 0 (nI (o:=.no) h5)<|oB 0 h3 o0
  obtain⟨h6,h⟩|⟨h6,h⟩:=zU h
  cases h
  exact fun j=>lF 0 [] (oB 1 h6 k)
  exact fun j=>lH 1 [] [] [] [1,8,9,10] (oD (dI r1)<|oB 1 h6 k) (ih h)
  cases h
  exact fun j=>lF 0 [] (oB 0 h3 o0)
theorem zZi{qq p0 p1 r}(h:zQg qq p0 p1=some r):Ct 138 [] [yY p0,ai p1] (ab r) [] 0:=⟨by
 unfold zQg at h
 obtain⟨r1,h2,h⟩:=zC h
 exact tH ⟨func138,rfl⟩ 1 [] [] [] [1,8,9,10] (oD (dI r1)<|oC 1 [] (zOn h2) o0) (zTd _ h),⟨⟨tv,tv,⟨tv,dT _⟩,tv⟩,tv,tv⟩,zB,tv,zB⟩
def m4(qq:Nat)(M:wA)(p1:Tm):Option (Int×yM×Bool):=
 bI qq p1>>=fun r1=>
 if r1 then
 e53 qq p1>>=fun r4=>
 zIr qq M r4>>=fun r6=>
 some (r6.1,r6.2.1,r6.2.2)
 else
 some (0,[],false)
theorem zZh:Qf 175 f175:=⟨func175,rfl⟩
theorem zQf{qq M p1 r}(h:m4 qq M p1=some r):Ct 175 [mB M 1,mR M] [.mp 0 0,yY p1] (.tup [ai r.1,.sl (zG zD r.2.1) r.2.1.length .no,ab r.2.2]) [mB M 1,mR M] 0:=⟨by
 unfold m4 at h
 obtain⟨r1,h2,h⟩:=zC h
 obtain⟨h3,h⟩|⟨h3,h⟩:=zU h
 obtain⟨r4,h5,h⟩:=zC h
 obtain⟨r6,h7,h⟩:=zC h
 cases h
 exact tF zZh 3 [0,1] (oD (dT r6.2.1)<|sP M<|oC 0 [0,1] (zWx h7)<|oC 2 [] (c53 h5)<|oK 2 [] h3 (nC h2) o0)
 cases h
 exact tF zZh 1 [0,1] (oD (dT ([]:yM))<|sP M<|oK 2 [] h3 (nC h2) o0),⟨(lz rfl),⟨tv,tv,⟨tv,dT _⟩,tv⟩,tv⟩,(nW (lz rfl) zB),⟨tv,dT _,tv,tv⟩,(pW (lz rfl) zB)⟩
def zMb(qq:Nat)(M:wA)(p1:Int):Option Int:=
 if decide (p1<0)then
 some 0
 else
 if decide (p1≥(M.l.length:Int))then
 some 0
 else
 zW M.l p1>>=fun x3=>
 some x3.pars
theorem zWk:Qf 176 f176:=⟨func176,rfl⟩
theorem zZg{qq M p1 r}(h:zMb qq M p1=some r):Ct 176 [mB M 1,mR M] [.mp 0 0,ai p1] (ai r) [mB M 1,mR M] 0:=⟨by
 unfold zMb at h
 obtain⟨h1,h⟩|⟨h1,h⟩:=zU h
 obtain rfl:=sj h
 exact tF zWk 0 [0,1] (sP M<|oB 1 h1 o0)
 have k:=oB 1 h1 o0
 obtain⟨h2,h⟩|⟨h2,h⟩:=zU h
 obtain rfl:=sj h
 exact tF zWk 0 [0,1] (sP M<|oB 2 h2 k)
 obtain⟨x3,h4,h⟩:=zC h
 obtain rfl:=sj h
 exact tF zWk 1 [0,1] (sP M<|oA 1 (wI (o:=.no) h4)<|oB 2 h2 k),⟨(lz rfl),tv,tv⟩,(nW (lz rfl) zB),tv,(pW (lz rfl) zB)⟩
mutual
def zDm:Nat->wA->Tm->Int->Option Bool
 |0,_,_,_=>none
 |qq+1,M,p1,p2=>
 m4 qq M p1>>=fun r1=>
 if r1.2.2 then
 zMb qq M r1.1>>=fun r4=>
 fK r1.2.1 r4 (r1.2.1.length:Int)>>=fun x6=>
 mJ qq M p2 x6 0
 else
 some false
def mJ:Nat->wA->Int->yM->Int->Option Bool
 |0,_,_,_,_=>none
 |qq+1,M,p2,x6,v27=>
 if decide (v27<(x6.length:Int))then
 zW x6 v27>>=fun x9=>
 if x9.k==8 then
 if x9.n==p2 then
 some true
 else
 zDm qq M x9 p2>>=fun r13=>
 if r13 then
 some true
 else
 mJ qq M p2 x6 (xL (v27+1))
 else
 zDm qq M x9 p2>>=fun r16=>
 if r16 then
 some true
 else
 mJ qq M p2 x6 (xL (v27+1))
 else
 some false
end
abbrev zTc (M:wA) (p1:Tm) (p2:Int) (r:Bool) (C:Cf):Prop:=C 139 [mB M 1,mR M] [.mp 0 0,yY p1,ai p2] (ab r) [mB M 1,mR M] 0
theorem zZf:Qf 139 f139:=⟨func139,rfl⟩
theorem zZe{M p1 p2 r}(h:zTc M p1 p2 r Ci):zTc M p1 p2 r Ct:=⟨h,⟨(lz rfl),⟨tv,tv,⟨tv,dT _⟩,tv⟩,tv,tv⟩,(nW (lz rfl) zB),tv,(pW (lz rfl) zB)⟩
theorem zFX:∀qq:Nat,(∀ {M p1 p2 r},zDm qq M p1 p2=some r->zTc M p1 p2 r Ct)∧(∀ {M p2 x6 v27 r},mJ qq M p2 x6 v27=some r->(∀j,dL 2 (pt 16309 f139) (sp j 47 0 [(0,.mp 0 0),(2,ai p2),(25,zV zD x6 .no),(26,ai (x6.length:Int)),(27,ai v27)]) (⟨[(0,mB M 1),(1,mR M)],2,[],0,[]⟩) (fQ 2 (nQ 2 f139 (ab r) [mB M 1,mR M] 0) [.blk 0,.seq (pt 255 f139)]))):=by
 intro qq
 induction qq with
 |zero=>
  exact⟨fun h=>nn h,fun h=>nn h⟩
 |succ qq ih=>
  obtain⟨zKy,m5⟩:=ih
  refine⟨?_,?_⟩
  intro M p1 p2 r h
  rw[zDm]at h
  obtain⟨r1,h2,h⟩:=zC h
  have k:=oC 1 [0,1] (zQf h2) o0
  obtain⟨h3,h⟩|⟨h3,h⟩:=zU h
  obtain⟨r4,h5,h⟩:=zC h
  obtain⟨x6,h7,h⟩:=zC h
  exact zZe (tH zZf 1 [] [0,1] [] [0,2,25,26,27] (oD (dT x6)<|sP M<|oA 0 (qZ h7)<|oC 1 [0,1] (zZg h5)<|oB 2 h3 k) (m5 h))
  cases h
  exact zZe (tF zZf 1 [0,1] (sP M<|oB 2 h3 k))
  intro M p2 x6 v27 r h
  rw[mJ]at h
  obtain⟨h8,h⟩|⟨h8,h⟩:=zU h
  obtain⟨x9,h10,h⟩:=zC h
  have k:=oA 0 (xH (o:=.no) h10)<|oB 0 h8 o0
  obtain⟨h11,h⟩|⟨h11,h⟩:=zU h
  have k:=oB 3 h11 k
  obtain⟨h12,h⟩|⟨h12,h⟩:=zU h
  cases h
  exact fun j=>lF 0 [0,1] (sP M<|oB 1 h12 k)
  obtain⟨r13,h14,h⟩:=zC h
  have k:=oB 1 h12 k
  obtain⟨h15,h⟩|⟨h15,h⟩:=zU h
  cases h
  exact fun j=>lF 0 [0,1] (sP M<|oK 1 [0,1] h15 (zKy h14) k)
  exact fun j=>lH 1 [] [0,1] [] [0,2,25,26,27] (oD (dT x6)<|sP M<|oK 1 [0,1] h15 (zKy h14) k) (m5 h)
  obtain⟨r16,h17,h⟩:=zC h
  have k:=oB 3 h11 k
  obtain⟨h18,h⟩|⟨h18,h⟩:=zU h
  cases h
  exact fun j=>lF 0 [0,1] (sP M<|oK 1 [0,1] h18 (zKy h17) k)
  exact fun j=>lH 1 [] [0,1] [] [0,2,25,26,27] (oD (dT x6)<|sP M<|oK 1 [0,1] h18 (zKy h17) k) (m5 h)
  cases h
  exact fun j=>lF 0 [0,1] (sP M<|oB 0 h8 o0)
theorem zZd{qq M p1 p2 r}(h:zDm qq M p1 p2=some r):zTc M p1 p2 r Ct:=(zFX _).1 h
theorem Ou.met{ρ:Type}{er:ρ->Int}{Q:(Int->Int->ρ)->Int->Prop}{S:Prop}{l U:Int}{f:Int->Int->Nat->Option ρ}(h:Ou f er Q S l)(h0:0≤U)(h1:l+U≤1099511627776) :
  zN (f l U) fun r=>er r=8∨∃R k,0≤k∧k≤l∧Q R k∧r=R (l-k) (U+k):=by
 rcases h with⟨R,k,k0,k1,hq,hg,-⟩|⟨hs,-⟩
 ·exact⟨_,hg l U k1 h0 h1,.inr ⟨R,k,k0,k1,hq,rfl⟩⟩
 ·obtain⟨r,hr,e⟩:=hs U h0 h1
  exact⟨r,hr,.inl e⟩
theorem m6(L:List Int)(n:Int):∀(r:List Int) (v:Nat),L.drop v=r->L.length≤17592186044416->zJ (fun q=>gV q n L (v:Int)) (decide (n∈r))
 | [],v,hd,hl=>by
  refine zJ.succ ?_
  simp only[gV]
  exact zJ.ifF (yH hd) (zJ.ret.eq (by simp))
 |x::r,v,hd,hl=>by
  have hlt:=yL hd
  refine zJ.succ ?_
  simp only[gV]
  refine zJ.ifT (yG hd) (zJ.pure (yD hd) ?_)
  by_cases e:x=n
  ·exact zJ.ifT (by simp[e]) (zJ.ret.eq (by simp[e]))
  ·refine zJ.ifF (by simp[e]) ?_
   rw[yA v (by omega)]
   exact(m6 L n r (v+1) (zY hd) hl).eq (by simp[show ¬n=x from fun h=>e h.symm])
theorem cJ{N:ByteArray->Bool}{l:List yI}(hE:wP N l){t:Tm}(hs:zH t=true)(hc:xV l t):∃p:Nat,(ent l (yF t).n).pars=(p:Int)∧p≤(yS t).length∧0≤(yF t).n∧(yF t).n<l.length:=by
 have h:=uB hs hc
 obtain⟨A,y,hw,-,-,hp,-,q0,q1,-⟩:=tX hE h.1 h.2.1 h.2.2.1
 exact⟨(ent l (yF t).n).pars.toNat,by omega,by rw[h.2.2.2];omega,h.1,h.2.1⟩
theorem W1(l:List yI)(t:Tm)(hs:zH t=true):zJ (fun q=>m4 q (wW l) t) (gP l t):=by
 simp only[m4]
 refine(xN t (yB hs)).bind (zJ.ifT hs (((qK t (yB hs)).eq (by unfold lV;rw[if_pos hs])).bind ((V7 l t hs).bind zJ.ret)))
theorem zFY(l:List yI){c:Int}(h0:0≤c)(h1:c<l.length):zJ (fun q=>zMb q (wW l) c) (ent l c).pars:=by
 simp only[zMb,cH]
 exact zJ.ifF (decide_eq_false (by omega)) (zJ.ifF (decide_eq_false (by omega)) (zJ.pure (yT h0 h1) zJ.ret))
theorem zMa(t:Tm)(n:Int)(hs:zH t=true):zJ (fun q=>zQg q t n) (decide (n∈nY t)):=by
 simp only[zQg]
 refine(eH t (yB hs)).bind ?_
 have e:eG t 8 8=vG (qL t 8 8):=by unfold eG;rw[if_pos hs]
 rw[e]
 have hl:=mE t 8 8
 have hn:=(zO hs).1
 refine(m6 (vG (qL t 8 8)) n _ 0 rfl (by have:=mV (qL t 8 8);omega)).eq ?_
 simp[nJ]
theorem zBG{l:List yI}(n:Int)(t:Tm)(hs:zH t=true)(hc:xV l t)(H:∀a∈nM l t,zH a=true->zN (fun q=>zDm q (wW l) a n) fun b=>b=true->Bnt l n a)(hl:(nM l t).length≤17592186044416):∀(r:List Tm) (v:Nat),(nM l t).drop v=r->zN (fun q=>mJ q (wW l) n (nM l t) (v:Int)) fun b=>b=true->Bnt l n t
 | [],v,hd=>by
  refine zN.succ ?_
  simp only[mJ]
  refine zN.ite (fun h=>?_) fun _=>zN.ret fun h=>(by cases h)
  rw[yH hd]at h;cases h
 |x::r,v,hd=>by
  have hlt:=yL hd
  have hx:x∈nM l t:=List.mem_of_mem_drop (by rw[hd];simp)
  have hsx:zH x=true:=xI hs (List.mem_of_mem_drop hx)
  have rest:∀b,(b=true->Bnt l n x)->zN (fun q=>if b=true then some true else mJ q (wW l) n (nM l t) (xL ((v:Int)+1))) fun b=>b=true->Bnt l n t:=fun b hb=>by
   refine zN.ite (fun h=>zN.ret fun _=>.deep hc hx (hb h)) fun _=>?_
   rw[yA v (by omega)]
   exact zBG n t hs hc H hl r (v+1) (zY hd)
  refine zN.succ ?_
  simp only[mJ]
  refine zN.ite (fun _=>zN.pure (yD hd) (zN.ite (fun h8=>zN.ite (fun hn=>zN.ret fun _=>.here hc hx (by simpa using h8) (by simpa using hn)) fun _=>?_) fun _=>?_)) fun h=>?_
  ·exact(H x hx hsx).bind rest
  ·exact(H x hx hsx).bind rest
  ·rw[yG hd]at h;cases h
theorem zFZ{N:ByteArray->Bool}{l:List yI}(hE:wP N l)(n:Int):∀(m:Nat) (t:Tm),t.nodes≤m->zH t=true->zN (fun q=>zDm q (wW l) t n) fun b=>b=true->Bnt l n t
 |0,.mk k i ls,hm,_=>by rw[Tm.nodes]at hm;omega
 |m+1,t,hm,hs=>by
  refine zN.succ ?_
  simp only[zDm]
  refine zN.bind (P:=fun r=>r=gP l t) ((W1 l t hs).tot rfl) fun r1 h1=>zN.ite (fun h=>?_) fun _=>zN.ret fun h=>(by cases h)
  subst h1
  by_cases hc:xV l t
  ·have hx:gP l t=((yF t).n,yS t,true):=if_pos hc
   obtain⟨p,hp,h3,h4,h5⟩:=cJ hE hs hc
   rw[hx]
   refine zN.bind (P:=fun r=>r=(p:Int)) ((zFY l h4 h5).tot hp) fun r4 h6=>?_
   subst h6
   have e:nM l t=(yS t).drop p:=by unfold nM;rw[hp];rfl
   refine zN.pure (a:=nM l t) ((pG (by omega) (show (p:Int)≤(yS t).length by omega)).trans (by rw[e];rfl)) ?_
   have hlen:(nM l t).length≤17592186044416:=by
    have h:=zO hs
    have:=rE t h.2.2
    rw[e,List.length_drop];omega
   exact zBG n t hs hc (by
    intro a ha hsa
    refine zFZ hE n m a ?_ hsa
    have h:=zO hs
    have:=((kH t h.2.2).2.2.2.2 a (List.mem_of_mem_drop ha)).2.1
    omega) hlen _ 0 rfl
  ·have hx:gP l t=(0,[],false):=if_neg hc
   rw[hx]at h;cases h
def zQe(qq:Nat)(p0:Int):Option Bool:=
 if decide (p0≥0)then
 some (decide (p0≤1048576))
 else
 some false
theorem zZc:Qf 170 f170:=⟨func170,rfl⟩
theorem zZb{qq p0 r}(h:zQe qq p0=some r):Ct 170 [] [ai p0] (ab r) [] 0:=⟨by
 unfold zQe at h
 obtain⟨h1,h⟩|⟨h1,h⟩:=zU h
 cases h
 exact tF zZc 1 [] (oB 0 h1 o0)
 cases h
 exact tF zZc 0 [] (oB 0 h1 o0),⟨tv,tv⟩,zB,tv,zB⟩
def kL:Nat->xR->Int->(List (Int×Int))->Option ((Unit) ⊕ ((List (Int×Int))))
 |0,_,_,_=>none
 |qq+1,p0,v12,yE=>
 if decide (v12<(p0.length:Int))then
 zW p0 v12>>=fun x2=>
 zQe qq x2.n_>>=fun r4=>
 if r4 then
 bI qq x2.type_>>=fun r7=>
 if r7 then
 if decide ((p0.length:Int)>256)then
 some (.inl ())
 else
 if N8 yE x2.n_ then
 kL qq p0 (xL (v12+1)) yE
 else
 kL qq p0 (xL (v12+1)) (cT yE x2.n_ v12)
 else
 some (.inl ())
 else
 some (.inl ())
 else
 some (.inr yE)
def zMA(qq:Nat)(p0:xR):Option ((Unit) ⊕ ((List (Int×Int)))):=
 kL qq p0 0 ([]:List (Int×Int))
abbrev zWj (p0:xR) (C:Cf):Prop:=C 132 [] [zV zI p0 .no] (.tup [.val (.map none),ab false]) [] 0
abbrev zWi (p0:xR) (r:(List (Int×Int))) (C:Cf):Prop:=C 132 [] [zV zI p0 .no] (.tup [.obj 0,ab true]) [aG r] 0
theorem zZa:Qf 132 f132:=⟨func132,rfl⟩
theorem zKx:∀qq:Nat,(∀ {p0 v12 yE r},kL qq p0 v12 yE=some r->(∀j,dL 0 (pt 4021 f132) (sp j 47 0 [(0,zV zI p0 .no),(4,.obj 0),(10,zV zI p0 .no),(11,ai (p0.length:Int)),(12,ai v12)]) (⟨[(0,aG yE)],1,[],0,[]⟩) (fQ 0 ((match (generalizing:=false) r with | .inl x=>nQ 0 f132 (.tup [.val (.map none),ab false]) [] 0 | .inr x=>nQ 0 f132 (.tup [.obj 0,ab true]) [aG x] 0)) [.blk 0,.seq (pt 63 f132)]))):=by
 intro qq
 induction qq with
 |zero=>
  exact fun h=>nn h
 |succ qq ih=>
  intro p0 v12 yE r h
  rw[kL]at h
  obtain⟨h1,h⟩|⟨h1,h⟩:=zU h
  obtain⟨x2,h3,h⟩:=zC h
  obtain⟨r4,h5,h⟩:=zC h
  have k:=oA 0 (zCb (o:=.no) h3)<|oB 0 h1 o0
  obtain⟨h6,h⟩|⟨h6,h⟩:=zU h
  obtain⟨r7,h8,h⟩:=zC h
  have k:=oK 3 [] h6 (zZb h5) k
  obtain⟨h9,h⟩|⟨h9,h⟩:=zU h
  have k:=oK 2 [] h9 (nC h8) k
  obtain⟨h10,h⟩|⟨h10,h⟩:=zU h
  cases h
  exact fun j=>lF 0 [] (oB 2 h10 k)
  have k:=oL 1 (zNZ yE x2.n_)<|oB 2 h10 k
  obtain⟨h11,h⟩|⟨h11,h⟩:=zU h
  exact fun j=>lH 2 [] [0] [] [0,4,10,11,12] (oD (zF p0)<|oD (zF p0)<|oB 1 h11 k) (ih h)
  exact fun j=>lH 1 [] [0] [] [0,4,10,11,12] (oD (zF p0)<|oD (zF p0)<|oU 2 (zVm yE x2.n_ v12)<|oB 1 h11 k) (ih h)
  cases h
  exact fun j=>lF 1 [] (oK 2 [] h9 (nC h8) k)
  cases h
  exact fun j=>lF 1 [] (oK 3 [] h6 (zZb h5) k)
  cases h
  exact fun j=>lF 0 [0] (oB 0 h1 o0)
theorem zTb{qq p0 r}(h:zMA qq p0=some r):(match (generalizing:=false) r with | .inl x=>zWj p0 Ct | .inr x=>zWi p0 x Ct):=by
 unfold zMA at h
 rcases r with y0|y1
 exact⟨tH zZa 1 [] [0] [] [0,4,10,11,12] (oD (zF p0)<|oD (zF p0) o0) (zKx _ h),⟨⟨tv,zF _⟩,tv⟩,zB,⟨tv,tv,tv⟩,zB⟩
 exact⟨tH zZa 1 [] [0] [] [0,4,10,11,12] (oD (zF p0)<|oD (zF p0) o0) (zKx _ h),⟨⟨tv,zF _⟩,tv⟩,zB,⟨(lz rfl),tv,tv⟩,(zA tv zB)⟩
def zMB(qq:Nat)(p0:Tm):Option Int:=
 bI qq p0>>=fun r1=>
 if r1 then
 zEO qq p0 0>>=fun r4=>
 some r4
 else
 some 0
theorem zZA:Qf 133 f133:=⟨func133,rfl⟩
theorem zZB{qq p0 r}(h:zMB qq p0=some r):Ct 133 [] [yY p0] (ai r) [] 0:=⟨by
 unfold zMB at h
 obtain⟨r1,h2,h⟩:=zC h
 obtain⟨h3,h⟩|⟨h3,h⟩:=zU h
 obtain⟨r4,h5,h⟩:=zC h
 obtain rfl:=sj h
 exact tF zZA 0 [] (oC 2 [] (zYg h5)<|oK 1 [] h3 (nC h2) o0)
 obtain rfl:=sj h
 exact tF zZA 1 [] (oK 1 [] h3 (nC h2) o0),⟨⟨tv,tv,⟨tv,dT _⟩,tv⟩,tv⟩,zB,tv,zB⟩
mutual
def eT:Nat->xR->(List (Int×Int))->Int->Option Bool
 |0,_,_,_=>none
 |qq+1,p0,y3,v27=>
 if decide (v27<(p0.length:Int))then
 zW p0 v27>>=fun x6=>
 zMB qq x6.type_>>=fun r8=>
 if decide (r8>0)then
 some false
 else
 zCC qq x6.type_>>=fun r11=>
 gW qq p0 y3 v27 r11 0
 else
 some true
def gW:Nat->xR->(List (Int×Int))->Int->zZ->Int->Option Bool
 |0,_,_,_,_,_=>none
 |qq+1,p0,y3,v27,r11,v40=>
 if decide (v40<(r11.length:Int))then
 zW r11 v40>>=fun x14=>
 if N8 y3 x14 then
 if decide ((zHf y3 x14)≥v27)then
 some false
 else
 gW qq p0 y3 v27 r11 (xL (v40+1))
 else
 gW qq p0 y3 v27 r11 (xL (v40+1))
 else
 eT qq p0 y3 (xL (v27+1))
end
def e96(qq:Nat)(p0:xR):Option Bool:=
 zMA qq p0>>=fun r1=>
 match r1 with
 | .inl y5=>
  some false
 | .inr y3=>
  if (y3.length:Int) != (p0.length:Int)then
  some false
  else
  eT qq p0 y3 0
theorem q96:Qf 96 f96:=⟨func96,rfl⟩
theorem zDl:∀qq:Nat,(∀ {p0 y3 v27 r},eT qq p0 y3 v27=some r->(∀j,dL 0 (pt 16309 f96) (sp j 58 0 [(3,.obj 0),(25,zV zI p0 .no),(26,ai (p0.length:Int)),(27,ai v27)]) (⟨[(0,aG y3)],1,[],0,[]⟩) (fQ 0 (nQ 0 f96 (ab r) [] 0) [.blk 0,.seq (pt 255 f96)])))∧(∀ {p0 y3 v27 r11 v40 r},gW qq p0 y3 v27 r11 v40=some r->(∀j,dL 0 (pt 4275562485 f96) (sp j 58 0 [(3,.obj 0),(5,ai v27),(25,zV zI p0 .no),(26,ai (p0.length:Int)),(27,ai v27),(38,zV yC r11 .no),(39,ai (r11.length:Int)),(40,ai v40)]) (⟨[(0,aG y3)],1,[],0,[]⟩) (fQ 0 (nQ 0 f96 (ab r) [] 0) [.blk 2,.blk 1,.seq (pt 1043839 f96),.loop (pt 16309 f96),.blk 0,.seq (pt 255 f96)]))):=by
 intro qq
 induction qq with
 |zero=>
  exact⟨fun h=>nn h,fun h=>nn h⟩
 |succ qq ih=>
  obtain⟨zTa,zDk⟩:=ih
  refine⟨?_,?_⟩
  intro p0 y3 v27 r h
  rw[eT]at h
  obtain⟨h5,h⟩|⟨h5,h⟩:=zU h
  obtain⟨x6,h7,h⟩:=zC h
  obtain⟨r8,h9,h⟩:=zC h
  have k:=oC 3 [] (zZB h9)<|oA 0 (zCb (o:=.no) h7)<|oB 0 h5 o0
  obtain⟨h10,h⟩|⟨h10,h⟩:=zU h
  cases h
  exact fun j=>lF 0 [] (oB 0 h10 k)
  obtain⟨r11,h12,h⟩:=zC h
  exact fun j=>lH 1 [] [0] [] [3,5,25,26,27,38,39,40] (oD (dI r11)<|oD (zF p0)<|oC 1 [] (zOn h12)<|oB 0 h10 k) (zDk h)
  cases h
  exact fun j=>lF 0 [] (oB 0 h5 o0)
  intro p0 y3 v27 r11 v40 r h
  rw[gW]at h
  obtain⟨h13,h⟩|⟨h13,h⟩:=zU h
  obtain⟨x14,h15,h⟩:=zC h
  have k:=oL 1 (zNZ y3 x14)<|oA 0 (nI (o:=.no) h15)<|oB 0 h13 o0
  obtain⟨h16,h⟩|⟨h16,h⟩:=zU h
  have k:=oB 1 h16 k
  obtain⟨h17,h⟩|⟨h17,h⟩:=zU h
  cases h
  exact fun j=>lF 0 [] (oB 0 h17 k)
  exact fun j=>lH 1 [] [0] [] [3,5,25,26,27,38,39,40] (oD (dI r11)<|oD (zF p0)<|oB 0 h17 k) (zDk h)
  exact fun j=>lH 1 [] [0] [] [3,5,25,26,27,38,39,40] (oD (dI r11)<|oD (zF p0)<|oB 1 h16 k) (zDk h)
  exact fun j=>lH 1 [] [0] [] [3,25,26,27] (oD (zF p0)<|oB 0 h13 o0) (zTa h)
theorem c96{qq p0 r}(h:e96 qq p0=some r):Ct 96 [] [zV zI p0 .no] (ab r) [] 0:=⟨by
 unfold e96 at h
 obtain⟨r1,h2,h⟩:=zC h
 rcases r1 with y5|y3
 dsimp only at h
 cases h
 exact tF q96 3 [] (oC 0 [] (zTb h2) o0)
 dsimp only at h
 have k:=oN 3 (zOz y3)<|oC 0 [] (zTb h2) o0
 obtain⟨h4,h⟩|⟨h4,h⟩:=zU h
 cases h
 exact tF q96 0 [] (oB 1 h4 k)
 exact tH q96 1 [] [0] [] [3,25,26,27] (oD (zF p0)<|oB 1 h4 k) ((zDl _).1 h),⟨⟨tv,zF _⟩,tv⟩,zB,tv,zB⟩
theorem m7(x k y:Int):∀m:List (Int×Int),fL (cT m x k) y=if y=x then some k else fL m y
 | []=>by
  simp only[cT,fL]
  by_cases h:y=x<;>simp[h]
 |p::m=>by
  simp only[cT]
  by_cases hx:(x==p.1)=true
  ·rw[if_pos hx]
   have hx':x=p.1:=by simpa using hx
   simp only[fL]
   by_cases h:y=x
   ·subst h;simp
   ·simp[h,show ¬y=p.1 by rw[←hx'];exact h]
  ·rw[if_neg hx]
   have hx':¬x=p.1:=by simpa using hx
   simp only[fL]
   by_cases h:y=p.1
   ·have:¬y=x:=fun e=>hx' (by rw[←e];exact h)
    simp[h,this]
    intro e;exact absurd e.symm hx'
   ·simp only[show (y==p.1)=false by simpa using h]
    exact m7 x k y m
theorem zGz(x k:Int):∀m:List (Int×Int),N8 m x=false->(cT m x k).length=m.length+1
 | [],_=>rfl
 |p::m,h=>by
  simp only[cT]
  by_cases hx:(x==p.1)=true
  ·unfold N8 at h;simp only[fL,hx,if_true]at h;cases h
  ·have h':N8 m x=false:=by unfold N8 at h ⊢;simpa only[fL,if_neg hx]using h
   rw[if_neg hx,List.length_cons,List.length_cons,zGz x k m h']
structure IxM (c:List zR) (m:List (Int×Int)) (v:Nat):Prop where
 ok:∀w∈c.take v,(0≤w.n_∧w.n_≤1048576)∧zH w.type_=true
 few:v≠0->c.length≤256
 len:m.length≤v
 at':m.length=v->∀(i:Nat) (x:zR),i<v->c[i]? = some x->fL m x.n_=some (i:Int)
theorem zBH(t:Tm)(h:zH t=true):zJ (fun q=>zMB q t) (mY t 0):=by
 simp only[zMB]
 have hs:=zO h
 exact(xN t (yB h)).bind (zJ.ifT h ((w7 t 0 hs.2.2 (by omega) (by omega)).bind zJ.ret))
theorem zMC(n:Int):zN (fun q=>zQe q n) fun b=>b=true->0≤n∧n≤1048576:=by
 simp only[zQe]
 exact zN.ite (fun h=>zN.ret fun h2=>⟨by simpa using h,by simpa using h2⟩) fun h=>zN.ret fun h=>(by cases h)
theorem W2{α:Type}{l r:List α}{x:α}{v:Nat}(hd:l.drop v=x::r):l[v]? = some x:=by
 have:=List.getElem?_drop (xs:=l) (i:=v) (j:=0)
 rw[hd]at this
 simpa using this.symm
theorem oX{α:Type}{l r:List α}{x:α}{v:Nat}(hd:l.drop v=x::r):l.take (v+1)=l.take v++[x]:=by
 rw[List.take_add_one,W2 hd];rfl
theorem gX{c:List zR}(hl:c.length≤17592186044416)(ho:∀v∈c,v.type_.Ok):∀(r:List zR) (v:Nat) (m:List (Int×Int)),c.drop v=r->v≤c.length->IxM c m v->zN (fun q=>kL q c (v:Int) m) fun x=>∀m',x = .inr m'->IxM c m' c.length
 | [],v,m,hd,hv,hI=>by
  refine zN.succ ?_
  simp only[kL]
  refine zN.ite (fun h=>?_) fun _=>zN.ret fun m' e=>?_
  ·rw[yH hd]at h;cases h
  ·have:v=c.length:=Nat.le_antisymm hv (List.drop_eq_nil_iff.1 hd)
   cases e
   rw[←this];exact hI
 |x::r,v,m,hd,hv,hI=>by
  have hlt:=yL hd
  have hx:x∈c:=List.mem_of_mem_drop (by rw[hd];simp)
  refine zN.succ ?_
  simp only[kL]
  refine zN.ite (fun _=>zN.pure (yD hd) ((zMC x.n_).bind fun b hb=>zN.ite (fun h1=>?_) fun _=>zN.ret fun m' e=>(by cases e))) fun h=>?_
  ·refine zN.bind (P:=fun b=>b=zH x.type_) ((xN x.type_ (ho x hx)).tot rfl) fun b2 hb2=>zN.ite (fun h2=>?_) fun _=>zN.ret fun m' e=>(by cases e)
   have hs:zH x.type_=true:=by rw[←hb2];exact h2
   refine zN.ite (fun _=>zN.ret fun m' e=>(by cases e)) fun h3=>?_
   have h256:c.length≤256:=by have:=of_decide_eq_false h3;omega
   have ok':∀w∈c.take (v+1),(0≤w.n_∧w.n_≤1048576)∧zH w.type_=true:=fun w hw=>by
    rw[oX hd]at hw
    rcases List.mem_append.1 hw with hw|hw
    ·exact hI.ok w hw
    ·rw[List.mem_singleton.1 hw];exact⟨hb h1,hs⟩
   refine zN.ite (fun h4=>?_) fun h4=>?_
   ·rw[yA v (by omega)]
    exact gX hl ho r (v+1) m (zY hd) hlt ⟨ok',fun _=>h256,Nat.le_succ_of_le hI.len,fun e=>absurd hI.len (by omega)⟩
   ·rw[yA v (by omega)]
    have h4':N8 m x.n_=false:=by simpa using h4
    have hlen:=zGz x.n_ (v:Int) m h4'
    refine gX hl ho r (v+1) _ (zY hd) hlt ⟨ok',fun _=>h256,by rw[hlen];exact Nat.succ_le_succ hI.len,fun e i y hi hy=>?_⟩
    rw[hlen]at e
    have e':m.length=v:=by omega
    rw[m7]
    rcases Nat.lt_or_ge i v with h5|h5
    ·have h6:=hI.at' e' i y h5 hy
     rw[if_neg fun h7=>?_]
     ·exact h6
     ·rw[←h7]at h4';unfold N8 at h4';rw[h6]at h4';cases h4'
    ·have:i=v:=by omega
     subst this
     rw[W2 hd]at hy
     cases hy
     rw[if_pos rfl]
  ·rw[yG hd]at h;cases h
def RtC(c:List zR)(v:Nat):Prop:=∀(i:Nat) (x:zR),i<v->c[i]? = some x->(∀j,¬j∈sF x.type_ 0)∧∀(j:Nat) (y:zR),i≤j->c[j]? = some y->¬y.n_∈nY x.type_
theorem m9{c:List zR}{m:List (Int×Int)}(v:Nat)(F:List Int)(hF:F.length≤17592186044416){P:Bool->Prop}
  (hA:∀(j:Nat) (y:zR),c[j]? = some y->fL m y.n_=some (j:Int)) (hP:P false)
  (K:(∀(j:Nat) (y:zR),v≤j->c[j]? = some y->¬y.n_∈F)->zN (fun q=>eT q c m (xL ((v:Int)+1))) P) :
  ∀(r:List Int) (k:Nat),F.drop k=r->(∀(j:Nat) (y:zR),v≤j->c[j]? = some y->¬y.n_∈F.take k)->zN (fun q=>gW q c m (v:Int) F (k:Int)) P
 | [],k,hd,hk=>by
  refine zN.succ ?_
  simp only[gW]
  refine zN.ite (fun h=>?_) fun _=>K fun j y h1 h2=>?_
  ·rw[yH hd]at h;cases h
  ·have:=hk j y h1 h2
   rwa[List.take_of_length_le (List.drop_eq_nil_iff.1 hd)]at this
 |n::r,k,hd,hk=>by
  have hlt:=yL hd
  have next:(∀(j:Nat) (y:zR),v≤j->c[j]? = some y->y.n_≠n)->zN (fun q=>gW q c m (v:Int) F (xL ((k:Int)+1))) P:=fun hn=>by
   rw[yA k (by omega)]
   refine m9 v F hF hA hP K r (k+1) (zY hd) fun j y h1 h2 h3=>?_
   rw[oX hd]at h3
   rcases List.mem_append.1 h3 with h3|h3
   ·exact hk j y h1 h2 h3
   ·exact hn j y h1 h2 (List.mem_singleton.1 h3)
  refine zN.succ ?_
  simp only[gW]
  refine zN.ite (fun _=>zN.pure (yD hd) (zN.ite (fun h1=>zN.ite (fun h2=>zN.ret hP) fun h2=>next fun j y h3 h4 e=>?_) fun h1=>next fun j y h3 h4 e=>?_)) fun h=>?_
  ·have:=hA j y h4
   rw[e]at this
   have h5:zHf m n=(j:Int):=by unfold zHf;rw[this]
   rw[h5]at h2
   have:=of_decide_eq_false h2
   omega
  ·have:=hA j y h4
   rw[e]at this
   unfold N8 at h1
   rw[this]at h1;cases h1
  ·rw[yG hd]at h;cases h
theorem j4{c:List zR}{m:List (Int×Int)}(hl:c.length≤256)(hs:∀v∈c,zH v.type_=true)(hA:∀(j:Nat) (y:zR),c[j]? = some y->fL m y.n_=some (j:Int)) :
  ∀(r:List zR) (v:Nat),c.drop v=r->RtC c v->zN (fun q=>eT q c m (v:Int)) fun b=>b=true->RtC c c.length
 | [],v,hd,hR=>by
  refine zN.succ ?_
  simp only[eT]
  refine zN.ite (fun h=>?_) fun _=>zN.ret fun _ i x hi hx=>?_
  ·rw[yH hd]at h;cases h
  ·have:=List.drop_eq_nil_iff.1 hd
   exact hR i x (by omega) hx
 |x::r,v,hd,hR=>by
  have hlt:=yL hd
  have hx:x∈c:=List.mem_of_mem_drop (by rw[hd];simp)
  have hsx:=hs x hx
  refine zN.succ ?_
  simp only[eT]
  refine zN.ite (fun _=>zN.pure (yD hd) (zN.bind (P:=fun k=>k=mY x.type_ 0) ((zBH x.type_ hsx).tot rfl) fun k hk=>zN.ite (fun _=>zN.ret fun h=>(by cases h)) fun h1=>?_)) fun h=>?_
  ·have h2:mY x.type_ 0≤0:=by rw[←hk];have:=of_decide_eq_false h1;omega
   refine zN.bind (P:=fun F=>F=vG (qL x.type_ 8 8)) ((eH x.type_ (yB hsx)).tot (by unfold eG;rw[if_pos hsx])) fun F hF=>?_
   have hcl:=mE x.type_ 8 8
   have hnn:=(zO hsx).1
   refine m9 v F (by rw[hF];have:=mV (qL x.type_ 8 8);omega) hA (fun h=>(by cases h)) (fun h3=>?_) _ 0 rfl fun j y _ _ h4=>(by simp at h4)
   rw[yA v (by omega)]
   refine j4 hl hs hA r (v+1) (zY hd) fun i y hi hy=>?_
   rcases Nat.lt_or_ge i v with h5|h5
   ·exact hR i y h5 hy
   ·have:i=v:=by omega
    subst this
    rw[W2 hd]at hy
    cases hy
    refine⟨(V9 hsx).1 h2,fun j y h6 h7 h8=>h3 j y h6 h7 ?_⟩
    rw[hF];exact(nJ _ _).2 h8
  ·rw[yG hd]at h;cases h
theorem bP{c:List zR}(hl:c.length≤17592186044416)(ho:∀v∈c,v.type_.Ok):zN (fun q=>e96 q c) fun b=>b=true->zFU c:=by
 simp only[e96,zMA]
 refine(gX hl ho c 0 [] rfl (Nat.zero_le _) ⟨fun w hw=>by simp at hw,fun h=>absurd rfl h,Nat.le_refl _,fun _ i x hi=>absurd hi (Nat.not_lt_zero _)⟩).bind fun x hx=>?_
 cases x with
 |inl _=>exact zN.ret fun h=>(by cases h)
 |inr m=>
  have hI:=hx m rfl
  refine zN.ite (fun _=>zN.ret fun h=>(by cases h)) fun h1=>?_
  have hm:m.length=c.length:=by have:=(by simpa using h1:(m.length:Int)=c.length);omega
  have hA:∀(j:Nat) (y:zR),c[j]? = some y->fL m y.n_=some (j:Int):=fun j y hy=>hI.at' hm j y (List.getElem?_eq_some_iff.1 hy).1 hy
  have hok:∀w∈c,(0≤w.n_∧w.n_≤1048576)∧zH w.type_=true:=fun w hw=>hI.ok w (by rw[List.take_length];exact hw)
  have h256:c.length≤256:=by
   rcases Nat.eq_zero_or_pos c.length with h|h
   ·omega
   ·exact hI.few (by omega)
  refine(j4 h256 (fun v hv=>(hok v hv).2) hA c 0 rfl fun i x hi=>absurd hi (Nat.not_lt_zero _)).mono fun b hb h=>?_
  have hR:=hb h
  refine⟨h256,fun v hv=>?_,?_,fun v hv=>?_,?_⟩
  ·obtain⟨i,hi,e⟩:=List.getElem_of_mem hv
   exact⟨(hok v hv).1.1,(hok v hv).1.2,(hok v hv).2,(hR i v hi (by rw[←e];exact List.getElem?_eq_getElem hi)).1⟩
  ·rw[List.nodup_iff_pairwise_ne,List.pairwise_map,List.pairwise_iff_getElem]
   intro i j hi hj hij e
   have h1:=hA i _ (List.getElem?_eq_getElem hi)
   have h2:=hA j _ (List.getElem?_eq_getElem hj)
   rw[e,h2]at h1
   injection h1 with h1
   omega
  ·obtain⟨i,hi,e⟩:=List.getElem_of_mem hv
   have hi':c[i]? = some v:=by rw[←e];exact List.getElem?_eq_getElem hi
   exact(hR i v hi hi').2 i v (Nat.le_refl _) hi'
  ·rw[List.pairwise_iff_getElem]
   intro i j hi hj hij
   exact(hR i _ hi (List.getElem?_eq_getElem hi)).2 j _ (Nat.le_of_lt hij) (List.getElem?_eq_getElem hj)
def gY:Nat->zZ->Int->Int->Option Int
 |0,_,_,_=>none
 |qq+1,p0,p1,v8=>
 if decide (v8<(p0.length:Int))then
 zW p0 v8>>=fun x2=>
 if p1==x2 then
 some v8
 else
 gY qq p0 p1 (xL (v8+1))
 else
 some (-1)
def zTA(qq:Nat)(p0:zZ)(p1:Int):Option Int:=
 gY qq p0 p1 0
theorem zTB:∀qq:Nat,(∀ {p0 p1 v8 r},gY qq p0 p1 v8=some r->(∀j,dL 0 (pt 949 f124) (sp j 19 0 [(0,zV yC p0 .no),(1,ai p1),(7,ai (p0.length:Int)),(8,ai v8)]) (⟨[],0,[],0,[]⟩) (fQ 0 (nQ 0 f124 (ai r) [] 0) [.blk 0,.seq (pt 15 f124)]))):=by
 intro qq
 induction qq with
 |zero=>
  exact fun h=>nn h
 |succ qq ih=>
  intro p0 p1 v8 r h
  rw[gY]at h
  obtain⟨h1,h⟩|⟨h1,h⟩:=zU h
  obtain⟨x2,h3,h⟩:=zC h
  have k:=oA 0 (nI (o:=.no) h3)<|oB 0 h1 o0
  obtain⟨h4,h⟩|⟨h4,h⟩:=zU h
  obtain rfl:=sj h
  exact fun j=>lF 0 [] (oB 1 h4 k)
  exact fun j=>lH 1 [] [] [] [0,1,7,8] (oD (dI p0)<|oB 1 h4 k) (ih h)
  obtain rfl:=sj h
  exact fun j=>lF 0 [] (oB 0 h1 o0)
theorem yBR{qq p0 p1 r}(h:zTA qq p0 p1=some r):Ct 124 [] [zV yC p0 .no,ai p1] (ai r) [] 0:=⟨by
 unfold zTA at h
 exact tH ⟨func124,rfl⟩ 1 [] [] [] [0,1,7,8] (oD (dI p0) o0) (zTB _ h),⟨⟨tv,dI _⟩,tv,tv⟩,zB,tv,zB⟩
def zKw(qq:Nat)(p0:xR):Option Unit:=
 some ()
theorem zTC{qq p0 r}(h:zKw qq p0=some r):Ct 130 [] [zV zI p0 .nl] (zV zI ([]:xR) .full) [] 0:=⟨by
 unfold zKw at h
 cases h
 exact tG ⟨func130,rfl⟩ 1 [] [] [] true (oD (zF ([]:xR)) o0),⟨⟨tv,zF _⟩,tv⟩,zB,zF _,zB⟩
def zDj(qq:Nat)(p0:xR):Option ((Unit) ⊕ xR):=
 if decide (List.length p0=0)then
 some (.inl ())
 else
 xF 48 ([]:xR) p0>>=fun l2=>
 some (.inr l2)
abbrev zMD (p0:xR) (C:Cf):Prop:=C 130 [] [zV zI p0 .nn] (zV zI ([]:xR) .full) [] 0
abbrev zME (p0 r:xR) (C:Cf):Prop:=C 130 [] [zV zI p0 .nn] (.ms 0 0 r.length r.length 4) [.row (zG zI r)] 0
theorem zKv:Qf 130 f130:=⟨func130,rfl⟩
theorem zKu{qq p0 r}(h:zDj qq p0=some r):(match (generalizing:=false) r with | .inl x=>zMD p0 Ct | .inr x=>zME p0 x Ct):=by
 unfold zDj at h
 obtain⟨h1,h⟩|⟨h1,h⟩:=zU h
 cases h
 exact⟨tG zKv 0 [] [] [] true (oD (zF ([]:xR))<|oQ 2 (zXU (of_decide_eq_true h1)) o0),⟨⟨tv,zF _⟩,tv⟩,zB,zF _,zB⟩
 obtain⟨l2,h3,h⟩:=zC h
 cases h
 exact⟨tF zKv 0 [0] (oD (zF l2)<|oM 2 (zXZ h3 (of_decide_eq_false h1)) o0),⟨⟨tv,zF _⟩,tv⟩,zB,(lz rfl),(zA (zF _) zB)⟩
def zDi(qq:Nat)(p0:xR):Option (Unit ⊕ xR):=if decide (List.length p0=0)=true then some (.inl ())else(xF 48 [] p0)>>=fun r=>some (.inr r)
theorem zQd{qq:Nat}{p0:xR}{r:Unit ⊕ xR}(h:zDi qq p0=some r):(match (generalizing:=false) r with | .inl _=>CT prog 130 [] [.sl (zG zI p0) p0.length .no] (.sl (zG zI ([]:xR)) (List.length ([]:xR)) .full) [] 0 | .inr x=>CT prog 130 [] [.sl (zG zI p0) p0.length .no] (.ms 0 0 x.length x.length 4) [.row (zG zI x)] 0):=by
 unfold zDi at h
 obtain⟨h1,h⟩|⟨h1,h⟩:=zU h
 ·obtain rfl:=sj h
  have hp:p0=[]:=List.length_eq_zero_iff.1 (of_decide_eq_true h1)
  subst hp
  have k0:=zTC (qq:=qq) (p0:=[]) (r:=()) rfl
  have k1:=zKu (qq:=qq) (p0:=[]) (r:=.inl ()) rfl
  exact⟨tU.nilcase (fun _=>k0.tri) k1.tri,⟨⟨trivial,zF _⟩,trivial⟩,(fun _ h=>nomatch h),zF _,(fun _ h=>nomatch h)⟩
 ·obtain⟨x,h2,h⟩:=zC h
  cases h
  have k1:=zKu (qq:=qq) (p0:=p0) (r:=.inr x) (by unfold zDj;rw[if_neg (by rw[h1];decide),h2];rfl)
  refine⟨tU.nilcase (fun hn=>?_) k1.tri,⟨⟨trivial,zF _⟩,trivial⟩,(fun _ h=>nomatch h),(show 0<1 by decide),zA (zF _) zB⟩
  have hp:p0=[]:=Z0 wL (by decide) hn
  subst hp
  cases h1
def e94(qq:Nat)(p0:zZ)(p1:Int):Option Bool:=
 zTA qq p0 p1>>=fun r1=>
 some (decide (r1≥0))
theorem c94{qq p0 p1 r}(h:e94 qq p0 p1=some r):Ct 94 [] [zV yC p0 .no,ai p1] (ab r) [] 0:=⟨by
 unfold e94 at h
 obtain⟨r1,h2,h⟩:=zC h
 cases h
 exact tF ⟨func94,rfl⟩ 1 [] (oC 0 [] (yBR h2) o0),⟨⟨tv,dI _⟩,tv,tv⟩,zB,tv,zB⟩
def I3(qq:Nat)(p0:zR)(q1:zZ):Option Bool:=
 e94 qq q1 p0.n_>>=fun r1=>
 some r1
theorem zGy{qq p0 q1 r}(h:I3 qq p0 q1=some r):Ct 223 [.cells [zV yC q1 .no]] [zNT p0,.mp 0 0] (ab r) [.cells [zV yC q1 .no]] 0:=⟨by
 unfold I3 at h
 obtain⟨r1,h2,h⟩:=zC h
 obtain rfl:=sj h
 exact tF ⟨func223,rfl⟩ 0 [0] (oD (dI q1)<|oC 2 [] (c94 h2) o0),⟨⟨tv,tv,tv,⟨tv,dT _⟩,tv⟩,(lz rfl),tv⟩,(zA ⟨⟨tv,dI _⟩,tv⟩ zB),tv,(zA ⟨dI _,tv⟩ zB)⟩
def rO:Nat->xR->Nat->Nat->zZ->Int->Option Int
 |0,_,_,_,_,_=>none
 |qq+1,q0,q1,q2,q3,v8=>
 if decide (v8<(q1:Int))then
 iM q1 v8>>=fun x2=>
 zW q0 (x2:Int)>>=fun x4=>
 I3 qq (zR.mk x4.n_ x4.type_) q3>>=fun r6=>
 if r6 then
 some v8
 else
 rO qq q0 q1 q2 q3 (xL (v8+1))
 else
 some (-1)
def I4(qq:Nat)(q0:xR)(q1 q2:Nat)(q3:zZ):Option Int:=
 rO qq q0 q1 q2 q3 0
theorem zGx:∀qq:Nat,(∀ {q0 q1 q2 q3 v8 r},rO qq q0 q1 q2 q3 v8=some r->(∀j,dL 2 (pt 949 f230) (sp j 19 0 [(0,.ms 0 0 q1 q2 4),(1,.clo 223 [] [.mp 1 0]),(7,ai (q1:Int)),(8,ai v8)]) (⟨[(0,.row (zG zI q0)),(1,.cells [zV yC q3 .no])],2,[],0,[]⟩) (fQ 2 (nQ 2 f230 (ai r) [.row (zG zI q0),.cells [zV yC q3 .no]] 0) [.blk 0,.seq (pt 15 f230)]))):=by
 intro qq
 induction qq with
 |zero=>
  exact fun h=>nn h
 |succ qq ih=>
  intro q0 q1 q2 q3 v8 r h
  rw[rO]at h
  have z {os ob} (k:Oz os ob):=oD (dI q3)<|oD (zF q0)<|k
  obtain⟨h1,h⟩|⟨h1,h⟩:=zU h
  obtain⟨x2,h3,h⟩:=zC h
  obtain⟨x4,h5,h⟩:=zC h
  obtain⟨r6,h7,h⟩:=zC h
  have k:=oG (a:=(.agg [ai x4.n_,ai x4.type_.k,ai x4.type_.n,zV zD x4.type_.sub .no])) 0 (ldE wL h5 (true,4) (val:=.agg [ai x4.n_,ai x4.type_.k,ai x4.type_.n,zV zD x4.type_.sub .no]) rfl)<|oA 0 (zJp (b:=0) (c:=q2) (z:=4) h3)<|oB 0 h1 o0
  obtain⟨h8,h⟩|⟨h8,h⟩:=zU h
  obtain rfl:=sj h
  exact fun j=>lF 0 [0,1] (z<|oK 0 [1] h8 (zGy h7) k)
  exact fun j=>lH 1 [] [0,1] [] [0,1,7,8] (z<|oK 0 [1] h8 (zGy h7) k) (ih h)
  obtain rfl:=sj h
  exact fun j=>lF 0 [0,1] (z<|oB 0 h1 o0)
theorem zQc{qq q0 q1 q2 q3 r}(h:I4 qq q0 q1 q2 q3=some r):Ct 230 [.row (zG zI q0),.cells [zV yC q3 .no]] [.ms 0 0 q1 q2 4,.clo 223 [] [.mp 1 0]] (ai r) [.row (zG zI q0),.cells [zV yC q3 .no]] 0:=⟨by
 unfold I4 at h
 exact tH ⟨func230,rfl⟩ 1 [] [0,1] [] [0,1,7,8] (oD (dI q3)<|oD (zF q0) o0) (zGx _ h),⟨(lz rfl),⟨tv,⟨(lz rfl),tv⟩⟩,tv⟩,(zA (zF _) (zA ⟨⟨tv,dI _⟩,tv⟩ zB)),tv,(zA (zF _) (zA ⟨dI _,tv⟩ zB))⟩
def I5(qq:Nat)(q0:xR)(q1 q2:Nat)(q3:zZ):Option Bool:=
 I4 qq q0 q1 q2 q3>>=fun r1=>
 some (decide (r1≥0))
theorem zGw{qq q0 q1 q2 q3 r}(h:I5 qq q0 q1 q2 q3=some r):Ct 222 [.row (zG zI q0),.cells [zV yC q3 .no]] [.ms 0 0 q1 q2 4,.clo 223 [] [.mp 1 0]] (ab r) [.row (zG zI q0),.cells [zV yC q3 .no]] 0:=⟨by
 unfold I5 at h
 obtain⟨r1,h2,h⟩:=zC h
 cases h
 exact tF ⟨func222,rfl⟩ 1 [0,1] (oD (dI q3)<|oD (zF q0)<|oC 0 [0,1] (zQc h2) o0),⟨(lz rfl),⟨tv,⟨(lz rfl),tv⟩⟩,tv⟩,(zA (zF _) (zA ⟨⟨tv,dI _⟩,tv⟩ zB)),tv,(zA (zF _) (zA ⟨dI _,tv⟩ zB))⟩
def rP:Nat->xR->Nat->Nat->Int->Option Int
 |0,_,_,_,_=>none
 |qq+1,q0,q1,q2,v9=>
 if decide (v9<(q1:Int))then
 iM q1 v9>>=fun x2=>
 zW q0 (x2:Int)>>=fun x4=>
 zCC qq x4.type_>>=fun r6=>
 I5 qq q0 q1 q2 r6>>=fun r8=>
 if r8 then
 rP qq q0 q1 q2 (xL (v9+1))
 else
 some v9
 else
 some (-1)
def I6(qq:Nat)(q0:xR)(q1 q2:Nat):Option Int:=
 rP qq q0 q1 q2 0
theorem zGv:∀qq:Nat,(∀ {q0 q1 q2 v9 r},rP qq q0 q1 q2 v9=some r->(∀j,dL 1 (pt 949 f203) (sp j 24 0 [(0,.ms 0 0 q1 q2 4),(7,.ms 0 0 q1 q2 4),(8,ai (q1:Int)),(9,ai v9)]) (⟨[(0,.row (zG zI q0))],1,[],0,[]⟩) (fQ 1 (nQ 1 f203 (ai r) [.row (zG zI q0)] 0) [.blk 0,.seq (pt 15 f203)]))):=by
 intro qq
 induction qq with
 |zero=>
  exact fun h=>nn h
 |succ qq ih=>
  intro q0 q1 q2 v9 r h
  rw[rP]at h
  obtain⟨h1,h⟩|⟨h1,h⟩:=zU h
  obtain⟨x2,h3,h⟩:=zC h
  obtain⟨x4,h5,h⟩:=zC h
  obtain⟨r6,h7,h⟩:=zC h
  obtain⟨r8,h9,h⟩:=zC h
  have k:=oC 2 [] (zOn h7)<|oG (a:=(.agg [ai x4.n_,ai x4.type_.k,ai x4.type_.n,zV zD x4.type_.sub .no])) 0 (ldE wL h5 (true,4) (val:=.agg [ai x4.n_,ai x4.type_.k,ai x4.type_.n,zV zD x4.type_.sub .no]) rfl)<|oA 0 (zJp (b:=0) (c:=q2) (z:=4) h3)<|oB 0 h1 o0
  obtain⟨h10,h⟩|⟨h10,h⟩:=zU h
  exact fun j=>lH 2 [] [0] [] [0,7,8,9] (oD (zF q0)<|oK 1 [0,2] h10 (zGw h9) k) (ih h)
  obtain rfl:=sj h
  exact fun j=>lF 1 [0] (oD (zF q0)<|oK 1 [0,2] h10 (zGw h9) k)
  obtain rfl:=sj h
  exact fun j=>lF 0 [0] (oD (zF q0)<|oB 0 h1 o0)
theorem zQb{qq q0 q1 q2 r}(h:I6 qq q0 q1 q2=some r):Ct 203 [.row (zG zI q0)] [.ms 0 0 q1 q2 4] (ai r) [.row (zG zI q0)] 0:=⟨by
 unfold I6 at h
 exact tH ⟨func203,rfl⟩ 1 [] [0] [] [0,7,8,9] (oD (zF q0) o0) (zGv _ h),⟨(lz rfl),tv⟩,(zA (zF _) zB),tv,(zA (zF _) zB)⟩
def eU(qq:Nat)(q0:xR)(q1 q2:Nat)(p1 p2:Int):Option (xR×Nat×Nat):=
 kT q1 p1 p2>>=fun x1=>
 if p1==p2 then
 some (q0,q1,q2)
 else
 kT q2 0 p1>>=fun x4=>
 kT q1 p2 (q1:Int)>>=fun x6=>
 bH q0 (0+x6.1) x6.2>>=fun m8=>
 zLi q2 x4.2 q0 m8>>=fun l10=>
 kT q2 ((x4.2+x6.2):Int) (q1:Int)>>=fun x12=>
 gle l10.length (0+x12.1)>>=fun x14=>
 some (l10,(x4.2+x6.2),q2)
theorem zGu:Qf 204 f204:=⟨func204,rfl⟩
theorem zQa{qq q0 q1 q2 p1 p2 r}(h:eU qq q0 q1 q2 p1 p2=some r):Ct 204 [.row (zG zI q0)] [.ms 0 0 q1 q2 4,ai p1,ai p2] (.ms 0 0 r.2.1 r.2.2 4) [.row (zG zI r.1)] 0:=⟨by
 unfold eU at h
 obtain⟨x1,h2,h⟩:=zC h
 have k:=oA 1 (zRT (b:=0) (o:=0) (c:=q2) h2) o0
 obtain⟨h3,h⟩|⟨h3,h⟩:=zU h
 cases h
 exact tF zGu 0 [0] (oD (zF q0)<|oB 0 h3 k)
 obtain⟨x4,h5,h⟩:=zC h
 obtain⟨x6,h7,h⟩:=zC h
 obtain⟨m8,h9,h⟩:=zC h
 obtain⟨l10,h11,h⟩:=zC h
 obtain⟨x12,h13,h⟩:=zC h
 obtain⟨x14,h15,h⟩:=zC h
 cases h
 exact tF zGu 0 [0] (oD (zF l10)<|oR 0 (zYy h15)<|oA 1 (zYt (b:=0) (o:=0) (n:=(x4.2+x6.2)) h13)<|oI 0 (zVs h9 h11)<|oA 0 (zLd (b:=0) (o:=0) (c:=q2) h7)<|oA 1 (zRU (b:=0) (off:=0) (n:=q1) h5)<|oB 0 h3 k),⟨(lz rfl),tv,tv,tv⟩,(zA (zF _) zB),(lz rfl),(zA (zF _) zB)⟩
def kM:Nat->xR->Nat->Nat->xR->Option (xR×Int)
 |0,_,_,_,_=>none
 |qq+1,v6,v7_c,v7_n,yE=>
 if decide ((v7_n:Int)>0)then
 I6 qq yE v7_n v7_c>>=fun r9=>
 if decide (r9<0)then
 some ([],3)
 else
 iM v7_n r9>>=fun x12=>
 zW yE (x12:Int)>>=fun x14=>
 e53 qq x14.type_>>=fun r16=>
 xF 48 v6 [(zR.mk x14.n_ r16)]>>=fun l18=>
 eU qq yE v7_n v7_c r9 (xL (r9+1))>>=fun r20=>
 kM qq l18 r20.2.2 r20.2.1 r20.1
 else
 some (v6,0)
def zQA(qq:Nat)(p0:xR):Option (xR×Int):=
 zMA qq p0>>=fun r1=>
 match r1 with
 | .inl y9=>
  some ([],5)
 | .inr y3=>
  if (y3.length:Int) != (p0.length:Int)then
  some ([],4)
  else
  zDi qq p0>>=fun r5=>
  match r5 with
  | .inl y7=>
   kM qq [] (List.length ([]:xR)) (List.length ([]:xR)) ([]:xR)
  | .inr y8=>
   kM qq [] y8.length y8.length y8
theorem zTD:Qf 169 f169:=⟨func169,rfl⟩
theorem zKt:∀qq:Nat,(∀ {v6 v7_c v7_n yE r},kM qq v6 v7_c v7_n yE=some r->(∀j,dL 0 (pt 262069 f169) (sp j 51 0 [(6,zV zI v6 (.st 0 4)),(7,.ms 0 0 v7_n v7_c 4)]) (⟨[(0,.row (zG zI yE))],1,[0],1,[]⟩) (fQ 0 (nQ 0 f169 (.tup [.sl (zG zI r.1) r.1.length .no,ai r.2]) [] 0) [.blk 0,.seq (pt 4095 f169)]))):=by
 intro qq
 induction qq with
 |zero=>
  exact fun h=>nn h
 |succ qq ih=>
  intro v6 v7_c v7_n yE r h
  rw[kM]at h
  obtain⟨h8,h⟩|⟨h8,h⟩:=zU h
  obtain⟨r9,h10,h⟩:=zC h
  have k:=oC 0 [0] (zQb h10)<|oB 1 h8 o0
  obtain⟨h11,h⟩|⟨h11,h⟩:=zU h
  cases h
  exact fun j=>lF 0 [] (oD (zF ([]:xR))<|oB 0 h11 k)
  obtain⟨x12,h13,h⟩:=zC h
  obtain⟨x14,h15,h⟩:=zC h
  obtain⟨r16,h17,h⟩:=zC h
  obtain⟨l18,h19,h⟩:=zC h
  obtain⟨r20,h21,h⟩:=zC h
  exact fun j=>lH 0 [] [0] [1] [6,7] (oD (zF l18)<|oD (zF r20.1)<|oC 1 [0] (zQa h21)<|oP 1 (zUo h19 (by simp))<|oC 0 [] (c53 h17)<|oG (a:=(.agg [ai x14.type_.k,ai x14.type_.n,zV zD x14.type_.sub .no])) 0 (ldF wL h15 1 (true,3) (val:=.agg [ai x14.type_.k,ai x14.type_.n,zV zD x14.type_.sub .no]) rfl)<|oA 0 (zJp (b:=0) (c:=v7_c) (z:=4) h13)<|oG (a:=(ai x14.n_)) 0 (ldE wL h15 (false,1) (val:=ai x14.n_) rfl)<|oA 0 (zJp (b:=0) (c:=v7_c) (z:=4) h13)<|oB 0 h11 k) (ih h)
  cases h
  exact fun j=>lF 0 [] (oD (zF v6)<|oB 1 h8 o0)
theorem yBS{qq p0 r}(h:zQA qq p0=some r):Ct 169 [] [zV zI p0 .no] (.tup [.sl (zG zI r.1) r.1.length .no,ai r.2]) [] 0:=⟨by
 unfold zQA at h
 obtain⟨r1,h2,h⟩:=zC h
 rcases r1 with y9|y3
 dsimp only at h
 cases h
 exact tF zTD 3 [] (oD (zF ([]:xR))<|oC 0 [] (zTb h2) o0)
 dsimp only at h
 have k:=oN 3 (zOz y3)<|oC 0 [] (zTb h2) o0
 obtain⟨h4,h⟩|⟨h4,h⟩:=zU h
 cases h
 exact tF zTD 0 [] (oD (zF ([]:xR))<|oB 1 h4 k)
 obtain⟨r5,h6,h⟩:=zC h
 have k:=oB 1 h4 k
 rcases r5 with y7|y8
 dsimp only at h
 exact tH zTD 0 [(none,7,4100),(none,6,4)] [1] [0] [6,7] (oD (zF ([]:xR))<|oD (zF ([]:xR))<|oC 0 [] (zQd h6) k) (zKt _ h)
 dsimp only at h
 exact tH zTD 0 [(none,6,4)] [1] [0] [6,7] (oD (zF ([]:xR))<|oD (zF y8)<|oC 0 [] (zQd h6) k) (zKt _ h),⟨⟨tv,zF _⟩,tv⟩,zB,⟨zF _,tv,tv⟩,zB⟩
theorem j5(L:List Int)(n:Int)(hl:L.length≤17592186044416):∀(r:List Int) (v:Nat),L.drop v=r->zN (fun q=>gY q L n (v:Int)) fun k=>(0≤k↔n∈r)
 | [],v,hd=>by
  refine zN.succ ?_
  simp only[gY]
  refine zN.ite (fun h=>?_) fun _=>zN.ret (by simp)
  rw[yH hd]at h;cases h
 |x::r,v,hd=>by
  have hlt:=yL hd
  refine zN.succ ?_
  simp only[gY]
  refine zN.ite (fun _=>zN.pure (yD hd) (zN.ite (fun e=>zN.ret ?_) fun e=>?_)) fun h=>?_
  ·have e':n=x:=by simpa using e
   exact⟨fun _=>by rw[e'];simp,fun _=>by omega⟩
  ·have e':¬n=x:=by simpa using e
   rw[yA v (by omega)]
   exact(j5 L n hl r (v+1) (zY hd)).mono fun k hk=>by rw[hk,List.mem_cons];exact⟨.inr,fun h=>h.resolve_left e'⟩
  ·rw[yG hd]at h;cases h
theorem j6(L:List Int)(n:Int)(hl:L.length≤17592186044416):zN (fun q=>e94 q L n) fun b=>(b=true↔n∈L):=by
 simp only[e94,zTA]
 exact(j5 L n hl L 0 rfl).bind fun k hk=>zN.ret (by rw[decide_eq_true_eq];exact hk)
theorem lM{n:Nat}{v:Nat}(h:v<n):iM n (v:Int)=some v:=by unfold iM;rw[if_pos (by omega)];simp
theorem zBI(L:List zR)(cap:Nat)(F:List Int)(hF:F.length≤17592186044416)(hl:L.length≤17592186044416):∀(r:List zR) (v:Nat),L.drop v=r->zN (fun q=>rO q L L.length cap F (v:Int)) fun k=>(0≤k ↔ ∃x∈r,x.n_∈F)
 | [],v,hd=>by
  refine zN.succ ?_
  simp only[rO]
  refine zN.ite (fun h=>?_) fun _=>zN.ret (by simp)
  rw[yH hd]at h;cases h
 |x::r,v,hd=>by
  have hlt:=yL hd
  refine zN.succ ?_
  simp only[rO,I3]
  refine zN.ite (fun _=>zN.pure (lM hlt) (zN.pure (yD hd) (((j6 F x.n_ hF).bind fun b hb=>zN.ret hb).bind fun b hb=>zN.ite (fun e=>zN.ret ?_) fun e=>?_))) fun h=>?_
  ·exact⟨fun _=>⟨x,by simp,hb.1 e⟩,fun _=>by omega⟩
  ·rw[yA v (by omega)]
   refine(zBI L cap F hF hl r (v+1) (zY hd)).mono fun k hk=>?_
   rw[hk]
   refine⟨fun⟨y,h1,h2⟩=>⟨y,List.mem_cons_of_mem _ h1,h2⟩,fun⟨y,h1,h2⟩=>?_⟩
   rcases List.mem_cons.1 h1 with rfl|h1
   ·rw[hb.2 h2]at e;cases e
   ·exact⟨y,h1,h2⟩
  ·rw[yG hd]at h;cases h
theorem j7(L:List zR)(cap:Nat)(hl:L.length≤17592186044416)(hs:∀x∈L,zH x.type_=true):∀(r:List zR) (v:Nat),L.drop v=r->zN (fun q=>rP q L L.length cap (v:Int)) fun k=>k<0∨∃(i:Nat) (x:zR),k=(i:Int)∧L[i]? = some x∧∀y∈L,¬y.n_∈nY x.type_
 | [],v,hd=>by
  refine zN.succ ?_
  simp only[rP]
  refine zN.ite (fun h=>?_) fun _=>zN.ret (.inl (by decide))
  rw[yH hd]at h;cases h
 |x::r,v,hd=>by
  have hlt:=yL hd
  have hsx:=hs x (List.mem_of_mem_drop (by rw[hd];simp))
  have hcl:=mE x.type_ 8 8
  have hnn:=(zO hsx).1
  have hrl:=mV (qL x.type_ 8 8)
  refine zN.succ ?_
  simp only[rP,I5,I4]
  refine zN.ite (fun _=>zN.pure (lM hlt) (zN.pure (yD hd) (zN.bind (P:=fun F=>F=vG (qL x.type_ 8 8)) ((eH x.type_ (yB hsx)).tot (by unfold eG;rw[if_pos hsx])) fun F hF=>?_))) fun h=>?_
  ·refine zN.bind (P:=fun b=>(b=true ↔ ∃y∈L,y.n_∈F)) ((zBI L cap F (by rw[hF];omega) hl L 0 rfl).bind fun k hk=>zN.ret (by rw[decide_eq_true_eq];exact hk)) fun b hb=>zN.ite (fun _=>?_) fun e=>zN.ret (.inr ⟨v,x,rfl,W2 hd,fun y hy h=>?_⟩)
   ·rw[yA v (by omega)]
    exact j7 L cap hl hs r (v+1) (zY hd)
   ·rw[hb.2 ⟨y,hy,by rw[hF];exact(nJ _ _).2 h⟩]at e;cases e
  ·rw[yG hd]at h;cases h
theorem eV{n a b:Nat}(h1:a≤b)(h2:b≤n):kT n (a:Int) (b:Int)=some (a,b-a):=by
 unfold kT
 rw[if_pos (by omega)]
 congr 1
 exact Prod.ext (by simp) (by show ((b:Int)-a).toNat=b-a;omega)
theorem zIh(L:List zR)(cap i:Nat)(hi:i<L.length)(hc:L.length≤cap):zJ (fun q=>eU q L L.length cap (i:Int) ((i+1:Nat):Int)) (L.eraseIdx i,L.length-1,cap):=by
 simp only[eU]
 refine zJ.pure (eV (Nat.le_succ i) hi) (zJ.ifF (by simp;omega) (zJ.pure (show kT cap (0:Int) (i:Int)=some (0,i)from eV (a:=0) (Nat.zero_le i) (by omega)) (zJ.pure (eV (a:=i+1) (b:=L.length) hi (Nat.le_refl _)) ?_)))
 have e1:(L.drop (i+1)).take (L.length-(i+1))=L.drop (i+1):=List.take_of_length_le (by rw[List.length_drop];exact Nat.le_refl _)
 refine zJ.pure (a:=L.drop (i+1)) (by unfold bH;show (if 0+(i+1)+(L.length-(i+1))≤L.length then _ else _)=_;rw[if_pos (by omega)];show some ((L.drop (0+(i+1))).take (L.length-(i+1)))=_;rw[Nat.zero_add,e1]) ?_
 refine zJ.pure (a:=L.eraseIdx i) (by unfold zLi;show (if i+(L.drop (i+1)).length≤cap∧i≤L.length then some (L.take i++L.drop (i+1))else none)=_;rw[if_pos (by rw[List.length_drop];omega),List.eraseIdx_eq_take_drop_succ]) ?_
 have e2:i+(L.length-(i+1))=L.length-1:=by omega
 refine zJ.pure (a:=(L.length-1,1)) (by show kT cap ((i+(L.length-(i+1)):Nat):Int) (L.length:Int)=_;rw[e2,eV (by omega) hc];congr 2;omega) ?_
 refine zJ.pure (a:=()) (by unfold gle;rw[if_pos (by rw[List.length_eraseIdx_of_lt hi];show L.length-1≤0+(L.length-1);omega)]) ?_
 exact zJ.ret.eq (by show (L.eraseIdx i,i+(L.length-(i+1)),cap)=_;rw[e2])
structure zTE (out L:List zR):Prop where
 pw:out.Pairwise fun v w=>¬w.n_∈nY v.type_
 self:∀v∈out,¬v.n_∈nY v.type_
 rest:∀v∈out,∀w∈L,¬w.n_∈nY v.type_
theorem T4{α:Type}:∀ {L:List α} {i:Nat} (hi:i<L.length),(L[i]::L.eraseIdx i).Perm L
 |a::l,0,_=>List.Perm.refl _
 |a::l,i+1,h=>(List.Perm.swap a (l[i]'(Nat.lt_of_succ_lt_succ h)) (l.eraseIdx i)).trans (List.Perm.cons a (T4 (Nat.lt_of_succ_lt_succ h)))
theorem zQB(x:zR):zR.mk x.n_ x.type_=x:=by cases x;rfl
theorem P7(cap:Nat):∀(m:Nat) (L out:List zR),L.length=m->L.length≤cap->out.length+L.length≤1048576->(∀x∈L,zH x.type_=true)->zTE out L->zN (fun q=>kM q out cap L.length L) fun r=>r.2=0->r.1.Perm (out++L)∧zTE r.1 []
 |0,L,out,hm,hc,hb,hs,hO=>by
  have hL:L=[]:=List.length_eq_zero_iff.1 hm
  subst hL
  refine zN.succ ?_
  simp only[kM]
  exact zN.ite (fun h=>absurd (of_decide_eq_true h) (by simp)) fun _=>zN.ret fun _=>⟨by simp,hO⟩
 |m+1,L,out,hm,hc,hb,hs,hO=>by
  refine zN.succ ?_
  simp only[kM,I6]
  refine zN.ite (fun _=>(j7 L cap (by omega) hs L 0 rfl).bind fun k hk=>zN.ite (fun _=>zN.ret fun h=>absurd h (by show ¬(3:Int)=0;decide)) fun h=>?_) fun h=>absurd (of_decide_eq_false h) (by omega)
  have h':=of_decide_eq_false h
  obtain⟨i,x,rfl,hx,hw⟩:=hk.resolve_left h'
  obtain⟨hi,ex⟩:=List.getElem?_eq_some_iff.1 hx
  have hxm:x∈L:=ex▸List.getElem_mem hi
  refine zN.pure (lM hi) (zN.pure (a:=x) (by unfold zW;simp[hx]) ?_)
  have hsx:=hs x hxm
  refine zN.bind (P:=fun t=>t=x.type_) ((qK x.type_ (yB hsx)).tot (by unfold lV;rw[if_pos hsx])) fun t ht=>?_
  rw[ht,zQB]
  refine zN.pure (yK (by simp;omega)) ?_
  rw[yA i (by omega)]
  refine zN.bind (P:=fun r=>r=(L.eraseIdx i,L.length-1,cap)) ((zIh L cap i hi hc).tot rfl) fun r hr=>?_
  subst hr
  have hlen:(L.eraseIdx i).length=L.length-1:=List.length_eraseIdx_of_lt hi
  have hsub:∀y∈L.eraseIdx i,y∈L:=fun y hy=>(List.eraseIdx_sublist L i).subset hy
  have:=P7 cap m (L.eraseIdx i) (out++[x]) (by omega) (by omega) (by simp;omega) (fun y hy=>hs y (hsub y hy)) ⟨?_,?_,?_⟩
  ·rw[hlen]at this
   refine this.mono fun r hr h=>⟨(hr h).1.trans ?_,(hr h).2⟩
   rw[List.append_assoc]
   refine List.Perm.append_left out ?_
   have hp:(L[i]::L.eraseIdx i).Perm L:=T4 hi
   rw[ex]at hp
   exact hp
  ·refine List.pairwise_append.2 ⟨hO.pw,by simp,fun v hv w hw'=>?_⟩
   rw[List.mem_singleton.1 hw']
   exact hO.rest v hv x hxm
  ·intro v hv
   rcases List.mem_append.1 hv with hv|hv
   ·exact hO.self v hv
   ·rw[List.mem_singleton.1 hv];exact hw x hxm
  ·intro v hv w hw'
   rcases List.mem_append.1 hv with hv|hv
   ·exact hO.rest v hv w (hsub w hw')
   ·rw[List.mem_singleton.1 hv];exact hw w (hsub w hw')
def gZ:Nat->xR->zZ->Int->Option zZ
 |0,_,_,_=>none
 |qq+1,p0,v3,v8=>
 if decide (v8<(p0.length:Int))then
 zW p0 v8>>=fun x2=>
 xF 8 v3 [x2.n_]>>=fun l4=>
 gZ qq p0 l4 (xL (v8+1))
 else
 some v3
def zTF(qq:Nat)(p0:xR):Option zZ:=
 gZ qq p0 [] 0
theorem zTG:∀qq:Nat,(∀ {p0 v3 v8 r},gZ qq p0 v3 v8=some r->(∀j,dL 0 (pt 4021 f131) (sp j 19 0 [(3,zV yC v3 (.st 0 1)),(6,zV zI p0 .no),(7,ai (p0.length:Int)),(8,ai v8)]) (⟨[],0,[0],1,[]⟩) (fQ 0 (nQ 0 f131 (.sl (zG yC r) r.length .no) [] 0) [.blk 0,.seq (pt 63 f131)]))):=by
 intro qq
 induction qq with
 |zero=>
  exact fun h=>nn h
 |succ qq ih=>
  intro p0 v3 v8 r h
  rw[gZ]at h
  obtain⟨h1,h⟩|⟨h1,h⟩:=zU h
  obtain⟨x2,h3,h⟩:=zC h
  obtain⟨l4,h5,h⟩:=zC h
  exact fun j=>lH 1 [] [] [1] [3,6,7,8] (oD (zF p0)<|oD (dI l4)<|oP 4 (qF h5 (by simp))<|oA 0 (zCb (o:=.no) h3)<|oB 0 h1 o0) (ih h)
  obtain rfl:=sj h
  exact fun j=>lF 0 [] (oD (dI v3)<|oB 0 h1 o0)
theorem yBT{qq p0 r}(h:zTF qq p0=some r):Ct 131 [] [zV zI p0 .no] (.sl (zG yC r) r.length .no) [] 0:=⟨by
 unfold zTF at h
 exact tH ⟨func131,rfl⟩ 1 [(none,3,1)] [] [0] [3,6,7,8] (oD (zF p0)<|oD (dI ([]:zZ)) o0) (zTG _ h),⟨⟨tv,zF _⟩,tv⟩,zB,dI _,zB⟩
def kN:Nat->xR->Int->Tm->Int->xR->Option (xR×Int)
 |0,_,_,_,_,_=>none
 |qq+1,p0,p1,p2,v37,v8=>
 if decide (v37<(p0.length:Int))then
 zW p0 v37>>=fun x21=>
 if x21.n_==p1 then
 kN qq p0 p1 p2 (xL (v37+1)) v8
 else
 e54 qq x21.type_ p2 p1>>=fun r24=>
 if r24.2 != 0 then
 some ([],r24.2)
 else
 xF 48 v8 [(zR.mk x21.n_ r24.1)]>>=fun l27=>
 kN qq p0 p1 p2 (xL (v37+1)) l27
 else
 zQA qq v8>>=fun r29=>
 some (r29.1,r29.2)
def zQC(qq:Nat)(p0:xR)(p1:Int)(p2:Tm):Option (xR×Int):=
 e96 qq p0>>=fun r1=>
 if r1 then
 bI qq p2>>=fun r4=>
 if r4 then
 zMB qq p2>>=fun r7=>
 if decide (r7>0)then
 some ([],5)
 else
 zTF qq p0>>=fun r10=>
 e94 qq r10 p1>>=fun r12=>
 if r12 then
 zCC qq p2>>=fun r15=>
 e94 qq r15 p1>>=fun r17=>
 if r17 then
 some ([],3)
 else
 kN qq p0 p1 p2 0 []
 else
 some ([],16)
 else
 some ([],5)
 else
 some ([],5)
theorem zMF:Qf 129 f129:=⟨func129,rfl⟩
theorem zTH:∀qq:Nat,(∀ {p0 p1 p2 v37 v8 r},kN qq p0 p1 p2 v37 v8=some r->(∀j,dL 0 (pt 262069 f129) (sp j 68 0 [(1,ai p1),(5,.mp 0 0),(8,zV zI v8 (.st 0 4)),(35,zV zI p0 .no),(36,ai (p0.length:Int)),(37,ai v37)]) (⟨[(0,.cells [ai p2.k,ai p2.n,zV zD p2.sub .no])],1,[0],1,[]⟩) (fQ 0 (nQ 0 f129 (.tup [.sl (zG zI r.1) r.1.length .no,ai r.2]) [] 0) [.blk 0,.seq (pt 4095 f129)]))):=by
 intro qq
 induction qq with
 |zero=>
  exact fun h=>nn h
 |succ qq ih=>
  intro p0 p1 p2 v37 v8 r h
  rw[kN]at h
  obtain⟨h20,h⟩|⟨h20,h⟩:=zU h
  obtain⟨x21,h22,h⟩:=zC h
  have k:=oA 0 (zCb (o:=.no) h22)<|oB 0 h20 o0
  obtain⟨h23,h⟩|⟨h23,h⟩:=zU h
  exact fun j=>lH 1 [] [0] [0] [1,5,8,35,36,37] (oD (zF p0)<|oD (zF v8)<|oD (dT p2.sub)<|oB 3 h23 k) (ih h)
  obtain⟨r24,h25,h⟩:=zC h
  have k:=oC 2 [] (c54 h25)<|oB 3 h23 k
  obtain⟨h26,h⟩|⟨h26,h⟩:=zU h
  cases h
  exact fun j=>lF 0 [] (oD (zF ([]:xR))<|oB 3 h26 k)
  obtain⟨l27,h28,h⟩:=zC h
  exact fun j=>lH 1 [] [0] [1] [1,5,8,35,36,37] (oD (zF p0)<|oD (zF l27)<|oD (dT p2.sub)<|oP 3 (zUo h28 (by simp))<|oB 3 h26 k) (ih h)
  obtain⟨r29,h30,h⟩:=zC h
  cases h
  exact fun j=>lF 2 [] (oD (zF r29.1)<|oC 0 [] (yBS h30)<|oB 0 h20 o0)
theorem yBU{qq p0 p1 p2 r}(h:zQC qq p0 p1 p2=some r):Ct 129 [] [zV zI p0 .no,ai p1,yY p2] (.tup [.sl (zG zI r.1) r.1.length .no,ai r.2]) [] 0:=⟨by
 unfold zQC at h
 obtain⟨r1,h2,h⟩:=zC h
 obtain⟨h3,h⟩|⟨h3,h⟩:=zU h
 obtain⟨r4,h5,h⟩:=zC h
 have k:=oK 0 [] h3 (c96 h2) o0
 obtain⟨h6,h⟩|⟨h6,h⟩:=zU h
 obtain⟨r7,h8,h⟩:=zC h
 have k:=oC 2 [] (zZB h8)<|oK 2 [] h6 (nC h5) k
 obtain⟨h9,h⟩|⟨h9,h⟩:=zU h
 cases h
 exact tF zMF 0 [] (oD (zF ([]:xR))<|oB 0 h9 k)
 obtain⟨r10,h11,h⟩:=zC h
 obtain⟨r12,h13,h⟩:=zC h
 have k:=oC 0 [] (yBT h11)<|oB 0 h9 k
 obtain⟨h14,h⟩|⟨h14,h⟩:=zU h
 obtain⟨r15,h16,h⟩:=zC h
 obtain⟨r17,h18,h⟩:=zC h
 have k:=oC 2 [] (zOn h16)<|oK 0 [] h14 (c94 h13) k
 obtain⟨h19,h⟩|⟨h19,h⟩:=zU h
 cases h
 exact tF zMF 0 [] (oD (zF ([]:xR))<|oK 0 [] h19 (c94 h18) k)
 exact tH zMF 1 [(none,8,4)] [0] [0] [1,5,8,35,36,37] (oD (zF p0)<|oD (zF ([]:xR))<|oD (dT p2.sub)<|oK 0 [] h19 (c94 h18) k) (zTH _ h)
 cases h
 exact tF zMF 1 [] (oD (zF ([]:xR))<|oK 0 [] h14 (c94 h13) k)
 cases h
 exact tF zMF 1 [] (oD (zF ([]:xR))<|oK 2 [] h6 (nC h5) k)
 cases h
 exact tF zMF 1 [] (oD (zF ([]:xR))<|oK 0 [] h3 (c96 h2) o0),⟨⟨tv,zF _⟩,tv,⟨tv,tv,⟨tv,dT _⟩,tv⟩,tv⟩,zB,⟨zF _,tv,tv⟩,zB⟩
theorem zMG(acc:List zR)(hl:acc.length≤1048576)(ho:∀v∈acc,v.type_.Ok):zN (fun q=>zQA q acc) fun r=>r.2=0->r.1.Perm acc∧zTE r.1 []∧∀v∈acc,zH v.type_=true:=by
 simp only[zQA,zMA,zDi]
 refine(gX (by omega) ho acc 0 [] rfl (Nat.zero_le _) ⟨fun w hw=>by simp at hw,fun h=>absurd rfl h,Nat.le_refl _,fun _ i x hi=>absurd hi (Nat.not_lt_zero _)⟩).bind fun x hx=>?_
 cases x with
 |inl _=>exact zN.ret fun h=>absurd h (by show ¬(5:Int)=0;decide)
 |inr m=>
  have hI:=hx m rfl
  have hs:∀w∈acc,zH w.type_=true:=fun w hw=>(hI.ok w (by rw[List.take_length];exact hw)).2
  refine zN.ite (fun _=>zN.ret fun h=>absurd h (by show ¬(4:Int)=0;decide)) fun h1=>?_
  by_cases h0:acc=[]
  ·subst h0
   refine zN.pure (a:=Sum.inl ()) (by simp) ?_
   exact(P7 0 0 [] [] rfl (Nat.le_refl _) (by simp) (fun x hx=>by simp at hx) ⟨by simp,fun v hv=>by simp at hv,fun v hv=>by simp at hv⟩).mono fun r hr h=>⟨(hr h).1,(hr h).2,hs⟩
  ·have hpos:acc.length≠0:=fun e=>h0 (List.length_eq_zero_iff.1 e)
   refine zN.pure (a:=Sum.inr acc) (by rw[if_neg (by simpa using h0),yK (by simp;omega)];rfl) ?_
   exact(P7 acc.length acc.length acc [] rfl (Nat.le_refl _) (by simpa using hl) hs ⟨by simp,fun v hv=>by simp at hv,fun v hv=>by simp at hv⟩).mono fun r hr h=>⟨(hr h).1,(hr h).2,hs⟩
theorem I7(c:List zR)(hl:c.length≤1048576):∀(r:List zR) (v:Nat) (acc:List Int),c.drop v=r->v≤c.length->acc=(c.take v).map (·.n_)->zN (fun q=>gZ q c acc (v:Int)) fun k=>k=c.map (·.n_)
 | [],v,acc,hd,hv,ha=>by
  refine zN.succ ?_
  simp only[gZ]
  refine zN.ite (fun h=>?_) fun _=>zN.ret ?_
  ·rw[yH hd]at h;cases h
  ·rw[ha,List.take_of_length_le (List.drop_eq_nil_iff.1 hd)]
 |x::r,v,acc,hd,hv,ha=>by
  have hlt:=yL hd
  refine zN.succ ?_
  simp only[gZ]
  refine zN.ite (fun _=>zN.pure (yD hd) (zN.pure (yK (by rw[ha];simp;omega)) ?_)) fun h=>?_
  ·rw[yA v (by omega)]
   exact I7 c hl r (v+1) _ (zY hd) hlt (by rw[oX hd,List.map_append,ha];rfl)
  ·rw[yG hd]at h;cases h
def U7(t:Tm)(n:Int)(c:List zR):List zR:=(c.filter fun v=>v.n_ != n).map fun v=>⟨v.n_,qM t n v.type_ 0⟩
theorem j8{c:List zR}(hl:c.length≤524288)(ho:∀v∈c,v.type_.Ok)(n:Int)(t:Tm)(ht:t.Ok):∀(r:List zR) (v:Nat) (acc:List zR),c.drop v=r->acc.length+r.length≤c.length->(∀w∈acc,w.type_.Ok) ->
  zN (fun q=>kN q c n t (v:Int) acc) fun x=>x.2=0->x.1.Perm (acc++U7 t n r)∧zTE x.1 []∧∀w∈acc++U7 t n r,zH w.type_=true
 | [],v,acc,hd,hv,ha=>by
  refine zN.succ ?_
  simp only[kN]
  refine zN.ite (fun h=>?_) fun _=>(zMG acc (by simp at hv;omega) ha).bind fun r hr=>zN.ret fun h=>?_
  ·rw[yH hd]at h;cases h
  ·simpa[U7]using hr h
 |x::r,v,acc,hd,hv,ha=>by
  have hlt:=yL hd
  have hx:x∈c:=List.mem_of_mem_drop (by rw[hd];simp)
  simp only[List.length_cons]at hv
  refine zN.succ ?_
  simp only[kN]
  refine zN.ite (fun _=>zN.pure (yD hd) (zN.ite (fun e=>?_) fun e=>?_)) fun h=>?_
  ·rw[yA v (by omega)]
   have:U7 t n (x::r)=U7 t n r:=by
    unfold U7
    rw[List.filter_cons_of_neg (by simpa using e)]
   rw[this]
   exact j8 hl ho n t ht r (v+1) acc (zY hd) (by omega) ha
  ·have h2:U7 t n (x::r)=⟨x.n_,qM t n x.type_ 0⟩::U7 t n r:=by
    unfold U7
    rw[List.filter_cons_of_pos (by simpa using e),List.map_cons]
   refine(lJ x.type_ t n (ho x hx) ht).bind fun y hy=>zN.ite (fun h3=>zN.ret fun h4=>?_) fun h3=>zN.pure (yK (by simp;omega)) ?_
   ·have h4':y.2=0:=h4
    rw[h4']at h3;cases h3
   ·have h4:y.2=0:=by simpa using h3
    have h5:=hy.2.2.1 h4
    have h6:=h5.2.2.2.2.2
    rw[yA v (by omega),h6]
    have R:=j8 hl ho n t ht r (v+1) (acc++[⟨x.n_,qM t n x.type_ 0⟩]) (zY hd) (by simp;omega) fun w hw=>(by
     rcases List.mem_append.1 hw with hw|hw
     ·exact ha w hw
     ·rw[List.mem_singleton.1 hw];show (qM t n x.type_ 0).Ok;rw[←h6];exact hy.1)
    refine zN.mono R ?_
    intro z hz h
    rw[h2]
    have:=hz h
    rwa[List.append_assoc]at this
  ·rw[yG hd]at h;cases h
theorem zGt{c:List zR}(hl:c.length≤524288)(ho:∀v∈c,v.type_.Ok)(n:Int)(t:Tm)(ht:t.Ok):zN (fun q=>zQC q c n t) fun r=>r.2=0->zFV c n t r.1∧¬n∈nY t:=by
 simp only[zQC,zTF]
 have no:∀e:Int,e≠0->zN (fun _:Nat=>some (([]:List zR),e)) fun r=>r.2=0->zFV c n t r.1∧¬n∈nY t:=fun e he=>zN.ret fun h=>absurd h he
 refine(bP (by omega) ho).bind fun b hb=>zN.ite (fun h1=>?_) fun _=>no 5 (by decide)
 have hC:=hb h1
 refine zN.bind (P:=fun b=>b=zH t) ((xN t ht).tot rfl) fun b2 hb2=>zN.ite (fun h2=>?_) fun _=>no 5 (by decide)
 have hs:zH t=true:=by rw[←hb2];exact h2
 refine zN.bind (P:=fun k=>k=mY t 0) ((zBH t hs).tot rfl) fun k hk=>zN.ite (fun _=>no 5 (by decide)) fun h3=>?_
 have hlo:∀j,¬j∈sF t 0:=(V9 hs).1 (by rw[←hk];have:=of_decide_eq_false h3;omega)
 refine(I7 c (by omega) c 0 [] rfl (Nat.zero_le _) rfl).bind fun ns hns=>?_
 subst hns
 refine(j6 (c.map (·.n_)) n (by rw[List.length_map];omega)).bind fun b4 hb4=>zN.ite (fun h4=>?_) fun _=>no 16 (by decide)
 have hcl:=mE t 8 8
 have hnn:=(zO hs).1
 refine zN.bind (P:=fun F=>F=vG (qL t 8 8)) ((eH t ht).tot (by unfold eG;rw[if_pos hs])) fun F hF=>?_
 refine(j6 F n (by rw[hF];have:=mV (qL t 8 8);omega)).bind fun b5 hb5=>zN.ite (fun _=>no 3 (by decide)) fun h5=>?_
 have hnf:¬n∈nY t:=fun h=>by
  rw[hb5.2 (by rw[hF];exact(nJ _ _).2 h)]at h5;cases h5
 refine(j8 hl ho n t ht c 0 [] rfl (by simp) (fun w hw=>by simp at hw)).mono fun r hr h=>⟨?_,hnf⟩
 obtain⟨hp,hO,hsh⟩:=hr h
 rw[List.nil_append]at hp hsh
 have hmem:∀v∈r.1,∃w∈c,w.n_=v.n_∧w.n_≠n∧v.type_=qM t n w.type_ 0:=fun v hv=>by
  have:=hp.mem_iff.1 hv
  unfold U7 at this
  obtain⟨w,hw,rfl⟩:=List.mem_map.1 this
  have hw':=List.mem_filter.1 hw
  exact⟨w,hw'.1,rfl,by simpa using hw'.2,rfl⟩
 have hnum:(U7 t n c).map (·.n_)=(c.map (·.n_)).erase n:=by
  rw[List.Nodup.erase_eq_filter hC.nd,List.filter_map]
  unfold U7
  rw[List.map_map]
  rfl
 have hperm:(r.1.map (·.n_)).Perm ((c.map (·.n_)).erase n):=by rw[←hnum];exact hp.map _
 refine⟨⟨?_,fun v hv=>?_,?_,hO.self,hO.pw⟩,hb4.1 h4,hperm,hmem⟩
 ·have h7:=hperm.length_eq
  rw[List.length_map]at h7
  have h8:=(List.erase_sublist (a:=n) (l:=c.map (·.n_))).length_le
  rw[List.length_map]at h8
  have:=hC.len
  omega
 ·obtain⟨w,hw,e1,-,e2⟩:=hmem v hv
  have h7:=hC.each w hw
  refine⟨e1▸h7.1,e1▸h7.2.1,hsh v (hp.mem_iff.1 hv),fun j hj=>?_⟩
  rw[e2]at hj
  exact h7.2.2.2 j (zQs hlo w.type_ 0 j (Int.le_refl _) hj)
 ·exact hperm.nodup_iff.2 (hC.nd.erase n)
def I8(qq:Nat)(q0 q1:yV)(q2:uM)(q3 q4:zZ)(q5 q6:Int)(q7:xR)(q8:qA)(q9 q10 yZ:Nat)(xE:Bool)(q13:xR)(xG:sE)(q15:zZ)(q16:Bool)(q17 p1:Int):Option zZ:=
 xF 8 q15 [p1]>>=fun l1=>
 some l1
theorem zQD{qq q0 q1 q2 q3 q4 q5 q6 q7 q8 q9 q10 yZ xE q13 xG q15 q16 q17 p1 r}(h:I8 qq q0 q1 q2 q3 q4 q5 q6 q7 q8 q9 q10 yZ xE q13 xG q15 q16 q17 p1=some r):Ct 140 [.cells [.mp 1 0,.mp 3 0,zV zI q7 .no,.ms 4 (q10*6) q9 yZ 6,ab xE,.ms 5 0 q13.length q13.length 4,.ms 6 0 xG.length xG.length 4,.ms 7 0 q15.length q15.length 1,ab q16,ai q17],qB q0 2 q3 q4,qR q1 q2,.cells [ai q5,ai q6],.row (zG zP q8),.row (zG zI q13),.row (zG zQ xG),.row (zG yC q15)] [.mp 0 0,ai p1] (.tup []) [.cells [.mp 1 0,.mp 3 0,zV zI q7 .no,.ms 4 (q10*6) q9 yZ 6,ab xE,.ms 5 0 q13.length q13.length 4,.ms 6 0 xG.length xG.length 4,.ms 8 0 r.length r.length 1,ab q16,ai q17],qB q0 2 q3 q4,qR q1 q2,.cells [ai q5,ai q6],.row (zG zP q8),.row (zG zI q13),.row (zG zQ xG),.dead,.row (zG yC r)] 0:=⟨by
 unfold I8 at h
 obtain⟨l1,h2,h⟩:=zC h
 obtain rfl:=sj h
 exact tF ⟨func140,rfl⟩ 1 [0,1,2,3,4,5,6,7,8] (oD (dI l1)<|oD (zK xG)<|oD (zF q13)<|oD (zL q8)<|cU q0 q1 q2 q3 q4<|oD (zF q7)<|oM 2 (zUq h2 (by simp)) o0),⟨(lz rfl),tv,tv⟩,(zA ⟨(lz rfl),(lz rfl),⟨tv,zF _⟩,(lz rfl),tv,(lz rfl),(lz rfl),(lz rfl),tv,tv,tv⟩ (nW (lz rfl) (zA ⟨tv,tv,tv⟩ (zA (zL _) (zA (zF _) (zA (zK _) (zA (dI _) zB))))))),tv,(zA ⟨(lz rfl),(lz rfl),zF _,(lz rfl),tv,(lz rfl),(lz rfl),(lz rfl),tv,tv,tv⟩ (pW (lz rfl) (zA ⟨tv,tv,tv⟩ (zA (zL _) (zA (zF _) (zA (zK _) (zA tv (zA (dI _) zB))))))))⟩
def pM(qq:Nat)(q0 q1:yV)(q2:uM)(q3 q4:zZ)(q5 q6:Int)(q7:xR)(q8:qA)(q9 q10 yZ:Nat)(xE:Bool)(q13:xR)(xG:sE)(q15 q16:Nat)(q17:zZ)(xC:Bool)(q19 p1:Int):Option zZ:=
 xF 8 q17 [p1]>>=fun l1=>
 some l1
theorem I9{qq q0 q1 q2 q3 q4 q5 q6 q7 q8 q9 q10 yZ xE q13 xG q15 q16 q17 xC q19 p1 r}(h:pM qq q0 q1 q2 q3 q4 q5 q6 q7 q8 q9 q10 yZ xE q13 xG q15 q16 q17 xC q19 p1=some r):Ct 140 [.cells [.mp 1 0,.mp 3 0,zV zI q7 .no,.ms 4 (q10*6) q9 yZ 6,ab xE,.ms 5 0 q13.length q13.length 4,.ms 6 0 q15 q16 4,.ms 7 0 q17.length q17.length 1,ab xC,ai q19],qB q0 2 q3 q4,qR q1 q2,.cells [ai q5,ai q6],.row (zG zP q8),.row (zG zI q13),.row (zG zQ xG),.row (zG yC q17)] [.mp 0 0,ai p1] (.tup []) [.cells [.mp 1 0,.mp 3 0,zV zI q7 .no,.ms 4 (q10*6) q9 yZ 6,ab xE,.ms 5 0 q13.length q13.length 4,.ms 6 0 q15 q16 4,.ms 8 0 r.length r.length 1,ab xC,ai q19],qB q0 2 q3 q4,qR q1 q2,.cells [ai q5,ai q6],.row (zG zP q8),.row (zG zI q13),.row (zG zQ xG),.dead,.row (zG yC r)] 0:=⟨by
 unfold pM at h
 obtain⟨l1,h2,h⟩:=zC h
 obtain rfl:=sj h
 exact tF ⟨func140,rfl⟩ 1 [0,1,2,3,4,5,6,7,8] (oD (dI l1)<|oD (zK xG)<|oD (zF q13)<|oD (zL q8)<|cU q0 q1 q2 q3 q4<|oD (zF q7)<|oM 2 (zUq h2 (by simp)) o0),⟨(lz rfl),tv,tv⟩,(zA ⟨(lz rfl),(lz rfl),⟨tv,zF _⟩,(lz rfl),tv,(lz rfl),(lz rfl),(lz rfl),tv,tv,tv⟩ (nW (lz rfl) (zA ⟨tv,tv,tv⟩ (zA (zL _) (zA (zF _) (zA (zK _) (zA (dI _) zB))))))),tv,(zA ⟨(lz rfl),(lz rfl),zF _,(lz rfl),tv,(lz rfl),(lz rfl),(lz rfl),tv,tv,tv⟩ (pW (lz rfl) (zA ⟨tv,tv,tv⟩ (zA (zL _) (zA (zF _) (zA (zK _) (zA tv (zA (dI _) zB))))))))⟩
def mK(qq:Nat)(q0 q1:yV)(q2:uM)(q3 q4:zZ)(q5 q6:Int)(q7:xR)(q8:qA)(q9 q10 yZ:Nat)(xE:Bool)(q13:xR)(xG:sE)(q15 q16:Nat)(q17:zZ)(xC:Bool)(q19:Int)(p1:Tm)(p2:Int):Option (Tm×Int):=
 if q19==0 then
 some (p1,p2)
 else
 some (p1,q19)
theorem zKs:Qf 99 f99:=⟨func99,rfl⟩
theorem J0{qq q0 q1 q2 q3 q4 q5 q6 q7 q8 q9 q10 yZ xE q13 xG q15 q16 q17 xC q19 p1 p2 r}(h:mK qq q0 q1 q2 q3 q4 q5 q6 q7 q8 q9 q10 yZ xE q13 xG q15 q16 q17 xC q19 p1 p2=some r):Ct 99 [.cells [.mp 1 0,.mp 3 0,zV zI q7 .no,.ms 4 (q10*6) q9 yZ 6,ab xE,.ms 5 0 q13.length q13.length 4,.ms 6 0 q15 q16 4,.ms 7 0 q17.length q17.length 1,ab xC,ai q19],qB q0 2 q3 q4,qR q1 q2,.cells [ai q5,ai q6],.row (zG zP q8),.row (zG zI q13),.row (zG zQ xG),.row (zG yC q17)] [.mp 0 0,yY p1,ai p2] (yY r.1) [.cells [.mp 1 0,.mp 3 0,zV zI q7 .no,.ms 4 (q10*6) q9 yZ 6,ab xE,.ms 5 0 q13.length q13.length 4,.ms 6 0 q15 q16 4,.ms 7 0 q17.length q17.length 1,ab xC,ai r.2],qB q0 2 q3 q4,qR q1 q2,.cells [ai q5,ai q6],.row (zG zP q8),.row (zG zI q13),.row (zG zQ xG),.row (zG yC q17)] 0:=⟨by
 unfold mK at h
 have z {os ob} (k:Oz os ob):=oD (dT p1.sub)<|oD (dI q17)<|oD (zK xG)<|oD (zF q13)<|oD (zL q8)<|cU q0 q1 q2 q3 q4<|oD (zF q7)<|k
 obtain⟨h1,h⟩|⟨h1,h⟩:=zU h
 cases h
 exact tF zKs 3 [0,1,2,3,4,5,6,7] (z<|oB 1 h1 o0)
 cases h
 exact tF zKs 2 [0,1,2,3,4,5,6,7] (z<|oB 1 h1 o0),⟨(lz rfl),⟨tv,tv,⟨tv,dT _⟩,tv⟩,tv,tv⟩,(zA ⟨(lz rfl),(lz rfl),⟨tv,zF _⟩,(lz rfl),tv,(lz rfl),(lz rfl),(lz rfl),tv,tv,tv⟩ (nW (lz rfl) (zA ⟨tv,tv,tv⟩ (zA (zL _) (zA (zF _) (zA (zK _) (zA (dI _) zB))))))),⟨tv,tv,dT _,tv⟩,(zA ⟨(lz rfl),(lz rfl),zF _,(lz rfl),tv,(lz rfl),(lz rfl),(lz rfl),tv,tv,tv⟩ (pW (lz rfl) (zA ⟨tv,tv,tv⟩ (zA (zL _) (zA (zF _) (zA (zK _) (zA (dI _) zB)))))))⟩
def sQ:Nat->yV->yV->uM->zZ->zZ->Int->Int->Nat->Nat->Nat->Bool->xR->Nat->Nat->zZ->Bool->Int->Tm->(xR×Int)->qA->Int->Int->sE->Option ((xR×sE×Nat×Nat×zZ×Int×qA) ⊕ ((xR×sE×Nat×Nat×zZ×Bool×Int×qA) ⊕ (xR×sE×zZ×Bool×Int×qA)))
 |0,_,_,_,_,_,_,_,_,_,_,_,_,_,_,_,_,_,_,_,_,_,_,_=>none
 |qq+1,q0,q1,q2,q3,q4,q5,q6,q9,q10,yZ,xE,q13,q15,q16,q17,xC,p1,p2,r9,vX,v94,kO,tP=>
 if decide (v94<(q15:Int))then
 iM q15 v94>>=fun x29=>
 zW tP (x29:Int)>>=fun x31=>
 e54 qq x31.t_ p2 p1>>=fun r33=>
 mK qq q0 q1 q2 q3 q4 q5 q6 r9.1 vX q9 q10 yZ xE q13 tP q15 q16 q17 xC kO r33.1 r33.2>>=fun r35=>
 zW tP (x29:Int)>>=fun x37=>
 N5 tP x29 (zS.mk x37.n_ r35.1)>>=fun l39=>
 sQ qq q0 q1 q2 q3 q4 q5 q6 q9 q10 yZ xE q13 q15 q16 q17 xC p1 p2 r9 vX (xL (v94+1)) r35.2 l39
 else
 gfz q15 tP>>=fun l41=>
 xF 48 l41 [(zS.mk p1 p2)]>>=fun l43=>
 I8 qq q0 q1 q2 q3 q4 q5 q6 r9.1 vX q9 q10 yZ xE q13 l43 q17 xC kO 1>>=fun r45=>
 some (.inr (.inr (r9.1,l43,r45,xC,kO,vX)))
def rQ:Nat->yV->yV->uM->zZ->zZ->Int->Int->Nat->Nat->Nat->Bool->xR->sE->Nat->Nat->zZ->Bool->Int->Tm->(xR×Int)->Int->Int->qA->Option ((xR×sE×Nat×Nat×zZ×Int×qA) ⊕ ((xR×sE×Nat×Nat×zZ×Bool×Int×qA) ⊕ (xR×sE×zZ×Bool×Int×qA)))
 |0,_,_,_,_,_,_,_,_,_,_,_,_,_,_,_,_,_,_,_,_,_,_,_=>none
 |qq+1,q0,q1,q2,q3,q4,q5,q6,q9,q10,yZ,xE,q13,xG,q15,q16,q17,xC,p1,p2,r9,v57,kO,vX=>
 if decide (v57<(q9:Int))then
 iM q9 v57>>=fun x14=>
 zW vX ((q10+x14):Int)>>=fun x16=>
 e54 qq x16.a_ p2 p1>>=fun r18=>
 mK qq q0 q1 q2 q3 q4 q5 q6 r9.1 vX q9 q10 yZ xE q13 xG q15 q16 q17 xC kO r18.1 r18.2>>=fun r20=>
 e54 qq x16.b_ p2 p1>>=fun r22=>
 mK qq q0 q1 q2 q3 q4 q5 q6 r9.1 vX q9 q10 yZ xE q13 xG q15 q16 q17 xC r20.2 r22.1 r22.2>>=fun r24=>
 N5 vX (q10+x14) (zM.mk r20.1 r24.1)>>=fun x26=>
 rQ qq q0 q1 q2 q3 q4 q5 q6 q9 q10 yZ xE q13 xG q15 q16 q17 xC p1 p2 r9 (xL (v57+1)) r24.2 x26
 else
 sQ qq q0 q1 q2 q3 q4 q5 q6 q9 q10 yZ xE q13 q15 q16 q17 xC p1 p2 r9 vX 0 kO xG
def jU(qq:Nat)(q0 q1:yV)(q2:uM)(q3 q4:zZ)(q5 q6:Int)(q7:xR)(q8:qA)(q9 q10 yZ:Nat)(xE:Bool)(q13:xR)(xG:sE)(q15 q16:Nat)(q17:zZ)(xC:Bool)(q19 p1:Int)(p2:Tm):Option ((xR×sE×Nat×Nat×zZ×Int×qA) ⊕ ((xR×sE×Nat×Nat×zZ×Bool×Int×qA) ⊕ (xR×sE×zZ×Bool×Int×qA))):=
 zQg qq p2 p1>>=fun r1=>
 if r1 then
 zDm qq (wA.mk q0 q1 q2 q3 q4) p2 p1>>=fun r4=>
 if r4 then
 pM qq q0 q1 q2 q3 q4 q5 q6 q7 q8 q9 q10 yZ xE q13 xG q15 q16 q17 xC q19 3>>=fun r7=>
 some (.inl (q7,xG,q15,q16,r7,q19,q8))
 else
 some (.inr (.inl (q7,xG,q15,q16,q17,xC,13,q8)))
 else
 zQC qq q7 p1 p2>>=fun r9=>
 if r9.2==3 then
 some (.inr (.inl (q7,xG,q15,q16,q17,xC,13,q8)))
 else
 if r9.2 != 0 then
 some (.inr (.inl (q7,xG,q15,q16,q17,xC,r9.2,q8)))
 else
 rQ qq q0 q1 q2 q3 q4 q5 q6 q9 q10 yZ xE q13 xG q15 q16 q17 xC p1 p2 r9 0 q19 q8
section
variable (q0 q1:yV) (q2:uM) (q3 q4:zZ) (q5 q6:Int) (q7:xR) (q8:qA) (q9 q10 yZ:Nat) (xE:Bool) (q13:xR) (xG:sE) (q15 q16:Nat) (q17:zZ) (xC:Bool) (q19 p1:Int) (p2:Tm)
abbrev aX (r:xR×sE×Nat×Nat×zZ×Int×qA) (C:Cf):Prop:=C 102 [.cells [.mp 1 0,.mp 3 0,zV zI q7 .no,.ms 4 (q10*6) q9 yZ 6,ab xE,.ms 5 0 q13.length q13.length 4,.ms 6 0 q15 q16 4,.ms 7 0 q17.length q17.length 1,ab xC,ai q19],qB q0 2 q3 q4,qR q1 q2,.cells [ai q5,ai q6],.row (zG zP q8),.row (zG zI q13),.row (zG zQ xG),.row (zG yC q17)] [.mp 0 0,ai p1,yY p2] (.tup []) [.cells [.mp 1 0,.mp 3 0,zV zI r.1 .no,.ms 4 (q10*6) q9 yZ 6,ab xE,.ms 5 0 q13.length q13.length 4,.ms 8 0 r.2.2.1 r.2.2.2.1 4,.ms 9 0 r.2.2.2.2.1.length r.2.2.2.2.1.length 1,ab true,ai r.2.2.2.2.2.1],qB q0 2 q3 q4,qR q1 q2,.cells [ai q5,ai q6],.row (zG zP r.2.2.2.2.2.2),.row (zG zI q13),.dead,.dead,.row (zG zQ r.2.1),.row (zG yC r.2.2.2.2.1)] 0
abbrev aY (r:xR×sE×Nat×Nat×zZ×Bool×Int×qA) (C:Cf):Prop:=C 102 [.cells [.mp 1 0,.mp 3 0,zV zI q7 .no,.ms 4 (q10*6) q9 yZ 6,ab xE,.ms 5 0 q13.length q13.length 4,.ms 6 0 q15 q16 4,.ms 7 0 q17.length q17.length 1,ab xC,ai q19],qB q0 2 q3 q4,qR q1 q2,.cells [ai q5,ai q6],.row (zG zP q8),.row (zG zI q13),.row (zG zQ xG),.row (zG yC q17)] [.mp 0 0,ai p1,yY p2] (.tup []) [.cells [.mp 1 0,.mp 3 0,zV zI r.1 .no,.ms 4 (q10*6) q9 yZ 6,ab xE,.ms 5 0 q13.length q13.length 4,.ms 8 0 r.2.2.1 r.2.2.2.1 4,.ms 9 0 r.2.2.2.2.1.length r.2.2.2.2.1.length 1,ab r.2.2.2.2.2.1,ai r.2.2.2.2.2.2.1],qB q0 2 q3 q4,qR q1 q2,.cells [ai q5,ai q6],.row (zG zP r.2.2.2.2.2.2.2),.row (zG zI q13),.dead,.dead,.row (zG zQ r.2.1),.row (zG yC r.2.2.2.2.1)] 0
abbrev zIg (r:xR×sE×zZ×Bool×Int×qA) (C:Cf):Prop:=C 102 [.cells [.mp 1 0,.mp 3 0,zV zI q7 .no,.ms 4 (q10*6) q9 yZ 6,ab xE,.ms 5 0 q13.length q13.length 4,.ms 6 0 q15 q16 4,.ms 7 0 q17.length q17.length 1,ab xC,ai q19],qB q0 2 q3 q4,qR q1 q2,.cells [ai q5,ai q6],.row (zG zP q8),.row (zG zI q13),.row (zG zQ xG),.row (zG yC q17)] [.mp 0 0,ai p1,yY p2] (.tup []) [.cells [.mp 1 0,.mp 3 0,zV zI r.1 .no,.ms 4 (q10*6) q9 yZ 6,ab xE,.ms 5 0 q13.length q13.length 4,.ms 8 0 r.2.1.length r.2.1.length 4,.ms 9 0 r.2.2.1.length r.2.2.1.length 1,ab r.2.2.2.1,ai r.2.2.2.2.1],qB q0 2 q3 q4,qR q1 q2,.cells [ai q5,ai q6],.row (zG zP r.2.2.2.2.2),.row (zG zI q13),.dead,.dead,.row (zG zQ r.2.1),.row (zG yC r.2.2.1)] 0
end
theorem lN:Qf 102 f102:=⟨func102,rfl⟩
theorem j9{q0 q1 q2 q3 q4 q5 q6 q7 q8 q9 q10 yZ xE q13 xG q15 q16 q17 xC q19 p1 p2 r}(h:aX q0 q1 q2 q3 q4 q5 q6 q7 q8 q9 q10 yZ xE q13 xG q15 q16 q17 xC q19 p1 p2 r Ci):aX q0 q1 q2 q3 q4 q5 q6 q7 q8 q9 q10 yZ xE q13 xG q15 q16 q17 xC q19 p1 p2 r Ct:=⟨h,⟨(lz rfl),tv,⟨tv,tv,⟨tv,dT _⟩,tv⟩,tv⟩,(zA ⟨(lz rfl),(lz rfl),⟨tv,zF _⟩,(lz rfl),tv,(lz rfl),(lz rfl),(lz rfl),tv,tv,tv⟩ (nW (lz rfl) (zA ⟨tv,tv,tv⟩ (zA (zL _) (zA (zF _) (zA (zK _) (zA (dI _) zB))))))),tv,(zA ⟨(lz rfl),(lz rfl),zF _,(lz rfl),tv,(lz rfl),(lz rfl),(lz rfl),tv,tv,tv⟩ (pW (lz rfl) (zA ⟨tv,tv,tv⟩ (zA (zL _) (zA (zF _) (zA tv (zA tv (zA (zK _) (zA (dI _) zB)))))))))⟩
theorem fA{q0 q1 q2 q3 q4 q5 q6 q7 q8 q9 q10 yZ xE q13 xG q15 q16 q17 xC q19 p1 p2 r}(h:aY q0 q1 q2 q3 q4 q5 q6 q7 q8 q9 q10 yZ xE q13 xG q15 q16 q17 xC q19 p1 p2 r Ci):aY q0 q1 q2 q3 q4 q5 q6 q7 q8 q9 q10 yZ xE q13 xG q15 q16 q17 xC q19 p1 p2 r Ct:=⟨h,⟨(lz rfl),tv,⟨tv,tv,⟨tv,dT _⟩,tv⟩,tv⟩,(zA ⟨(lz rfl),(lz rfl),⟨tv,zF _⟩,(lz rfl),tv,(lz rfl),(lz rfl),(lz rfl),tv,tv,tv⟩ (nW (lz rfl) (zA ⟨tv,tv,tv⟩ (zA (zL _) (zA (zF _) (zA (zK _) (zA (dI _) zB))))))),tv,(zA ⟨(lz rfl),(lz rfl),zF _,(lz rfl),tv,(lz rfl),(lz rfl),(lz rfl),tv,tv,tv⟩ (pW (lz rfl) (zA ⟨tv,tv,tv⟩ (zA (zL _) (zA (zF _) (zA tv (zA tv (zA (zK _) (zA (dI _) zB)))))))))⟩
theorem zGs:∀qq:Nat,(∀ {q0 q1 q2 q3 q4 q5 q6 q9 q10 yZ xE q13 q15 q16 q17 xC p1 p2 r9 vX v94 kO tP r},sQ qq q0 q1 q2 q3 q4 q5 q6 q9 q10 yZ xE q13 q15 q16 q17 xC p1 p2 r9 vX v94 kO tP=some r->(∀j,dL 8 (pt 4194229 f102) (sp j 133 0 [(0,.mp 0 0),(1,ai p1),(5,.mp 8 0),(92,.ms 9 0 q15 q16 4),(93,ai (q15:Int)),(94,ai v94)]) (⟨[(0,.cells [.mp 1 0,.mp 3 0,zV zI r9.1 .no,.ms 4 (q10*6) q9 yZ 6,ab xE,.ms 5 0 q13.length q13.length 4,.ms 9 0 q15 q16 4,.ms 10 0 q17.length q17.length 1,ab xC,ai kO]),(1,qB q0 2 q3 q4),(2,qR q1 q2),(3,.cells [ai q5,ai q6]),(4,.row (zG zP vX)),(5,.row (zG zI q13)),(6,.dead),(7,.dead),(8,.cells [ai p2.k,ai p2.n,zV zD p2.sub .no]),(9,.row (zG zQ tP)),(10,.row (zG yC q17))],11,[],0,[]⟩) (fQ 8 ((match (generalizing:=false) r with | .inl x=>nQ 8 f102 (.tup []) [.cells [.mp 1 0,.mp 3 0,zV zI x.1 .no,.ms 4 (q10*6) q9 yZ 6,ab xE,.ms 5 0 q13.length q13.length 4,.ms 8 0 x.2.2.1 x.2.2.2.1 4,.ms 9 0 x.2.2.2.2.1.length x.2.2.2.2.1.length 1,ab true,ai x.2.2.2.2.2.1],qB q0 2 q3 q4,qR q1 q2,.cells [ai q5,ai q6],.row (zG zP x.2.2.2.2.2.2),.row (zG zI q13),.dead,.dead,.row (zG zQ x.2.1),.row (zG yC x.2.2.2.2.1)] 0 | .inr (.inl x)=>nQ 8 f102 (.tup []) [.cells [.mp 1 0,.mp 3 0,zV zI x.1 .no,.ms 4 (q10*6) q9 yZ 6,ab xE,.ms 5 0 q13.length q13.length 4,.ms 8 0 x.2.2.1 x.2.2.2.1 4,.ms 9 0 x.2.2.2.2.1.length x.2.2.2.2.1.length 1,ab x.2.2.2.2.2.1,ai x.2.2.2.2.2.2.1],qB q0 2 q3 q4,qR q1 q2,.cells [ai q5,ai q6],.row (zG zP x.2.2.2.2.2.2.2),.row (zG zI q13),.dead,.dead,.row (zG zQ x.2.1),.row (zG yC x.2.2.2.2.1)] 0 | .inr (.inr x)=>nQ 8 f102 (.tup []) [.cells [.mp 1 0,.mp 3 0,zV zI x.1 .no,.ms 4 (q10*6) q9 yZ 6,ab xE,.ms 5 0 q13.length q13.length 4,.ms 8 0 x.2.1.length x.2.1.length 4,.ms 9 0 x.2.2.1.length x.2.2.1.length 1,ab x.2.2.2.1,ai x.2.2.2.2.1],qB q0 2 q3 q4,qR q1 q2,.cells [ai q5,ai q6],.row (zG zP x.2.2.2.2.2),.row (zG zI q13),.dead,.dead,.row (zG zQ x.2.1),.row (zG yC x.2.2.1)] 0)) [.blk 2,.seq (pt 65535 f102)]))):=by
 intro qq
 induction qq with
 |zero=>
  exact fun h=>nn h
 |succ qq ih=>
  intro q0 q1 q2 q3 q4 q5 q6 q9 q10 yZ xE q13 q15 q16 q17 xC p1 p2 r9 vX v94 kO tP r h
  rw[sQ]at h
  have z {os ob} (k:Oz os ob):=oD (zF q13)<|oD (zL vX)<|cU q0 q1 q2 q3 q4<|oD (zF r9.1)<|k
  obtain⟨h28,h⟩|⟨h28,h⟩:=zU h
  obtain⟨x29,h30,h⟩:=zC h
  obtain⟨x31,h32,h⟩:=zC h
  obtain⟨r33,h34,h⟩:=zC h
  obtain⟨r35,h36,h⟩:=zC h
  obtain⟨x37,h38,h⟩:=zC h
  obtain⟨l39,h40,h⟩:=zC h
  exact fun j=>lH 1 [] [0,1,2,3,4,5,6,7,8,9,10] [] [0,1,5,92,93,94] (oD (dI q17)<|oD (zK l39)<|oD (dT p2.sub)<|z<|oW 0 (wtF (x':=(zS.mk x37.n_ r35.1)) vZ h38 h40 1 3 (.agg [ai r35.1.k,ai r35.1.n,zV zD r35.1.sub .no]) rfl rfl (by decide) rfl)<|oA 0 (zJo (b:=9) (c:=q16) (z:=4) h30)<|oCk 2 [0,1,2,3,4,5,9,10] [(0,6)] (J0 h36) ⟨⟨_,rfl,rfl,fun _ _ _=>rfl⟩,trivial⟩<|oC 2 [] (c54 h34)<|aH 1<|oG (a:=(.agg [ai x31.n_,ai x31.t_.k,ai x31.t_.n,zV zD x31.t_.sub .no])) 0 (ldE vZ h32 (true,4) (val:=.agg [ai x31.n_,ai x31.t_.k,ai x31.t_.n,zV zD x31.t_.sub .no]) rfl)<|oA 0 (zJo (b:=9) (c:=q16) (z:=4) h30)<|oB 0 h28 o0) (ih h)
  obtain⟨l41,h42,h⟩:=zC h
  obtain⟨l43,h44,h⟩:=zC h
  obtain⟨r45,h46,h⟩:=zC h
  cases h
  exact fun j=>lF 0 [0,1,2,3,4,5,6,7,11,12] (oD (dI r45)<|oD (zK l43)<|z<|oC 1 [0,1,2,3,4,5,11,10] (zQD h46)<|oM 3 (zVq h42 h44 (by simp))<|oB 0 h28 o0)
theorem eW:∀qq:Nat,(∀ {q0 q1 q2 q3 q4 q5 q6 q9 q10 yZ xE q13 xG q15 q16 q17 xC p1 p2 r9 v57 kO vX r},rQ qq q0 q1 q2 q3 q4 q5 q6 q9 q10 yZ xE q13 xG q15 q16 q17 xC p1 p2 r9 v57 kO vX=some r->(∀j,dL 8 (pt 1048501 f102) (sp j 133 0 [(0,.mp 0 0),(1,ai p1),(5,.mp 8 0),(55,.ms 4 (q10*6) q9 yZ 6),(56,ai (q9:Int)),(57,ai v57)]) (⟨[(0,.cells [.mp 1 0,.mp 3 0,zV zI r9.1 .no,.ms 4 (q10*6) q9 yZ 6,ab xE,.ms 5 0 q13.length q13.length 4,.ms 9 0 q15 q16 4,.ms 10 0 q17.length q17.length 1,ab xC,ai kO]),(1,qB q0 2 q3 q4),(2,qR q1 q2),(3,.cells [ai q5,ai q6]),(4,.row (zG zP vX)),(5,.row (zG zI q13)),(6,.dead),(7,.dead),(8,.cells [ai p2.k,ai p2.n,zV zD p2.sub .no]),(9,.row (zG zQ xG)),(10,.row (zG yC q17))],11,[],0,[]⟩) (fQ 8 ((match (generalizing:=false) r with | .inl x=>nQ 8 f102 (.tup []) [.cells [.mp 1 0,.mp 3 0,zV zI x.1 .no,.ms 4 (q10*6) q9 yZ 6,ab xE,.ms 5 0 q13.length q13.length 4,.ms 8 0 x.2.2.1 x.2.2.2.1 4,.ms 9 0 x.2.2.2.2.1.length x.2.2.2.2.1.length 1,ab true,ai x.2.2.2.2.2.1],qB q0 2 q3 q4,qR q1 q2,.cells [ai q5,ai q6],.row (zG zP x.2.2.2.2.2.2),.row (zG zI q13),.dead,.dead,.row (zG zQ x.2.1),.row (zG yC x.2.2.2.2.1)] 0 | .inr (.inl x)=>nQ 8 f102 (.tup []) [.cells [.mp 1 0,.mp 3 0,zV zI x.1 .no,.ms 4 (q10*6) q9 yZ 6,ab xE,.ms 5 0 q13.length q13.length 4,.ms 8 0 x.2.2.1 x.2.2.2.1 4,.ms 9 0 x.2.2.2.2.1.length x.2.2.2.2.1.length 1,ab x.2.2.2.2.2.1,ai x.2.2.2.2.2.2.1],qB q0 2 q3 q4,qR q1 q2,.cells [ai q5,ai q6],.row (zG zP x.2.2.2.2.2.2.2),.row (zG zI q13),.dead,.dead,.row (zG zQ x.2.1),.row (zG yC x.2.2.2.2.1)] 0 | .inr (.inr x)=>nQ 8 f102 (.tup []) [.cells [.mp 1 0,.mp 3 0,zV zI x.1 .no,.ms 4 (q10*6) q9 yZ 6,ab xE,.ms 5 0 q13.length q13.length 4,.ms 8 0 x.2.1.length x.2.1.length 4,.ms 9 0 x.2.2.1.length x.2.2.1.length 1,ab x.2.2.2.1,ai x.2.2.2.2.1],qB q0 2 q3 q4,qR q1 q2,.cells [ai q5,ai q6],.row (zG zP x.2.2.2.2.2),.row (zG zI q13),.dead,.dead,.row (zG zQ x.2.1),.row (zG yC x.2.2.1)] 0)) [.blk 0,.seq (pt 16383 f102)]))):=by
 intro qq
 induction qq with
 |zero=>
  exact fun h=>nn h
 |succ qq ih=>
  intro q0 q1 q2 q3 q4 q5 q6 q9 q10 yZ xE q13 xG q15 q16 q17 xC p1 p2 r9 v57 kO vX r h
  rw[rQ]at h
  obtain⟨h13,h⟩|⟨h13,h⟩:=zU h
  obtain⟨x14,h15,h⟩:=zC h
  obtain⟨x16,h17,h⟩:=zC h
  obtain⟨r18,h19,h⟩:=zC h
  obtain⟨r20,h21,h⟩:=zC h
  obtain⟨r22,h23,h⟩:=zC h
  obtain⟨r24,h25,h⟩:=zC h
  obtain⟨x26,h27,h⟩:=zC h
  exact fun j=>lH 1 [] [0,1,2,3,4,5,6,7,8,9,10] [] [0,1,5,55,56,57] (oD (dI q17)<|oD (zK xG)<|oD (dT p2.sub)<|oD (zF q13)<|oD (zL x26)<|cU q0 q1 q2 q3 q4<|oD (zF r9.1)<|oW 0 (wtE (x:=(zM.mk r20.1 r24.1)) (cs:=[ai r20.1.k,ai r20.1.n,zV zD r20.1.sub .no,ai r24.1.k,ai r24.1.n,zV zD r24.1.sub .no]) uA rfl h27)<|oA 0 (zHd (b:=4) (o:=q10) (c:=yZ) (z:=6) h15)<|oCk 2 [0,1,2,3,4,5,9,10] [(0,3)] (J0 h25) ⟨⟨_,rfl,rfl,fun _ _ _=>rfl⟩,trivial⟩<|oC 2 [] (c54 h23)<|oCk 2 [0,1,2,3,4,5,9,10] [(0,3)] (J0 h21) ⟨⟨_,rfl,rfl,fun _ _ _=>rfl⟩,trivial⟩<|oC 2 [] (c54 h19)<|aH 1<|oG (a:=(.agg [ai x16.a_.k,ai x16.a_.n,zV zD x16.a_.sub .no,ai x16.b_.k,ai x16.b_.n,zV zD x16.b_.sub .no])) 0 (ldE uA h17 (true,6) (val:=.agg [ai x16.a_.k,ai x16.a_.n,zV zD x16.a_.sub .no,ai x16.b_.k,ai x16.b_.n,zV zD x16.b_.sub .no]) rfl)<|oA 0 (zHd (b:=4) (o:=q10) (c:=yZ) (z:=6) h15)<|oB 0 h13 o0) (ih h)
  exact fun j=>lH 2 [] [0,1,2,3,4,5,6,7,8,9,10] [] [0,1,5,92,93,94] (oD (dI q17)<|oD (zK xG)<|oD (dT p2.sub)<|oD (zF q13)<|oD (zL vX)<|cU q0 q1 q2 q3 q4<|oD (zF r9.1)<|oB 0 h13 o0) (zGs _ h)
theorem jV{qq q0 q1 q2 q3 q4 q5 q6 q7 q8 q9 q10 yZ xE q13 xG q15 q16 q17 xC q19 p1 p2 r}(h:jU qq q0 q1 q2 q3 q4 q5 q6 q7 q8 q9 q10 yZ xE q13 xG q15 q16 q17 xC q19 p1 p2=some r):(match (generalizing:=false) r with | .inl x=>aX q0 q1 q2 q3 q4 q5 q6 q7 q8 q9 q10 yZ xE q13 xG q15 q16 q17 xC q19 p1 p2 x Ct | .inr (.inl x)=>aY q0 q1 q2 q3 q4 q5 q6 q7 q8 q9 q10 yZ xE q13 xG q15 q16 q17 xC q19 p1 p2 x Ct | .inr (.inr x)=>zIg q0 q1 q2 q3 q4 q5 q6 q7 q8 q9 q10 yZ xE q13 xG q15 q16 q17 xC q19 p1 p2 x Ct):=by
 unfold jU at h
 have z {os ob} (k:Oz os ob):=oD (zK xG)<|oD (zF q13)<|oD (zL q8)<|cU q0 q1 q2 q3 q4<|oD (zF q7)<|k
 obtain⟨r1,h2,h⟩:=zC h
 obtain⟨h3,h⟩|⟨h3,h⟩:=zU h
 obtain⟨r4,h5,h⟩:=zC h
 have k:=oK 1 [] h3 (zZi h2) o0
 obtain⟨h6,h⟩|⟨h6,h⟩:=zU h
 obtain⟨r7,h8,h⟩:=zC h
 cases h
 exact j9 (tG lN 1 [(some 6,0,0)] [0,1,2,3,4,5,6,7,10,9] [] false (oD (dI r7)<|z<|oC 0 [0,1,2,3,4,5,6,7] (I9 h8)<|oK 2 [1,2] h6 (zZd h5) k))
 cases h
 exact fA (tG lN 1 [(some 6,0,0),(some 7,0,0)] [0,1,2,3,4,5,6,7,9,10] [] false (oD (dI q17)<|z<|oK 2 [1,2] h6 (zZd h5) k))
 obtain⟨r9,h10,h⟩:=zC h
 have k:=oC 2 [] (yBU h10)<|oK 1 [] h3 (zZi h2) o0
 obtain⟨h11,h⟩|⟨h11,h⟩:=zU h
 cases h
 exact fA (tG lN 2 [(some 6,0,0),(some 7,0,0)] [0,1,2,3,4,5,6,7,9,10] [] false (oD (dI q17)<|z<|oB 2 h11 k))
 have k:=oB 2 h11 k
 obtain⟨h12,h⟩|⟨h12,h⟩:=zU h
 cases h
 exact fA (tG lN 1 [(some 6,0,0),(some 7,0,0)] [0,1,2,3,4,5,6,7,9,10] [] false (oD (dI q17)<|z<|oB 0 h12 k))
 rcases r with y0 | (y1|y2)
 exact j9 (tH lN 3 [(some 6,0,0),(some 7,0,0)] [0,1,2,3,4,5,6,7,8,9,10] [] [0,1,5,55,56,57] (oD (dI q17)<|oD (zK xG)<|oD (dT p2.sub)<|oD (zF q13)<|oD (zL q8)<|cU q0 q1 q2 q3 q4<|oD (zF r9.1)<|oB 0 h12 k) (eW _ h))
 exact fA (tH lN 3 [(some 6,0,0),(some 7,0,0)] [0,1,2,3,4,5,6,7,8,9,10] [] [0,1,5,55,56,57] (oD (dI q17)<|oD (zK xG)<|oD (dT p2.sub)<|oD (zF q13)<|oD (zL q8)<|cU q0 q1 q2 q3 q4<|oD (zF r9.1)<|oB 0 h12 k) (eW _ h))
 exact⟨tH lN 3 [(some 6,0,0),(some 7,0,0)] [0,1,2,3,4,5,6,7,8,9,10] [] [0,1,5,55,56,57] (oD (dI q17)<|oD (zK xG)<|oD (dT p2.sub)<|oD (zF q13)<|oD (zL q8)<|cU q0 q1 q2 q3 q4<|oD (zF r9.1)<|oB 0 h12 k) (eW _ h),⟨(lz rfl),tv,⟨tv,tv,⟨tv,dT _⟩,tv⟩,tv⟩,(zA ⟨(lz rfl),(lz rfl),⟨tv,zF _⟩,(lz rfl),tv,(lz rfl),(lz rfl),(lz rfl),tv,tv,tv⟩ (nW (lz rfl) (zA ⟨tv,tv,tv⟩ (zA (zL _) (zA (zF _) (zA (zK _) (zA (dI _) zB))))))),tv,(zA ⟨(lz rfl),(lz rfl),zF _,(lz rfl),tv,(lz rfl),(lz rfl),(lz rfl),tv,tv,tv⟩ (pW (lz rfl) (zA ⟨tv,tv,tv⟩ (zA (zL _) (zA (zF _) (zA tv (zA tv (zA (zK _) (zA (dI _) zB)))))))))⟩
theorem sH{α:Type}{l:List α}{i:Nat}{x:α}(h:l[i]? = some x):zW l (i:Int)=some x:=by
 have hd:l.drop i=x::l.drop (i+1):=by
  obtain⟨h1,h2⟩:=List.getElem?_eq_some_iff.1 h
  rw[List.drop_eq_getElem_cons h1,h2]
 exact yD hd
theorem eX(q0 q1:List yI)(q2:List sW)(q3 q4:List Int)(q5 q6:Int)(q7:List zR)(q8:List zM)(q9 q10 yZ:Nat)(xE:Bool)(q13:List zR)(xG:List zS)(q15 q16:Nat)(q17:List Int)(xC:Bool)(e:Int)(t:Tm)(e2:Int) :
  zN (fun q=>mK q q0 q1 q2 q3 q4 q5 q6 q7 q8 q9 q10 yZ xE q13 xG q15 q16 q17 xC e t e2) fun y=>y.1=t∧(y.2=0->e=0∧e2=0)∧(e=0->y.2=e2):=by
 simp only[mK]
 exact zN.ite (fun h=>zN.ret ⟨rfl,fun h2=>⟨by simpa using h,h2⟩,fun _=>rfl⟩) fun h=>zN.ret ⟨rfl,fun h2=>(by have h2':e=0:=h2;rw[h2']at h;cases h),fun h2=>(by rw[h2]at h;cases h)⟩
structure JE (t:Tm) (n:Int) (o:Nat) (q8 row:List zM) (v:Nat) (e:Int):Prop where
 len:row.length=q8.length
 ok:∀x∈row,x.a_.Ok∧x.b_.Ok
 rest:∀i,v≤i->row[o+i]? = q8[o+i]?
 done:e=0->∀i,i<v->row[o+i]? = (q8[o+i]?).map (naE t n)∧∀x,q8[o+i]? = some x->zH (qM t n x.a_ 0)=true∧zH (qM t n x.b_ 0)=true
theorem i4(q0 q1:List yI)(q2:List sW)(q3 q4:List Int)(q5 q6:Int)(q8:List zM)(q9 q10 yZ:Nat)(xE:Bool)(q13:List zR)(xG:List zS)(q15 q16:Nat)(q17:List Int)(xC:Bool)(n:Int)(t:Tm)(r9:List zR×Int)
  (hb:q10+q9≤q8.length) (hb2:q8.length≤17592186044416) (ht:t.Ok) {P:_->Prop} (K:∀row e,JE t n q10 q8 row q9 e->zN (fun q=>sQ q q0 q1 q2 q3 q4 q5 q6 q9 q10 yZ xE q13 q15 q16 q17 xC n t r9 row 0 e xG) P) :
  ∀(k v:Nat) (e:Int) (row:List zM),v+k=q9->JE t n q10 q8 row v e->zN (fun q=>rQ q q0 q1 q2 q3 q4 q5 q6 q9 q10 yZ xE q13 xG q15 q16 q17 xC n t r9 (v:Int) e row) P
 |0,v,e,row,hv,hJ=>by
  refine zN.succ ?_
  simp only[rQ]
  refine zN.ite (fun h=>absurd (of_decide_eq_true h) (by omega)) fun _=>?_
  have:v=q9:=by omega
  exact K row e (this▸hJ)
 |k+1,v,e,row,hv,hJ=>by
  have hlt:v<q9:=by omega
  have hlr:q10+v<row.length:=by rw[hJ.len];omega
  obtain⟨x,hx⟩:∃x,row[q10+v]? = some x:=⟨_,List.getElem?_eq_getElem hlr⟩
  have hxm:x∈row:=List.mem_of_getElem? hx
  have hxo:=hJ.ok x hxm
  have hx8:q8[q10+v]? = some x:=by rw[←hJ.rest v (Nat.le_refl _)];exact hx
  refine zN.succ ?_
  simp only[rQ]
  refine zN.ite (fun _=>zN.pure (lM hlt) (zN.pure (a:=x) (sH (i:=q10+v) hx) ?_)) fun h=>absurd (of_decide_eq_false h) (by omega)
  refine(lJ x.a_ t n hxo.1 ht).bind fun r18 h18=>(eX q0 q1 q2 q3 q4 q5 q6 r9.1 row q9 q10 yZ xE q13 xG q15 q16 q17 xC e r18.1 r18.2).bind fun r20 h20=>(lJ x.b_ t n hxo.2 ht).bind fun r22 h22=>(eX q0 q1 q2 q3 q4 q5 q6 r9.1 row q9 q10 yZ xE q13 xG q15 q16 q17 xC r20.2 r22.1 r22.2).bind fun r24 h24=>?_
  refine zN.pure (a:=row.set (q10+v) ⟨r20.1,r24.1⟩) (by unfold N5;rw[if_pos hlr]) ?_
  rw[yA v (by omega)]
  refine i4 q0 q1 q2 q3 q4 q5 q6 q8 q9 q10 yZ xE q13 xG q15 q16 q17 xC n t r9 hb hb2 ht K k (v+1) _ _ (by omega) ⟨by rw[List.length_set];exact hJ.len,fun y hy=>?_,fun i hi=>?_,fun h0 i hi=>?_⟩
  ·rcases List.mem_or_eq_of_mem_set hy with hy|rfl
   ·exact hJ.ok y hy
   ·exact⟨by show (r20.1).Ok;rw[h20.1];exact h18.1,by show (r24.1).Ok;rw[h24.1];exact h22.1⟩
  ·rw[List.getElem?_set_ne (by omega)]
   exact hJ.rest i (by omega)
  ·obtain⟨h1,h2⟩:=h24.2.1 h0
   obtain⟨h3,h4⟩:=h20.2.1 h1
   rcases Nat.lt_or_ge i v with h5|h5
   ·rw[List.getElem?_set_ne (by omega)]
    exact hJ.done h3 i h5
   ·have:i=v:=by omega
    subst this
    have ha:=(h18.2.2.1 h4).2.2.2.2
    have hb':=(h22.2.2.1 h2).2.2.2.2
    rw[List.getElem?_set_self hlr,hx8,h20.1,h24.1,ha.2,hb'.2]
    exact⟨rfl,fun y hy=>by cases hy;exact⟨ha.1,hb'.1⟩⟩
structure JS (t:Tm) (n:Int) (so row:List zS) (v:Nat) (e:Int):Prop where
 len:row.length=so.length
 ok:∀x∈row,x.t_.Ok
 rest:∀i,v≤i->row[i]? = so[i]?
 done:e=0->∀i,i<v->row[i]? = (so[i]?).map (naS t n)∧∀x,so[i]? = some x->zH (qM t n x.t_ 0)=true
theorem i5(q0 q1:List yI)(q2:List sW)(q3 q4:List Int)(q5 q6:Int)(q9 q10 yZ:Nat)(xE:Bool)(q13:List zR)(q15 q16:Nat)(q17:List Int)(xC:Bool)(n:Int)(t:Tm)(r9:List zR×Int)(td:List zM)(so:List zS)
  (hb:so.length=q15) (hb2:so.length≤1048576) (hb3:q17.length≤1048576) (ht:t.Ok) :
  ∀(k v:Nat) (e:Int) (row:List zS),v+k=q15->JS t n so row v e->zN (fun q=>sQ q q0 q1 q2 q3 q4 q5 q6 q9 q10 yZ xE q13 q15 q16 q17 xC n t r9 td (v:Int) e row) fun x=>∃row' e',JS t n so row' q15 e'∧(e'=0->e=0)∧x = .inr (.inr (r9.1,row'++[⟨n,t⟩],q17++[1],xC,e',td))
 |0,v,e,row,hv,hJ=>by
  refine zN.succ ?_
  simp only[sQ,I8]
  refine zN.ite (fun h=>absurd (of_decide_eq_true h) (by omega)) fun _=>?_
  have hvq:v=q15:=by omega
  have hl:=hJ.len
  refine zN.pure (a:=row) (by unfold gfz;rw[if_pos (by omega)]) (zN.pure (yK (by simp;omega)) (zN.bind (P:=fun s=>s=q17++[1]) (zN.pure (yK (by simp;omega)) (zN.ret rfl)) fun s hs=>zN.ret ?_))
  subst hs
  exact⟨row,e,hvq▸hJ,id,rfl⟩
 |k+1,v,e,row,hv,hJ=>by
  have hlt:v<q15:=by omega
  have hl:=hJ.len
  have hlr:v<row.length:=by omega
  obtain⟨x,hx⟩:∃x,row[v]? = some x:=⟨_,List.getElem?_eq_getElem hlr⟩
  have hxm:x∈row:=List.mem_of_getElem? hx
  have hx8:so[v]? = some x:=by rw[←hJ.rest v (Nat.le_refl _)];exact hx
  have hgi:zW row (v:Int)=some x:=sH hx
  refine zN.succ ?_
  simp only[sQ]
  refine zN.ite (fun _=>zN.pure (lM hlt) (zN.pure hgi ?_)) fun h=>absurd (of_decide_eq_false h) (by omega)
  refine(lJ x.t_ t n (hJ.ok x hxm) ht).bind fun r33 h33=>(eX q0 q1 q2 q3 q4 q5 q6 r9.1 td q9 q10 yZ xE q13 row q15 q16 q17 xC e r33.1 r33.2).bind fun r35 h35=>?_
  refine zN.pure hgi (zN.pure (a:=row.set v ⟨x.n_,r35.1⟩) (by unfold N5;rw[if_pos hlr]) ?_)
  rw[yA v (by omega)]
  refine(i5 q0 q1 q2 q3 q4 q5 q6 q9 q10 yZ xE q13 q15 q16 q17 xC n t r9 td so hb hb2 hb3 ht k (v+1) _ _ (by omega) ⟨by rw[List.length_set];exact hJ.len,fun y hy=>?_,fun i hi=>?_,fun h0 i hi=>?_⟩).mono fun z hz=>?_
  ·rcases List.mem_or_eq_of_mem_set hy with hy|rfl
   ·exact hJ.ok y hy
   ·show (r35.1).Ok;rw[h35.1];exact h33.1
  ·rw[List.getElem?_set_ne (by omega)]
   exact hJ.rest i (by omega)
  ·obtain⟨h3,h4⟩:=h35.2.1 h0
   rcases Nat.lt_or_ge i v with h5|h5
   ·rw[List.getElem?_set_ne (by omega)]
    exact hJ.done h3 i h5
   ·have:i=v:=by omega
    subst this
    have ha:=(h33.2.2.1 h4).2.2.2.2
    rw[List.getElem?_set_self hlr,hx8,h35.1,ha.2]
    exact⟨rfl,fun y hy=>by cases hy;exact ha.1⟩
  ·obtain⟨row',e',h1,h2,h3⟩:=hz
   exact⟨row',e',h1,fun h=>(h35.2.1 (h2 h)).1,h3⟩
def zZD(l:List yI)(c:List zR)(q8:List zM)(q9 q10:Nat)(so:List zS)(q15 q16:Nat)(q17:List Int)(xC:Bool)(n:Int)(t:Tm)
  (x:(List zR×List zS×Nat×Nat×List Int×Int×List zM) ⊕ ((List zR×List zS×Nat×Nat×List Int×Bool×Int×List zM) ⊕ (List zR×List zS×List Int×Bool×Int×List zM))):Prop:=
 (x = .inl (c,so,q15,q16,q17++[3],0,q8)∧Bnt l n t) ∨
 (∃e,e≠0∧x = .inr (.inl (c,so,q15,q16,q17,xC,e,q8))) ∨
 (∃d row so' e,x = .inr (.inr (d,so'++[⟨n,t⟩],q17++[1],xC,e,row))∧row.length=q8.length∧(∀x∈row,x.a_.Ok∧x.b_.Ok)∧so'.length=so.length∧(∀x∈so',x.t_.Ok)∧¬n∈nY t∧zFV c n t d ∧
  (e=0->so'=so.map (naS t n)∧(row.drop q10).take q9=((q8.drop q10).take q9).map (naE t n)∧(∀x∈(q8.drop q10).take q9,zH (qM t n x.a_ 0)=true∧zH (qM t n x.b_ 0)=true)∧∀s∈so,zH (qM t n s.t_ 0)=true))
theorem i6{N:ByteArray->Bool}{l:List yI}(hE:wP N l)(q5 q6:Int)(c:List zR)(q8:List zM)(q9 q10 yZ:Nat)(xE:Bool)(q13:List zR)(so:List zS)(q15 q16:Nat)(q17:List Int)(xC:Bool)(n:Int)(t:Tm)
  (hb:q10+q9≤q8.length) (hb2:q8.length≤17592186044416) (hok:∀x∈q8,x.a_.Ok∧x.b_.Ok) (hso:so.length=q15) (hso2:so.length≤1048576) (hsok:∀x∈so,x.t_.Ok) (hst:q17.length≤1048576) (hc:c.length≤524288) (hco:∀v∈c,v.type_.Ok) (hs:zH t=true) :
  zN (fun q=>jU q l l (lW l l.length 0) (l.map wG) (l.map rX) q5 q6 c q8 q9 q10 yZ xE q13 so q15 q16 q17 xC 0 n t) (zZD l c q8 q9 q10 so q15 q16 q17 xC n t):=by
 have ht:=yB hs
 simp only[jU,pM]
 refine zN.bind (P:=fun b=>b=decide (n∈nY t)) ((zMa t n hs).tot rfl) fun b hb0=>zN.ite (fun h1=>?_) fun h1=>?_
 ·refine(zFZ hE n t.nodes t (Nat.le_refl _) hs).bind fun b2 hb2=>zN.ite (fun h2=>?_) fun _=>zN.ret (.inr (.inl ⟨13,by decide,rfl⟩))
  exact zN.bind (P:=fun s=>s=q17++[3]) (zN.pure (yK (by simp;omega)) (zN.ret rfl)) fun s hs=>zN.ret (.inl ⟨by rw[hs],hb2 h2⟩)
 ·refine(zGt hc hco n t ht).bind fun r9 h9=>zN.ite (fun _=>zN.ret (.inr (.inl ⟨13,by decide,rfl⟩))) fun _=>zN.ite (fun h3=>zN.ret (.inr (.inl ⟨r9.2,by simpa using h3,rfl⟩))) fun h3=>?_
  have h0:r9.2=0:=by simpa using h3
  obtain⟨hP,hnf⟩:=h9 h0
  refine i4 l l _ _ _ q5 q6 q8 q9 q10 yZ xE q13 so q15 q16 q17 xC n t r9 hb hb2 ht (fun row e hJ=>?_) q9 0 0 q8 (by omega) ⟨rfl,hok,fun i _=>rfl,fun _ i hi=>absurd hi (Nat.not_lt_zero _)⟩
  refine(i5 l l _ _ _ q5 q6 q9 q10 yZ xE q13 q15 q16 q17 xC n t r9 row so hso hso2 hst ht q15 0 e so (by omega) ⟨rfl,hsok,fun i _=>rfl,fun _ i hi=>absurd hi (Nat.not_lt_zero _)⟩).mono fun x hx=>?_
  obtain⟨row',e',hS,he,rfl⟩:=hx
  refine .inr (.inr ⟨r9.1,row,row',e',rfl,hJ.len,hJ.ok,hS.len,hS.ok,hnf,hP,fun h0=>⟨?_,?_,fun x hx=>?_,fun s hs'=>?_⟩⟩)
  ·refine List.ext_getElem? fun i=>?_
   rw[List.getElem?_map]
   rcases Nat.lt_or_ge i q15 with h5|h5
   ·exact(hS.done h0 i h5).1
   ·rw[List.getElem?_eq_none (by rw[hS.len];omega),List.getElem?_eq_none (by omega)];rfl
  ·refine List.ext_getElem? fun i=>?_
   rw[List.getElem?_map,List.getElem?_take,List.getElem?_take,List.getElem?_drop,List.getElem?_drop]
   by_cases h5:i<q9
   ·rw[if_pos h5,if_pos h5]
    exact(hJ.done (he h0) i h5).1
   ·rw[if_neg h5,if_neg h5];rfl
  ·obtain⟨i,hi⟩:=List.getElem?_of_mem hx
   rw[List.getElem?_take,List.getElem?_drop]at hi
   by_cases h5:i<q9
   ·rw[if_pos h5]at hi
    exact(hJ.done (he h0) i h5).2 x hi
   ·rw[if_neg h5]at hi;cases hi
  ·obtain⟨i,hi⟩:=List.getElem?_of_mem hs'
   have h5:i<q15:=by have:=(List.getElem?_eq_some_iff.1 hi).1;omega
   exact(hS.done h0 i h5).2 s hi
def zMH(qq:Nat)(M:wA)(q0_l:yV)(fl fu q0_e:Int)(p1:Tm):Option (Tm×Int×Int×Int):=
 zFP qq M p1 fl fu>>=fun r1=>
 if q0_e==0 then
 some (r1.1,r1.2.1,r1.2.2.1,r1.2.2.2)
 else
 some (r1.1,q0_e,r1.2.2.1,r1.2.2.2)
theorem zZE:Qf 147 f147:=⟨func147,rfl⟩
theorem zZF{qq M q0_l fl fu q0_e p1 r}(h:zMH qq M q0_l fl fu q0_e p1=some r):Ct 147 [.cells [.mp 1 0,zV xJ q0_l .no,.mp 3 0,ai q0_e],mB M 2,mR M,.cells [ai fl,ai fu]] [.mp 0 0,yY p1] (yY r.1) [.cells [.mp 1 0,zV xJ q0_l .no,.mp 3 0,ai r.2.1],mB M 2,mR M,.cells [ai r.2.2.1,ai r.2.2.2]] 0:=⟨by
 unfold zMH at h
 obtain⟨r1,h2,h⟩:=zC h
 have k:=oC 3 [1,2,3] (zWp h2) o0
 obtain⟨h3,h⟩|⟨h3,h⟩:=zU h
 cases h
 exact tF zZE 3 [0,1,2,3] (oD (dT r1.1.sub)<|sP M<|oD (dE q0_l)<|oB 4 h3 k)
 cases h
 exact tF zZE 2 [0,1,2,3] (oD (dT r1.1.sub)<|sP M<|oD (dE q0_l)<|oB 4 h3 k),⟨(lz rfl),⟨tv,tv,⟨tv,dT _⟩,tv⟩,tv⟩,(zA ⟨(lz rfl),⟨tv,dE _⟩,(lz rfl),tv,tv⟩ (nW (lz rfl) (zA ⟨tv,tv,tv⟩ zB))),⟨tv,tv,dT _,tv⟩,(zA ⟨(lz rfl),dE _,(lz rfl),tv,tv⟩ (pW (lz rfl) (zA ⟨tv,tv,tv⟩ zB)))⟩
def zIf(qq:Nat)(M:wA)(q0_l:yV)(fl fu q0_e:Int)(p1 p2:Tm):Option (Tm×Tm×Bool×Int×Int×Int):=
 if q0_e != 0 then
 some (p1,p2,false,q0_e,fl,fu)
 else
 zMH qq M q0_l fl fu q0_e p1>>=fun r2=>
 if r2.2.1 != 0 then
 some (r2.1,p2,false,r2.2.1,r2.2.2.1,r2.2.2.2)
 else
 zMH qq M q0_l r2.2.2.1 r2.2.2.2 r2.2.1 p2>>=fun r5=>
 some (r2.1,r5.1,(r5.2.1==0),r5.2.1,r5.2.2.1,r5.2.2.2)
theorem zWg:Qf 114 f114:=⟨func114,rfl⟩
theorem yBV{qq M q0_l fl fu q0_e p1 p2 r}(h:zIf qq M q0_l fl fu q0_e p1 p2=some r):Ct 114 [.cells [.mp 1 0,zV xJ q0_l .no,.mp 3 0,ai q0_e],mB M 2,mR M,.cells [ai fl,ai fu]] [.mp 0 0,yY p1,yY p2] (.tup [yY r.1,yY r.2.1,ab r.2.2.1]) [.cells [.mp 1 0,zV xJ q0_l .no,.mp 3 0,ai r.2.2.2.1],mB M 2,mR M,.cells [ai r.2.2.2.2.1,ai r.2.2.2.2.2]] 0:=⟨by
 unfold zIf at h
 obtain⟨h1,h⟩|⟨h1,h⟩:=zU h
 cases h
 exact tF zWg 4 [0,1,2,3] (oD (dT p2.sub)<|oD (dT p1.sub)<|sP M<|oD (dE q0_l)<|oB 1 h1 o0)
 obtain⟨r2,h3,h⟩:=zC h
 have k:=oC 1 [0,1,2,3] (zZF h3)<|oB 1 h1 o0
 obtain⟨h4,h⟩|⟨h4,h⟩:=zU h
 cases h
 exact tF zWg 4 [0,1,2,3] (oD (dT p2.sub)<|oD (dT r2.1.sub)<|sP M<|oD (dE q0_l)<|oB 2 h4 k)
 obtain⟨r5,h6,h⟩:=zC h
 cases h
 exact tF zWg 7 [0,1,2,3] (oD (dT r5.1.sub)<|oD (dT r2.1.sub)<|sP M<|oD (dE q0_l)<|oC 1 [0,1,2,3] (zZF h6)<|oB 2 h4 k),⟨(lz rfl),⟨tv,tv,⟨tv,dT _⟩,tv⟩,⟨tv,tv,⟨tv,dT _⟩,tv⟩,tv⟩,(zA ⟨(lz rfl),⟨tv,dE _⟩,(lz rfl),tv,tv⟩ (nW (lz rfl) (zA ⟨tv,tv,tv⟩ zB))),⟨⟨tv,tv,dT _,tv⟩,⟨tv,tv,dT _,tv⟩,tv,tv⟩,(zA ⟨(lz rfl),dE _,(lz rfl),tv,tv⟩ (pW (lz rfl) (zA ⟨tv,tv,tv⟩ zB)))⟩
def zQE(qq:Nat)(p0:Int):Option Tm:=
 zEY qq 6 p0 []>>=fun r1=>
 some r1
theorem zZG{qq p0 r}(h:zQE qq p0=some r):Ct 127 [] [ai p0] (yY r) [] 0:=⟨by
 unfold zQE at h
 obtain⟨r1,h2,h⟩:=zC h
 obtain rfl:=sj h
 exact tF ⟨func127,rfl⟩ 1 [] (oD (dT r1.sub)<|oC 0 [] (zLB h2) o0),⟨tv,tv⟩,zB,⟨tv,tv,dT _,tv⟩,zB⟩
def zAK(qq:Nat)(M:wA)(q0_l:yV)(fl fu q0_e:Int)(p1:Tm):Option (Tm×Int):=
 if p1.k==4 then
 zW p1.sub 1>>=fun x2=>
 some (x2,q0_e)
 else
 zFz qq p1 1>>=fun r4=>
 zCG qq 0>>=fun r6=>
 u7 qq r4.1 r6>>=fun r8=>
 if r4.2==0 then
 bI qq r8>>=fun r11=>
 if r11 then
 if q0_e==0 then
 some (r8,r4.2)
 else
 some (r8,q0_e)
 else
 if q0_e==0 then
 some (r8,2)
 else
 some (r8,q0_e)
 else
 if q0_e==0 then
 some (r8,r4.2)
 else
 some (r8,q0_e)
theorem zIe:Qf 148 f148:=⟨func148,rfl⟩
theorem zTI{qq M q0_l fl fu q0_e p1 r}(h:zAK qq M q0_l fl fu q0_e p1=some r):Ct 148 [.cells [.mp 1 0,zV xJ q0_l .no,.mp 3 0,ai q0_e],mB M 2,mR M,.cells [ai fl,ai fu]] [.mp 0 0,yY p1] (yY r.1) [.cells [.mp 1 0,zV xJ q0_l .no,.mp 3 0,ai r.2],mB M 2,mR M,.cells [ai fl,ai fu]] 0:=⟨by
 unfold zAK at h
 have z {os ob} (k:Oz os ob):=sP M<|oD (dE q0_l)<|k
 obtain⟨h1,h⟩|⟨h1,h⟩:=zU h
 obtain⟨x2,h3,h⟩:=zC h
 cases h
 exact tF zIe 2 [0,1,2,3] (oD (dT x2.sub)<|z<|oA 1 (xH (o:=.no) h3)<|oB 1 h1 o0)
 obtain⟨r4,h5,h⟩:=zC h
 obtain⟨r6,h7,h⟩:=zC h
 obtain⟨r8,h9,h⟩:=zC h
 have k:=oC 0 [] (zAB h9)<|oC 4 [] (zLF h7)<|oC 1 [] (zSt h5)<|oB 1 h1 o0
 obtain⟨h10,h⟩|⟨h10,h⟩:=zU h
 obtain⟨r11,h12,h⟩:=zC h
 have k:=oB 1 h10 k
 obtain⟨h13,h⟩|⟨h13,h⟩:=zU h
 have k:=oK 1 [] h13 (nC h12) k
 obtain⟨h14,h⟩|⟨h14,h⟩:=zU h
 cases h
 exact tF zIe 3 [0,1,2,3] (oD (dT r8.sub)<|z<|oB 2 h14 k)
 cases h
 exact tF zIe 2 [0,1,2,3] (oD (dT r8.sub)<|z<|oB 2 h14 k)
 have k:=oK 1 [] h13 (nC h12) k
 obtain⟨h15,h⟩|⟨h15,h⟩:=zU h
 cases h
 exact tF zIe 3 [0,1,2,3] (oD (dT r8.sub)<|z<|oB 2 h15 k)
 cases h
 exact tF zIe 2 [0,1,2,3] (oD (dT r8.sub)<|z<|oB 2 h15 k)
 have k:=oB 1 h10 k
 obtain⟨h16,h⟩|⟨h16,h⟩:=zU h
 cases h
 exact tF zIe 3 [0,1,2,3] (oD (dT r8.sub)<|z<|oB 1 h16 k)
 cases h
 exact tF zIe 2 [0,1,2,3] (oD (dT r8.sub)<|z<|oB 1 h16 k),⟨(lz rfl),⟨tv,tv,⟨tv,dT _⟩,tv⟩,tv⟩,(zA ⟨(lz rfl),⟨tv,dE _⟩,(lz rfl),tv,tv⟩ (nW (lz rfl) (zA ⟨tv,tv,tv⟩ zB))),⟨tv,tv,dT _,tv⟩,(zA ⟨(lz rfl),dE _,(lz rfl),tv,tv⟩ (pW (lz rfl) (zA ⟨tv,tv,tv⟩ zB)))⟩
def zGr(qq:Nat)(M:wA)(q0_l:yV)(fl fu q0_e:Int)(p1:Tm):Option (Int×yM×Bool):=
 m4 qq M p1>>=fun r1=>
 if r1.2.2 then
 zW q0_l r1.1>>=fun x4=>
 zW q0_l x4.fam>>=fun x6=>
 if (x6.fields.length:Int)==0 then
 some (0,[],false)
 else
 some (r1.1,r1.2.1,true)
 else
 some (0,[],false)
theorem zWf:Qf 149 f149:=⟨func149,rfl⟩
theorem zTJ{qq M q0_l fl fu q0_e p1 r}(h:zGr qq M q0_l fl fu q0_e p1=some r):Ct 149 [.cells [.mp 1 0,zV xJ q0_l .no,.mp 3 0,ai q0_e],mB M 2,mR M,.cells [ai fl,ai fu]] [.mp 0 0,yY p1] (.tup [ai r.1,.sl (zG zD r.2.1) r.2.1.length .no,ab r.2.2]) [.cells [.mp 1 0,zV xJ q0_l .no,.mp 3 0,ai q0_e],mB M 2,mR M,.cells [ai fl,ai fu]] 0:=⟨by
 unfold zGr at h
 obtain⟨r1,h2,h⟩:=zC h
 have k:=oC 2 [1,2] (zQf h2) o0
 obtain⟨h3,h⟩|⟨h3,h⟩:=zU h
 obtain⟨x4,h5,h⟩:=zC h
 obtain⟨x6,h7,h⟩:=zC h
 have k:=oA 1 (wI (o:=.no) h7)<|oA 3 (wI (o:=.no) h5)<|oB 2 h3 k
 obtain⟨h8,h⟩|⟨h8,h⟩:=zU h
 cases h
 exact tF zWf 0 [0,1,2,3] (oD (dT ([]:yM))<|sP M<|oD (dE q0_l)<|oB 2 h8 k)
 cases h
 exact tF zWf 0 [0,1,2,3] (oD (dT r1.2.1)<|sP M<|oD (dE q0_l)<|oB 2 h8 k)
 cases h
 exact tF zWf 1 [0,1,2,3] (oD (dT ([]:yM))<|sP M<|oD (dE q0_l)<|oB 2 h3 k),⟨(lz rfl),⟨tv,tv,⟨tv,dT _⟩,tv⟩,tv⟩,(zA ⟨(lz rfl),⟨tv,dE _⟩,(lz rfl),tv,tv⟩ (nW (lz rfl) (zA ⟨tv,tv,tv⟩ zB))),⟨tv,dT _,tv,tv⟩,(zA ⟨(lz rfl),dE _,(lz rfl),tv,tv⟩ (pW (lz rfl) (zA ⟨tv,tv,tv⟩ zB)))⟩
def zMI(qq:Nat)(M:wA)(q0_l:yV)(fl fu q0_e:Int)(p1:Tm)(p2 p3:Int)(p4:yM):Option (Tm×Int):=
 zGr qq M q0_l fl fu q0_e p1>>=fun r1=>
 if r1.2.2 then
 if r1.1==p2 then
 zW r1.2.1 (xL ((p4.length:Int)+p3))>>=fun x5=>
 some (x5,q0_e)
 else
 zW q0_l p2>>=fun x7=>
 zW q0_l x7.fam>>=fun x9=>
 zW x9.fields p3>>=fun x11=>
 zQE qq x11>>=fun r13=>
 aK qq r13 p4>>=fun r15=>
 u7 qq r15 p1>>=fun r17=>
 if q0_e==0 then
 bI qq r17>>=fun r20=>
 if r20 then
 some (r17,q0_e)
 else
 some (r17,2)
 else
 some (r17,q0_e)
 else
 zW q0_l p2>>=fun x23=>
 zW q0_l x23.fam>>=fun x25=>
 zW x25.fields p3>>=fun x27=>
 zQE qq x27>>=fun r29=>
 aK qq r29 p4>>=fun r31=>
 u7 qq r31 p1>>=fun r33=>
 if q0_e==0 then
 bI qq r33>>=fun r36=>
 if r36 then
 some (r33,q0_e)
 else
 some (r33,2)
 else
 some (r33,q0_e)
theorem zId:Qf 184 f184:=⟨func184,rfl⟩
theorem zZH{qq M q0_l fl fu q0_e p1 p2 p3 p4 r}(h:zMI qq M q0_l fl fu q0_e p1 p2 p3 p4=some r):Ct 184 [.cells [.mp 1 0,zV xJ q0_l .no,.mp 3 0,ai q0_e],mB M 2,mR M,.cells [ai fl,ai fu]] [.mp 0 0,yY p1,ai p2,ai p3,zV zD p4 .no] (yY r.1) [.cells [.mp 1 0,zV xJ q0_l .no,.mp 3 0,ai r.2],mB M 2,mR M,.cells [ai fl,ai fu]] 0:=⟨by
 unfold zMI at h
 have z {os ob} (k:Oz os ob):=sP M<|oD (dE q0_l)<|k
 obtain⟨r1,h2,h⟩:=zC h
 have k:=oC 1 [0,1,2,3] (zTJ h2) o0
 obtain⟨h3,h⟩|⟨h3,h⟩:=zU h
 have k:=oB 2 h3 k
 obtain⟨h4,h⟩|⟨h4,h⟩:=zU h
 obtain⟨x5,h6,h⟩:=zC h
 cases h
 exact tF zId 2 [0,1,2,3] (oD (dT x5.sub)<|z<|oA 2 (xH (o:=.no) h6)<|oB 0 h4 k)
 obtain⟨x7,h8,h⟩:=zC h
 obtain⟨x9,h10,h⟩:=zC h
 obtain⟨x11,h12,h⟩:=zC h
 obtain⟨r13,h14,h⟩:=zC h
 obtain⟨r15,h16,h⟩:=zC h
 obtain⟨r17,h18,h⟩:=zC h
 have k:=oC 1 [] (zAB h18)<|oC 0 [] (zAC h16)<|oC 1 [] (zZG h14)<|oA 1 (nI (o:=.no) h12)<|oA 1 (wI (o:=.no) h10)<|oA 2 (wI (o:=.no) h8)<|oB 0 h4 k
 obtain⟨h19,h⟩|⟨h19,h⟩:=zU h
 obtain⟨r20,h21,h⟩:=zC h
 have k:=oB 2 h19 k
 obtain⟨h22,h⟩|⟨h22,h⟩:=zU h
 cases h
 exact tF zId 3 [0,1,2,3] (oD (dT r17.sub)<|z<|oK 1 [] h22 (nC h21) k)
 cases h
 exact tF zId 4 [0,1,2,3] (oD (dT r17.sub)<|z<|oK 1 [] h22 (nC h21) k)
 cases h
 exact tF zId 2 [0,1,2,3] (oD (dT r17.sub)<|z<|oB 2 h19 k)
 obtain⟨x23,h24,h⟩:=zC h
 obtain⟨x25,h26,h⟩:=zC h
 obtain⟨x27,h28,h⟩:=zC h
 obtain⟨r29,h30,h⟩:=zC h
 obtain⟨r31,h32,h⟩:=zC h
 obtain⟨r33,h34,h⟩:=zC h
 have k:=oC 1 [] (zAB h34)<|oC 0 [] (zAC h32)<|oC 1 [] (zZG h30)<|oA 1 (nI (o:=.no) h28)<|oA 1 (wI (o:=.no) h26)<|oA 2 (wI (o:=.no) h24)<|oB 2 h3 k
 obtain⟨h35,h⟩|⟨h35,h⟩:=zU h
 obtain⟨r36,h37,h⟩:=zC h
 have k:=oB 2 h35 k
 obtain⟨h38,h⟩|⟨h38,h⟩:=zU h
 cases h
 exact tF zId 3 [0,1,2,3] (oD (dT r33.sub)<|z<|oK 1 [] h38 (nC h37) k)
 cases h
 exact tF zId 4 [0,1,2,3] (oD (dT r33.sub)<|z<|oK 1 [] h38 (nC h37) k)
 cases h
 exact tF zId 2 [0,1,2,3] (oD (dT r33.sub)<|z<|oB 2 h35 k),⟨(lz rfl),⟨tv,tv,⟨tv,dT _⟩,tv⟩,tv,tv,⟨tv,dT _⟩,tv⟩,(zA ⟨(lz rfl),⟨tv,dE _⟩,(lz rfl),tv,tv⟩ (nW (lz rfl) (zA ⟨tv,tv,tv⟩ zB))),⟨tv,tv,dT _,tv⟩,(zA ⟨(lz rfl),dE _,(lz rfl),tv,tv⟩ (pW (lz rfl) (zA ⟨tv,tv,tv⟩ zB)))⟩
def zTK(qq:Nat)(p0 p1:Int):Option Bool:=
 some (p0==p1)
theorem yBW{qq p0 p1 r}(h:zTK qq p0 p1=some r):Ct 116 [] [ai p0,ai p1] (ab r) [] 0:=⟨by
 unfold zTK at h
 cases h
 exact tF ⟨func116,rfl⟩ 1 [] (o0),⟨tv,tv,tv⟩,zB,tv,zB⟩
mutual
def uR:Nat->yV->yV->uM->zZ->zZ->yV->Int->Int->Int->Tm->Tm->Option (Bool×Int×Int×Int)
 |0,_,_,_,_,_,_,_,_,_,_,_=>none
 |qq+1,q0,q1,q2,q3,q4,q5,q6,q7,q8,p1,p2=>
 zIf qq (wA.mk q0 q1 q2 q3 q4) q5 q6 q7 q8 p1 p2>>=fun r1=>
 if r1.2.2.1 then
 eY qq q0 q1 q2 q3 q4 q5 r1.2.2.2.2.1 r1.2.2.2.2.2 r1.2.2.2.1 r1.1 r1.2.1>>=fun r4=>
 some (r4.1,r4.2.1,r4.2.2.1,r4.2.2.2)
 else
 some (false,r1.2.2.2.1,r1.2.2.2.2.1,r1.2.2.2.2.2)
def eY:Nat->yV->yV->uM->zZ->zZ->yV->Int->Int->Int->Tm->Tm->Option (Bool×Int×Int×Int)
 |0,_,_,_,_,_,_,_,_,_,_,_=>none
 |qq+1,q0,q1,q2,q3,q4,q5,q6,q7,q8,p1,p2=>
 if p1.k==4 then
 zAK qq (wA.mk q0 q1 q2 q3 q4) q5 q6 q7 q8 p1>>=fun r2=>
 zAK qq (wA.mk q0 q1 q2 q3 q4) q5 q6 q7 r2.2 p2>>=fun r4=>
 uR qq q0 q1 q2 q3 q4 q5 q6 q7 r4.2 r2.1 r4.1>>=fun r6=>
 some (r6.1,r6.2.1,r6.2.2.1,r6.2.2.2)
 else
 if p2.k==4 then
 zAK qq (wA.mk q0 q1 q2 q3 q4) q5 q6 q7 q8 p1>>=fun r9=>
 zAK qq (wA.mk q0 q1 q2 q3 q4) q5 q6 q7 r9.2 p2>>=fun r11=>
 uR qq q0 q1 q2 q3 q4 q5 q6 q7 r11.2 r9.1 r11.1>>=fun r13=>
 some (r13.1,r13.2.1,r13.2.2.1,r13.2.2.2)
 else
 zGr qq (wA.mk q0 q1 q2 q3 q4) q5 q6 q7 q8 p1>>=fun r15=>
 if r15.2.2 then
 zGr qq (wA.mk q0 q1 q2 q3 q4) q5 q6 q7 q8 p2>>=fun r18=>
 if r18.2.2 then
 if r15.1 != r18.1 then
 some (false,q8,q6,q7)
 else
 zW q5 r15.1>>=fun x22=>
 fK r15.2.1 0 x22.pars>>=fun x24=>
 lO qq q0 q1 q2 q3 q4 q5 q6 q7 q8 p1 p2 r15.1 x24>>=fun r26=>
 some (r26.1,r26.2.1,r26.2.2.1,r26.2.2.2)
 else
 zW q5 r15.1>>=fun x28=>
 fK r15.2.1 0 x28.pars>>=fun x30=>
 lO qq q0 q1 q2 q3 q4 q5 q6 q7 q8 p1 p2 r15.1 x30>>=fun r32=>
 some (r32.1,r32.2.1,r32.2.2.1,r32.2.2.2)
 else
 zGr qq (wA.mk q0 q1 q2 q3 q4) q5 q6 q7 q8 p2>>=fun r34=>
 if r34.2.2 then
 zW q5 r34.1>>=fun x37=>
 fK r34.2.1 0 x37.pars>>=fun x39=>
 lO qq q0 q1 q2 q3 q4 q5 q6 q7 q8 p1 p2 r34.1 x39>>=fun r41=>
 some (r41.1,r41.2.1,r41.2.2.1,r41.2.2.2)
 else
 if p1.k != p2.k then
 some (false,q8,q6,q7)
 else
 if p1.k==3 then
 zW p1.sub 0>>=fun x45=>
 zW p2.sub 0>>=fun x47=>
 uR qq q0 q1 q2 q3 q4 q5 q6 q7 q8 x45 x47>>=fun r49=>
 if r49.1 then
 zW p1.sub 1>>=fun x52=>
 zW p2.sub 1>>=fun x54=>
 uR qq q0 q1 q2 q3 q4 q5 r49.2.2.1 r49.2.2.2 r49.2.1 x52 x54>>=fun r56=>
 some (r56.1,r56.2.1,r56.2.2.1,r56.2.2.2)
 else
 some (false,r49.2.1,r49.2.2.1,r49.2.2.2)
 else
 if p1.k==2 then
 zTK qq p1.n p2.n>>=fun r59=>
 some (r59,q8,q6,q7)
 else
 eZ qq q0 q1 q2 q3 q4 q5 q6 q7 q8 p1 p2>>=fun r61=>
 some (r61.1,r61.2.1,r61.2.2.1,r61.2.2.2)
def lO:Nat->yV->yV->uM->zZ->zZ->yV->Int->Int->Int->Tm->Tm->Int->yM->Option (Bool×Int×Int×Int)
 |0,_,_,_,_,_,_,_,_,_,_,_,_,_=>none
 |qq+1,q0,q1,q2,q3,q4,q5,q6,q7,q8,p1,p2,p3,p4=>
 zW q5 p3>>=fun x1=>
 zW q5 x1.fam>>=fun x3=>
 sB qq q0 q1 q2 q3 q4 q5 p1 p2 p3 p4 x3 0 q8 q6 q7
def sB:Nat->yV->yV->uM->zZ->zZ->yV->Tm->Tm->Int->yM->yI->Int->Int->Int->Int->Option (Bool×Int×Int×Int)
 |0,_,_,_,_,_,_,_,_,_,_,_,_,_,_,_=>none
 |qq+1,q0,q1,q2,q3,q4,q5,p1,p2,p3,p4,x3,v28,tC,vA,vB=>
 if decide (v28<(x3.fields.length:Int))then
 zMI qq (wA.mk q0 q1 q2 q3 q4) q5 vA vB tC p1 p3 v28 p4>>=fun r6=>
 zMI qq (wA.mk q0 q1 q2 q3 q4) q5 vA vB r6.2 p2 p3 v28 p4>>=fun r8=>
 uR qq q0 q1 q2 q3 q4 q5 vA vB r8.2 r6.1 r8.1>>=fun r10=>
 if r10.1 then
 sB qq q0 q1 q2 q3 q4 q5 p1 p2 p3 p4 x3 (xL (v28+1)) r10.2.1 r10.2.2.1 r10.2.2.2
 else
 some (false,r10.2.1,r10.2.2.1,r10.2.2.2)
 else
 some (true,tC,vA,vB)
def eZ:Nat->yV->yV->uM->zZ->zZ->yV->Int->Int->Int->Tm->Tm->Option (Bool×Int×Int×Int)
 |0,_,_,_,_,_,_,_,_,_,_,_=>none
 |qq+1,q0,q1,q2,q3,q4,q5,q6,q7,q8,p1,p2=>
 u6 qq p1>>=fun r1=>
 u6 qq p2>>=fun r3=>
 if r1.1.k != r3.1.k then
 some (false,q8,q6,q7)
 else
 if r1.1.n != r3.1.n then
 some (false,q8,q6,q7)
 else
 if (r1.2.length:Int) != (r3.2.length:Int)then
 some (false,q8,q6,q7)
 else
 if r1.1.k==7 then
 zW r1.1.sub 0>>=fun x9=>
 zW r3.1.sub 0>>=fun x11=>
 if x9.n != x11.n then
 some (false,q8,q6,q7)
 else
 if r1.1.k==3 then
 uR qq q0 q1 q2 q3 q4 q5 q6 q7 q8 x9 x11>>=fun r15=>
 if r15.1 then
 zW r1.1.sub 1>>=fun x18=>
 zW r3.1.sub 1>>=fun x20=>
 uR qq q0 q1 q2 q3 q4 q5 r15.2.2.1 r15.2.2.2 r15.2.1 x18 x20>>=fun r22=>
 if r22.1 then
 wO qq q0 q1 q2 q3 q4 q5 r1 r3 0 r22.2.1 r22.2.2.1 r22.2.2.2
 else
 some (false,r22.2.1,r22.2.2.1,r22.2.2.2)
 else
 some (false,r15.2.1,r15.2.2.1,r15.2.2.2)
 else
 wO qq q0 q1 q2 q3 q4 q5 r1 r3 0 q8 q6 q7
 else
 if r1.1.k==3 then
 zW r1.1.sub 0>>=fun x26=>
 zW r3.1.sub 0>>=fun x28=>
 uR qq q0 q1 q2 q3 q4 q5 q6 q7 q8 x26 x28>>=fun r30=>
 if r30.1 then
 zW r1.1.sub 1>>=fun x33=>
 zW r3.1.sub 1>>=fun x35=>
 uR qq q0 q1 q2 q3 q4 q5 r30.2.2.1 r30.2.2.2 r30.2.1 x33 x35>>=fun r37=>
 if r37.1 then
 wO qq q0 q1 q2 q3 q4 q5 r1 r3 0 r37.2.1 r37.2.2.1 r37.2.2.2
 else
 some (false,r37.2.1,r37.2.2.1,r37.2.2.2)
 else
 some (false,r30.2.1,r30.2.2.1,r30.2.2.2)
 else
 wO qq q0 q1 q2 q3 q4 q5 r1 r3 0 q8 q6 q7
def wO:Nat->yV->yV->uM->zZ->zZ->yV->(Tm×yM)->(Tm×yM)->Int->Int->Int->Int->Option (Bool×Int×Int×Int)
 |0,_,_,_,_,_,_,_,_,_,_,_,_=>none
 |qq+1,q0,q1,q2,q3,q4,q5,r1,r3,v89,tC,vA,vB=>
 if decide (v89<(r1.2.length:Int))then
 zW r1.2 v89>>=fun x26=>
 zW r3.2 v89>>=fun x28=>
 uR qq q0 q1 q2 q3 q4 q5 vA vB tC x26 x28>>=fun r30=>
 if r30.1 then
 wO qq q0 q1 q2 q3 q4 q5 r1 r3 (xL (v89+1)) r30.2.1 r30.2.2.1 r30.2.2.2
 else
 some (false,r30.2.1,r30.2.2.1,r30.2.2.2)
 else
 some (true,tC,vA,vB)
end
abbrev W3 (q0 q1:yV) (q2:uM) (q3 q4:zZ) (q5:yV) (q6 q7 q8:Int) (p1 p2:Tm) (r:Bool×Int×Int×Int) (C:Cf):Prop:=C 85 [.cells [.mp 1 0,zV xJ q5 .no,.mp 3 0,ai q8],qB q0 2 q3 q4,qR q1 q2,.cells [ai q6,ai q7]] [.mp 0 0,yY p1,yY p2] (ab r.1) [.cells [.mp 1 0,zV xJ q5 .no,.mp 3 0,ai r.2.1],qB q0 2 q3 q4,qR q1 q2,.cells [ai r.2.2.1,ai r.2.2.2]] 0
abbrev i7 (q0 q1:yV) (q2:uM) (q3 q4:zZ) (q5:yV) (q6 q7 q8:Int) (p1 p2:Tm) (r:Bool×Int×Int×Int) (C:Cf):Prop:=C 115 [.cells [.mp 1 0,zV xJ q5 .no,.mp 3 0,ai q8],qB q0 2 q3 q4,qR q1 q2,.cells [ai q6,ai q7]] [.mp 0 0,yY p1,yY p2,.agg [.clo 116 [] [],.clo 85 [.mp 0 0] []]] (ab r.1) [.cells [.mp 1 0,zV xJ q5 .no,.mp 3 0,ai r.2.1],qB q0 2 q3 q4,qR q1 q2,.cells [ai r.2.2.1,ai r.2.2.2]] 0
abbrev zQF (q0 q1:yV) (q2:uM) (q3 q4:zZ) (q5:yV) (q6 q7 q8:Int) (p1 p2:Tm) (p3:Int) (p4:yM) (r:Bool×Int×Int×Int) (C:Cf):Prop:=C 150 [.cells [.mp 1 0,zV xJ q5 .no,.mp 3 0,ai q8],qB q0 2 q3 q4,qR q1 q2,.cells [ai q6,ai q7]] [.mp 0 0,yY p1,yY p2,ai p3,zV zD p4 .no] (ab r.1) [.cells [.mp 1 0,zV xJ q5 .no,.mp 3 0,ai r.2.1],qB q0 2 q3 q4,qR q1 q2,.cells [ai r.2.2.1,ai r.2.2.2]] 0
abbrev i8 (q0 q1:yV) (q2:uM) (q3 q4:zZ) (q5:yV) (q6 q7 q8:Int) (p1 p2:Tm) (r:Bool×Int×Int×Int) (C:Cf):Prop:=C 151 [.cells [.mp 1 0,zV xJ q5 .no,.mp 3 0,ai q8],qB q0 2 q3 q4,qR q1 q2,.cells [ai q6,ai q7]] [.mp 0 0,yY p1,yY p2] (ab r.1) [.cells [.mp 1 0,zV xJ q5 .no,.mp 3 0,ai r.2.1],qB q0 2 q3 q4,qR q1 q2,.cells [ai r.2.2.1,ai r.2.2.2]] 0
theorem zKr:Qf 85 f85:=⟨func85,rfl⟩
theorem zKq{q0 q1 q2 q3 q4 q5 q6 q7 q8 p1 p2 r}(h:W3 q0 q1 q2 q3 q4 q5 q6 q7 q8 p1 p2 r Ci):W3 q0 q1 q2 q3 q4 q5 q6 q7 q8 p1 p2 r Ct:=⟨h,⟨(lz rfl),⟨tv,tv,⟨tv,dT _⟩,tv⟩,⟨tv,tv,⟨tv,dT _⟩,tv⟩,tv⟩,(zA ⟨(lz rfl),⟨tv,dE _⟩,(lz rfl),tv,tv⟩ (nW (lz rfl) (zA ⟨tv,tv,tv⟩ zB))),tv,(zA ⟨(lz rfl),dE _,(lz rfl),tv,tv⟩ (pW (lz rfl) (zA ⟨tv,tv,tv⟩ zB)))⟩
theorem rR:Qf 115 f115:=⟨func115,rfl⟩
theorem rS{q0 q1 q2 q3 q4 q5 q6 q7 q8 p1 p2 r}(h:i7 q0 q1 q2 q3 q4 q5 q6 q7 q8 p1 p2 r Ci):i7 q0 q1 q2 q3 q4 q5 q6 q7 q8 p1 p2 r Ct:=⟨h,⟨(lz rfl),⟨tv,tv,⟨tv,dT _⟩,tv⟩,⟨tv,tv,⟨tv,dT _⟩,tv⟩,⟨⟨tv,tv⟩,⟨⟨(lz rfl),tv⟩,tv⟩,tv⟩,tv⟩,(zA ⟨(lz rfl),⟨tv,dE _⟩,(lz rfl),tv,tv⟩ (nW (lz rfl) (zA ⟨tv,tv,tv⟩ zB))),tv,(zA ⟨(lz rfl),dE _,(lz rfl),tv,tv⟩ (pW (lz rfl) (zA ⟨tv,tv,tv⟩ zB)))⟩
theorem sX:Qf 151 f151:=⟨func151,rfl⟩
theorem sY{q0 q1 q2 q3 q4 q5 q6 q7 q8 p1 p2 r}(h:i8 q0 q1 q2 q3 q4 q5 q6 q7 q8 p1 p2 r Ci):i8 q0 q1 q2 q3 q4 q5 q6 q7 q8 p1 p2 r Ct:=⟨h,⟨(lz rfl),⟨tv,tv,⟨tv,dT _⟩,tv⟩,⟨tv,tv,⟨tv,dT _⟩,tv⟩,tv⟩,(zA ⟨(lz rfl),⟨tv,dE _⟩,(lz rfl),tv,tv⟩ (nW (lz rfl) (zA ⟨tv,tv,tv⟩ zB))),tv,(zA ⟨(lz rfl),dE _,(lz rfl),tv,tv⟩ (pW (lz rfl) (zA ⟨tv,tv,tv⟩ zB)))⟩
theorem uV:∀qq:Nat,(∀ {q0 q1 q2 q3 q4 q5 q6 q7 q8 p1 p2 r},uR qq q0 q1 q2 q3 q4 q5 q6 q7 q8 p1 p2=some r->W3 q0 q1 q2 q3 q4 q5 q6 q7 q8 p1 p2 r Ct)∧(∀ {q0 q1 q2 q3 q4 q5 q6 q7 q8 p1 p2 r},eY qq q0 q1 q2 q3 q4 q5 q6 q7 q8 p1 p2=some r->i7 q0 q1 q2 q3 q4 q5 q6 q7 q8 p1 p2 r Ct)∧(∀ {q0 q1 q2 q3 q4 q5 q6 q7 q8 p1 p2 p3 p4 r},lO qq q0 q1 q2 q3 q4 q5 q6 q7 q8 p1 p2 p3 p4=some r->zQF q0 q1 q2 q3 q4 q5 q6 q7 q8 p1 p2 p3 p4 r Ct)∧(∀ {q0 q1 q2 q3 q4 q5 p1 p2 p3 p4 x3 v28 tC vA vB r},sB qq q0 q1 q2 q3 q4 q5 p1 p2 p3 p4 x3 v28 tC vA vB=some r->(∀j,dL 4 (pt 949 f150) (sp j 47 0 [(0,.mp 0 0),(3,ai p3),(4,zV zD p4 .no),(6,.mp 4 0),(7,.mp 5 0),(27,ai (x3.fields.length:Int)),(28,ai v28)]) (⟨[(0,.cells [.mp 1 0,zV xJ q5 .no,.mp 3 0,ai tC]),(1,qB q0 2 q3 q4),(2,qR q1 q2),(3,.cells [ai vA,ai vB]),(4,.cells [ai p1.k,ai p1.n,zV zD p1.sub .no]),(5,.cells [ai p2.k,ai p2.n,zV zD p2.sub .no])],6,[],0,[]⟩) (fQ 4 (nQ 4 f150 (ab r.1) [.cells [.mp 1 0,zV xJ q5 .no,.mp 3 0,ai r.2.1],qB q0 2 q3 q4,qR q1 q2,.cells [ai r.2.2.1,ai r.2.2.2]] 0) [.blk 0,.seq (pt 15 f150)])))∧(∀ {q0 q1 q2 q3 q4 q5 q6 q7 q8 p1 p2 r},eZ qq q0 q1 q2 q3 q4 q5 q6 q7 q8 p1 p2=some r->i8 q0 q1 q2 q3 q4 q5 q6 q7 q8 p1 p2 r Ct)∧(∀ {q0 q1 q2 q3 q4 q5 r1 r3 v89 tC vA vB r},wO qq q0 q1 q2 q3 q4 q5 r1 r3 v89 tC vA vB=some r->(∀j,dL 4 (pt 262069 f151) (sp j 104 0 [(0,.mp 0 0),(8,zV zD r1.2 .no),(10,zV zD r3.2 .no),(88,ai (r1.2.length:Int)),(89,ai v89)]) (⟨[(0,.cells [.mp 1 0,zV xJ q5 .no,.mp 3 0,ai tC]),(1,qB q0 2 q3 q4),(2,qR q1 q2),(3,.cells [ai vA,ai vB])],4,[],0,[]⟩) (fQ 4 (nQ 4 f151 (ab r.1) [.cells [.mp 1 0,zV xJ q5 .no,.mp 3 0,ai r.2.1],qB q0 2 q3 q4,qR q1 q2,.cells [ai r.2.2.1,ai r.2.2.2]] 0) [.blk 0,.seq (pt 4095 f151)]))):=by
 intro qq
 induction qq with
 |zero=>
  exact⟨fun h=>nn h,fun h=>nn h,fun h=>nn h,fun h=>nn h,fun h=>nn h,fun h=>nn h⟩
 |succ qq ih=>
  obtain⟨uL,zMJ,P8,J1,zMK,pN⟩:=ih
  refine⟨?_,?_,?_,?_,?_,?_⟩
  intro q0 q1 q2 q3 q4 q5 q6 q7 q8 p1 p2 r h
  rw[uR]at h
  obtain⟨r1,h2,h⟩:=zC h
  have k:=oC 2 [0,1,2,3] (yBV h2) o0
  obtain⟨h3,h⟩|⟨h3,h⟩:=zU h
  obtain⟨r4,h5,h⟩:=zC h
  cases h
  exact zKq (tF zKr 0 [0,1,2,3] (cU q0 q1 q2 q3 q4<|oD (dE q5)<|oC 4 [0,1,2,3] (zMJ h5)<|oB 2 h3 k))
  cases h
  exact zKq (tF zKr 2 [0,1,2,3] (cU q0 q1 q2 q3 q4<|oD (dE q5)<|oB 2 h3 k))
  intro q0 q1 q2 q3 q4 q5 q6 q7 q8 p1 p2 r h
  rw[eY]at h
  have z {os ob} (k:Oz os ob):=cU q0 q1 q2 q3 q4<|oD (dE q5)<|k
  obtain⟨h1,h⟩|⟨h1,h⟩:=zU h
  obtain⟨r2,h3,h⟩:=zC h
  obtain⟨r4,h5,h⟩:=zC h
  obtain⟨r6,h7,h⟩:=zC h
  cases h
  exact rS (tF rR 0 [0,1,2,3] (z<|oC 0 [0,1,2,3] (uL h7)<|oC 1 [0,1,2,3] (zTI h5)<|oC 1 [0,1,2,3] (zTI h3)<|oB 1 h1 o0))
  have k:=oB 1 h1 o0
  obtain⟨h8,h⟩|⟨h8,h⟩:=zU h
  obtain⟨r9,h10,h⟩:=zC h
  obtain⟨r11,h12,h⟩:=zC h
  obtain⟨r13,h14,h⟩:=zC h
  cases h
  exact rS (tF rR 0 [0,1,2,3] (z<|oC 0 [0,1,2,3] (uL h14)<|oC 1 [0,1,2,3] (zTI h12)<|oC 1 [0,1,2,3] (zTI h10)<|oB 1 h8 k))
  obtain⟨r15,h16,h⟩:=zC h
  have k:=oC 1 [0,1,2,3] (zTJ h16)<|oB 1 h8 k
  obtain⟨h17,h⟩|⟨h17,h⟩:=zU h
  obtain⟨r18,h19,h⟩:=zC h
  have k:=oC 1 [0,1,2,3] (zTJ h19)<|oB 2 h17 k
  obtain⟨h20,h⟩|⟨h20,h⟩:=zU h
  have k:=oB 2 h20 k
  obtain⟨h21,h⟩|⟨h21,h⟩:=zU h
  cases h
  exact rS (tF rR 0 [0,1,2,3] (z<|oB 0 h21 k))
  obtain⟨x22,h23,h⟩:=zC h
  obtain⟨x24,h25,h⟩:=zC h
  obtain⟨r26,h27,h⟩:=zC h
  cases h
  exact rS (tF rR 0 [0,1,2,3] (z<|oC 0 [0,1,2,3] (P8 h27)<|oA 1 (mW h25)<|oA 3 (wI (o:=.no) h23)<|oB 0 h21 k))
  obtain⟨x28,h29,h⟩:=zC h
  obtain⟨x30,h31,h⟩:=zC h
  obtain⟨r32,h33,h⟩:=zC h
  cases h
  exact rS (tF rR 0 [0,1,2,3] (z<|oC 0 [0,1,2,3] (P8 h33)<|oA 1 (mW h31)<|oA 3 (wI (o:=.no) h29)<|oB 2 h20 k))
  obtain⟨r34,h35,h⟩:=zC h
  have k:=oC 1 [0,1,2,3] (zTJ h35)<|oB 2 h17 k
  obtain⟨h36,h⟩|⟨h36,h⟩:=zU h
  obtain⟨x37,h38,h⟩:=zC h
  obtain⟨x39,h40,h⟩:=zC h
  obtain⟨r41,h42,h⟩:=zC h
  cases h
  exact rS (tF rR 0 [0,1,2,3] (z<|oC 0 [0,1,2,3] (P8 h42)<|oA 1 (mW h40)<|oA 3 (wI (o:=.no) h38)<|oB 2 h36 k))
  have k:=oB 2 h36 k
  obtain⟨h43,h⟩|⟨h43,h⟩:=zU h
  cases h
  exact rS (tF rR 0 [0,1,2,3] (z<|oB 2 h43 k))
  have k:=oB 2 h43 k
  obtain⟨h44,h⟩|⟨h44,h⟩:=zU h
  obtain⟨x45,h46,h⟩:=zC h
  obtain⟨x47,h48,h⟩:=zC h
  obtain⟨r49,h50,h⟩:=zC h
  have k:=oA 2 (xH (o:=.no) h48)<|oA 1 (xH (o:=.no) h46)<|oB 1 h44 k
  obtain⟨h51,h⟩|⟨h51,h⟩:=zU h
  obtain⟨x52,h53,h⟩:=zC h
  obtain⟨x54,h55,h⟩:=zC h
  obtain⟨r56,h57,h⟩:=zC h
  cases h
  exact rS (tF rR 0 [0,1,2,3] (z<|oC 1 [0,1,2,3] (uL h57)<|oA 2 (xH (o:=.no) h55)<|oA 2 (xH (o:=.no) h53)<|oK 1 [0,1,2,3] h51 (uL h50) k))
  cases h
  exact rS (tF rR 0 [0,1,2,3] (z<|oK 1 [0,1,2,3] h51 (uL h50) k))
  have k:=oB 1 h44 k
  obtain⟨h58,h⟩|⟨h58,h⟩:=zU h
  obtain⟨r59,h60,h⟩:=zC h
  cases h
  exact rS (tF rR 0 [0,1,2,3] (z<|oC 3 [] (yBW h60)<|oB 1 h58 k))
  obtain⟨r61,h62,h⟩:=zC h
  cases h
  exact rS (tF rR 0 [0,1,2,3] (z<|oC 2 [0,1,2,3] (zMK h62)<|oB 1 h58 k))
  intro q0 q1 q2 q3 q4 q5 q6 q7 q8 p1 p2 p3 p4 r h
  rw[lO]at h
  obtain⟨x1,h2,h⟩:=zC h
  obtain⟨x3,h4,h⟩:=zC h
  exact⟨tH ⟨func150,rfl⟩ 2 [] [0,1,2,3,4,5] [] [0,3,4,6,7,27,28] (oD (dT p4)<|oD (dT p2.sub)<|oD (dT p1.sub)<|cU q0 q1 q2 q3 q4<|oD (dE q5)<|oA 1 (wI (o:=.no) h4)<|oA 2 (wI (o:=.no) h2) o0) (J1 h),⟨(lz rfl),⟨tv,tv,⟨tv,dT _⟩,tv⟩,⟨tv,tv,⟨tv,dT _⟩,tv⟩,tv,⟨tv,dT _⟩,tv⟩,(zA ⟨(lz rfl),⟨tv,dE _⟩,(lz rfl),tv,tv⟩ (nW (lz rfl) (zA ⟨tv,tv,tv⟩ zB))),tv,(zA ⟨(lz rfl),dE _,(lz rfl),tv,tv⟩ (pW (lz rfl) (zA ⟨tv,tv,tv⟩ zB)))⟩
  intro q0 q1 q2 q3 q4 q5 p1 p2 p3 p4 x3 v28 tC vA vB r h
  rw[sB]at h
  have z {os ob} (k:Oz os ob):=cU q0 q1 q2 q3 q4<|oD (dE q5)<|k
  obtain⟨h5,h⟩|⟨h5,h⟩:=zU h
  obtain⟨r6,h7,h⟩:=zC h
  obtain⟨r8,h9,h⟩:=zC h
  obtain⟨r10,h11,h⟩:=zC h
  have k:=oC 1 [0,1,2,3] (zZH h9)<|oC 1 [0,1,2,3] (zZH h7)<|oB 0 h5 o0
  obtain⟨h12,h⟩|⟨h12,h⟩:=zU h
  exact fun j=>lH 2 [] [0,1,2,3,4,5] [] [0,3,4,6,7,27,28] (oD (dT p4)<|oD (dT p2.sub)<|oD (dT p1.sub)<|z<|oK 0 [0,1,2,3] h12 (uL h11) k) (J1 h)
  cases h
  exact fun j=>lF 1 [0,1,2,3] (z<|oK 0 [0,1,2,3] h12 (uL h11) k)
  cases h
  exact fun j=>lF 0 [0,1,2,3] (z<|oB 0 h5 o0)
  intro q0 q1 q2 q3 q4 q5 q6 q7 q8 p1 p2 r h
  rw[eZ]at h
  have z {os ob} (k:Oz os ob):=cU q0 q1 q2 q3 q4<|oD (dE q5)<|k
  obtain⟨r1,h2,h⟩:=zC h
  obtain⟨r3,h4,h⟩:=zC h
  have k:=oC 4 [] (zHG h4)<|oC 1 [] (zHG h2) o0
  obtain⟨h5,h⟩|⟨h5,h⟩:=zU h
  cases h
  exact sY (tF sX 0 [0,1,2,3] (z<|oB 5 h5 k))
  have k:=oB 5 h5 k
  obtain⟨h6,h⟩|⟨h6,h⟩:=zU h
  cases h
  exact sY (tF sX 0 [0,1,2,3] (z<|oB 2 h6 k))
  have k:=oB 2 h6 k
  obtain⟨h7,h⟩|⟨h7,h⟩:=zU h
  cases h
  exact sY (tF sX 0 [0,1,2,3] (z<|oB 2 h7 k))
  have k:=oB 2 h7 k
  obtain⟨h8,h⟩|⟨h8,h⟩:=zU h
  obtain⟨x9,h10,h⟩:=zC h
  obtain⟨x11,h12,h⟩:=zC h
  have k:=oA 2 (xH (o:=.no) h12)<|oA 1 (xH (o:=.no) h10)<|oB 1 h8 k
  obtain⟨h13,h⟩|⟨h13,h⟩:=zU h
  cases h
  exact sY (tF sX 0 [0,1,2,3] (z<|oB 1 h13 k))
  have k:=oB 1 h13 k
  obtain⟨h14,h⟩|⟨h14,h⟩:=zU h
  obtain⟨r15,h16,h⟩:=zC h
  have k:=oA 2 (xH (o:=.no) h12)<|oA 1 (xH (o:=.no) h10)<|oB 1 h14 k
  obtain⟨h17,h⟩|⟨h17,h⟩:=zU h
  obtain⟨x18,h19,h⟩:=zC h
  obtain⟨x20,h21,h⟩:=zC h
  obtain⟨r22,h23,h⟩:=zC h
  have k:=oA 2 (xH (o:=.no) h21)<|oA 1 (xH (o:=.no) h19)<|oK 1 [0,1,2,3] h17 (uL h16) k
  obtain⟨h24,h⟩|⟨h24,h⟩:=zU h
  exact sY (tH sX 2 [] [0,1,2,3] [] [0,8,10,88,89] (oD (dT r3.2)<|oD (dT r1.2)<|z<|oK 1 [0,1,2,3] h24 (uL h23) k) (pN h))
  cases h
  exact sY (tF sX 1 [0,1,2,3] (z<|oK 1 [0,1,2,3] h24 (uL h23) k))
  cases h
  exact sY (tF sX 1 [0,1,2,3] (z<|oK 1 [0,1,2,3] h17 (uL h16) k))
  exact sY (tH sX 1 [] [0,1,2,3] [] [0,8,10,88,89] (oD (dT r3.2)<|oD (dT r1.2)<|z<|oB 1 h14 k) (pN h))
  have k:=oB 1 h8 k
  obtain⟨h25,h⟩|⟨h25,h⟩:=zU h
  obtain⟨x26,h27,h⟩:=zC h
  obtain⟨x28,h29,h⟩:=zC h
  obtain⟨r30,h31,h⟩:=zC h
  have k:=oA 2 (xH (o:=.no) h29)<|oA 1 (xH (o:=.no) h27)<|oB 1 h25 k
  obtain⟨h32,h⟩|⟨h32,h⟩:=zU h
  obtain⟨x33,h34,h⟩:=zC h
  obtain⟨x35,h36,h⟩:=zC h
  obtain⟨r37,h38,h⟩:=zC h
  have k:=oA 2 (xH (o:=.no) h36)<|oA 1 (xH (o:=.no) h34)<|oK 1 [0,1,2,3] h32 (uL h31) k
  obtain⟨h39,h⟩|⟨h39,h⟩:=zU h
  exact sY (tH sX 2 [] [0,1,2,3] [] [0,8,10,88,89] (oD (dT r3.2)<|oD (dT r1.2)<|z<|oK 1 [0,1,2,3] h39 (uL h38) k) (pN h))
  cases h
  exact sY (tF sX 1 [0,1,2,3] (z<|oK 1 [0,1,2,3] h39 (uL h38) k))
  cases h
  exact sY (tF sX 1 [0,1,2,3] (z<|oK 1 [0,1,2,3] h32 (uL h31) k))
  exact sY (tH sX 1 [] [0,1,2,3] [] [0,8,10,88,89] (oD (dT r3.2)<|oD (dT r1.2)<|z<|oB 1 h25 k) (pN h))
  intro q0 q1 q2 q3 q4 q5 r1 r3 v89 tC vA vB r h
  rw[wO]at h
  have z {os ob} (k:Oz os ob):=cU q0 q1 q2 q3 q4<|oD (dE q5)<|k
  obtain⟨h25,h⟩|⟨h25,h⟩:=zU h
  obtain⟨x26,h27,h⟩:=zC h
  obtain⟨x28,h29,h⟩:=zC h
  obtain⟨r30,h31,h⟩:=zC h
  have k:=oA 1 (xH (o:=.no) h29)<|oA 0 (xH (o:=.no) h27)<|oB 0 h25 o0
  obtain⟨h32,h⟩|⟨h32,h⟩:=zU h
  exact fun j=>lH 2 [] [0,1,2,3] [] [0,8,10,88,89] (oD (dT r3.2)<|oD (dT r1.2)<|z<|oK 1 [0,1,2,3] h32 (uL h31) k) (pN h)
  cases h
  exact fun j=>lF 1 [0,1,2,3] (z<|oK 1 [0,1,2,3] h32 (uL h31) k)
  cases h
  exact fun j=>lF 0 [0,1,2,3] (z<|oB 0 h25 o0)
theorem zTL{qq q0 q1 q2 q3 q4 q5 q6 q7 q8 p1 p2 r}(h:uR qq q0 q1 q2 q3 q4 q5 q6 q7 q8 p1 p2=some r):W3 q0 q1 q2 q3 q4 q5 q6 q7 q8 p1 p2 r Ct:=(uV _).1 h
def zGq(r:Bool×Int×Int×Int):Int:=if r.1=true then 9 else r.2.1
theorem i9{r:Bool×Int×Int×Int}(h:zGq r=8):r.1=false∧r.2.1=8:=by
 unfold zGq at h
 split at h
 ·omega
 ·rename_i h1;exact⟨by simpa using h1,h⟩
open Classical in
noncomputable def zIc(l:List yI)(L U e:Int)(x y:Tm):Bool×Int×Int×Int:=
 if e≠0 then(false,e,L,U)else
  if h:∃p:Bool×Int,Cv l true x y p.1 p.2 then(if (Classical.choose h).2≤L then((Classical.choose h).1,0,L-(Classical.choose h).2,U+(Classical.choose h).2)else(false,8,L,U))else(false,2,L,U)
noncomputable def f4(l:List yI)(m:Bool)(L U e:Int)(q:Nat)(x y:Tm):Option (Bool×Int×Int×Int):=match m with
 |false=>uR q l l (lW l l.length 0) (l.map wG) (l.map rX) l L U e x y
 |true=>some (zIc l L U e x y)
def zTM(l:List yI)(_m:Bool)(L U e:Int)(q:Nat)(x y:Tm):Option (Bool×Int×Int×Int):=eY q l l (lW l l.length 0) (l.map wG) (l.map rX) l L U e x y
def QX(X:Bool->Int->Prop)(R:Int->Int->Bool×Int×Int×Int)(k:Int):Prop:=∃b e,e≠8∧(e=0->X b k)∧(e≠0->b=false∧∀b k,¬X b k)∧R=fun L U=>(b,e,L,U)
def HX(g:Int->Int->Nat->Option (Bool×Int×Int×Int))(X:Bool->Int->Prop)(f:Int):Prop:=Ou g zGq (QX X) (∀b k,X b k->f<k) f
def HC(l:List yI)(m:Bool)(x y:Tm)(f:Int):Prop:=HX (fun L U q=>f4 l m L U 0 q x y) (Cv l m x y) f
theorem fB{X:Bool->Int->Prop}{e k:Int}(h8:e≠8)(h0:e≠0)(h:∀b k,¬X b k):QX X (fun L U=>(false,e,L,U)) k:=⟨false,e,h8,fun h=>absurd h h0,fun _=>⟨rfl,h⟩,rfl⟩
theorem f6{X:Bool->Int->Prop}{b:Bool}{k:Int}(h:X b k):QX X (fun L U=>(b,0,L,U)) k:=⟨b,0,by decide,fun _=>h,fun h=>absurd rfl h,rfl⟩
theorem zQG(l:List yI)(x y:Tm)(f:Int)(hf:0≤f):HC l true x y f:=by
 have e:∀L U,zJ (fun q=>f4 l true L U 0 q x y) (zIc l L U 0 x y):=fun L U=>zJ.ret
 by_cases h:∃p:Bool×Int,Cv l true x y p.1 p.2
 ·have hc:=Classical.choose_spec h
  have o:∀L U,zIc l L U 0 x y=if (Classical.choose h).2≤L then((Classical.choose h).1,0,L-(Classical.choose h).2,U+(Classical.choose h).2)else(false,8,L,U):=fun L U=>by
   unfold zIc;rw[if_neg (by simp),dif_pos h]
  by_cases hk:(Classical.choose h).2≤f
  ·refine .inl ⟨fun L U=>((Classical.choose h).1,0,L,U),(Classical.choose h).2,Cv.nn hc,hk,f6 hc,fun L U a _ _=>(e L U).eq (by rw[o,if_pos a]),fun L U _ a _ _=>⟨_,e L U,?_⟩⟩
   rw[o,if_neg (by omega)];rfl
  ·refine .inr ⟨fun U _ _=>⟨_,e f U,?_⟩,fun b k hb=>?_⟩
   ·rw[o,if_neg hk];rfl
   ·have:=(hc.det hb).2;omega
 ·refine .inl ⟨fun L U=>(false,2,L,U),0,Int.le_refl _,hf,fB (by decide) (by decide) fun b k hb=>h ⟨(b,k),hb⟩,fun L U a _ _=>(e L U).eq ?_,fun L U a b _ _=>absurd a (by omega)⟩
  unfold zIc
  rw[if_neg (by simp),dif_neg h]
  simp
theorem zGp(l:List yI)(m:Bool)(x y:Tm)(e:Int)(he:e≠0)(L U:Int):zJ (fun q=>f4 l m L U e q x y) (false,e,L,U):=by
 have hp:zJ (fun q=>zIf q (wA.mk l l (lW l l.length 0) (l.map wG) (l.map rX)) l L U e x y) (x,y,false,e,L,U):=by
  simp only[zIf]
  exact zJ.ifT (by simpa using he) zJ.ret
 cases m with
 |false=>
  refine zJ.succ ?_
  simp only[f4,uR]
  exact hp.bind (zJ.ifF rfl zJ.ret)
 |true=>
  simp only[f4,zIc]
  rw[if_pos he];exact zJ.ret
theorem uK.one{C:Tm->Tm->Bool->Int->Prop}{p:PE}{b:Bool}{k:Int}:uK C [p] b k↔p.1.2=0∧p.2.2=0∧C p.1.1 p.2.1 b k:=by
 constructor
 ·rintro ⟨h1,h2,b1,k1,h3,⟨rfl,rfl,rfl⟩|⟨rfl,k2,⟨rfl,rfl⟩,rfl⟩⟩
  ·exact⟨h1,h2,h3⟩
  ·exact⟨h1,h2,by rwa[Int.add_zero]⟩
 ·rintro ⟨h1,h2,h3⟩
  refine⟨h1,h2,b,k,h3,?_⟩
  cases b with
  |false=>exact .inl ⟨rfl,rfl,rfl⟩
  |true=>exact .inr ⟨rfl,0,⟨rfl,rfl⟩,by omega⟩
theorem J2{l:List yI}{p:PE}{r:List PE}{f:Int}{g:Int->Int->Nat->Option (Bool×Int×Int×Int)}{c:Int->Int->Int->Nat->Option (Bool×Int×Int×Int)}
  (h1:HX g (uK (Cv l false) [p]) f) (hc:∀k,0≤k->k≤f->HX (fun L U q=>c 0 L U q) (uK (Cv l false) r) (f-k)) :
  HX (fun L U q=>g L U q>>=fun r30=>if r30.1=true then c r30.2.1 r30.2.2.1 r30.2.2.2 q else some (false,r30.2.1,r30.2.2.1,r30.2.2.2)) (uK (Cv l false) (p::r)) f:=by
 refine Ou.bind h1 (fun h b k ha=>?_) (fun r hr=>?_) ?_
 ·obtain⟨a1,a2,b1,k1,a3,a4⟩:=ha
  have:=h b1 k1 (uK.one.2 ⟨a1,a2,a3⟩)
  rcases a4 with⟨-,-,a4⟩|⟨-,k2,a4,a5⟩
  ·omega
  ·have:=uK.nn (fun _ _ _ _ h=>Cv.nn h) a4;omega
 ·have:=i9 hr
  refine⟨_,zJ.ifF this.1 zJ.ret,?_⟩
  unfold zGq
  rw[if_neg (by simp)];exact this.2
 ·rintro R k k0 k1 ⟨b1,e1,h8,h0,hn,rfl⟩
  dsimp only
  by_cases e0:e1=0
  ·subst e0
   obtain⟨a1,a2,a3⟩:=uK.one.1 (h0 rfl)
   cases b1 with
   |false=>exact Ou.ifF rfl (Ou.ret (by omega) (f6 ⟨a1,a2,false,k,a3,.inl ⟨rfl,rfl,by omega⟩⟩))
   |true=>
    refine Ou.ifT rfl ((hc k k0 k1).mono ?_ fun h b k' ha=>?_)
    ·rintro R n _ _ ⟨b,e,g8,g0,gn,rfl⟩
     refine⟨b,e,g8,fun he=>⟨a1,a2,true,k,a3,.inr ⟨rfl,n,g0 he,rfl⟩⟩,fun he=>⟨(gn he).1,fun b' k' ha=>?_⟩,rfl⟩
     obtain⟨-,-,b1,k1,a4,a5⟩:=ha
     obtain⟨rfl,rfl⟩:=a3.det a4
     rcases a5 with⟨a5,-⟩|⟨-,k2,a5,-⟩
     ·cases a5
     ·exact(gn he).2 _ _ a5
    ·obtain⟨-,-,b1,k1,a4,a5⟩:=ha
     obtain⟨rfl,rfl⟩:=a3.det a4
     rcases a5 with⟨a5,-⟩|⟨-,k2,a5,a6⟩
     ·cases a5
     ·have:=h _ _ a5;omega
  ·obtain⟨rfl,hno⟩:=hn e0
   refine Ou.ifF rfl (Ou.ret (by omega) (fB h8 e0 fun b k ha=>?_))
   obtain⟨a1,a2,b1,k1,a3,-⟩:=ha
   exact hno b1 k1 (uK.one.2 ⟨a1,a2,a3⟩)
theorem zKp{l:List yI}{p q:Tm×Int}{f:Int}(hf:0≤f)(h8:p.2≠8∧q.2≠8)(h:p.2=0->q.2=0->HC l false p.1 q.1 f):HX (fun L U n=>f4 l false L U (if p.2=0 then q.2 else p.2) n p.1 q.1) (uK (Cv l false) [(p,q)]) f:=by
 by_cases h1:p.2=0
 ·rw[if_pos h1]
  by_cases h2:q.2=0
  ·rw[h2]
   refine(h h1 h2).mono ?_ fun hs b k ha=>hs b k (uK.one.1 ha).2.2
   rintro R n _ _ ⟨b,e,g8,g0,gn,rfl⟩
   exact⟨b,e,g8,fun he=>uK.one.2 ⟨h1,h2,g0 he⟩,fun he=>⟨(gn he).1,fun b k ha=>(gn he).2 b k (uK.one.1 ha).2.2⟩,rfl⟩
  ·exact Ou.evt0 (fun L U=>zGp l false p.1 q.1 q.2 h2 L U) hf (fB h8.2 h2 fun b k ha=>h2 (uK.one.1 ha).2.1)
 ·rw[if_neg h1]
  exact Ou.evt0 (fun L U=>zGp l false p.1 q.1 p.2 h1 L U) hf (fB h8.1 h1 fun b k ha=>h1 (uK.one.1 ha).1)
theorem P9{l:List yI}{a b:Tm}{f:Int}(h:HC l false a b f):HX (fun L U n=>f4 l false L U 0 n a b) (uK (Cv l false) [((a,0),(b,0))]) f:=by
 refine h.mono ?_ fun hs b k ha=>hs b k (uK.one.1 ha).2.2
 rintro R n _ _ ⟨b,e,g8,g0,gn,rfl⟩
 exact⟨b,e,g8,fun he=>uK.one.2 ⟨rfl,rfl,g0 he⟩,fun he=>⟨(gn he).1,fun b k ha=>(gn he).2 b k (uK.one.1 ha).2.2⟩,rfl⟩
theorem zKo{l:List yI}{f:Int}(hf:0≤f):HX (fun L U _=>some (true,0,L,U)) (uK (Cv l false) []) f:=Ou.ret hf (f6 ⟨rfl,rfl⟩)
theorem zKn(t:Tm):(pU t).2≠8:=by
 unfold pU
 split
 ·simp
 ·dsimp only
  split
  ·split<;>simp
  ·exact o4 t 1 0
theorem zKm{t:Tm}(hs:zH t=true):(pU t).1.Ok:=by
 unfold pU
 split
 ·rename_i h
  obtain⟨a,b,hab,-,hb⟩:=rN (zO hs).2.2 (.inr (.inl h))
  rw[hab];exact qJ b hb
 ·exact eN (jN t 1 0 (yB hs)) (xX _ _)
theorem zZI{t:Tm}(h:t.k=4):pU t=(tJ t.sub 1,0):=if_pos h
theorem zZJ{t:Tm}(h:t.k≠4):pU t=(.mk 5 0 [(tB t 1 0).1,.mk 1 0 []],if (tB t 1 0).2=0 then(if zH (.mk 5 0 [(tB t 1 0).1,.mk 1 0 []])=true then 0 else 2)else(tB t 1 0).2):=if_neg h
theorem zBJ(M:wA)(l:List yI)(t:Tm)(hs:zH t=true)(L U e:Int):zJ (fun q=>zAK q M l L U e t) ((pU t).1,if e=0 then(pU t).2 else e):=by
 simp only[zAK]
 by_cases h4:t.k=4
 ·obtain⟨a,b,hab,-,-⟩:=rN (zO hs).2.2 (.inr (.inl h4))
  refine zJ.ifT (by simp[h4]) (zJ.pure (sA (by omega) (by rw[hab];simp)) (zJ.ret.eq ?_))
  rw[zZI h4]
  by_cases he:e=0
  ·simp[he]
  ·simp[he]
 ·rw[zZJ h4]
  refine zJ.ifF (by simp[h4]) ((zJd t 1 (yB hs)).bind ((O1 0).bind ((N9 _ _).bind ?_)))
  dsimp only
  by_cases h1:(tB t 1 0).2=0
  ·refine zJ.ifT (by simp[h1]) ((xN _ (eN (jN t 1 0 (yB hs)) (xX _ _))).bind ?_)
   by_cases h2:zH (.mk 5 0 [(tB t 1 0).1,.mk 1 0 []])=true
   ·refine zJ.ifT h2 ?_
    by_cases he:e=0
    ·exact zJ.ifT (by simp[he]) (zJ.ret.eq (by simp[h1,h2,he]))
    ·exact zJ.ifF (by simp[he]) (zJ.ret.eq (by simp[he]))
   ·refine zJ.ifF (by simpa using h2) ?_
    by_cases he:e=0
    ·exact zJ.ifT (by simp[he]) (zJ.ret.eq (by simp[h1,h2,he]))
    ·exact zJ.ifF (by simp[he]) (zJ.ret.eq (by simp[he]))
  ·refine zJ.ifF (by simp[h1]) ?_
   by_cases he:e=0
   ·exact zJ.ifT (by simp[he]) (zJ.ret.eq (by simp[h1,he]))
   ·exact zJ.ifF (by simp[he]) (zJ.ret.eq (by simp[he]))
def U9(l:List yI)(t:Tm):Int×List Tm×Bool:=if uQ l t then((yF t).n,yS t,true)else(0,[],false)
theorem zWe(l:List yI)(t:Tm)(hs:zH t=true):zJ (fun q=>m4 q (wW l) t) (gP l t):=by
 simp only[m4]
 refine(xN t (yB hs)).bind (zJ.ifT hs (((qK t (yB hs)).eq (by unfold lV;rw[if_pos hs])).bind ((V7 l t hs).bind zJ.ret)))
theorem cK{N:ByteArray->Bool}(l:List yI)(hE:wP N l)(t:Tm)(hs:zH t=true)(L U e:Int):zJ (fun q=>zGr q (wW l) l L U e t) (U9 l t):=by
 simp only[zGr]
 refine(zWe l t hs).bind ?_
 by_cases h:xV l t
 ·have hcs:=uB hs h
  obtain⟨A,z,a1,-,-,a4,a5,a6,a7,f0,f1,-⟩:=tX hE hcs.1 hcs.2.1 hcs.2.2.1
  have c:gP l t=((yF t).n,yS t,true):=if_pos h
  rw[c]
  refine zJ.ifT rfl (zJ.pure (yT hcs.1 hcs.2.1) (zJ.pure (yT f0 (show (ent l (yF t).n).fam<_ by omega)) ?_))
  by_cases h2:vF l (yF t).n=[]
  ·have r:U9 l t=(0,[],false):=if_neg (fun h=>h.2 h2)
   rw[r]
   have h3:(ent l (ent l (yF t).n).fam).fields=[]:=h2
   exact zJ.ifT (by rw[h3];rfl) zJ.ret
  ·have r:U9 l t=((yF t).n,yS t,true):=if_pos ⟨h,h2⟩
   rw[r]
   have h3:(ent l (ent l (yF t).n).fam).fields≠[]:=h2
   have:=List.length_pos_iff.2 h3
   exact zJ.ifF (by simp;omega) zJ.ret
 ·have c:gP l t=(0,[],false):=if_neg h
  have r:U9 l t=(0,[],false):=if_neg (fun h'=>h h'.1)
  rw[c,r]
  exact zJ.ifF rfl zJ.ret
theorem jW{N:ByteArray->Bool}{l:List yI}{c:Int}(hE:wP N l)(h0:0≤c)(h1:c<l.length)(hk:(ent l c).kind=2)(hf:vF l c≠[]) :
  (vP (ent l c).type:Int)=(ent l c).pars+(vF l c).length∧0≤(ent l c).pars∧0≤(ent l c).fam∧(ent l c).fam<l.length∧∀n∈vF l c,aN l n 4=true:=by
 obtain⟨A,z,a1,-,-,a4,a5,a6,a7,f0,f1,fk,fp,fi,fs,-,q0,q1⟩:=tX hE h0 h1 hk
 have hft:=(xD (hE.2 _ f0 (by omega))).2.1 fk
 have hcn:=(xD (hE.2 c h0 h1)).2.2.1 hk
 unfold mI at hft
 simp only[Bool.and_eq_true,Bool.or_eq_true,decide_eq_true_eq]at hft
 have hne:(ent l (ent l c).fam).fields.length≠0:=fun h=>hf (List.length_eq_zero_iff.1 h)
 have hD:=hft.2.resolve_left hne
 have hC:=hft.1.2
 unfold zVB at hD
 unfold zFp at hC
 simp only[Bool.and_eq_true,beq_iff_eq,decide_eq_true_eq]at hD hC
 obtain⟨⟨⟨⟨⟨d1,d2⟩,d3⟩,d4⟩,d5⟩,d6⟩:=hD
 unfold zHQ lD zPy at hcn
 simp only[Bool.and_eq_true,decide_eq_true_eq,beq_iff_eq]at hcn
 have hown:p8 l (ent l c)=(ent l (ent l c).fam).cons:=by unfold p8;rw[if_neg (by omega)]
 have hpl:=hcn.1.2
 rw[hown]at hpl
 obtain⟨w,hw⟩:∃w,(ent l (ent l c).fam).cons=[w]:=by
  rcases hc:(ent l (ent l c).fam).cons with _|⟨w,_|⟨v,r⟩⟩<;>rw[hc]at d2<;>simp at d2
  exact⟨w,rfl⟩
 rw[hw]at hC hpl
 have hwc:w=c:=by
  have h3:=hpl.2
  have h4:(ent l c).place.toNat=0:=by have:=hpl.1.2;simp at this;omega
  rw[h4]at h3
  simpa using h3
 have hrun:=hC.1.2
 rw[zAF]at hrun
 simp only[Bool.and_eq_true,beq_iff_eq]at hrun
 have hc1:c=(ent l c).fam+1:=by omega
 rw[←hc1,a1]at d6
 refine⟨?_,a6,f0,by omega,?_⟩
 ·rw[←a4,fp];exact d6
 ·have key:∀(r:List Int) (k:Int),p6 l (ent l c).fam 4 r k=true->∀n∈r,aN l n 4=true:=by
   intro r
   induction r with
   |nil=>intro k _ n hn;cases hn
   |cons a r ih=>
    intro k h n hn
    rw[p6]at h
    simp only[Bool.and_eq_true]at h
    rcases List.mem_cons.1 hn with rfl|hn
    ·exact h.1.1.1
    ·exact ih _ h.2 n hn
  exact key _ 0 d4
theorem zTN{l:List yI}{c:Int}{i:Nat}(h:i<(vF l c).length):zW (ent l (ent l c).fam).fields (i:Int)=some (((vF l c)[i]?).getD (-1)):=by
 unfold zW
 rw[if_pos (by omega),show (i:Int).toNat=i by omega]
 show (vF l c)[i]? = _
 rw[List.getElem?_eq_getElem h];rfl
theorem zGo(l:List yI)(t:Tm)(c:Int)(i:Nat)(pars:List Tm):(tN l t c i pars).2≠8:=by
 unfold tN
 split
 ·simp
 ·dsimp only;split<;>simp
theorem zGn{l:List yI}{t:Tm}(hs:zH t=true){c:Int}{i:Nat}{pars:List Tm}(hp:sL pars):(tN l t c i pars).1.Ok:=by
 unfold tN
 split
 ·exact zCY (Q:=Tm.Ok) (fun a ha=>yB (xI hs ha)) zJc
 ·exact eN (oT _ _ (xX _ _) hp) (yB hs)
theorem zKl{N:ByteArray->Bool}(l:List yI)(hE:wP N l)(t:Tm)(hs:zH t=true)(L U e c:Int)(i:Nat)(pars:List Tm)(h0:0≤c)(h1:c<l.length)(hk:(ent l c).kind=2)(hi:i<(vF l c).length)(hp:(pars.length:Int)=(ent l c).pars)(hop:sL pars) :
  zJ (fun q=>zMI q (wW l) l L U e t c (i:Int) pars) ((tN l t c i pars).1,if e=0 then(tN l t c i pars).2 else e):=by
 have hf:vF l c≠[]:=fun h=>by rw[h]at hi;simp at hi
 obtain⟨r1,r2,r3,r4,-⟩:=jW hE h0 h1 hk hf
 have hpl:(ent l c).pars≤24∧vP (ent l c).type≤24:=by
  obtain⟨A,z,a1,-,-,a4,a5,a6,a7,-⟩:=tX hE h0 h1 hk
  omega
 have tail:zJ (fun q=>zW l c>>=fun x7=>zW l x7.fam>>=fun x9=>zW x9.fields (i:Int)>>=fun x11=>zQE q x11>>=fun r13=>aK q r13 pars>>=fun r15=>u7 q r15 t>>=fun r17=>if (e==0)=true then bI q r17>>=fun r20=>if r20=true then some (r17,e)else some (r17,2)else some (r17,e))
   (.mk 5 0 [uF (.mk 6 (((vF l c)[i]?).getD (-1)) []) pars,t],if e=0 then(if zH (.mk 5 0 [uF (.mk 6 (((vF l c)[i]?).getD (-1)) []) pars,t])=true then 0 else 2)else e):=by
  refine zJ.pure (yT h0 h1) (zJ.pure (yT r3 r4) (zJ.pure (zTN hi) (zJ.bind (a:=.mk 6 (((vF l c)[i]?).getD (-1)) []) (zJ.mk fun _=>rfl) ((nK _ pars (by omega)).bind ((N9 _ t).bind ?_)))))
  by_cases he:e=0
  ·refine zJ.ifT (by simp[he]) ((xN _ (eN (oT _ _ (xX _ _) hop) (yB hs))).bind ?_)
   by_cases h2:zH (.mk 5 0 [uF (.mk 6 (((vF l c)[i]?).getD (-1)) []) pars,t])=true
   ·exact zJ.ifT h2 (zJ.ret.eq (by simp[h2,he]))
   ·exact zJ.ifF (by simpa using h2) (zJ.ret.eq (by simp[h2,he]))
  ·exact zJ.ifF (by simp[he]) (zJ.ret.eq (by simp[he]))
 simp only[zMI]
 refine(cK l hE t hs L U e).bind ?_
 by_cases h:uQ l t
 ·have r:U9 l t=((yF t).n,yS t,true):=if_pos h
  rw[r]
  refine zJ.ifT rfl ?_
  by_cases h2:(yF t).n=c
  ·have hpc:tN l t c i pars=(tJ (yS t) ((pars.length+i:Nat):Int),0):=if_pos ⟨h,h2⟩
   rw[hpc]
   have hal:(yS t).length=vP (ent l c).type:=by rw[←h2];exact h.1.2
   refine zJ.ifT (by simp[h2]) ?_
   rw[yW (x:=(pars.length:Int)+i) (by omega) (by omega),show (pars.length:Int)+(i:Int)=((pars.length+i:Nat):Int) by omega]
   refine zJ.pure (sA (by omega) (by show _<((yS t).length:Int);omega)) (zJ.ret.eq ?_)
   by_cases he:e=0
   ·simp[he]
   ·simp[he]
  ·have hpc:tN l t c i pars=(.mk 5 0 [uF (.mk 6 (((vF l c)[i]?).getD (-1)) []) pars,t],if zH (.mk 5 0 [uF (.mk 6 (((vF l c)[i]?).getD (-1)) []) pars,t])=true then 0 else 2):=if_neg (fun h'=>h2 h'.2)
   rw[hpc]
   exact zJ.ifF (by simpa using h2) tail
 ·have r:U9 l t=(0,[],false):=if_neg h
  have hpc:tN l t c i pars=(.mk 5 0 [uF (.mk 6 (((vF l c)[i]?).getD (-1)) []) pars,t],if zH (.mk 5 0 [uF (.mk 6 (((vF l c)[i]?).getD (-1)) []) pars,t])=true then 0 else 2):=if_neg (fun h'=>h h'.1)
  rw[r,hpc]
  exact zJ.ifF rfl tail
def er6(r:Tm×Tm×Bool×Int×Int×Int):Int:=if r.2.2.1=true then 9 else r.2.2.2.1
theorem zZL{r:Tm×Tm×Bool×Int×Int×Int}(h:er6 r=8):r.2.2.1=false∧r.2.2.2.1=8:=by
 unfold er6 at h
 split at h
 ·omega
 ·rename_i h1;exact⟨by simpa using h1,h⟩
def QP(l:List yI)(x y:Tm)(R:Int->Int->Tm×Tm×Bool×Int×Int×Int)(k:Int):Prop:=
 (∃x' k1 y' k2,wT l x∧wT l y∧Br l x x' 0 k1∧Br l y y' 0 k2∧k=k1+k2∧R=fun L U=>(x',y',true,0,L,U)) ∨
 (∃a b e,e≠0∧e≠8∧(∀m b k,¬Cv l m x y b k)∧R=fun L U=>(a,b,false,e,L,U))
theorem d7{N:ByteArray->Bool}(l:List yI)(hE:wP N l)(he:∀e∈l,eK e)(x:Tm)(ho:x.Ok)(f:Int)(hf:0≤f):Ou (fun L U q=>zMH q (wW l) l L U 0 x) er4 (QBR l x) (wT l x∧∀y e k,Br l x y e k->f<k) f:=by
 simp only[zMH]
 refine Ou.bind (zBD l hE he x ho f hf) id (fun r hr=>⟨_,zJ.ifT rfl zJ.ret,hr⟩) ?_
 rintro R k k0 k1 hQ
 have hQ':=hQ
 rcases hQ with⟨hR,rfl,rfl⟩|⟨hR,y,e,hbr,rfl⟩
 ·exact Ou.ifT rfl (Ou.ret (by omega) (by rw[Int.add_zero];exact hQ'))
 ·exact Ou.ifT rfl (Ou.ret (by omega) (by rw[Int.add_zero];exact hQ'))
theorem zQH{N:ByteArray->Bool}(l:List yI)(hE:wP N l)(he:∀e∈l,eK e)(x y:Tm)(hx:x.Ok)(hy:y.Ok)(f:Int)(hf:0≤f):Ou (fun L U q=>zIf q (wW l) l L U 0 x y) er6 (QP l x y) (∀m b k,Cv l m x y b k->f<k) f:=by
 simp only[zIf]
 refine Ou.ifF rfl (Ou.bind (d7 l hE he x hx f hf) (fun h m b k hc=>?_) (fun r hr=>?_) ?_)
 ·obtain⟨-,-,x',k1,y',k2,k3,h1,h2,h3,rfl⟩:=hc.inv
  have:=h.2 _ _ _ h1
  have:=h2.nn
  have:=h3.nn (fun _ _ _ _ _ h=>Cv.nn h)
  omega
 ·refine⟨_,zJ.ifT (by show (r.2.1 != 0)=true;rw[show r.2.1=8 from hr];decide) zJ.ret,?_⟩
  unfold er6
  rw[if_neg (by simp)];exact hr
 ·rintro R k k0 k1 (⟨hR,rfl,rfl⟩|⟨hR,x',e,hbr,rfl⟩)
  ·exact Ou.ifT rfl (Ou.ret (by omega) (.inr ⟨_,_,5,by decide,by decide,fun m b k hc=>hR hc.inv.1,rfl⟩))
  ·dsimp only
   by_cases e0:e=0
   ·subst e0
    rw[if_pos rfl]
    refine Ou.ifF rfl (Ou.bind (d7 l hE he y hy (f-k) (by omega)) (fun h m b k' hc=>?_) (fun r hr=>⟨_,zJ.ret,?_⟩) ?_)
    ·obtain⟨-,-,x1,k1,y',k2,k3,h1,h2,h3,rfl⟩:=hc.inv
     obtain⟨-,-,rfl⟩:=hbr.det h1
     have:=h.2 _ _ _ h2
     have:=h3.nn (fun _ _ _ _ _ h=>Cv.nn h)
     omega
    ·have hr':r.2.1=8:=hr
     unfold er6
     dsimp only
     rw[hr',if_neg (by decide)]
    ·rintro R n n0 n1 (⟨hR2,rfl,rfl⟩|⟨hR2,y',e,hbr2,rfl⟩)
     ·exact Ou.ret (by omega) (.inr ⟨x',zT,5,by decide,by decide,fun m b k hc=>hR2 hc.inv.2.1,rfl⟩)
     ·by_cases e1:e=0
      ·subst e1
       exact Ou.ret (by omega) (.inl ⟨x',k,y',n,hR,hR2,hbr,hbr2,by omega,by funext L U;simp⟩)
      ·refine Ou.ret (by omega) (.inr ⟨x',zT,e,e1,hbr2.e8 hE hR2.shaped,fun m b k' hc=>?_,by simp[e1,show (e==0)=false by simpa using e1]⟩)
       obtain⟨-,-,x1,k1,y1,k2,k3,h1,h2,h3,-⟩:=hc.inv
       exact e1 (hbr2.det h2).2.1.symm
   ·rw[if_neg e0]
    refine Ou.ifT (by simpa using e0) (Ou.ret (by omega) (.inr ⟨zT,y,e,e0,hbr.e8 hE hR.shaped,fun m b k' hc=>?_,rfl⟩))
    obtain⟨-,-,x1,k1,y1,k2,k3,h1,-⟩:=hc.inv
    exact e0 (hbr.det h1).2.1.symm
def BC(l:List yI)(f:Int)(W:Nat):Prop:=∀m p q,p.Ok->q.Ok->rZ l p+rZ l q<W->∀g,0≤g->g≤f->HC l m p q g
theorem BC.le{l:List yI}{f g:Int}{W:Nat}(h:BC l f W)(hg:g≤f):BC l g W:=fun m p q a b c d e k=>h m p q a b c d e (by omega)
theorem HX.imp{g g':Int->Int->Nat->Option (Bool×Int×Int×Int)}{X:Bool->Int->Prop}{f:Int}(h:HX g X f)(k:∀L U r,zJ (g L U) r->zJ (g' L U) r):HX g' X f:=Ou.imp h k
theorem HX.same{g:Int->Int->Nat->Option (Bool×Int×Int×Int)}{X:Bool->Int->Prop}{f:Int}(h:HX g X f):HX (fun L U q=>g L U q>>=fun r=>some (r.1,r.2.1,r.2.2.1,r.2.2.2)) X f:=h.imp fun L U r h=>h.bind zJ.ret
theorem zKk(l:List yI)(x y:Tm×List Tm)(W:Nat)(hl:x.2.length≤8192)(hxy:y.2.length=x.2.length)(hox:sL x.2)(hoy:sL y.2)(hw:∀a∈x.2,∀b∈y.2,rZ l a+rZ l b<W):∀(r s:List Tm) (v:Nat) (f:Int),x.2.drop v=r->y.2.drop v=s->0≤f->BC l f W ->
  HX (fun L U q=>wO q l l (lW l l.length 0) (l.map wG) (l.map rX) l x y (v:Int) 0 L U) (uK (Cv l false) (U6 r s)) f
 | [],s,v,f,hd,hs,hf,hB=>by
  refine Ou.succ ?_
  simp only[wO]
  have e:U6 [] s=[]:=by cases s<;>rfl
  rw[e]
  exact Ou.ifF (yH hd) (zKo hf)
 |a::r,[],v,f,hd,hs,hf,hB=>by
  have hlt:=yL hd
  have:y.2.length≤v:=List.drop_eq_nil_iff.1 hs
  omega
 |a::r,b::s,v,f,hd,hs,hf,hB=>by
  have hlt:=yL hd
  have hma:a∈x.2:=by
   have:a∈x.2.drop v:=by rw[hd];simp
   exact List.mem_of_mem_drop this
  have hmb:b∈y.2:=by
   have:b∈y.2.drop v:=by rw[hs];simp
   exact List.mem_of_mem_drop this
  refine Ou.succ ?_
  simp only[wO]
  refine Ou.ifT (yG hd) (Ou.pure (yD hd) (Ou.pure (yD hs) ?_))
  rw[yA v (by omega)]
  exact J2 (c:=fun e L U q=>wO q l l (lW l l.length 0) (l.map wG) (l.map rX) l x y ((v+1:Nat):Int) e L U) (P9 (hB false a b (hox a hma) (hoy b hmb) (hw a hma b hmb) f hf (Int.le_refl f)))
   fun k k0 k1=>zKk l x y W hl hxy hox hoy hw r s (v+1) (f-k) (zY hd) (zY hs) (by omega) (hB.le (by omega))
theorem fC{l:List yI}{m b:Bool}{f:Int}(hf:0≤f):HX (fun L U _=>some (b,0,L,U)) (S9 (Cv l) m (.ans b)) f:=Ou.ret hf (f6 ⟨rfl,rfl⟩)
theorem zIb(l:List yI)(m:Bool)(x y:Tm)(hsx:zH x=true)(hsy:zH y=true)(f:Int)(hf:0≤f)(hB:BC l f (rZ l x+rZ l y)):HX (fun L U q=>eZ q l l (lW l l.length 0) (l.map wG) (l.map rX) l L U 0 x y) (S9 (Cv l) m (kZ x y)) f:=by
 have hgx:=(zO hsx).2.2
 have hgy:=(zO hsy).2.2
 have hgh:=(zO (uP hsx)).2.2
 have hgk:=(zO (uP hsy)).2.2
 have hox:sL (yS x):=fun a ha=>yB (xI hsx ha)
 have hoy:sL (yS y):=fun a ha=>yB (xI hsy ha)
 have hlx:(yS x).length≤8192:=by
  have h:=zO hsx
  have:=rE _ h.2.2
  omega
 have hwx:=m3 l x hgx
 have hwy:=m3 l y hgy
 have hph:=zDp l (yF x)
 have hpk:=zDp l (yF y)
 have hw:∀a∈yS x,∀b∈yS y,rZ l a+rZ l b<rZ l x+rZ l y:=fun a ha b hb=>by
  have:=zDo l ha
  have:=zDo l hb
  omega
 refine Ou.succ ?_
 simp only[eZ]
 refine Ou.evt (jL x hsx) (Ou.evt (jL y hsy) ?_)
 dsimp only
 by_cases c1:(yF x).k=(yF y).k
 ·refine Ou.ifF (by simp[c1]) ?_
  by_cases c2:(yF x).n=(yF y).n
  ·refine Ou.ifF (by simp[c2]) ?_
   by_cases c3:(yS x).length=(yS y).length
   ·refine Ou.ifF (by simp[c3]) ?_
    have loop:∀g,0≤g->g≤f->HX (fun L U q=>wO q l l (lW l l.length 0) (l.map wG) (l.map rX) l (yF x,yS x) (yF y,yS y) 0 0 L U) (uK (Cv l false) (U6 (yS x) (yS y))) g:=fun g g0 g1=>zKk l (yF x,yS x) (yF y,yS y) _ hlx c3.symm hox hoy hw (yS x) (yS y) 0 g rfl rfl g0 (hB.le g1)
    by_cases c4:(yF x).k=7
    ·obtain⟨s,hs⟩:∃s,(yF x).sub=[s]:=by
      revert hgh c4
      generalize yF x=w
      intro hg h7
      obtain⟨kk,nn,ss⟩:=w
      obtain⟨s,hs,-⟩:=(vN (wF hg).1).2.2.2.2.2.2.1 h7
      exact⟨s,hs⟩
     obtain⟨s',hs'⟩:∃s,(yF y).sub=[s]:=by
      have c4':(yF y).k=7:=by omega
      revert hgk c4'
      generalize yF y=w
      intro hg h7
      obtain⟨kk,nn,ss⟩:=w
      obtain⟨s,hs,-⟩:=(vN (wF hg).1).2.2.2.2.2.2.1 h7
      exact⟨s,hs⟩
     refine Ou.ifT (by simp[c4]) (Ou.pure (sA (by omega) (by rw[hs];simp)) (Ou.pure (sA (by omega) (by rw[hs'];simp)) ?_))
     by_cases c5:(tJ (yF x).sub 0).n=(tJ (yF y).sub 0).n
     ·refine Ou.ifF (by simp[c5]) (Ou.ifF (by simp[c4]) ?_)
      have e:kZ x y = .all (U6 (yS x) (yS y)):=by
       unfold kZ zIi
       rw[if_neg (by omega),if_neg (by omega),List.nil_append]
      rw[e]
      exact loop f hf (Int.le_refl f)
     ·refine Ou.ifT (by simpa using c5) ?_
      have e:kZ x y = .ans false:=by unfold kZ;rw[if_pos (.inr (.inr (.inr ⟨c4,c5⟩)))]
      rw[e];exact fC hf
    ·refine Ou.ifF (by simpa using c4) ?_
     by_cases c5:(yF x).k=3
     ·have c5':(yF y).k=3:=by omega
      obtain⟨a,b,hab,hga,hgb⟩:=rN hgh (.inl c5)
      obtain⟨a',b',hab',hga',hgb'⟩:=rN hgk (.inl c5')
      have ea:tJ (yF x).sub 0=a:=by rw[hab];rfl
      have eb:tJ (yF x).sub 1=b:=by rw[hab];rfl
      have ea':tJ (yF y).sub 0=a':=by rw[hab'];rfl
      have eb':tJ (yF y).sub 1=b':=by rw[hab'];rfl
      have e:kZ x y = .all (((a,0),(a',0))::((b,0),(b',0))::U6 (yS x) (yS y)):=by
       unfold kZ zIi
       rw[if_neg (by omega),if_pos c5,ea,eb,ea',eb'];rfl
      have w1:=P6 l (yF x)
      have w2:=P6 l (yF y)
      rw[hab,pP,pP,pP]at w1
      rw[hab',pP,pP,pP]at w2
      have v1:=(P5 l (yF x).k (yF x).n).1
      have v2:=(P5 l (yF y).k (yF y).n).1
      rw[e]
      refine Ou.ifT (by simp[c5]) (Ou.pure (a:=a) (by rw[hab];rfl) (Ou.pure (a:=a') (by rw[hab'];rfl) ?_))
      refine J2 (c:=fun e L U q=>zW (yF x).sub 1>>=fun x33=>zW (yF y).sub 1>>=fun x35=>uR q l l (lW l l.length 0) (l.map wG) (l.map rX) l L U e x33 x35>>=fun r37=>if r37.1=true then wO q l l (lW l l.length 0) (l.map wG) (l.map rX) l (yF x,yS x) (yF y,yS y) 0 r37.2.1 r37.2.2.1 r37.2.2.2 else some (false,r37.2.1,r37.2.2.1,r37.2.2.2)) (P9 (hB false a a' (qJ a hga) (qJ a' hga') (by omega) f hf (Int.le_refl f))) fun k k0 k1=>?_
      refine Ou.pure (a:=b) (by rw[hab];rfl) (Ou.pure (a:=b') (by rw[hab'];rfl) ?_)
      exact J2 (c:=fun e L U q=>wO q l l (lW l l.length 0) (l.map wG) (l.map rX) l (yF x,yS x) (yF y,yS y) 0 e L U) (P9 (hB false b b' (qJ b hgb) (qJ b' hgb') (by omega) (f-k) (by omega) (by omega))) fun k' k0' k1'=>loop (f-k-k') (by omega) (by omega)
     ·refine Ou.ifF (by simpa using c5) ?_
      have e:kZ x y = .all (U6 (yS x) (yS y)):=by
       unfold kZ zIi
       rw[if_neg (by omega),if_neg c5,List.nil_append]
      rw[e]
      exact loop f hf (Int.le_refl f)
   ·refine Ou.ifT (by simp;omega) ?_
    have e:kZ x y = .ans false:=by unfold kZ;rw[if_pos (.inr (.inr (.inl c3)))]
    rw[e];exact fC hf
  ·refine Ou.ifT (by simpa using c2) ?_
   have e:kZ x y = .ans false:=by unfold kZ;rw[if_pos (.inr (.inl c2))]
   rw[e];exact fC hf
 ·refine Ou.ifT (by simpa using c1) ?_
  have e:kZ x y = .ans false:=by unfold kZ;rw[if_pos (.inl c1)]
  rw[e];exact fC hf
theorem zGm{N:ByteArray->Bool}(l:List yI)(hE:wP N l)(x y:Tm)(c:Int)(pars:List Tm)(W:Nat)(hsx:zH x=true)(hsy:zH y=true)(h0:0≤c)(h1:c<l.length)(hk:(ent l c).kind=2)(hp:(pars.length:Int)=(ent l c).pars)(hop:sL pars)
  (hw:∀i,i<(vF l c).length->rZ l (tN l x c i pars).1+rZ l (tN l y c i pars).1<W):∀(m i:Nat) (f:Int),i+m=(vF l c).length->0≤f->BC l f W ->
  HX (fun L U q=>sB q l l (lW l l.length 0) (l.map wG) (l.map rX) l x y c pars (ent l (ent l c).fam) (i:Int) 0 L U) (uK (Cv l false) (zAJ l x y c pars m i)) f
 |0,i,f,hm,hf,hB=>by
  refine Ou.succ ?_
  simp only[sB]
  have hm':i=(ent l (ent l c).fam).fields.length:=hm
  exact Ou.ifF (decide_eq_false (by omega)) (zKo hf)
 |m+1,i,f,hm,hf,hB=>by
  have hi:i<(vF l c).length:=by omega
  have hne:vF l c≠[]:=fun h=>by rw[h]at hi;simp at hi
  have hlen:(vF l c).length≤24:=by
   have r:=jW hE h0 h1 hk hne
   obtain⟨A,z,a1,-,-,a4,a5,a6,a7,-⟩:=tX hE h0 h1 hk
   omega
  refine Ou.succ ?_
  simp only[sB]
  refine Ou.ifT (decide_eq_true (by show (i:Int)<((vF l c).length:Int);omega)) ?_
  have e1:=fun L U=>zKl l hE x hsx L U 0 c i pars h0 h1 hk hi hp hop
  have e2:=fun L U=>zKl l hE y hsy L U (tN l x c i pars).2 c i pars h0 h1 hk hi hp hop
  refine HX.imp (g:=fun L U q=>f4 l false L U (if (tN l x c i pars).2=0 then(tN l y c i pars).2 else(tN l x c i pars).2) q (tN l x c i pars).1 (tN l y c i pars).1>>=fun r10=>if r10.1=true then sB q l l (lW l l.length 0) (l.map wG) (l.map rX) l x y c pars (ent l (ent l c).fam) ((i+1:Nat):Int) r10.2.1 r10.2.2.1 r10.2.2.2 else some (false,r10.2.1,r10.2.2.1,r10.2.2.2)) ?_ fun L U r h=>?_
  ·exact J2 (c:=fun e L U q=>sB q l l (lW l l.length 0) (l.map wG) (l.map rX) l x y c pars (ent l (ent l c).fam) ((i+1:Nat):Int) e L U)
    (zKp (p:=tN l x c i pars) (q:=tN l y c i pars) hf ⟨zGo _ _ _ _ _,zGo _ _ _ _ _⟩ fun _ _=>hB false _ _ (zGn hsx hop) (zGn hsy hop) (hw i hi) f hf (Int.le_refl f))
    fun k k0 k1=>zGm l hE x y c pars W hsx hsy h0 h1 hk hp hop hw m (i+1) (f-k) (by omega) (by omega) (hB.le (by omega))
  ·have a1:=e1 L U
   rw[if_pos rfl]at a1
   rw[yA i (by omega)]
   exact a1.bind ((e2 L U).bind h)
theorem zWd{l:List yI}{m:Bool}{a a' c1 c1':Tm}{f:Int}{g:Int->Int->Nat->Option (Bool×Int×Int×Int)}{c:Int->Int->Int->Nat->Option (Bool×Int×Int×Int)}
  (h1:HX g (Cv l false a a') f) (hc:∀k,0≤k->k≤f->HX (fun L U q=>c 0 L U q) (Cv l m c1 c1') (f-k)) :
  HX (fun L U q=>g L U q>>=fun r30=>if r30.1=true then c r30.2.1 r30.2.2.1 r30.2.2.2 q else some (false,r30.2.1,r30.2.2.1,r30.2.2.2)) (S9 (Cv l) m (.pi a a' c1 c1')) f:=by
 refine Ou.bind h1 (fun h b k ha=>?_) (fun r hr=>?_) ?_
 ·obtain⟨b1,k1,a3,a4⟩:=ha
  have:=h b1 k1 a3
  rcases a4 with⟨-,-,a4⟩|⟨-,k2,a4,a5⟩
  ·omega
  ·have:=a4.nn;omega
 ·have:=i9 hr
  refine⟨_,zJ.ifF this.1 zJ.ret,?_⟩
  unfold zGq
  rw[if_neg (by simp)];exact this.2
 ·rintro R k k0 k1 ⟨b1,e1,h8,h0,hn,rfl⟩
  dsimp only
  by_cases e0:e1=0
  ·subst e0
   have a3:=h0 rfl
   cases b1 with
   |false=>exact Ou.ifF rfl (Ou.ret (by omega) (f6 ⟨false,k,a3,.inl ⟨rfl,rfl,by omega⟩⟩))
   |true=>
    refine Ou.ifT rfl ((hc k k0 k1).mono ?_ fun h b k' ha=>?_)
    ·rintro R n _ _ ⟨b,e,g8,g0,gn,rfl⟩
     refine⟨b,e,g8,fun he=>⟨true,k,a3,.inr ⟨rfl,n,g0 he,rfl⟩⟩,fun he=>⟨(gn he).1,fun b' k' ha=>?_⟩,rfl⟩
     obtain⟨b1,k1,a4,a5⟩:=ha
     obtain⟨rfl,rfl⟩:=a3.det a4
     rcases a5 with⟨a5,-⟩|⟨-,k2,a5,-⟩
     ·cases a5
     ·exact(gn he).2 _ _ a5
    ·obtain⟨b1,k1,a4,a5⟩:=ha
     obtain⟨rfl,rfl⟩:=a3.det a4
     rcases a5 with⟨a5,-⟩|⟨-,k2,a5,a6⟩
     ·cases a5
     ·have:=h _ _ a5;omega
  ·obtain⟨rfl,hno⟩:=hn e0
   refine Ou.ifF rfl (Ou.ret (by omega) (fB h8 e0 fun b k ha=>?_))
   obtain⟨b1,k1,a3,-⟩:=ha
   exact hno b1 k1 a3
theorem zWc(l:List yI){x y:Tm}(hgx:xB x=true)(hgy:xB y=true)(hp:(pU x).2=0)(hq:(pU y).2=0)(h:x.k=4∨y.k=4):rZ l (pU x).1+rZ l (pU y).1<rZ l x+rZ l y:=by
 have lam:∀t:Tm,xB t=true->t.k=4->rZ l (pU t).1+4≤rZ l t:=fun t hg h4=>by
  obtain⟨a,b,hab,-,-⟩:=rN hg (.inr (.inl h4))
  rw[zZI h4,hab]
  have w:=P6 l t
  rw[hab,pP,pP,pP]at w
  have e:m1 l t.k t.n=3:=by unfold m1;rw[if_pos h4]
  have:=zDp l a
  show rZ l b+4≤_
  omega
 have oth:∀t:Tm,(pU t).2=0->t.k≠4->rZ l (pU t).1≤rZ l t+2:=fun t h0 h4=>by
  rw[zZJ h4]at h0 ⊢
  have h1:(tB t 1 0).2=0:=by
   by_cases h1:(tB t 1 0).2=0
   ·exact h1
   ·rw[if_neg h1]at h0;exact h0
  rw[(eM h1).2.2.2.2,rZ,pP,pP,pP,rZ,pP]
  have e1:m1 l 5 0=1:=by unfold m1;simp
  have e2:m1 l 1 0=1:=by unfold m1;simp
  have:=zUA l t 0 0 1
  omega
 by_cases h1:x.k=4
 ·have a:=lam x hgx h1
  by_cases h2:y.k=4
  ·have b:=lam y hgy h2;omega
  ·have b:=oth y hq h2;omega
 ·have a:=oth x hp h1
  have b:=lam y hgy (h.resolve_left h1)
  omega
theorem zWb{N:ByteArray->Bool}{l:List yI}(hE:wP N l){x y:Tm}(hsx:zH x=true)(hsy:zH y=true){c:Int}{pars:List Tm}(h0:0≤c)(h1:c<l.length)(hk:(ent l c).kind=2){i:Nat}(hi:i<(vF l c).length)
  (h:(uQ l x∧(yF x).n=c∧pars=jT l x∧(uQ l y->(yF y).n=c))∨(¬uQ l x∧uQ l y∧(yF y).n=c∧pars=jT l y)):rZ l (tN l x c i pars).1+rZ l (tN l y c i pars).1<rZ l x+rZ l y:=by
 have hne:vF l c≠[]:=fun h=>by rw[h]at hi;simp at hi
 obtain⟨r1,r2,r3,r4,r5⟩:=jW hE h0 h1 hk hne
 have con:∀t:Tm,zH t=true->uQ l t->(yF t).n=c->pars.length=(ent l c).pars.toNat->rZ l (tN l t c i pars).1+pP l (jT l t)+(ent l c).pars.toNat+3≤rZ l t:=fun t hs hr hn hl=>by
  have e:tN l t c i pars=(tJ (yS t) ((pars.length+i:Nat):Int),0):=if_pos ⟨hr,hn⟩
  rw[e]
  show rZ l (tJ (yS t) ((pars.length+i:Nat):Int))+pP l (jT l t)+(ent l c).pars.toNat+3≤rZ l t
  have hlen:(yS t).length=vP (ent l c).type:=by rw[←hn];exact hr.1.2
  have hk6:=(wD hr.1.1 (by decide)).1
  have hw:=m3 l t (zO hs).2.2
  have hh:=P6 l (yF t)
  have e2:m1 l (yF t).k (yF t).n=2:=by unfold m1;rw[if_neg (by omega),if_pos ⟨hk6,by rw[hn];exact hk⟩]
  have hsplit:yS t=(yS t).take (ent l c).pars.toNat++(yS t).drop (ent l c).pars.toNat:=(List.take_append_drop _ _).symm
  have hwl:pP l (yS t)=pP l (jT l t)+pP l ((yS t).drop (ent l c).pars.toNat):=by
   have:jT l t=(yS t).take (ent l c).pars.toNat:=by unfold jT;rw[hn]
   rw[this,←zDn,List.take_append_drop]
  have hm:tJ (yS t) ((pars.length+i:Nat):Int)∈(yS t).drop (ent l c).pars.toNat:=by
   unfold tJ
   have hlt:pars.length+i<(yS t).length:=by omega
   rw[show (((pars.length+i:Nat):Int)).toNat=pars.length+i by omega,List.getElem?_eq_getElem hlt]
   show (yS t)[pars.length+i]∈_
   have:(yS t)[pars.length+i]=((yS t).drop (ent l c).pars.toNat)[i]'(by simp;omega):=by
    rw[List.getElem_drop]
    congr 1
    omega
   rw[this]
   exact List.getElem_mem _
  have:=zDo l hm
  have:(yS t).length≥(ent l c).pars.toNat+1:=by omega
  have hnn:0≤pP l (yF t).sub:=Nat.zero_le _
  omega
 have oth:∀t:Tm,¬(uQ l t∧(yF t).n=c)->rZ l (tN l t c i pars).1=2+pP l pars+pars.length+rZ l t:=fun t hr=>by
  have e:tN l t c i pars=(.mk 5 0 [uF (.mk 6 (((vF l c)[i]?).getD (-1)) []) pars,t],if zH (.mk 5 0 [uF (.mk 6 (((vF l c)[i]?).getD (-1)) []) pars,t])=true then 0 else 2):=if_neg hr
  rw[e]
  have hfk:(ent l (((vF l c)[i]?).getD (-1))).kind=4:=by
   rw[List.getElem?_eq_getElem hi]
   exact(tM (r5 _ (List.getElem_mem hi))).2.2
  have e1:m1 l 5 0=1:=by unfold m1;simp
  have e2:m1 l 6 (((vF l c)[i]?).getD (-1))=1:=by unfold m1;rw[if_neg (by decide),if_neg (by omega)]
  show rZ l (.mk 5 0 [uF (.mk 6 (((vF l c)[i]?).getD (-1)) []) pars,t])=_
  rw[rZ,pP,pP,pP,zUB,rZ,pP,e1,e2]
  omega
 have plen:∀t:Tm,zH t=true->uQ l t->(yF t).n=c->(jT l t).length=(ent l c).pars.toNat:=fun t hs hr hn=>by
  have hlen:(yS t).length=vP (ent l c).type:=by rw[←hn];exact hr.1.2
  unfold jT
  rw[hn,List.length_take]
  omega
 rcases h with⟨hx,hn,hp,hy⟩|⟨hx,hy,hn,hp⟩
 ·have hl:=plen x hsx hx hn
  rw[←hp]at hl
  have a:=con x hsx hx hn hl
  rw[←hp]at a
  by_cases ry:uQ l y
  ·have b:=con y hsy ry (hy ry) hl
   omega
  ·have b:=oth y (fun h=>ry h.1)
   omega
 ·have hl:=plen y hsy hy hn
  rw[←hp]at hl
  have a:=con y hsy hy hn hl
  rw[←hp]at a
  have b:=oth x (fun h=>hx h.1)
  omega
theorem zIa{N:ByteArray->Bool}(l:List yI)(hE:wP N l)(x y:Tm)(hsx:zH x=true)(hsy:zH y=true)(f:Int)(hf:0≤f)(hB:BC l f (rZ l x+rZ l y)):HX (fun L U q=>zTM l false L U 0 q x y) (S9 (Cv l) false (tO l false x y)) f:=by
 have hgx:=(zO hsx).2.2
 have hgy:=(zO hsy).2.2
 refine Ou.succ ?_
 simp only[zTM,eY]
 have lamC:x.k=4∨y.k=4->HX (fun L U q=>zAK q (wA.mk l l (lW l l.length 0) (l.map wG) (l.map rX)) l L U 0 x>>=fun r2=>zAK q (wA.mk l l (lW l l.length 0) (l.map wG) (l.map rX)) l L U r2.2 y>>=fun r4=>uR q l l (lW l l.length 0) (l.map wG) (l.map rX) l L U r4.2 r2.1 r4.1>>=fun r6=>some (r6.1,r6.2.1,r6.2.2.1,r6.2.2.2)) (S9 (Cv l) false (tO l false x y)) f:=fun h=>by
  have e:tO l false x y = .all [(pU x,pU y)]:=if_pos h
  rw[e]
  refine HX.imp (g:=fun L U q=>f4 l false L U (if (pU x).2=0 then(pU y).2 else(pU x).2) q (pU x).1 (pU y).1>>=fun r6=>some (r6.1,r6.2.1,r6.2.2.1,r6.2.2.2)) ?_ fun L U r h=>?_
  ·refine HX.same (zKp (p:=pU x) (q:=pU y) hf ⟨zKn x,zKn y⟩ fun hp hq=>hB false _ _ (zKm hsx) (zKm hsy) ?_ f hf (Int.le_refl f))
   exact zWc l hgx hgy hp hq h
  ·have a1:=zBJ (wW l) l x hsx L U 0
   have a2:=zBJ (wW l) l y hsy L U (pU x).2
   rw[if_pos rfl]at a1
   exact a1.bind (a2.bind h)
 refine Ou.ite (fun h=>lamC (.inl (by simpa using h))) fun h4=>Ou.ite (fun h=>lamC (.inr (by simpa using h))) fun h4'=>?_
 have n4:¬(x.k=4∨y.k=4):=by
  have a:x.k≠4:=by simpa using h4
  have b:y.k≠4:=by simpa using h4'
  omega
 have flds:∀(c:Int) (pars:List Tm),(uQ l x∧(yF x).n=c∧pars=jT l x∧(uQ l y->(yF y).n=c))∨(¬uQ l x∧uQ l y∧(yF y).n=c∧pars=jT l y)->∀cs:List Tm,fK cs 0 (ent l c).pars=some pars ->
   HX (fun L U q=>zW l c>>=fun x22=>fK cs 0 x22.pars>>=fun x24=>lO q l l (lW l l.length 0) (l.map wG) (l.map rX) l L U 0 x y c x24>>=fun r26=>some (r26.1,r26.2.1,r26.2.2.1,r26.2.2.2)) (uK (Cv l false) (zAJ l x y c pars (vF l c).length 0)) f:=fun c pars h cs hcs=>by
  have hc:∃t,(t=x∨t=y)∧zH t=true∧uQ l t∧(yF t).n=c∧pars=jT l t:=by
   rcases h with h|h
   ·exact⟨x,.inl rfl,hsx,h.1,h.2.1,h.2.2.1⟩
   ·exact⟨y,.inr rfl,hsy,h.2.1,h.2.2.1,h.2.2.2⟩
  obtain⟨t,-,hst,hrt,hnt,hpt⟩:=hc
  have hcs':=uB hst hrt.1
  rw[hnt]at hcs'
  have hf0:=hrt.2
  rw[hnt]at hf0
  have rf:=jW hE hcs'.1 hcs'.2.1 hcs'.2.2.1 hf0
  have hop:sL pars:=by rw[hpt];exact sL.take (fun a ha=>yB (xI hst ha)) _
  have hpl:(pars.length:Int)=(ent l c).pars:=by
   rw[hpt];unfold jT
   rw[hnt,List.length_take]
   omega
  refine Ou.pure (yT hcs'.1 hcs'.2.1) (Ou.pure hcs (HX.same (Ou.succ ?_)))
  simp only[lO]
  refine Ou.pure (yT hcs'.1 hcs'.2.1) (Ou.pure (yT rf.2.2.1 rf.2.2.2.1) ?_)
  exact zGm l hE x y c pars _ hsx hsy hcs'.1 hcs'.2.1 hcs'.2.2.1 hpl hop (fun i hi=>zWb hE hsx hsy hcs'.1 hcs'.2.1 hcs'.2.2.1 hi h) (vF l c).length 0 f (by omega) hf hB
 have par_sl:∀t,zH t=true->uQ l t->fK (yS t) 0 (ent l (yF t).n).pars=some (jT l t):=fun t hst hrt=>by
  have hcs':=uB hst hrt.1
  have rf:=jW hE hcs'.1 hcs'.2.1 hcs'.2.2.1 hrt.2
  rw[V5 (by omega) rf.2.1 (by omega)]
  unfold jT;simp
 refine Ou.evt (cK l hE x hsx 0 0 0) ?_
 by_cases rx:uQ l x
 ·have ex:U9 l x=((yF x).n,yS x,true):=if_pos rx
  rw[ex]
  refine Ou.ifT rfl (Ou.evt (cK l hE y hsy 0 0 0) ?_)
  by_cases ry:uQ l y
  ·have ey:U9 l y=((yF y).n,yS y,true):=if_pos ry
   rw[ey]
   refine Ou.ifT rfl ?_
   by_cases hn:(yF x).n=(yF y).n
   ·have e:tO l false x y = .all (zAJ l x y (yF x).n (jT l x) (vF l (yF x).n).length 0):=by
     unfold tO;rw[if_neg n4,if_pos rx,if_neg (fun h=>h.2 hn)]
    rw[e]
    exact Ou.ifF (by simp[hn]) (flds _ _ (.inl ⟨rx,rfl,rfl,fun _=>hn.symm⟩) (yS x) (par_sl x hsx rx))
   ·have e:tO l false x y = .ans false:=by
     unfold tO;rw[if_neg n4,if_pos rx,if_pos ⟨ry,hn⟩]
    rw[e]
    exact Ou.ifT (by simpa using hn) (fC hf)
  ·have ey:U9 l y=(0,[],false):=if_neg ry
   have e:tO l false x y = .all (zAJ l x y (yF x).n (jT l x) (vF l (yF x).n).length 0):=by
    unfold tO;rw[if_neg n4,if_pos rx,if_neg (fun h=>ry h.1)]
   rw[ey,e]
   exact Ou.ifF rfl (flds _ _ (.inl ⟨rx,rfl,rfl,fun h=>absurd h ry⟩) (yS x) (par_sl x hsx rx))
 ·have ex:U9 l x=(0,[],false):=if_neg rx
  rw[ex]
  refine Ou.ifF rfl (Ou.evt (cK l hE y hsy 0 0 0) ?_)
  by_cases ry:uQ l y
  ·have ey:U9 l y=((yF y).n,yS y,true):=if_pos ry
   have e:tO l false x y = .all (zAJ l x y (yF y).n (jT l y) (vF l (yF y).n).length 0):=by
    unfold tO;rw[if_neg n4,if_neg rx,if_pos ry]
   rw[ey,e]
   exact Ou.ifT rfl (flds _ _ (.inr ⟨rx,ry,rfl,rfl⟩) (yS y) (par_sl y hsy ry))
  ·have ey:U9 l y=(0,[],false):=if_neg ry
   rw[ey]
   refine Ou.ifF rfl ?_
   by_cases hk:x.k=y.k
   ·refine Ou.ifF (by simp[hk]) ?_
    by_cases k3:x.k=3
    ·have e:tO l false x y = .pi (tJ x.sub 0) (tJ y.sub 0) (tJ x.sub 1) (tJ y.sub 1):=by
      unfold tO;rw[if_neg n4,if_neg rx,if_neg ry,if_neg (by simpa using hk),if_pos k3]
     obtain⟨a,b,hab,hga,hgb⟩:=rN hgx (.inl k3)
     obtain⟨a',b',hab',hga',hgb'⟩:=rN hgy (.inl (by omega))
     have ea:tJ x.sub 0=a:=by rw[hab];rfl
     have eb:tJ x.sub 1=b:=by rw[hab];rfl
     have ea':tJ y.sub 0=a':=by rw[hab'];rfl
     have eb':tJ y.sub 1=b':=by rw[hab'];rfl
     have w1:=P6 l x
     have w2:=P6 l y
     rw[hab,pP,pP,pP]at w1
     rw[hab',pP,pP,pP]at w2
     have v1:=(P5 l x.k x.n).1
     have v2:=(P5 l y.k y.n).1
     rw[e,ea,eb,ea',eb']
     refine Ou.ifT (by simp[k3]) (Ou.pure (a:=a) (by rw[hab];rfl) (Ou.pure (a:=a') (by rw[hab'];rfl) ?_))
     refine zWd (c:=fun e L U q=>zW x.sub 1>>=fun x52=>zW y.sub 1>>=fun x54=>uR q l l (lW l l.length 0) (l.map wG) (l.map rX) l L U e x52 x54>>=fun r56=>some (r56.1,r56.2.1,r56.2.2.1,r56.2.2.2)) (hB false a a' (qJ a hga) (qJ a' hga') (by omega) f hf (Int.le_refl f)) fun k k0 k1=>?_
     exact Ou.pure (a:=b) (by rw[hab];rfl) (Ou.pure (a:=b') (by rw[hab'];rfl) (HX.same (hB false b b' (qJ b hgb) (qJ b' hgb') (by omega) (f-k) (by omega) (by omega))))
    ·refine Ou.ifF (by simpa using k3) ?_
     by_cases k2:x.k=2
     ·have e:tO l false x y = .ans (if false=true then decide (x.n≤y.n)else x.n==y.n):=by
       unfold tO;rw[if_neg n4,if_neg rx,if_neg ry,if_neg (by simpa using hk),if_neg k3,if_pos k2]
      rw[e]
      refine Ou.ifT (by simp[k2]) (Ou.evt (a:=if false=true then decide (x.n≤y.n)else x.n==y.n) (zJ.mk fun q=>?_) (fC hf))
      simp[zTK]
     ·have e:tO l false x y=kZ x y:=by
       unfold tO;rw[if_neg n4,if_neg rx,if_neg ry,if_neg (by simpa using hk),if_neg k3,if_neg k2]
      rw[e]
      exact Ou.ifF (by simpa using k2) (HX.same (zIb l false x y hsx hsy f hf hB))
   ·have e:tO l false x y = .ans false:=by
     unfold tO;rw[if_neg n4,if_neg rx,if_neg ry,if_pos hk]
    rw[e]
    exact Ou.ifT (by simpa using hk) (fC hf)
theorem zML{N:ByteArray->Bool}(l:List yI)(hE:wP N l)(m:Bool)(hm:m=false)(x y:Tm)(hsx:zH x=true)(hsy:zH y=true)(f:Int)(hf:0≤f)(hB:BC l f (rZ l x+rZ l y)):HX (fun L U q=>zTM l m L U 0 q x y) (S9 (Cv l) m (tO l m x y)) f:=by
 subst hm
 exact zIa l hE x y hsx hsy f hf hB
def zIA(qq:Nat)(M:wA):Option Int:=
 some (M.l.length:Int)
theorem zWa{qq M r}(h:zIA qq M=some r):Ct 113 [mB M 1,mR M] [.mp 0 0] (ai r) [mB M 1,mR M] 0:=⟨by
 unfold zIA at h
 cases h
 exact tF ⟨func113,rfl⟩ 3 [0,1] (oD (dC M.parts)<|oD (dE M.rl)<|oD (dI M.own)<|oD (dI M.args)<|oD (dE M.l) o0),⟨(lz rfl),tv⟩,(nW (lz rfl) zB),tv,(pW (lz rfl) zB)⟩
def W4(qq:Nat)(q0 q1:yV)(q2:uM)(q3 q4:zZ)(q5:yV)(q6 q7 q8 q9 q10:Int)(yZ:yM)(xE q13:Int)(xG:yM):Option (Bool×Int×Int×Int):=
 uR qq q0 q1 q2 q3 q4 q5 q6 q7 q8 (Tm.mk q9 q10 yZ) (Tm.mk xE q13 xG)>>=fun r1=>
 some (r1.1,r1.2.1,r1.2.2.1,r1.2.2.2)
theorem zKj{qq q0 q1 q2 q3 q4 q5 q6 q7 q8 q9 q10 yZ xE q13 xG r}(h:W4 qq q0 q1 q2 q3 q4 q5 q6 q7 q8 q9 q10 yZ xE q13 xG=some r):Ct 84 [.cells [.mp 1 0,zV xJ q5 .no,.mp 3 0,ai q8],qB q0 2 q3 q4,qR q1 q2,.cells [ai q6,ai q7],.cells [ai q9,ai q10,zV zD yZ .no],.cells [ai xE,ai q13,zV zD xG .no]] [.mp 0 0,.mp 4 0,.mp 5 0] (ab r.1) [.cells [.mp 1 0,zV xJ q5 .no,.mp 3 0,ai r.2.1],qB q0 2 q3 q4,qR q1 q2,.cells [ai r.2.2.1,ai r.2.2.2],.cells [ai q9,ai q10,zV zD yZ .no],.cells [ai xE,ai q13,zV zD xG .no]] 0:=⟨by
 unfold W4 at h
 obtain⟨r1,h2,h⟩:=zC h
 cases h
 exact tF ⟨func84,rfl⟩ 0 [0,1,2,3,4,5] (oD (dT xG)<|oD (dT yZ)<|cU q0 q1 q2 q3 q4<|oD (dE q5)<|oC 2 [0,1,2,3] (zTL h2) o0),⟨(lz rfl),(lz rfl),(lz rfl),tv⟩,(zA ⟨(lz rfl),⟨tv,dE _⟩,(lz rfl),tv,tv⟩ (nW (lz rfl) (zA ⟨tv,tv,tv⟩ (zA ⟨tv,tv,⟨tv,dT _⟩,tv⟩ (zA ⟨tv,tv,⟨tv,dT _⟩,tv⟩ zB))))),tv,(zA ⟨(lz rfl),dE _,(lz rfl),tv,tv⟩ (pW (lz rfl) (zA ⟨tv,tv,tv⟩ (zA ⟨tv,tv,dT _,tv⟩ (zA ⟨tv,tv,dT _,tv⟩ zB)))))⟩
def e92(qq:Nat)(M:wA):Option yV:=
 e58 qq M.l>>=fun r1=>
 some r1
theorem c92{qq M r}(h:e92 qq M=some r):Ct 92 [mB M 1,mR M] [.mp 0 0] (.sl (zG xJ r) r.length .no) [mB M 1,mR M] 0:=⟨by
 unfold e92 at h
 obtain⟨r1,h2,h⟩:=zC h
 obtain rfl:=sj h
 exact tF ⟨func92,rfl⟩ 0 [0,1] (oD (dE r1)<|sP M<|oC 2 [] (c58 h2) o0),⟨(lz rfl),tv⟩,(nW (lz rfl) zB),dE _,(pW (lz rfl) zB)⟩
def W5(qq:Nat)(q0 q1:yV)(q2:uM)(q3 q4:zZ)(p1 p2:Tm)(q7 q8 q9 q10:Int)(yZ:yM)(xE q13:Int)(xG:yM):Option (Bool×Int×Int×Int):=
 zIA qq (wA.mk q0 q1 q2 q3 q4)>>=fun r1=>
 zCB qq p1 1048577 r1>>=fun r3=>
 if r3 then
 zIA qq (wA.mk q0 q1 q2 q3 q4)>>=fun r6=>
 zCB qq p2 1048577 r6>>=fun r8=>
 if r8 then
 e92 qq (wA.mk q0 q1 q2 q3 q4)>>=fun r11=>
 W4 qq q0 q1 q2 q3 q4 r11 q7 q8 0 q9 q10 yZ xE q13 xG>>=fun r13=>
 if r13.1 then
 some ((r13.2.1==0),r13.2.1,r13.2.2.1,r13.2.2.2)
 else
 some (false,r13.2.1,r13.2.2.1,r13.2.2.2)
 else
 some (false,5,q7,q8)
 else
 some (false,5,q7,q8)
theorem W6:Qf 83 f83:=⟨func83,rfl⟩
theorem zTO{qq q0 q1 q2 q3 q4 p1 p2 q7 q8 q9 q10 yZ xE q13 xG r}(h:W5 qq q0 q1 q2 q3 q4 p1 p2 q7 q8 q9 q10 yZ xE q13 xG=some r):Ct 83 [qB q0 1 q3 q4,qR q1 q2,.cells [ai q7,ai q8],.cells [ai q9,ai q10,zV zD yZ .no],.cells [ai xE,ai q13,zV zD xG .no]] [.mp 0 0,yY p1,yY p2,.mp 2 0,.clo 84 [] [.mp 3 0,.mp 4 0]] (.tup [ab r.1,ai r.2.1]) [qB q0 1 q3 q4,qR q1 q2,.cells [ai r.2.2.1,ai r.2.2.2],.cells [ai q9,ai q10,zV zD yZ .no],.cells [ai xE,ai q13,zV zD xG .no]] 0:=⟨by
 unfold W5 at h
 have z {os ob} (k:Oz os ob):=oD (dT xG)<|oD (dT yZ)<|cU q0 q1 q2 q3 q4<|k
 obtain⟨r1,h2,h⟩:=zC h
 obtain⟨r3,h4,h⟩:=zC h
 have k:=oC 2 [0,1] (zWa h2) o0
 obtain⟨h5,h⟩|⟨h5,h⟩:=zU h
 obtain⟨r6,h7,h⟩:=zC h
 obtain⟨r8,h9,h⟩:=zC h
 have k:=oC 2 [0,1] (zWa h7)<|oK 0 [] h5 (zET h4) k
 obtain⟨h10,h⟩|⟨h10,h⟩:=zU h
 obtain⟨r11,h12,h⟩:=zC h
 obtain⟨r13,h14,h⟩:=zC h
 have k:=oC 1 [0,1] (c92 h12)<|oK 0 [] h10 (zET h9) k
 obtain⟨h15,h⟩|⟨h15,h⟩:=zU h
 cases h
 exact tF W6 3 [0,1,2,3,4] (z<|oK 0 [7,0,1,2,3,4] h15 (zKj h14) k)
 cases h
 exact tF W6 1 [0,1,2,3,4] (z<|oK 0 [7,0,1,2,3,4] h15 (zKj h14) k)
 cases h
 exact tF W6 1 [0,1,2,3,4] (z<|oK 0 [] h10 (zET h9) k)
 cases h
 exact tF W6 1 [0,1,2,3,4] (z<|oK 0 [] h5 (zET h4) k),⟨(lz rfl),⟨tv,tv,⟨tv,dT _⟩,tv⟩,⟨tv,tv,⟨tv,dT _⟩,tv⟩,(lz rfl),⟨tv,⟨(lz rfl),(lz rfl),tv⟩⟩,tv⟩,(nW (lz rfl) (zA ⟨tv,tv,tv⟩ (zA ⟨tv,tv,⟨tv,dT _⟩,tv⟩ (zA ⟨tv,tv,⟨tv,dT _⟩,tv⟩ zB)))),⟨tv,tv,tv⟩,(pW (lz rfl) (zA ⟨tv,tv,tv⟩ (zA ⟨tv,tv,dT _,tv⟩ (zA ⟨tv,tv,dT _,tv⟩ zB))))⟩
def e55(qq:Nat)(M:wA)(p1 p2:Tm)(fl fu:Int):Option (Bool×Int×Int×Int):=
 W5 qq M.l M.rl M.parts M.args M.own p1 p2 fl fu p1.k p1.n p1.sub p2.k p2.n p2.sub>>=fun r1=>
 some (r1.1,r1.2.1,r1.2.2.1,r1.2.2.2)
theorem c55{qq M p1 p2 fl fu r}(h:e55 qq M p1 p2 fl fu=some r):Ct 55 [mB M 1,mR M,.cells [ai fl,ai fu]] [.mp 0 0,yY p1,yY p2,.mp 2 0] (.tup [ab r.1,ai r.2.1]) [mB M 1,mR M,.cells [ai r.2.2.1,ai r.2.2.2]] 0:=⟨by
 unfold e55 at h
 obtain⟨r1,h2,h⟩:=zC h
 cases h
 exact tF ⟨func55,rfl⟩ 2 [0,1,2] (sP M<|oC 2 [0,1,2,3,4] (zTO h2) o0),⟨(lz rfl),⟨tv,tv,⟨tv,dT _⟩,tv⟩,⟨tv,tv,⟨tv,dT _⟩,tv⟩,(lz rfl),tv⟩,(nW (lz rfl) (zA ⟨tv,tv,tv⟩ zB)),⟨tv,tv,tv⟩,(pW (lz rfl) (zA ⟨tv,tv,tv⟩ zB))⟩
theorem zQJ{N:ByteArray->Bool}(l:List yI)(hE:wP N l)(he:∀e∈l,eK e):∀(F n:Nat) (m:Bool) (x y:Tm),x.Ok->y.Ok->rZ l x+rZ l y≤n->HC l m x y (F:Int):=by
 intro F
 induction F using Nat.strongRecOn with
 |ind F IH=>
  intro n
  induction n with
  |zero=>intro m x y _ _ h;have:=zDp l x;omega
  |succ n ih=>
   intro m x y hx hy hn
   have fin:∀(m:Bool),m=false->∀(k:Int) (x' y':Tm) (j1 j2:Int),wT l x->wT l y->Br l x x' 0 j1->Br l y y' 0 j2->k=j1+j2->k≤F->Ou (fun L U q=>zTM l m L U 0 q x' y'>>=fun r4=>some (r4.1,r4.2.1,r4.2.2.1,r4.2.2.2)) zGq (fun R n=>QX (Cv l m x y) R (k+n)) (∀b k,Cv l m x y b k->(F:Int)<k) ((F:Int)-k):=fun m hm k x' y' j1 j2 hR1 hR2 hb1 hb2 hk k1=>by
    have n1:=hb1.nn
    have n2:=hb2.nn
    have hB:BC l ((F:Int)-k) (rZ l x'+rZ l y'):=fun m p q hp hq hw g g0 g1=>by
     by_cases hk0:k≤0
     ·have e1:=hb1.zero rfl (by omega)
      have e2:=hb2.zero rfl (by omega)
      subst e1;subst e2
      by_cases hg:g=F
      ·subst hg
       exact ih m p q hp hq (by omega)
      ·have:=IH g.toNat (by omega) (rZ l p+rZ l q) m p q hp hq (Nat.le_refl _)
       rwa[show ((g.toNat:Nat):Int)=g by omega]at this
     ·have:=IH g.toNat (by omega) (rZ l p+rZ l q) m p q hp hq (Nat.le_refl _)
      rwa[show ((g.toNat:Nat):Int)=g by omega]at this
    have h:=HX.same (zML l hE m hm x' y' (hb1.shaped hR1.shaped rfl) (hb2.shaped hR2.shaped rfl) ((F:Int)-k) (by omega) hB)
    refine Ou.mono h ?_ fun hs b k' hc=>?_
    ·rintro R n _ _ ⟨b,e,h8,h0,hn',rfl⟩
     refine⟨b,e,h8,fun he=>?_,fun he=>⟨(hn' he).1,fun b' k' hc=>?_⟩,rfl⟩
     ·have:=Cv.mk hR1 hR2 hb1 hb2 (h0 he)
      rwa[hk]
     ·obtain⟨-,-,x1,i1,y1,i2,i3,h1,h2,h3,-⟩:=hc.inv
      obtain⟨rfl,-,-⟩:=hb1.det h1
      obtain⟨rfl,-,-⟩:=hb2.det h2
      exact(hn' he).2 _ _ h3
    ·obtain⟨-,-,x1,i1,y1,i2,i3,h1,h2,h3,rfl⟩:=hc.inv
     obtain⟨rfl,-,rfl⟩:=hb1.det h1
     obtain⟨rfl,-,rfl⟩:=hb2.det h2
     have:=hs _ _ h3
     omega
   cases m
   ·refine Ou.succ ?_
    simp only[f4,uR]
    refine Ou.bind (zQH l hE he x y hx hy F (by omega)) (fun h b k hc=>h _ _ _ hc) (fun r hr=>?_) ?_
    ·have:=zZL hr
     refine⟨_,zJ.ifF this.1 zJ.ret,?_⟩
     unfold zGq
     rw[if_neg (by simp)];exact this.2
    ·rintro R k k0 k1 (⟨x',j1,y',j2,hR1,hR2,hb1,hb2,rfl,rfl⟩|⟨a,b,e,e0,e8,hno,rfl⟩)
     ·exact Ou.ifT rfl (fin false rfl (j1+j2) x' y' j1 j2 hR1 hR2 hb1 hb2 rfl k1)
     ·exact Ou.ifF rfl (Ou.ret (by omega) (fB e8 e0 fun b k=>hno _ b k))
   ·exact zQG l x y F (by omega)
noncomputable def zZO(l:List yI)(m:Bool)(L U:Int)(q:Nat)(x y:Tm):Option (Bool×Int×Int×Int):=match m with
 |false=>e55 q (wW l) x y L U
 |true=>some (zIc l L U 0 x y)
theorem zKi{N:ByteArray->Bool}(l:List yI)(hE:wP N l)(he:∀e∈l,eK e)(hl:l.length≤65535)(hc:∀e∈l,ECl e)(m:Bool)(x y:Tm)(hx:x.Ok)(hy:y.Ok)(f:Int)(hf:0≤f):HX (fun L U q=>zZO l m L U q x y) (Cv l m x y) f:=by
 have hC:=zQJ l hE he f.toNat (rZ l x+rZ l y) m x y hx hy (Nat.le_refl _)
 rw[show ((f.toNat:Nat):Int)=f by omega]at hC
 have hLen:zJ (fun q=>zIA q (wW l)) (l.length:Int):=zJ.mk fun _=>rfl
 have hEnt:zJ (fun q=>e92 q (wW l)) l:=by
  simp only[e92]
  exact((p9 l hl he hc).eq (O5 hE)).bind zJ.ret
 have post:HX (fun L U q=>(f4 l m L U 0 q x y>>=fun r1=>some (r1.1,r1.2.1,r1.2.2.1,r1.2.2.2))>>=fun r13=>if r13.1=true then some ((r13.2.1==0),r13.2.1,r13.2.2.1,r13.2.2.2)else some (false,r13.2.1,r13.2.2.1,r13.2.2.2)) (Cv l m x y) f:=by
  refine Ou.bind (HX.same hC) id (fun r hr=>?_) ?_
  ·have:=i9 hr
   refine⟨_,zJ.ifF this.1 zJ.ret,?_⟩
   unfold zGq
   rw[if_neg (by simp)];exact this.2
  ·rintro R k k0 k1 ⟨b,e,h8,h0,hn,rfl⟩
   dsimp only
   by_cases e0:e=0
   ·subst e0
    have hX:=h0 rfl
    cases b with
    |true=>exact Ou.ifT rfl (Ou.ret (by omega) (f6 (b:=true) (by rwa[Int.add_zero])))
    |false=>exact Ou.ifF rfl (Ou.ret (by omega) (f6 (by rwa[Int.add_zero])))
   ·obtain⟨rfl,hno⟩:=hn e0
    exact Ou.ifF rfl (Ou.ret (by omega) (fB h8 e0 hno))
 have bad1:¬wT l x->∀b k,¬Cv l m x y b k:=fun h b k hc=>h hc.inv.1
 have bad2:¬wT l y->∀b k,¬Cv l m x y b k:=fun h b k hc=>h hc.inv.2.1
 cases m with
 |false=>
  simp only[zZO,e55,W5]
  refine HX.same ?_
  refine Ou.evt hLen (Ou.evt (eI x 1048577 l.length hx) (Ou.ite (fun h1=>?_) fun h1=>?_))
  ·refine Ou.evt hLen (Ou.evt (eI y 1048577 l.length hy) (Ou.ite (fun h2=>?_) fun h2=>?_))
   ·refine Ou.evt hEnt ?_
    simp only[W4,rD]
    exact post
   ·exact Ou.ret hf (fB (by decide) (by decide) (bad2 (by unfold wT;rw[h2];simp)))
  ·exact Ou.ret hf (fB (by decide) (by decide) (bad1 (by unfold wT;rw[h1];simp)))
 |true=>exact zQG l x y f hf
def zQK(qq:Nat)(M:wA)(p1:Int):Option Int:=
 if decide (p1<0)then
 some 0
 else
 if decide (p1≥(M.l.length:Int))then
 some 0
 else
 zW M.l p1>>=fun x3=>
 some x3.fam
theorem zWA:Qf 214 f214:=⟨func214,rfl⟩
theorem yBX{qq M p1 r}(h:zQK qq M p1=some r):Ct 214 [mB M 1,mR M] [.mp 0 0,ai p1] (ai r) [mB M 1,mR M] 0:=⟨by
 unfold zQK at h
 obtain⟨h1,h⟩|⟨h1,h⟩:=zU h
 obtain rfl:=sj h
 exact tF zWA 0 [0,1] (sP M<|oB 1 h1 o0)
 have k:=oB 1 h1 o0
 obtain⟨h2,h⟩|⟨h2,h⟩:=zU h
 obtain rfl:=sj h
 exact tF zWA 0 [0,1] (sP M<|oB 2 h2 k)
 obtain⟨x3,h4,h⟩:=zC h
 obtain rfl:=sj h
 exact tF zWA 1 [0,1] (sP M<|oA 1 (wI (o:=.no) h4)<|oB 2 h2 k),⟨(lz rfl),tv,tv⟩,(nW (lz rfl) zB),tv,(pW (lz rfl) zB)⟩
def dA(qq:Nat)(q0 q1:yV)(q2:uM)(q3 q4:zZ)(q5 q6:Int)(q7:xR)(q8:qA)(q9 q10 yZ:Nat)(xE:Bool)(q13:xR)(xG:sE)(q15 q16:Nat)(q17:zZ)(xC:Bool)(q19 p1:Int):Option Int:=
 zQK qq (wA.mk q0 q1 q2 q3 q4) p1>>=fun r1=>
 some r1
theorem zGl{qq q0 q1 q2 q3 q4 q5 q6 q7 q8 q9 q10 yZ xE q13 xG q15 q16 q17 xC q19 p1 r}(h:dA qq q0 q1 q2 q3 q4 q5 q6 q7 q8 q9 q10 yZ xE q13 xG q15 q16 q17 xC q19 p1=some r):Ct 177 [.cells [.mp 1 0,.mp 3 0,zV zI q7 .no,.ms 4 (q10*6) q9 yZ 6,ab xE,.ms 5 0 q13.length q13.length 4,.ms 6 0 q15 q16 4,.ms 7 0 q17.length q17.length 1,ab xC,ai q19],qB q0 2 q3 q4,qR q1 q2,.cells [ai q5,ai q6],.row (zG zP q8),.row (zG zI q13),.row (zG zQ xG),.row (zG yC q17)] [.mp 0 0,ai p1] (ai r) [.cells [.mp 1 0,.mp 3 0,zV zI q7 .no,.ms 4 (q10*6) q9 yZ 6,ab xE,.ms 5 0 q13.length q13.length 4,.ms 6 0 q15 q16 4,.ms 7 0 q17.length q17.length 1,ab xC,ai q19],qB q0 2 q3 q4,qR q1 q2,.cells [ai q5,ai q6],.row (zG zP q8),.row (zG zI q13),.row (zG zQ xG),.row (zG yC q17)] 0:=⟨by
 unfold dA at h
 obtain⟨r1,h2,h⟩:=zC h
 obtain rfl:=sj h
 exact tF ⟨func177,rfl⟩ 0 [0,1,2,3,4,5,6,7] (oD (dI q17)<|oD (zK xG)<|oD (zF q13)<|oD (zL q8)<|cU q0 q1 q2 q3 q4<|oD (zF q7)<|oC 1 [1,2] (yBX h2) o0),⟨(lz rfl),tv,tv⟩,(zA ⟨(lz rfl),(lz rfl),⟨tv,zF _⟩,(lz rfl),tv,(lz rfl),(lz rfl),(lz rfl),tv,tv,tv⟩ (nW (lz rfl) (zA ⟨tv,tv,tv⟩ (zA (zL _) (zA (zF _) (zA (zK _) (zA (dI _) zB))))))),tv,(zA ⟨(lz rfl),(lz rfl),zF _,(lz rfl),tv,(lz rfl),(lz rfl),(lz rfl),tv,tv,tv⟩ (pW (lz rfl) (zA ⟨tv,tv,tv⟩ (zA (zL _) (zA (zF _) (zA (zK _) (zA (dI _) zB)))))))⟩
def zIB(qq:Nat)(p0:Int):Option Int:=
 if p0==0 then
 some 13
 else
 some p0
theorem zZP:Qf 178 f178:=⟨func178,rfl⟩
theorem zWB{qq p0 r}(h:zIB qq p0=some r):Ct 178 [] [ai p0] (ai r) [] 0:=⟨by
 unfold zIB at h
 obtain⟨h1,h⟩|⟨h1,h⟩:=zU h
 obtain rfl:=sj h
 exact tF zZP 0 [] (oB 0 h1 o0)
 obtain rfl:=sj h
 exact tF zZP 0 [] (oB 0 h1 o0),⟨tv,tv⟩,zB,tv,zB⟩
def sC:Nat->yV->yV->uM->zZ->zZ->xR->qA->Nat->Nat->Nat->Bool->xR->sE->Nat->Nat->zZ->Bool->Int->(Int×yM×Bool)->(Int×yM×Bool)->Int->Int->Int->qA->Option ((Bool×qA×Nat×Nat×Nat×zZ×Bool×Int×Int×Int) ⊕ ((Bool×qA×Nat×Nat×Nat×zZ×Int×Int×Int) ⊕ (Bool×qA×zZ×Bool×Int×Int×Int)))
 |0,_,_,_,_,_,_,_,_,_,_,_,_,_,_,_,_,_,_,_,_,_,_,_,_=>none
 |qq+1,q0,q1,q2,q3,q4,q7,q8,q9,q10,yZ,xE,q13,xG,q15,q16,q17,xC,q19,r1,r4,v62,vA,vB,wX=>
 if decide (v62<(r1.2.1.length:Int))then
 zMb qq (wA.mk q0 q1 q2 q3 q4) r1.1>>=fun r16=>
 if decide (v62≥r16)then
 zW r1.2.1 v62>>=fun x19=>
 zW r4.2.1 v62>>=fun x21=>
 xF 80 wX [(zM.mk x19 x21)]>>=fun l23=>
 sC qq q0 q1 q2 q3 q4 q7 q8 q9 q10 yZ xE q13 xG q15 q16 q17 xC q19 r1 r4 (xL (v62+1)) vA vB l23
 else
 zW r1.2.1 v62>>=fun x25=>
 zW r4.2.1 v62>>=fun x27=>
 e55 qq (wA.mk q0 q1 q2 q3 q4) x25 x27 vA vB>>=fun r29=>
 if r29.1 then
 if r29.2.1 != 0 then
 zIB qq r29.2.1>>=fun r33=>
 some (.inl (true,q8,q9,q10,yZ,q17,xC,r33,r29.2.2.1,r29.2.2.2))
 else
 sC qq q0 q1 q2 q3 q4 q7 q8 q9 q10 yZ xE q13 xG q15 q16 q17 xC q19 r1 r4 (xL (v62+1)) r29.2.2.1 r29.2.2.2 wX
 else
 if r29.2.1 != 0 then
 zIB qq r29.2.1>>=fun r36=>
 some (.inl (true,q8,q9,q10,yZ,q17,xC,r36,r29.2.2.1,r29.2.2.2))
 else
 zIB qq r29.2.1>>=fun r38=>
 some (.inl (true,q8,q9,q10,yZ,q17,xC,r38,r29.2.2.1,r29.2.2.2))
 else
 if decide (q9=0)then
 pM qq q0 q1 q2 q3 q4 vA vB q7 wX wX.length 0 wX.length xE q13 xG q15 q16 q17 xC q19 2>>=fun r41=>
 some (.inr (.inr (true,wX,r41,xC,q19,vA,vB)))
 else
 bH q8 q10 q9>>=fun m43=>
 xF 80 wX m43>>=fun l45=>
 pM qq q0 q1 q2 q3 q4 vA vB q7 l45 l45.length 0 l45.length xE q13 xG q15 q16 q17 xC q19 2>>=fun r47=>
 some (.inr (.inr (true,l45,r47,xC,q19,vA,vB)))
def dB(qq:Nat)(q0 q1:yV)(q2:uM)(q3 q4:zZ)(q5 q6:Int)(q7:xR)(q8:qA)(q9 q10 yZ:Nat)(xE:Bool)(q13:xR)(xG:sE)(q15 q16:Nat)(q17:zZ)(xC:Bool)(q19:Int)(p1:zM):Option ((Bool×qA×Nat×Nat×Nat×zZ×Bool×Int×Int×Int) ⊕ ((Bool×qA×Nat×Nat×Nat×zZ×Int×Int×Int) ⊕ (Bool×qA×zZ×Bool×Int×Int×Int))):=
 m4 qq (wA.mk q0 q1 q2 q3 q4) p1.a_>>=fun r1=>
 if r1.2.2 then
 m4 qq (wA.mk q0 q1 q2 q3 q4) p1.b_>>=fun r4=>
 if r4.2.2 then
 dA qq q0 q1 q2 q3 q4 q5 q6 q7 q8 q9 q10 yZ xE q13 xG q15 q16 q17 xC q19 r1.1>>=fun r7=>
 dA qq q0 q1 q2 q3 q4 q5 q6 q7 q8 q9 q10 yZ xE q13 xG q15 q16 q17 xC q19 r4.1>>=fun r9=>
 if r7 != r9 then
 some (.inl (false,q8,q9,q10,yZ,q17,xC,q19,q5,q6))
 else
 if r1.1 != r4.1 then
 pM qq q0 q1 q2 q3 q4 q5 q6 q7 q8 q9 q10 yZ xE q13 xG q15 q16 q17 xC q19 4>>=fun r13=>
 some (.inr (.inl (true,q8,q9,q10,yZ,r13,q19,q5,q6)))
 else
 sC qq q0 q1 q2 q3 q4 q7 q8 q9 q10 yZ xE q13 xG q15 q16 q17 xC q19 r1 r4 0 q5 q6 ([]:qA)
 else
 some (.inl (false,q8,q9,q10,yZ,q17,xC,q19,q5,q6))
 else
 m4 qq (wA.mk q0 q1 q2 q3 q4) p1.b_>>=fun r15=>
 if r15.2.2 then
 some (.inl (false,q8,q9,q10,yZ,q17,xC,q19,q5,q6))
 else
 some (.inl (false,q8,q9,q10,yZ,q17,xC,q19,q5,q6))
section
variable (q0 q1:yV) (q2:uM) (q3 q4:zZ) (q5 q6:Int) (q7:xR) (q8:qA) (q9 q10 yZ:Nat) (xE:Bool) (q13:xR) (xG:sE) (q15 q16:Nat) (q17:zZ) (xC:Bool) (q19:Int) (p1:zM)
abbrev aZ (r:Bool×qA×Nat×Nat×Nat×zZ×Bool×Int×Int×Int) (C:Cf):Prop:=C 141 [.cells [.mp 1 0,.mp 3 0,zV zI q7 .no,.ms 4 (q10*6) q9 yZ 6,ab xE,.ms 5 0 q13.length q13.length 4,.ms 6 0 q15 q16 4,.ms 7 0 q17.length q17.length 1,ab xC,ai q19],qB q0 2 q3 q4,qR q1 q2,.cells [ai q5,ai q6],.row (zG zP q8),.row (zG zI q13),.row (zG zQ xG),.row (zG yC q17)] [.mp 0 0,sK p1] (ab r.1) [.cells [.mp 1 0,.mp 3 0,zV zI q7 .no,.ms 4 (r.2.2.2.1*6) r.2.2.1 r.2.2.2.2.1 6,ab xE,.ms 5 0 q13.length q13.length 4,.ms 6 0 q15 q16 4,.ms 8 0 r.2.2.2.2.2.1.length r.2.2.2.2.2.1.length 1,ab r.2.2.2.2.2.2.1,ai r.2.2.2.2.2.2.2.1],qB q0 2 q3 q4,qR q1 q2,.cells [ai r.2.2.2.2.2.2.2.2.1,ai r.2.2.2.2.2.2.2.2.2],.row (zG zP q8),.row (zG zI q13),.row (zG zQ xG),.dead,.row (zG yC r.2.2.2.2.2.1)] 0
abbrev A0 (r:Bool×qA×Nat×Nat×Nat×zZ×Int×Int×Int) (C:Cf):Prop:=C 141 [.cells [.mp 1 0,.mp 3 0,zV zI q7 .no,.ms 4 (q10*6) q9 yZ 6,ab xE,.ms 5 0 q13.length q13.length 4,.ms 6 0 q15 q16 4,.ms 7 0 q17.length q17.length 1,ab xC,ai q19],qB q0 2 q3 q4,qR q1 q2,.cells [ai q5,ai q6],.row (zG zP q8),.row (zG zI q13),.row (zG zQ xG),.row (zG yC q17)] [.mp 0 0,sK p1] (ab r.1) [.cells [.mp 1 0,.mp 3 0,zV zI q7 .no,.ms 4 (r.2.2.2.1*6) r.2.2.1 r.2.2.2.2.1 6,ab xE,.ms 5 0 q13.length q13.length 4,.ms 6 0 q15 q16 4,.ms 8 0 r.2.2.2.2.2.1.length r.2.2.2.2.2.1.length 1,ab true,ai r.2.2.2.2.2.2.1],qB q0 2 q3 q4,qR q1 q2,.cells [ai r.2.2.2.2.2.2.2.1,ai r.2.2.2.2.2.2.2.2],.row (zG zP q8),.row (zG zI q13),.row (zG zQ xG),.dead,.row (zG yC r.2.2.2.2.2.1)] 0
abbrev zIC (r:Bool×qA×zZ×Bool×Int×Int×Int) (C:Cf):Prop:=C 141 [.cells [.mp 1 0,.mp 3 0,zV zI q7 .no,.ms 4 (q10*6) q9 yZ 6,ab xE,.ms 5 0 q13.length q13.length 4,.ms 6 0 q15 q16 4,.ms 7 0 q17.length q17.length 1,ab xC,ai q19],qB q0 2 q3 q4,qR q1 q2,.cells [ai q5,ai q6],.row (zG zP q8),.row (zG zI q13),.row (zG zQ xG),.row (zG yC q17)] [.mp 0 0,sK p1] (ab r.1) [.cells [.mp 1 0,.mp 3 0,zV zI q7 .no,.ms 8 0 r.2.1.length r.2.1.length 6,ab xE,.ms 5 0 q13.length q13.length 4,.ms 6 0 q15 q16 4,.ms 9 0 r.2.2.1.length r.2.2.1.length 1,ab r.2.2.2.1,ai r.2.2.2.2.1],qB q0 2 q3 q4,qR q1 q2,.cells [ai r.2.2.2.2.2.1,ai r.2.2.2.2.2.2],.row (zG zP q8),.row (zG zI q13),.row (zG zQ xG),.dead,.row (zG zP r.2.1),.row (zG yC r.2.2.1)] 0
end
theorem nN:Qf 141 f141:=⟨func141,rfl⟩
theorem lP{q0 q1 q2 q3 q4 q5 q6 q7 q8 q9 q10 yZ xE q13 xG q15 q16 q17 xC q19 p1 r}(h:aZ q0 q1 q2 q3 q4 q5 q6 q7 q8 q9 q10 yZ xE q13 xG q15 q16 q17 xC q19 p1 r Ci):aZ q0 q1 q2 q3 q4 q5 q6 q7 q8 q9 q10 yZ xE q13 xG q15 q16 q17 xC q19 p1 r Ct:=⟨h,⟨(lz rfl),⟨tv,tv,⟨tv,dT _⟩,tv,tv,⟨tv,dT _⟩,tv⟩,tv⟩,(zA ⟨(lz rfl),(lz rfl),⟨tv,zF _⟩,(lz rfl),tv,(lz rfl),(lz rfl),(lz rfl),tv,tv,tv⟩ (nW (lz rfl) (zA ⟨tv,tv,tv⟩ (zA (zL _) (zA (zF _) (zA (zK _) (zA (dI _) zB))))))),tv,(zA ⟨(lz rfl),(lz rfl),zF _,(lz rfl),tv,(lz rfl),(lz rfl),(lz rfl),tv,tv,tv⟩ (pW (lz rfl) (zA ⟨tv,tv,tv⟩ (zA (zL _) (zA (zF _) (zA (zK _) (zA tv (zA (dI _) zB))))))))⟩
theorem d8{q0 q1 q2 q3 q4 q5 q6 q7 q8 q9 q10 yZ xE q13 xG q15 q16 q17 xC q19 p1 r}(h:A0 q0 q1 q2 q3 q4 q5 q6 q7 q8 q9 q10 yZ xE q13 xG q15 q16 q17 xC q19 p1 r Ci):A0 q0 q1 q2 q3 q4 q5 q6 q7 q8 q9 q10 yZ xE q13 xG q15 q16 q17 xC q19 p1 r Ct:=⟨h,⟨(lz rfl),⟨tv,tv,⟨tv,dT _⟩,tv,tv,⟨tv,dT _⟩,tv⟩,tv⟩,(zA ⟨(lz rfl),(lz rfl),⟨tv,zF _⟩,(lz rfl),tv,(lz rfl),(lz rfl),(lz rfl),tv,tv,tv⟩ (nW (lz rfl) (zA ⟨tv,tv,tv⟩ (zA (zL _) (zA (zF _) (zA (zK _) (zA (dI _) zB))))))),tv,(zA ⟨(lz rfl),(lz rfl),zF _,(lz rfl),tv,(lz rfl),(lz rfl),(lz rfl),tv,tv,tv⟩ (pW (lz rfl) (zA ⟨tv,tv,tv⟩ (zA (zL _) (zA (zF _) (zA (zK _) (zA tv (zA (dI _) zB))))))))⟩
theorem dD:∀qq:Nat,(∀ {q0 q1 q2 q3 q4 q7 q8 q9 q10 yZ xE q13 xG q15 q16 q17 xC q19 r1 r4 v62 vA vB wX r},sC qq q0 q1 q2 q3 q4 q7 q8 q9 q10 yZ xE q13 xG q15 q16 q17 xC q19 r1 r4 v62 vA vB wX=some r->(∀j,dL 8 (pt 1048501 f141) (sp j 133 0 [(0,.mp 0 0),(5,ai r1.1),(6,zV zD r1.2.1 .no),(9,zV zD r4.2.1 .no),(11,.ms 8 0 wX.length wX.length 6),(61,ai (r1.2.1.length:Int)),(62,ai v62)]) (⟨[(0,.cells [.mp 1 0,.mp 3 0,zV zI q7 .no,.ms 4 (q10*6) q9 yZ 6,ab xE,.ms 5 0 q13.length q13.length 4,.ms 6 0 q15 q16 4,.ms 9 0 q17.length q17.length 1,ab xC,ai q19]),(1,qB q0 2 q3 q4),(2,qR q1 q2),(3,.cells [ai vA,ai vB]),(4,.row (zG zP q8)),(5,.row (zG zI q13)),(6,.row (zG zQ xG)),(7,.dead),(8,.row (zG zP wX)),(9,.row (zG yC q17))],10,[],0,[]⟩) (fQ 8 ((match (generalizing:=false) r with | .inl x=>nQ 8 f141 (ab x.1) [.cells [.mp 1 0,.mp 3 0,zV zI q7 .no,.ms 4 (x.2.2.2.1*6) x.2.2.1 x.2.2.2.2.1 6,ab xE,.ms 5 0 q13.length q13.length 4,.ms 6 0 q15 q16 4,.ms 8 0 x.2.2.2.2.2.1.length x.2.2.2.2.2.1.length 1,ab x.2.2.2.2.2.2.1,ai x.2.2.2.2.2.2.2.1],qB q0 2 q3 q4,qR q1 q2,.cells [ai x.2.2.2.2.2.2.2.2.1,ai x.2.2.2.2.2.2.2.2.2],.row (zG zP q8),.row (zG zI q13),.row (zG zQ xG),.dead,.row (zG yC x.2.2.2.2.2.1)] 0 | .inr (.inl x)=>nQ 8 f141 (ab x.1) [.cells [.mp 1 0,.mp 3 0,zV zI q7 .no,.ms 4 (x.2.2.2.1*6) x.2.2.1 x.2.2.2.2.1 6,ab xE,.ms 5 0 q13.length q13.length 4,.ms 6 0 q15 q16 4,.ms 8 0 x.2.2.2.2.2.1.length x.2.2.2.2.2.1.length 1,ab true,ai x.2.2.2.2.2.2.1],qB q0 2 q3 q4,qR q1 q2,.cells [ai x.2.2.2.2.2.2.2.1,ai x.2.2.2.2.2.2.2.2],.row (zG zP q8),.row (zG zI q13),.row (zG zQ xG),.dead,.row (zG yC x.2.2.2.2.2.1)] 0 | .inr (.inr x)=>nQ 8 f141 (ab x.1) [.cells [.mp 1 0,.mp 3 0,zV zI q7 .no,.ms 8 0 x.2.1.length x.2.1.length 6,ab xE,.ms 5 0 q13.length q13.length 4,.ms 6 0 q15 q16 4,.ms 9 0 x.2.2.1.length x.2.2.1.length 1,ab x.2.2.2.1,ai x.2.2.2.2.1],qB q0 2 q3 q4,qR q1 q2,.cells [ai x.2.2.2.2.2.1,ai x.2.2.2.2.2.2],.row (zG zP q8),.row (zG zI q13),.row (zG zQ xG),.dead,.row (zG zP x.2.1),.row (zG yC x.2.2.1)] 0)) [.blk 0,.seq (pt 16383 f141)]))):=by
 intro qq
 induction qq with
 |zero=>
  exact fun h=>nn h
 |succ qq ih=>
  intro q0 q1 q2 q3 q4 q7 q8 q9 q10 yZ xE q13 xG q15 q16 q17 xC q19 r1 r4 v62 vA vB wX r h
  rw[sC]at h
  have z {os ob} (k:Oz os ob):=oD (zK xG)<|oD (zF q13)<|oD (zL q8)<|cU q0 q1 q2 q3 q4<|oD (zF q7)<|k
  obtain⟨h15,h⟩|⟨h15,h⟩:=zU h
  obtain⟨r16,h17,h⟩:=zC h
  have k:=oC 1 [1,2] (zZg h17)<|oB 0 h15 o0
  obtain⟨h18,h⟩|⟨h18,h⟩:=zU h
  obtain⟨x19,h20,h⟩:=zC h
  obtain⟨x21,h22,h⟩:=zC h
  obtain⟨l23,h24,h⟩:=zC h
  exact fun j=>lH 1 [] [0,1,2,3,4,5,6,7,10,9] [] [0,5,6,9,11,61,62] (oD (dT r4.2.1)<|oD (dT r1.2.1)<|oD (dI q17)<|oD (zL l23)<|z<|oM 2 (zNV h24 (by simp))<|oA 1 (xH (o:=.no) h22)<|oA 0 (xH (o:=.no) h20)<|oB 0 h18 k) (ih h)
  obtain⟨x25,h26,h⟩:=zC h
  obtain⟨x27,h28,h⟩:=zC h
  obtain⟨r29,h30,h⟩:=zC h
  have k:=oC 2 [1,2,3] (c55 h30)<|oA 1 (xH (o:=.no) h28)<|oA 1 (xH (o:=.no) h26)<|oB 0 h18 k
  obtain⟨h31,h⟩|⟨h31,h⟩:=zU h
  have k:=oB 0 h31 k
  obtain⟨h32,h⟩|⟨h32,h⟩:=zU h
  obtain⟨r33,h34,h⟩:=zC h
  cases h
  exact fun j=>lF 1 [0,1,2,3,4,5,6,7,9] (oD (dI q17)<|z<|oC 0 [] (zWB h34)<|oB 1 h32 k)
  exact fun j=>lH 2 [] [0,1,2,3,4,5,6,7,8,9] [] [0,5,6,9,11,61,62] (oD (dT r4.2.1)<|oD (dT r1.2.1)<|oD (dI q17)<|oD (zL wX)<|z<|oB 1 h32 k) (ih h)
  have k:=oB 0 h31 k
  obtain⟨h35,h⟩|⟨h35,h⟩:=zU h
  obtain⟨r36,h37,h⟩:=zC h
  cases h
  exact fun j=>lF 1 [0,1,2,3,4,5,6,7,9] (oD (dI q17)<|z<|oC 0 [] (zWB h37)<|oB 1 h35 k)
  obtain⟨r38,h39,h⟩:=zC h
  cases h
  exact fun j=>lF 1 [0,1,2,3,4,5,6,7,9] (oD (dI q17)<|z<|oC 1 [] (zWB h39)<|oB 1 h35 k)
  have k:=oA 2 (zLe 8 0 wX.length wX.length)<|oB 0 h15 o0
  obtain⟨h40,h⟩|⟨h40,h⟩:=zU h
  obtain⟨r41,h42,h⟩:=zC h
  cases h
  exact fun j=>lF 0 [0,1,2,3,4,5,6,7,8,10] (oD (dI r41)<|oD (zL wX)<|z<|oC 1 [0,1,2,3,8,5,6,9] (I9 h42)<|oQ 1 (zVr (of_decide_eq_true h40)) k)
  obtain⟨m43,h44,h⟩:=zC h
  obtain⟨l45,h46,h⟩:=zC h
  obtain⟨r47,h48,h⟩:=zC h
  cases h
  exact fun j=>lF 0 [0,1,2,3,4,5,6,7,10,11] (oD (dI r47)<|oD (zL l45)<|z<|oC 1 [0,1,2,3,10,5,6,9] (I9 h48)<|oM 1 (zRR (j:=4) h44 h46 (fun e=>of_decide_eq_false h40 ((aF h44).2.symm.trans e))) k)
theorem jX{qq q0 q1 q2 q3 q4 q5 q6 q7 q8 q9 q10 yZ xE q13 xG q15 q16 q17 xC q19 p1 r}(h:dB qq q0 q1 q2 q3 q4 q5 q6 q7 q8 q9 q10 yZ xE q13 xG q15 q16 q17 xC q19 p1=some r):(match (generalizing:=false) r with | .inl x=>aZ q0 q1 q2 q3 q4 q5 q6 q7 q8 q9 q10 yZ xE q13 xG q15 q16 q17 xC q19 p1 x Ct | .inr (.inl x)=>A0 q0 q1 q2 q3 q4 q5 q6 q7 q8 q9 q10 yZ xE q13 xG q15 q16 q17 xC q19 p1 x Ct | .inr (.inr x)=>zIC q0 q1 q2 q3 q4 q5 q6 q7 q8 q9 q10 yZ xE q13 xG q15 q16 q17 xC q19 p1 x Ct):=by
 unfold dB at h
 have z {os ob} (k:Oz os ob):=oD (zK xG)<|oD (zF q13)<|oD (zL q8)<|cU q0 q1 q2 q3 q4<|oD (zF q7)<|k
 have z1 {os ob} (k:Oz os ob):=oD (dI q17)<|oD (zL ([]:qA))<|k
 obtain⟨r1,h2,h⟩:=zC h
 have k:=oC 2 [1,2] (zQf h2) o0
 obtain⟨h3,h⟩|⟨h3,h⟩:=zU h
 obtain⟨r4,h5,h⟩:=zC h
 have k:=oC 2 [1,2] (zQf h5)<|oB 2 h3 k
 obtain⟨h6,h⟩|⟨h6,h⟩:=zU h
 obtain⟨r7,h8,h⟩:=zC h
 obtain⟨r9,h10,h⟩:=zC h
 have k:=oC 0 [0,1,2,3,4,5,6,7] (zGl h10)<|oC 2 [0,1,2,3,4,5,6,7] (zGl h8)<|oB 2 h6 k
 obtain⟨h11,h⟩|⟨h11,h⟩:=zU h
 cases h
 exact lP (tG nN 0 [(some 7,0,0)] [0,1,2,3,4,5,6,7,9] [] false (oD (dI q17)<|z<|oB 0 h11 k))
 have k:=oB 0 h11 k
 obtain⟨h12,h⟩|⟨h12,h⟩:=zU h
 obtain⟨r13,h14,h⟩:=zC h
 cases h
 exact d8 (tF nN 1 [0,1,2,3,4,5,6,7,9] (oD (dI r13)<|z<|oC 0 [0,1,2,3,4,5,6,7] (I9 h14)<|oB 0 h12 k))
 rcases r with y0 | (y1|y2)
 exact lP (tH nN 1 [(some 7,0,0),(none,11,4102)] [0,1,2,3,4,5,6,7,10,9] [] [0,5,6,9,11,61,62] (oD (dT r4.2.1)<|oD (dT r1.2.1)<|z1<|z<|oB 0 h12 k) (dD _ h))
 exact d8 (tH nN 1 [(some 7,0,0),(none,11,4102)] [0,1,2,3,4,5,6,7,10,9] [] [0,5,6,9,11,61,62] (oD (dT r4.2.1)<|oD (dT r1.2.1)<|z1<|z<|oB 0 h12 k) (dD _ h))
 exact⟨tH nN 1 [(some 7,0,0),(none,11,4102)] [0,1,2,3,4,5,6,7,10,9] [] [0,5,6,9,11,61,62] (oD (dT r4.2.1)<|oD (dT r1.2.1)<|z1<|z<|oB 0 h12 k) (dD _ h),⟨(lz rfl),⟨tv,tv,⟨tv,dT _⟩,tv,tv,⟨tv,dT _⟩,tv⟩,tv⟩,(zA ⟨(lz rfl),(lz rfl),⟨tv,zF _⟩,(lz rfl),tv,(lz rfl),(lz rfl),(lz rfl),tv,tv,tv⟩ (nW (lz rfl) (zA ⟨tv,tv,tv⟩ (zA (zL _) (zA (zF _) (zA (zK _) (zA (dI _) zB))))))),tv,(zA ⟨(lz rfl),(lz rfl),zF _,(lz rfl),tv,(lz rfl),(lz rfl),(lz rfl),tv,tv,tv⟩ (pW (lz rfl) (zA ⟨tv,tv,tv⟩ (zA (zL _) (zA (zF _) (zA (zK _) (zA tv (zA (zL _) (zA (dI _) zB)))))))))⟩
 cases h
 exact lP (tG nN 2 [(some 7,0,0)] [0,1,2,3,4,5,6,7,9] [] false (oD (dI q17)<|z<|oB 2 h6 k))
 obtain⟨r15,h16,h⟩:=zC h
 have k:=oC 2 [1,2] (zQf h16)<|oB 2 h3 k
 obtain⟨h17,h⟩|⟨h17,h⟩:=zU h
 cases h
 exact lP (tG nN 1 [(some 7,0,0)] [0,1,2,3,4,5,6,7,9] [] false (oD (dI q17)<|z<|oB 2 h17 k))
 cases h
 exact lP (tG nN 1 [(some 7,0,0)] [0,1,2,3,4,5,6,7,9] [] false (oD (dI q17)<|z<|oB 2 h17 k))
theorem zBK{N:ByteArray->Bool}{l:List yI}(hE:wP N l)(he:∀e∈l,eK e)(hl:l.length≤65535)(hc:∀e∈l,ECl e){x y:Tm}(hx:x.Ok)(hy:y.Ok)(L U:Int)(h0:0≤L)(h1:0≤U)(h2:L+U≤1099511627776) :
  zN (fun q=>e55 q (wW l) x y L U) fun r=>r.1=true->r.2.1=0->∃k,0≤k∧k≤L∧r.2.2.1=L-k∧r.2.2.2=U+k∧Cv l false x y true k:=by
 have h:=zKi l hE he hl hc false x y hx hy L h0
 refine zN.mono (Ou.met h h1 h2) fun r hr a b=>?_
 rcases hr with hr|⟨R,k,k0,k1,⟨b',e,-,q1,-,rfl⟩,rfl⟩
 ·have:=i9 hr
  rw[this.1]at a;cases a
 ·have b'':e=0:=b
  have a':b'=true:=a
  refine⟨k,k0,k1,rfl,rfl,?_⟩
  have:=q1 b''
  rwa[a']at this
theorem Q0(e:Int):zN (fun q=>zIB q e) fun r=>r≠0:=by
 simp only[zIB]
 exact zN.ite (fun _=>zN.ret (by decide)) fun h=>zN.ret (by simpa using h)
def zWC(l:List yI)(a b:Tm)(q8:List zM)(q9 q10 yZ:Nat)(q17:List Int)(xC:Bool)(L S:Int)
  (x:(Bool×List zM×Nat×Nat×Nat×List Int×Bool×Int×Int×Int) ⊕ ((Bool×List zM×Nat×Nat×Nat×List Int×Int×Int×Int) ⊕ (Bool×List zM×List Int×Bool×Int×Int×Int))):Prop:=
 (∃e fl fu,e≠0∧x = .inl (true,q8,q9,q10,yZ,q17,xC,e,fl,fu)) ∨
 (∃fl fu,0≤fl∧fl≤L∧0≤fu∧fl+fu=S∧x = .inr (.inr (true,tD (nM l a) (nM l b)++(q8.drop q10).take q9,q17++[2],xC,0,fl,fu)) ∧
  ∀i:Nat,(i:Int)<(ent l (yF a).n).pars->∃k,Cv l false (tJ (yS a) i) (tJ (yS b) i) true k)
theorem d9{A B:List Tm}{v:Nat}{x y:Tm}(hx:A[v]? = some x)(hy:B[v]? = some y):(tD A B).take (v+1)=(tD A B).take v++[⟨x,y⟩]:=by
 rw[List.take_add_one]
 congr 1
 unfold tD
 rw[List.getElem?_zipWith,hx,hy];rfl
theorem zZQ{A:List Tm}{v:Nat}{x:Tm}(h:A[v]? = some x):tJ A (v:Int)=x:=by
 have h1:=sA (l:=A) (n:=(v:Int)) (by omega) (by have:=(List.getElem?_eq_some_iff.1 h).1;omega)
 have h2:=sH h
 rw[h1]at h2
 exact Option.some.inj h2
theorem Q1{N:ByteArray->Bool}{l:List yI}(hE:wP N l)(he:∀e∈l,eK e)(hl:l.length≤65535)(hc:∀e∈l,ECl e){a b:Tm}(hsa:zH a=true)(hsb:zH b=true)(ha:xV l a)(hb:xV l b)(hn:(yF a).n=(yF b).n)
  (q7:List zR) (q8:List zM) (q9 q10 yZ:Nat) (xE:Bool) (q13:List zR) (xG:List zS) (q15 q16:Nat) (q17:List Int) (xC:Bool) (L S:Int) (hS:S≤1099511627776)
  (h9:q10+q9≤q8.length) (h8:q8.length≤1048576000) (h17:q17.length≤1048576000) :
  ∀(k v:Nat) (fl fu:Int) (more:List zM),v+k=(yS a).length->0≤fl->fl≤L->0≤fu->fl+fu=S->(∀i:Nat,i<v->(i:Int)<(ent l (yF a).n).pars->∃k,Cv l false (tJ (yS a) i) (tJ (yS b) i) true k)->more=((tD (yS a) (yS b)).take v).drop (ent l (yF a).n).pars.toNat ->
   zN (fun q=>sC q l l (lW l l.length 0) (l.map wG) (l.map rX) q7 q8 q9 q10 yZ xE q13 xG q15 q16 q17 xC 0 ((yF a).n,yS a,true) ((yF b).n,yS b,true) (v:Int) fl fu more) (zWC l a b q8 q9 q10 yZ q17 xC L S)
 |0,v,fl,fu,more,hv,f0,f1,f2,f3,hp,hm=>by
  have hla:=rE a (zO hsa).2.2
  have hna:=(zO hsa).1
  have hvv:v=(yS a).length:=by omega
  have hlab:(yS a).length=(yS b).length:=by rw[(uB hsa ha).2.2.2,(uB hsb hb).2.2.2,hn]
  have hz:(tD (yS a) (yS b)).length=(yS a).length:=by unfold tD;rw[List.length_zipWith];omega
  have hmore:more=tD (nM l a) (nM l b):=by
   rw[hm,List.take_of_length_le (by omega)]
   unfold tD nM
   rw[List.drop_zipWith,hn]
  have hml:more.length≤8192:=by rw[hm];simp;omega
  refine zN.succ ?_
  simp only[sC,pM]
  refine zN.ite (fun h=>absurd (of_decide_eq_true h) (by omega)) fun _=>zN.ite (fun h=>?_) fun h=>?_
  ·have h0:=of_decide_eq_true h
   refine zN.bind (P:=fun s=>s=q17++[2]) (zN.pure (yK (by simp;omega)) (zN.ret rfl)) fun s hs=>zN.ret (.inr ⟨fl,fu,f0,f1,f2,f3,?_,fun i hi=>?_⟩)
   ·rw[hs,h0,List.take_zero,List.append_nil,hmore]
   ·obtain⟨p,hp',h1,-,-⟩:=cJ hE hsa ha
    exact hp i (by omega) hi
  ·refine zN.pure (a:=(q8.drop q10).take q9) (by unfold bH;rw[if_pos h9]) (zN.pure (yK (by simp;omega)) (zN.bind (P:=fun s=>s=q17++[2]) (zN.pure (yK (by simp;omega)) (zN.ret rfl)) fun s hs=>zN.ret (.inr ⟨fl,fu,f0,f1,f2,f3,?_,fun i hi=>?_⟩)))
   ·rw[hs,hmore]
   ·obtain⟨p,hp',h1,-,-⟩:=cJ hE hsa ha
    exact hp i (by omega) hi
 |k+1,v,fl,fu,more,hv,f0,f1,f2,f3,hp,hm=>by
  have hla:=rE a (zO hsa).2.2
  have hna:=(zO hsa).1
  have hlab:(yS a).length=(yS b).length:=by rw[(uB hsa ha).2.2.2,(uB hsb hb).2.2.2,hn]
  have hz:(tD (yS a) (yS b)).length=(yS a).length:=by unfold tD;rw[List.length_zipWith];omega
  have hva:v<(yS a).length:=by omega
  obtain⟨x,hx⟩:∃x,(yS a)[v]? = some x:=⟨_,List.getElem?_eq_getElem hva⟩
  obtain⟨y,hy⟩:∃y,(yS b)[v]? = some y:=⟨_,List.getElem?_eq_getElem (by omega)⟩
  have hxo:=yB (xI hsa (List.mem_of_getElem? hx))
  have hyo:=yB (xI hsb (List.mem_of_getElem? hy))
  have hml:more.length≤8192:=by rw[hm];simp;omega
  obtain⟨p,hp',h1,h2,h3⟩:=cJ hE hsa ha
  refine zN.succ ?_
  simp only[sC]
  refine zN.ite (fun _=>zN.bind (P:=fun r=>r=(p:Int)) ((zFY l h2 h3).tot hp') fun r16 h16=>?_) fun h=>absurd (of_decide_eq_false h) (by omega)
  subst h16
  refine zN.ite (fun h4=>zN.pure (sH hx) (zN.pure (sH hy) (zN.pure (yK (by simp;omega)) ?_))) fun h4=>zN.pure (sH hx) (zN.pure (sH hy) ?_)
  ·have h4':=of_decide_eq_true h4
   rw[yA v (by omega)]
   refine Q1 hE he hl hc hsa hsb ha hb hn q7 q8 q9 q10 yZ xE q13 xG q15 q16 q17 xC L S hS h9 h8 h17 k (v+1) fl fu _ (by omega) f0 f1 f2 f3 (fun i hi hip=>hp i (by omega) hip) ?_
   rw[d9 hx hy,hm,List.drop_append_of_le_length (by rw[List.length_take];omega)]
  ·have h4':=of_decide_eq_false h4
   have next:∀fl' fu':Int,(∃k,0≤k∧k≤fl∧fl'=fl-k∧fu'=fu+k∧Cv l false x y true k)->zN (fun q=>sC q l l (lW l l.length 0) (l.map wG) (l.map rX) q7 q8 q9 q10 yZ xE q13 xG q15 q16 q17 xC 0 ((yF a).n,yS a,true) ((yF b).n,yS b,true) (xL ((v:Int)+1)) fl' fu' more) (zWC l a b q8 q9 q10 yZ q17 xC L S):=fun fl' fu' ⟨j,j0,j1,e1,e2,hcv⟩=>by
    rw[yA v (by omega)]
    refine Q1 hE he hl hc hsa hsb ha hb hn q7 q8 q9 q10 yZ xE q13 xG q15 q16 q17 xC L S hS h9 h8 h17 k (v+1) fl' fu' more (by omega) (by omega) (by omega) (by omega) (by omega) (fun i hi hip=>?_) ?_
    ·rcases Nat.lt_or_ge i v with h5|h5
     ·exact hp i h5 hip
     ·have:i=v:=by omega
      subst this
      rw[zZQ hx,zZQ hy]
      exact⟨j,hcv⟩
    ·rw[d9 hx hy,hm,hp']
     rw[List.drop_eq_nil_of_le (by simp;omega),List.drop_eq_nil_of_le (by simp;omega)]
   refine(zBK hE he hl hc hxo hyo fl fu f0 f2 (by omega)).bind fun r29 h29=>zN.ite (fun h5=>zN.ite (fun _=>(Q0 _).bind fun r hr=>zN.ret (.inl ⟨_,_,_,hr,rfl⟩)) fun h6=>next _ _ ?_) fun h5=>zN.ite (fun _=>(Q0 _).bind fun r hr=>zN.ret (.inl ⟨_,_,_,hr,rfl⟩)) fun h6=>(Q0 _).bind fun r hr=>zN.ret (.inl ⟨_,_,_,hr,rfl⟩)
   obtain⟨k,a1,a2,a3,a4,a5⟩:=h29 h5 (by simpa using h6)
   exact⟨k,a1,a2,a3,a4,a5⟩
def dF(qq:Nat)(q0 q1:yV)(q2:uM)(q3 q4:zZ)(q5 q6:Int)(q7:xR)(q8:qA)(q9 q10 yZ:Nat)(xE:Bool)(q13:xR)(xG:sE)(q15 q16:Nat)(q17:zZ)(xC:Bool)(q19:Int)(p1:zM):Option ((qA×Nat×Nat×Nat×zZ×Bool×Int×Int×Int) ⊕ ((qA×Nat×Nat×Nat×zZ×Int×Int×Int) ⊕ (qA×zZ×Bool×Int×Int×Int))):=
 dB qq q0 q1 q2 q3 q4 q5 q6 q7 q8 q9 q10 yZ xE q13 xG q15 q16 q17 xC q19 p1>>=fun r1=>
 match r1 with
 | .inl y3=>
  if y3.1 then
  some (.inl (q8,y3.2.2.1,y3.2.2.2.1,y3.2.2.2.2.1,y3.2.2.2.2.2.1,y3.2.2.2.2.2.2.1,y3.2.2.2.2.2.2.2.1,y3.2.2.2.2.2.2.2.2.1,y3.2.2.2.2.2.2.2.2.2))
  else
  e55 qq (wA.mk q0 q1 q2 q3 q4) p1.a_ p1.b_ y3.2.2.2.2.2.2.2.2.1 y3.2.2.2.2.2.2.2.2.2>>=fun r5=>
  if r5.1 then
  if r5.2.1 != 0 then
  some (.inl (q8,y3.2.2.1,y3.2.2.2.1,y3.2.2.2.2.1,y3.2.2.2.2.2.1,y3.2.2.2.2.2.2.1,r5.2.1,r5.2.2.1,r5.2.2.2))
  else
  some (.inl (q8,y3.2.2.1,y3.2.2.2.1,y3.2.2.2.2.1,y3.2.2.2.2.2.1,y3.2.2.2.2.2.2.1,12,r5.2.2.1,r5.2.2.2))
  else
  if r5.2.1 != 0 then
  some (.inl (q8,y3.2.2.1,y3.2.2.2.1,y3.2.2.2.2.1,y3.2.2.2.2.2.1,y3.2.2.2.2.2.2.1,r5.2.1,r5.2.2.1,r5.2.2.2))
  else
  some (.inl (q8,y3.2.2.1,y3.2.2.2.1,y3.2.2.2.2.1,y3.2.2.2.2.2.1,y3.2.2.2.2.2.2.1,13,r5.2.2.1,r5.2.2.2))
 | .inr (.inl y10)=>
  if y10.1 then
  some (.inr (.inl (q8,y10.2.2.1,y10.2.2.2.1,y10.2.2.2.2.1,y10.2.2.2.2.2.1,y10.2.2.2.2.2.2.1,y10.2.2.2.2.2.2.2.1,y10.2.2.2.2.2.2.2.2)))
  else
  e55 qq (wA.mk q0 q1 q2 q3 q4) p1.a_ p1.b_ y10.2.2.2.2.2.2.2.1 y10.2.2.2.2.2.2.2.2>>=fun r12=>
  if r12.1 then
  if r12.2.1 != 0 then
  some (.inr (.inl (q8,y10.2.2.1,y10.2.2.2.1,y10.2.2.2.2.1,y10.2.2.2.2.2.1,r12.2.1,r12.2.2.1,r12.2.2.2)))
  else
  some (.inr (.inl (q8,y10.2.2.1,y10.2.2.2.1,y10.2.2.2.2.1,y10.2.2.2.2.2.1,12,r12.2.2.1,r12.2.2.2)))
  else
  if r12.2.1 != 0 then
  some (.inr (.inl (q8,y10.2.2.1,y10.2.2.2.1,y10.2.2.2.2.1,y10.2.2.2.2.2.1,r12.2.1,r12.2.2.1,r12.2.2.2)))
  else
  some (.inr (.inl (q8,y10.2.2.1,y10.2.2.2.1,y10.2.2.2.2.1,y10.2.2.2.2.2.1,13,r12.2.2.1,r12.2.2.2)))
 | .inr (.inr y17)=>
  if y17.1 then
  some (.inr (.inr (y17.2.1,y17.2.2.1,y17.2.2.2.1,y17.2.2.2.2.1,y17.2.2.2.2.2.1,y17.2.2.2.2.2.2)))
  else
  e55 qq (wA.mk q0 q1 q2 q3 q4) p1.a_ p1.b_ y17.2.2.2.2.2.1 y17.2.2.2.2.2.2>>=fun r19=>
  if r19.1 then
  if r19.2.1 != 0 then
  some (.inr (.inr (y17.2.1,y17.2.2.1,y17.2.2.2.1,r19.2.1,r19.2.2.1,r19.2.2.2)))
  else
  some (.inr (.inr (y17.2.1,y17.2.2.1,y17.2.2.2.1,12,r19.2.2.1,r19.2.2.2)))
  else
  if r19.2.1 != 0 then
  some (.inr (.inr (y17.2.1,y17.2.2.1,y17.2.2.2.1,r19.2.1,r19.2.2.1,r19.2.2.2)))
  else
  some (.inr (.inr (y17.2.1,y17.2.2.1,y17.2.2.2.1,13,r19.2.2.1,r19.2.2.2)))
section
variable (q0 q1:yV) (q2:uM) (q3 q4:zZ) (q5 q6:Int) (q7:xR) (q8:qA) (q9 q10 yZ:Nat) (xE:Bool) (q13:xR) (xG:sE) (q15 q16:Nat) (q17:zZ) (xC:Bool) (q19:Int) (p1:zM)
abbrev A1 (r:qA×Nat×Nat×Nat×zZ×Bool×Int×Int×Int) (C:Cf):Prop:=C 103 [.cells [.mp 1 0,.mp 3 0,zV zI q7 .no,.ms 4 (q10*6) q9 yZ 6,ab xE,.ms 5 0 q13.length q13.length 4,.ms 6 0 q15 q16 4,.ms 7 0 q17.length q17.length 1,ab xC,ai q19],qB q0 2 q3 q4,qR q1 q2,.cells [ai q5,ai q6],.row (zG zP q8),.row (zG zI q13),.row (zG zQ xG),.row (zG yC q17)] [.mp 0 0,sK p1] (.tup []) [.cells [.mp 1 0,.mp 3 0,zV zI q7 .no,.ms 4 (r.2.2.1*6) r.2.1 r.2.2.2.1 6,ab xE,.ms 5 0 q13.length q13.length 4,.ms 6 0 q15 q16 4,.ms 8 0 r.2.2.2.2.1.length r.2.2.2.2.1.length 1,ab r.2.2.2.2.2.1,ai r.2.2.2.2.2.2.1],qB q0 2 q3 q4,qR q1 q2,.cells [ai r.2.2.2.2.2.2.2.1,ai r.2.2.2.2.2.2.2.2],.row (zG zP q8),.row (zG zI q13),.row (zG zQ xG),.dead,.row (zG yC r.2.2.2.2.1)] 0
abbrev A2 (r:qA×Nat×Nat×Nat×zZ×Int×Int×Int) (C:Cf):Prop:=C 103 [.cells [.mp 1 0,.mp 3 0,zV zI q7 .no,.ms 4 (q10*6) q9 yZ 6,ab xE,.ms 5 0 q13.length q13.length 4,.ms 6 0 q15 q16 4,.ms 7 0 q17.length q17.length 1,ab xC,ai q19],qB q0 2 q3 q4,qR q1 q2,.cells [ai q5,ai q6],.row (zG zP q8),.row (zG zI q13),.row (zG zQ xG),.row (zG yC q17)] [.mp 0 0,sK p1] (.tup []) [.cells [.mp 1 0,.mp 3 0,zV zI q7 .no,.ms 4 (r.2.2.1*6) r.2.1 r.2.2.2.1 6,ab xE,.ms 5 0 q13.length q13.length 4,.ms 6 0 q15 q16 4,.ms 8 0 r.2.2.2.2.1.length r.2.2.2.2.1.length 1,ab true,ai r.2.2.2.2.2.1],qB q0 2 q3 q4,qR q1 q2,.cells [ai r.2.2.2.2.2.2.1,ai r.2.2.2.2.2.2.2],.row (zG zP q8),.row (zG zI q13),.row (zG zQ xG),.dead,.row (zG yC r.2.2.2.2.1)] 0
abbrev A3 (r:qA×zZ×Bool×Int×Int×Int) (C:Cf):Prop:=C 103 [.cells [.mp 1 0,.mp 3 0,zV zI q7 .no,.ms 4 (q10*6) q9 yZ 6,ab xE,.ms 5 0 q13.length q13.length 4,.ms 6 0 q15 q16 4,.ms 7 0 q17.length q17.length 1,ab xC,ai q19],qB q0 2 q3 q4,qR q1 q2,.cells [ai q5,ai q6],.row (zG zP q8),.row (zG zI q13),.row (zG zQ xG),.row (zG yC q17)] [.mp 0 0,sK p1] (.tup []) [.cells [.mp 1 0,.mp 3 0,zV zI q7 .no,.ms 8 0 r.1.length r.1.length 6,ab xE,.ms 5 0 q13.length q13.length 4,.ms 6 0 q15 q16 4,.ms 9 0 r.2.1.length r.2.1.length 1,ab r.2.2.1,ai r.2.2.2.1],qB q0 2 q3 q4,qR q1 q2,.cells [ai r.2.2.2.2.1,ai r.2.2.2.2.2],.row (zG zP q8),.row (zG zI q13),.row (zG zQ xG),.dead,.row (zG zP r.1),.row (zG yC r.2.1)] 0
end
theorem tQ:Qf 103 f103:=⟨func103,rfl⟩
theorem lQ{q0 q1 q2 q3 q4 q5 q6 q7 q8 q9 q10 yZ xE q13 xG q15 q16 q17 xC q19 p1 r}(h:A1 q0 q1 q2 q3 q4 q5 q6 q7 q8 q9 q10 yZ xE q13 xG q15 q16 q17 xC q19 p1 r Ci):A1 q0 q1 q2 q3 q4 q5 q6 q7 q8 q9 q10 yZ xE q13 xG q15 q16 q17 xC q19 p1 r Ct:=⟨h,⟨(lz rfl),⟨tv,tv,⟨tv,dT _⟩,tv,tv,⟨tv,dT _⟩,tv⟩,tv⟩,(zA ⟨(lz rfl),(lz rfl),⟨tv,zF _⟩,(lz rfl),tv,(lz rfl),(lz rfl),(lz rfl),tv,tv,tv⟩ (nW (lz rfl) (zA ⟨tv,tv,tv⟩ (zA (zL _) (zA (zF _) (zA (zK _) (zA (dI _) zB))))))),tv,(zA ⟨(lz rfl),(lz rfl),zF _,(lz rfl),tv,(lz rfl),(lz rfl),(lz rfl),tv,tv,tv⟩ (pW (lz rfl) (zA ⟨tv,tv,tv⟩ (zA (zL _) (zA (zF _) (zA (zK _) (zA tv (zA (dI _) zB))))))))⟩
theorem lR{q0 q1 q2 q3 q4 q5 q6 q7 q8 q9 q10 yZ xE q13 xG q15 q16 q17 xC q19 p1 r}(h:A2 q0 q1 q2 q3 q4 q5 q6 q7 q8 q9 q10 yZ xE q13 xG q15 q16 q17 xC q19 p1 r Ci):A2 q0 q1 q2 q3 q4 q5 q6 q7 q8 q9 q10 yZ xE q13 xG q15 q16 q17 xC q19 p1 r Ct:=⟨h,⟨(lz rfl),⟨tv,tv,⟨tv,dT _⟩,tv,tv,⟨tv,dT _⟩,tv⟩,tv⟩,(zA ⟨(lz rfl),(lz rfl),⟨tv,zF _⟩,(lz rfl),tv,(lz rfl),(lz rfl),(lz rfl),tv,tv,tv⟩ (nW (lz rfl) (zA ⟨tv,tv,tv⟩ (zA (zL _) (zA (zF _) (zA (zK _) (zA (dI _) zB))))))),tv,(zA ⟨(lz rfl),(lz rfl),zF _,(lz rfl),tv,(lz rfl),(lz rfl),(lz rfl),tv,tv,tv⟩ (pW (lz rfl) (zA ⟨tv,tv,tv⟩ (zA (zL _) (zA (zF _) (zA (zK _) (zA tv (zA (dI _) zB))))))))⟩
theorem lS{q0 q1 q2 q3 q4 q5 q6 q7 q8 q9 q10 yZ xE q13 xG q15 q16 q17 xC q19 p1 r}(h:A3 q0 q1 q2 q3 q4 q5 q6 q7 q8 q9 q10 yZ xE q13 xG q15 q16 q17 xC q19 p1 r Ci):A3 q0 q1 q2 q3 q4 q5 q6 q7 q8 q9 q10 yZ xE q13 xG q15 q16 q17 xC q19 p1 r Ct:=⟨h,⟨(lz rfl),⟨tv,tv,⟨tv,dT _⟩,tv,tv,⟨tv,dT _⟩,tv⟩,tv⟩,(zA ⟨(lz rfl),(lz rfl),⟨tv,zF _⟩,(lz rfl),tv,(lz rfl),(lz rfl),(lz rfl),tv,tv,tv⟩ (nW (lz rfl) (zA ⟨tv,tv,tv⟩ (zA (zL _) (zA (zF _) (zA (zK _) (zA (dI _) zB))))))),tv,(zA ⟨(lz rfl),(lz rfl),zF _,(lz rfl),tv,(lz rfl),(lz rfl),(lz rfl),tv,tv,tv⟩ (pW (lz rfl) (zA ⟨tv,tv,tv⟩ (zA (zL _) (zA (zF _) (zA (zK _) (zA tv (zA (zL _) (zA (dI _) zB)))))))))⟩
theorem b7{qq q0 q1 q2 q3 q4 q5 q6 q7 q8 q9 q10 yZ xE q13 xG q15 q16 q17 xC q19 p1 r}(h:dF qq q0 q1 q2 q3 q4 q5 q6 q7 q8 q9 q10 yZ xE q13 xG q15 q16 q17 xC q19 p1=some r):(match (generalizing:=false) r with | .inl x=>A1 q0 q1 q2 q3 q4 q5 q6 q7 q8 q9 q10 yZ xE q13 xG q15 q16 q17 xC q19 p1 x Ct | .inr (.inl x)=>A2 q0 q1 q2 q3 q4 q5 q6 q7 q8 q9 q10 yZ xE q13 xG q15 q16 q17 xC q19 p1 x Ct | .inr (.inr x)=>A3 q0 q1 q2 q3 q4 q5 q6 q7 q8 q9 q10 yZ xE q13 xG q15 q16 q17 xC q19 p1 x Ct):=by
 unfold dF at h
 have z {os ob} (k:Oz os ob):=oD (zK xG)<|oD (zF q13)<|oD (zL q8)<|cU q0 q1 q2 q3 q4<|oD (zF q7)<|k
 obtain⟨r1,h2,h⟩:=zC h
 rcases r1 with y3 | (y10|y17)
 dsimp only at h
 obtain⟨h4,h⟩|⟨h4,h⟩:=zU h
 cases h
 exact lQ (tF tQ 0 [0,1,2,3,4,5,6,7,9] (oD (dI y3.2.2.2.2.2.1)<|z<|oK 1 [0,1,2,3,4,5,6,7] h4 (jX h2) o0))
 obtain⟨r5,h6,h⟩:=zC h
 have k:=oC 4 [1,2,3] (c55 h6)<|oK 1 [0,1,2,3,4,5,6,7] h4 (jX h2) o0
 obtain⟨h7,h⟩|⟨h7,h⟩:=zU h
 have k:=oB 0 h7 k
 obtain⟨h8,h⟩|⟨h8,h⟩:=zU h
 cases h
 exact lQ (tF tQ 1 [0,1,2,3,4,5,6,7,9] (oD (dI y3.2.2.2.2.2.1)<|z<|oB 1 h8 k))
 cases h
 exact lQ (tF tQ 1 [0,1,2,3,4,5,6,7,9] (oD (dI y3.2.2.2.2.2.1)<|z<|oB 1 h8 k))
 have k:=oB 0 h7 k
 obtain⟨h9,h⟩|⟨h9,h⟩:=zU h
 cases h
 exact lQ (tF tQ 1 [0,1,2,3,4,5,6,7,9] (oD (dI y3.2.2.2.2.2.1)<|z<|oB 1 h9 k))
 cases h
 exact lQ (tF tQ 1 [0,1,2,3,4,5,6,7,9] (oD (dI y3.2.2.2.2.2.1)<|z<|oB 1 h9 k))
 dsimp only at h
 obtain⟨h11,h⟩|⟨h11,h⟩:=zU h
 cases h
 exact lR (tF tQ 0 [0,1,2,3,4,5,6,7,9] (oD (dI y10.2.2.2.2.2.1)<|z<|oK 1 [0,1,2,3,4,5,6,7] h11 (jX h2) o0))
 obtain⟨r12,h13,h⟩:=zC h
 have k:=oC 4 [1,2,3] (c55 h13)<|oK 1 [0,1,2,3,4,5,6,7] h11 (jX h2) o0
 obtain⟨h14,h⟩|⟨h14,h⟩:=zU h
 have k:=oB 0 h14 k
 obtain⟨h15,h⟩|⟨h15,h⟩:=zU h
 cases h
 exact lR (tF tQ 1 [0,1,2,3,4,5,6,7,9] (oD (dI y10.2.2.2.2.2.1)<|z<|oB 1 h15 k))
 cases h
 exact lR (tF tQ 1 [0,1,2,3,4,5,6,7,9] (oD (dI y10.2.2.2.2.2.1)<|z<|oB 1 h15 k))
 have k:=oB 0 h14 k
 obtain⟨h16,h⟩|⟨h16,h⟩:=zU h
 cases h
 exact lR (tF tQ 1 [0,1,2,3,4,5,6,7,9] (oD (dI y10.2.2.2.2.2.1)<|z<|oB 1 h16 k))
 cases h
 exact lR (tF tQ 1 [0,1,2,3,4,5,6,7,9] (oD (dI y10.2.2.2.2.2.1)<|z<|oB 1 h16 k))
 dsimp only at h
 obtain⟨h18,h⟩|⟨h18,h⟩:=zU h
 cases h
 exact lS (tF tQ 0 [0,1,2,3,4,5,6,7,9,10] (oD (dI y17.2.2.1)<|oD (zL y17.2.1)<|z<|oK 1 [0,1,2,3,4,5,6,7] h18 (jX h2) o0))
 obtain⟨r19,h20,h⟩:=zC h
 have k:=oC 4 [1,2,3] (c55 h20)<|oK 1 [0,1,2,3,4,5,6,7] h18 (jX h2) o0
 obtain⟨h21,h⟩|⟨h21,h⟩:=zU h
 have k:=oB 0 h21 k
 obtain⟨h22,h⟩|⟨h22,h⟩:=zU h
 cases h
 exact lS (tF tQ 1 [0,1,2,3,4,5,6,7,9,10] (oD (dI y17.2.2.1)<|oD (zL y17.2.1)<|z<|oB 1 h22 k))
 cases h
 exact lS (tF tQ 1 [0,1,2,3,4,5,6,7,9,10] (oD (dI y17.2.2.1)<|oD (zL y17.2.1)<|z<|oB 1 h22 k))
 have k:=oB 0 h21 k
 obtain⟨h23,h⟩|⟨h23,h⟩:=zU h
 cases h
 exact lS (tF tQ 1 [0,1,2,3,4,5,6,7,9,10] (oD (dI y17.2.2.1)<|oD (zL y17.2.1)<|z<|oB 1 h23 k))
 cases h
 exact lS (tF tQ 1 [0,1,2,3,4,5,6,7,9,10] (oD (dI y17.2.2.1)<|oD (zL y17.2.1)<|z<|oB 1 h23 k))
theorem zKh(l:List yI){c:Int}(h0:0≤c)(h1:c<l.length):zJ (fun q=>zQK q (wW l) c) (ent l c).fam:=by
 simp only[zQK,cH]
 exact zJ.ifF (decide_eq_false (by omega)) (zJ.ifF (decide_eq_false (by omega)) (zJ.pure (yT h0 h1) zJ.ret))
theorem zMM{N:ByteArray->Bool}{l:List yI}(hE:wP N l)(he:∀e∈l,eK e)(hl:l.length≤65535)(hc:∀e∈l,ECl e){a b:Tm}(hsa:zH a=true)(hsb:zH b=true)
  (q5 q6:Int) (q7:List zR) (q8:List zM) (q9 q10 yZ:Nat) (xE:Bool) (q13:List zR) (xG:List zS) (q15 q16:Nat) (q17:List Int) (xC:Bool) (h5:0≤q5) (h6:0≤q6) (h56:q5+q6≤1099511627776)
  (h9:q10+q9≤q8.length) (h8:q8.length≤1048576000) (h17:q17.length≤1048576000) :
  zN (fun q=>dB q l l (lW l l.length 0) (l.map wG) (l.map rX) q5 q6 q7 q8 q9 q10 yZ xE q13 xG q15 q16 q17 xC 0 (zM.mk a b)) fun x=>
   x = .inl (false,q8,q9,q10,yZ,q17,xC,0,q5,q6) ∨
   (x = .inr (.inl (true,q8,q9,q10,yZ,q17++[4],0,q5,q6))∧xV l a∧xV l b∧(yF a).n≠(yF b).n) ∨
   (xV l a∧xV l b∧(yF a).n=(yF b).n∧zWC l a b q8 q9 q10 yZ q17 xC q5 (q5+q6) x):=by
 simp only[dB,pM,dA]
 refine zN.bind (P:=fun r=>r=gP l a) ((W1 l a hsa).tot rfl) fun r1 h1=>?_
 subst h1
 by_cases ca:xV l a
 ·have xa:gP l a=((yF a).n,yS a,true):=if_pos ca
  have sa:=uB hsa ca
  rw[xa]
  refine zN.ite (fun _=>zN.bind (P:=fun r=>r=gP l b) ((W1 l b hsb).tot rfl) fun r4 h4=>?_) fun h=>(by cases h)
  subst h4
  by_cases cb:xV l b
  ·have xb:gP l b=((yF b).n,yS b,true):=if_pos cb
   have sb:=uB hsb cb
   rw[xb]
   refine zN.ite (fun _=>zN.bind (P:=fun r=>r=(ent l (yF a).n).fam) (((zKh l sa.1 sa.2.1).bind zJ.ret).tot rfl) fun r7 h7=>zN.bind (P:=fun r=>r=(ent l (yF b).n).fam) (((zKh l sb.1 sb.2.1).bind zJ.ret).tot rfl) fun r9 h9'=>zN.ite (fun _=>zN.ret (.inl rfl)) fun _=>zN.ite (fun h10=>?_) fun h10=>?_) fun h=>(by cases h)
   ·exact zN.bind (P:=fun s=>s=q17++[4]) (zN.pure (yK (by simp;omega)) (zN.ret rfl)) fun s hs=>zN.ret (.inr (.inl ⟨by rw[hs],ca,cb,by simpa using h10⟩))
   ·have hn:(yF a).n=(yF b).n:=by simpa using h10
    exact(Q1 hE he hl hc hsa hsb ca cb hn q7 q8 q9 q10 yZ xE q13 xG q15 q16 q17 xC q5 (q5+q6) h56 h9 h8 h17 (yS a).length 0 q5 q6 [] (by omega) h5 (Int.le_refl _) h6 rfl (fun i hi=>absurd hi (Nat.not_lt_zero _)) (by simp)).mono fun x hx=>.inr (.inr ⟨ca,cb,hn,hx⟩)
  ·have xb:gP l b=(0,[],false):=if_neg cb
   rw[xb]
   exact zN.ite (fun h=>by cases h) fun _=>zN.ret (.inl rfl)
 ·have xa:gP l a=(0,[],false):=if_neg ca
  rw[xa]
  exact zN.ite (fun h=>by cases h) fun _=>zN.bind (P:=fun _=>True) ((W1 l b hsb).tot trivial) fun r15 _=>zN.ite (fun _=>zN.ret (.inl rfl)) fun _=>zN.ret (.inl rfl)
def yBY(l:List yI)(a b:Tm)(q8:List zM)(q9 q10 yZ:Nat)(q17:List Int)(xC:Bool)(L U:Int)
  (x:(List zM×Nat×Nat×Nat×List Int×Bool×Int×Int×Int) ⊕ ((List zM×Nat×Nat×Nat×List Int×Int×Int×Int) ⊕ (List zM×List Int×Bool×Int×Int×Int))):Prop:=
 (∃e fl fu,e≠0∧x = .inl (q8,q9,q10,yZ,q17,xC,e,fl,fu)) ∨
 (x = .inr (.inl (q8,q9,q10,yZ,q17++[4],0,L,U))∧xV l a∧xV l b∧(yF a).n≠(yF b).n) ∨
 (∃fl fu,0≤fl∧fl≤L∧0≤fu∧fl+fu=L+U∧x = .inr (.inr (tD (nM l a) (nM l b)++(q8.drop q10).take q9,q17++[2],xC,0,fl,fu))∧xV l a∧xV l b∧(yF a).n=(yF b).n ∧
  ∀i:Nat,(i:Int)<(ent l (yF a).n).pars->∃k,Cv l false (tJ (yS a) i) (tJ (yS b) i) true k)
theorem zID{N:ByteArray->Bool}{l:List yI}(hE:wP N l)(he:∀e∈l,eK e)(hl:l.length≤65535)(hc:∀e∈l,ECl e){a b:Tm}(hsa:zH a=true)(hsb:zH b=true)
  (q5 q6:Int) (q7:List zR) (q8:List zM) (q9 q10 yZ:Nat) (xE:Bool) (q13:List zR) (xG:List zS) (q15 q16:Nat) (q17:List Int) (xC:Bool) (h5:0≤q5) (h6:0≤q6) (h56:q5+q6≤1099511627776)
  (h9:q10+q9≤q8.length) (h8:q8.length≤1048576000) (h17:q17.length≤1048576000) :
  zN (fun q=>dF q l l (lW l l.length 0) (l.map wG) (l.map rX) q5 q6 q7 q8 q9 q10 yZ xE q13 xG q15 q16 q17 xC 0 (zM.mk a b)) (yBY l a b q8 q9 q10 yZ q17 xC q5 q6):=by
 simp only[dF]
 refine(zMM hE he hl hc hsa hsb q5 q6 q7 q8 q9 q10 yZ xE q13 xG q15 q16 q17 xC h5 h6 h56 h9 h8 h17).bind fun x hx=>?_
 rcases hx with rfl|⟨rfl,ca,cb,hn⟩|⟨ca,cb,hn,⟨e,fl,fu,e0,rfl⟩|⟨fl,fu,f0,f1,f2,f3,rfl,hp⟩⟩
 ·refine zN.ite (fun h=>by cases h) fun _=>(zBK hE he hl hc (yB hsa) (yB hsb) q5 q6 h5 h6 h56).bind fun r5 _=>zN.ite (fun _=>zN.ite (fun h=>zN.ret (.inl ⟨_,_,_,by simpa using h,rfl⟩)) fun _=>zN.ret (.inl ⟨12,_,_,by decide,rfl⟩)) fun _=>zN.ite (fun h=>zN.ret (.inl ⟨_,_,_,by simpa using h,rfl⟩)) fun _=>zN.ret (.inl ⟨13,_,_,by decide,rfl⟩)
 ·exact zN.ite (fun _=>zN.ret (.inr (.inl ⟨rfl,ca,cb,hn⟩))) fun h=>by cases h
 ·exact zN.ite (fun _=>zN.ret (.inl ⟨e,fl,fu,e0,rfl⟩)) fun h=>by cases h
 ·exact zN.ite (fun _=>zN.ret (.inr (.inr ⟨fl,fu,f0,f1,f2,f3,rfl,ca,cb,hn,hp⟩))) fun h=>by cases h
def fD:Nat->xR->Int->Int->Option (Tm×Int)
 |0,_,_,_=>none
 |qq+1,p0,p1,v10=>
 if decide (v10<(p0.length:Int))then
 zW p0 v10>>=fun x2=>
 if x2.n_==p1 then
 e53 qq x2.type_>>=fun r5=>
 some (r5,0)
 else
 fD qq p0 p1 (xL (v10+1))
 else
 some ((Tm.mk 0 0 []),16)
def zTP(qq:Nat)(p0:xR)(p1:Int):Option (Tm×Int):=
 fD qq p0 p1 0
theorem zTQ:∀qq:Nat,(∀ {p0 p1 v10 r},fD qq p0 p1 v10=some r->(∀j,dL 0 (pt 949 f122) (sp j 23 0 [(1,ai p1),(4,.mp 0 0),(8,zV zI p0 .no),(9,ai (p0.length:Int)),(10,ai v10)]) (⟨[(0,.cells [ai 0,ai 0,zV zD ([]:yM) .nl])],1,[],0,[]⟩) (fQ 0 (nQ 0 f122 (.tup [yY r.1,ai r.2]) [] 0) [.blk 0,.seq (pt 15 f122)]))):=by
 intro qq
 induction qq with
 |zero=>
  exact fun h=>nn h
 |succ qq ih=>
  intro p0 p1 v10 r h
  rw[fD]at h
  obtain⟨h1,h⟩|⟨h1,h⟩:=zU h
  obtain⟨x2,h3,h⟩:=zC h
  have k:=oA 0 (zCb (o:=.no) h3)<|oB 0 h1 o0
  obtain⟨h4,h⟩|⟨h4,h⟩:=zU h
  obtain⟨r5,h6,h⟩:=zC h
  cases h
  exact fun j=>lF 1 [] (oD (dT r5.sub)<|oC 1 [] (c53 h6)<|oB 3 h4 k)
  exact fun j=>lH 1 [] [0] [] [1,4,8,9,10] (oD (zF p0)<|oD (dT ([]:yM))<|oB 3 h4 k) (ih h)
  cases h
  exact fun j=>lF 1 [] (oD (dT ([]:yM))<|oB 0 h1 o0)
theorem yBZ{qq p0 p1 r}(h:zTP qq p0 p1=some r):Ct 122 [] [zV zI p0 .no,ai p1] (.tup [yY r.1,ai r.2]) [] 0:=⟨by
 unfold zTP at h
 exact tH ⟨func122,rfl⟩ 1 [] [0] [] [1,4,8,9,10] (oD (zF p0)<|oD (dT ([]:yM)) o0) (zTQ _ h),⟨⟨tv,zF _⟩,tv,tv⟩,zB,⟨⟨tv,tv,dT _,tv⟩,tv,tv⟩,zB⟩
def jY(qq:Nat)(q0 q1:yV)(q2:uM)(q3 q4:zZ)(q5 q6:Int)(q7:xR)(q8:qA)(q9 q10 yZ:Nat)(xE:Bool)(q13:xR)(xG:sE)(q15 q16:Nat)(q17:zZ)(xC:Bool)(q19:Int)(p1:Tm):Option Int:=
 if p1.k != 8 then
 some (-1)
 else
 zTP qq q7 p1.n>>=fun r2=>
 if r2.2 != 0 then
 some (-1)
 else
 some p1.n
theorem b8:Qf 101 f101:=⟨func101,rfl⟩
theorem zGk{qq q0 q1 q2 q3 q4 q5 q6 q7 q8 q9 q10 yZ xE q13 xG q15 q16 q17 xC q19 p1 r}(h:jY qq q0 q1 q2 q3 q4 q5 q6 q7 q8 q9 q10 yZ xE q13 xG q15 q16 q17 xC q19 p1=some r):Ct 101 [.cells [.mp 1 0,.mp 3 0,zV zI q7 .no,.ms 4 (q10*6) q9 yZ 6,ab xE,.ms 5 0 q13.length q13.length 4,.ms 6 0 q15 q16 4,.ms 7 0 q17.length q17.length 1,ab xC,ai q19],qB q0 2 q3 q4,qR q1 q2,.cells [ai q5,ai q6],.row (zG zP q8),.row (zG zI q13),.row (zG zQ xG),.row (zG yC q17)] [.mp 0 0,yY p1] (ai r) [.cells [.mp 1 0,.mp 3 0,zV zI q7 .no,.ms 4 (q10*6) q9 yZ 6,ab xE,.ms 5 0 q13.length q13.length 4,.ms 6 0 q15 q16 4,.ms 7 0 q17.length q17.length 1,ab xC,ai q19],qB q0 2 q3 q4,qR q1 q2,.cells [ai q5,ai q6],.row (zG zP q8),.row (zG zI q13),.row (zG zQ xG),.row (zG yC q17)] 0:=⟨by
 unfold jY at h
 have z {os ob} (k:Oz os ob):=oD (dI q17)<|oD (zK xG)<|oD (zF q13)<|oD (zL q8)<|cU q0 q1 q2 q3 q4<|oD (zF q7)<|k
 obtain⟨h1,h⟩|⟨h1,h⟩:=zU h
 obtain rfl:=sj h
 exact tF b8 0 [0,1,2,3,4,5,6,7] (z<|oB 1 h1 o0)
 obtain⟨r2,h3,h⟩:=zC h
 have k:=oC 2 [] (yBZ h3)<|oB 1 h1 o0
 obtain⟨h4,h⟩|⟨h4,h⟩:=zU h
 obtain rfl:=sj h
 exact tF b8 0 [0,1,2,3,4,5,6,7] (z<|oB 3 h4 k)
 obtain rfl:=sj h
 exact tF b8 1 [0,1,2,3,4,5,6,7] (z<|oB 3 h4 k),⟨(lz rfl),⟨tv,tv,⟨tv,dT _⟩,tv⟩,tv⟩,(zA ⟨(lz rfl),(lz rfl),⟨tv,zF _⟩,(lz rfl),tv,(lz rfl),(lz rfl),(lz rfl),tv,tv,tv⟩ (nW (lz rfl) (zA ⟨tv,tv,tv⟩ (zA (zL _) (zA (zF _) (zA (zK _) (zA (dI _) zB))))))),tv,(zA ⟨(lz rfl),(lz rfl),zF _,(lz rfl),tv,(lz rfl),(lz rfl),(lz rfl),tv,tv,tv⟩ (pW (lz rfl) (zA ⟨tv,tv,tv⟩ (zA (zL _) (zA (zF _) (zA (zK _) (zA (dI _) zB)))))))⟩
theorem b9{N:ByteArray->Bool}{l:List yI}(hE:wP N l)(he:∀e∈l,eK e){x:Tm}(hx:x.Ok)(L U:Int)(h0:0≤L)(h1:0≤U)(h2:L+U≤1099511627776) :
  zN (fun q=>zFP q (wW l) x L U) fun r=>r.2.1=0->∃k,0≤k∧k≤L∧Br l x r.1 0 k∧r.2.2.1=L-k∧r.2.2.2=U+k:=by
 refine zN.mono (Ou.met (zBD l hE he x hx L h0) h1 h2) fun r hr a=>?_
 rcases hr with hr|⟨R,k,k0,k1,⟨-,-,rfl⟩|⟨-,y,e,hb,rfl⟩,rfl⟩
 ·have hr':r.2.1=8:=hr
  rw[hr']at a;cases a
 ·have a':(5:Int)=0:=a
  cases a'
 ·have a':e=0:=a
  subst a'
  exact⟨k,k0,k1,hb,rfl,rfl⟩
theorem zBL{c:List zR}(hl:c.length≤524288)(hs:∀v∈c,v.type_.Ok)(n:Int):∀(r:List zR) (v:Nat),c.drop v=r->zN (fun q=>fD q c n (v:Int)) fun x=>x.2=0->n∈r.map (·.n_)
 | [],v,hd=>by
  refine zN.succ ?_
  simp only[fD]
  refine zN.ite (fun h=>?_) fun _=>zN.ret fun h=>absurd h (by show ¬(16:Int)=0;decide)
  rw[yH hd]at h;cases h
 |x::r,v,hd=>by
  have hlt:=yL hd
  have hx:x∈c:=List.mem_of_mem_drop (by rw[hd];simp)
  refine zN.succ ?_
  simp only[fD]
  refine zN.ite (fun _=>zN.pure (yD hd) (zN.ite (fun e=>zN.bind (P:=fun _=>True) ((qK x.type_ (hs x hx)).tot trivial) fun t _=>zN.ret fun _=>?_) fun _=>?_)) fun h=>?_
  ·have e':x.n_=n:=by simpa using e
   simp[e']
  ·rw[yA v (by omega)]
   exact(zBL hl hs n r (v+1) (zY hd)).mono fun y hy h=>by rw[List.map_cons];exact List.mem_cons_of_mem _ (hy h)
  ·rw[yG hd]at h;cases h
theorem zGj(q0 q1:List yI)(q2:List sW)(q3 q4:List Int)(q5 q6:Int){c:List zR}(hl:c.length≤524288)(hs:∀v∈c,v.type_.Ok)(q8:List zM)(q9 q10 yZ:Nat)(xE:Bool)(q13:List zR)(xG:List zS)(q15 q16:Nat)(q17:List Int)(xC:Bool)(e:Int)(t:Tm) :
  zN (fun q=>jY q q0 q1 q2 q3 q4 q5 q6 c q8 q9 q10 yZ xE q13 xG q15 q16 q17 xC e t) fun k=>0≤k->t.k=8∧t.n=k∧k∈c.map (·.n_):=by
 simp only[jY,zTP]
 refine zN.ite (fun _=>zN.ret fun h=>absurd h (by decide)) fun h8=>(zBL hl hs t.n c 0 rfl).bind fun x hx=>zN.ite (fun _=>zN.ret fun h=>absurd h (by decide)) fun h=>zN.ret fun _=>⟨by simpa using h8,rfl,hx (by simpa using h)⟩
end Go.Proofs.YtfbkefchjcocmaaGreat
