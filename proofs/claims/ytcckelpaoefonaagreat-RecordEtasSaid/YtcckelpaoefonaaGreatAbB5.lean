/- Parts of the proof that the law returns true: walks of the functions, plain laws. -/
import Derived.Test.YtcckelpaoefonaaGreatAbB4
set_option linter.unusedVariables false
set_option linter.unusedSimpArgs false
set_option linter.unusedSectionVars false
namespace Go.Proofs.YtcckelpaoefonaaGreat
open Go Go.Ab Go.Proofs.Tryz
def swP(p:PE):PE:=(p.2,p.1)
def swH:Hd->Hd
 | .ans b=>.ans b
 | .all ps=>.all (ps.map swP)
 | .pi a b c d=>.pi b a d c
theorem K0(l:List yE)(x y:Tm)(c:Int)(pars:List Tm):∀(m i:Nat),nI l y x c pars m i=(nI l x y c pars m i).map swP
 |0,_=>rfl
 |m+1,i=>by rw[nI,nI,List.map_cons,K0 l x y c pars m (i+1)];rfl
theorem zBj:∀(a b:List Tm),fM b a=(fM a b).map swP
 | [],[]=>rfl
 | [],_::_=>rfl
 |_::_,[]=>rfl
 |a::l,b::m=>by rw[fM,fM,List.map_cons,zBj l m];rfl
theorem m6(l:List yE){x y:Tm}{c:Int}{p p':List Tm}(hx:xU l x∧(zX x).n=c)(hy:xU l y∧(zX y).n=c)(hp:p.length=p'.length):∀(m i:Nat),nI l x y c p m i=nI l x y c p' m i
 |0,_=>rfl
 |m+1,i=>by
  rw[nI,nI,m6 l hx hy hp m (i+1)]
  unfold wN
  rw[if_pos hx,if_pos hx,if_pos hy,if_pos hy,hp]
theorem zQH(l:List yE){x y:Tm}(hx:xU l x)(hy:xU l y)(h:(zX x).n=(zX y).n):(qI l x).length=(qI l y).length:=by
 unfold qI
 have h1:=hx.1.2
 have h2:=hy.1.2
 rw[h]at h1
 have h3:(yX x).length=(yX y).length:=by omega
 rw[List.length_take,List.length_take,h,h3]
theorem zQI(x y:Tm):pQ y x=swH (pQ x y):=by
 unfold pQ
 by_cases h:(zX x).k≠(zX y).k∨(zX x).n≠(zX y).n∨(yX x).length≠(yX y).length∨((zX x).k=7∧(vU (zX x).sub 0).n≠(vU (zX y).sub 0).n)
 ·rw[if_pos h,if_pos ?_]
  ·rfl
  ·rcases h with h|h|h|⟨h1,h2⟩
   ·exact .inl h.symm
   ·exact .inr (.inl h.symm)
   ·exact .inr (.inr (.inl h.symm))
   ·by_cases h3:(zX x).k=(zX y).k
    ·exact .inr (.inr (.inr ⟨by omega,h2.symm⟩))
    ·exact .inl fun h=>h3 h.symm
 ·have hk:(zX x).k=(zX y).k:=Classical.byContradiction fun k=>h (.inl k)
  rw[if_neg h,if_neg ?_]
  ·unfold zDT
   rw[hk]
   by_cases h3:(zX y).k=3
   ·rw[if_pos h3,if_pos h3];simp[swH,swP,zBj (yX x) (yX y)]
   ·rw[if_neg h3,if_neg h3];simp[swH,zBj (yX x) (yX y)]
  ·rintro (h1|h1|h1|⟨h1,h2⟩)
   ·exact h (.inl h1.symm)
   ·exact h (.inr (.inl h1.symm))
   ·exact h (.inr (.inr (.inl h1.symm)))
   ·exact h (.inr (.inr (.inr ⟨by omega,h2.symm⟩)))
theorem m7{l:List yE}{m:Bool}{x y:Tm}(h:x.k=4∨y.k=4):vC l m x y = .all [(rG x,rG y)]:=by unfold vC;rw[if_pos h]
theorem nA{l:List yE}{m:Bool}{x y:Tm}(h:¬(x.k=4∨y.k=4))(hx:xU l x):vC l m x y=if xU l y∧(zX x).n≠(zX y).n then .ans false else .all (nI l x y (zX x).n (qI l x) (wB l (zX x).n).length 0):=by unfold vC;rw[if_neg h,if_pos hx]
theorem T4{l:List yE}{m:Bool}{x y:Tm}(h:¬(x.k=4∨y.k=4))(hx:¬xU l x)(hy:xU l y):vC l m x y = .all (nI l x y (zX y).n (qI l y) (wB l (zX y).n).length 0):=by unfold vC;rw[if_neg h,if_neg hx,if_pos hy]
theorem T5{l:List yE}{m:Bool}{x y:Tm}(h:¬(x.k=4∨y.k=4))(hx:¬xU l x)(hy:¬xU l y):vC l m x y=if x.k≠y.k then .ans false else if x.k=3 then .pi (vU x.sub 0) (vU y.sub 0) (vU x.sub 1) (vU y.sub 1)
 else if x.k=2 then .ans (if m=true then decide (x.n≤y.n)else x.n==y.n)
 else pQ x y:=by unfold vC;rw[if_neg h,if_neg hx,if_neg hy]
theorem zNB(l:List yE)(x y:Tm):vC l false y x=swH (vC l false x y):=by
 by_cases h4:x.k=4∨y.k=4
 ·rw[m7 h4,m7 h4.symm];rfl
 ·have h4':¬(y.k=4∨x.k=4):=fun h=>h4 h.symm
  by_cases hx:xU l x
  ·by_cases hy:xU l y
   ·rw[nA h4 hx,nA h4' hy]
    by_cases hn:(zX x).n=(zX y).n
    ·rw[if_neg (fun h=>absurd hn.symm h.2),if_neg (fun h=>absurd hn h.2)]
     show _=Hd.all (List.map swP _)
     rw[←K0,hn,m6 l ⟨hy,rfl⟩ ⟨hx,hn⟩ (zQH l hx hy hn).symm]
    ·have a:xU l x∧(zX y).n≠(zX x).n:=⟨hx,fun h=>hn h.symm⟩
     have b:xU l y∧(zX x).n≠(zX y).n:=⟨hy,hn⟩
     rw[if_pos a,if_pos b];rfl
   ·have b:¬(xU l y∧(zX x).n≠(zX y).n):=fun h=>hy h.1
    rw[nA h4 hx,T4 h4' hy hx,if_neg b]
    show _=Hd.all (List.map swP _)
    rw[←K0]
  ·by_cases hy:xU l y
   ·have b:¬(xU l x∧(zX y).n≠(zX x).n):=fun h=>hx h.1
    rw[nA h4' hy,T4 h4 hx hy,if_neg b]
    show _=Hd.all (List.map swP _)
    rw[←K0]
   ·rw[T5 h4 hx hy,T5 h4' hy hx]
    by_cases hk:x.k=y.k
    ·rw[if_neg (show ¬(y.k≠x.k) by omega),if_neg (show ¬(x.k≠y.k) by omega),←hk]
     by_cases h3:x.k=3
     ·simp only[if_pos h3];rfl
     ·simp only[if_neg h3]
      by_cases h2:x.k=2
      ·simp only[if_pos h2,Bool.false_eq_true,if_false,swH];congr 1;exact Bool.beq_comm
      ·simp only[if_neg h2];exact zQI x y
    ·rw[if_pos (show y.k≠x.k by omega),if_pos (show x.k≠y.k by omega)];rfl
theorem wO.sw{C C':Tm->Tm->Bool->Int->Prop}(h:∀x y b k,C x y b k->C' y x b k):∀ {ps:List PE} {b:Bool} {k:Int},wO C ps b k->wO C' (ps.map swP) b k
 | [],_,_,a=>a
 |_::_,_,_,⟨a,b,b1,k1,c,d⟩=>⟨b,a,b1,k1,h _ _ _ _ c,d.imp id fun⟨e,k2,f,g⟩=>⟨e,k2,wO.sw h f,g⟩⟩
theorem H8.sw{C C':Bool->Tm->Tm->Bool->Int->Prop}(h:∀x y b k,C false x y b k->C' false y x b k):∀ {q:Hd} {b:Bool} {k:Int},H8 C false q b k->H8 C' false (swH q) b k
 | .ans _,_,_,a=>a
 | .all _,_,_,a=>wO.sw h a
 | .pi _ _ _ _,_,_,⟨b1,k1,c,d⟩=>⟨b1,k1,h _ _ _ _ c,d.imp id fun⟨e,k2,f,g⟩=>⟨e,k2,h _ _ _ _ f,g⟩⟩
theorem cF.symm{l:List yE}:∀ {n:Nat} {x y:Tm} {b:Bool} {k:Int},cF l n false x y b k->cF l n false y x b k
 |0,_,_,_,_,h=>h.elim
 |n+1,x,y,b,k,⟨r1,r2,x',k1,y',k2,k3,h1,h2,h3,h4⟩=>⟨r2,r1,y',k2,x',k1,k3,h2,h1,by rw[zNB];exact h3.sw fun _ _ _ _ h=>cF.symm h,by omega⟩
theorem Cv.symm{l:List yE}{x y:Tm}{b:Bool}{k:Int}:Cv l false x y b k->Cv l false y x b k:=fun⟨n,h⟩=>⟨n,h.symm⟩
theorem wO.rel{C:Tm->Tm->Bool->Int->Prop}{R:Tm->Tm->Prop}(h:∀x y b k,R x y->C x y b k->b=true):∀ {ps:List PE} {b:Bool} {k:Int},(∀p∈ps,R p.1.1 p.2.1)->wO C ps b k->b=true
 | [],_,_,_,a=>a.1
 |p::_,_,_,hp,⟨_,_,b1,k1,c,d⟩=>by
  have:=h _ _ _ _ (hp p (by simp)) c
  rcases d with⟨d,_⟩|⟨_,k2,d,_⟩
  ·rw[this]at d;cases d
  ·exact wO.rel h (fun q hq=>hp q (by simp[hq])) d
theorem T6{l:List yE}{x y:Tm}{c:Int}{pars:List Tm}:∀ {m i:Nat} {p:PE},p∈nI l x y c pars m i->∃j,p=(wN l x c j pars,wN l y c j pars)
 |0,_,_,h=>by cases h
 |m+1,i,p,h=>by
  rw[nI]at h
  rcases List.mem_cons.1 h with h|h
  ·exact⟨i,h⟩
  ·exact T6 h
theorem m8:∀ {a:List Tm} {p:PE},p∈fM a a->p.1.1=p.2.1
 | [],_,h=>by cases h
 |a::l,p,h=>by
  rw[fM]at h
  rcases List.mem_cons.1 h with h|h
  ·rw[h]
  ·exact m8 h
theorem lK{l:List yE}{C:Bool->Tm->Tm->Bool->Int->Prop}(h:∀m x b k,C m x x b k->b=true){m:Bool}{x:Tm}{b:Bool}{k:Int}(hd:H8 C m (vC l m x x) b k):b=true:=by
 have hC:∀x y b k,x=y->C false x y b k->b=true:=fun x y b k e c=>by subst e;exact h _ _ _ _ c
 have ht:∀ {ps:List PE},(∀p∈ps,p.1.1=p.2.1)->H8 C m (.all ps) b k->b=true:=fun hp a=>wO.rel hC hp a
 unfold vC at hd
 split at hd
 ·exact ht (fun p hp=>by rw[List.mem_singleton.1 hp]) hd
 ·split at hd
  ·split at hd
   ·rename_i g;exact absurd rfl g.2
   ·exact ht (fun p hp=>by obtain⟨j,rfl⟩:=T6 hp;rfl) hd
  ·rw[if_neg (fun h=>h rfl)]at hd
   split at hd
   ·obtain⟨b1,k1,c,d⟩:=hd
    have e:=h _ _ _ _ c
    rcases d with⟨d,_⟩|⟨_,k2,d,_⟩
    ·rw[e]at d;cases d
    ·exact h _ _ _ _ d
   ·split at hd
    ·obtain⟨e,-⟩:=hd
     rw[e];split<;>simp
    ·unfold pQ at hd
     rw[if_neg (by simp)]at hd
     refine ht (fun p hp=>?_) hd
     unfold zDT at hp
     rcases List.mem_append.1 hp with hp|hp
     ·split at hp
      ·simp only[List.mem_cons,List.not_mem_nil,or_false]at hp
       rcases hp with rfl|rfl<;>rfl
      ·cases hp
     ·exact m8 hp
def rE(l:List yE)(t x:Tm):Prop:=t=x∨(zI x=true∧∃k,Nm l t x k)
theorem NmL.at{l:List yE}{ts xs:List Tm}{k:Int}(h:NmL l ts xs k):xs.length=ts.length∧∀(i:Nat) (h:i<ts.length) (h':i<xs.length),∃k1,Nm l ts[i] xs[i] k1:=by
 obtain⟨n,h⟩:=h
 exact⟨h.len,fun i hi hi'=>by obtain⟨k1,h⟩:=h.at i hi hi';exact⟨k1,n,h⟩⟩
theorem T7{R:Tm->Tm->Prop}:∀ {a b:List Tm} {p:PE},(∀(i:Nat) (h:i<a.length) (h':i<b.length),R a[i] b[i])->p∈fM a b->R p.1.1 p.2.1
 | [],_,_,_,h=>by cases h
 |_::_,[],_,_,h=>by cases h
 |a::l,b::m,p,hR,h=>by
  rw[fM]at h
  rcases List.mem_cons.1 h with h|h
  ·rw[h];exact hR 0 (by simp) (by simp)
  ·exact T7 (fun i h1 h2=>by have:=hR (i+1) (by simpa using h1) (by simpa using h2);simpa using this) h
theorem m9{l:List yE}{x y:Tm}{k:Int}(h:Br l x y 0 k):∃j,Br l y y 0 j:=by
 obtain⟨j,-,hon⟩:=h.last rfl
 rcases hon.still_inv with h|⟨a',z,j',h1,h2,h3⟩
 ·exact⟨_,.stop h⟩
 ·exact⟨_,.tgtN h1 h2 h3⟩
theorem cF.rel{N:ByteArray->Bool}{l:List yE}(hE:vP N l):∀ {n:Nat} {m:Bool} {t x:Tm} {b:Bool} {k:Int},cF l n m t x b k->rE l t x->(m=false∨t=x)->b=true
 |0,_,_,_,_,_,h,_,_=>h.elim
 |n+1,m,t,x,b,k,⟨r1,r2,y,k1,y',k2,k3,h1,h2,h3,h4⟩,hr,hm=>by
  have self:∀m x b k,cF l n m x x b k->b=true:=fun m x b k h=>cF.rel hE h (.inl rfl) (.inr rfl)
  rcases hr with rfl|⟨hs,kn,hN⟩
  ·obtain⟨rfl,-,-⟩:=h1.det h2
   exact lK self h3
  ·by_cases htx:t=x
   ·subst htx
    obtain⟨rfl,-,-⟩:=h1.det h2
    exact lK self h3
   ·have hm':m=false:=hm.resolve_right htx
    subst hm'
    have hA:Nm l x x 0:=by obtain⟨i,hi⟩:=hN;exact⟨i,hi.again hE hs⟩
    obtain⟨y0,j1,ps,j2,-,hb,hps,hxe,-⟩:=hN.inv
    obtain⟨rfl,-,-⟩:=hb.det h1
    have hx':y'=x:=by
     obtain⟨z,i1,qs,i2,-,hz,hq,-,hi⟩:=hA.inv
     obtain⟨rfl,-,rfl⟩:=h2.det hz
     have n1:=hz.nn
     have n2:=hq.nn
     exact hz.zero rfl (by omega)
    subst hx'
    have hsy:=h1.shaped r1.shaped rfl
    have hgy:=(zM hsy).2.2
    obtain⟨hlen,hat⟩:=hps.at
    have hC:∀a b q k,rE l a b->cF l n false a b q k->q=true:=fun a b q k hr hc=>cF.rel hE hc hr (.inl rfl)
    have hparts:uS y'=ps:=by rw[hxe];exact(D0 hsy hlen).1
    have hrel:∀(i:Nat) (h:i<(uS y).length) (h':i<ps.length),rE l (uS y)[i] ps[i]:=fun i h h'=>.inr ⟨eB hs (by rw[hparts];exact List.getElem_mem h'),hat i h h'⟩
    by_cases h34:y.k=3∨y.k=4
    ·have hpy:uS y=y.sub:=by unfold uS;rw[if_pos h34]
     have hx34:y' = .mk y.k 0 ps:=by rw[hxe];unfold C8;rw[if_pos h34]
     obtain⟨u,v,huv,-,-⟩:=sA hgy (h34.elim .inl fun h=>.inr (.inl h))
     rw[hpy]at hrel hlen
     rw[huv]at hlen
     obtain⟨u',v',rfl⟩:∃u' v',ps=[u',v']:=by
      rcases ps with _|⟨a,_|⟨b,_|⟨c,ps⟩⟩⟩<;>simp at hlen
      exact⟨a,b,rfl⟩
     have hu:rE l u u':=by have:=hrel 0 (by rw[huv];simp) (by simp);simpa[huv]using this
     have hv:rE l v v':=by have:=hrel 1 (by rw[huv];simp) (by simp);simpa[huv]using this
     have hy1:¬xU l y:=fun h=>zBn h34 h.1
     have hy2:¬xU l y':=fun h=>zBn (by rw[hx34];simpa[Tm.k]using h34) h.1
     have hk':y'.k=y.k:=by rw[hx34];rfl
     have hs':y'.sub=[u',v']:=by rw[hx34];rfl
     unfold vC at h3
     rw[hk']at h3
     by_cases h4':y.k=4
     ·rw[if_pos (.inl h4')]at h3
      refine wO.rel (R:=rE l) hC (fun p hp=>?_) h3
      rw[List.mem_singleton.1 hp]
      unfold rG
      rw[if_pos h4',if_pos (hk'.trans h4'),huv,hs']
      exact hv
     ·rw[if_neg (by omega),if_neg hy1,if_neg hy2,if_neg (by simp),if_pos (by omega),huv,hs']at h3
      obtain⟨b1,q1,c,d⟩:=h3
      have e:=hC _ _ _ _ hu c
      rcases d with⟨d,_⟩|⟨_,k2,d,_⟩
      ·rw[e]at d;cases d
      ·exact hC _ _ _ _ hv d
    ·by_cases h5:y.k=5
     ·have hpy:uS y=yX y:=by unfold uS;rw[if_neg h34,if_pos h5]
      rw[hpy]at hrel hlen
      have hx5:y'=uI (zX y) ps:=by rw[hxe];unfold C8;rw[if_neg h34,if_pos h5]
      have hd5:=(gQ y hgy).2.1
      have hh:zX y'=zX y:=by rw[hx5,C9,rL hd5]
      have ha:yX y'=ps:=by rw[hx5,dM,tO hd5,List.nil_append]
      have hne:ps≠[]:=fun h=>by
       have:=zYI hgy h5
       rw[h]at hlen
       exact this (List.length_eq_zero_iff.1 hlen.symm)
      have hk':y'.k=5:=by rw[hx5];exact zHW ps _ hne
      have hrc:xU l y'↔xU l y:=by unfold xU vZ;rw[hh,ha,hlen]
      have hnth:∀i:Nat,rE l (vU (yX y) (i:Int)) (vU (yX y') (i:Int)):=fun i=>by
       unfold vU
       rw[ha,Int.toNat_natCast]
       by_cases hi:i<(yX y).length
       ·rw[List.getElem?_eq_getElem hi,List.getElem?_eq_getElem (show i<ps.length by omega)]
        exact hrel i hi (by omega)
       ·rw[List.getElem?_eq_none (by omega),List.getElem?_eq_none (by omega)]
        exact .inl rfl
      unfold vC at h3
      rw[if_neg (by omega)]at h3
      by_cases hr:xU l y
      ·rw[if_pos hr,if_neg (fun h=>h.2 (by rw[hh]))]at h3
       refine wO.rel (R:=rE l) hC (fun p hp=>?_) h3
       obtain⟨j,rfl⟩:=T6 hp
       unfold wN
       rw[if_pos ⟨hr,rfl⟩,if_pos ⟨hrc.2 hr,by rw[hh]⟩]
       exact hnth _
      ·rw[if_neg hr,if_neg (fun h=>hr (hrc.1 h)),if_neg (by omega),if_neg (by omega),if_neg (by omega)]at h3
       unfold pQ at h3
       rw[hh,ha,if_neg (by simp[hlen])]at h3
       refine wO.rel (R:=rE l) hC (fun p hp=>?_) h3
       unfold zDT at hp
       rw[hh,ha]at hp
       rcases List.mem_append.1 hp with hp|hp
       ·split at hp
        ·simp only[List.mem_cons,List.not_mem_nil,or_false]at hp
         rcases hp with rfl|rfl<;>exact .inl rfl
        ·cases hp
       ·exact T7 (R:=rE l) hrel hp
     ·have hx0:y'=y:=by rw[hxe];unfold C8;rw[if_neg h34,if_neg h5]
      rw[hx0]at h3
      exact lK self h3
theorem Cv.refl{N:ByteArray->Bool}{l:List yE}(hE:vP N l){m:Bool}{x:Tm}{b:Bool}{k:Int}:Cv l m x x b k->b=true:=fun⟨_,h⟩=>h.rel hE (.inl rfl) (.inr rfl)
theorem Cv.whnf{N:ByteArray->Bool}{l:List yE}(hE:vP N l){t y:Tm}{b:Bool}{k j:Int}(hB:Br l t y 0 j)(h:Cv l false y t b k):b=true:=by
 obtain⟨-,-,x',k1,y',k2,k3,h1,h2,h3,-⟩:=h.inv
 obtain⟨i,hi⟩:=m9 hB
 obtain⟨rfl,-,-⟩:=hi.det h1
 obtain⟨rfl,-,-⟩:=hB.det h2
 exact lK (fun m x b k h=>h.refl hE) h3
def rS(f:Int)(pars:List Tm)(u:Tm):Tm:=.mk 5 0 [uI (.mk 6 f []) pars,u]
theorem nW(f:Int)(pars:List Tm)(u:Tm):zX (rS f pars u) = .mk 6 f []:=by
 unfold rS
 rw[kC,C9,rL (by simp[Tm.k])]
theorem gW(f:Int)(pars:List Tm)(u:Tm):yX (rS f pars u)=pars++[u]:=by
 unfold rS
 rw[qO,dM,tO (by simp[Tm.k]),List.nil_append]
theorem zNC(l:List Tm)(x:Tm):vU (l++[x]) (l.length:Int)=x:=by
 unfold vU
 rw[Int.toNat_natCast];simp
theorem D3{N:ByteArray->Bool}{l:List yE}(hE:vP N l){c:Int}(h0:0≤c)(h1:c<l.length)(hk:(zJ l c).kind=2):uX l c=true∧0≤(zJ l c).pars:=by
 have hc:=(yZ (hE.2 c h0 h1)).2.2.1 hk
 unfold iI at hc
 simp only[Bool.and_eq_true]at hc
 have hw:=vG hc.1
 have hf:=wA ((yZ (hE.2 _ hw.1 (by omega))).2.1 hw.2.2.1)
 exact⟨hc.1,by omega⟩
section
variable {l:List yE} {f:Int} {pars:List Tm} (hf:0≤f∧f<l.length∧(zJ l f).kind=4) (hp:(zJ l f).pars=pars.length)
include hf hp
theorem aD:vY l (.mk 6 f [])=4:=by
 unfold vY
 rw[if_pos (show (Tm.mk 6 f []).k=6 from rfl)]
 show (if f<(l.length:Int)then(zJ l f).kind else 0)=4
 rw[if_pos hf.2.1];exact hf.2.2
theorem zHX(u:Tm):wS l (rS f pars u) = .tgt u:=by
 have hk:=aD hf hp
 unfold wS
 rw[nW,gW,hk,if_neg (fun h=>by have:=h.1;simp[Tm.k]at this),if_neg (by decide),if_pos rfl]
 show (if ((pars++[u]).length:Int)≤(zJ l f).pars then Act.none else Act.tgt (vU (pars++[u]) (zJ l f).pars))=_
 rw[if_neg (by rw[List.length_append,hp];simp;omega),hp,zNC]
theorem zQJ{N:ByteArray->Bool}(hE:vP N l){t y u:Tm}{j k:Int}(hs:zI t=true)(hy:Br l t y 0 j)(hc:vZ l y∧(zJ l (zX y).n).fam=(zJ l f).fam)(h:Br l (rS f pars t) u 0 k):∃k',Br l (vU (yX y) ((zJ l (zX y).n).pars+(zJ l f).place)) u 0 k':=by
 have hact:=zHX hf hp t
 have hsy:=hy.shaped hs rfl
 have hk:=aD hf hp
 have hre:vO l (rS f pars t) y=some ((pD l f ((yX y).drop (zJ l (zX y).n).pars.toNat)).1,(pD l f ((yX y).drop (zJ l (zX y).n).pars.toNat)).2):=by
  unfold vO
  rw[nW,hk,if_pos rfl]
  show (if vZ l y∧(zJ l (zX y).n).fam=(zJ l f).fam then some (uI (pD l f ((yX y).drop (zJ l (zX y).n).pars.toNat)).1 ((yX (rS f pars t)).drop ((zJ l f).pars+1).toNat),(pD l f ((yX y).drop (zJ l (zX y).n).pars.toNat)).2)else none)=_
  have hd:(pars++[t]).drop ((zJ l f).pars+1).toNat=[]:=List.drop_eq_nil_of_le (by rw[List.length_append,hp];simp<;>omega)
  rw[if_pos hc,gW,hd,uI]
 have hcs:=tZ hsy hc.1
 have hw:=(D3 hE hcs.1 hcs.2.1 hcs.2.2.1).2
 have hal:=sX y (zM hsy).2.2
 have hnn:=(zM hsy).1
 obtain⟨-,hok⟩:=nV l f ((yX y).drop (zJ l (zX y).n).pars.toNat) hE (fun x hx=>xL (xT hsy (List.mem_of_mem_drop hx))) (by rw[List.length_drop];omega)
 cases h with
 |stop a=>rw[hact]at a;cases a
 |redE a _=>rw[hact]at a;cases a
 |red a _ _=>rw[hact]at a;cases a
 |tgtE _ _ c=>exact absurd rfl c
 |tgtN a b c=>
  rw[hact]at a;injection a with a;subst a
  obtain⟨rfl,-,-⟩:=b.det hy
  rw[hre]at c;cases c
 |tgtRE _ _ _ d=>exact absurd rfl d
 |tgtR a b c d e=>
  rw[hact]at a;injection a with a;subst a
  obtain⟨rfl,-,-⟩:=b.det hy
  rw[hre]at c
  injection c with c
  have c1:=congrArg Prod.fst c
  have c2:=congrArg Prod.snd c
  simp only at c1 c2
  obtain⟨-,g0,-,g2⟩:=hok.2.2 c2
  rw[←c1,g2]at e
  have eq:vU ((yX y).drop (zJ l (zX y).n).pars.toNat) (zJ l f).place=vU (yX y) ((zJ l (zX y).n).pars+(zJ l f).place):=by
   unfold vU
   rw[List.getElem?_drop]
   congr 2;omega
  rw[eq]at e
  exact⟨_,e⟩
theorem zHY{t y u:Tm}{j k:Int}(hy:Br l t y 0 j)(hc:¬(vZ l y∧(zJ l (zX y).n).fam=(zJ l f).fam))(h:Br l (rS f pars t) u 0 k):u=rS f pars t:=by
 have hact:=zHX hf hp t
 have hk:=aD hf hp
 have hre:vO l (rS f pars t) y=none:=by
  rw[S8,nW,hk,if_pos rfl]
  exact hc
 cases h with
 |stop a=>rfl
 |redE a _=>rw[hact]at a;cases a
 |red a _ _=>rw[hact]at a;cases a
 |tgtE _ _ c=>exact absurd rfl c
 |tgtN a b c=>rfl
 |tgtRE _ _ _ d=>exact absurd rfl d
 |tgtR a b c d e=>
  rw[hact]at a;injection a with a;subst a
  obtain⟨rfl,-,-⟩:=b.det hy
  rw[hre]at c;cases c
end
theorem zBi{l:List yE}{of kind:Int}:∀ {L:List Int} {k:Int},qY l of kind L k=true->∀(i:Nat) (h:i<L.length),mN l L[i] kind=true∧(zJ l L[i]).fam=of∧(zJ l L[i]).place=k+i
 | [],_,_,i,h=>by simp at h
 |n::L,k,hm,i,h=>by
  rw[qY]at hm
  simp only[Bool.and_eq_true,beq_iff_eq]at hm
  cases i with
  |zero=>exact⟨hm.1.1.1,hm.1.1.2,by simp[hm.1.2]⟩
  |succ i=>
   have:=zBi hm.2 i (by simpa using h)
   exact⟨this.1,this.2.1,by rw[List.getElem_cons_succ,this.2.2];omega⟩
def zND(l:List yE)(r f:Int)(i:Nat):Prop:=0≤f∧f<l.length∧(zJ l f).kind=4∧(zJ l f).fam=r∧(zJ l f).place=i∧(zJ l f).pars=(zJ l r).pars
theorem K1{N:ByteArray->Bool}{l:List yE}{r:Int}(hE:vP N l)(hr:mN l r 1=true)(hf:(zJ l r).fields≠[]) :
  ∃c,(zJ l r).cons=[c]∧0≤c∧c<l.length∧(zJ l c).kind=2∧(zJ l c).fam=r∧(zJ l c).pars=(zJ l r).pars∧(wK (zJ l c).type:Int)=(zJ l r).pars+(zJ l r).fields.length
   ∧ (∀(i:Nat) (h:i<(zJ l r).fields.length),zND l r (zJ l r).fields[i] i)∧∀c':Int,0≤c'->c'<(l.length:Int)->(zJ l c').kind=2->(zJ l c').fam=r->c'=c:=by
 have hi:=xM hr
 have hft:=(yZ (hE.2 r hi.1 hi.2.1)).2.1 hi.2.2
 unfold sU at hft
 simp only[Bool.and_eq_true,Bool.or_eq_true,decide_eq_true_eq]at hft
 have hD:=hft.2.resolve_left fun h=>hf (List.length_eq_zero_iff.1 h)
 have hC:=hft.1.2
 unfold zFF at hD
 unfold fK at hC
 simp only[Bool.and_eq_true,beq_iff_eq,decide_eq_true_eq]at hD hC
 obtain⟨⟨⟨⟨⟨d1,d2⟩,d3⟩,d4⟩,d5⟩,d6⟩:=hD
 obtain⟨c,hc⟩:∃c,(zJ l r).cons=[c]:=by
  rcases hc:(zJ l r).cons with _|⟨w,_|⟨v,s⟩⟩<;>rw[hc]at d2<;>simp at d2
  exact⟨w,rfl⟩
 have hm:=zBi hC.2 0 (by rw[hc];simp)
 have hc0:(zJ l r).cons[0]'(by rw[hc];simp)=c:=by simp[hc]
 rw[hc0]at hm
 have hci:=xM hm.1
 have hown:=vG (D3 hE hci.1 hci.2.1 hci.2.2).1
 have hrun:=hC.1.2
 rw[hc,mO]at hrun
 simp only[Bool.and_eq_true,beq_iff_eq]at hrun
 have hw:yR (zJ l (r+1)).type=((yR (zJ l (r+1)).type).1,(yR (zJ l (r+1)).type).2.1,0):=by rw[←d5]
 have hwo:=tJ hw
 refine⟨c,rfl.trans hc,hci.1,hci.2.1,hci.2.2,hm.2.1,by rw[hown.2.2.2.1,hm.2.1],by rw[hrun.1,←hwo.2.1];exact d6,fun i h=>?_,fun c' g0 g1 g2 g3=>?_⟩
 ·have hmi:=zBi d4 i h
  have hii:=xM hmi.1
  have hp:=(yZ (hE.2 _ hii.1 hii.2.1)).2.2.2.1 hii.2.2
  unfold qZ at hp
  simp only[Bool.and_eq_true]at hp
  have ho:=vG hp.1
  exact⟨hii.1,hii.2.1,hii.2.2,hmi.2.1,by rw[hmi.2.2];omega,by rw[ho.2.2.2.1,hmi.2.1]⟩
 ·have ho:=(D3 hE g0 g1 g2).1
  unfold uX zFH at ho
  simp only[Bool.and_eq_true,decide_eq_true_eq,beq_iff_eq]at ho
  have hL:fL l (zJ l c')=[c]:=by unfold fL;rw[if_neg (by omega),g3,hc]
  rw[hL]at ho
  have hp0:(zJ l c').place.toNat=0:=by have:=ho.2.1.2;simp at this;omega
  have:=ho.2.2
  rw[hp0]at this
  simpa using this.symm
theorem j0{l:List yE}{x y:Tm}{c:Int}{pars:List Tm}:∀ {m i:Nat} {p:PE},p∈nI l x y c pars m i->∃j,i≤j∧j<i+m∧p=(wN l x c j pars,wN l y c j pars)
 |0,_,_,h=>by cases h
 |m+1,i,p,h=>by
  rw[nI]at h
  rcases List.mem_cons.1 h with h|h
  ·exact⟨i,Nat.le_refl _,by omega,h⟩
  ·obtain⟨j,h1,h2,h3⟩:=j0 h
   exact⟨j,by omega,by omega,h3⟩
theorem zQK{N:ByteArray->Bool}{l:List yE}(hE:vP N l){r f:Int}{i:Nat}{pars:List Tm}{t y q:Tm}{b:Bool}{j k:Int}(hf:zND l r f i)(hp:(pars.length:Int)=(zJ l r).pars)(hst:zI t=true)(hB:Br l t y 0 j)
  (hq:((vZ l y∧(zJ l (zX y).n).fam=r)∧q=vU (yX y) ((zJ l (zX y).n).pars+(zJ l f).place))∨(¬(vZ l y∧(zJ l (zX y).n).fam=r)∧q=rS f pars y)) (h:Cv l false (rS f pars t) q b k):b=true:=by
 obtain⟨g0,g1,g2,g3,g4,g5⟩:=hf
 have hF:0≤f∧f<l.length∧(zJ l f).kind=4:=⟨g0,g1,g2⟩
 have hP:(zJ l f).pars=pars.length:=by omega
 have self:∀m x b k,Cv l m x x b k->b=true:=fun m x b k h=>h.refl hE
 obtain⟨-,-,u1,k1,u2,k2,k3,h1,h2,h3,-⟩:=h.inv
 rcases hq with⟨hc,rfl⟩|⟨hc,rfl⟩
 ·obtain⟨k',hk'⟩:=zQJ hF hP hE hst hB (by rw[g3];exact hc) h1
  obtain⟨rfl,-,-⟩:=hk'.det h2
  exact lK self h3
 ·have e1:=zHY hF hP hB (by rw[g3];exact hc) h1
  obtain⟨j',hs⟩:=m9 hB
  have e2:=zHY hF hP hs (by rw[g3];exact hc) h2
  subst e1;subst e2
  have hk:=aD hF hP
  have nr:∀u,¬xU l (rS f pars u):=fun u h=>by
   have:=h.1.1
   rw[nW,hk]at this
   omega
  have k5:∀u,(rS f pars u).k=5:=fun u=>rfl
  rw[T5 (by rw[k5,k5];omega) (nr t) (nr y),k5,k5,if_neg (by simp),if_neg (by omega),if_neg (by omega)]at h3
  unfold pQ at h3
  rw[nW,nW,gW,gW,if_neg (by simp)]at h3
  refine wO.rel (R:=fun a b=>a=b∨(a=t∧b=y)) (fun a b q k hr hcv=>?_) (fun p hp=>?_) h3
  ·rcases hr with e|⟨e1,e2⟩
   ·rw[e]at hcv;exact hcv.refl hE
   ·rw[e1,e2]at hcv;exact Cv.whnf hE hB hcv.symm
  ·unfold zDT at hp
   rw[nW,nW,gW,gW,if_neg (by simp[Tm.k]),List.nil_append]at hp
   refine T7 (R:=fun a b=>a=b∨(a=t∧b=y)) (fun i hi hi'=>?_) hp
   by_cases hlt:i<pars.length
   ·left;rw[List.getElem_append_left hlt,List.getElem_append_left hlt]
   ·right
    have hie:i=pars.length:=by rw[List.length_append]at hi;simp at hi;omega
    subst hie
    exact⟨by simp,by simp⟩
theorem Cv.eta{N:ByteArray->Bool}{l:List yE}(hE:vP N l){r c:Int}{pars:List Tm}{t y:Tm}{b:Bool}{j k:Int}(hr:mN l r 1=true)(hf:(zJ l r).fields≠[])(hc:(zJ l r).cons=[c])(hp:(pars.length:Int)=(zJ l r).pars)
  (hB:Br l t y 0 j) (h4:y.k≠4) (hy:vZ l y->(zJ l (zX y).n).fam=r) (h:Cv l false (uI (uI (.mk 6 c []) pars) ((zJ l r).fields.map fun f=>rS f pars t)) t b k):b=true:=by
 obtain⟨c',hc',c0,c1,ck,cf,cp,cpi,hfld,honly⟩:=K1 hE hr hf
 have hcc:c'=c:=by rw[hc]at hc';simpa using hc'.symm
 subst hcc
 obtain⟨x,hx⟩:∃x,x=uI (uI (.mk 6 c' []) pars) ((zJ l r).fields.map fun f=>rS f pars t):=⟨_,rfl⟩
 rw[←hx]at h
 have hdx:zX x = .mk 6 c' []:=by rw[hx,C9,C9,rL (by simp[Tm.k])]
 have arx:yX x=pars++(zJ l r).fields.map fun f=>rS f pars t:=by rw[hx,dM,dM,tO (by simp[Tm.k]),List.nil_append]
 have xk:x.k=5:=by rw[hx];exact zHW _ _ fun e=>hf (List.map_eq_nil_iff.1 e)
 have kx:vY l (zX x)=2:=by
  rw[hdx];unfold vY
  rw[if_pos (show (Tm.mk 6 c' []).k=6 from rfl)]
  show (if c'<(l.length:Int)then(zJ l c').kind else 0)=2
  rw[if_pos c1];exact ck
 have xn:(zX x).n=c':=by rw[hdx];rfl
 have hfl:wB l c'=(zJ l r).fields:=by unfold wB;rw[cf]
 have cx:vZ l x:=⟨kx,by rw[xn,arx,List.length_append,List.length_map];omega⟩
 have rx:xU l x:=⟨cx,by rw[xn,hfl];exact hf⟩
 obtain⟨rx1,rt,x',k1,y',k2,k3,h1,h2,h3,-⟩:=h.inv
 have hst:=rt.shaped
 have hxs:Br l x x 0 0:=.stop (by
  unfold wS
  rw[kx,if_neg (fun h=>by rw[hdx]at h;have:=h.1;simp[Tm.k]at this),if_neg (by decide),if_neg (by decide),if_neg (by rw[hdx];simp[Tm.k])])
 obtain⟨rfl,-,-⟩:=hxs.det h1
 obtain⟨rfl,-,-⟩:=hB.det h2
 have hn4:¬(x'.k=4∨y'.k=4):=by rw[xk];omega
 have hsy:=hB.shaped hst rfl
 have same:xU l y'->(zX y').n=c':=fun hry=>by
  have hcs:=tZ hsy hry.1
  exact honly _ hcs.1 hcs.2.1 hcs.2.2.1 (hy hry.1)
 have hne:¬(xU l y'∧(zX x').n≠(zX y').n):=fun h=>h.2 (by rw[xn,same h.1])
 rw[nA hn4 rx,if_neg hne,xn]at h3
 have hprs:qI l x'=pars:=by unfold qI;rw[xn,arx,cp,←hp,Int.toNat_natCast,List.take_left'];rfl
 rw[hprs,hfl]at h3
 refine wO.rel (R:=fun p q=>∃f i,zND l r f i∧p=rS f pars t∧(((vZ l y'∧(zJ l (zX y').n).fam=r)∧q=vU (yX y') ((zJ l (zX y').n).pars+(zJ l f).place))∨(¬(vZ l y'∧(zJ l (zX y').n).fam=r)∧q=rS f pars y'))) (fun p q bb kk hR hC=>?_) (fun p hpm=>?_) h3
 ·obtain⟨f,i,hfi,rfl,hq⟩:=hR
  exact zQK hE hfi hp hst hB hq hC
 ·obtain⟨jj,-,hj,rfl⟩:=j0 hpm
  rw[Nat.zero_add]at hj
  have hfi:=hfld jj hj
  refine⟨(zJ l r).fields[jj],jj,hfi,?_,?_⟩
  ·show (wN l x' c' jj pars).1=_
   unfold wN
   rw[if_pos ⟨rx,xn⟩,arx]
   show vU _ _=_
   unfold vU
   rw[Int.toNat_natCast,List.getElem?_append_right (by omega),Nat.add_sub_cancel_left,List.getElem?_map,List.getElem?_eq_getElem hj]
   rfl
  ·by_cases hry:xU l y'
   ·left
    have hyc:=same hry
    refine⟨⟨hry.1,hy hry.1⟩,?_⟩
    show (wN l y' c' jj pars).1=_
    unfold wN
    rw[if_pos ⟨hry,hyc⟩,hyc,cp,hfi.2.2.2.2.1]
    show vU _ _=_
    congr 1;omega
   ·right
    refine⟨fun hcy=>hry ⟨hcy.1,by unfold wB;rw[hcy.2];exact hf⟩,?_⟩
    show (wN l y' c' jj pars).1=_
    unfold wN
    rw[if_neg (fun h=>hry h.1),hfl,List.getElem?_eq_getElem hj]
    rfl
def zKp(f:Nat)(M:wV)(a:zY)(c d b:Int)(e:Tm):Option (Tm×Int×Int×Int):=
 e34 f M e c d>>=fun r1=>
 if b==0 then
 some (r1.1,r1.2.1,r1.2.2.1,r1.2.2.2)
 else
 some (r1.1,b,r1.2.2.1,r1.2.2.2)
theorem zYJ:Qf 168 f168:=⟨func168,rfl⟩
theorem zYK{f M a c d b e r}(h:zKp f M a c d b e=some r):Ct 168 [.cells [.mp 1 0,zH yA a .no,.mp 3 0,ai b],mB M 2,mR M,.cells [ai c,ai d]] [.mp 0 0,yV e] (yV r.1) [.cells [.mp 1 0,zH yA a .no,.mp 3 0,ai r.2.1],mB M 2,mR M,.cells [ai r.2.2.1,ai r.2.2.2]] 0:=⟨by
 unfold zKp at h
 obtain⟨r1,h2,h⟩:=zB h
 have k:=oC 3 [1,2,3] (c34 h2) o0
 obtain⟨h3,h⟩|⟨h3,h⟩:=zK h
 cases h
 exact tF zYJ 3 [0,1,2,3] (oD (dT r1.1.sub)<|pW M<|oD (dE a)<|oB 4 h3 k)
 cases h
 exact tF zYJ 2 [0,1,2,3] (oD (dT r1.1.sub)<|pW M<|oD (dE a)<|oB 4 h3 k),⟨(lz rfl),⟨tv,tv,⟨tv,dT _⟩,tv⟩,tv⟩,(zD ⟨(lz rfl),⟨tv,dE _⟩,(lz rfl),tv,tv⟩ (bA (lz rfl) (zD ⟨tv,tv,tv⟩ zA))),⟨tv,tv,dT _,tv⟩,(zD ⟨(lz rfl),dE _,(lz rfl),tv,tv⟩ (cE (lz rfl) (zD ⟨tv,tv,tv⟩ zA)))⟩
def zGw(g:Nat)(M:wV)(a:zY)(e f b:Int)(d c:Tm):Option (Tm×Tm×Bool×Int×Int×Int):=
 if b != 0 then
 some (d,c,false,b,e,f)
 else
 zKp g M a e f b d>>=fun r2=>
 if r2.2.1 != 0 then
 some (r2.1,c,false,r2.2.1,r2.2.2.1,r2.2.2.2)
 else
 zKp g M a r2.2.2.1 r2.2.2.2 r2.2.1 c>>=fun r5=>
 some (r2.1,r5.1,(r5.2.1==0),r5.2.1,r5.2.2.1,r5.2.2.2)
theorem zUC:Qf 110 f110:=⟨func110,rfl⟩
theorem yBk{g M a e f b d c r}(h:zGw g M a e f b d c=some r):Ct 110 [.cells [.mp 1 0,zH yA a .no,.mp 3 0,ai b],mB M 2,mR M,.cells [ai e,ai f]] [.mp 0 0,yV d,yV c] (.tup [yV r.1,yV r.2.1,ab r.2.2.1]) [.cells [.mp 1 0,zH yA a .no,.mp 3 0,ai r.2.2.2.1],mB M 2,mR M,.cells [ai r.2.2.2.2.1,ai r.2.2.2.2.2]] 0:=⟨by
 unfold zGw at h
 obtain⟨h1,h⟩|⟨h1,h⟩:=zK h
 cases h
 exact tF zUC 4 [0,1,2,3] (oD (dT c.sub)<|oD (dT d.sub)<|pW M<|oD (dE a)<|oB 1 h1 o0)
 obtain⟨r2,h3,h⟩:=zB h
 have k:=oC 1 [0,1,2,3] (zYK h3)<|oB 1 h1 o0
 obtain⟨h4,h⟩|⟨h4,h⟩:=zK h
 cases h
 exact tF zUC 4 [0,1,2,3] (oD (dT c.sub)<|oD (dT r2.1.sub)<|pW M<|oD (dE a)<|oB 2 h4 k)
 obtain⟨r5,h6,h⟩:=zB h
 cases h
 exact tF zUC 7 [0,1,2,3] (oD (dT r5.1.sub)<|oD (dT r2.1.sub)<|pW M<|oD (dE a)<|oC 1 [0,1,2,3] (zYK h6)<|oB 2 h4 k),⟨(lz rfl),⟨tv,tv,⟨tv,dT _⟩,tv⟩,⟨tv,tv,⟨tv,dT _⟩,tv⟩,tv⟩,(zD ⟨(lz rfl),⟨tv,dE _⟩,(lz rfl),tv,tv⟩ (bA (lz rfl) (zD ⟨tv,tv,tv⟩ zA))),⟨⟨tv,tv,dT _,tv⟩,⟨tv,tv,dT _,tv⟩,tv,tv⟩,(zD ⟨(lz rfl),dE _,(lz rfl),tv,tv⟩ (cE (lz rfl) (zD ⟨tv,tv,tv⟩ zA)))⟩
def Y4(c:Nat)(M:wV)(b:zY)(e f a:Int)(d:Tm):Option (Tm×Int):=
 if d.k==4 then
 zP d.sub 1>>=fun x2=>
 some (x2,a)
 else
 e90 c d 1>>=fun r4=>
 e51 c 0>>=fun r6=>
 e23 c r4.1 r6>>=fun r8=>
 if r4.2==0 then
 fV c r8>>=fun r11=>
 if r11 then
 if a==0 then
 some (r8,r4.2)
 else
 some (r8,a)
 else
 if a==0 then
 some (r8,2)
 else
 some (r8,a)
 else
 if a==0 then
 some (r8,r4.2)
 else
 some (r8,a)
theorem zGv:Qf 169 f169:=⟨func169,rfl⟩
theorem zQL{c M b e f a d r}(h:Y4 c M b e f a d=some r):Ct 169 [.cells [.mp 1 0,zH yA b .no,.mp 3 0,ai a],mB M 2,mR M,.cells [ai e,ai f]] [.mp 0 0,yV d] (yV r.1) [.cells [.mp 1 0,zH yA b .no,.mp 3 0,ai r.2],mB M 2,mR M,.cells [ai e,ai f]] 0:=⟨by
 unfold Y4 at h
 have z {os ob} (k:Oz os ob):=pW M<|oD (dE b)<|k
 obtain⟨h1,h⟩|⟨h1,h⟩:=zK h
 obtain⟨x2,h3,h⟩:=zB h
 cases h
 exact tF zGv 2 [0,1,2,3] (oD (dT x2.sub)<|z<|oA 1 (xH (o:=.no) h3)<|oB 1 h1 o0)
 obtain⟨r4,h5,h⟩:=zB h
 obtain⟨r6,h7,h⟩:=zB h
 obtain⟨r8,h9,h⟩:=zB h
 have k:=oC 0 [] (c23 h9)<|oC 4 [] (c51 h7)<|oC 1 [] (c90 h5)<|oB 1 h1 o0
 obtain⟨h10,h⟩|⟨h10,h⟩:=zK h
 obtain⟨r11,h12,h⟩:=zB h
 have k:=oB 1 h10 k
 obtain⟨h13,h⟩|⟨h13,h⟩:=zK h
 have k:=oK 1 [] h13 (qW h12) k
 obtain⟨h14,h⟩|⟨h14,h⟩:=zK h
 cases h
 exact tF zGv 3 [0,1,2,3] (oD (dT r8.sub)<|z<|oB 2 h14 k)
 cases h
 exact tF zGv 2 [0,1,2,3] (oD (dT r8.sub)<|z<|oB 2 h14 k)
 have k:=oK 1 [] h13 (qW h12) k
 obtain⟨h15,h⟩|⟨h15,h⟩:=zK h
 cases h
 exact tF zGv 3 [0,1,2,3] (oD (dT r8.sub)<|z<|oB 2 h15 k)
 cases h
 exact tF zGv 2 [0,1,2,3] (oD (dT r8.sub)<|z<|oB 2 h15 k)
 have k:=oB 1 h10 k
 obtain⟨h16,h⟩|⟨h16,h⟩:=zK h
 cases h
 exact tF zGv 3 [0,1,2,3] (oD (dT r8.sub)<|z<|oB 1 h16 k)
 cases h
 exact tF zGv 2 [0,1,2,3] (oD (dT r8.sub)<|z<|oB 1 h16 k),⟨(lz rfl),⟨tv,tv,⟨tv,dT _⟩,tv⟩,tv⟩,(zD ⟨(lz rfl),⟨tv,dE _⟩,(lz rfl),tv,tv⟩ (bA (lz rfl) (zD ⟨tv,tv,tv⟩ zA))),⟨tv,tv,dT _,tv⟩,(zD ⟨(lz rfl),dE _,(lz rfl),tv,tv⟩ (cE (lz rfl) (zD ⟨tv,tv,tv⟩ zA)))⟩
def zNE(a:Nat)(M:wV)(b:Tm):Option (Int×zR×Bool):=
 fV a b>>=fun r1=>
 if r1 then
 e65 a b>>=fun r4=>
 zFX a M r4>>=fun r6=>
 some (r6.1,r6.2.1,r6.2.2)
 else
 some (0,[],false)
theorem zYL:Qf 213 f213:=⟨func213,rfl⟩
theorem yBj{a M b r}(h:zNE a M b=some r):Ct 213 [mB M 1,mR M] [.mp 0 0,yV b] (.tup [ai r.1,.sl (zG zC r.2.1) r.2.1.length .no,ab r.2.2]) [mB M 1,mR M] 0:=⟨by
 unfold zNE at h
 obtain⟨r1,h2,h⟩:=zB h
 obtain⟨h3,h⟩|⟨h3,h⟩:=zK h
 obtain⟨r4,h5,h⟩:=zB h
 obtain⟨r6,h7,h⟩:=zB h
 cases h
 exact tF zYL 3 [0,1] (oD (dT r6.2.1)<|pW M<|oC 0 [0,1] (zUg h7)<|oC 2 [] (c65 h5)<|oK 2 [] h3 (qW h2) o0)
 cases h
 exact tF zYL 1 [0,1] (oD (dT ([]:zR))<|pW M<|oK 2 [] h3 (qW h2) o0),⟨(lz rfl),⟨tv,tv,⟨tv,dT _⟩,tv⟩,tv⟩,(bA (lz rfl) zA),⟨tv,dT _,tv,tv⟩,(cE (lz rfl) zA)⟩
def zDU(f:Nat)(M:wV)(a:zY)(c d b:Int)(e:Tm):Option (Int×zR×Bool):=
 zNE f M e>>=fun r1=>
 if r1.2.2 then
 zP a r1.1>>=fun x4=>
 zP a x4.fam>>=fun x6=>
 if (x6.fields.length:Int)==0 then
 some (0,[],false)
 else
 some (r1.1,r1.2.1,true)
 else
 some (0,[],false)
theorem zUD:Qf 170 f170:=⟨func170,rfl⟩
theorem zQM{f M a c d b e r}(h:zDU f M a c d b e=some r):Ct 170 [.cells [.mp 1 0,zH yA a .no,.mp 3 0,ai b],mB M 2,mR M,.cells [ai c,ai d]] [.mp 0 0,yV e] (.tup [ai r.1,.sl (zG zC r.2.1) r.2.1.length .no,ab r.2.2]) [.cells [.mp 1 0,zH yA a .no,.mp 3 0,ai b],mB M 2,mR M,.cells [ai c,ai d]] 0:=⟨by
 unfold zDU at h
 obtain⟨r1,h2,h⟩:=zB h
 have k:=oC 2 [1,2] (yBj h2) o0
 obtain⟨h3,h⟩|⟨h3,h⟩:=zK h
 obtain⟨x4,h5,h⟩:=zB h
 obtain⟨x6,h7,h⟩:=zB h
 have k:=oA 1 (xK (o:=.no) h7)<|oA 3 (xK (o:=.no) h5)<|oB 2 h3 k
 obtain⟨h8,h⟩|⟨h8,h⟩:=zK h
 cases h
 exact tF zUD 0 [0,1,2,3] (oD (dT ([]:zR))<|pW M<|oD (dE a)<|oB 2 h8 k)
 cases h
 exact tF zUD 0 [0,1,2,3] (oD (dT r1.2.1)<|pW M<|oD (dE a)<|oB 2 h8 k)
 cases h
 exact tF zUD 1 [0,1,2,3] (oD (dT ([]:zR))<|pW M<|oD (dE a)<|oB 2 h3 k),⟨(lz rfl),⟨tv,tv,⟨tv,dT _⟩,tv⟩,tv⟩,(zD ⟨(lz rfl),⟨tv,dE _⟩,(lz rfl),tv,tv⟩ (bA (lz rfl) (zD ⟨tv,tv,tv⟩ zA))),⟨tv,dT _,tv,tv⟩,(zD ⟨(lz rfl),dE _,(lz rfl),tv,tv⟩ (cE (lz rfl) (zD ⟨tv,tv,tv⟩ zA)))⟩
def e22(b:Nat)(a:Int):Option Tm:=
 e45 b 6 a []>>=fun r1=>
 some r1
theorem c22{b a r}(h:e22 b a=some r):Ct 22 [] [ai a] (yV r) [] 0:=⟨by
 unfold e22 at h
 obtain⟨r1,h2,h⟩:=zB h
 obtain rfl:=sj h
 exact tF ⟨func22,rfl⟩ 1 [] (oD (dT r1.sub)<|oC 0 [] (c45 h2) o0),⟨tv,tv⟩,zA,⟨tv,tv,dT _,tv⟩,zA⟩
def zKo(c:Nat)(M:wV)(b:zY)(m n a:Int)(d:Tm)(e f:Int)(g:zR):Option (Tm×Int):=
 zDU c M b m n a d>>=fun r1=>
 if r1.2.2 then
 if r1.1==e then
 zP r1.2.1 (yN ((g.length:Int)+f))>>=fun x5=>
 some (x5,a)
 else
 zP b e>>=fun x7=>
 zP b x7.fam>>=fun x9=>
 zP x9.fields f>>=fun x11=>
 e22 c x11>>=fun r13=>
 e21 c r13 g>>=fun r15=>
 e23 c r15 d>>=fun r17=>
 if a==0 then
 fV c r17>>=fun r20=>
 if r20 then
 some (r17,a)
 else
 some (r17,2)
 else
 some (r17,a)
 else
 zP b e>>=fun x23=>
 zP b x23.fam>>=fun x25=>
 zP x25.fields f>>=fun x27=>
 e22 c x27>>=fun r29=>
 e21 c r29 g>>=fun r31=>
 e23 c r31 d>>=fun r33=>
 if a==0 then
 fV c r33>>=fun r36=>
 if r36 then
 some (r33,a)
 else
 some (r33,2)
 else
 some (r33,a)
theorem zGu:Qf 214 f214:=⟨func214,rfl⟩
theorem zYM{c M b m n a d e f g r}(h:zKo c M b m n a d e f g=some r):Ct 214 [.cells [.mp 1 0,zH yA b .no,.mp 3 0,ai a],mB M 2,mR M,.cells [ai m,ai n]] [.mp 0 0,yV d,ai e,ai f,zH zC g .no] (yV r.1) [.cells [.mp 1 0,zH yA b .no,.mp 3 0,ai r.2],mB M 2,mR M,.cells [ai m,ai n]] 0:=⟨by
 unfold zKo at h
 have z {os ob} (k:Oz os ob):=pW M<|oD (dE b)<|k
 obtain⟨r1,h2,h⟩:=zB h
 have k:=oC 1 [0,1,2,3] (zQM h2) o0
 obtain⟨h3,h⟩|⟨h3,h⟩:=zK h
 have k:=oB 2 h3 k
 obtain⟨h4,h⟩|⟨h4,h⟩:=zK h
 obtain⟨x5,h6,h⟩:=zB h
 cases h
 exact tF zGu 2 [0,1,2,3] (oD (dT x5.sub)<|z<|oA 2 (xH (o:=.no) h6)<|oB 0 h4 k)
 obtain⟨x7,h8,h⟩:=zB h
 obtain⟨x9,h10,h⟩:=zB h
 obtain⟨x11,h12,h⟩:=zB h
 obtain⟨r13,h14,h⟩:=zB h
 obtain⟨r15,h16,h⟩:=zB h
 obtain⟨r17,h18,h⟩:=zB h
 have k:=oC 1 [] (c23 h18)<|oC 0 [] (c21 h16)<|oC 1 [] (c22 h14)<|oA 1 (uH (o:=.no) h12)<|oA 1 (xK (o:=.no) h10)<|oA 2 (xK (o:=.no) h8)<|oB 0 h4 k
 obtain⟨h19,h⟩|⟨h19,h⟩:=zK h
 obtain⟨r20,h21,h⟩:=zB h
 have k:=oB 2 h19 k
 obtain⟨h22,h⟩|⟨h22,h⟩:=zK h
 cases h
 exact tF zGu 3 [0,1,2,3] (oD (dT r17.sub)<|z<|oK 1 [] h22 (qW h21) k)
 cases h
 exact tF zGu 4 [0,1,2,3] (oD (dT r17.sub)<|z<|oK 1 [] h22 (qW h21) k)
 cases h
 exact tF zGu 2 [0,1,2,3] (oD (dT r17.sub)<|z<|oB 2 h19 k)
 obtain⟨x23,h24,h⟩:=zB h
 obtain⟨x25,h26,h⟩:=zB h
 obtain⟨x27,h28,h⟩:=zB h
 obtain⟨r29,h30,h⟩:=zB h
 obtain⟨r31,h32,h⟩:=zB h
 obtain⟨r33,h34,h⟩:=zB h
 have k:=oC 1 [] (c23 h34)<|oC 0 [] (c21 h32)<|oC 1 [] (c22 h30)<|oA 1 (uH (o:=.no) h28)<|oA 1 (xK (o:=.no) h26)<|oA 2 (xK (o:=.no) h24)<|oB 2 h3 k
 obtain⟨h35,h⟩|⟨h35,h⟩:=zK h
 obtain⟨r36,h37,h⟩:=zB h
 have k:=oB 2 h35 k
 obtain⟨h38,h⟩|⟨h38,h⟩:=zK h
 cases h
 exact tF zGu 3 [0,1,2,3] (oD (dT r33.sub)<|z<|oK 1 [] h38 (qW h37) k)
 cases h
 exact tF zGu 4 [0,1,2,3] (oD (dT r33.sub)<|z<|oK 1 [] h38 (qW h37) k)
 cases h
 exact tF zGu 2 [0,1,2,3] (oD (dT r33.sub)<|z<|oB 2 h35 k),⟨(lz rfl),⟨tv,tv,⟨tv,dT _⟩,tv⟩,tv,tv,⟨tv,dT _⟩,tv⟩,(zD ⟨(lz rfl),⟨tv,dE _⟩,(lz rfl),tv,tv⟩ (bA (lz rfl) (zD ⟨tv,tv,tv⟩ zA))),⟨tv,tv,dT _,tv⟩,(zD ⟨(lz rfl),dE _,(lz rfl),tv,tv⟩ (cE (lz rfl) (zD ⟨tv,tv,tv⟩ zA)))⟩
def zQN(c:Nat)(a b:Int):Option Bool:=
 some (a==b)
theorem yBi{c a b r}(h:zQN c a b=some r):Ct 112 [] [ai a,ai b] (ab r) [] 0:=⟨by
 unfold zQN at h
 cases h
 exact tF ⟨func112,rfl⟩ 1 [] (o0),⟨tv,tv,tv⟩,zA,tv,zA⟩
mutual
def vJ:Nat->zY->zY->tP->yD->yD->zY->Int->Int->Int->Tm->Tm->Option (Bool×Int×Int×Int)
 |0,_,_,_,_,_,_,_,_,_,_,_=>none
 |w+1,b,c,d,e,f,a,m,p,u,g,q=>
 zGw w (wV.mk b c d e f) a m p u g q>>=fun r1=>
 if r1.2.2.1 then
 iM w b c d e f a r1.2.2.2.2.1 r1.2.2.2.2.2 r1.2.2.2.1 r1.1 r1.2.1>>=fun r4=>
 some (r4.1,r4.2.1,r4.2.2.1,r4.2.2.2)
 else
 some (false,r1.2.2.2.1,r1.2.2.2.2.1,r1.2.2.2.2.2)
def iM:Nat->zY->zY->tP->yD->yD->zY->Int->Int->Int->Tm->Tm->Option (Bool×Int×Int×Int)
 |0,_,_,_,_,_,_,_,_,_,_,_=>none
 |w+1,b,c,d,e,f,a,m,p,u,g,q=>
 if g.k==4 then
 Y4 w (wV.mk b c d e f) a m p u g>>=fun r2=>
 Y4 w (wV.mk b c d e f) a m p r2.2 q>>=fun r4=>
 vJ w b c d e f a m p r4.2 r2.1 r4.1>>=fun r6=>
 some (r6.1,r6.2.1,r6.2.2.1,r6.2.2.2)
 else
 if q.k==4 then
 Y4 w (wV.mk b c d e f) a m p u g>>=fun r9=>
 Y4 w (wV.mk b c d e f) a m p r9.2 q>>=fun r11=>
 vJ w b c d e f a m p r11.2 r9.1 r11.1>>=fun r13=>
 some (r13.1,r13.2.1,r13.2.2.1,r13.2.2.2)
 else
 zDU w (wV.mk b c d e f) a m p u g>>=fun r15=>
 if r15.2.2 then
 zDU w (wV.mk b c d e f) a m p u q>>=fun r18=>
 if r18.2.2 then
 if r15.1 != r18.1 then
 some (false,u,m,p)
 else
 zP a r15.1>>=fun x22=>
 nE r15.2.1 0 x22.pars>>=fun x24=>
 nB w b c d e f a m p u g q r15.1 x24>>=fun r26=>
 some (r26.1,r26.2.1,r26.2.2.1,r26.2.2.2)
 else
 zP a r15.1>>=fun x28=>
 nE r15.2.1 0 x28.pars>>=fun x30=>
 nB w b c d e f a m p u g q r15.1 x30>>=fun r32=>
 some (r32.1,r32.2.1,r32.2.2.1,r32.2.2.2)
 else
 zDU w (wV.mk b c d e f) a m p u q>>=fun r34=>
 if r34.2.2 then
 zP a r34.1>>=fun x37=>
 nE r34.2.1 0 x37.pars>>=fun x39=>
 nB w b c d e f a m p u g q r34.1 x39>>=fun r41=>
 some (r41.1,r41.2.1,r41.2.2.1,r41.2.2.2)
 else
 if g.k != q.k then
 some (false,u,m,p)
 else
 if g.k==3 then
 zP g.sub 0>>=fun x45=>
 zP q.sub 0>>=fun x47=>
 vJ w b c d e f a m p u x45 x47>>=fun r49=>
 if r49.1 then
 zP g.sub 1>>=fun x52=>
 zP q.sub 1>>=fun x54=>
 vJ w b c d e f a r49.2.2.1 r49.2.2.2 r49.2.1 x52 x54>>=fun r56=>
 some (r56.1,r56.2.1,r56.2.2.1,r56.2.2.2)
 else
 some (false,r49.2.1,r49.2.2.1,r49.2.2.2)
 else
 if g.k==2 then
 zQN w g.n q.n>>=fun r59=>
 some (r59,u,m,p)
 else
 iN w b c d e f a m p u g q>>=fun r61=>
 some (r61.1,r61.2.1,r61.2.2.1,r61.2.2.2)
def nB:Nat->zY->zY->tP->yD->yD->zY->Int->Int->Int->Tm->Tm->Int->zR->Option (Bool×Int×Int×Int)
 |0,_,_,_,_,_,_,_,_,_,_,_,_,_=>none
 |w+1,b,c,d,e,f,a,m,p,u,g,q,B,y=>
 zP a B>>=fun x1=>
 zP a x1.fam>>=fun x3=>
 uF w b c d e f a g q B y x3 0 u m p
def uF:Nat->zY->zY->tP->yD->yD->zY->Tm->Tm->Int->zR->yE->Int->Int->Int->Int->Option (Bool×Int×Int×Int)
 |0,_,_,_,_,_,_,_,_,_,_,_,_,_,_,_=>none
 |w+1,b,c,d,e,f,a,g,q,B,y,x3,i,v,s,t=>
 if decide (i<(x3.fields.length:Int))then
 zKo w (wV.mk b c d e f) a s t v g B i y>>=fun r6=>
 zKo w (wV.mk b c d e f) a s t r6.2 q B i y>>=fun r8=>
 vJ w b c d e f a s t r8.2 r6.1 r8.1>>=fun r10=>
 if r10.1 then
 uF w b c d e f a g q B y x3 (yN (i+1)) r10.2.1 r10.2.2.1 r10.2.2.2
 else
 some (false,r10.2.1,r10.2.2.1,r10.2.2.2)
 else
 some (true,v,s,t)
def iN:Nat->zY->zY->tP->yD->yD->zY->Int->Int->Int->Tm->Tm->Option (Bool×Int×Int×Int)
 |0,_,_,_,_,_,_,_,_,_,_,_=>none
 |w+1,b,c,d,e,f,a,m,p,u,g,q=>
 Q5 w g>>=fun r1=>
 Q5 w q>>=fun r3=>
 if r1.1.k != r3.1.k then
 some (false,u,m,p)
 else
 if r1.1.n != r3.1.n then
 some (false,u,m,p)
 else
 if (r1.2.length:Int) != (r3.2.length:Int)then
 some (false,u,m,p)
 else
 if r1.1.k==7 then
 zP r1.1.sub 0>>=fun x9=>
 zP r3.1.sub 0>>=fun x11=>
 if x9.n != x11.n then
 some (false,u,m,p)
 else
 if r1.1.k==3 then
 vJ w b c d e f a m p u x9 x11>>=fun r15=>
 if r15.1 then
 zP r1.1.sub 1>>=fun x18=>
 zP r3.1.sub 1>>=fun x20=>
 vJ w b c d e f a r15.2.2.1 r15.2.2.2 r15.2.1 x18 x20>>=fun r22=>
 if r22.1 then
 wE w b c d e f a r1 r3 0 r22.2.1 r22.2.2.1 r22.2.2.2
 else
 some (false,r22.2.1,r22.2.2.1,r22.2.2.2)
 else
 some (false,r15.2.1,r15.2.2.1,r15.2.2.2)
 else
 wE w b c d e f a r1 r3 0 u m p
 else
 if r1.1.k==3 then
 zP r1.1.sub 0>>=fun x26=>
 zP r3.1.sub 0>>=fun x28=>
 vJ w b c d e f a m p u x26 x28>>=fun r30=>
 if r30.1 then
 zP r1.1.sub 1>>=fun x33=>
 zP r3.1.sub 1>>=fun x35=>
 vJ w b c d e f a r30.2.2.1 r30.2.2.2 r30.2.1 x33 x35>>=fun r37=>
 if r37.1 then
 wE w b c d e f a r1 r3 0 r37.2.1 r37.2.2.1 r37.2.2.2
 else
 some (false,r37.2.1,r37.2.2.1,r37.2.2.2)
 else
 some (false,r30.2.1,r30.2.2.1,r30.2.2.2)
 else
 wE w b c d e f a r1 r3 0 u m p
def wE:Nat->zY->zY->tP->yD->yD->zY->(Tm×zR)->(Tm×zR)->Int->Int->Int->Int->Option (Bool×Int×Int×Int)
 |0,_,_,_,_,_,_,_,_,_,_,_,_=>none
 |w+1,b,c,d,e,f,a,r1,r3,A,v,s,t=>
 if decide (A<(r1.2.length:Int))then
 zP r1.2 A>>=fun x26=>
 zP r3.2 A>>=fun x28=>
 vJ w b c d e f a s t v x26 x28>>=fun r30=>
 if r30.1 then
 wE w b c d e f a r1 r3 (yN (A+1)) r30.2.1 r30.2.2.1 r30.2.2.2
 else
 some (false,r30.2.1,r30.2.2.1,r30.2.2.2)
 else
 some (true,v,s,t)
end
abbrev K2 (b c:zY) (d:tP) (e f:yD) (a:zY) (m p u:Int) (g q:Tm) (r:Bool×Int×Int×Int) (C:Cf):Prop:=C 69 [.cells [.mp 1 0,zH yA a .no,.mp 3 0,ai u],qB b 2 e f,qR c d,.cells [ai m,ai p]] [.mp 0 0,yV g,yV q] (ab r.1) [.cells [.mp 1 0,zH yA a .no,.mp 3 0,ai r.2.1],qB b 2 e f,qR c d,.cells [ai r.2.2.1,ai r.2.2.2]] 0
abbrev T8 (b c:zY) (d:tP) (e f:yD) (a:zY) (m p u:Int) (g q:Tm) (r:Bool×Int×Int×Int) (C:Cf):Prop:=C 111 [.cells [.mp 1 0,zH yA a .no,.mp 3 0,ai u],qB b 2 e f,qR c d,.cells [ai m,ai p]] [.mp 0 0,yV g,yV q,.agg [.clo 112 [] [],.clo 69 [.mp 0 0] []]] (ab r.1) [.cells [.mp 1 0,zH yA a .no,.mp 3 0,ai r.2.1],qB b 2 e f,qR c d,.cells [ai r.2.2.1,ai r.2.2.2]] 0
abbrev zNF (b c:zY) (d:tP) (e f:yD) (a:zY) (m p u:Int) (g q:Tm) (B:Int) (y:zR) (r:Bool×Int×Int×Int) (C:Cf):Prop:=C 171 [.cells [.mp 1 0,zH yA a .no,.mp 3 0,ai u],qB b 2 e f,qR c d,.cells [ai m,ai p]] [.mp 0 0,yV g,yV q,ai B,zH zC y .no] (ab r.1) [.cells [.mp 1 0,zH yA a .no,.mp 3 0,ai r.2.1],qB b 2 e f,qR c d,.cells [ai r.2.2.1,ai r.2.2.2]] 0
abbrev T9 (b c:zY) (d:tP) (e f:yD) (a:zY) (m p u:Int) (g q:Tm) (r:Bool×Int×Int×Int) (C:Cf):Prop:=C 172 [.cells [.mp 1 0,zH yA a .no,.mp 3 0,ai u],qB b 2 e f,qR c d,.cells [ai m,ai p]] [.mp 0 0,yV g,yV q] (ab r.1) [.cells [.mp 1 0,zH yA a .no,.mp 3 0,ai r.2.1],qB b 2 e f,qR c d,.cells [ai r.2.2.1,ai r.2.2.2]] 0
theorem zHZ:Qf 69 f69:=⟨func69,rfl⟩
theorem zIz{b c d e f a m p u g q r}(h:K2 b c d e f a m p u g q r Ci):K2 b c d e f a m p u g q r Ct:=⟨h,⟨(lz rfl),⟨tv,tv,⟨tv,dT _⟩,tv⟩,⟨tv,tv,⟨tv,dT _⟩,tv⟩,tv⟩,(zD ⟨(lz rfl),⟨tv,dE _⟩,(lz rfl),tv,tv⟩ (bA (lz rfl) (zD ⟨tv,tv,tv⟩ zA))),tv,(zD ⟨(lz rfl),dE _,(lz rfl),tv,tv⟩ (cE (lz rfl) (zD ⟨tv,tv,tv⟩ zA)))⟩
theorem sB:Qf 111 f111:=⟨func111,rfl⟩
theorem sC{b c d e f a m p u g q r}(h:T8 b c d e f a m p u g q r Ci):T8 b c d e f a m p u g q r Ct:=⟨h,⟨(lz rfl),⟨tv,tv,⟨tv,dT _⟩,tv⟩,⟨tv,tv,⟨tv,dT _⟩,tv⟩,⟨⟨tv,tv⟩,⟨⟨(lz rfl),tv⟩,tv⟩,tv⟩,tv⟩,(zD ⟨(lz rfl),⟨tv,dE _⟩,(lz rfl),tv,tv⟩ (bA (lz rfl) (zD ⟨tv,tv,tv⟩ zA))),tv,(zD ⟨(lz rfl),dE _,(lz rfl),tv,tv⟩ (cE (lz rfl) (zD ⟨tv,tv,tv⟩ zA)))⟩
theorem tB:Qf 172 f172:=⟨func172,rfl⟩
theorem tC{b c d e f a m p u g q r}(h:T9 b c d e f a m p u g q r Ci):T9 b c d e f a m p u g q r Ct:=⟨h,⟨(lz rfl),⟨tv,tv,⟨tv,dT _⟩,tv⟩,⟨tv,tv,⟨tv,dT _⟩,tv⟩,tv⟩,(zD ⟨(lz rfl),⟨tv,dE _⟩,(lz rfl),tv,tv⟩ (bA (lz rfl) (zD ⟨tv,tv,tv⟩ zA))),tv,(zD ⟨(lz rfl),dE _,(lz rfl),tv,tv⟩ (cE (lz rfl) (zD ⟨tv,tv,tv⟩ zA)))⟩
theorem vQ:∀w:Nat,(∀ {b c d e f a m p u g q r},vJ w b c d e f a m p u g q=some r->K2 b c d e f a m p u g q r Ct)∧(∀ {b c d e f a m p u g q r},iM w b c d e f a m p u g q=some r->T8 b c d e f a m p u g q r Ct)∧(∀ {b c d e f a m p u g q B y r},nB w b c d e f a m p u g q B y=some r->zNF b c d e f a m p u g q B y r Ct)∧(∀ {b c d e f a g q B y x3 i v s t r},uF w b c d e f a g q B y x3 i v s t=some r->(∀j,dL 4 (pt 949 f171) (sp j 47 0 [(0,.mp 0 0),(3,ai B),(4,zH zC y .no),(6,.mp 4 0),(7,.mp 5 0),(27,ai (x3.fields.length:Int)),(28,ai i)]) (⟨[(0,.cells [.mp 1 0,zH yA a .no,.mp 3 0,ai v]),(1,qB b 2 e f),(2,qR c d),(3,.cells [ai s,ai t]),(4,.cells [ai g.k,ai g.n,zH zC g.sub .no]),(5,.cells [ai q.k,ai q.n,zH zC q.sub .no])],6,[],0,[]⟩) (fQ 4 (nQ 4 f171 (ab r.1) [.cells [.mp 1 0,zH yA a .no,.mp 3 0,ai r.2.1],qB b 2 e f,qR c d,.cells [ai r.2.2.1,ai r.2.2.2]] 0) [.blk 0,.seq (pt 15 f171)])))∧(∀ {b c d e f a m p u g q r},iN w b c d e f a m p u g q=some r->T9 b c d e f a m p u g q r Ct)∧(∀ {b c d e f a r1 r3 A v s t r},wE w b c d e f a r1 r3 A v s t=some r->(∀j,dL 4 (pt 262069 f172) (sp j 104 0 [(0,.mp 0 0),(8,zH zC r1.2 .no),(10,zH zC r3.2 .no),(88,ai (r1.2.length:Int)),(89,ai A)]) (⟨[(0,.cells [.mp 1 0,zH yA a .no,.mp 3 0,ai v]),(1,qB b 2 e f),(2,qR c d),(3,.cells [ai s,ai t])],4,[],0,[]⟩) (fQ 4 (nQ 4 f172 (ab r.1) [.cells [.mp 1 0,zH yA a .no,.mp 3 0,ai r.2.1],qB b 2 e f,qR c d,.cells [ai r.2.2.1,ai r.2.2.2]] 0) [.blk 0,.seq (pt 4095 f172)]))):=by
 intro w
 induction w with
 |zero=>
  exact⟨fun h=>nn h,fun h=>nn h,fun h=>nn h,fun h=>nn h,fun h=>nn h,fun h=>nn h⟩
 |succ w ih=>
  obtain⟨vH,zKn,D4,aE,zKm,rT⟩:=ih
  refine⟨?_,?_,?_,?_,?_,?_⟩
  intro b c d e f a m p u g q r h
  rw[vJ]at h
  obtain⟨r1,h2,h⟩:=zB h
  have k:=oC 2 [0,1,2,3] (yBk h2) o0
  obtain⟨h3,h⟩|⟨h3,h⟩:=zK h
  obtain⟨r4,h5,h⟩:=zB h
  cases h
  exact zIz (tF zHZ 0 [0,1,2,3] (oDm b c d e f<|oD (dE a)<|oC 4 [0,1,2,3] (zKn h5)<|oB 2 h3 k))
  cases h
  exact zIz (tF zHZ 2 [0,1,2,3] (oDm b c d e f<|oD (dE a)<|oB 2 h3 k))
  intro b c d e f a m p u g q r h
  rw[iM]at h
  have z {os ob} (k:Oz os ob):=oDm b c d e f<|oD (dE a)<|k
  obtain⟨h1,h⟩|⟨h1,h⟩:=zK h
  obtain⟨r2,h3,h⟩:=zB h
  obtain⟨r4,h5,h⟩:=zB h
  obtain⟨r6,h7,h⟩:=zB h
  cases h
  exact sC (tF sB 0 [0,1,2,3] (z<|oC 0 [0,1,2,3] (vH h7)<|oC 1 [0,1,2,3] (zQL h5)<|oC 1 [0,1,2,3] (zQL h3)<|oB 1 h1 o0))
  have k:=oB 1 h1 o0
  obtain⟨h8,h⟩|⟨h8,h⟩:=zK h
  obtain⟨r9,h10,h⟩:=zB h
  obtain⟨r11,h12,h⟩:=zB h
  obtain⟨r13,h14,h⟩:=zB h
  cases h
  exact sC (tF sB 0 [0,1,2,3] (z<|oC 0 [0,1,2,3] (vH h14)<|oC 1 [0,1,2,3] (zQL h12)<|oC 1 [0,1,2,3] (zQL h10)<|oB 1 h8 k))
  obtain⟨r15,h16,h⟩:=zB h
  have k:=oC 1 [0,1,2,3] (zQM h16)<|oB 1 h8 k
  obtain⟨h17,h⟩|⟨h17,h⟩:=zK h
  obtain⟨r18,h19,h⟩:=zB h
  have k:=oC 1 [0,1,2,3] (zQM h19)<|oB 2 h17 k
  obtain⟨h20,h⟩|⟨h20,h⟩:=zK h
  have k:=oB 2 h20 k
  obtain⟨h21,h⟩|⟨h21,h⟩:=zK h
  cases h
  exact sC (tF sB 0 [0,1,2,3] (z<|oB 0 h21 k))
  obtain⟨x22,h23,h⟩:=zB h
  obtain⟨x24,h25,h⟩:=zB h
  obtain⟨r26,h27,h⟩:=zB h
  cases h
  exact sC (tF sB 0 [0,1,2,3] (z<|oC 0 [0,1,2,3] (D4 h27)<|oA 1 (oN h25)<|oA 3 (xK (o:=.no) h23)<|oB 0 h21 k))
  obtain⟨x28,h29,h⟩:=zB h
  obtain⟨x30,h31,h⟩:=zB h
  obtain⟨r32,h33,h⟩:=zB h
  cases h
  exact sC (tF sB 0 [0,1,2,3] (z<|oC 0 [0,1,2,3] (D4 h33)<|oA 1 (oN h31)<|oA 3 (xK (o:=.no) h29)<|oB 2 h20 k))
  obtain⟨r34,h35,h⟩:=zB h
  have k:=oC 1 [0,1,2,3] (zQM h35)<|oB 2 h17 k
  obtain⟨h36,h⟩|⟨h36,h⟩:=zK h
  obtain⟨x37,h38,h⟩:=zB h
  obtain⟨x39,h40,h⟩:=zB h
  obtain⟨r41,h42,h⟩:=zB h
  cases h
  exact sC (tF sB 0 [0,1,2,3] (z<|oC 0 [0,1,2,3] (D4 h42)<|oA 1 (oN h40)<|oA 3 (xK (o:=.no) h38)<|oB 2 h36 k))
  have k:=oB 2 h36 k
  obtain⟨h43,h⟩|⟨h43,h⟩:=zK h
  cases h
  exact sC (tF sB 0 [0,1,2,3] (z<|oB 2 h43 k))
  have k:=oB 2 h43 k
  obtain⟨h44,h⟩|⟨h44,h⟩:=zK h
  obtain⟨x45,h46,h⟩:=zB h
  obtain⟨x47,h48,h⟩:=zB h
  obtain⟨r49,h50,h⟩:=zB h
  have k:=oA 2 (xH (o:=.no) h48)<|oA 1 (xH (o:=.no) h46)<|oB 1 h44 k
  obtain⟨h51,h⟩|⟨h51,h⟩:=zK h
  obtain⟨x52,h53,h⟩:=zB h
  obtain⟨x54,h55,h⟩:=zB h
  obtain⟨r56,h57,h⟩:=zB h
  cases h
  exact sC (tF sB 0 [0,1,2,3] (z<|oC 1 [0,1,2,3] (vH h57)<|oA 2 (xH (o:=.no) h55)<|oA 2 (xH (o:=.no) h53)<|oK 1 [0,1,2,3] h51 (vH h50) k))
  cases h
  exact sC (tF sB 0 [0,1,2,3] (z<|oK 1 [0,1,2,3] h51 (vH h50) k))
  have k:=oB 1 h44 k
  obtain⟨h58,h⟩|⟨h58,h⟩:=zK h
  obtain⟨r59,h60,h⟩:=zB h
  cases h
  exact sC (tF sB 0 [0,1,2,3] (z<|oC 3 [] (yBi h60)<|oB 1 h58 k))
  obtain⟨r61,h62,h⟩:=zB h
  cases h
  exact sC (tF sB 0 [0,1,2,3] (z<|oC 2 [0,1,2,3] (zKm h62)<|oB 1 h58 k))
  intro b c d e f a m p u g q B y r h
  rw[nB]at h
  obtain⟨x1,h2,h⟩:=zB h
  obtain⟨x3,h4,h⟩:=zB h
  exact⟨tH ⟨func171,rfl⟩ 2 [] [0,1,2,3,4,5] [] [0,3,4,6,7,27,28] (oD (dT y)<|oD (dT q.sub)<|oD (dT g.sub)<|oDm b c d e f<|oD (dE a)<|oA 1 (xK (o:=.no) h4)<|oA 2 (xK (o:=.no) h2) o0) (aE h),⟨(lz rfl),⟨tv,tv,⟨tv,dT _⟩,tv⟩,⟨tv,tv,⟨tv,dT _⟩,tv⟩,tv,⟨tv,dT _⟩,tv⟩,(zD ⟨(lz rfl),⟨tv,dE _⟩,(lz rfl),tv,tv⟩ (bA (lz rfl) (zD ⟨tv,tv,tv⟩ zA))),tv,(zD ⟨(lz rfl),dE _,(lz rfl),tv,tv⟩ (cE (lz rfl) (zD ⟨tv,tv,tv⟩ zA)))⟩
  intro b c d e f a g q B y x3 i v s t r h
  rw[uF]at h
  have z {os ob} (k:Oz os ob):=oDm b c d e f<|oD (dE a)<|k
  obtain⟨h5,h⟩|⟨h5,h⟩:=zK h
  obtain⟨r6,h7,h⟩:=zB h
  obtain⟨r8,h9,h⟩:=zB h
  obtain⟨r10,h11,h⟩:=zB h
  have k:=oC 1 [0,1,2,3] (zYM h9)<|oC 1 [0,1,2,3] (zYM h7)<|oB 0 h5 o0
  obtain⟨h12,h⟩|⟨h12,h⟩:=zK h
  exact fun j=>lH 2 [] [0,1,2,3,4,5] [] [0,3,4,6,7,27,28] (oD (dT y)<|oD (dT q.sub)<|oD (dT g.sub)<|z<|oK 0 [0,1,2,3] h12 (vH h11) k) (aE h)
  cases h
  exact fun j=>lF 1 [0,1,2,3] (z<|oK 0 [0,1,2,3] h12 (vH h11) k)
  cases h
  exact fun j=>lF 0 [0,1,2,3] (z<|oB 0 h5 o0)
  intro b c d e f a m p u g q r h
  rw[iN]at h
  have z {os ob} (k:Oz os ob):=oDm b c d e f<|oD (dE a)<|k
  obtain⟨r1,h2,h⟩:=zB h
  obtain⟨r3,h4,h⟩:=zB h
  have k:=oC 4 [] (zFd h4)<|oC 1 [] (zFd h2) o0
  obtain⟨h5,h⟩|⟨h5,h⟩:=zK h
  cases h
  exact tC (tF tB 0 [0,1,2,3] (z<|oB 5 h5 k))
  have k:=oB 5 h5 k
  obtain⟨h6,h⟩|⟨h6,h⟩:=zK h
  cases h
  exact tC (tF tB 0 [0,1,2,3] (z<|oB 2 h6 k))
  have k:=oB 2 h6 k
  obtain⟨h7,h⟩|⟨h7,h⟩:=zK h
  cases h
  exact tC (tF tB 0 [0,1,2,3] (z<|oB 2 h7 k))
  have k:=oB 2 h7 k
  obtain⟨h8,h⟩|⟨h8,h⟩:=zK h
  obtain⟨x9,h10,h⟩:=zB h
  obtain⟨x11,h12,h⟩:=zB h
  have k:=oA 2 (xH (o:=.no) h12)<|oA 1 (xH (o:=.no) h10)<|oB 1 h8 k
  obtain⟨h13,h⟩|⟨h13,h⟩:=zK h
  cases h
  exact tC (tF tB 0 [0,1,2,3] (z<|oB 1 h13 k))
  have k:=oB 1 h13 k
  obtain⟨h14,h⟩|⟨h14,h⟩:=zK h
  obtain⟨r15,h16,h⟩:=zB h
  have k:=oA 2 (xH (o:=.no) h12)<|oA 1 (xH (o:=.no) h10)<|oB 1 h14 k
  obtain⟨h17,h⟩|⟨h17,h⟩:=zK h
  obtain⟨x18,h19,h⟩:=zB h
  obtain⟨x20,h21,h⟩:=zB h
  obtain⟨r22,h23,h⟩:=zB h
  have k:=oA 2 (xH (o:=.no) h21)<|oA 1 (xH (o:=.no) h19)<|oK 1 [0,1,2,3] h17 (vH h16) k
  obtain⟨h24,h⟩|⟨h24,h⟩:=zK h
  exact tC (tH tB 2 [] [0,1,2,3] [] [0,8,10,88,89] (oD (dT r3.2)<|oD (dT r1.2)<|z<|oK 1 [0,1,2,3] h24 (vH h23) k) (rT h))
  cases h
  exact tC (tF tB 1 [0,1,2,3] (z<|oK 1 [0,1,2,3] h24 (vH h23) k))
  cases h
  exact tC (tF tB 1 [0,1,2,3] (z<|oK 1 [0,1,2,3] h17 (vH h16) k))
  exact tC (tH tB 1 [] [0,1,2,3] [] [0,8,10,88,89] (oD (dT r3.2)<|oD (dT r1.2)<|z<|oB 1 h14 k) (rT h))
  have k:=oB 1 h8 k
  obtain⟨h25,h⟩|⟨h25,h⟩:=zK h
  obtain⟨x26,h27,h⟩:=zB h
  obtain⟨x28,h29,h⟩:=zB h
  obtain⟨r30,h31,h⟩:=zB h
  have k:=oA 2 (xH (o:=.no) h29)<|oA 1 (xH (o:=.no) h27)<|oB 1 h25 k
  obtain⟨h32,h⟩|⟨h32,h⟩:=zK h
  obtain⟨x33,h34,h⟩:=zB h
  obtain⟨x35,h36,h⟩:=zB h
  obtain⟨r37,h38,h⟩:=zB h
  have k:=oA 2 (xH (o:=.no) h36)<|oA 1 (xH (o:=.no) h34)<|oK 1 [0,1,2,3] h32 (vH h31) k
  obtain⟨h39,h⟩|⟨h39,h⟩:=zK h
  exact tC (tH tB 2 [] [0,1,2,3] [] [0,8,10,88,89] (oD (dT r3.2)<|oD (dT r1.2)<|z<|oK 1 [0,1,2,3] h39 (vH h38) k) (rT h))
  cases h
  exact tC (tF tB 1 [0,1,2,3] (z<|oK 1 [0,1,2,3] h39 (vH h38) k))
  cases h
  exact tC (tF tB 1 [0,1,2,3] (z<|oK 1 [0,1,2,3] h32 (vH h31) k))
  exact tC (tH tB 1 [] [0,1,2,3] [] [0,8,10,88,89] (oD (dT r3.2)<|oD (dT r1.2)<|z<|oB 1 h25 k) (rT h))
  intro b c d e f a r1 r3 A v s t r h
  rw[wE]at h
  have z {os ob} (k:Oz os ob):=oDm b c d e f<|oD (dE a)<|k
  obtain⟨h25,h⟩|⟨h25,h⟩:=zK h
  obtain⟨x26,h27,h⟩:=zB h
  obtain⟨x28,h29,h⟩:=zB h
  obtain⟨r30,h31,h⟩:=zB h
  have k:=oA 1 (xH (o:=.no) h29)<|oA 0 (xH (o:=.no) h27)<|oB 0 h25 o0
  obtain⟨h32,h⟩|⟨h32,h⟩:=zK h
  exact fun j=>lH 2 [] [0,1,2,3] [] [0,8,10,88,89] (oD (dT r3.2)<|oD (dT r1.2)<|z<|oK 1 [0,1,2,3] h32 (vH h31) k) (rT h)
  cases h
  exact fun j=>lF 1 [0,1,2,3] (z<|oK 1 [0,1,2,3] h32 (vH h31) k)
  cases h
  exact fun j=>lF 0 [0,1,2,3] (z<|oB 0 h25 o0)
theorem zQO{w b c d e f a m p u g q r}(h:vJ w b c d e f a m p u g q=some r):K2 b c d e f a m p u g q r Ct:=(vQ _).1 h
def zDV(r:Bool×Int×Int×Int):Int:=if r.1=true then 9 else r.2.1
theorem zBh{r:Bool×Int×Int×Int}(h:zDV r=8):r.1=false∧r.2.1=8:=by
 unfold zDV at h
 split at h
 ·omega
 ·rename_i h1;exact⟨by simpa using h1,h⟩
def zBg(l:List yE)(m:Bool)(L U e:Int)(q:Nat)(x y:Tm):Option (Bool×Int×Int×Int):=match m with
 |false=>vJ q l l (kM l l.length 0) (l.map wJ) (l.map rX) l L U e x y
 |true=>none
def zUF(l:List yE)(m:Bool)(L U e:Int)(q:Nat)(x y:Tm):Option (Bool×Int×Int×Int):=match m with
 |false=>iM q l l (kM l l.length 0) (l.map wJ) (l.map rX) l L U e x y
 |true=>none
def QX(X:Bool->Int->Prop)(R:Int->Int->Bool×Int×Int×Int)(k:Int):Prop:=∃b e,e≠8∧(e=0->X b k)∧(e≠0->b=false∧∀b k,¬X b k)∧R=fun L U=>(b,e,L,U)
def HX(g:Int->Int->Nat->Option (Bool×Int×Int×Int))(X:Bool->Int->Prop)(f:Int):Prop:=Ou g zDV (QX X) (∀b k,X b k->f<k) f
def HC(l:List yE)(m:Bool)(x y:Tm)(f:Int):Prop:=HX (fun L U q=>zBg l m L U 0 q x y) (Cv l m x y) f
theorem iO{X:Bool->Int->Prop}{e k:Int}(h8:e≠8)(h0:e≠0)(h:∀b k,¬X b k):QX X (fun L U=>(false,e,L,U)) k:=⟨false,e,h8,fun h=>absurd h h0,fun _=>⟨rfl,h⟩,rfl⟩
theorem j4{X:Bool->Int->Prop}{b:Bool}{k:Int}(h:X b k):QX X (fun L U=>(b,0,L,U)) k:=⟨b,0,by decide,fun _=>h,fun h=>absurd rfl h,rfl⟩
theorem zDW(l:List yE)(m:Bool)(x y:Tm)(e:Int)(he:e≠0)(L U:Int)(hmf:m=false):zF (fun q=>zBg l m L U e q x y) (false,e,L,U):=by
 have hp:zF (fun q=>zGw q (wV.mk l l (kM l l.length 0) (l.map wJ) (l.map rX)) l L U e x y) (x,y,false,e,L,U):=by
  simp only[zGw]
  exact zF.ifT (by simpa using he) zF.ret
 cases m with
 |false=>
  refine zF.succ ?_
  simp only[zBg,vJ]
  exact hp.bind (zF.ifF rfl zF.ret)
 |true=>cases hmf
theorem wO.one{C:Tm->Tm->Bool->Int->Prop}{p:PE}{b:Bool}{k:Int}:wO C [p] b k↔p.1.2=0∧p.2.2=0∧C p.1.1 p.2.1 b k:=by
 constructor
 ·rintro ⟨h1,h2,b1,k1,h3,⟨rfl,rfl,rfl⟩|⟨rfl,k2,⟨rfl,rfl⟩,rfl⟩⟩
  ·exact⟨h1,h2,h3⟩
  ·exact⟨h1,h2,by rwa[Int.add_zero]⟩
 ·rintro ⟨h1,h2,h3⟩
  refine⟨h1,h2,b,k,h3,?_⟩
  cases b with
  |false=>exact .inl ⟨rfl,rfl,rfl⟩
  |true=>exact .inr ⟨rfl,0,⟨rfl,rfl⟩,by omega⟩
theorem aF{l:List yE}{p:PE}{r:List PE}{f:Int}{g:Int->Int->Nat->Option (Bool×Int×Int×Int)}{c:Int->Int->Int->Nat->Option (Bool×Int×Int×Int)}
  (h1:HX g (wO (Cv l false) [p]) f) (hc:∀k,0≤k->k≤f->HX (fun L U q=>c 0 L U q) (wO (Cv l false) r) (f-k)) :
  HX (fun L U q=>g L U q>>=fun r30=>if r30.1=true then c r30.2.1 r30.2.2.1 r30.2.2.2 q else some (false,r30.2.1,r30.2.2.1,r30.2.2.2)) (wO (Cv l false) (p::r)) f:=by
 refine Ou.bind h1 (fun h b k ha=>?_) (fun r hr=>?_) ?_
 ·obtain⟨a1,a2,b1,k1,a3,a4⟩:=ha
  have:=h b1 k1 (wO.one.2 ⟨a1,a2,a3⟩)
  rcases a4 with⟨-,-,a4⟩|⟨-,k2,a4,a5⟩
  ·omega
  ·have:=wO.nn (fun _ _ _ _ h=>Cv.nn h) a4;omega
 ·have:=zBh hr
  refine⟨_,zF.ifF this.1 zF.ret,?_⟩
  unfold zDV
  rw[if_neg (by simp)];exact this.2
 ·rintro R k k0 k1 ⟨b1,e1,h8,h0,hn,rfl⟩
  dsimp only
  by_cases e0:e1=0
  ·subst e0
   obtain⟨a1,a2,a3⟩:=wO.one.1 (h0 rfl)
   cases b1 with
   |false=>exact Ou.ifF rfl (Ou.ret (by omega) (j4 ⟨a1,a2,false,k,a3,.inl ⟨rfl,rfl,by omega⟩⟩))
   |true=>
    refine Ou.ifT rfl ((hc k k0 k1).mono ?_ fun h b k' ha=>?_)
    ·rintro R n _ _ ⟨b,e,g8,g0,gn,rfl⟩
     refine⟨b,e,g8,fun he=>⟨a1,a2,true,k,a3,.inr ⟨rfl,n,g0 he,rfl⟩⟩,fun he=>⟨(gn he).1,fun b' k' ha=>?_⟩,rfl⟩
     obtain⟨-,-,b1,k1,a4,a5⟩:=ha
     obtain⟨rfl,rfl⟩:=a3.det a4
     rcases a5 with⟨a5,-⟩|⟨-,k2,a5,-⟩
     ·cases a5
     ·exact(gn he).2 _ _ a5
    ·obtain⟨-,-,b1,k1,a4,a5⟩:=ha
     obtain⟨rfl,rfl⟩:=a3.det a4
     rcases a5 with⟨a5,-⟩|⟨-,k2,a5,a6⟩
     ·cases a5
     ·have:=h _ _ a5;omega
  ·obtain⟨rfl,hno⟩:=hn e0
   refine Ou.ifF rfl (Ou.ret (by omega) (iO h8 e0 fun b k ha=>?_))
   obtain⟨a1,a2,b1,k1,a3,-⟩:=ha
   exact hno b1 k1 (wO.one.2 ⟨a1,a2,a3⟩)
theorem zIy{l:List yE}{p q:Tm×Int}{f:Int}(hf:0≤f)(h8:p.2≠8∧q.2≠8)(h:p.2=0->q.2=0->HC l false p.1 q.1 f):HX (fun L U n=>zBg l false L U (if p.2=0 then q.2 else p.2) n p.1 q.1) (wO (Cv l false) [(p,q)]) f:=by
 by_cases h1:p.2=0
 ·rw[if_pos h1]
  by_cases h2:q.2=0
  ·rw[h2]
   refine(h h1 h2).mono ?_ fun hs b k ha=>hs b k (wO.one.1 ha).2.2
   rintro R n _ _ ⟨b,e,g8,g0,gn,rfl⟩
   exact⟨b,e,g8,fun he=>wO.one.2 ⟨h1,h2,g0 he⟩,fun he=>⟨(gn he).1,fun b k ha=>(gn he).2 b k (wO.one.1 ha).2.2⟩,rfl⟩
  ·exact Ou.evt0 (fun L U=>zDW l false p.1 q.1 q.2 h2 L U rfl) hf (iO h8.2 h2 fun b k ha=>h2 (wO.one.1 ha).2.1)
 ·rw[if_neg h1]
  exact Ou.evt0 (fun L U=>zDW l false p.1 q.1 p.2 h1 L U rfl) hf (iO h8.1 h1 fun b k ha=>h1 (wO.one.1 ha).1)
theorem D5{l:List yE}{a b:Tm}{f:Int}(h:HC l false a b f):HX (fun L U n=>zBg l false L U 0 n a b) (wO (Cv l false) [((a,0),(b,0))]) f:=by
 refine h.mono ?_ fun hs b k ha=>hs b k (wO.one.1 ha).2.2
 rintro R n _ _ ⟨b,e,g8,g0,gn,rfl⟩
 exact⟨b,e,g8,fun he=>wO.one.2 ⟨rfl,rfl,g0 he⟩,fun he=>⟨(gn he).1,fun b k ha=>(gn he).2 b k (wO.one.1 ha).2.2⟩,rfl⟩
theorem zIx{l:List yE}{f:Int}(hf:0≤f):HX (fun L U _=>some (true,0,L,U)) (wO (Cv l false) []) f:=Ou.ret hf (j4 ⟨rfl,rfl⟩)
theorem zIw(t:Tm):(rG t).2≠8:=by
 unfold rG
 split
 ·simp
 ·dsimp only
  split
  ·split<;>simp
  ·exact R8 t 1 0
theorem zIv{t:Tm}(hs:zI t=true):(rG t).1.Ok:=by
 unfold rG
 split
 ·rename_i h
  obtain⟨a,b,hab,-,hb⟩:=sA (zM hs).2.2 (.inr (.inl h))
  rw[hab];exact sS b hb
 ·exact mS (iG t 1 0 (xL hs)) (wU _ _)
theorem zYN{t:Tm}(h:t.k=4):rG t=(vU t.sub 1,0):=if_pos h
theorem zYO{t:Tm}(h:t.k≠4):rG t=(.mk 5 0 [(vX t 1 0).1,.mk 1 0 []],if (vX t 1 0).2=0 then(if zI (.mk 5 0 [(vX t 1 0).1,.mk 1 0 []])=true then 0 else 2)else(vX t 1 0).2):=if_neg h
theorem j5(M:wV)(l:List yE)(t:Tm)(hs:zI t=true)(L U e:Int):zF (fun q=>Y4 q M l L U e t) ((rG t).1,if e=0 then(rG t).2 else e):=by
 simp only[Y4]
 by_cases h4:t.k=4
 ·obtain⟨a,b,hab,-,-⟩:=sA (zM hs).2.2 (.inr (.inl h4))
  refine zF.ifT (by simp[h4]) (zF.pure (uR (by omega) (by rw[hab];simp)) (zF.ret.eq ?_))
  rw[zYN h4]
  by_cases he:e=0
  ·simp[he]
  ·simp[he]
 ·rw[zYO h4]
  refine zF.ifF (by simp[h4]) ((zMo t 1 (xL hs)).bind ((B9 0).bind ((iF _ _).bind ?_)))
  dsimp only
  by_cases h1:(vX t 1 0).2=0
  ·refine zF.ifT (by simp[h1]) ((xS _ (mS (iG t 1 0 (xL hs)) (wU _ _))).bind ?_)
   by_cases h2:zI (.mk 5 0 [(vX t 1 0).1,.mk 1 0 []])=true
   ·refine zF.ifT h2 ?_
    by_cases he:e=0
    ·exact zF.ifT (by simp[he]) (zF.ret.eq (by simp[h1,h2,he]))
    ·exact zF.ifF (by simp[he]) (zF.ret.eq (by simp[he]))
   ·refine zF.ifF (by simpa using h2) ?_
    by_cases he:e=0
    ·exact zF.ifT (by simp[he]) (zF.ret.eq (by simp[h1,h2,he]))
    ·exact zF.ifF (by simp[he]) (zF.ret.eq (by simp[he]))
  ·refine zF.ifF (by simp[h1]) ?_
   by_cases he:e=0
   ·exact zF.ifT (by simp[he]) (zF.ret.eq (by simp[h1,he]))
   ·exact zF.ifF (by simp[he]) (zF.ret.eq (by simp[he]))
def H9(l:List yE)(t:Tm):Int×List Tm×Bool:=if xU l t then((zX t).n,yX t,true)else(0,[],false)
theorem zUG(l:List yE)(t:Tm)(hs:zI t=true):zF (fun q=>zNE q (uU l) t) (zBv l t):=by
 simp only[zNE]
 refine(xS t (xL hs)).bind (zF.ifT hs (((gP t (xL hs)).eq (by unfold iE;rw[if_pos hs])).bind ((zBu l t hs).bind zF.ret)))
theorem gX{N:ByteArray->Bool}(l:List yE)(hE:vP N l)(t:Tm)(hs:zI t=true)(L U e:Int):zF (fun q=>zDU q (uU l) l L U e t) (H9 l t):=by
 simp only[zDU]
 refine(zUG l t hs).bind ?_
 by_cases h:vZ l t
 ·have hcs:=tZ hs h
  obtain⟨A,z,a1,-,-,a4,a5,a6,a7,f0,f1,-⟩:=sI hE hcs.1 hcs.2.1 hcs.2.2.1
  have c:zBv l t=((zX t).n,yX t,true):=if_pos h
  rw[c]
  refine zF.ifT rfl (zF.pure (yH hcs.1 hcs.2.1) (zF.pure (yH f0 (show (zJ l (zX t).n).fam<_ by omega)) ?_))
  by_cases h2:wB l (zX t).n=[]
  ·have r:H9 l t=(0,[],false):=if_neg (fun h=>h.2 h2)
   rw[r]
   have h3:(zJ l (zJ l (zX t).n).fam).fields=[]:=h2
   exact zF.ifT (by rw[h3];rfl) zF.ret
  ·have r:H9 l t=((zX t).n,yX t,true):=if_pos ⟨h,h2⟩
   rw[r]
   have h3:(zJ l (zJ l (zX t).n).fam).fields≠[]:=h2
   have:=List.length_pos_iff.2 h3
   exact zF.ifF (by simp;omega) zF.ret
 ·have c:zBv l t=(0,[],false):=if_neg h
  have r:H9 l t=(0,[],false):=if_neg (fun h'=>h h'.1)
  rw[c,r]
  exact zF.ifF rfl zF.ret
theorem lL{N:ByteArray->Bool}{l:List yE}{c:Int}(hE:vP N l)(h0:0≤c)(h1:c<l.length)(hk:(zJ l c).kind=2)(hf:wB l c≠[]) :
  (wK (zJ l c).type:Int)=(zJ l c).pars+(wB l c).length∧0≤(zJ l c).pars∧0≤(zJ l c).fam∧(zJ l c).fam<l.length∧∀n∈wB l c,mN l n 4=true:=by
 obtain⟨A,z,a1,-,-,a4,a5,a6,a7,f0,f1,fk,fp,fi,fs,-,q0,q1⟩:=sI hE h0 h1 hk
 have hft:=(yZ (hE.2 _ f0 (by omega))).2.1 fk
 have hcn:=(yZ (hE.2 c h0 h1)).2.2.1 hk
 unfold sU at hft
 simp only[Bool.and_eq_true,Bool.or_eq_true,decide_eq_true_eq]at hft
 have hne:(zJ l (zJ l c).fam).fields.length≠0:=fun h=>hf (List.length_eq_zero_iff.1 h)
 have hD:=hft.2.resolve_left hne
 have hC:=hft.1.2
 unfold zFF at hD
 unfold fK at hC
 simp only[Bool.and_eq_true,beq_iff_eq,decide_eq_true_eq]at hD hC
 obtain⟨⟨⟨⟨⟨d1,d2⟩,d3⟩,d4⟩,d5⟩,d6⟩:=hD
 unfold iI uX zFH at hcn
 simp only[Bool.and_eq_true,decide_eq_true_eq,beq_iff_eq]at hcn
 have hown:fL l (zJ l c)=(zJ l (zJ l c).fam).cons:=by unfold fL;rw[if_neg (by omega)]
 have hpl:=hcn.1.2
 rw[hown]at hpl
 obtain⟨w,hw⟩:∃w,(zJ l (zJ l c).fam).cons=[w]:=by
  rcases hc:(zJ l (zJ l c).fam).cons with _|⟨w,_|⟨v,r⟩⟩<;>rw[hc]at d2<;>simp at d2
  exact⟨w,rfl⟩
 rw[hw]at hC hpl
 have hwc:w=c:=by
  have h3:=hpl.2
  have h4:(zJ l c).place.toNat=0:=by have:=hpl.1.2;simp at this;omega
  rw[h4]at h3
  simpa using h3
 have hrun:=hC.1.2
 rw[mO]at hrun
 simp only[Bool.and_eq_true,beq_iff_eq]at hrun
 have hc1:c=(zJ l c).fam+1:=by omega
 rw[←hc1,a1]at d6
 refine⟨?_,a6,f0,by omega,?_⟩
 ·rw[←a4,fp];exact d6
 ·have key:∀(r:List Int) (k:Int),qY l (zJ l c).fam 4 r k=true->∀n∈r,mN l n 4=true:=by
   intro r
   induction r with
   |nil=>intro k _ n hn;cases hn
   |cons a r ih=>
    intro k h n hn
    rw[qY]at h
    simp only[Bool.and_eq_true]at h
    rcases List.mem_cons.1 hn with rfl|hn
    ·exact h.1.1.1
    ·exact ih _ h.2 n hn
  exact key _ 0 d4
theorem zQP{l:List yE}{c:Int}{i:Nat}(h:i<(wB l c).length):zP (zJ l (zJ l c).fam).fields (i:Int)=some (((wB l c)[i]?).getD (-1)):=by
 unfold zP
 rw[if_pos (by omega),show (i:Int).toNat=i by omega]
 show (wB l c)[i]? = _
 rw[List.getElem?_eq_getElem h];rfl
theorem zDX(l:List yE)(t:Tm)(c:Int)(i:Nat)(pars:List Tm):(wN l t c i pars).2≠8:=by
 unfold wN
 split
 ·simp
 ·dsimp only;split<;>simp
theorem zDY{l:List yE}{t:Tm}(hs:zI t=true){c:Int}{i:Nat}{pars:List Tm}(hp:uJ pars):(wN l t c i pars).1.Ok:=by
 unfold wN
 split
 ·exact zBx (Q:=Tm.Ok) (fun a ha=>xL (xT hs ha)) zHe
 ·exact mS (rM _ _ (wU _ _) hp) (xL hs)
theorem zIu{N:ByteArray->Bool}(l:List yE)(hE:vP N l)(t:Tm)(hs:zI t=true)(L U e c:Int)(i:Nat)(pars:List Tm)(h0:0≤c)(h1:c<l.length)(hk:(zJ l c).kind=2)(hi:i<(wB l c).length)(hp:(pars.length:Int)=(zJ l c).pars)(hop:uJ pars) :
  zF (fun q=>zKo q (uU l) l L U e t c (i:Int) pars) ((wN l t c i pars).1,if e=0 then(wN l t c i pars).2 else e):=by
 have hf:wB l c≠[]:=fun h=>by rw[h]at hi;simp at hi
 obtain⟨r1,r2,r3,r4,-⟩:=lL hE h0 h1 hk hf
 have hpl:(zJ l c).pars≤24∧wK (zJ l c).type≤24:=by
  obtain⟨A,z,a1,-,-,a4,a5,a6,a7,-⟩:=sI hE h0 h1 hk
  omega
 have tail:zF (fun q=>zP l c>>=fun x7=>zP l x7.fam>>=fun x9=>zP x9.fields (i:Int)>>=fun x11=>e22 q x11>>=fun r13=>e21 q r13 pars>>=fun r15=>e23 q r15 t>>=fun r17=>if (e==0)=true then fV q r17>>=fun r20=>if r20=true then some (r17,e)else some (r17,2)else some (r17,e))
   (.mk 5 0 [uI (.mk 6 (((wB l c)[i]?).getD (-1)) []) pars,t],if e=0 then(if zI (.mk 5 0 [uI (.mk 6 (((wB l c)[i]?).getD (-1)) []) pars,t])=true then 0 else 2)else e):=by
  refine zF.pure (yH h0 h1) (zF.pure (yH r3 r4) (zF.pure (zQP hi) (zF.bind (a:=.mk 6 (((wB l c)[i]?).getD (-1)) []) (zF.mk fun _=>rfl) ((sQ _ pars (by omega)).bind ((iF _ t).bind ?_)))))
  by_cases he:e=0
  ·refine zF.ifT (by simp[he]) ((xS _ (mS (rM _ _ (wU _ _) hop) (xL hs))).bind ?_)
   by_cases h2:zI (.mk 5 0 [uI (.mk 6 (((wB l c)[i]?).getD (-1)) []) pars,t])=true
   ·exact zF.ifT h2 (zF.ret.eq (by simp[h2,he]))
   ·exact zF.ifF (by simpa using h2) (zF.ret.eq (by simp[h2,he]))
  ·exact zF.ifF (by simp[he]) (zF.ret.eq (by simp[he]))
 simp only[zKo]
 refine(gX l hE t hs L U e).bind ?_
 by_cases h:xU l t
 ·have r:H9 l t=((zX t).n,yX t,true):=if_pos h
  rw[r]
  refine zF.ifT rfl ?_
  by_cases h2:(zX t).n=c
  ·have hpc:wN l t c i pars=(vU (yX t) ((pars.length+i:Nat):Int),0):=if_pos ⟨h,h2⟩
   rw[hpc]
   have hal:(yX t).length=wK (zJ l c).type:=by rw[←h2];exact h.1.2
   refine zF.ifT (by simp[h2]) ?_
   rw[zW (x:=(pars.length:Int)+i) (by omega) (by omega),show (pars.length:Int)+(i:Int)=((pars.length+i:Nat):Int) by omega]
   refine zF.pure (uR (by omega) (by show _<((yX t).length:Int);omega)) (zF.ret.eq ?_)
   by_cases he:e=0
   ·simp[he]
   ·simp[he]
  ·have hpc:wN l t c i pars=(.mk 5 0 [uI (.mk 6 (((wB l c)[i]?).getD (-1)) []) pars,t],if zI (.mk 5 0 [uI (.mk 6 (((wB l c)[i]?).getD (-1)) []) pars,t])=true then 0 else 2):=if_neg (fun h'=>h2 h'.2)
   rw[hpc]
   exact zF.ifF (by simpa using h2) tail
 ·have r:H9 l t=(0,[],false):=if_neg h
  have hpc:wN l t c i pars=(.mk 5 0 [uI (.mk 6 (((wB l c)[i]?).getD (-1)) []) pars,t],if zI (.mk 5 0 [uI (.mk 6 (((wB l c)[i]?).getD (-1)) []) pars,t])=true then 0 else 2):=if_neg (fun h'=>h h'.1)
  rw[r,hpc]
  exact zF.ifF rfl tail
def er6(r:Tm×Tm×Bool×Int×Int×Int):Int:=if r.2.2.1=true then 9 else r.2.2.2.1
theorem zYQ{r:Tm×Tm×Bool×Int×Int×Int}(h:er6 r=8):r.2.2.1=false∧r.2.2.2.1=8:=by
 unfold er6 at h
 split at h
 ·omega
 ·rename_i h1;exact⟨by simpa using h1,h⟩
def QP(l:List yE)(x y:Tm)(R:Int->Int->Tm×Tm×Bool×Int×Int×Int)(k:Int):Prop:=
 (∃x' k1 y' k2,xZ l x∧xZ l y∧Br l x x' 0 k1∧Br l y y' 0 k2∧k=k1+k2∧R=fun L U=>(x',y',true,0,L,U)) ∨
 (∃a b e,e≠0∧e≠8∧(∀m b k,¬Cv l m x y b k)∧R=fun L U=>(a,b,false,e,L,U))
theorem U0{N:ByteArray->Bool}(l:List yE)(hE:vP N l)(he:∀e∈l,iH e)(x:Tm)(ho:x.Ok)(f:Int)(hf:0≤f):Ou (fun L U q=>zKp q (uU l) l L U 0 x) er4 (QBR l x) (xZ l x∧∀y e k,Br l x y e k->f<k) f:=by
 simp only[zKp]
 refine Ou.bind (m1 l hE he x ho f hf) id (fun r hr=>⟨_,zF.ifT rfl zF.ret,hr⟩) ?_
 rintro R k k0 k1 hQ
 have hQ':=hQ
 rcases hQ with⟨hR,rfl,rfl⟩|⟨hR,y,e,hbr,rfl⟩
 ·exact Ou.ifT rfl (Ou.ret (by omega) (by rw[Int.add_zero];exact hQ'))
 ·exact Ou.ifT rfl (Ou.ret (by omega) (by rw[Int.add_zero];exact hQ'))
theorem zNG{N:ByteArray->Bool}(l:List yE)(hE:vP N l)(he:∀e∈l,iH e)(x y:Tm)(hx:x.Ok)(hy:y.Ok)(f:Int)(hf:0≤f):Ou (fun L U q=>zGw q (uU l) l L U 0 x y) er6 (QP l x y) (∀m b k,Cv l m x y b k->f<k) f:=by
 simp only[zGw]
 refine Ou.ifF rfl (Ou.bind (U0 l hE he x hx f hf) (fun h m b k hc=>?_) (fun r hr=>?_) ?_)
 ·obtain⟨-,-,x',k1,y',k2,k3,h1,h2,h3,rfl⟩:=hc.inv
  have:=h.2 _ _ _ h1
  have:=h2.nn
  have:=h3.nn (fun _ _ _ _ _ h=>Cv.nn h)
  omega
 ·refine⟨_,zF.ifT (by show (r.2.1 != 0)=true;rw[show r.2.1=8 from hr];decide) zF.ret,?_⟩
  unfold er6
  rw[if_neg (by simp)];exact hr
 ·rintro R k k0 k1 (⟨hR,rfl,rfl⟩|⟨hR,x',e,hbr,rfl⟩)
  ·exact Ou.ifT rfl (Ou.ret (by omega) (.inr ⟨_,_,5,by decide,by decide,fun m b k hc=>hR hc.inv.1,rfl⟩))
  ·dsimp only
   by_cases e0:e=0
   ·subst e0
    rw[if_pos rfl]
    refine Ou.ifF rfl (Ou.bind (U0 l hE he y hy (f-k) (by omega)) (fun h m b k' hc=>?_) (fun r hr=>⟨_,zF.ret,?_⟩) ?_)
    ·obtain⟨-,-,x1,k1,y',k2,k3,h1,h2,h3,rfl⟩:=hc.inv
     obtain⟨-,-,rfl⟩:=hbr.det h1
     have:=h.2 _ _ _ h2
     have:=h3.nn (fun _ _ _ _ _ h=>Cv.nn h)
     omega
    ·have hr':r.2.1=8:=hr
     unfold er6
     dsimp only
     rw[hr',if_neg (by decide)]
    ·rintro R n n0 n1 (⟨hR2,rfl,rfl⟩|⟨hR2,y',e,hbr2,rfl⟩)
     ·exact Ou.ret (by omega) (.inr ⟨x',zT,5,by decide,by decide,fun m b k hc=>hR2 hc.inv.2.1,rfl⟩)
     ·by_cases e1:e=0
      ·subst e1
       exact Ou.ret (by omega) (.inl ⟨x',k,y',n,hR,hR2,hbr,hbr2,by omega,by funext L U;simp⟩)
      ·refine Ou.ret (by omega) (.inr ⟨x',zT,e,e1,hbr2.e8 hE hR2.shaped,fun m b k' hc=>?_,by simp[e1,show (e==0)=false by simpa using e1]⟩)
       obtain⟨-,-,x1,k1,y1,k2,k3,h1,h2,h3,-⟩:=hc.inv
       exact e1 (hbr2.det h2).2.1.symm
   ·rw[if_neg e0]
    refine Ou.ifT (by simpa using e0) (Ou.ret (by omega) (.inr ⟨zT,y,e,e0,hbr.e8 hE hR.shaped,fun m b k' hc=>?_,rfl⟩))
    obtain⟨-,-,x1,k1,y1,k2,k3,h1,-⟩:=hc.inv
    exact e0 (hbr.det h1).2.1.symm
def BC(l:List yE)(f:Int)(W:Nat):Prop:=∀m p q,p.Ok->q.Ok->sK l p+sK l q<W->∀g,0≤g->g≤f->m=false->HC l m p q g
theorem BC.le{l:List yE}{f g:Int}{W:Nat}(h:BC l f W)(hg:g≤f):BC l g W:=fun m p q a b c d e k=>h m p q a b c d e (by omega)
theorem HX.imp{g g':Int->Int->Nat->Option (Bool×Int×Int×Int)}{X:Bool->Int->Prop}{f:Int}(h:HX g X f)(k:∀L U r,zF (g L U) r->zF (g' L U) r):HX g' X f:=Ou.imp h k
theorem HX.same{g:Int->Int->Nat->Option (Bool×Int×Int×Int)}{X:Bool->Int->Prop}{f:Int}(h:HX g X f):HX (fun L U q=>g L U q>>=fun r=>some (r.1,r.2.1,r.2.2.1,r.2.2.2)) X f:=h.imp fun L U r h=>h.bind zF.ret
theorem zIt(l:List yE)(x y:Tm×List Tm)(W:Nat)(hl:x.2.length≤8192)(hxy:y.2.length=x.2.length)(hox:uJ x.2)(hoy:uJ y.2)(hw:∀a∈x.2,∀b∈y.2,sK l a+sK l b<W):∀(r s:List Tm) (v:Nat) (f:Int),x.2.drop v=r->y.2.drop v=s->0≤f->BC l f W ->
  HX (fun L U q=>wE q l l (kM l l.length 0) (l.map wJ) (l.map rX) l x y (v:Int) 0 L U) (wO (Cv l false) (fM r s)) f
 | [],s,v,f,hd,hs,hf,hB=>by
  refine Ou.succ ?_
  simp only[wE]
  have e:fM [] s=[]:=by cases s<;>rfl
  rw[e]
  exact Ou.ifF (yO hd) (zIx hf)
 |a::r,[],v,f,hd,hs,hf,hB=>by
  have hlt:=yT hd
  have:y.2.length≤v:=List.drop_eq_nil_iff.1 hs
  omega
 |a::r,b::s,v,f,hd,hs,hf,hB=>by
  have hlt:=yT hd
  have hma:a∈x.2:=by
   have:a∈x.2.drop v:=by rw[hd];simp
   exact List.mem_of_mem_drop this
  have hmb:b∈y.2:=by
   have:b∈y.2.drop v:=by rw[hs];simp
   exact List.mem_of_mem_drop this
  refine Ou.succ ?_
  simp only[wE]
  refine Ou.ifT (yL hd) (Ou.pure (yC hd) (Ou.pure (yC hs) ?_))
  rw[yB v (by omega)]
  exact aF (c:=fun e L U q=>wE q l l (kM l l.length 0) (l.map wJ) (l.map rX) l x y ((v+1:Nat):Int) e L U) (D5 (hB false a b (hox a hma) (hoy b hmb) (hw a hma b hmb) f hf (Int.le_refl f) rfl))
   fun k k0 k1=>zIt l x y W hl hxy hox hoy hw r s (v+1) (f-k) (zV hd) (zV hs) (by omega) (hB.le (by omega))
theorem kW{l:List yE}{m b:Bool}{f:Int}(hf:0≤f):HX (fun L U _=>some (b,0,L,U)) (H8 (Cv l) m (.ans b)) f:=Ou.ret hf (j4 ⟨rfl,rfl⟩)
theorem zGt(l:List yE)(m:Bool)(x y:Tm)(hsx:zI x=true)(hsy:zI y=true)(f:Int)(hf:0≤f)(hB:BC l f (sK l x+sK l y)):HX (fun L U q=>iN q l l (kM l l.length 0) (l.map wJ) (l.map rX) l L U 0 x y) (H8 (Cv l) m (pQ x y)) f:=by
 have hgx:=(zM hsx).2.2
 have hgy:=(zM hsy).2.2
 have hgh:=(zM (uP hsx)).2.2
 have hgk:=(zM (uP hsy)).2.2
 have hox:uJ (yX x):=fun a ha=>xL (xT hsx ha)
 have hoy:uJ (yX y):=fun a ha=>xL (xT hsy ha)
 have hlx:(yX x).length≤8192:=by
  have h:=zM hsx
  have:=sX _ h.2.2
  omega
 have hwx:=T3 l x hgx
 have hwy:=T3 l y hgy
 have hph:=zBm l (zX x)
 have hpk:=zBm l (zX y)
 have hw:∀a∈yX x,∀b∈yX y,sK l a+sK l b<sK l x+sK l y:=fun a ha b hb=>by
  have:=zBl l ha
  have:=zBl l hb
  omega
 refine Ou.succ ?_
 simp only[iN]
 refine Ou.evt (lI x hsx) (Ou.evt (lI y hsy) ?_)
 dsimp only
 by_cases c1:(zX x).k=(zX y).k
 ·refine Ou.ifF (by simp[c1]) ?_
  by_cases c2:(zX x).n=(zX y).n
  ·refine Ou.ifF (by simp[c2]) ?_
   by_cases c3:(yX x).length=(yX y).length
   ·refine Ou.ifF (by simp[c3]) ?_
    have loop:∀g,0≤g->g≤f->HX (fun L U q=>wE q l l (kM l l.length 0) (l.map wJ) (l.map rX) l (zX x,yX x) (zX y,yX y) 0 0 L U) (wO (Cv l false) (fM (yX x) (yX y))) g:=fun g g0 g1=>zIt l (zX x,yX x) (zX y,yX y) _ hlx c3.symm hox hoy hw (yX x) (yX y) 0 g rfl rfl g0 (hB.le g1)
    by_cases c4:(zX x).k=7
    ·obtain⟨s,hs⟩:∃s,(zX x).sub=[s]:=by
      revert hgh c4
      generalize zX x=w
      intro hg h7
      obtain⟨kk,nn,ss⟩:=w
      obtain⟨s,hs,-⟩:=(uO (wW hg).1).2.2.2.2.2.2.1 h7
      exact⟨s,hs⟩
     obtain⟨s',hs'⟩:∃s,(zX y).sub=[s]:=by
      have c4':(zX y).k=7:=by omega
      revert hgk c4'
      generalize zX y=w
      intro hg h7
      obtain⟨kk,nn,ss⟩:=w
      obtain⟨s,hs,-⟩:=(uO (wW hg).1).2.2.2.2.2.2.1 h7
      exact⟨s,hs⟩
     refine Ou.ifT (by simp[c4]) (Ou.pure (uR (by omega) (by rw[hs];simp)) (Ou.pure (uR (by omega) (by rw[hs'];simp)) ?_))
     by_cases c5:(vU (zX x).sub 0).n=(vU (zX y).sub 0).n
     ·refine Ou.ifF (by simp[c5]) (Ou.ifF (by simp[c4]) ?_)
      have e:pQ x y = .all (fM (yX x) (yX y)):=by
       unfold pQ zDT
       rw[if_neg (by omega),if_neg (by omega),List.nil_append]
      rw[e]
      exact loop f hf (Int.le_refl f)
     ·refine Ou.ifT (by simpa using c5) ?_
      have e:pQ x y = .ans false:=by unfold pQ;rw[if_pos (.inr (.inr (.inr ⟨c4,c5⟩)))]
      rw[e];exact kW hf
    ·refine Ou.ifF (by simpa using c4) ?_
     by_cases c5:(zX x).k=3
     ·have c5':(zX y).k=3:=by omega
      obtain⟨a,b,hab,hga,hgb⟩:=sA hgh (.inl c5)
      obtain⟨a',b',hab',hga',hgb'⟩:=sA hgk (.inl c5')
      have ea:vU (zX x).sub 0=a:=by rw[hab];rfl
      have eb:vU (zX x).sub 1=b:=by rw[hab];rfl
      have ea':vU (zX y).sub 0=a':=by rw[hab'];rfl
      have eb':vU (zX y).sub 1=b':=by rw[hab'];rfl
      have e:pQ x y = .all (((a,0),(a',0))::((b,0),(b',0))::fM (yX x) (yX y)):=by
       unfold pQ zDT
       rw[if_neg (by omega),if_pos c5,ea,eb,ea',eb'];rfl
      have w1:=D2 l (zX x)
      have w2:=D2 l (zX y)
      rw[hab,rU,rU,rU]at w1
      rw[hab',rU,rU,rU]at w2
      have v1:=(D1 l (zX x).k (zX x).n).1
      have v2:=(D1 l (zX y).k (zX y).n).1
      rw[e]
      refine Ou.ifT (by simp[c5]) (Ou.pure (a:=a) (by rw[hab];rfl) (Ou.pure (a:=a') (by rw[hab'];rfl) ?_))
      refine aF (c:=fun e L U q=>zP (zX x).sub 1>>=fun x33=>zP (zX y).sub 1>>=fun x35=>vJ q l l (kM l l.length 0) (l.map wJ) (l.map rX) l L U e x33 x35>>=fun r37=>if r37.1=true then wE q l l (kM l l.length 0) (l.map wJ) (l.map rX) l (zX x,yX x) (zX y,yX y) 0 r37.2.1 r37.2.2.1 r37.2.2.2 else some (false,r37.2.1,r37.2.2.1,r37.2.2.2)) (D5 (hB false a a' (sS a hga) (sS a' hga') (by omega) f hf (Int.le_refl f) rfl)) fun k k0 k1=>?_
      refine Ou.pure (a:=b) (by rw[hab];rfl) (Ou.pure (a:=b') (by rw[hab'];rfl) ?_)
      exact aF (c:=fun e L U q=>wE q l l (kM l l.length 0) (l.map wJ) (l.map rX) l (zX x,yX x) (zX y,yX y) 0 e L U) (D5 (hB false b b' (sS b hgb) (sS b' hgb') (by omega) (f-k) (by omega) (by omega) rfl)) fun k' k0' k1'=>loop (f-k-k') (by omega) (by omega)
     ·refine Ou.ifF (by simpa using c5) ?_
      have e:pQ x y = .all (fM (yX x) (yX y)):=by
       unfold pQ zDT
       rw[if_neg (by omega),if_neg c5,List.nil_append]
      rw[e]
      exact loop f hf (Int.le_refl f)
   ·refine Ou.ifT (by simp;omega) ?_
    have e:pQ x y = .ans false:=by unfold pQ;rw[if_pos (.inr (.inr (.inl c3)))]
    rw[e];exact kW hf
  ·refine Ou.ifT (by simpa using c2) ?_
   have e:pQ x y = .ans false:=by unfold pQ;rw[if_pos (.inr (.inl c2))]
   rw[e];exact kW hf
 ·refine Ou.ifT (by simpa using c1) ?_
  have e:pQ x y = .ans false:=by unfold pQ;rw[if_pos (.inl c1)]
  rw[e];exact kW hf
theorem zDZ{N:ByteArray->Bool}(l:List yE)(hE:vP N l)(x y:Tm)(c:Int)(pars:List Tm)(W:Nat)(hsx:zI x=true)(hsy:zI y=true)(h0:0≤c)(h1:c<l.length)(hk:(zJ l c).kind=2)(hp:(pars.length:Int)=(zJ l c).pars)(hop:uJ pars)
  (hw:∀i,i<(wB l c).length->sK l (wN l x c i pars).1+sK l (wN l y c i pars).1<W):∀(m i:Nat) (f:Int),i+m=(wB l c).length->0≤f->BC l f W ->
  HX (fun L U q=>uF q l l (kM l l.length 0) (l.map wJ) (l.map rX) l x y c pars (zJ l (zJ l c).fam) (i:Int) 0 L U) (wO (Cv l false) (nI l x y c pars m i)) f
 |0,i,f,hm,hf,hB=>by
  refine Ou.succ ?_
  simp only[uF]
  have hm':i=(zJ l (zJ l c).fam).fields.length:=hm
  exact Ou.ifF (decide_eq_false (by omega)) (zIx hf)
 |m+1,i,f,hm,hf,hB=>by
  have hi:i<(wB l c).length:=by omega
  have hne:wB l c≠[]:=fun h=>by rw[h]at hi;simp at hi
  have hlen:(wB l c).length≤24:=by
   have r:=lL hE h0 h1 hk hne
   obtain⟨A,z,a1,-,-,a4,a5,a6,a7,-⟩:=sI hE h0 h1 hk
   omega
  refine Ou.succ ?_
  simp only[uF]
  refine Ou.ifT (decide_eq_true (by show (i:Int)<((wB l c).length:Int);omega)) ?_
  have e1:=fun L U=>zIu l hE x hsx L U 0 c i pars h0 h1 hk hi hp hop
  have e2:=fun L U=>zIu l hE y hsy L U (wN l x c i pars).2 c i pars h0 h1 hk hi hp hop
  refine HX.imp (g:=fun L U q=>zBg l false L U (if (wN l x c i pars).2=0 then(wN l y c i pars).2 else(wN l x c i pars).2) q (wN l x c i pars).1 (wN l y c i pars).1>>=fun r10=>if r10.1=true then uF q l l (kM l l.length 0) (l.map wJ) (l.map rX) l x y c pars (zJ l (zJ l c).fam) ((i+1:Nat):Int) r10.2.1 r10.2.2.1 r10.2.2.2 else some (false,r10.2.1,r10.2.2.1,r10.2.2.2)) ?_ fun L U r h=>?_
  ·exact aF (c:=fun e L U q=>uF q l l (kM l l.length 0) (l.map wJ) (l.map rX) l x y c pars (zJ l (zJ l c).fam) ((i+1:Nat):Int) e L U)
    (zIy (p:=wN l x c i pars) (q:=wN l y c i pars) hf ⟨zDX _ _ _ _ _,zDX _ _ _ _ _⟩ fun _ _=>hB false _ _ (zDY hsx hop) (zDY hsy hop) (hw i hi) f hf (Int.le_refl f) rfl)
    fun k k0 k1=>zDZ l hE x y c pars W hsx hsy h0 h1 hk hp hop hw m (i+1) (f-k) (by omega) (by omega) (hB.le (by omega))
  ·have a1:=e1 L U
   rw[if_pos rfl]at a1
   rw[yB i (by omega)]
   exact a1.bind ((e2 L U).bind h)
theorem zUH{l:List yE}{m:Bool}{a a' c1 c1':Tm}{f:Int}{g:Int->Int->Nat->Option (Bool×Int×Int×Int)}{c:Int->Int->Int->Nat->Option (Bool×Int×Int×Int)}
  (h1:HX g (Cv l false a a') f) (hc:∀k,0≤k->k≤f->HX (fun L U q=>c 0 L U q) (Cv l m c1 c1') (f-k)) :
  HX (fun L U q=>g L U q>>=fun r30=>if r30.1=true then c r30.2.1 r30.2.2.1 r30.2.2.2 q else some (false,r30.2.1,r30.2.2.1,r30.2.2.2)) (H8 (Cv l) m (.pi a a' c1 c1')) f:=by
 refine Ou.bind h1 (fun h b k ha=>?_) (fun r hr=>?_) ?_
 ·obtain⟨b1,k1,a3,a4⟩:=ha
  have:=h b1 k1 a3
  rcases a4 with⟨-,-,a4⟩|⟨-,k2,a4,a5⟩
  ·omega
  ·have:=a4.nn;omega
 ·have:=zBh hr
  refine⟨_,zF.ifF this.1 zF.ret,?_⟩
  unfold zDV
  rw[if_neg (by simp)];exact this.2
 ·rintro R k k0 k1 ⟨b1,e1,h8,h0,hn,rfl⟩
  dsimp only
  by_cases e0:e1=0
  ·subst e0
   have a3:=h0 rfl
   cases b1 with
   |false=>exact Ou.ifF rfl (Ou.ret (by omega) (j4 ⟨false,k,a3,.inl ⟨rfl,rfl,by omega⟩⟩))
   |true=>
    refine Ou.ifT rfl ((hc k k0 k1).mono ?_ fun h b k' ha=>?_)
    ·rintro R n _ _ ⟨b,e,g8,g0,gn,rfl⟩
     refine⟨b,e,g8,fun he=>⟨true,k,a3,.inr ⟨rfl,n,g0 he,rfl⟩⟩,fun he=>⟨(gn he).1,fun b' k' ha=>?_⟩,rfl⟩
     obtain⟨b1,k1,a4,a5⟩:=ha
     obtain⟨rfl,rfl⟩:=a3.det a4
     rcases a5 with⟨a5,-⟩|⟨-,k2,a5,-⟩
     ·cases a5
     ·exact(gn he).2 _ _ a5
    ·obtain⟨b1,k1,a4,a5⟩:=ha
     obtain⟨rfl,rfl⟩:=a3.det a4
     rcases a5 with⟨a5,-⟩|⟨-,k2,a5,a6⟩
     ·cases a5
     ·have:=h _ _ a5;omega
  ·obtain⟨rfl,hno⟩:=hn e0
   refine Ou.ifF rfl (Ou.ret (by omega) (iO h8 e0 fun b k ha=>?_))
   obtain⟨b1,k1,a3,-⟩:=ha
   exact hno b1 k1 a3
theorem zUI(l:List yE){x y:Tm}(hgx:xC x=true)(hgy:xC y=true)(hp:(rG x).2=0)(hq:(rG y).2=0)(h:x.k=4∨y.k=4):sK l (rG x).1+sK l (rG y).1<sK l x+sK l y:=by
 have lam:∀t:Tm,xC t=true->t.k=4->sK l (rG t).1+4≤sK l t:=fun t hg h4=>by
  obtain⟨a,b,hab,-,-⟩:=sA hg (.inr (.inl h4))
  rw[zYN h4,hab]
  have w:=D2 l t
  rw[hab,rU,rU,rU]at w
  have e:S9 l t.k t.n=3:=by unfold S9;rw[if_pos h4]
  have:=zBm l a
  show sK l b+4≤_
  omega
 have oth:∀t:Tm,(rG t).2=0->t.k≠4->sK l (rG t).1≤sK l t+2:=fun t h0 h4=>by
  rw[zYO h4]at h0 ⊢
  have h1:(vX t 1 0).2=0:=by
   by_cases h1:(vX t 1 0).2=0
   ·exact h1
   ·rw[if_neg h1]at h0;exact h0
  rw[(bU h1).2.2.2.2,sK,rU,rU,rU,sK,rU]
  have e1:S9 l 5 0=1:=by unfold S9;simp
  have e2:S9 l 1 0=1:=by unfold S9;simp
  have:=zSK l t 0 0 1
  omega
 by_cases h1:x.k=4
 ·have a:=lam x hgx h1
  by_cases h2:y.k=4
  ·have b:=lam y hgy h2;omega
  ·have b:=oth y hq h2;omega
 ·have a:=oth x hp h1
  have b:=lam y hgy (h.resolve_left h1)
  omega
theorem zUJ{N:ByteArray->Bool}{l:List yE}(hE:vP N l){x y:Tm}(hsx:zI x=true)(hsy:zI y=true){c:Int}{pars:List Tm}(h0:0≤c)(h1:c<l.length)(hk:(zJ l c).kind=2){i:Nat}(hi:i<(wB l c).length)
  (h:(xU l x∧(zX x).n=c∧pars=qI l x∧(xU l y->(zX y).n=c))∨(¬xU l x∧xU l y∧(zX y).n=c∧pars=qI l y)):sK l (wN l x c i pars).1+sK l (wN l y c i pars).1<sK l x+sK l y:=by
 have hne:wB l c≠[]:=fun h=>by rw[h]at hi;simp at hi
 obtain⟨r1,r2,r3,r4,r5⟩:=lL hE h0 h1 hk hne
 have con:∀t:Tm,zI t=true->xU l t->(zX t).n=c->pars.length=(zJ l c).pars.toNat->sK l (wN l t c i pars).1+rU l (qI l t)+(zJ l c).pars.toNat+3≤sK l t:=fun t hs hr hn hl=>by
  have e:wN l t c i pars=(vU (yX t) ((pars.length+i:Nat):Int),0):=if_pos ⟨hr,hn⟩
  rw[e]
  show sK l (vU (yX t) ((pars.length+i:Nat):Int))+rU l (qI l t)+(zJ l c).pars.toNat+3≤sK l t
  have hlen:(yX t).length=wK (zJ l c).type:=by rw[←hn];exact hr.1.2
  have hk6:=(vN hr.1.1 (by decide)).1
  have hw:=T3 l t (zM hs).2.2
  have hh:=D2 l (zX t)
  have e2:S9 l (zX t).k (zX t).n=2:=by unfold S9;rw[if_neg (by omega),if_pos ⟨hk6,by rw[hn];exact hk⟩]
  have hsplit:yX t=(yX t).take (zJ l c).pars.toNat++(yX t).drop (zJ l c).pars.toNat:=(List.take_append_drop _ _).symm
  have hwl:rU l (yX t)=rU l (qI l t)+rU l ((yX t).drop (zJ l c).pars.toNat):=by
   have:qI l t=(yX t).take (zJ l c).pars.toNat:=by unfold qI;rw[hn]
   rw[this,←zBk,List.take_append_drop]
  have hm:vU (yX t) ((pars.length+i:Nat):Int)∈(yX t).drop (zJ l c).pars.toNat:=by
   unfold vU
   have hlt:pars.length+i<(yX t).length:=by omega
   rw[show (((pars.length+i:Nat):Int)).toNat=pars.length+i by omega,List.getElem?_eq_getElem hlt]
   show (yX t)[pars.length+i]∈_
   have:(yX t)[pars.length+i]=((yX t).drop (zJ l c).pars.toNat)[i]'(by simp;omega):=by
    rw[List.getElem_drop]
    congr 1
    omega
   rw[this]
   exact List.getElem_mem _
  have:=zBl l hm
  have:(yX t).length≥(zJ l c).pars.toNat+1:=by omega
  have hnn:0≤rU l (zX t).sub:=Nat.zero_le _
  omega
 have oth:∀t:Tm,¬(xU l t∧(zX t).n=c)->sK l (wN l t c i pars).1=2+rU l pars+pars.length+sK l t:=fun t hr=>by
  have e:wN l t c i pars=(.mk 5 0 [uI (.mk 6 (((wB l c)[i]?).getD (-1)) []) pars,t],if zI (.mk 5 0 [uI (.mk 6 (((wB l c)[i]?).getD (-1)) []) pars,t])=true then 0 else 2):=if_neg hr
  rw[e]
  have hfk:(zJ l (((wB l c)[i]?).getD (-1))).kind=4:=by
   rw[List.getElem?_eq_getElem hi]
   exact(xM (r5 _ (List.getElem_mem hi))).2.2
  have e1:S9 l 5 0=1:=by unfold S9;simp
  have e2:S9 l 6 (((wB l c)[i]?).getD (-1))=1:=by unfold S9;rw[if_neg (by decide),if_neg (by omega)]
  show sK l (.mk 5 0 [uI (.mk 6 (((wB l c)[i]?).getD (-1)) []) pars,t])=_
  rw[sK,rU,rU,rU,zSL,sK,rU,e1,e2]
  omega
 have plen:∀t:Tm,zI t=true->xU l t->(zX t).n=c->(qI l t).length=(zJ l c).pars.toNat:=fun t hs hr hn=>by
  have hlen:(yX t).length=wK (zJ l c).type:=by rw[←hn];exact hr.1.2
  unfold qI
  rw[hn,List.length_take]
  omega
 rcases h with⟨hx,hn,hp,hy⟩|⟨hx,hy,hn,hp⟩
 ·have hl:=plen x hsx hx hn
  rw[←hp]at hl
  have a:=con x hsx hx hn hl
  rw[←hp]at a
  by_cases ry:xU l y
  ·have b:=con y hsy ry (hy ry) hl
   omega
  ·have b:=oth y (fun h=>ry h.1)
   omega
 ·have hl:=plen y hsy hy hn
  rw[←hp]at hl
  have a:=con y hsy hy hn hl
  rw[←hp]at a
  have b:=oth x (fun h=>hx h.1)
  omega
theorem zGs{N:ByteArray->Bool}(l:List yE)(hE:vP N l)(x y:Tm)(hsx:zI x=true)(hsy:zI y=true)(f:Int)(hf:0≤f)(hB:BC l f (sK l x+sK l y)):HX (fun L U q=>zUF l false L U 0 q x y) (H8 (Cv l) false (vC l false x y)) f:=by
 have hgx:=(zM hsx).2.2
 have hgy:=(zM hsy).2.2
 refine Ou.succ ?_
 simp only[zUF,iM]
 have lamC:x.k=4∨y.k=4->HX (fun L U q=>Y4 q (wV.mk l l (kM l l.length 0) (l.map wJ) (l.map rX)) l L U 0 x>>=fun r2=>Y4 q (wV.mk l l (kM l l.length 0) (l.map wJ) (l.map rX)) l L U r2.2 y>>=fun r4=>vJ q l l (kM l l.length 0) (l.map wJ) (l.map rX) l L U r4.2 r2.1 r4.1>>=fun r6=>some (r6.1,r6.2.1,r6.2.2.1,r6.2.2.2)) (H8 (Cv l) false (vC l false x y)) f:=fun h=>by
  have e:vC l false x y = .all [(rG x,rG y)]:=if_pos h
  rw[e]
  refine HX.imp (g:=fun L U q=>zBg l false L U (if (rG x).2=0 then(rG y).2 else(rG x).2) q (rG x).1 (rG y).1>>=fun r6=>some (r6.1,r6.2.1,r6.2.2.1,r6.2.2.2)) ?_ fun L U r h=>?_
  ·refine HX.same (zIy (p:=rG x) (q:=rG y) hf ⟨zIw x,zIw y⟩ fun hp hq=>hB false _ _ (zIv hsx) (zIv hsy) ?_ f hf (Int.le_refl f) rfl)
   exact zUI l hgx hgy hp hq h
  ·have a1:=j5 (uU l) l x hsx L U 0
   have a2:=j5 (uU l) l y hsy L U (rG x).2
   rw[if_pos rfl]at a1
   exact a1.bind (a2.bind h)
 refine Ou.ite (fun h=>lamC (.inl (by simpa using h))) fun h4=>Ou.ite (fun h=>lamC (.inr (by simpa using h))) fun h4'=>?_
 have n4:¬(x.k=4∨y.k=4):=by
  have a:x.k≠4:=by simpa using h4
  have b:y.k≠4:=by simpa using h4'
  omega
 have flds:∀(c:Int) (pars:List Tm),(xU l x∧(zX x).n=c∧pars=qI l x∧(xU l y->(zX y).n=c))∨(¬xU l x∧xU l y∧(zX y).n=c∧pars=qI l y)->∀cs:List Tm,nE cs 0 (zJ l c).pars=some pars ->
   HX (fun L U q=>zP l c>>=fun x22=>nE cs 0 x22.pars>>=fun x24=>nB q l l (kM l l.length 0) (l.map wJ) (l.map rX) l L U 0 x y c x24>>=fun r26=>some (r26.1,r26.2.1,r26.2.2.1,r26.2.2.2)) (wO (Cv l false) (nI l x y c pars (wB l c).length 0)) f:=fun c pars h cs hcs=>by
  have hc:∃t,(t=x∨t=y)∧zI t=true∧xU l t∧(zX t).n=c∧pars=qI l t:=by
   rcases h with h|h
   ·exact⟨x,.inl rfl,hsx,h.1,h.2.1,h.2.2.1⟩
   ·exact⟨y,.inr rfl,hsy,h.2.1,h.2.2.1,h.2.2.2⟩
  obtain⟨t,-,hst,hrt,hnt,hpt⟩:=hc
  have hcs':=tZ hst hrt.1
  rw[hnt]at hcs'
  have hf0:=hrt.2
  rw[hnt]at hf0
  have rf:=lL hE hcs'.1 hcs'.2.1 hcs'.2.2.1 hf0
  have hop:uJ pars:=by rw[hpt];exact uJ.take (fun a ha=>xL (xT hst ha)) _
  have hpl:(pars.length:Int)=(zJ l c).pars:=by
   rw[hpt];unfold qI
   rw[hnt,List.length_take]
   omega
  refine Ou.pure (yH hcs'.1 hcs'.2.1) (Ou.pure hcs (HX.same (Ou.succ ?_)))
  simp only[nB]
  refine Ou.pure (yH hcs'.1 hcs'.2.1) (Ou.pure (yH rf.2.2.1 rf.2.2.2.1) ?_)
  exact zDZ l hE x y c pars _ hsx hsy hcs'.1 hcs'.2.1 hcs'.2.2.1 hpl hop (fun i hi=>zUJ hE hsx hsy hcs'.1 hcs'.2.1 hcs'.2.2.1 hi h) (wB l c).length 0 f (by omega) hf hB
 have par_sl:∀t,zI t=true->xU l t->nE (yX t) 0 (zJ l (zX t).n).pars=some (qI l t):=fun t hst hrt=>by
  have hcs':=tZ hst hrt.1
  have rf:=lL hE hcs'.1 hcs'.2.1 hcs'.2.2.1 hrt.2
  rw[J5 (by omega) rf.2.1 (by omega)]
  unfold qI;simp
 refine Ou.evt (gX l hE x hsx 0 0 0) ?_
 by_cases rx:xU l x
 ·have ex:H9 l x=((zX x).n,yX x,true):=if_pos rx
  rw[ex]
  refine Ou.ifT rfl (Ou.evt (gX l hE y hsy 0 0 0) ?_)
  by_cases ry:xU l y
  ·have ey:H9 l y=((zX y).n,yX y,true):=if_pos ry
   rw[ey]
   refine Ou.ifT rfl ?_
   by_cases hn:(zX x).n=(zX y).n
   ·have e:vC l false x y = .all (nI l x y (zX x).n (qI l x) (wB l (zX x).n).length 0):=by
     unfold vC;rw[if_neg n4,if_pos rx,if_neg (fun h=>h.2 hn)]
    rw[e]
    exact Ou.ifF (by simp[hn]) (flds _ _ (.inl ⟨rx,rfl,rfl,fun _=>hn.symm⟩) (yX x) (par_sl x hsx rx))
   ·have e:vC l false x y = .ans false:=by
     unfold vC;rw[if_neg n4,if_pos rx,if_pos ⟨ry,hn⟩]
    rw[e]
    exact Ou.ifT (by simpa using hn) (kW hf)
  ·have ey:H9 l y=(0,[],false):=if_neg ry
   have e:vC l false x y = .all (nI l x y (zX x).n (qI l x) (wB l (zX x).n).length 0):=by
    unfold vC;rw[if_neg n4,if_pos rx,if_neg (fun h=>ry h.1)]
   rw[ey,e]
   exact Ou.ifF rfl (flds _ _ (.inl ⟨rx,rfl,rfl,fun h=>absurd h ry⟩) (yX x) (par_sl x hsx rx))
 ·have ex:H9 l x=(0,[],false):=if_neg rx
  rw[ex]
  refine Ou.ifF rfl (Ou.evt (gX l hE y hsy 0 0 0) ?_)
  by_cases ry:xU l y
  ·have ey:H9 l y=((zX y).n,yX y,true):=if_pos ry
   have e:vC l false x y = .all (nI l x y (zX y).n (qI l y) (wB l (zX y).n).length 0):=by
    unfold vC;rw[if_neg n4,if_neg rx,if_pos ry]
   rw[ey,e]
   exact Ou.ifT rfl (flds _ _ (.inr ⟨rx,ry,rfl,rfl⟩) (yX y) (par_sl y hsy ry))
  ·have ey:H9 l y=(0,[],false):=if_neg ry
   rw[ey]
   refine Ou.ifF rfl ?_
   by_cases hk:x.k=y.k
   ·refine Ou.ifF (by simp[hk]) ?_
    by_cases k3:x.k=3
    ·have e:vC l false x y = .pi (vU x.sub 0) (vU y.sub 0) (vU x.sub 1) (vU y.sub 1):=by
      unfold vC;rw[if_neg n4,if_neg rx,if_neg ry,if_neg (by simpa using hk),if_pos k3]
     obtain⟨a,b,hab,hga,hgb⟩:=sA hgx (.inl k3)
     obtain⟨a',b',hab',hga',hgb'⟩:=sA hgy (.inl (by omega))
     have ea:vU x.sub 0=a:=by rw[hab];rfl
     have eb:vU x.sub 1=b:=by rw[hab];rfl
     have ea':vU y.sub 0=a':=by rw[hab'];rfl
     have eb':vU y.sub 1=b':=by rw[hab'];rfl
     have w1:=D2 l x
     have w2:=D2 l y
     rw[hab,rU,rU,rU]at w1
     rw[hab',rU,rU,rU]at w2
     have v1:=(D1 l x.k x.n).1
     have v2:=(D1 l y.k y.n).1
     rw[e,ea,eb,ea',eb']
     refine Ou.ifT (by simp[k3]) (Ou.pure (a:=a) (by rw[hab];rfl) (Ou.pure (a:=a') (by rw[hab'];rfl) ?_))
     refine zUH (c:=fun e L U q=>zP x.sub 1>>=fun x52=>zP y.sub 1>>=fun x54=>vJ q l l (kM l l.length 0) (l.map wJ) (l.map rX) l L U e x52 x54>>=fun r56=>some (r56.1,r56.2.1,r56.2.2.1,r56.2.2.2)) (hB false a a' (sS a hga) (sS a' hga') (by omega) f hf (Int.le_refl f) rfl) fun k k0 k1=>?_
     exact Ou.pure (a:=b) (by rw[hab];rfl) (Ou.pure (a:=b') (by rw[hab'];rfl) (HX.same (hB false b b' (sS b hgb) (sS b' hgb') (by omega) (f-k) (by omega) (by omega) rfl)))
    ·refine Ou.ifF (by simpa using k3) ?_
     by_cases k2:x.k=2
     ·have e:vC l false x y = .ans (if false=true then decide (x.n≤y.n)else x.n==y.n):=by
       unfold vC;rw[if_neg n4,if_neg rx,if_neg ry,if_neg (by simpa using hk),if_neg k3,if_pos k2]
      rw[e]
      refine Ou.ifT (by simp[k2]) (Ou.evt (a:=if false=true then decide (x.n≤y.n)else x.n==y.n) (zF.mk fun q=>?_) (kW hf))
      simp[zQN]
     ·have e:vC l false x y=pQ x y:=by
       unfold vC;rw[if_neg n4,if_neg rx,if_neg ry,if_neg (by simpa using hk),if_neg k3,if_neg k2]
      rw[e]
      exact Ou.ifF (by simpa using k2) (HX.same (zGt l false x y hsx hsy f hf hB))
   ·have e:vC l false x y = .ans false:=by
     unfold vC;rw[if_neg n4,if_neg rx,if_neg ry,if_pos hk]
    rw[e]
    exact Ou.ifT (by simpa using hk) (kW hf)
def zKl(a:Nat)(M:wV):Option Int:=
 some (M.l.length:Int)
theorem zUK{a M r}(h:zKl a M=some r):Ct 108 [mB M 1,mR M] [.mp 0 0] (ai r) [mB M 1,mR M] 0:=⟨by
 unfold zKl at h
 cases h
 exact tF ⟨func108,rfl⟩ 3 [0,1] (oD (dC M.parts)<|oD (dE M.rl)<|oD (dI M.own)<|oD (dI M.args)<|oD (dE M.l) o0),⟨(lz rfl),tv⟩,(bA (lz rfl) zA),tv,(cE (lz rfl) zA)⟩
def zKk(a:Nat)(M:wV):Option zY:=
 e61 a M.l>>=fun r1=>
 some r1
theorem zYR{a M r}(h:zKk a M=some r):Ct 109 [mB M 1,mR M] [.mp 0 0] (.sl (zG yA r) r.length .no) [mB M 1,mR M] 0:=⟨by
 unfold zKk at h
 obtain⟨r1,h2,h⟩:=zB h
 obtain rfl:=sj h
 exact tF ⟨func109,rfl⟩ 0 [0,1] (oD (dE r1)<|pW M<|oC 2 [] (c61 h2) o0),⟨(lz rfl),tv⟩,(bA (lz rfl) zA),dE _,(cE (lz rfl) zA)⟩
def K3(w:Nat)(f g:zY)(m:tP)(n p:yD)(q:zY)(t u v s c:Int)(a:zR)(d e:Int)(b:zR):Option (Bool×Int×Int×Int):=
 vJ w f g m n p q t u v (Tm.mk s c a) (Tm.mk d e b)>>=fun r1=>
 some (r1.1,r1.2.1,r1.2.2.1,r1.2.2.2)
theorem zIs{w f g m n p q t u v s c a d e b r}(h:K3 w f g m n p q t u v s c a d e b=some r):Ct 68 [.cells [.mp 1 0,zH yA q .no,.mp 3 0,ai v],qB f 2 n p,qR g m,.cells [ai t,ai u],.cells [ai s,ai c,zH zC a .no],.cells [ai d,ai e,zH zC b .no]] [.mp 0 0,.mp 4 0,.mp 5 0] (ab r.1) [.cells [.mp 1 0,zH yA q .no,.mp 3 0,ai r.2.1],qB f 2 n p,qR g m,.cells [ai r.2.2.1,ai r.2.2.2],.cells [ai s,ai c,zH zC a .no],.cells [ai d,ai e,zH zC b .no]] 0:=⟨by
 unfold K3 at h
 obtain⟨r1,h2,h⟩:=zB h
 cases h
 exact tF ⟨func68,rfl⟩ 0 [0,1,2,3,4,5] (oD (dT b)<|oD (dT a)<|oDm f g m n p<|oD (dE q)<|oC 2 [0,1,2,3] (zQO h2) o0),⟨(lz rfl),(lz rfl),(lz rfl),tv⟩,(zD ⟨(lz rfl),⟨tv,dE _⟩,(lz rfl),tv,tv⟩ (bA (lz rfl) (zD ⟨tv,tv,tv⟩ (zD ⟨tv,tv,⟨tv,dT _⟩,tv⟩ (zD ⟨tv,tv,⟨tv,dT _⟩,tv⟩ zA))))),tv,(zD ⟨(lz rfl),dE _,(lz rfl),tv,tv⟩ (cE (lz rfl) (zD ⟨tv,tv,tv⟩ (zD ⟨tv,tv,dT _,tv⟩ (zD ⟨tv,tv,dT _,tv⟩ zA)))))⟩
def K4(q:Nat)(f g:zY)(m:tP)(n p:yD)(v w:Tm)(s t u c:Int)(a:zR)(d e:Int)(b:zR):Option (Bool×Int×Int×Int):=
 zKl q (wV.mk f g m n p)>>=fun r1=>
 zAB q v 1048577 r1>>=fun r3=>
 if r3 then
 zKl q (wV.mk f g m n p)>>=fun r6=>
 zAB q w 1048577 r6>>=fun r8=>
 if r8 then
 zKk q (wV.mk f g m n p)>>=fun r11=>
 K3 q f g m n p r11 s t 0 u c a d e b>>=fun r13=>
 if r13.1 then
 some ((r13.2.1==0),r13.2.1,r13.2.2.1,r13.2.2.2)
 else
 some (false,r13.2.1,r13.2.2.1,r13.2.2.2)
 else
 some (false,5,s,t)
 else
 some (false,5,s,t)
theorem K5:Qf 67 f67:=⟨func67,rfl⟩
theorem zQQ{q f g m n p v w s t u c a d e b r}(h:K4 q f g m n p v w s t u c a d e b=some r):Ct 67 [qB f 1 n p,qR g m,.cells [ai s,ai t],.cells [ai u,ai c,zH zC a .no],.cells [ai d,ai e,zH zC b .no]] [.mp 0 0,yV v,yV w,.mp 2 0,.clo 68 [] [.mp 3 0,.mp 4 0]] (.tup [ab r.1,ai r.2.1]) [qB f 1 n p,qR g m,.cells [ai r.2.2.1,ai r.2.2.2],.cells [ai u,ai c,zH zC a .no],.cells [ai d,ai e,zH zC b .no]] 0:=⟨by
 unfold K4 at h
 have z {os ob} (k:Oz os ob):=oD (dT b)<|oD (dT a)<|oDm f g m n p<|k
 obtain⟨r1,h2,h⟩:=zB h
 obtain⟨r3,h4,h⟩:=zB h
 have k:=oC 2 [0,1] (zUK h2) o0
 obtain⟨h5,h⟩|⟨h5,h⟩:=zK h
 obtain⟨r6,h7,h⟩:=zB h
 obtain⟨r8,h9,h⟩:=zB h
 have k:=oC 2 [0,1] (zUK h7)<|oK 0 [] h5 (zDx h4) k
 obtain⟨h10,h⟩|⟨h10,h⟩:=zK h
 obtain⟨r11,h12,h⟩:=zB h
 obtain⟨r13,h14,h⟩:=zB h
 have k:=oC 1 [0,1] (zYR h12)<|oK 0 [] h10 (zDx h9) k
 obtain⟨h15,h⟩|⟨h15,h⟩:=zK h
 cases h
 exact tF K5 3 [0,1,2,3,4] (z<|oK 0 [7,0,1,2,3,4] h15 (zIs h14) k)
 cases h
 exact tF K5 1 [0,1,2,3,4] (z<|oK 0 [7,0,1,2,3,4] h15 (zIs h14) k)
 cases h
 exact tF K5 1 [0,1,2,3,4] (z<|oK 0 [] h10 (zDx h9) k)
 cases h
 exact tF K5 1 [0,1,2,3,4] (z<|oK 0 [] h5 (zDx h4) k),⟨(lz rfl),⟨tv,tv,⟨tv,dT _⟩,tv⟩,⟨tv,tv,⟨tv,dT _⟩,tv⟩,(lz rfl),⟨tv,⟨(lz rfl),(lz rfl),tv⟩⟩,tv⟩,(bA (lz rfl) (zD ⟨tv,tv,tv⟩ (zD ⟨tv,tv,⟨tv,dT _⟩,tv⟩ (zD ⟨tv,tv,⟨tv,dT _⟩,tv⟩ zA)))),⟨tv,tv,tv⟩,(cE (lz rfl) (zD ⟨tv,tv,tv⟩ (zD ⟨tv,tv,dT _,tv⟩ (zD ⟨tv,tv,dT _,tv⟩ zA))))⟩
def e36(e:Nat)(M:wV)(a b:Tm)(c d:Int):Option (Bool×Int×Int×Int):=
 K4 e M.l M.rl M.parts M.args M.own a b c d a.k a.n a.sub b.k b.n b.sub>>=fun r1=>
 some (r1.1,r1.2.1,r1.2.2.1,r1.2.2.2)
theorem c36{e M a b c d r}(h:e36 e M a b c d=some r):Ct 36 [mB M 1,mR M,.cells [ai c,ai d]] [.mp 0 0,yV a,yV b,.mp 2 0] (.tup [ab r.1,ai r.2.1]) [mB M 1,mR M,.cells [ai r.2.2.1,ai r.2.2.2]] 0:=⟨by
 unfold e36 at h
 obtain⟨r1,h2,h⟩:=zB h
 cases h
 exact tF ⟨func36,rfl⟩ 2 [0,1,2] (pW M<|oC 2 [0,1,2,3,4] (zQQ h2) o0),⟨(lz rfl),⟨tv,tv,⟨tv,dT _⟩,tv⟩,⟨tv,tv,⟨tv,dT _⟩,tv⟩,(lz rfl),tv⟩,(bA (lz rfl) (zD ⟨tv,tv,tv⟩ zA)),⟨tv,tv,tv⟩,(cE (lz rfl) (zD ⟨tv,tv,tv⟩ zA))⟩
theorem zNH{N:ByteArray->Bool}(l:List yE)(hE:vP N l)(he:∀e∈l,iH e):∀(F n:Nat) (m:Bool) (x y:Tm),x.Ok->y.Ok->sK l x+sK l y≤n->m=false->HC l m x y (F:Int):=by
 intro F
 induction F using Nat.strongRecOn with
 |ind F IH=>
  intro n
  induction n with
  |zero=>intro m x y _ _ h _;have:=zBm l x;omega
  |succ n ih=>
   intro m x y hx hy hn hmf
   have fin:∀(k:Int) (x' y':Tm) (j1 j2:Int),xZ l x->xZ l y->Br l x x' 0 j1->Br l y y' 0 j2->k=j1+j2->k≤F->Ou (fun L U q=>zUF l false L U 0 q x' y'>>=fun r4=>some (r4.1,r4.2.1,r4.2.2.1,r4.2.2.2)) zDV (fun R n=>QX (Cv l false x y) R (k+n)) (∀b k,Cv l false x y b k->(F:Int)<k) ((F:Int)-k):=fun k x' y' j1 j2 hR1 hR2 hb1 hb2 hk k1=>by
    have n1:=hb1.nn
    have n2:=hb2.nn
    have hB:BC l ((F:Int)-k) (sK l x'+sK l y'):=fun m p q hp hq hw g g0 g1 hf0=>by
     by_cases hk0:k≤0
     ·have e1:=hb1.zero rfl (by omega)
      have e2:=hb2.zero rfl (by omega)
      subst e1;subst e2
      by_cases hg:g=F
      ·subst hg
       exact ih m p q hp hq (by omega) hf0
      ·have:=IH g.toNat (by omega) (sK l p+sK l q) m p q hp hq (Nat.le_refl _) hf0
       rwa[show ((g.toNat:Nat):Int)=g by omega]at this
     ·have:=IH g.toNat (by omega) (sK l p+sK l q) m p q hp hq (Nat.le_refl _) hf0
      rwa[show ((g.toNat:Nat):Int)=g by omega]at this
    have h:=HX.same (zGs l hE x' y' (hb1.shaped hR1.shaped rfl) (hb2.shaped hR2.shaped rfl) ((F:Int)-k) (by omega) hB)
    refine Ou.mono h ?_ fun hs b k' hc=>?_
    ·rintro R n _ _ ⟨b,e,h8,h0,hn',rfl⟩
     refine⟨b,e,h8,fun he=>?_,fun he=>⟨(hn' he).1,fun b' k' hc=>?_⟩,rfl⟩
     ·have:=Cv.mk hR1 hR2 hb1 hb2 (h0 he)
      rwa[hk]
     ·obtain⟨-,-,x1,i1,y1,i2,i3,h1,h2,h3,-⟩:=hc.inv
      obtain⟨rfl,-,-⟩:=hb1.det h1
      obtain⟨rfl,-,-⟩:=hb2.det h2
      exact(hn' he).2 _ _ h3
    ·obtain⟨-,-,x1,i1,y1,i2,i3,h1,h2,h3,rfl⟩:=hc.inv
     obtain⟨rfl,-,rfl⟩:=hb1.det h1
     obtain⟨rfl,-,rfl⟩:=hb2.det h2
     have:=hs _ _ h3
     omega
   cases m
   ·refine Ou.succ ?_
    simp only[zBg,vJ]
    refine Ou.bind (zNG l hE he x y hx hy F (by omega)) (fun h b k hc=>h _ _ _ hc) (fun r hr=>?_) ?_
    ·have:=zYQ hr
     refine⟨_,zF.ifF this.1 zF.ret,?_⟩
     unfold zDV
     rw[if_neg (by simp)];exact this.2
    ·rintro R k k0 k1 (⟨x',j1,y',j2,hR1,hR2,hb1,hb2,rfl,rfl⟩|⟨a,b,e,e0,e8,hno,rfl⟩)
     ·exact Ou.ifT rfl (fin (j1+j2) x' y' j1 j2 hR1 hR2 hb1 hb2 rfl k1)
     ·exact Ou.ifF rfl (Ou.ret (by omega) (iO e8 e0 fun b k=>hno _ b k))
   ·cases hmf
theorem zNI{N:ByteArray->Bool}(l:List yE)(hE:vP N l)(he:∀e∈l,iH e)(hl:l.length≤65535)(hc:∀e∈l,ECl e)(x y:Tm)(hx:x.Ok)(hy:y.Ok)(f:Int)(hf:0≤f):HX (fun L U q=>e36 q (uU l) x y L U) (Cv l false x y) f:=by
 have hC:=zNH l hE he f.toNat (sK l x+sK l y) false x y hx hy (Nat.le_refl _) rfl
 rw[show ((f.toNat:Nat):Int)=f by omega]at hC
 have hLen:zF (fun q=>zKl q (uU l)) (l.length:Int):=zF.mk fun _=>rfl
 have hEnt:zF (fun q=>zKk q (uU l)) l:=by
  simp only[zKk]
  exact((R7 l hl he hc).eq (C3 hE)).bind zF.ret
 have post:HX (fun L U q=>(zBg l false L U 0 q x y>>=fun r1=>some (r1.1,r1.2.1,r1.2.2.1,r1.2.2.2))>>=fun r13=>if r13.1=true then some ((r13.2.1==0),r13.2.1,r13.2.2.1,r13.2.2.2)else some (false,r13.2.1,r13.2.2.1,r13.2.2.2)) (Cv l false x y) f:=by
  refine Ou.bind (HX.same hC) id (fun r hr=>?_) ?_
  ·have:=zBh hr
   refine⟨_,zF.ifF this.1 zF.ret,?_⟩
   unfold zDV
   rw[if_neg (by simp)];exact this.2
  ·rintro R k k0 k1 ⟨b,e,h8,h0,hn,rfl⟩
   dsimp only
   by_cases e0:e=0
   ·subst e0
    have hX:=h0 rfl
    cases b with
    |true=>exact Ou.ifT rfl (Ou.ret (by omega) (j4 (b:=true) (by rwa[Int.add_zero])))
    |false=>exact Ou.ifF rfl (Ou.ret (by omega) (j4 (by rwa[Int.add_zero])))
   ·obtain⟨rfl,hno⟩:=hn e0
    exact Ou.ifF rfl (Ou.ret (by omega) (iO h8 e0 hno))
 have bad1:¬xZ l x->∀b k,¬Cv l false x y b k:=fun h b k hc=>h hc.inv.1
 have bad2:¬xZ l y->∀b k,¬Cv l false x y b k:=fun h b k hc=>h hc.inv.2.1
 simp only[e36,K4]
 refine HX.same ?_
 refine Ou.evt hLen (Ou.evt (bG x 1048577 l.length hx) (Ou.ite (fun h1=>?_) fun h1=>?_))
 ·refine Ou.evt hLen (Ou.evt (bG y 1048577 l.length hy) (Ou.ite (fun h2=>?_) fun h2=>?_))
  ·refine Ou.evt hEnt ?_
   simp only[K3,vW]
   exact post
  ·exact Ou.ret hf (iO (by decide) (by decide) (bad2 (by unfold xZ;rw[h2];simp)))
 ·exact Ou.ret hf (iO (by decide) (by decide) (bad1 (by unfold xZ;rw[h1];simp)))
def zBf(m:Nat)(a b:zY)(c:tP)(d e:yD)(f g:Tm):Option (Bool×Int):=
 none
abbrev zQR (a b:zY) (c:tP) (d e:yD) (f g:Tm) (r:Bool×Int) (C:Cf):Prop:=C 36 [qB a 1 d e,qR b c] [.mp 0 0,yV f,yV g,.val (.pointer none)] (.tup [ab r.1,ai r.2]) [qB a 1 d e,qR b c] 0
theorem zQS{m a b c d e f g r}(h:zBf m a b c d e f g=some r):zQR a b c d e f g r Ct:=by
 unfold zBf at h
 cases h
def zBe(e:Nat)(c d:Tm)(a b:Int):Option (Bool×Int):=
 none
abbrev zQT (c d:Tm) (a b:Int) (r:Bool×Int) (C:Cf):Prop:=C 36 [.cells [ai a,ai b]] [.val (.pointer none),yV c,yV d,.mp 0 0] (.tup [ab r.1,ai r.2]) [.cells [ai a,ai b]] 0
theorem zQU{e c d a b r}(h:zBe e c d a b=some r):zQT c d a b r Ct:=by
 unfold zBe at h
 cases h
def zBd(c:Nat)(a b:Tm):Option (Bool×Int):=
 none
abbrev zQV (a b:Tm) (r:Bool×Int) (C:Cf):Prop:=C 36 [] [.val (.pointer none),yV a,yV b,.val (.pointer none)] (.tup [ab r.1,ai r.2]) [] 0
theorem zQW{c a b r}(h:zBd c a b=some r):zQV a b r Ct:=by
 unfold zBd at h
 cases h
def e16(a:Nat)(e:zY)(b c:Tm)(d:Int):Option (Bool×Int×Int):=
 e32 a e>>=fun r1=>
 match r1 with
 | .inl y21=>
  if y21 != 0 then
  some (false,0,y21)
  else
  e33 a d>>=fun r23=>
  match r23 with
  | .inl y32=>
   if y32 != 0 then
   some (false,0,y32)
   else
   zBd a b c>>=fun r34=>
   if r34.2 != 0 then
   some (false,0,r34.2)
   else
   gV a>>=fun r37=>
   some (r34.1,r37,0)
  | .inr y25=>
   if y25.1 != 0 then
   some (false,0,y25.1)
   else
   zBe a b c y25.2.1 y25.2.2>>=fun r27=>
   if r27.2 != 0 then
   some (false,0,r27.2)
   else
   e35 a y25.2.1 y25.2.2>>=fun r30=>
   some (r27.1,r30,0)
 | .inr y3=>
  if y3.1 != 0 then
  some (false,0,y3.1)
  else
  e33 a d>>=fun r5=>
  match r5 with
  | .inl y14=>
   if y14 != 0 then
   some (false,0,y14)
   else
   zBf a y3.2.1 y3.2.2.2.2.1 y3.2.2.2.2.2 y3.2.2.1 y3.2.2.2.1 b c>>=fun r16=>
   if r16.2 != 0 then
   some (false,0,r16.2)
   else
   gV a>>=fun r19=>
   some (r16.1,r19,0)
  | .inr y7=>
   if y7.1 != 0 then
   some (false,0,y7.1)
   else
   e36 a (wV.mk y3.2.1 y3.2.2.2.2.1 y3.2.2.2.2.2 y3.2.2.1 y3.2.2.2.1) b c y7.2.1 y7.2.2>>=fun r9=>
   if r9.2.1 != 0 then
   some (false,0,r9.2.1)
   else
   e35 a r9.2.2.1 r9.2.2.2>>=fun r12=>
   some (r9.1,r12,0)
theorem q16:Qf 16 Tryz.f16:=⟨func16,rfl⟩
theorem c16{a e b c d r}(h:e16 a e b c d=some r):Ct 16 [] [zH yA e .no,yV b,yV c,ai d] (.tup [ab r.1,ai r.2.1,ai r.2.2]) [] 0:=⟨by
 unfold e16 at h
 obtain⟨r1,h2,h⟩:=zB h
 rcases r1 with y21|y3
 dsimp only at h
 have k:=oC 0 [] (c32 h2) o0
 obtain⟨h22,h⟩|⟨h22,h⟩:=zK h
 cases h
 exact tF q16 0 [] (oB 2 h22 k)
 obtain⟨r23,h24,h⟩:=zB h
 have k:=oB 2 h22 k
 rcases r23 with y32|y25
 dsimp only at h
 have k:=oC 0 [] (c33 h24) k
 obtain⟨h33,h⟩|⟨h33,h⟩:=zK h
 cases h
 exact tF q16 0 [] (oB 2 h33 k)
 obtain⟨r34,h35,h⟩:=zB h
 have k:=oC 2 [] (zQW h35)<|oB 2 h33 k
 obtain⟨h36,h⟩|⟨h36,h⟩:=zK h
 cases h
 exact tF q16 0 [] (oB 2 h36 k)
 obtain⟨r37,h38,h⟩:=zB h
 cases h
 exact tF q16 0 [] (oC 0 [] (J9 h38)<|oB 2 h36 k)
 dsimp only at h
 have k:=oC 0 [] (c33 h24) k
 obtain⟨h26,h⟩|⟨h26,h⟩:=zK h
 cases h
 exact tF q16 0 [] (oB 2 h26 k)
 obtain⟨r27,h28,h⟩:=zB h
 have k:=oC 2 [2] (zQU h28)<|oB 2 h26 k
 obtain⟨h29,h⟩|⟨h29,h⟩:=zK h
 cases h
 exact tF q16 0 [] (oB 2 h29 k)
 obtain⟨r30,h31,h⟩:=zB h
 cases h
 exact tF q16 0 [] (oC 0 [2] (c35 h31)<|oB 2 h29 k)
 dsimp only at h
 have k:=oC 0 [] (c32 h2) o0
 obtain⟨h4,h⟩|⟨h4,h⟩:=zK h
 cases h
 exact tF q16 0 [] (oB 2 h4 k)
 obtain⟨r5,h6,h⟩:=zB h
 have k:=oB 2 h4 k
 rcases r5 with y14|y7
 dsimp only at h
 have k:=oC 0 [] (c33 h6) k
 obtain⟨h15,h⟩|⟨h15,h⟩:=zK h
 cases h
 exact tF q16 0 [] (oB 2 h15 k)
 obtain⟨r16,h17,h⟩:=zB h
 have k:=oC 2 [2,3] (zQS h17)<|oB 2 h15 k
 obtain⟨h18,h⟩|⟨h18,h⟩:=zK h
 cases h
 exact tF q16 0 [] (oB 2 h18 k)
 obtain⟨r19,h20,h⟩:=zB h
 cases h
 exact tF q16 0 [] (oC 0 [] (J9 h20)<|oB 2 h18 k)
 dsimp only at h
 have k:=oC 0 [] (c33 h6) k
 obtain⟨h8,h⟩|⟨h8,h⟩:=zK h
 cases h
 exact tF q16 0 [] (oB 2 h8 k)
 obtain⟨r9,h10,h⟩:=zB h
 have k:=oC 2 [2,3,4] (c36 h10)<|oB 2 h8 k
 obtain⟨h11,h⟩|⟨h11,h⟩:=zK h
 cases h
 exact tF q16 0 [] (oB 2 h11 k)
 obtain⟨r12,h13,h⟩:=zB h
 cases h
 exact tF q16 0 [] (oC 0 [4] (c35 h13)<|oB 2 h11 k),⟨⟨tv,dE _⟩,⟨tv,tv,⟨tv,dT _⟩,tv⟩,⟨tv,tv,⟨tv,dT _⟩,tv⟩,tv,tv⟩,zA,⟨tv,tv,tv,tv⟩,zA⟩
theorem zQY{N:ByteArray->Bool}(l:List yE)(hn:zF (fun q=>e32 q l) (zFN l true))(hE:vP N l)(he:∀e∈l,iH e)(hl:l.length≤65535)(hc:∀e∈l,ECl e)(x y:Tm)(hx:x.Ok)(hy:y.Ok)(f:Int)(h0:0≤f)(h1:f≤1048576) :
  ∃r:Bool×Int×Int,zF (fun q=>e16 q l x y f) r∧(r.2.2=0->∃k,Cv l false x y r.1 k):=by
 have run:∀r,zF (fun q=>e36 q (uU l) x y f 0) r->zF (fun q=>e16 q l x y f) (if r.2.1≠0 then(false,0,r.2.1)else(r.1,r.2.2.2,0)):=fun r h=>by
  simp only[e16]
  refine hn.bind (zF.ifF (by simp) ((zHS f h0 h1).bind (zF.ifF (by simp) (zF.bind (a:=r) h ?_))))
  by_cases e:r.2.1≠0
  ·rw[if_pos e];exact zF.ifT (by simpa using e) zF.ret
  ·rw[if_neg e]
   refine zF.ifF (by simpa using e) (zF.bind (a:=r.2.2.2) (zF.mk fun q=>?_) zF.ret)
   simp only[e35,aC];rfl
 rcases zNI l hE he hl hc x y hx hy f h0 with⟨R,k,k0,k1,⟨b,e,h8,hC,hno,rfl⟩,h3,-⟩|⟨h,-⟩
 ·refine⟨_,run _ (h3 f 0 k1 (by omega) (by omega)),fun hz=>?_⟩
  by_cases e0:e=0
  ·subst e0
   rw[if_neg (by simp)]
   exact⟨k,hC rfl⟩
  ·rw[if_pos e0]at hz
   exact absurd hz e0
 ·obtain⟨r,h5,h6⟩:=h 0 (by omega) (by omega)
  have h7:=(zBh h6).2
  refine⟨_,run r h5,fun hz=>?_⟩
  rw[if_pos (by omega)]at hz
  have:r.2.1=0:=hz
  omega
def bs(s:ByteArray):List Int:=s.data.toList.map fun b=>(b.toNat:Int)
theorem sJ(s:ByteArray):(bs s).length=s.size:=by unfold bs;rw[List.length_map,Array.length_toList];rfl
theorem iP{s:ByteArray}{c:Int}(h:c∈bs s):0≤c∧c<256:=by
 unfold bs at h
 obtain⟨b,-,rfl⟩:=List.mem_map.1 h
 have:=b.toNat_lt
 omega
theorem aG(s:ByteArray){i:Int}(h:0≤i):pG s i=(bs s)[i.toNat]?:=by
 unfold pG bs
 rw[if_pos h,List.getElem?_map,Array.getElem?_toList]
 have e:s[i.toNat]? = s.data[i.toNat]?:=by
  by_cases hi:i.toNat<s.size
  ·rw[getElem?_pos s _ hi,getElem?_pos s.data _ hi];rfl
  ·rw[getElem?_neg s _ hi,getElem?_neg s.data _ hi]
 rw[e]
 cases s.data[i.toNat]? <;> rfl
theorem zQZ(s:ByteArray){a b:Nat}(h1:a≤b)(h2:b≤s.size):∃r,zJv s (a:Int) (b:Int)=some r∧bs r=((bs s).drop a).take (b-a):=by
 refine⟨_,by unfold zJv;rw[if_pos (by omega)],?_⟩
 unfold bs
 rw[ByteArray.data_extract,Array.toList_extract,List.map_take,List.map_drop,Int.toNat_natCast,Int.toNat_natCast]
theorem zRz(ns:List Int)(h:∀c∈ns,0≤c∧c<256):bs (jQ ns)=ns:=by
 have key:∀(ns:List Int) (r:ByteArray),(∀c∈ns,0≤c∧c<256)->bs (ns.foldl (fun r n=>r.push (UInt8.ofNat n.toNat)) r)=bs r++ns:=by
  intro ns
  induction ns with
  |nil=>intro r _;simp
  |cons c ns ih=>
   intro r h
   rw[List.foldl_cons,ih _ fun x hx=>h x (by simp[hx])]
   have hc:=h c (by simp)
   have e:bs (r.push (UInt8.ofNat c.toNat))=bs r++[c]:=by
    unfold bs
    rw[ByteArray.data_push,Array.toList_push,List.map_append]
    congr 1
    simp only[List.map_cons,List.map_nil,UInt8.toNat_ofNat']
    rw[Nat.mod_eq_of_lt (by omega),Int.toNat_of_nonneg hc.1]
   rw[e];simp
 have:=key ns ByteArray.empty h
 unfold jQ
 rw[this];rfl
theorem zBc(s:ByteArray):s.toList=s.data.toList:=by
 have key:∀(m i:Nat) (r:List UInt8),i+m=s.size->ByteArray.toList.loop s i r=r.reverse++s.data.toList.drop i:=by
  intro m
  induction m with
  |zero=>
   intro i r h
   rw[ByteArray.toList.loop,if_neg (by omega),List.drop_eq_nil_of_le (by rw[Array.length_toList];show s.size≤i;omega),List.append_nil]
  |succ m ih=>
   intro i r h
   have hi:i<s.data.toList.length:=by rw[Array.length_toList];show i<s.size;omega
   rw[ByteArray.toList.loop,if_pos (by omega),ih _ _ (by omega),List.drop_eq_getElem_cons hi]
   have e:s.get! i=s.data.toList[i]:=by
    have h2:i<s.data.size:=by simpa using hi
    show s.data[i]! = _
    rw[getElem!_pos s.data i h2];simp
   rw[e];simp
 have:=key s.size 0 [] (by omega)
 unfold ByteArray.toList
 rw[this];simp
theorem zIq(a b:ByteArray):(a.toList==b.toList)=decide (bs a=bs b):=by
 rw[zBc,zBc]
 by_cases h:a.data.toList=b.data.toList
 ·have e:bs a=bs b:=by unfold bs;rw[h]
  rw[h];simp[e]
 ·have e:¬bs a=bs b:=fun e=>h (by
   unfold bs at e
   exact(List.map_inj_right (fun x y hxy=>UInt8.toNat_inj.1 (by omega))).1 e)
  rw[decide_eq_false e]
  simpa using h
def kX(n:Int):Bool:=decide (0≤n∧n≤1114111∧(n<55296∨57343<n))
def mT(n:Int):Nat:=if 65536≤n then 4 else if 2048≤n then 3 else if 128≤n then 2 else 1
def tD(n:Int):List Int:=
 if n<128 then [n]else if n<2048 then [192+n / 64,128+n % 64]else if n<65536 then [224+n / 4096,128+(n / 64) % 64,128+n % 64]
 else [240+n / 262144,128+(n / 64 / 64) % 64,128+(n / 64) % 64,128+n % 64]
theorem K6(n:Int):(tD n).length=mT n:=by
 unfold tD mT
 by_cases h1:n<128
 ·rw[if_pos h1,if_neg (by omega),if_neg (by omega),if_neg (by omega)];rfl
 ·rw[if_neg h1]
  by_cases h2:n<2048
  ·rw[if_pos h2,if_neg (by omega),if_neg (by omega),if_pos (by omega)];rfl
  ·rw[if_neg h2]
   by_cases h3:n<65536
   ·rw[if_pos h3,if_neg (by omega),if_pos (by omega)];rfl
   ·rw[if_neg h3,if_pos (by omega)];rfl
def vD(c:Int):Nat×Int:=if c<128 then(1,c)else if c<192 then(0,0)else if c<224 then(2,c-192)else if c<240 then(3,c-224)else if c<248 then(4,c-240)else(0,0)
def mU:Nat->Int->List Int->Option Int
 |0,n,_=>some n
 |_+1,_,[]=>none
 |m+1,n,d::r=>if 128≤d∧d<192 then mU m (n*64+(d-128)) r else none
def pE:List Int->Option (Int×Nat)
 | []=>none
 |c::r=>if (vD c).1=0 then none else match mU ((vD c).1-1) (vD c).2 r with
  |some n=>if kX n=true∧mT n=(vD c).1 then some (n,(vD c).1)else none
  |none=>none
theorem zNJ{m:Nat}{n x:Int}{r:List Int}(h:mU m n r=some x):m≤r.length:=by
 induction m generalizing n r with
 |zero=>omega
 |succ m ih=>
  cases r with
  |nil=>cases h
  |cons d r=>
   rw[mU]at h
   split at h
   ·have:=ih h;simp;omega
   ·cases h
theorem zRy{n:Int}(h:kX n=true)(r:List Int):pE (tD n++r)=some (n,(tD n).length):=by
 have h':=of_decide_eq_true h
 have hl:=K6 n
 rw[hl]
 unfold tD
 by_cases h1:n<128
 ·have hw:mT n=1:=by unfold mT;rw[if_neg (by omega),if_neg (by omega),if_neg (by omega)]
  have e:vD n=(1,n):=by unfold vD;rw[if_pos h1]
  rw[if_pos h1,hw]
  simp only[List.cons_append,List.nil_append,pE,e,Nat.sub_self,mU]
  rw[if_neg (by decide),if_pos ⟨h,hw⟩]
 ·rw[if_neg h1]
  by_cases h2:n<2048
  ·have hw:mT n=2:=by unfold mT;rw[if_neg (by omega),if_neg (by omega),if_pos (by omega)]
   have e:vD (192+n / 64)=(2,n / 64):=by unfold vD;rw[if_neg (by omega),if_neg (by omega),if_pos (by omega)];congr 1;omega
   rw[if_pos h2,hw]
   simp only[List.cons_append,List.nil_append,pE,e,mU]
   rw[if_neg (by omega),if_pos (by omega)]
   have e2:n / 64*64+(128+n % 64-128)=n:=by omega
   simp only[e2]
   rw[if_pos ⟨h,hw⟩]
  ·rw[if_neg h2]
   by_cases h3:n<65536
   ·have hw:mT n=3:=by unfold mT;rw[if_neg (by omega),if_pos (by omega)]
    have e:vD (224+n / 4096)=(3,n / 4096):=by unfold vD;rw[if_neg (by omega),if_neg (by omega),if_neg (by omega),if_pos (by omega)];congr 1;omega
    rw[if_pos h3,hw]
    simp only[List.cons_append,List.nil_append,pE,e,mU]
    rw[if_neg (by omega),if_pos (by omega),if_pos (by omega)]
    have e2:(n / 4096*64+(128+n / 64 % 64-128))*64+(128+n % 64-128)=n:=by omega
    simp only[e2]
    rw[if_pos ⟨h,hw⟩]
   ·have hw:mT n=4:=by unfold mT;rw[if_pos (by omega)]
    have e:vD (240+n / 262144)=(4,n / 262144):=by unfold vD;rw[if_neg (by omega),if_neg (by omega),if_neg (by omega),if_neg (by omega),if_pos (by omega)];congr 1;omega
    rw[if_neg h3,hw]
    simp only[List.cons_append,List.nil_append,pE,e,mU]
    rw[if_neg (by omega),if_pos (by omega),if_pos (by omega),if_pos (by omega)]
    have e2:((n / 262144*64+(128+n / 64 / 64 % 64-128))*64+(128+n / 64 % 64-128))*64+(128+n % 64-128)=n:=by omega
    simp only[e2]
    rw[if_pos ⟨h,hw⟩]
theorem zEz{l:List Int}{n:Int}{w:Nat}(hb:∀c∈l,0≤c∧c<256)(h:pE l=some (n,w)):kX n=true∧w=(tD n).length∧l=tD n++l.drop w:=by
 cases l with
 |nil=>cases h
 |cons c r=>
  have hc:=hb c (by simp)
  rw[pE]at h
  split at h
  ·cases h
  ·rename_i h0
   split at h
   ·rename_i x hx
    split at h
    ·rename_i hs
     obtain⟨hs,hw⟩:=hs
     obtain⟨rfl,rfl⟩:x=n∧(vD c).1=w:=by injection h with h;injection h with a b;exact⟨a,b⟩
     refine⟨hs,by rw[K6,hw],?_⟩
     have hs':=of_decide_eq_true hs
     revert hx hw h0
     unfold vD
     by_cases a1:c<128
     ·rw[if_pos a1]
      intro h0 hx hw
      simp only[mU,Nat.sub_self,Option.some.injEq]at hx
      subst hx
      unfold tD;rw[if_pos a1];rfl
     ·rw[if_neg a1]
      by_cases a2:c<192
      ·rw[if_pos a2];intro h0;exact absurd rfl h0
      ·rw[if_neg a2]
       by_cases a3:c<224
       ·rw[if_pos a3]
        intro h0 hx hw
        rcases r with _|⟨d,r⟩
        ·cases hx
        ·simp only[mU,Nat.add_one_sub_one]at hx
         split at hx
         ·rename_i hd
          simp only[Option.some.injEq]at hx
          have hn:128≤x∧x<2048:=by unfold mT at hw;split at hw<;>(try split at hw)<;>(try split at hw)<;>first|omega | (simp at hw)
          unfold tD
          rw[if_neg (by omega),if_pos hn.2]
          have e1:192+x / 64=c:=by omega
          have e2:128+x % 64=d:=by omega
          rw[e1,e2];rfl
         ·cases hx
       ·rw[if_neg a3]
        by_cases a4:c<240
        ·rw[if_pos a4]
         intro h0 hx hw
         rcases r with _|⟨d,_|⟨e,r⟩⟩
         ·cases hx
         ·simp only[mU,Nat.reduceSub]at hx
          split at hx<;>cases hx
         ·simp only[mU,Nat.reduceSub]at hx
          split at hx
          ·split at hx
           ·rename_i hd he
            simp only[Option.some.injEq]at hx
            have hn:2048≤x∧x<65536:=by unfold mT at hw;split at hw<;>(try split at hw)<;>(try split at hw)<;>first|omega | (simp at hw)
            unfold tD
            rw[if_neg (by omega),if_neg (by omega),if_pos hn.2]
            have e1:224+x / 4096=c:=by omega
            have e2:128+x / 64 % 64=d:=by omega
            have e3:128+x % 64=e:=by omega
            rw[e1,e2,e3];rfl
           ·cases hx
          ·cases hx
        ·rw[if_neg a4]
         by_cases a5:c<248
         ·rw[if_pos a5]
          intro h0 hx hw
          rcases r with _|⟨d,_|⟨e,_|⟨f,r⟩⟩⟩
          ·cases hx
          ·simp only[mU,Nat.reduceSub]at hx
           split at hx<;>cases hx
          ·simp only[mU,Nat.reduceSub]at hx
           split at hx
           ·split at hx<;>cases hx
           ·cases hx
          ·simp only[mU,Nat.reduceSub]at hx
           split at hx
           ·split at hx
            ·split at hx
             ·rename_i hd he hf
              simp only[Option.some.injEq]at hx
              have hn:65536≤x:=by unfold mT at hw;split at hw<;>(try split at hw)<;>(try split at hw)<;>first|omega | (simp at hw)
              unfold tD
              rw[if_neg (by omega),if_neg (by omega),if_neg (by omega)]
              have e1:240+x / 262144=c:=by omega
              have e2:128+x / 64 / 64 % 64=d:=by omega
              have e3:128+x / 64 % 64=e:=by omega
              have e4:128+x % 64=f:=by omega
              rw[e1,e2,e3,e4];rfl
             ·cases hx
            ·cases hx
           ·cases hx
         ·rw[if_neg a5];intro h0;exact absurd rfl h0
    ·cases h
   ·cases h
def Y5(b:Nat)(a:Int):Option Bool:=
 if decide (a<0)then
 some false
 else
 if decide (a>1114111)then
 some false
 else
 if decide (a<55296)then
 some true
 else
 some (decide (a>57343))
theorem zRx:Qf 154 f154:=⟨func154,rfl⟩
theorem Y6{b a r}(h:Y5 b a=some r):Ct 154 [] [ai a] (ab r) [] 0:=⟨by
 unfold Y5 at h
 obtain⟨h1,h⟩|⟨h1,h⟩:=zK h
 cases h
 exact tF zRx 0 [] (oB 0 h1 o0)
 have k:=oB 0 h1 o0
 obtain⟨h2,h⟩|⟨h2,h⟩:=zK h
 cases h
 exact tF zRx 0 [] (oB 0 h2 k)
 have k:=oB 0 h2 k
 obtain⟨h3,h⟩|⟨h3,h⟩:=zK h
 cases h
 exact tF zRx 0 [] (oB 0 h3 k)
 cases h
 exact tF zRx 1 [] (oB 0 h3 k),⟨tv,tv⟩,zA,tv,zA⟩
theorem zEy{x:Int}(h0:0≤x)(h1:x<256):IntKind.u8.wrap x=x:=by
 unfold IntKind.wrap
 have e:(2 ^ IntKind.u8.bits:Int)=256:=by rfl
 have s:IntKind.u8.signed=false:=rfl
 simp only[e,s,Bool.false_and,Bool.false_eq_true,if_false]
 omega
theorem zEx{c:Int}(h0:0≤c)(h1:c<256):IntKind.u8.wrap ((BitVec.ofInt (IntKind.bits .u8) c &&& BitVec.ofInt (IntKind.bits .u8) 31).toNat:Nat)=c % 32∧IntKind.u8.wrap ((BitVec.ofInt (IntKind.bits .u8) c &&& BitVec.ofInt (IntKind.bits .u8) 15).toNat:Nat)=c % 16∧IntKind.u8.wrap ((BitVec.ofInt (IntKind.bits .u8) c &&& BitVec.ofInt (IntKind.bits .u8) 7).toNat:Nat)=c % 8
  ∧ IntKind.u8.wrap ((BitVec.ofInt (IntKind.bits .u8) c &&& BitVec.ofInt (IntKind.bits .u8) 63).toNat:Nat)=c % 64∧IntKind.u8.wrap ((BitVec.ofInt (IntKind.bits .u8) c &&& BitVec.ofInt (IntKind.bits .u8) 192).toNat:Nat)=c / 64*64:=by
 have key:((List.range 256).all fun i=>decide (IntKind.u8.wrap ((BitVec.ofInt (IntKind.bits .u8) (i:Int) &&& BitVec.ofInt (IntKind.bits .u8) 31).toNat:Nat)=(i:Int) % 32)&&decide (IntKind.u8.wrap ((BitVec.ofInt (IntKind.bits .u8) (i:Int) &&& BitVec.ofInt (IntKind.bits .u8) 15).toNat:Nat)=(i:Int) % 16)&&decide (IntKind.u8.wrap ((BitVec.ofInt (IntKind.bits .u8) (i:Int) &&& BitVec.ofInt (IntKind.bits .u8) 7).toNat:Nat)=(i:Int) % 8)
  && decide (IntKind.u8.wrap ((BitVec.ofInt (IntKind.bits .u8) (i:Int) &&& BitVec.ofInt (IntKind.bits .u8) 63).toNat:Nat)=(i:Int) % 64)&&decide (IntKind.u8.wrap ((BitVec.ofInt (IntKind.bits .u8) (i:Int) &&& BitVec.ofInt (IntKind.bits .u8) 192).toNat:Nat)=(i:Int) / 64*64))=true:=by kernel_rfl
 have h:=List.all_eq_true.1 key c.toNat (List.mem_range.2 (by omega))
 simp only[Bool.and_eq_true,decide_eq_true_eq]at h
 rw[Int.toNat_of_nonneg h0]at h
 exact⟨h.1.1.1.1,h.1.1.1.2,h.1.1.2,h.1.2,h.2⟩
theorem zRw{n x:Int}(h0:0≤n)(h1:n<1048576)(h2:0≤x)(h3:x<64):IntKind.i64.wrap ((BitVec.ofInt (IntKind.bits .i64) (yN (n*2 ^ (min (Int.toNat 6) (IntKind.bits .i64)))) ||| BitVec.ofInt (IntKind.bits .i64) (yN x)).toNat:Nat)=n*64+x:=by
 have e:(2 ^ (min (Int.toNat 6) (IntKind.bits .i64)):Int)=64:=by rfl
 rw[e,zW (by omega) (by omega),zW (by omega) (by omega)]
 obtain⟨a,rfl⟩:=Int.eq_ofNat_of_zero_le h0
 obtain⟨b,rfl⟩:=Int.eq_ofNat_of_zero_le h2
 have hb:(BitVec.ofInt (IntKind.bits .i64) ((a:Int)*64) ||| BitVec.ofInt (IntKind.bits .i64) (b:Int)).toNat=a*64+b:=by
  have e1:((a:Int)*64)=((a*64:Nat):Int):=by omega
  rw[e1,BitVec.ofInt_natCast,BitVec.ofInt_natCast,BitVec.toNat_or,BitVec.toNat_ofNat,BitVec.toNat_ofNat]
  have e2:(2 ^ IntKind.bits .i64:Nat)=18446744073709551616:=rfl
  rw[e2,Nat.mod_eq_of_lt (by omega),Nat.mod_eq_of_lt (by omega)]
  have:=Nat.two_pow_add_eq_or_of_lt (i:=6) (b:=b) (by omega) a
  have e3:a*64=2 ^ 6*a:=by omega
  rw[e3];exact this.symm
 rw[hb]
 have:=zW (x:=((a*64+b:Nat):Int)) (by omega) (by omega)
 show yN _=_
 rw[this];omega
theorem zRv{c:Int}(h0:0≤c)(h1:c<256):zF (fun q=>zFA q c) (((vD c).1:Int),(vD c).2):=by
 obtain⟨a1,a2,a3,-,-⟩:=zEx h0 h1
 simp only[zFA,a1,a2,a3]
 rw[zW (x:=c) (by omega) (by omega),zW (x:=c % 32) (by omega) (by omega),zW (x:=c % 16) (by omega) (by omega),zW (x:=c % 8) (by omega) (by omega)]
 have geT:∀k:Int,k≤c->decide (c≥k)=true:=fun k h=>decide_eq_true h
 have geF:∀k:Int,c<k->decide (c≥k)=false:=fun k h=>decide_eq_false (by omega)
 have ltT:∀k:Int,c<k->decide (c<k)=true:=fun k h=>decide_eq_true h
 have ltF:∀k:Int,k≤c->decide (c<k)=false:=fun k h=>decide_eq_false (by omega)
 clear a1 a2 a3
 unfold vD
 by_cases b1:c<128
 ·rw[if_pos b1];exact zF.ifT (ltT 128 b1) zF.ret
 ·rw[if_neg b1]
  refine zF.ifF (ltF 128 (by omega)) ?_
  by_cases b2:c<192
  ·rw[if_pos b2]
   exact zF.ifF (geF 192 b2) (zF.ifF (geF 224 (by omega)) (zF.ifF (geF 240 (by omega)) zF.ret))
  ·rw[if_neg b2]
   refine zF.ifT (geT 192 (by omega)) ?_
   by_cases b3:c<224
   ·rw[if_pos b3];exact zF.ifT (ltT 224 b3) (zF.ret.eq (by rw[show c % 32=c-192 by omega];rfl))
   ·rw[if_neg b3]
    refine zF.ifF (ltF 224 (by omega)) (zF.ifT (geT 224 (by omega)) ?_)
    by_cases b4:c<240
    ·rw[if_pos b4];exact zF.ifT (ltT 240 b4) (zF.ret.eq (by rw[show c % 16=c-224 by omega];rfl))
    ·rw[if_neg b4]
     refine zF.ifF (ltF 240 (by omega)) (zF.ifT (geT 240 (by omega)) ?_)
     by_cases b5:c<248
     ·rw[if_pos b5];exact zF.ifT (ltT 248 b5) (zF.ret.eq (by rw[show c % 8=c-240 by omega];rfl))
     ·rw[if_neg b5];exact zF.ifF (ltF 248 (by omega)) zF.ret
theorem D6(n:Int):zF (fun q=>Y0 q n) (kX n):=by
 simp only[Y0]
 unfold kX
 refine zF.iff (fun h=>zF.iff (fun h2=>zF.iff (fun h3=>zF.ret.eq ?_) fun h3=>zF.ret.eq ?_) fun h2=>zF.ret.eq ?_) fun h=>zF.ret.eq ?_
 all_goals simp only[decide_eq_true_eq,decide_eq_false_iff_not]at *
 ·exact(decide_eq_true (by omega)).symm
 ·by_cases h4:n>57343
  ·rw[decide_eq_true h4,decide_eq_true (by omega)]
  ·rw[decide_eq_false h4,decide_eq_false (by omega)]
 ·exact(decide_eq_false (by omega)).symm
 ·exact(decide_eq_false (by omega)).symm
theorem zIp(n:Int):zF (fun q=>Y5 q n) (kX n):=by
 simp only[Y5]
 unfold kX
 refine zF.iff (fun h=>zF.ret.eq ?_) fun h=>zF.iff (fun h2=>zF.ret.eq ?_) fun h2=>zF.iff (fun h3=>zF.ret.eq ?_) fun h3=>zF.ret.eq ?_
 all_goals simp only[decide_eq_true_eq,decide_eq_false_iff_not]at *
 ·exact(decide_eq_false (by omega)).symm
 ·exact(decide_eq_false (by omega)).symm
 ·exact(decide_eq_true (by omega)).symm
 ·by_cases h4:n>57343
  ·rw[decide_eq_true h4,decide_eq_true (by omega)]
  ·rw[decide_eq_false h4,decide_eq_false (by omega)]
theorem zEw(n:Int):zF (fun q=>zDj q n) (mT n:Int):=by
 simp only[zDj]
 unfold mT
 refine zF.iff (fun h=>zF.ret.eq ?_) fun h=>zF.iff (fun h2=>zF.ret.eq ?_) fun h2=>zF.iff (fun h3=>zF.ret.eq ?_) fun h3=>zF.ret.eq ?_
 all_goals simp only[decide_eq_true_eq,decide_eq_false_iff_not]at *
 ·rw[if_pos (by omega)];rfl
 ·rw[if_neg (by omega),if_pos (by omega)];rfl
 ·rw[if_neg (by omega),if_neg (by omega),if_pos (by omega)];rfl
 ·rw[if_neg (by omega),if_neg (by omega),if_neg (by omega)];rfl
def zRu(o:Option (Int×Nat)):Int×Int×Int:=match o with
 |some (n,w)=>(n,(w:Int),0)
 |none=>(0,0,1)
theorem zKj(s:ByteArray)(a w:Nat)(n0:Int)(hs:s.size≤65535)(hw:a+w≤s.size)(hw4:w≤4):∀(m i:Nat) (n:Int),i+m=w->0≤n->n<32*64 ^ (i-1)->1≤i ->
  zF (fun q=>rP q s (a:Int) ((w:Int),n0) n (i:Int)) (zRu (match mU m n ((bs s).drop (a+i))with|some x=>if kX x=true∧mT x=w then some (x,w)else none|none=>none)):=by
 intro m
 induction m with
 |zero=>
  intro i n hi h0 h1 h2
  refine zF.succ ?_
  simp only[rP]
  refine zF.ifF (decide_eq_false (by simp;omega)) ((D6 n).bind ?_)
  simp only[mU]
  by_cases hr:kX n=true
  ·refine zF.ifT hr ((zEw n).bind ?_)
   by_cases hx:mT n=w
   ·exact(zF.ifF (by simp[hx]) zF.ret).eq (by rw[if_pos ⟨hr,hx⟩];rfl)
   ·exact(zF.ifT (by simp;omega) zF.ret).eq (by rw[if_neg (fun h=>hx h.2)];rfl)
  ·exact(zF.ifF (by simpa using hr) zF.ret).eq (by rw[if_neg (fun h=>hr h.1)];rfl)
 |succ m ih=>
  intro i n hi h0 h1 h2
  have hlt:a+i<(bs s).length:=by rw[sJ];omega
  have hd:(bs s).drop (a+i)=(bs s)[a+i]::(bs s).drop (a+i+1):=List.drop_eq_getElem_cons hlt
  have hc:=iP (List.getElem_mem hlt)
  refine zF.succ ?_
  simp only[rP]
  have hg:pG s (yN ((a:Int)+(i:Int)))=some (bs s)[a+i]:=by
   rw[zW (by omega) (by omega),aG s (by omega),show ((a:Int)+(i:Int)).toNat=a+i by omega]
   exact List.getElem?_eq_getElem hlt
  obtain⟨-,-,-,b1,b2⟩:=zEx hc.1 hc.2
  refine zF.ifT (decide_eq_true (by simp;omega)) (zF.pure hg ?_)
  rw[hd,mU]
  generalize (bs s)[a+i]=c at *
  rw[b2,b1]
  by_cases h3:128≤c∧c<192
  ·rw[if_pos h3]
   refine zF.ifF (by simp;omega) ?_
   have hp:n<1048576:=by
    have:i-1≤2:=by omega
    rcases(by omega:i-1=0∨i-1=1∨i-1=2)with e|e|e<;>rw[e]at h1<;>omega
   rw[zRw h0 hp (by omega) (by omega),yB i (by omega)]
   have e:n*64+c % 64=n*64+(c-128):=by omega
   rw[e]
   refine ih (i+1) _ (by omega) (by omega) ?_ (by omega)
   rw[Nat.add_sub_cancel]
   have e2:(64:Int) ^ i=64 ^ (i-1)*64:=by
    rw[←Int.pow_succ];congr 1;omega
   rw[e2];omega
  ·rw[if_neg h3]
   exact zF.ifT (by simp;omega) zF.ret
theorem zNK(s:ByteArray)(a:Nat)(hs:s.size≤65535)(ha:a<s.size):zF (fun q=>zFB q s (a:Int)) (zRu (pE ((bs s).drop a))):=by
 have hlt:a<(bs s).length:=by rw[sJ];omega
 have hd:(bs s).drop a=(bs s)[a]::(bs s).drop (a+1):=List.drop_eq_getElem_cons hlt
 have hc:=iP (List.getElem_mem hlt)
 simp only[zFB]
 have hg:pG s (a:Int)=some (bs s)[a]:=by rw[aG s (by omega),Int.toNat_natCast];exact List.getElem?_eq_getElem hlt
 refine zF.ifF (decide_eq_false (by omega)) (zF.ifF (decide_eq_false (by omega)) (zF.pure hg ((zRv hc.1 hc.2).bind ?_)))
 rw[hd,pE]
 generalize (bs s)[a]=c at *
 by_cases h0:(vD c).1=0
 ·rw[if_pos h0];exact zF.ifT (by simp[h0]) zF.ret
 ·rw[if_neg h0]
  refine zF.ifF (by simp;omega) ?_
  rw[zW (by omega) (by omega)]
  have hle:(vD c).1≤4∧0≤(vD c).2∧((vD c).1≠1->(vD c).2<32):=by
   unfold vD
   repeat' split
   all_goals (refine⟨?_,?_,?_⟩<;>simp<;>omega)
  by_cases hl:a+(vD c).1≤s.size
  ·refine zF.ifF (decide_eq_false (by simp;omega)) ?_
   by_cases h1:(vD c).1=1
   ·refine zF.succ ?_
    simp only[rP,h1,Nat.sub_self,mU]
    refine zF.ifF rfl ((D6 _).bind ?_)
    by_cases hr:kX (vD c).2=true
    ·refine zF.ifT hr ((zEw _).bind ?_)
     by_cases hx:mT (vD c).2=1
     ·exact(zF.ifF (by simp[hx]) zF.ret).eq (by rw[if_pos ⟨hr,hx⟩];rfl)
     ·exact(zF.ifT (by simp;omega) zF.ret).eq (by rw[if_neg (fun h=>hx h.2)];rfl)
    ·exact(zF.ifF (by simpa using hr) zF.ret).eq (by rw[if_neg (fun h=>hr h.1)];rfl)
   ·have:=zKj s a (vD c).1 (vD c).2 hs hl hle.1 ((vD c).1-1) 1 (vD c).2 (by omega) hle.2.1 (by simpa using hle.2.2 h1) (by omega)
    exact this
  ·refine zF.ifT (decide_eq_true (by simp;omega)) (zF.ret.eq ?_)
   have:mU ((vD c).1-1) (vD c).2 ((bs s).drop (a+1))=none:=by
    cases hx:mU ((vD c).1-1) (vD c).2 ((bs s).drop (a+1))with
    |none=>rfl
    |some x=>have:=zNJ hx;rw[List.length_drop,sJ]at this;omega
   rw[this];rfl
mutual
def qP:Nat->Int->List U8->Int->Option (List U8)
 |0,_,_,_=>none
 |c+1,a,b,d=>
 if decide (d≥0)then
 kY c a b d a 0
 else
 some b
def kY:Nat->Int->List U8->Int->Int->Int->Option (List U8)
 |0,_,_,_,_,_=>none
 |c+1,a,b,d,e,f=>
 if decide (f<d)then
 kY c a b d (yN (Int.tdiv e 64)) (yN (f+1))
 else
 xB 1 b [(IntKind.u8.wrap ((yN (128+(Int.tmod e 64)))))]>>=fun l3=>
 qP c a l3 (yN (d-1))
end
def U1(c:Nat)(a g:Int):Option (List U8):=
 qP c a [] (yN (g-1))
theorem U2:∀c:Nat,(∀ {a b d r},qP c a b d=some r->(∀j,dL 0 (pt 4021 f264) (sp j 32 0 [(0,ai a),(5,zH fE b (.st 0 1)),(6,ai d)]) (⟨[],0,[0],1,[]⟩) (fQ 0 (nQ 0 f264 (.sl (zG fE r) r.length .no) [] 0) [.blk 0,.seq (pt 63 f264)])))∧(∀ {a b d e f r},kY c a b d e f=some r->(∀j,dL 0 (pt 263579573 f264) (sp j 32 0 [(0,ai a),(5,zH fE b (.st 0 1)),(6,ai d),(7,ai e),(8,ai f)]) (⟨[],0,[0],1,[]⟩) (fQ 0 (nQ 0 f264 (.sl (zG fE r) r.length .no) [] 0) [.blk 2,.seq (pt 4118431 f264),.blk 1,.seq (pt 64351 f264),.loop (pt 4021 f264),.blk 0,.seq (pt 63 f264)]))):=by
 intro c
 induction c with
 |zero=>
  exact⟨fun h=>nn h,fun h=>nn h⟩
 |succ c ih=>
  obtain⟨zNL,zEv⟩:=ih
  refine⟨?_,?_⟩
  intro a b d r h
  rw[qP]at h
  obtain⟨h1,h⟩|⟨h1,h⟩:=zK h
  exact fun j=>lH 0 [] [] [0] [0,5,6,7,8] (oD (dU b)<|oB 0 h1 o0) (zEv h)
  obtain rfl:=sj h
  exact fun j=>lF 0 [] (oD (dU b)<|oB 0 h1 o0)
  intro a b d e f r h
  rw[kY]at h
  obtain⟨h2,h⟩|⟨h2,h⟩:=zK h
  exact fun j=>lH 2 [] [] [0] [0,5,6,7,8] (oD (dU b)<|oB 0 h2 o0) (zEv h)
  obtain⟨l3,h4,h⟩:=zB h
  exact fun j=>lH 1 [] [] [1] [0,5,6] (oD (dU l3)<|oP 4 (zAf h4 (by simp))<|oB 0 h2 o0) (zNL h)
theorem zUL{c a g r}(h:U1 c a g=some r):Ct 264 [] [ai a,ai g] (.sl (zG fE r) r.length .no) [] 0:=⟨by
 unfold U1 at h
 exact tH ⟨func264,rfl⟩ 2 [(none,5,1)] [] [0] [0,5,6] (oD (dU ([]:List U8)) o0) ((U2 _).1 h),⟨tv,tv,tv⟩,zA,dU _,zA⟩
def zNM(b:Nat)(a:Int):Option ByteArray:=
 if decide (a<128)then
 some (jQ [(IntKind.u8.wrap (a))])
 else
 if decide (a<2048)then
 U1 b a 1>>=fun r3=>
 xB 1 [(IntKind.u8.wrap ((yN (192+(yN (Int.tdiv a 64))))))] r3>>=fun l5=>
 some (jQ l5)
 else
 if decide (a<65536)then
 U1 b a 2>>=fun r9=>
 xB 1 [(IntKind.u8.wrap ((yN (224+(yN (Int.tdiv a 4096))))))] r9>>=fun l11=>
 some (jQ l11)
 else
 U1 b a 3>>=fun r14=>
 xB 1 [(IntKind.u8.wrap ((yN (240+(yN (Int.tdiv a 262144))))))] r14>>=fun l16=>
 some (jQ l16)
theorem zGr:Qf 241 f241:=⟨func241,rfl⟩
theorem yBg{b a r}(h:zNM b a=some r):Ct 241 [] [ai a] (at' r) [] 0:=⟨by
 unfold zNM at h
 obtain⟨h1,h⟩|⟨h1,h⟩:=zK h
 cases h
 exact tF zGr 0 [] (oA 2 (sG [(IntKind.u8.wrap (a))] (o:=.full))<|oB 0 h1 o0)
 have k:=oB 0 h1 o0
 obtain⟨h2,h⟩|⟨h2,h⟩:=zK h
 obtain⟨r3,h4,h⟩:=zB h
 obtain⟨l5,h6,h⟩:=zB h
 have k:=oC 4 [] (zUL h4)<|oB 0 h2 k
 by_cases h7:List.length r3=0
 cases h
 exact tF zGr 0 [] (oA 0 (sG l5 (o:=.full))<|oP 0 (zFl h6 h7) k)
 cases h
 exact tF zGr 0 [] (oA 0 (sG l5 (o:=(.st 0 1)))<|oP 0 (zAf h6 h7) k)
 have k:=oB 0 h2 k
 obtain⟨h8,h⟩|⟨h8,h⟩:=zK h
 obtain⟨r9,h10,h⟩:=zB h
 obtain⟨l11,h12,h⟩:=zB h
 have k:=oC 4 [] (zUL h10)<|oB 0 h8 k
 by_cases h13:List.length r9=0
 cases h
 exact tF zGr 0 [] (oA 0 (sG l11 (o:=.full))<|oP 0 (zFl h12 h13) k)
 cases h
 exact tF zGr 0 [] (oA 0 (sG l11 (o:=(.st 0 1)))<|oP 0 (zAf h12 h13) k)
 obtain⟨r14,h15,h⟩:=zB h
 obtain⟨l16,h17,h⟩:=zB h
 have k:=oC 4 [] (zUL h15)<|oB 0 h8 k
 by_cases h18:List.length r14=0
 cases h
 exact tF zGr 0 [] (oA 0 (sG l16 (o:=.full))<|oP 0 (zFl h17 h18) k)
 cases h
 exact tF zGr 0 [] (oA 0 (sG l16 (o:=(.st 0 1)))<|oP 0 (zAf h17 h18) k),⟨tv,tv⟩,zA,tv,zA⟩
def nX:Nat->ByteArray->Int->Int->Option Int
 |0,_,_,_=>none
 |b+1,a,c,d=>
 if decide (d<(a.size:Int))then
 pG a d>>=fun x9=>
 nX b a (yN ((yN ((yN (c*64))+(yN (x9))))-128)) (yN (d+1))
 else
 Y5 b c>>=fun r11=>
 if r11 then
 zNM b c>>=fun r14=>
 if !(r14.toList==a.toList)then
 some (-1)
 else
 some c
 else
 some (-1)
def zNN(b:Nat)(a:ByteArray):Option Int:=
 if (a.size:Int)==0 then
 some (-1)
 else
 pG a 0>>=fun x2=>
 if decide ((a.size:Int)>1)then
 zP [0,0,192,224,240] (a.size:Int)>>=fun x5=>
 if decide ((yN ((yN (x2))-x5))<0)then
 some (-1)
 else
 nX b a (yN ((yN (x2))-x5)) 1
 else
 if decide ((yN (x2))<0)then
 some (-1)
 else
 nX b a (yN (x2)) 1
theorem zNO:Qf 202 f202:=⟨func202,rfl⟩
theorem zIo:∀b:Nat,(∀ {a c d r},nX b a c d=some r->(∀j,dL 0 (pt 1048501 f202) (sp j 49 0 [(0,at' a),(3,ai c),(5,ai d)]) (⟨[],0,[],0,[]⟩) (fQ 0 (nQ 0 f202 (ai r) [] 0) [.blk 0,.seq (pt 16383 f202)]))):=by
 intro b
 induction b with
 |zero=>
  exact fun h=>nn h
 |succ b ih=>
  intro a c d r h
  rw[nX]at h
  obtain⟨h8,h⟩|⟨h8,h⟩:=zK h
  obtain⟨x9,h10,h⟩:=zB h
  exact fun j=>lH 4 [] [] [] [0,3,5] (oA 1 (P9 h10)<|oB 1 h8 o0) (ih h)
  obtain⟨r11,h12,h⟩:=zB h
  have k:=oB 1 h8 o0
  obtain⟨h13,h⟩|⟨h13,h⟩:=zK h
  obtain⟨r14,h15,h⟩:=zB h
  have k:=oC 1 [] (yBg h15)<|oK 0 [] h13 (Y6 h12) k
  obtain⟨h16,h⟩|⟨h16,h⟩:=zK h
  obtain rfl:=sj h
  exact fun j=>lF 0 [] (oB 0 h16 k)
  obtain rfl:=sj h
  exact fun j=>lF 0 [] (oB 0 h16 k)
  obtain rfl:=sj h
  exact fun j=>lF 1 [] (oK 0 [] h13 (Y6 h12) k)
theorem yBf{b a r}(h:zNN b a=some r):Ct 202 [] [at' a] (ai r) [] 0:=⟨by
 unfold zNN at h
 obtain⟨h1,h⟩|⟨h1,h⟩:=zK h
 obtain rfl:=sj h
 exact tF zNO 0 [] (oB 1 h1 o0)
 obtain⟨x2,h3,h⟩:=zB h
 have k:=oA 0 (P9 h3)<|oB 1 h1 o0
 obtain⟨h4,h⟩|⟨h4,h⟩:=zK h
 obtain⟨x5,h6,h⟩:=zB h
 have k:=oA 1 (uH (o:=.full) h6)<|oB 3 h4 k
 obtain⟨h7,h⟩|⟨h7,h⟩:=zK h
 obtain rfl:=sj h
 exact tF zNO 0 [] (oB 2 h7 k)
 exact tH zNO 0 [] [] [] [0,3,5] (oB 2 h7 k) (zIo _ h)
 have k:=oB 3 h4 k
 obtain⟨h8,h⟩|⟨h8,h⟩:=zK h
 obtain rfl:=sj h
 exact tF zNO 0 [] (oB 0 h8 k)
 exact tH zNO 0 [] [] [] [0,3,5] (oB 0 h8 k) (zIo _ h),⟨tv,tv⟩,zA,tv,zA⟩
def kZ:Nat->ByteArray->Int->Int->Option (Int×Int×Bool)
 |0,_,_,_=>none
 |c+1,b,a,d=>
 if decide (d≤4)then
 if decide (d≤(yN ((b.size:Int)-a)))then
 zJv b a (yN (a+d))>>=fun x5=>
 zNN c x5>>=fun r7=>
 if decide (r7≥0)then
 some (r7,d,true)
 else
 kZ c b a (yN (d+1))
 else
 some (0,0,false)
 else
 some (0,0,false)
def zNP(c:Nat)(b:ByteArray)(a:Int):Option (Int×Int×Bool):=
 if decide (a<0)then
 some (0,0,false)
 else
 if decide (a≥(b.size:Int))then
 some (0,0,false)
 else
 kZ c b a 1
theorem zUM:Qf 153 f153:=⟨func153,rfl⟩
theorem zRt:∀c:Nat,(∀ {b a d r},kZ c b a d=some r->(∀j,dL 0 (pt 4021 f153) (sp j 40 0 [(0,at' b),(1,ai a),(7,ai d)]) (⟨[],0,[],0,[]⟩) (fQ 0 (nQ 0 f153 (.tup [ai r.1,ai r.2.1,ab r.2.2]) [] 0) [.blk 0,.seq (pt 63 f153)]))):=by
 intro c
 induction c with
 |zero=>
  exact fun h=>nn h
 |succ c ih=>
  intro b a d r h
  rw[kZ]at h
  obtain⟨h3,h⟩|⟨h3,h⟩:=zK h
  have k:=oB 0 h3 o0
  obtain⟨h4,h⟩|⟨h4,h⟩:=zK h
  obtain⟨x5,h6,h⟩:=zB h
  obtain⟨r7,h8,h⟩:=zB h
  have k:=oC 0 [] (yBf h8)<|oA 1 (zTl h6)<|oB 2 h4 k
  obtain⟨h9,h⟩|⟨h9,h⟩:=zK h
  cases h
  exact fun j=>lF 0 [] (oB 0 h9 k)
  exact fun j=>lH 1 [] [] [] [0,1,7] (oB 0 h9 k) (ih h)
  cases h
  exact fun j=>lF 0 [] (oB 2 h4 k)
  cases h
  exact fun j=>lF 0 [] (oB 0 h3 o0)
theorem yBe{c b a r}(h:zNP c b a=some r):Ct 153 [] [at' b,ai a] (.tup [ai r.1,ai r.2.1,ab r.2.2]) [] 0:=⟨by
 unfold zNP at h
 obtain⟨h1,h⟩|⟨h1,h⟩:=zK h
 cases h
 exact tF zUM 0 [] (oB 0 h1 o0)
 have k:=oB 0 h1 o0
 obtain⟨h2,h⟩|⟨h2,h⟩:=zK h
 cases h
 exact tF zUM 0 [] (oB 1 h2 k)
 exact tH zUM 0 [] [] [] [0,1,7] (oB 1 h2 k) (zRt _ h),⟨tv,tv,tv⟩,zA,⟨tv,tv,tv,tv⟩,zA⟩
def dvT:Nat->Int->Int
 |0,x=>x
 |m+1,x=>dvT m (x / 64)
theorem zEu(n:Int)(out:List Int)(i:Nat)(hi:i≤4)(ho:out.length≤10){r:List Int}:∀(m k:Nat) (x:Int),k+m=i->0≤x->x≤1114111->zF (fun q=>qP q n (out++[128+dvT m x % 64]) ((i:Int)-1)) r->zF (fun q=>kY q n out (i:Int) x (k:Int)) r
 |0,k,x,hk,h0,h1,h=>by
  refine zF.succ ?_
  simp only[kY]
  have e:IntKind.u8.wrap (yN (128+Int.tmod x 64))=128+dvT 0 x % 64:=by
   rw[Int.tmod_eq_emod_of_nonneg h0,zW (by omega) (by omega),zEy (by omega) (by omega)];rfl
  rw[e]
  refine zF.ifF (decide_eq_false (by omega)) (zF.pure (yU (by simp;omega)) ?_)
  rw[zW (by omega) (by omega)]
  exact h
 |m+1,k,x,hk,h0,h1,h=>by
  refine zF.succ ?_
  simp only[kY]
  have e:yN (Int.tdiv x 64)=x / 64:=by rw[Int.tdiv_eq_ediv_of_nonneg h0,zW (by omega) (by omega)]
  rw[e,yB k (by omega)]
  exact zF.ifT (decide_eq_true (by omega)) (zEu n out i hi ho m (k+1) (x / 64) (by omega) (by omega) (by omega) h)
theorem U3(n:Int)(out:List Int):zF (fun q=>qP q n out (-1)) out:=by
 refine zF.succ ?_
 simp only[qP]
 exact zF.ifF rfl zF.ret
theorem lM(n:Int)(h0:0≤n)(h1:n≤1114111)(out:List Int)(i:Nat)(hi:i≤4)(ho:out.length≤10){r:List Int}(h:zF (fun q=>qP q n (out++[128+dvT i n % 64]) ((i:Int)-1)) r):zF (fun q=>qP q n out (i:Int)) r:=by
 refine zF.succ ?_
 simp only[qP]
 exact zF.ifT (decide_eq_true (by omega)) (zEu n out i hi ho i 0 n (by omega) h0 h1 h)
theorem zUN{n:Int}(h0:0≤n)(h1:n≤1114111):zF (fun q=>zNM q n) (jQ (tD n)):=by
 have t1:zF (fun q=>U1 q n 1) [128+n % 64]:=by
  simp only[U1]
  exact lM n h0 h1 [] 0 (by omega) (by simp) (U3 n _)
 have t2:zF (fun q=>U1 q n 2) [128+n / 64 % 64,128+n % 64]:=by
  simp only[U1]
  exact lM n h0 h1 [] 1 (by omega) (by simp) (lM n h0 h1 _ 0 (by omega) (by simp) (U3 n _))
 have t3:zF (fun q=>U1 q n 3) [128+n / 64 / 64 % 64,128+n / 64 % 64,128+n % 64]:=by
  simp only[U1]
  exact lM n h0 h1 [] 2 (by omega) (by simp) (lM n h0 h1 _ 1 (by omega) (by simp) (lM n h0 h1 _ 0 (by omega) (by simp) (U3 n _)))
 have e0:n<256->IntKind.u8.wrap n=n:=fun h=>zEy h0 h
 have e1:n<2048->IntKind.u8.wrap (yN (192+yN (Int.tdiv n 64)))=192+n / 64:=fun h=>by
  rw[Int.tdiv_eq_ediv_of_nonneg h0,zW (x:=n / 64) (by omega) (by omega),zW (by omega) (by omega),zEy (by omega) (by omega)]
 have e2:n<65536->IntKind.u8.wrap (yN (224+yN (Int.tdiv n 4096)))=224+n / 4096:=fun h=>by
  rw[Int.tdiv_eq_ediv_of_nonneg h0,zW (x:=n / 4096) (by omega) (by omega),zW (by omega) (by omega),zEy (by omega) (by omega)]
 have e3:IntKind.u8.wrap (yN (240+yN (Int.tdiv n 262144)))=240+n / 262144:=by
  rw[Int.tdiv_eq_ediv_of_nonneg h0,zW (x:=n / 262144) (by omega) (by omega),zW (by omega) (by omega),zEy (by omega) (by omega)]
 simp only[zNM]
 unfold tD
 by_cases h2:n<128
 ·rw[if_pos h2,e0 (by omega)];exact zF.ifT (decide_eq_true h2) zF.ret
 ·rw[if_neg h2]
  refine zF.ifF (decide_eq_false h2) ?_
  by_cases h3:n<2048
  ·rw[if_pos h3,e1 h3];exact zF.ifT (decide_eq_true h3) (t1.bind (zF.pure (yU (by simp)) zF.ret))
  ·rw[if_neg h3]
   refine zF.ifF (decide_eq_false h3) ?_
   by_cases h4:n<65536
   ·rw[if_pos h4,e2 h4];exact zF.ifT (decide_eq_true h4) (t2.bind (zF.pure (yU (by simp)) zF.ret))
   ·rw[if_neg h4,e3];exact zF.ifF (decide_eq_false h4) (t3.bind (zF.pure (yU (by simp)) zF.ret))
theorem zKi{n:Int}(h0:0≤n)(h1:n≤1114111):∀c∈tD n,0≤c∧c<256:=by
 unfold tD
 intro c hc
 split at hc
 ·simp at hc;omega
 ·split at hc
  ·simp at hc;omega
  ·split at hc
   ·simp at hc;omega
   ·simp at hc;omega
def pR(m:Nat):Int:=if m=2 then 192 else if m=3 then 224 else if m=4 then 240 else 0
def iQ:Int->List Int->Int
 |n,[]=>n
 |n,d::r=>iQ (n*64+d-128) r
def iR:List Int->Int
 | []=>-1
 |c::r=>if c-pR (r.length+1)<0 then -1 else if kX (iQ (c-pR (r.length+1)) r)=true∧tD (iQ (c-pR (r.length+1)) r)=c::r then iQ (c-pR (r.length+1)) r else -1
theorem zNQ{l:List Int}(h:0≤iR l):kX (iR l)=true∧tD (iR l)=l:=by
 cases l with
 |nil=>rw[iR]at h;omega
 |cons c r=>
  rw[iR]at h ⊢
  split at h
  ·omega
  ·rename_i h1
   rw[if_neg h1]
   split at h
   ·rename_i h2;rw[if_pos h2];exact h2
   ·omega
theorem zRs{n:Int}(h:kX n=true):iR (tD n)=n:=by
 have h':=of_decide_eq_true h
 have key:∀c r,tD n=c::r->iQ (c-pR (r.length+1)) r=n->0≤c-pR (r.length+1)->iR (tD n)=n:=fun c r h1 h2 h3=>by
  rw[h1,iR,if_neg (by omega),h2,if_pos ⟨h,h1⟩]
 by_cases h1:n<128
 ·exact key n [] (by unfold tD;rw[if_pos h1]) (by simp[pR,iQ]) (by simp[pR];omega)
 ·by_cases h2:n<2048
  ·exact key _ _ (by unfold tD;rw[if_neg h1,if_pos h2]) (by simp only[List.length_cons,List.length_nil,pR,iQ];simp;omega) (by simp[pR];omega)
  ·by_cases h3:n<65536
   ·exact key _ _ (by unfold tD;rw[if_neg h1,if_neg h2,if_pos h3]) (by simp only[List.length_cons,List.length_nil,pR,iQ];simp;omega) (by simp[pR];omega)
   ·exact key _ _ (by unfold tD;rw[if_neg h1,if_neg h2,if_neg h3]) (by simp only[List.length_cons,List.length_nil,pR,iQ];simp;omega) (by simp[pR];omega)
def zBb(i:Nat):Int:=if i≤1 then 256 else if i=2 then 17000 else if i=3 then 1100000 else 71000000
theorem U4(s:ByteArray)(hs:s.size≤4):∀(m i:Nat) (n:Int),i+m=s.size->1≤i->-zBb i≤n->n≤zBb i ->
  zF (fun q=>nX q s n (i:Int)) (if kX (iQ n ((bs s).drop i))=true∧tD (iQ n ((bs s).drop i))=bs s then iQ n ((bs s).drop i)else -1)
 |0,i,n,hm,hi,h0,h1=>by
  refine zF.succ ?_
  simp only[nX]
  rw[List.drop_eq_nil_of_le (by rw[sJ];omega),iQ]
  refine zF.ifF (decide_eq_false (by omega)) ((zIp n).bind ?_)
  by_cases hr:kX n=true
  ·have hr':=of_decide_eq_true hr
   refine zF.ifT hr ((zUN (by omega) (by omega)).bind ?_)
   have e:((jQ (tD n)).toList==s.toList)=decide (tD n=bs s):=by
    rw[zIq,zRz _ (zKi (by omega) (by omega))]
   rw[e]
   by_cases hp:tD n=bs s
   ·exact(zF.ifF (by simp[hp]) zF.ret).eq (by rw[if_pos ⟨hr,hp⟩])
   ·exact(zF.ifT (by simp[hp]) zF.ret).eq (by rw[if_neg (fun h=>hp h.2)])
  ·exact(zF.ifF (by simpa using hr) zF.ret).eq (by rw[if_neg (fun h=>hr h.1)])
 |m+1,i,n,hm,hi,h0,h1=>by
  have hlt:i<(bs s).length:=by rw[sJ];omega
  have hc:=iP (List.getElem_mem hlt)
  have hd:(bs s).drop i=(bs s)[i]::(bs s).drop (i+1):=List.drop_eq_getElem_cons hlt
  refine zF.succ ?_
  simp only[nX]
  have hg:pG s (i:Int)=some (bs s)[i]:=by rw[aG s (by omega),Int.toNat_natCast];exact List.getElem?_eq_getElem hlt
  refine zF.ifT (decide_eq_true (by omega)) (zF.pure hg ?_)
  rw[hd,iQ]
  generalize (bs s)[i]=c at *
  have hb:-71000000≤n∧n≤71000000:=by unfold zBb at h0 h1;split at h0<;>(try split at h0)<;>(try split at h0)<;>omega
  rw[zW (x:=n*64) (by omega) (by omega),zW (x:=c) (by omega) (by omega),zW (x:=n*64+c) (by omega) (by omega),zW (x:=n*64+c-128) (by omega) (by omega),yB i (by omega)]
  have hi3:i=1∨i=2∨i=3:=by omega
  refine U4 s hs m (i+1) _ (by omega) (by omega) ?_ ?_
  ·rcases hi3 with rfl|rfl|rfl<;>simp[zBb]at h0 h1 ⊢ <;> omega
  ·rcases hi3 with rfl|rfl|rfl<;>simp[zBb]at h0 h1 ⊢ <;> omega
theorem zKh(s:ByteArray)(hs:s.size≤4)(h1:1≤s.size):zF (fun q=>zNN q s) (iR (bs s)):=by
 have hlen:=sJ s
 have hlt:0<(bs s).length:=by omega
 have hc:=iP (List.getElem_mem hlt)
 have hd:bs s=(bs s)[0]::(bs s).drop 1:=by
  have:=List.drop_eq_getElem_cons hlt
  simpa using this
 have hl1:((bs s).drop 1).length+1=s.size:=by rw[List.length_drop];omega
 simp only[zNN]
 have hg:pG s 0=some (bs s)[0]:=by rw[aG s (by omega)];exact List.getElem?_eq_getElem hlt
 refine zF.ifF (beq_eq_false_iff_ne.2 (by omega)) (zF.pure hg ?_)
 have hN:iR (bs s)=if (bs s)[0]-pR s.size<0 then -1 else if kX (iQ ((bs s)[0]-pR s.size) ((bs s).drop 1))=true∧tD (iQ ((bs s)[0]-pR s.size) ((bs s).drop 1))=bs s then iQ ((bs s)[0]-pR s.size) ((bs s).drop 1)else -1:=by
  conv=>lhs;rw[hd,iR]
  rw[hl1,←hd]
 rw[hN]
 have hL:=U4 s hs (s.size-1) 1
 generalize (bs s)[0]=c at *
 by_cases h2:1<s.size
 ·have hf:zP [0,0,192,224,240] (s.size:Int)=some (pR s.size):=by
   rcases(by omega:s.size=2∨s.size=3∨s.size=4)with e|e|e<;>rw[e]<;>rfl
  have hfb:0≤pR s.size∧pR s.size≤240:=by unfold pR;split<;>(try split)<;>(try split)<;>omega
  refine zF.ifT (decide_eq_true (by omega)) (zF.pure hf ?_)
  rw[zW (x:=c) (by omega) (by omega),zW (by omega) (by omega)]
  by_cases h3:c-pR s.size<0
  ·exact(zF.ifT (decide_eq_true h3) zF.ret).eq (by rw[if_pos h3])
  ·refine(zF.ifF (decide_eq_false h3) ?_).eq (by rw[if_neg h3])
   exact hL _ (by omega) (by omega) (by simp[zBb];omega) (by simp[zBb];omega)
 ·have hs1:pR s.size=0:=by rw[show s.size=1 by omega];rfl
  refine zF.ifF (decide_eq_false (by omega)) ?_
  rw[zW (x:=c) (by omega) (by omega),hs1,Int.sub_zero]
  refine(zF.ifF (decide_eq_false (by omega)) ?_).eq (by rw[if_neg (by omega)])
  exact hL _ (by omega) (by omega) (by simp[zBb];omega) (by simp[zBb];omega)
def zRr(o:Option (Int×Nat)):Int×Int×Bool:=match o with
 |some (n,w)=>(n,(w:Int),true)
 |none=>(0,0,false)
theorem zRq{l:List Int}{w:Nat}(hl:w≤l.length)(h:0≤iR (l.take w)):pE l=some (iR (l.take w),w):=by
 obtain⟨h1,h2⟩:=zNQ h
 have h3:=zRy h1 (l.drop w)
 have h4:(tD (iR (l.take w))).length=w:=by rw[h2,List.length_take];omega
 rw[h4]at h3
 rw[h2,List.take_append_drop]at h3
 exact h3
theorem K7{l:List Int}{n:Int}{w:Nat}(hb:∀c∈l,0≤c∧c<256)(h:pE l=some (n,w)):1≤w∧w≤4∧w≤l.length∧iR (l.take w)=n∧0≤n:=by
 obtain⟨h1,h2,h3⟩:=zEz hb h
 have h4:1≤w∧w≤4:=by rw[h2,K6];unfold mT;split<;>(try split)<;>(try split)<;>omega
 have h5:w≤l.length:=by rw[h3,List.length_append];omega
 have h6:l.take w=tD n:=by rw[h3,h2];simp
 exact⟨h4.1,h4.2,h5,by rw[h6];exact zRs h1,(of_decide_eq_true h1).1⟩
theorem j6(s:ByteArray)(a:Nat)(hs:s.size≤65535)(ha:a<s.size):∀(m w:Nat),w+m=5->1≤w->(∀v,1≤v->v<w->v≤((bs s).drop a).length->iR (((bs s).drop a).take v)<0)->zF (fun q=>kZ q s (a:Int) (w:Int)) (zRr (pE ((bs s).drop a)))
 |0,w,hm,hw,hb=>by
  have hmem:∀c∈(bs s).drop a,0≤c∧c<256:=fun c hc=>iP (List.mem_of_mem_drop hc)
  refine zF.succ ?_
  simp only[kZ]
  have hn:pE ((bs s).drop a)=none:=by
   cases hx:pE ((bs s).drop a)with
   |none=>rfl
   |some x=>obtain⟨h1,h2,h3,h4,h5⟩:=K7 hmem (n:=x.1) (w:=x.2) hx;have:=hb x.2 h1 (by omega) h3;omega
  rw[hn]
  exact zF.ifF (decide_eq_false (by omega)) zF.ret
 |m+1,w,hm,hw,hb=>by
  have hmem:∀c∈(bs s).drop a,0≤c∧c<256:=fun c hc=>iP (List.mem_of_mem_drop hc)
  have hdl:((bs s).drop a).length=s.size-a:=by rw[List.length_drop,sJ]
  refine zF.succ ?_
  simp only[kZ]
  refine zF.ifT (decide_eq_true (by omega)) ?_
  rw[zW (x:=(s.size:Int)-a) (by omega) (by omega)]
  by_cases hl:w≤s.size-a
  ·refine zF.ifT (decide_eq_true (by omega)) ?_
   obtain⟨x,hx,hxb⟩:=zQZ s (a:=a) (b:=a+w) (by omega) (by omega)
   rw[zW (x:=(a:Int)+w) (by omega) (by omega),show (a:Int)+w=((a+w:Nat):Int) by omega]
   rw[Nat.add_sub_cancel_left]at hxb
   have hxs:x.size=w:=by rw[←sJ,hxb,List.length_take];omega
   refine zF.pure hx ((zKh x (by omega) (by omega)).bind ?_)
   rw[hxb]
   by_cases hn:0≤iR (((bs s).drop a).take w)
   ·rw[zRq (by omega) hn]
    exact zF.ifT (decide_eq_true (by omega)) zF.ret
   ·refine zF.ifF (decide_eq_false (by omega)) ?_
    rw[yB w (by omega)]
    refine j6 s a hs ha m (w+1) (by omega) (by omega) fun v h1 h2 h3=>?_
    by_cases e:v=w
    ·subst e;omega
    ·exact hb v h1 (by omega) h3
  ·have hn:pE ((bs s).drop a)=none:=by
    cases hx:pE ((bs s).drop a)with
    |none=>rfl
    |some x=>obtain⟨h1,h2,h3,h4,h5⟩:=K7 hmem (n:=x.1) (w:=x.2) hx;have:=hb x.2 h1 (by omega) h3;omega
   rw[hn]
   exact zF.ifF (decide_eq_false (by omega)) zF.ret
theorem zNR(s:ByteArray)(a:Nat)(hs:s.size≤65535)(ha:a<s.size):zF (fun q=>zNP q s (a:Int)) (zRr (pE ((bs s).drop a))):=by
 simp only[zNP]
 exact zF.ifF (decide_eq_false (by omega)) (zF.ifF (decide_eq_false (by omega)) (j6 s a hs ha 4 1 (by omega) (by omega) fun v h1 h2=>by omega))
def jA:Nat->yD->Int->Int->Option Bool
 |0,_,_,_=>none
 |c+1,a,b,d=>
 if decide (d<(a.length:Int))then
 zP a d>>=fun x2=>
 if x2==b then
 some true
 else
 jA c a b (yN (d+1))
 else
 some false
def zRp(c:Nat)(a:yD)(b:Int):Option Bool:=
 jA c a b 0
theorem zRo:∀c:Nat,(∀ {a b d r},jA c a b d=some r->(∀j,dL 0 (pt 949 f203) (sp j 18 0 [(0,zH zU a .no),(1,ai b),(5,ai d)]) (⟨[],0,[],0,[]⟩) (fQ 0 (nQ 0 f203 (ab r) [] 0) [.blk 0,.seq (pt 15 f203)]))):=by
 intro c
 induction c with
 |zero=>
  exact fun h=>nn h
 |succ c ih=>
  intro a b d r h
  rw[jA]at h
  obtain⟨h1,h⟩|⟨h1,h⟩:=zK h
  obtain⟨x2,h3,h⟩:=zB h
  have k:=oA 0 (uH (o:=.no) h3)<|oB 1 h1 o0
  obtain⟨h4,h⟩|⟨h4,h⟩:=zK h
  cases h
  exact fun j=>lF 0 [] (oB 1 h4 k)
  exact fun j=>lH 1 [] [] [] [0,1,5] (oD (dI a)<|oB 1 h4 k) (ih h)
  cases h
  exact fun j=>lF 0 [] (oB 1 h1 o0)
theorem yBd{c a b r}(h:zRp c a b=some r):Ct 203 [] [zH zU a .no,ai b] (ab r) [] 0:=⟨by
 unfold zRp at h
 exact tH ⟨func203,rfl⟩ 0 [] [] [] [0,1,5] (oD (dI a) o0) (zRo _ h),⟨⟨tv,dI _⟩,tv,tv⟩,zA,tv,zA⟩
def zBa(b:Nat)(a:Int):Option Bool:=
 zRp b [40,41,123,125,58,61,46,44,59,124,92,955,8594,45,62] a>>=fun r1=>
 some r1
theorem zEt{b a r}(h:zBa b a=some r):Ct 155 [] [ai a] (ab r) [] 0:=⟨by
 unfold zBa at h
 obtain⟨r1,h2,h⟩:=zB h
 obtain rfl:=sj h
 exact tF ⟨func155,rfl⟩ 0 [] (oC 1 [] (yBd h2) o0),⟨tv,tv⟩,zA,tv,zA⟩
def jB:Nat->ByteArray->yD->Int->Option (yD×Int×Int)
 |0,_,_,_=>none
 |b+1,a,d,c=>
 if decide (c<(a.size:Int))then
 zNP b a c>>=fun r3=>
 if r3.2.2 then
 xB 8 d [r3.1]>>=fun l6=>
 jB b a l6 (yN (c+r3.2.1))
 else
 some ([],c,1)
 else
 some (d,(a.size:Int),0)
def e91(b:Nat)(a:ByteArray):Option (yD×Int×Int):=
 if decide ((a.size:Int)>65535)then
 some ([],0,2)
 else
 jB b a [] 0
theorem q91:Qf 91 f91:=⟨func91,rfl⟩
theorem zUO:∀b:Nat,(∀ {a d c r},jB b a d c=some r->(∀j,dL 0 (pt 16357 f91) (sp j 38 0 [(0,at' a),(5,zH zU d (.st 0 1)),(6,ai c)]) (⟨[],0,[0],1,[]⟩) (fQ 0 (nQ 0 f91 (.tup [.sl (zG zU r.1) r.1.length .no,ai r.2.1,ai r.2.2]) [] 0) [.blk 0,.seq (pt 1023 f91)]))):=by
 intro b
 induction b with
 |zero=>
  exact fun h=>nn h
 |succ b ih=>
  intro a d c r h
  rw[jB]at h
  obtain⟨h2,h⟩|⟨h2,h⟩:=zK h
  obtain⟨r3,h4,h⟩:=zB h
  have k:=oC 0 [] (yBe h4)<|oB 1 h2 o0
  obtain⟨h5,h⟩|⟨h5,h⟩:=zK h
  obtain⟨l6,h7,h⟩:=zB h
  exact fun j=>lH 1 [] [] [1] [0,5,6] (oD (dI l6)<|oP 2 (tN h7 (by simp))<|oB 2 h5 k) (ih h)
  cases h
  exact fun j=>lF 1 [] (oD (dI ([]:yD))<|oB 2 h5 k)
  cases h
  exact fun j=>lF 1 [] (oD (dI d)<|oB 1 h2 o0)
theorem c91{b a r}(h:e91 b a=some r):Ct 91 [] [at' a] (.tup [.sl (zG zU r.1) r.1.length .no,ai r.2.1,ai r.2.2]) [] 0:=⟨by
 unfold e91 at h
 obtain⟨h1,h⟩|⟨h1,h⟩:=zK h
 cases h
 exact tF q91 0 [] (oD (dI ([]:yD))<|oB 1 h1 o0)
 exact tH q91 1 [(none,5,1)] [] [0] [0,5,6] (oD (dI ([]:yD))<|oB 1 h1 o0) (zUO _ h),⟨tv,tv⟩,zA,⟨dI _,tv,tv,tv⟩,zA⟩
def e93(b:Nat)(a:Int):Option Bool:=
 if decide (a≥97)then
 if decide (a≤122)then
 some true
 else
 if decide (a≥65)then
 if decide (a≤90)then
 some true
 else
 if decide (a≥128)then
 Y5 b a>>=fun r6=>
 if r6 then
 zBa b a>>=fun r9=>
 if r9 then
 some false
 else
 if a != 160 then
 if decide (a≥8192)then
 some (!(decide (a≤8303)))
 else
 some true
 else
 some false
 else
 some false
 else
 some false
 else
 if decide (a≥128)then
 Y5 b a>>=fun r15=>
 if r15 then
 zBa b a>>=fun r18=>
 if r18 then
 some false
 else
 if a != 160 then
 if decide (a≥8192)then
 some (!(decide (a≤8303)))
 else
 some true
 else
 some false
 else
 some false
 else
 some false
 else
 if decide (a≥65)then
 if decide (a≤90)then
 some true
 else
 if decide (a≥128)then
 Y5 b a>>=fun r26=>
 if r26 then
 zBa b a>>=fun r29=>
 if r29 then
 some false
 else
 if a != 160 then
 if decide (a≥8192)then
 some (!(decide (a≤8303)))
 else
 some true
 else
 some false
 else
 some false
 else
 some false
 else
 if decide (a≥128)then
 Y5 b a>>=fun r35=>
 if r35 then
 zBa b a>>=fun r38=>
 if r38 then
 some false
 else
 if a != 160 then
 if decide (a≥8192)then
 some (!(decide (a≤8303)))
 else
 some true
 else
 some false
 else
 some false
 else
 some false
theorem D7:Qf 93 f93:=⟨func93,rfl⟩
theorem c93{b a r}(h:e93 b a=some r):Ct 93 [] [ai a] (ab r) [] 0:=⟨by
 unfold e93 at h
 obtain⟨h1,h⟩|⟨h1,h⟩:=zK h
 have k:=oB 0 h1 o0
 obtain⟨h2,h⟩|⟨h2,h⟩:=zK h
 cases h
 exact tF D7 0 [] (oB 0 h2 k)
 have k:=oB 0 h2 k
 obtain⟨h3,h⟩|⟨h3,h⟩:=zK h
 have k:=oB 0 h3 k
 obtain⟨h4,h⟩|⟨h4,h⟩:=zK h
 cases h
 exact tF D7 0 [] (oB 0 h4 k)
 have k:=oB 0 h4 k
 obtain⟨h5,h⟩|⟨h5,h⟩:=zK h
 obtain⟨r6,h7,h⟩:=zB h
 have k:=oB 0 h5 k
 obtain⟨h8,h⟩|⟨h8,h⟩:=zK h
 obtain⟨r9,h10,h⟩:=zB h
 have k:=oK 0 [] h8 (Y6 h7) k
 obtain⟨h11,h⟩|⟨h11,h⟩:=zK h
 cases h
 exact tF D7 1 [] (oK 0 [] h11 (zEt h10) k)
 have k:=oK 0 [] h11 (zEt h10) k
 obtain⟨h12,h⟩|⟨h12,h⟩:=zK h
 have k:=oB 1 h12 k
 obtain⟨h13,h⟩|⟨h13,h⟩:=zK h
 cases h
 exact tF D7 2 [] (oB 0 h13 k)
 cases h
 exact tF D7 1 [] (oB 0 h13 k)
 cases h
 exact tF D7 0 [] (oB 1 h12 k)
 cases h
 exact tF D7 0 [] (oK 0 [] h8 (Y6 h7) k)
 cases h
 exact tF D7 0 [] (oB 0 h5 k)
 have k:=oB 0 h3 k
 obtain⟨h14,h⟩|⟨h14,h⟩:=zK h
 obtain⟨r15,h16,h⟩:=zB h
 have k:=oB 0 h14 k
 obtain⟨h17,h⟩|⟨h17,h⟩:=zK h
 obtain⟨r18,h19,h⟩:=zB h
 have k:=oK 0 [] h17 (Y6 h16) k
 obtain⟨h20,h⟩|⟨h20,h⟩:=zK h
 cases h
 exact tF D7 1 [] (oK 0 [] h20 (zEt h19) k)
 have k:=oK 0 [] h20 (zEt h19) k
 obtain⟨h21,h⟩|⟨h21,h⟩:=zK h
 have k:=oB 1 h21 k
 obtain⟨h22,h⟩|⟨h22,h⟩:=zK h
 cases h
 exact tF D7 2 [] (oB 0 h22 k)
 cases h
 exact tF D7 1 [] (oB 0 h22 k)
 cases h
 exact tF D7 0 [] (oB 1 h21 k)
 cases h
 exact tF D7 0 [] (oK 0 [] h17 (Y6 h16) k)
 cases h
 exact tF D7 0 [] (oB 0 h14 k)
 have k:=oB 0 h1 o0
 obtain⟨h23,h⟩|⟨h23,h⟩:=zK h
 have k:=oB 0 h23 k
 obtain⟨h24,h⟩|⟨h24,h⟩:=zK h
 cases h
 exact tF D7 0 [] (oB 0 h24 k)
 have k:=oB 0 h24 k
 obtain⟨h25,h⟩|⟨h25,h⟩:=zK h
 obtain⟨r26,h27,h⟩:=zB h
 have k:=oB 0 h25 k
 obtain⟨h28,h⟩|⟨h28,h⟩:=zK h
 obtain⟨r29,h30,h⟩:=zB h
 have k:=oK 0 [] h28 (Y6 h27) k
 obtain⟨h31,h⟩|⟨h31,h⟩:=zK h
 cases h
 exact tF D7 1 [] (oK 0 [] h31 (zEt h30) k)
 have k:=oK 0 [] h31 (zEt h30) k
 obtain⟨h32,h⟩|⟨h32,h⟩:=zK h
 have k:=oB 1 h32 k
 obtain⟨h33,h⟩|⟨h33,h⟩:=zK h
 cases h
 exact tF D7 2 [] (oB 0 h33 k)
 cases h
 exact tF D7 1 [] (oB 0 h33 k)
 cases h
 exact tF D7 0 [] (oB 1 h32 k)
 cases h
 exact tF D7 0 [] (oK 0 [] h28 (Y6 h27) k)
 cases h
 exact tF D7 0 [] (oB 0 h25 k)
 have k:=oB 0 h23 k
 obtain⟨h34,h⟩|⟨h34,h⟩:=zK h
 obtain⟨r35,h36,h⟩:=zB h
 have k:=oB 0 h34 k
 obtain⟨h37,h⟩|⟨h37,h⟩:=zK h
 obtain⟨r38,h39,h⟩:=zB h
 have k:=oK 0 [] h37 (Y6 h36) k
 obtain⟨h40,h⟩|⟨h40,h⟩:=zK h
 cases h
 exact tF D7 1 [] (oK 0 [] h40 (zEt h39) k)
 have k:=oK 0 [] h40 (zEt h39) k
 obtain⟨h41,h⟩|⟨h41,h⟩:=zK h
 have k:=oB 1 h41 k
 obtain⟨h42,h⟩|⟨h42,h⟩:=zK h
 cases h
 exact tF D7 2 [] (oB 0 h42 k)
 cases h
 exact tF D7 1 [] (oB 0 h42 k)
 cases h
 exact tF D7 0 [] (oB 1 h41 k)
 cases h
 exact tF D7 0 [] (oK 0 [] h37 (Y6 h36) k)
 cases h
 exact tF D7 0 [] (oB 0 h34 k),⟨tv,tv⟩,zA,tv,zA⟩
def e94(b:Nat)(a:Int):Option Bool:=
 if decide (a≥48)then
 some (decide (a≤57))
 else
 some false
theorem q94:Qf 94 f94:=⟨func94,rfl⟩
theorem c94{b a r}(h:e94 b a=some r):Ct 94 [] [ai a] (ab r) [] 0:=⟨by
 unfold e94 at h
 obtain⟨h1,h⟩|⟨h1,h⟩:=zK h
 cases h
 exact tF q94 1 [] (oB 0 h1 o0)
 cases h
 exact tF q94 0 [] (oB 0 h1 o0),⟨tv,tv⟩,zA,tv,zA⟩
def dN:Nat->List Int->Option (List Int)
 |0,_=>some []
 |_+1,[]=>some []
 |m+1,c::r=>match pE (c::r)with
  |some (n,w)=>(dN m ((c::r).drop w)).map fun L=>n::L
  |none=>none
theorem zIn:∀(m:Nat) (l L:List Int),(∀c∈l,0≤c∧c<256)->l.length≤m->dN m l=some L->l=L.flatMap tD
 |0,l,L,_,hl,h=>by
  rw[dN]at h;cases h
  cases l with
  |nil=>rfl
  |cons _ _=>simp at hl
 |m+1,[],L,_,_,h=>by rw[dN]at h;cases h;rfl
 |m+1,c::r,L,hb,hl,h=>by
  rw[dN]at h
  cases hd:pE (c::r)with
  |none=>rw[hd]at h;cases h
  |some x=>
   obtain⟨n,w⟩:=x
   rw[hd]at h
   obtain⟨L',hL,rfl⟩:=Option.map_eq_some_iff.1 h
   obtain⟨h1,-,h3,-,-⟩:=K7 hb hd
   have:=zIn m ((c::r).drop w) L' (fun x hx=>hb x (List.mem_of_mem_drop hx)) (by rw[List.length_drop];omega) hL
   rw[List.flatMap_cons,←this]
   exact(zEz hb hd).2.2
def j7(s:ByteArray)(acc:List Int)(m a:Nat)(f:Nat->Option (List Int×Int×Int)):Prop:=
 (∃L,dN m ((bs s).drop a)=some L∧zF f (acc++L,(s.size:Int),0))∨(dN m ((bs s).drop a)=none∧∃i,zF f ([],i,1))
theorem zRn(m:Nat):dN m []=some []:=by cases m<;>rw[dN]
theorem zEs(m:Nat){l:List Int}(h:l≠[]):dN (m+1) l=match pE l with
  |some (n,w)=>(dN m (l.drop w)).map fun L=>n::L
  |none=>none:=by
 cases l with
 |nil=>exact absurd rfl h
 |cons c r=>rw[dN]
theorem zEr{s:ByteArray}{acc:List Int}{m a w:Nat}{n:Int}{f g:Nat->Option (List Int×Int×Int)}(ha:a<s.size)(hd:pE ((bs s).drop a)=some (n,w))(h:j7 s (acc++[n]) m (a+w) f)(k:∀r,zF f r->zF g r):j7 s acc (m+1) a g:=by
 have hne:(bs s).drop a≠[]:=fun e=>by have:=congrArg List.length e;rw[List.length_drop,sJ]at this;simp at this;omega
 have e:dN (m+1) ((bs s).drop a)=(dN m ((bs s).drop (a+w))).map fun L=>n::L:=by rw[zEs m hne,hd];simp only[List.drop_drop]
 rcases h with⟨L,h1,h2⟩|⟨h1,i,h2⟩
 ·exact .inl ⟨n::L,by rw[e,h1];rfl,k _ (by simpa using h2)⟩
 ·exact .inr ⟨by rw[e,h1];rfl,i,k _ h2⟩
theorem zIm{s:ByteArray}{acc:List Int}{m a:Nat}{i:Int}{g:Nat->Option (List Int×Int×Int)}(ha:a<s.size)(hd:pE ((bs s).drop a)=none)(k:zF g ([],i,1)):j7 s acc (m+1) a g:=by
 have hne:(bs s).drop a≠[]:=fun e=>by have:=congrArg List.length e;rw[List.length_drop,sJ]at this;simp at this;omega
 exact .inr ⟨by rw[zEs m hne,hd],i,k⟩
theorem K8{s:ByteArray}{acc:List Int}{m a:Nat}{g:Nat->Option (List Int×Int×Int)}(ha:s.size≤a)(k:zF g (acc,(s.size:Int),0)):j7 s acc m a g:=by
 have e:(bs s).drop a=[]:=List.drop_eq_nil_of_le (by rw[sJ];exact ha)
 exact .inl ⟨[],by rw[e,zRn],by simpa using k⟩
theorem zSN{s:ByteArray}{a w:Nat}{n:Int}(hd:pE ((bs s).drop a)=some (n,w)):1≤w∧a+w≤s.size∧w≤4:=by
 obtain⟨h1,h2,h3,-,-⟩:=K7 (fun c hc=>iP (List.mem_of_mem_drop hc)) hd
 rw[List.length_drop,sJ]at h3
 exact⟨h1,by omega,h2⟩
theorem zEq(s:ByteArray)(hs:s.size≤65535):∀(m a:Nat) (acc:List Int),s.size≤a+m->acc.length≤a->a≤s.size->j7 s acc m a (fun q=>sT q s acc (a:Int))
 |0,a,acc,hm,hl,_=>K8 (by omega) (zF.succ (by simp only[sT];exact zF.ifF (decide_eq_false (by omega)) zF.ret))
 |m+1,a,acc,hm,hl,hle=>by
  by_cases ha:a<s.size
  ·have hx:=zNK s a hs ha
   cases hd:pE ((bs s).drop a)with
   |none=>
    rw[hd]at hx
    exact zIm (i:=(a:Int)) ha hd (zF.succ (by simp only[sT];exact zF.ifT (decide_eq_true (by omega)) (hx.bind (zF.ifT rfl zF.ret))))
   |some x=>
    obtain⟨n,w⟩:=x
    rw[hd]at hx
    have hw:=zSN hd
    refine zEr ha hd (zEq s hs m (a+w) (acc++[n]) (by omega) (by simp;omega) hw.2.1) fun r hr=>zF.succ ?_
    simp only[sT]
    refine zF.ifT (decide_eq_true (by omega)) (hx.bind (zF.ifF rfl (zF.pure (yU (by simp;omega)) ?_)))
    have e:yN ((a:Int)+(zRu (some (n,w))).2.1)=((a+w:Nat):Int):=by simp only[zRu];rw[zW (by omega) (by omega)];omega
    rw[e];exact hr
  ·exact K8 (by omega) (zF.succ (by simp only[sT];exact zF.ifF (decide_eq_false (by omega)) zF.ret))
theorem zEp(s:ByteArray)(hs:s.size≤65535):∀(m a:Nat) (acc:List Int),s.size≤a+m->acc.length≤a->a≤s.size->j7 s acc m a (fun q=>jB q s acc (a:Int))
 |0,a,acc,hm,hl,_=>K8 (by omega) (zF.succ (by simp only[jB];exact zF.ifF (decide_eq_false (by omega)) zF.ret))
 |m+1,a,acc,hm,hl,hle=>by
  by_cases ha:a<s.size
  ·have hx:=zNR s a hs ha
   cases hd:pE ((bs s).drop a)with
   |none=>
    rw[hd]at hx
    exact zIm (i:=(a:Int)) ha hd (zF.succ (by simp only[jB];exact zF.ifT (decide_eq_true (by omega)) (hx.bind (zF.ifF rfl zF.ret))))
   |some x=>
    obtain⟨n,w⟩:=x
    rw[hd]at hx
    have hw:=zSN hd
    refine zEr ha hd (zEp s hs m (a+w) (acc++[n]) (by omega) (by simp;omega) hw.2.1) fun r hr=>zF.succ ?_
    simp only[jB]
    refine zF.ifT (decide_eq_true (by omega)) (hx.bind (zF.ifT rfl (zF.pure (yU (by simp;omega)) ?_)))
    have e:yN ((a:Int)+(zRr (some (n,w))).2.1)=((a+w:Nat):Int):=by simp only[zRr];rw[zW (by omega) (by omega)];omega
    rw[e];exact hr
  ·exact K8 (by omega) (zF.succ (by simp only[jB];exact zF.ifF (decide_eq_false (by omega)) zF.ret))
def I0(s:ByteArray):Option (List Int):=if s.size≤65535 then dN s.size (bs s)else none
theorem zRm(s:ByteArray):(∃L,I0 s=some L∧zF (fun q=>zAN q s) (L,(s.size:Int),0))∨(I0 s=none∧∃r,zF (fun q=>zAN q s) r∧r.2.2≠0):=by
 simp only[zAN]
 unfold I0
 by_cases h:s.size≤65535
 ·rw[if_pos h]
  rcases zEq s h s.size 0 [] (by omega) (by simp) (by omega)with⟨L,h1,h2⟩|⟨h1,i,h2⟩
  ·exact .inl ⟨L,by simpa using h1,zF.ifF (decide_eq_false (by omega)) (by simpa using h2)⟩
  ·exact .inr ⟨by simpa using h1,_,zF.ifF (decide_eq_false (by omega)) h2,by show (1:Int)≠0;decide⟩
 ·rw[if_neg h]
  exact .inr ⟨rfl,_,zF.ifT (decide_eq_true (by omega)) zF.ret,by decide⟩
theorem zRl(s:ByteArray):(∃L,I0 s=some L∧zF (fun q=>e91 q s) (L,(s.size:Int),0))∨(I0 s=none∧∃r,zF (fun q=>e91 q s) r∧r.2.2≠0):=by
 simp only[e91]
 unfold I0
 by_cases h:s.size≤65535
 ·rw[if_pos h]
  rcases zEp s h s.size 0 [] (by omega) (by simp) (by omega)with⟨L,h1,h2⟩|⟨h1,i,h2⟩
  ·exact .inl ⟨L,by simpa using h1,zF.ifF (decide_eq_false (by omega)) (by simpa using h2)⟩
  ·exact .inr ⟨by simpa using h1,_,zF.ifF (decide_eq_false (by omega)) h2,by show (1:Int)≠0;decide⟩
 ·rw[if_neg h]
  exact .inr ⟨rfl,_,zF.ifT (decide_eq_true (by omega)) zF.ret,by decide⟩
def j8:List Int:=[40,41,123,125,58,61,46,44,59,124,92,955,8594,45,62]
def mkT(n:Int):Bool:=decide (n∈j8)
def zUP(n:Int):Bool:=decide ((97≤n∧n≤122)∨(65≤n∧n≤90))
def zIl(n:Int):Bool:=kX n && !mkT n&&decide (n≠160∧(n<8192∨8303<n))
def iS(n:Int):Bool:=if n<128 then zUP n else zIl n
def zGq(n:Int):Bool:=decide (48≤n∧n≤57)
theorem zNS(n:Int):zF (fun q=>zFC q n) (mkT n):=by
 simp only[zFC]
 have yes:∀k:Int,k∈j8->(n==k)=true->true=mkT n:=fun k hk h=>by
  have:n=k:=by simpa using h
  subst this
  exact(decide_eq_true hk).symm
 repeat' (first|exact zF.ret.eq (yes _ (by simp[j8]) h)|refine zF.iff (fun h=>?_) (fun h=>?_))
 refine zF.ret.eq (decide_eq_false fun hm=>?_).symm
 clear yes
 simp only[j8,List.mem_cons,List.not_mem_nil,or_false]at hm
 rcases hm with rfl|rfl|rfl|rfl|rfl|rfl|rfl|rfl|rfl|rfl|rfl|rfl|rfl|rfl|rfl<;>simp_all
theorem zSO(l:List Int)(n:Int)(hl:l.length≤100):∀(r:List Int) (v:Nat),l.drop v=r->zF (fun q=>jA q l n (v:Int)) (decide (n∈r))
 | [],v,hd=>by
  refine zF.succ ?_
  simp only[jA]
  exact zF.ifF (yO hd) (zF.ret.eq (by simp))
 |x::r,v,hd=>by
  have hlt:=yT hd
  refine zF.succ ?_
  simp only[jA]
  refine zF.ifT (yL hd) (zF.pure (yC hd) ?_)
  by_cases h:x=n
  ·exact zF.ifT (by simpa using h) (zF.ret.eq (by simp[h]))
  ·refine zF.ifF (by simpa using h) ?_
   rw[yB v (by omega)]
   exact(zSO l n hl r (v+1) (zV hd)).eq (by
    have:¬n=x:=fun e=>h e.symm
    simp[this])
theorem zNT(n:Int):zF (fun q=>zBa q n) (mkT n):=by
 simp only[zBa,zRp]
 exact(zSO j8 n (by decide) j8 0 rfl).bind zF.ret
theorem U5(n:Int):zF (fun q=>Y1 q n) (iS n):=by
 simp only[Y1]
 unfold iS
 by_cases h:n<128
 ·rw[if_pos h]
  refine zF.ifT (decide_eq_true h) ?_
  unfold zUP
  refine zF.iff (fun h1=>zF.iff (fun h2=>zF.ret.eq ?_) fun h2=>zF.iff (fun h3=>zF.ret.eq ?_) fun h3=>zF.ret.eq ?_) fun h1=>zF.iff (fun h3=>zF.ret.eq ?_) fun h3=>zF.ret.eq ?_
  all_goals simp only[decide_eq_true_eq,decide_eq_false_iff_not]at *
  ·exact(decide_eq_true (by omega)).symm
  ·exact decide_eq_decide.2 (by omega)
  ·exact(decide_eq_false (by omega)).symm
  ·exact decide_eq_decide.2 (by omega)
  ·exact(decide_eq_false (by omega)).symm
 ·rw[if_neg h]
  refine zF.ifF (decide_eq_false h) ((D6 n).bind ?_)
  unfold zIl
  cases kX n with
  |false=>exact zF.ifF rfl (zF.ret.eq (by simp))
  |true=>
   refine zF.ifT rfl ((zNS n).bind ?_)
   cases mkT n with
   |true=>exact zF.ifT rfl (zF.ret.eq (by simp))
   |false=>
    refine zF.ifF rfl (zF.iff (fun h1=>zF.iff (fun h2=>zF.ret.eq ?_) fun h2=>zF.ret.eq ?_) fun h1=>zF.ret.eq ?_)
    all_goals simp only[decide_eq_true_eq,decide_eq_false_iff_not,bne_iff_ne,bne_eq_false_iff_eq,Bool.true_and,Bool.not_false,ne_eq]at *
    ·exact(decide_eq_true (by omega)).symm
    ·exact decide_eq_decide.2 (by omega)
    ·exact(decide_eq_false (by omega)).symm
theorem U6(n:Int):zF (fun q=>e93 q n) (iS n):=by
 have hi:128≤n->zF (fun q=>Y5 q n>>=fun r6=>if r6=true then zBa q n>>=fun r9=>if r9=true then some false else if (n != 160)=true then if decide (n≥8192)=true then some (!(decide (n≤8303)))else some true else some false else some false) (iS n):=fun h=>by
  have e:iS n=zIl n:=by unfold iS;rw[if_neg (by omega)]
  rw[e]
  refine(zIp n).bind ?_
  unfold zIl
  cases kX n with
  |false=>exact zF.ifF rfl (zF.ret.eq (by simp))
  |true=>
   refine zF.ifT rfl ((zNT n).bind ?_)
   cases mkT n with
   |true=>exact zF.ifT rfl (zF.ret.eq (by simp))
   |false=>
    refine zF.ifF rfl (zF.iff (fun h1=>zF.iff (fun h2=>zF.ret.eq ?_) fun h2=>zF.ret.eq ?_) fun h1=>zF.ret.eq ?_)
    all_goals simp only[decide_eq_true_eq,decide_eq_false_iff_not,bne_iff_ne,bne_eq_false_iff_eq,Bool.true_and,Bool.not_false,ne_eq]at *
    ·by_cases h3:n≤8303
     ·rw[decide_eq_true h3,decide_eq_false (by omega)];rfl
     ·rw[decide_eq_false h3,decide_eq_true (by omega)];rfl
    ·exact(decide_eq_true (by omega)).symm
    ·exact(decide_eq_false (by omega)).symm
 have lo:∀b,n<128->(b=true↔(97≤n∧n≤122)∨(65≤n∧n≤90))->b=iS n:=fun b h k=>by
  unfold iS zUP
  rw[if_pos h]
  cases b with
  |true=>exact(decide_eq_true (k.1 rfl)).symm
  |false=>exact(decide_eq_false fun e=>by have:=k.2 e;cases this).symm
 simp only[e93]
 refine zF.iff (fun h1=>zF.iff (fun h2=>zF.ret.eq ?_) fun h2=>zF.iff (fun h3=>zF.iff (fun h4=>zF.ret.eq ?_) fun h4=>zF.iff (fun h5=>hi (of_decide_eq_true h5)) fun h5=>zF.ret.eq ?_) fun h3=>zF.iff (fun h5=>hi (of_decide_eq_true h5)) fun h5=>zF.ret.eq ?_)
  fun h1=>zF.iff (fun h3=>zF.iff (fun h4=>zF.ret.eq ?_) fun h4=>zF.iff (fun h5=>hi (of_decide_eq_true h5)) fun h5=>zF.ret.eq ?_) fun h3=>zF.iff (fun h5=>hi (of_decide_eq_true h5)) fun h5=>zF.ret.eq ?_
 all_goals simp only[decide_eq_true_eq,decide_eq_false_iff_not]at *
 all_goals refine lo _ (by omega) ⟨fun h=>?_,fun h=>?_⟩
 all_goals first|omega|rfl|cases h
 all_goals omega
theorem zKg(n:Int):zF (fun q=>R2 q n) (zGq n):=by
 simp only[R2]
 unfold zGq
 refine zF.iff (fun h=>zF.ret.eq ?_) fun h=>zF.ret.eq ?_
 all_goals simp only[decide_eq_true_eq,decide_eq_false_iff_not]at *
 ·exact decide_eq_decide.2 (by omega)
 ·exact(decide_eq_false (by omega)).symm
theorem zKf(n:Int):zF (fun q=>e94 q n) (zGq n):=by
 simp only[e94]
 unfold zGq
 refine zF.iff (fun h=>zF.ret.eq ?_) fun h=>zF.ret.eq ?_
 all_goals simp only[decide_eq_true_eq,decide_eq_false_iff_not]at *
 ·exact decide_eq_decide.2 (by omega)
 ·exact(decide_eq_false (by omega)).symm
def jC:Nat->List ByteArray->ByteArray->Int->Int->Option Int
 |0,_,_,_,_=>none
 |c+1,a,b,e,d=>
 if decide (d<(a.length:Int))then
 zP a d>>=fun x2=>
 if x2.toList==b.toList then
 jC c a b d (yN (d+1))
 else
 jC c a b e (yN (d+1))
 else
 some e
def e52(c:Nat)(a:List ByteArray)(b:ByteArray):Option Int:=
 jC c a b (-1) 0
theorem zUQ:∀c:Nat,(∀ {a b e d r},jC c a b e d=some r->(∀j,dL 0 (pt 4021 f52) (sp j 21 0 [(0,zH xJ a .no),(1,at' b),(5,ai e),(6,ai d)]) (⟨[],0,[],0,[]⟩) (fQ 0 (nQ 0 f52 (ai r) [] 0) [.blk 0,.seq (pt 63 f52)]))):=by
 intro c
 induction c with
 |zero=>
  exact fun h=>nn h
 |succ c ih=>
  intro a b e d r h
  rw[jC]at h
  obtain⟨h1,h⟩|⟨h1,h⟩:=zK h
  obtain⟨x2,h3,h⟩:=zB h
  have k:=oA 0 (zJo (o:=.no) h3)<|oB 1 h1 o0
  obtain⟨h4,h⟩|⟨h4,h⟩:=zK h
  exact fun j=>lH 1 [] [] [] [0,1,5,6] (oD (dS a)<|oB 1 h4 k) (ih h)
  exact fun j=>lH 1 [] [] [] [0,1,5,6] (oD (dS a)<|oB 1 h4 k) (ih h)
  obtain rfl:=sj h
  exact fun j=>lF 0 [] (oB 1 h1 o0)
theorem c52{c a b r}(h:e52 c a b=some r):Ct 52 [] [zH xJ a .no,at' b] (ai r) [] 0:=⟨by
 unfold e52 at h
 exact tH ⟨func52,rfl⟩ 0 [] [] [] [0,1,5,6] (oD (dS a) o0) (zUQ _ h),⟨⟨tv,dS _⟩,tv,tv⟩,zA,tv,zA⟩
def iT:Nat->List ByteArray->Int->Option Bool
 |0,_,_=>none
 |b+1,a,c=>
 if decide (c<(a.length:Int))then
 zP a c>>=fun x2=>
 e52 b a x2>>=fun r4=>
 if r4 != c then
 some false
 else
 iT b a (yN (c+1))
 else
 some true
def e25(b:Nat)(a:List ByteArray):Option Bool:=
 iT b a 0
theorem zUR:∀b:Nat,(∀ {a c r},iT b a c=some r->(∀j,dL 0 (pt 949 f25) (sp j 18 0 [(0,zH xJ a .no),(3,ai c)]) (⟨[],0,[],0,[]⟩) (fQ 0 (nQ 0 f25 (ab r) [] 0) [.blk 0,.seq (pt 15 f25)]))):=by
 intro b
 induction b with
 |zero=>
  exact fun h=>nn h
 |succ b ih=>
  intro a c r h
  rw[iT]at h
  obtain⟨h1,h⟩|⟨h1,h⟩:=zK h
  obtain⟨x2,h3,h⟩:=zB h
  obtain⟨r4,h5,h⟩:=zB h
  have k:=oC 1 [] (c52 h5)<|oA 0 (zJo (o:=.no) h3)<|oB 1 h1 o0
  obtain⟨h6,h⟩|⟨h6,h⟩:=zK h
  cases h
  exact fun j=>lF 0 [] (oB 0 h6 k)
  exact fun j=>lH 1 [] [] [] [0,3] (oD (dS a)<|oB 0 h6 k) (ih h)
  cases h
  exact fun j=>lF 0 [] (oB 1 h1 o0)
theorem c25{b a r}(h:e25 b a=some r):Ct 25 [] [zH xJ a .no] (ab r) [] 0:=⟨by
 unfold e25 at h
 exact tH ⟨func25,rfl⟩ 0 [] [] [] [0,3] (oD (dS a) o0) (zUR _ h),⟨⟨tv,dS _⟩,tv⟩,zA,tv,zA⟩
def e92(b:Nat)(a:ByteArray):Option Bool:=
 if a.toList==(⟨#[100,97,116,97]⟩:ByteArray).toList then
 some true
 else
 if a.toList==(⟨#[114,101,99,111,114,100]⟩:ByteArray).toList then
 some true
 else
 if a.toList==(⟨#[100,101,102]⟩:ByteArray).toList then
 some true
 else
 some (a.toList==(⟨#[83,101,116]⟩:ByteArray).toList)
theorem q92:Qf 92 f92:=⟨func92,rfl⟩
theorem c92{b a r}(h:e92 b a=some r):Ct 92 [] [at' a] (ab r) [] 0:=⟨by
 unfold e92 at h
 obtain⟨h1,h⟩|⟨h1,h⟩:=zK h
 cases h
 exact tF q92 0 [] (oB 0 h1 o0)
 have k:=oB 0 h1 o0
 obtain⟨h2,h⟩|⟨h2,h⟩:=zK h
 cases h
 exact tF q92 0 [] (oB 0 h2 k)
 have k:=oB 0 h2 k
 obtain⟨h3,h⟩|⟨h3,h⟩:=zK h
 cases h
 exact tF q92 0 [] (oB 0 h3 k)
 cases h
 exact tF q92 1 [] (oB 0 h3 k),⟨tv,tv⟩,zA,tv,zA⟩
def nC:Nat->(yD×Int×Int)->Int->Option Bool
 |0,_,_=>none
 |a+1,r1,b=>
 if decide (b<(r1.1.length:Int))then
 zP r1.1 b>>=fun x11=>
 e93 a x11>>=fun r13=>
 if r13 then
 nC a r1 (yN (b+1))
 else
 if x11 != 95 then
 if b==0 then
 some false
 else
 e94 a x11>>=fun r18=>
 if r18 then
 nC a r1 (yN (b+1))
 else
 if x11 != 39 then
 some false
 else
 nC a r1 (yN (b+1))
 else
 nC a r1 (yN (b+1))
 else
 some true
def e53(a:Nat)(c:ByteArray):Option Bool:=
 e91 a c>>=fun r1=>
 if r1.2.2 != 0 then
 some false
 else
 if (c.size:Int)==0 then
 some false
 else
 if decide ((c.size:Int)>40)then
 some false
 else
 e92 a c>>=fun r6=>
 if r6 then
 some false
 else
 if c.toList==(⟨#[95]⟩:ByteArray).toList then
 some false
 else
 nC a r1 0
theorem q53:Qf 53 f53:=⟨func53,rfl⟩
theorem zUS:∀a:Nat,(∀ {r1 b r},nC a r1 b=some r->(∀j,dL 0 (pt 16309 f53) (sp j 71 0 [(3,zH zU r1.1 .no),(6,ai b)]) (⟨[],0,[],0,[]⟩) (fQ 0 (nQ 0 f53 (ab r) [] 0) [.blk 0,.seq (pt 255 f53)]))):=by
 intro a
 induction a with
 |zero=>
  exact fun h=>nn h
 |succ a ih=>
  intro r1 b r h
  rw[nC]at h
  obtain⟨h10,h⟩|⟨h10,h⟩:=zK h
  obtain⟨x11,h12,h⟩:=zB h
  obtain⟨r13,h14,h⟩:=zB h
  have k:=oA 0 (uH (o:=.no) h12)<|oB 1 h10 o0
  obtain⟨h15,h⟩|⟨h15,h⟩:=zK h
  exact fun j=>lH 2 [] [] [] [3,6] (oD (dI r1.1)<|oK 1 [] h15 (c93 h14) k) (ih h)
  have k:=oA 1 (uH (o:=.no) h12)<|oK 1 [] h15 (c93 h14) k
  obtain⟨h16,h⟩|⟨h16,h⟩:=zK h
  have k:=oB 1 h16 k
  obtain⟨h17,h⟩|⟨h17,h⟩:=zK h
  cases h
  exact fun j=>lF 0 [] (oB 0 h17 k)
  obtain⟨r18,h19,h⟩:=zB h
  have k:=oA 0 (uH (o:=.no) h12)<|oB 0 h17 k
  obtain⟨h20,h⟩|⟨h20,h⟩:=zK h
  exact fun j=>lH 2 [] [] [] [3,6] (oD (dI r1.1)<|oK 1 [] h20 (c94 h19) k) (ih h)
  have k:=oA 1 (uH (o:=.no) h12)<|oK 1 [] h20 (c94 h19) k
  obtain⟨h21,h⟩|⟨h21,h⟩:=zK h
  cases h
  exact fun j=>lF 0 [] (oB 1 h21 k)
  exact fun j=>lH 1 [] [] [] [3,6] (oD (dI r1.1)<|oB 1 h21 k) (ih h)
  exact fun j=>lH 1 [] [] [] [3,6] (oD (dI r1.1)<|oB 1 h16 k) (ih h)
  cases h
  exact fun j=>lF 0 [] (oB 1 h10 o0)
theorem c53{a c r}(h:e53 a c=some r):Ct 53 [] [at' c] (ab r) [] 0:=⟨by
 unfold e53 at h
 obtain⟨r1,h2,h⟩:=zB h
 have k:=oC 0 [] (c91 h2) o0
 obtain⟨h3,h⟩|⟨h3,h⟩:=zK h
 cases h
 exact tF q53 0 [] (oB 3 h3 k)
 have k:=oB 3 h3 k
 obtain⟨h4,h⟩|⟨h4,h⟩:=zK h
 cases h
 exact tF q53 0 [] (oB 1 h4 k)
 have k:=oB 1 h4 k
 obtain⟨h5,h⟩|⟨h5,h⟩:=zK h
 cases h
 exact tF q53 0 [] (oB 1 h5 k)
 obtain⟨r6,h7,h⟩:=zB h
 have k:=oB 1 h5 k
 obtain⟨h8,h⟩|⟨h8,h⟩:=zK h
 cases h
 exact tF q53 0 [] (oK 0 [] h8 (c92 h7) k)
 have k:=oK 0 [] h8 (c92 h7) k
 obtain⟨h9,h⟩|⟨h9,h⟩:=zK h
 cases h
 exact tF q53 0 [] (oB 0 h9 k)
 exact tH q53 0 [] [] [] [3,6] (oD (dI r1.1)<|oB 0 h9 k) (zUS _ h),⟨tv,tv⟩,zA,tv,zA⟩
def kwT(s:ByteArray):Bool:=(s.toList==(⟨#[100,97,116,97]⟩:ByteArray).toList)||(s.toList==(⟨#[114,101,99,111,114,100]⟩:ByteArray).toList)||(s.toList==(⟨#[100,101,102]⟩:ByteArray).toList)||(s.toList==(⟨#[83,101,116]⟩:ByteArray).toList)
theorem zEo(s:ByteArray):zF (fun q=>zDi q s) (kwT s):=by
 simp only[zDi]
 unfold kwT
 generalize (s.toList==(⟨#[100,97,116,97]⟩:ByteArray).toList)=a
 generalize (s.toList==(⟨#[114,101,99,111,114,100]⟩:ByteArray).toList)=b
 generalize (s.toList==(⟨#[100,101,102]⟩:ByteArray).toList)=c
 generalize (s.toList==(⟨#[83,101,116]⟩:ByteArray).toList)=d
 cases a
 ·cases b
  ·cases c
   ·cases d
    ·exact zF.ret
    ·exact zF.ret
   ·exact zF.ret
  ·exact zF.ret
 ·exact zF.ret
theorem zEn(s:ByteArray):zF (fun q=>e92 q s) (kwT s):=by
 simp only[e92]
 unfold kwT
 generalize (s.toList==(⟨#[100,97,116,97]⟩:ByteArray).toList)=a
 generalize (s.toList==(⟨#[114,101,99,111,114,100]⟩:ByteArray).toList)=b
 generalize (s.toList==(⟨#[100,101,102]⟩:ByteArray).toList)=c
 generalize (s.toList==(⟨#[83,101,116]⟩:ByteArray).toList)=d
 cases a
 ·cases b
  ·cases c
   ·cases d
    ·exact zF.ret
    ·exact zF.ret
   ·exact zF.ret
  ·exact zF.ret
 ·exact zF.ret
def I1(n:Int):Bool:=iS n||zGq n||n==95||n==39
theorem zKe(n:Int):zF (fun q=>zFD q n) (I1 n):=by
 simp only[zFD]
 unfold I1
 refine(U5 n).bind ?_
 cases iS n with
 |true=>exact zF.ifT rfl (zF.ret.eq (by simp))
 |false=>
  refine zF.ifF rfl ((zKg n).bind ?_)
  cases zGq n with
  |true=>exact zF.ifT rfl (zF.ret.eq (by simp))
  |false=>
   refine zF.ifF rfl ?_
   by_cases h:n=95
   ·exact zF.ifT (by simpa using h) (zF.ret.eq (by simp[h]))
   ·exact zF.ifF (by simpa using h) (zF.ret.eq (by simp[h]))
def j9(L:List Int):Bool:=match L with
 | []=>false
 |x::r=>(iS x||x==95)&&r.all I1 && !(x==95&&r.isEmpty)
def zRk(s:ByteArray):Bool:=match I0 s with
 |some L=>decide (s.size≤40) && !kwT s&&j9 L
 |none=>false
theorem U7(r1:List Int×Int×Int)(x:Int)(r0:List Int)(h1:r1.1=x::r0)(hl:r1.1.length≤65535):∀(r:List Int) (v:Nat),r1.1.drop v=r->zF (fun q=>mM q r1 (v:Int)) (r.all I1&&(iS x||(x==95 && !r0.isEmpty)))
 | [],v,hd=>by
  refine zF.succ ?_
  simp only[mM]
  refine zF.ifF (yO hd) (zF.pure (a:=x) (by rw[h1];rfl) ((U5 x).bind ?_))
  cases iS x with
  |true=>exact zF.ifT rfl (zF.ret.eq (by simp))
  |false=>
   refine zF.ifF rfl ?_
   by_cases h:x=95
   ·refine zF.ifT (by simpa using h) (zF.ret.eq ?_)
    rw[h1]
    cases r0 with
    |nil=>simp[h]
    |cons _ _=>simp[h];omega
   ·exact zF.ifF (by simpa using h) (zF.ret.eq (by simp[h]))
 |y::r,v,hd=>by
  have hlt:=yT hd
  refine zF.succ ?_
  simp only[mM]
  refine zF.ifT (yL hd) (zF.pure (yC hd) ((zKe y).bind ?_))
  cases hy:I1 y with
  |true=>
   refine zF.ifT rfl ?_
   rw[yB v (by omega)]
   exact(U7 r1 x r0 h1 hl r (v+1) (zV hd)).eq (by simp[hy])
  |false=>exact zF.ifF rfl (zF.ret.eq (by simp[hy]))
theorem zYX:iS 95=false:=by kernel_rfl
theorem zBA{s:ByteArray}{L:List Int}(h:I0 s=some L):bs s=L.flatMap tD:=by
 unfold I0 at h
 split at h
 ·exact zIn s.size (bs s) L (fun c hc=>iP hc) (by rw[sJ];omega) h
 ·cases h
theorem zUT(n:Int):tD n≠[]:=fun h=>by
 have:=K6 n
 rw[h]at this
 unfold mT at this
 split at this<;>(try split at this)<;>(try split at this)<;>simp at this
theorem zGp:∀(L:List Int),L.length≤(L.flatMap tD).length
 | []=>by simp
 |n::L=>by
  rw[List.flatMap_cons,List.length_append,List.length_cons]
  have:=zGp L
  have:0<(tD n).length:=List.length_pos_iff.2 (zUT n)
  omega
theorem zGo(s:ByteArray):zF (fun q=>e79 q s) (zRk s):=by
 simp only[e79]
 unfold zRk
 rcases zRm s with⟨L,h1,h2⟩|⟨h1,r,h2,h3⟩
 ·rw[h1]
  dsimp only
  refine h2.bind (zF.ifF rfl ?_)
  have hb:=zBA h1
  cases L with
  |nil=>exact zF.ifT rfl (zF.ret.eq (by simp[j9]))
  |cons x r=>
   refine zF.ifF (by simp;omega) ?_
   by_cases h40:s.size≤40
   ·refine zF.ifF (decide_eq_false (by omega)) ((zEo s).bind ?_)
    rw[decide_eq_true h40]
    cases kwT s with
    |true=>exact zF.ifT rfl (zF.ret.eq (by simp))
    |false=>
     refine zF.ifF rfl ?_
     have hlen:(x::r).length≤65535:=by
      have h1:=sJ s
      have h2:=zGp (x::r)
      rw[hb]at h1
      omega
     refine(U7 (x::r,(s.size:Int),0) x r rfl hlen (x::r) 0 rfl).eq ?_
     simp only[j9,List.all_cons,I1,Bool.true_and,Bool.not_false]
     by_cases hx:x=95
     ·subst hx;rw[zYX];cases r<;>simp
     ·have e:(x==95)=false:=by simpa using hx
      rw[e]
      cases iS x<;>simp
   ·exact zF.ifT (decide_eq_true (by omega)) (zF.ret.eq (by simp[h40]))
 ·rw[h1];exact h2.bind (zF.ifT (by simpa using h3) zF.ret)
theorem U9(r1:List Int×Int×Int)(hl:r1.1.length≤65535):∀(r:List Int) (v:Nat),1≤v->r1.1.drop v=r->zF (fun q=>nC q r1 (v:Int)) (r.all I1)
 | [],v,hv,hd=>by
  refine zF.succ ?_
  simp only[nC]
  exact zF.ifF (yO hd) zF.ret
 |y::r,v,hv,hd=>by
  have hlt:=yT hd
  have next:=U9 r1 hl r (v+1) (by omega) (zV hd)
  refine zF.succ ?_
  simp only[nC]
  refine zF.ifT (yL hd) (zF.pure (yC hd) ((U6 y).bind ?_))
  rw[yB v (by omega)]
  have ha:(y::r).all I1=(I1 y&&r.all I1):=rfl
  rw[ha]
  generalize r.all I1=R at next ⊢
  unfold I1
  cases iS y with
  |true=>exact zF.ifT rfl (next.eq (by simp))
  |false=>
   refine zF.ifF rfl ?_
   by_cases h:y=95
   ·exact zF.ifF (by simp[h]) (next.eq (by simp[h]))
   ·refine zF.ifT (by simpa using h) (zF.ifF (beq_eq_false_iff_ne.2 (by omega)) ((zKf y).bind ?_))
    cases zGq y with
    |true=>exact zF.ifT rfl (next.eq (by simp))
    |false=>
     refine zF.ifF rfl ?_
     by_cases h2:y=39
     ·exact zF.ifF (by simp[h2]) (next.eq (by simp[h2]))
     ·exact zF.ifT (by simpa using h2) (zF.ret.eq (by simp[h,h2]))
theorem zYY:bs ⟨#[95]⟩=[95]:=by rfl
theorem zUU{s:ByteArray}{L:List Int}(h:I0 s=some L):(s.toList==(⟨#[95]⟩:ByteArray).toList)=decide (L=[95]):=by
 rw[zIq,zYY]
 have hb:=zBA h
 have e95:tD 95=[95]:=by unfold tD;rw[if_pos (by omega)]
 by_cases hL:L=[95]
 ·subst hL
  rw[decide_eq_true rfl]
  refine decide_eq_true ?_
  rw[hb];simp[e95]
 ·rw[decide_eq_false hL]
  refine decide_eq_false fun hs=>hL ?_
  have hz:s.size=1:=by rw[←sJ,hs];rfl
  have h2:I0 s=some [95]:=by
   unfold I0
   rw[if_pos (by omega),hz,hs]
   rfl
  rw[h]at h2
  exact Option.some.inj h2
theorem zGn(s:ByteArray):zF (fun q=>e53 q s) (zRk s):=by
 simp only[e53]
 unfold zRk
 rcases zRl s with⟨L,h1,h2⟩|⟨h1,r,h2,h3⟩
 ·rw[h1]
  dsimp only
  refine h2.bind (zF.ifF rfl ?_)
  have hb:=zBA h1
  have hbl:=sJ s
  cases L with
  |nil=>
   have hz:s.size=0:=by rw[←hbl,hb];rfl
   exact zF.ifT (by rw[hz];rfl) (zF.ret.eq (by simp[j9]))
  |cons x r=>
   have hlen:=zGp (x::r)
   rw[←hb,hbl]at hlen
   have hpos:0<s.size:=by simp at hlen;omega
   refine zF.ifF (beq_eq_false_iff_ne.2 (by omega)) ?_
   by_cases h40:s.size≤40
   ·refine zF.ifF (decide_eq_false (by omega)) ((zEn s).bind ?_)
    rw[decide_eq_true h40]
    cases kwT s with
    |true=>exact zF.ifT rfl (zF.ret.eq (by simp))
    |false=>
     refine zF.ifF rfl ?_
     rw[zUU h1]
     by_cases hu:x::r=[95]
     ·refine zF.ifT (decide_eq_true hu) (zF.ret.eq ?_)
      obtain⟨rfl,rfl⟩:x=95∧r=[]:=by simpa using hu
      simp[j9]
     ·refine zF.ifF (decide_eq_false hu) (zF.succ ?_)
      have next:=U9 (x::r,(s.size:Int),0) (by show (x::r).length≤65535;omega) r 1 (by omega) rfl
      simp only[nC]
      refine zF.ifT (decide_eq_true (by show (0:Int)<((r.length+1:Nat):Int);omega)) (zF.pure (a:=x) rfl ((U6 x).bind ?_))
      have e1:yN (0+1)=((1:Nat):Int):=by rfl
      rw[e1]
      have hq:(x==95&&r.isEmpty)=false:=by
       by_cases hx:x=95
       ·cases r with
        |nil=>exact absurd (by rw[hx]) hu
        |cons _ _=>simp
       ·simp[hx]
      simp only[j9,hq]
      cases iS x with
      |true=>exact zF.ifT rfl (next.eq (by simp))
      |false=>
       refine zF.ifF rfl ?_
       by_cases hx:x=95
       ·exact zF.ifF (by simp[hx]) (next.eq (by simp[hx]))
       ·exact zF.ifT (by simpa using hx) (zF.ifT rfl (zF.ret.eq (by simp[hx])))
   ·exact zF.ifT (decide_eq_true (by omega)) (zF.ret.eq (by simp[h40]))
 ·rw[h1];exact h2.bind (zF.ifT (by simpa using h3) zF.ret)
theorem zGm{N:ByteArray->Bool}(hN:pP N)(s:ByteArray):zF (fun q=>e53 q s) (N s):=(zGn s).eq ((zGo s).det (hN s))
theorem zUW{a b:ByteArray}:bs a=bs b↔a=b:=by
 constructor
 ·intro h
  have:=zIq a b
  rw[decide_eq_true h]at this
  have h2:a.toList=b.toList:=by simpa using this
  rw[zBc,zBc]at h2
  cases a;cases b
  simp only[ByteArray.mk.injEq]
  exact Array.toList_inj.1 h2
 ·rintro rfl;rfl
theorem V0(a b:ByteArray):(a==b)=decide (a=b):=by
 cases a with
 |mk x=>
 cases b with
 |mk y=>
 show (x==y)=_
 by_cases h:x=y
 ·subst h;simp
 ·rw[decide_eq_false (fun e=>h (ByteArray.mk.inj e))]
  simpa using h
theorem zEm(m:List (ByteArray×Int))(k y:ByteArray)(z:Int):oJ (cX m k z) y=if y=k then z else oJ m y:=by
 induction m with
 |nil=>simp only[cX,oJ,V0,decide_eq_true_eq]
 |cons p m ih=>
  rw[cX,V0]
  by_cases e1:k=p.1
  ·rw[if_pos (decide_eq_true e1),oJ,oJ,V0,V0]
   simp only[decide_eq_true_eq]
   by_cases e:y=k
   ·rw[if_pos e,if_pos e]
   ·rw[if_neg e,if_neg e,if_neg (fun h:y=p.1=>e (h.trans e1.symm))]
  ·rw[if_neg (by simpa using e1),oJ,oJ,ih,V0]
   simp only[decide_eq_true_eq]
   by_cases e:y=p.1
   ·rw[if_pos e,if_pos e,if_neg (fun h:y=k=>e1 (h.symm.trans e))]
   ·rw[if_neg e,if_neg e]
open Classical in
theorem i4(l:List ByteArray)(hl:l.length≤65535):∀(r:List ByteArray) (v:Nat) (m:List (ByteArray×Int)),l.drop v=r->(∀x,0≤oJ m x∧oJ m x≤v)->(∀x,0<oJ m x↔x∈l.take v)->zF (fun q=>mL q l (v:Int) m) (decide (∀i,v≤i->(h:i<l.length)->l[i] ∉ l.take i))
 | [],v,m,hd,hm0,hm=>by
  refine zF.succ ?_
  simp only[mL]
  refine zF.ifF (yO hd) (zF.ret.eq (decide_eq_true fun i hi h=>?_).symm)
  have:=List.drop_eq_nil_iff.1 hd
  omega
 |x::r,v,m,hd,hm0,hm=>by
  have hlt:=yT hd
  have hx:l[v]=x:=by
   have:=yC hd
   unfold zP at this
   rw[if_pos (by omega),Int.toNat_natCast,List.getElem?_eq_getElem hlt]at this
   exact Option.some.inj this
  refine zF.succ ?_
  simp only[mL]
  refine zF.ifT (yL hd) (zF.pure (yC hd) ?_)
  by_cases h:0<oJ m x
  ·refine zF.ifT (decide_eq_true h) (zF.ret.eq (decide_eq_false fun hf=>?_).symm)
   exact hf v (Nat.le_refl _) hlt (by rw[hx];exact(hm x).1 h)
  ·refine zF.ifF (decide_eq_false h) ?_
   have hz:oJ m x=0:=by have:=(hm0 x).1;omega
   rw[hz,yB v (by omega),show yN (0+1)=1 by rfl]
   have ht:l.take (v+1)=l.take v++[x]:=by rw[List.take_succ_eq_append_getElem hlt,hx]
   refine(i4 l hl r (v+1) _ (zV hd) (fun y=>?_) fun y=>?_).eq ?_
   ·rw[zEm];have:=hm0 y;split<;>omega
   ·rw[zEm,ht,List.mem_append,List.mem_singleton]
    by_cases e:y=x
    ·rw[if_pos e];simp[e]
    ·rw[if_neg e];simp[e,hm y]
   ·refine decide_eq_decide.2 ⟨fun hf i hi hil=>?_,fun hf i hi hil=>hf i (by omega) hil⟩
    by_cases e:i=v
    ·subst e;rw[hx];exact fun hmem=>h ((hm x).2 hmem)
    ·exact hf i (by omega) hil
theorem dO(l:List ByteArray)(x:ByteArray)(hl:l.length≤65535):∀(r:List ByteArray) (v:Nat) (a:Int),l.drop v=r->∃p,zF (fun q=>jC q l x a (v:Int)) p∧((p=a∧x ∉ r)∨∃i:Nat,p=(i:Int)∧v≤i∧∃h:i<l.length,l[i]=x∧∀j,i<j->(hj:j<l.length)->l[j]≠x)
 | [],v,a,hd=>⟨a,by
   refine zF.succ ?_
   simp only[jC]
   exact zF.ifF (yO hd) zF.ret,.inl ⟨rfl,by simp⟩⟩
 |y::r,v,a,hd=>by
  have hlt:=yT hd
  have hx:l[v]=y:=by
   have:=yC hd
   unfold zP at this
   rw[if_pos (by omega),Int.toNat_natCast,List.getElem?_eq_getElem hlt]at this
   exact Option.some.inj this
  have hmem:∀j,v<j->(hj:j<l.length)->l[j]∈r:=fun j h1 h2=>by
   have h3:=zV hd
   rw[←h3]
   exact List.mem_drop_iff_getElem.2 ⟨j-(v+1),by omega,by congr 1;omega⟩
  by_cases e:y=x
  ·obtain⟨p,h1,h2⟩:=dO l x hl r (v+1) (v:Int) (zV hd)
   refine⟨p,zF.succ ?_,.inr ?_⟩
   ·simp only[jC]
    refine zF.ifT (yL hd) (zF.pure (yC hd) (zF.ifT (by rw[e];simp) ?_))
    rw[yB v (by omega)];exact h1
   ·rcases h2 with⟨h3,h4⟩|⟨i,h3,h4,h5,h6,h7⟩
    ·exact⟨v,h3,Nat.le_refl _,hlt,by rw[hx,e],fun j h8 h9 h10=>h4 (by rw[←h10];exact hmem j h8 h9)⟩
    ·exact⟨i,h3,by omega,h5,h6,h7⟩
  ·obtain⟨p,h1,h2⟩:=dO l x hl r (v+1) a (zV hd)
   refine⟨p,zF.succ ?_,?_⟩
   ·simp only[jC]
    refine zF.ifT (yL hd) (zF.pure (yC hd) (zF.ifF ?_ ?_))
    ·rw[zIq];exact decide_eq_false fun h=>e (zUW.1 h)
    ·rw[yB v (by omega)];exact h1
   ·rcases h2 with⟨h3,h4⟩|⟨i,h3,h4,h5,h6,h7⟩
    ·exact .inl ⟨h3,fun hm=>(List.mem_cons.1 hm).elim (fun h=>e h.symm) h4⟩
    ·exact .inr ⟨i,h3,by omega,h5,h6,h7⟩
def i5(l:List ByteArray):Prop:=∀i,(h:i<l.length)->l[i] ∉ l.take i
open Classical in
theorem zNU(l:List ByteArray)(hl:l.length≤65535):∃d,zF (fun q=>e39 q l) d∧(d=true↔i5 l):=by
 refine⟨_,(by simp only[e39];exact i4 l hl l 0 [] rfl (fun x=>by rw[oJ];omega) fun x=>by rw[oJ];simp),?_⟩
 rw[decide_eq_true_eq]
 exact⟨fun h i hi=>h i (Nat.zero_le _) hi,fun h i _ hi=>h i hi⟩
theorem zNV(l:List ByteArray)(hl:l.length≤65535):∃d,zF (fun q=>e25 q l) d∧(d=true↔i5 l):=by
 simp only[e25]
 have key:∀(r:List ByteArray) (v:Nat),l.drop v=r->∃d,zF (fun q=>iT q l (v:Int)) d∧(d=true ↔ ∀i,v≤i->(h:i<l.length)->∀j,i<j->(hj:j<l.length)->l[j]≠l[i]):=by
  intro r
  induction r with
  |nil=>
   intro v hd
   refine⟨true,zF.succ ?_,⟨fun _ i hi h=>?_,fun _=>rfl⟩⟩
   ·simp only[iT]
    exact zF.ifF (yO hd) zF.ret
   ·have:=List.drop_eq_nil_iff.1 hd;omega
  |cons x r ih=>
   intro v hd
   have hlt:=yT hd
   have hx:l[v]=x:=by
    have:=yC hd
    unfold zP at this
    rw[if_pos (by omega),Int.toNat_natCast,List.getElem?_eq_getElem hlt]at this
    exact Option.some.inj this
   obtain⟨p,h1,h2⟩:=dO l x hl l 0 (-1) rfl
   have hP:zF (fun q=>e52 q l x) p:=by simp only[e52];exact h1
   obtain⟨i,hp,-,hi,hix,hlast⟩:∃i:Nat,p=(i:Int)∧0≤i∧∃h:i<l.length,l[i]=x∧∀j,i<j->(hj:j<l.length)->l[j]≠x:=by
    rcases h2 with⟨-,h4⟩|h
    ·exact absurd (by rw[←hx];exact List.getElem_mem hlt) h4
    ·exact h
   by_cases e:i=v
   ·obtain⟨d,g1,g2⟩:=ih (v+1) (zV hd)
    refine⟨d,zF.succ ?_,g2.trans ⟨fun hf j hj hjl k hk hkl=>?_,fun hf j hj hjl=>hf j (by omega) hjl⟩⟩
    ·simp only[iT]
     refine zF.ifT (yL hd) (zF.pure (yC hd) (hP.bind (zF.ifF (by rw[hp,e];simp) ?_)))
     rw[yB v (by omega)];exact g1
    ·by_cases ej:j=v
     ·subst ej;rw[hx];exact hlast k (by omega) hkl
     ·exact hf j (by omega) hjl k hk hkl
   ·refine⟨false,zF.succ ?_,⟨fun h=>(by cases h),fun hf=>?_⟩⟩
    ·simp only[iT]
     exact zF.ifT (yL hd) (zF.pure (yC hd) (hP.bind (zF.ifT (by rw[hp];simp;omega) zF.ret)))
    ·exfalso
     rcases Nat.lt_or_gt_of_ne e with h|h
     ·exact hlast v h hlt hx
     ·exact hf v (Nat.le_refl _) hlt i h hi (by rw[hix,hx])
 obtain⟨d,h1,h2⟩:=key l 0 rfl
 refine⟨d,h1,h2.trans ⟨fun h i hi hm=>?_,fun h i _ hi j hij hj e=>?_⟩⟩
 ·obtain⟨j,hj,hje⟩:=List.mem_take_iff_getElem.1 hm
  exact h j (Nat.zero_le _) (by omega) i (by omega) hi hje.symm
 ·exact h j hj (by rw[e];exact List.mem_take_iff_getElem.2 ⟨i,by omega,rfl⟩)
theorem zGl{l:List ByteArray}(hl:l.length≤65535){d:Bool}(h:zF (fun q=>e39 q l) d):zF (fun q=>e25 q l) d:=by
 obtain⟨a,h1,h2⟩:=zNU l hl
 obtain⟨b,h3,h4⟩:=zNV l hl
 have:=h1.det h
 subst this
 refine h3.eq ?_
 rw[Bool.eq_iff_iff];exact h4.trans h2.symm
def zNW(c:Nat)(a:Tm)(b:Int):Option Int:=
 if b==1 then
 if a.k != 5 then
 some 1
 else
 some 0
 else
 some 0
theorem zUX:Qf 204 f204:=⟨func204,rfl⟩
theorem yBc{c a b r}(h:zNW c a b=some r):Ct 204 [] [yV a,ai b] (ai r) [] 0:=⟨by
 unfold zNW at h
 obtain⟨h1,h⟩|⟨h1,h⟩:=zK h
 have k:=oB 0 h1 o0
 obtain⟨h2,h⟩|⟨h2,h⟩:=zK h
 cases h
 exact tF zUX 0 [] (oB 1 h2 k)
 cases h
 exact tF zUX 0 [] (oB 1 h2 k)
 cases h
 exact tF zUX 0 [] (oB 0 h1 o0),⟨⟨tv,tv,⟨tv,dT _⟩,tv⟩,tv,tv⟩,zA,tv,zA⟩
mutual
def zGk:Nat->Tm->Int->Option Int
 |0,_,_=>none
 |c+1,a,b=>
 if a.k==1 then
 if decide (a.n≥b)then
 some (yN ((yN (a.n-b))+1))
 else
 pS c a b 0 0
 else
 pS c a b 0 0
def pS:Nat->Tm->Int->Int->Int->Option Int
 |0,_,_,_,_=>none
 |c+1,a,b,e,d=>
 if decide (d<(a.sub.length:Int))then
 zP a.sub d>>=fun x4=>
 zNW c a d>>=fun r6=>
 zGk c x4 (yN (b+r6))>>=fun r8=>
 pS c a b (lT e r8) (yN (d+1))
 else
 some e
end
abbrev zRj (a:Tm) (b r:Int) (C:Cf):Prop:=C 156 [] [yV a,ai b] (ai r) [] 0
theorem zUY:Qf 156 f156:=⟨func156,rfl⟩
theorem zUZ{a b r}(h:zRj a b r Ci):zRj a b r Ct:=⟨h,⟨⟨tv,tv,⟨tv,dT _⟩,tv⟩,tv,tv⟩,zA,tv,zA⟩
theorem zEl:∀c:Nat,(∀ {a b r},zGk c a b=some r->zRj a b r Ct)∧(∀ {a b e d r},pS c a b e d=some r->(∀j,dL 0 (pt 16309 f156) (sp j 42 0 [(1,ai b),(2,.mp 0 0),(5,ai e),(6,ai d)]) (⟨[(0,.cells [ai a.k,ai a.n,zH zC a.sub .no])],1,[],0,[]⟩) (fQ 0 (nQ 0 f156 (ai r) [] 0) [.blk 0,.seq (pt 255 f156)]))):=by
 intro c
 induction c with
 |zero=>
  exact⟨fun h=>nn h,fun h=>nn h⟩
 |succ c ih=>
  obtain⟨zYZ,V1⟩:=ih
  refine⟨?_,?_⟩
  intro a b r h
  rw[zGk]at h
  obtain⟨h1,h⟩|⟨h1,h⟩:=zK h
  have k:=oB 1 h1 o0
  obtain⟨h2,h⟩|⟨h2,h⟩:=zK h
  obtain rfl:=sj h
  exact zUZ (tF zUY 3 [] (oB 1 h2 k))
  exact zUZ (tH zUY 0 [] [0] [] [1,2,5,6] (oD (dT a.sub)<|oB 1 h2 k) (V1 h))
  exact zUZ (tH zUY 0 [] [0] [] [1,2,5,6] (oD (dT a.sub)<|oB 1 h1 o0) (V1 h))
  intro a b e d r h
  rw[pS]at h
  obtain⟨h3,h⟩|⟨h3,h⟩:=zK h
  obtain⟨x4,h5,h⟩:=zB h
  obtain⟨r6,h7,h⟩:=zB h
  obtain⟨r8,h9,h⟩:=zB h
  exact fun j=>lH 2 [] [0] [] [1,2,5,6] (oD (dT a.sub)<|oC 1 [] (zYZ h9)<|oC 2 [] (yBc h7)<|oA 0 (xH (o:=.no) h5)<|cD 0<|oB 2 h3 o0) (V1 h)
  obtain rfl:=sj h
  exact fun j=>lF 0 [] (oB 2 h3 o0)
theorem yBb{c a b r}(h:zGk c a b=some r):zRj a b r Ct:=(zEl _).1 h
mutual
def e29:Nat->Tm->Option Bool
 |0,_=>none
 |b+1,a=>
 if a.k==1 then
 if (a.sub.length:Int) != 0 then
 some false
 else
 if decide (a.n<0)then
 some false
 else
 if decide (a.n>1048576)then
 some false
 else
 if a.k==7 then
 zP a.sub 0>>=fun x6=>
 if x6.k != 2 then
 some false
 else
 uB b a 0 0
 else
 uB b a 0 0
 else
 if a.k==6 then
 if (a.sub.length:Int) != 0 then
 some false
 else
 if decide (a.n<0)then
 some false
 else
 if decide (a.n>1048576)then
 some false
 else
 if a.k==7 then
 zP a.sub 0>>=fun x14=>
 if x14.k != 2 then
 some false
 else
 uB b a 0 0
 else
 uB b a 0 0
 else
 if a.k==8 then
 if (a.sub.length:Int) != 0 then
 some false
 else
 if decide (a.n<0)then
 some false
 else
 if decide (a.n>1048576)then
 some false
 else
 if a.k==7 then
 zP a.sub 0>>=fun x22=>
 if x22.k != 2 then
 some false
 else
 uB b a 0 0
 else
 uB b a 0 0
 else
 if a.k==2 then
 if (a.sub.length:Int) != 0 then
 some false
 else
 if decide (a.n<0)then
 some false
 else
 if decide (a.n>7)then
 some false
 else
 if a.k==7 then
 zP a.sub 0>>=fun x30=>
 if x30.k != 2 then
 some false
 else
 uB b a 0 0
 else
 uB b a 0 0
 else
 if a.k==3 then
 if (a.sub.length:Int) != 2 then
 some false
 else
 if decide (a.n<0)then
 some false
 else
 if decide (a.n>0)then
 some false
 else
 if a.k==7 then
 zP a.sub 0>>=fun x38=>
 if x38.k != 2 then
 some false
 else
 uB b a 2 0
 else
 uB b a 2 0
 else
 if a.k==4 then
 if (a.sub.length:Int) != 2 then
 some false
 else
 if decide (a.n<0)then
 some false
 else
 if decide (a.n>0)then
 some false
 else
 if a.k==7 then
 zP a.sub 0>>=fun x46=>
 if x46.k != 2 then
 some false
 else
 uB b a 2 0
 else
 uB b a 2 0
 else
 if a.k==5 then
 if (a.sub.length:Int) != 2 then
 some false
 else
 if decide (a.n<0)then
 some false
 else
 if decide (a.n>0)then
 some false
 else
 if a.k==7 then
 zP a.sub 0>>=fun x54=>
 if x54.k != 2 then
 some false
 else
 uB b a 2 0
 else
 uB b a 2 0
 else
 if a.k==7 then
 if (a.sub.length:Int) != 1 then
 some false
 else
 if decide (a.n<0)then
 some false
 else
 if decide (a.n>1048576)then
 some false
 else
 zP a.sub 0>>=fun x61=>
 if x61.k != 2 then
 some false
 else
 uB b a 1 0
 else
 some false
def uB:Nat->Tm->Int->Int->Option Bool
 |0,_,_,_=>none
 |b+1,a,d,c=>
 if decide (c<d)then
 zP a.sub c>>=fun x10=>
 e29 b x10>>=fun r12=>
 if r12 then
 uB b a d (yN (c+1))
 else
 some false
 else
 some true
end
abbrev K29 (a:Tm) (r:Bool) (C:Cf):Prop:=C 29 [] [yV a] (ab r) [] 0
theorem pX:Qf 29 f29:=⟨func29,rfl⟩
theorem pY{a r}(h:K29 a r Ci):K29 a r Ct:=⟨h,⟨⟨tv,tv,⟨tv,dT _⟩,tv⟩,tv⟩,zA,tv,zA⟩
theorem zKd:∀b:Nat,(∀ {a r},e29 b a=some r->K29 a r Ct)∧(∀ {a d c r},uB b a d c=some r->(∀j,dL 0 (pt 262069 f29) (sp j 61 0 [(1,.mp 0 0),(3,ai d),(5,ai c)]) (⟨[(0,.cells [ai a.k,ai a.n,zH zC a.sub .no])],1,[],0,[]⟩) (fQ 0 (nQ 0 f29 (ab r) [] 0) [.blk 1,.seq (pt 4095 f29)]))):=by
 intro b
 induction b with
 |zero=>
  exact⟨fun h=>nn h,fun h=>nn h⟩
 |succ b ih=>
  obtain⟨zZz,uK⟩:=ih
  refine⟨?_,?_⟩
  intro a r h
  rw[e29]at h
  obtain⟨h1,h⟩|⟨h1,h⟩:=zK h
  have k:=oB 1 h1 o0
  obtain⟨h2,h⟩|⟨h2,h⟩:=zK h
  cases h
  exact pY (tF pX 0 [] (oB 2 h2 k))
  have k:=oB 2 h2 k
  obtain⟨h3,h⟩|⟨h3,h⟩:=zK h
  cases h
  exact pY (tF pX 0 [] (oB 1 h3 k))
  have k:=oB 1 h3 k
  obtain⟨h4,h⟩|⟨h4,h⟩:=zK h
  cases h
  exact pY (tF pX 0 [] (oB 1 h4 k))
  have k:=oB 1 h4 k
  obtain⟨h5,h⟩|⟨h5,h⟩:=zK h
  obtain⟨x6,h7,h⟩:=zB h
  have k:=oA 1 (xH (o:=.no) h7)<|oB 1 h5 k
  obtain⟨h8,h⟩|⟨h8,h⟩:=zK h
  cases h
  exact pY (tF pX 0 [] (oB 1 h8 k))
  exact pY (tH pX 0 [] [0] [] [1,3,5] (oD (dT a.sub)<|oB 1 h8 k) (uK h))
  exact pY (tH pX 0 [] [0] [] [1,3,5] (oD (dT a.sub)<|oB 1 h5 k) (uK h))
  have k:=oB 1 h1 o0
  obtain⟨h9,h⟩|⟨h9,h⟩:=zK h
  have k:=oB 0 h9 k
  obtain⟨h10,h⟩|⟨h10,h⟩:=zK h
  cases h
  exact pY (tF pX 0 [] (oB 2 h10 k))
  have k:=oB 2 h10 k
  obtain⟨h11,h⟩|⟨h11,h⟩:=zK h
  cases h
  exact pY (tF pX 0 [] (oB 1 h11 k))
  have k:=oB 1 h11 k
  obtain⟨h12,h⟩|⟨h12,h⟩:=zK h
  cases h
  exact pY (tF pX 0 [] (oB 1 h12 k))
  have k:=oB 1 h12 k
  obtain⟨h13,h⟩|⟨h13,h⟩:=zK h
  obtain⟨x14,h15,h⟩:=zB h
  have k:=oA 1 (xH (o:=.no) h15)<|oB 1 h13 k
  obtain⟨h16,h⟩|⟨h16,h⟩:=zK h
  cases h
  exact pY (tF pX 0 [] (oB 1 h16 k))
  exact pY (tH pX 0 [] [0] [] [1,3,5] (oD (dT a.sub)<|oB 1 h16 k) (uK h))
  exact pY (tH pX 0 [] [0] [] [1,3,5] (oD (dT a.sub)<|oB 1 h13 k) (uK h))
  have k:=oB 0 h9 k
  obtain⟨h17,h⟩|⟨h17,h⟩:=zK h
  have k:=oB 0 h17 k
  obtain⟨h18,h⟩|⟨h18,h⟩:=zK h
  cases h
  exact pY (tF pX 0 [] (oB 2 h18 k))
  have k:=oB 2 h18 k
  obtain⟨h19,h⟩|⟨h19,h⟩:=zK h
  cases h
  exact pY (tF pX 0 [] (oB 1 h19 k))
  have k:=oB 1 h19 k
  obtain⟨h20,h⟩|⟨h20,h⟩:=zK h
  cases h
  exact pY (tF pX 0 [] (oB 1 h20 k))
  have k:=oB 1 h20 k
  obtain⟨h21,h⟩|⟨h21,h⟩:=zK h
  obtain⟨x22,h23,h⟩:=zB h
  have k:=oA 1 (xH (o:=.no) h23)<|oB 1 h21 k
  obtain⟨h24,h⟩|⟨h24,h⟩:=zK h
  cases h
  exact pY (tF pX 0 [] (oB 1 h24 k))
  exact pY (tH pX 0 [] [0] [] [1,3,5] (oD (dT a.sub)<|oB 1 h24 k) (uK h))
  exact pY (tH pX 0 [] [0] [] [1,3,5] (oD (dT a.sub)<|oB 1 h21 k) (uK h))
  have k:=oB 0 h17 k
  obtain⟨h25,h⟩|⟨h25,h⟩:=zK h
  have k:=oB 0 h25 k
  obtain⟨h26,h⟩|⟨h26,h⟩:=zK h
  cases h
  exact pY (tF pX 0 [] (oB 2 h26 k))
  have k:=oB 2 h26 k
  obtain⟨h27,h⟩|⟨h27,h⟩:=zK h
  cases h
  exact pY (tF pX 0 [] (oB 1 h27 k))
  have k:=oB 1 h27 k
  obtain⟨h28,h⟩|⟨h28,h⟩:=zK h
  cases h
  exact pY (tF pX 0 [] (oB 1 h28 k))
  have k:=oB 1 h28 k
  obtain⟨h29,h⟩|⟨h29,h⟩:=zK h
  obtain⟨x30,h31,h⟩:=zB h
  have k:=oA 1 (xH (o:=.no) h31)<|oB 1 h29 k
  obtain⟨h32,h⟩|⟨h32,h⟩:=zK h
  cases h
  exact pY (tF pX 0 [] (oB 1 h32 k))
  exact pY (tH pX 0 [] [0] [] [1,3,5] (oD (dT a.sub)<|oB 1 h32 k) (uK h))
  exact pY (tH pX 0 [] [0] [] [1,3,5] (oD (dT a.sub)<|oB 1 h29 k) (uK h))
  have k:=oB 0 h25 k
  obtain⟨h33,h⟩|⟨h33,h⟩:=zK h
  have k:=oB 0 h33 k
  obtain⟨h34,h⟩|⟨h34,h⟩:=zK h
  cases h
  exact pY (tF pX 0 [] (oB 2 h34 k))
  have k:=oB 2 h34 k
  obtain⟨h35,h⟩|⟨h35,h⟩:=zK h
  cases h
  exact pY (tF pX 0 [] (oB 1 h35 k))
  have k:=oB 1 h35 k
  obtain⟨h36,h⟩|⟨h36,h⟩:=zK h
  cases h
  exact pY (tF pX 0 [] (oB 1 h36 k))
  have k:=oB 1 h36 k
  obtain⟨h37,h⟩|⟨h37,h⟩:=zK h
  obtain⟨x38,h39,h⟩:=zB h
  have k:=oA 1 (xH (o:=.no) h39)<|oB 1 h37 k
  obtain⟨h40,h⟩|⟨h40,h⟩:=zK h
  cases h
  exact pY (tF pX 0 [] (oB 1 h40 k))
  exact pY (tH pX 0 [] [0] [] [1,3,5] (oD (dT a.sub)<|oB 1 h40 k) (uK h))
  exact pY (tH pX 0 [] [0] [] [1,3,5] (oD (dT a.sub)<|oB 1 h37 k) (uK h))
  have k:=oB 0 h33 k
  obtain⟨h41,h⟩|⟨h41,h⟩:=zK h
  have k:=oB 0 h41 k
  obtain⟨h42,h⟩|⟨h42,h⟩:=zK h
  cases h
  exact pY (tF pX 0 [] (oB 2 h42 k))
  have k:=oB 2 h42 k
  obtain⟨h43,h⟩|⟨h43,h⟩:=zK h
  cases h
  exact pY (tF pX 0 [] (oB 1 h43 k))
  have k:=oB 1 h43 k
  obtain⟨h44,h⟩|⟨h44,h⟩:=zK h
  cases h
  exact pY (tF pX 0 [] (oB 1 h44 k))
  have k:=oB 1 h44 k
  obtain⟨h45,h⟩|⟨h45,h⟩:=zK h
  obtain⟨x46,h47,h⟩:=zB h
  have k:=oA 1 (xH (o:=.no) h47)<|oB 1 h45 k
  obtain⟨h48,h⟩|⟨h48,h⟩:=zK h
  cases h
  exact pY (tF pX 0 [] (oB 1 h48 k))
  exact pY (tH pX 0 [] [0] [] [1,3,5] (oD (dT a.sub)<|oB 1 h48 k) (uK h))
  exact pY (tH pX 0 [] [0] [] [1,3,5] (oD (dT a.sub)<|oB 1 h45 k) (uK h))
  have k:=oB 0 h41 k
  obtain⟨h49,h⟩|⟨h49,h⟩:=zK h
  have k:=oB 0 h49 k
  obtain⟨h50,h⟩|⟨h50,h⟩:=zK h
  cases h
  exact pY (tF pX 0 [] (oB 2 h50 k))
  have k:=oB 2 h50 k
  obtain⟨h51,h⟩|⟨h51,h⟩:=zK h
  cases h
  exact pY (tF pX 0 [] (oB 1 h51 k))
  have k:=oB 1 h51 k
  obtain⟨h52,h⟩|⟨h52,h⟩:=zK h
  cases h
  exact pY (tF pX 0 [] (oB 1 h52 k))
  have k:=oB 1 h52 k
  obtain⟨h53,h⟩|⟨h53,h⟩:=zK h
  obtain⟨x54,h55,h⟩:=zB h
  have k:=oA 1 (xH (o:=.no) h55)<|oB 1 h53 k
  obtain⟨h56,h⟩|⟨h56,h⟩:=zK h
  cases h
  exact pY (tF pX 0 [] (oB 1 h56 k))
  exact pY (tH pX 0 [] [0] [] [1,3,5] (oD (dT a.sub)<|oB 1 h56 k) (uK h))
  exact pY (tH pX 0 [] [0] [] [1,3,5] (oD (dT a.sub)<|oB 1 h53 k) (uK h))
  have k:=oB 0 h49 k
  obtain⟨h57,h⟩|⟨h57,h⟩:=zK h
  have k:=oB 0 h57 k
  obtain⟨h58,h⟩|⟨h58,h⟩:=zK h
  cases h
  exact pY (tF pX 0 [] (oB 2 h58 k))
  have k:=oB 2 h58 k
  obtain⟨h59,h⟩|⟨h59,h⟩:=zK h
  cases h
  exact pY (tF pX 0 [] (oB 1 h59 k))
  have k:=oB 1 h59 k
  obtain⟨h60,h⟩|⟨h60,h⟩:=zK h
  cases h
  exact pY (tF pX 0 [] (oB 1 h60 k))
  obtain⟨x61,h62,h⟩:=zB h
  have k:=oA 1 (xH (o:=.no) h62)<|oB 1 h57<|oB 1 h60 k
  obtain⟨h63,h⟩|⟨h63,h⟩:=zK h
  cases h
  exact pY (tF pX 0 [] (oB 1 h63 k))
  exact pY (tH pX 0 [] [0] [] [1,3,5] (oD (dT a.sub)<|oB 1 h63 k) (uK h))
  cases h
  exact pY (tF pX 0 [] (oB 0 h57 k))
  intro a d c r h
  rw[uB]at h
  obtain⟨h9,h⟩|⟨h9,h⟩:=zK h
  obtain⟨x10,h11,h⟩:=zB h
  obtain⟨r12,h13,h⟩:=zB h
  have k:=oA 1 (xH (o:=.no) h11)<|oB 0 h9 o0
  obtain⟨h14,h⟩|⟨h14,h⟩:=zK h
  exact fun j=>lH 2 [] [0] [] [1,3,5] (oD (dT a.sub)<|oK 1 [] h14 (zZz h13) k) (uK h)
  cases h
  exact fun j=>lF 1 [] (oK 1 [] h14 (zZz h13) k)
  cases h
  exact fun j=>lF 0 [] (oB 0 h9 o0)
theorem c29{b a r}(h:e29 b a=some r):K29 a r Ct:=(zKd _).1 h
def e9(b:Nat)(a:Tm):Option Bool:=
 e28 b a>>=fun r1=>
 if decide (r1≤128)then
 e29 b a>>=fun r4=>
 some r4
 else
 some false
theorem q9:Qf 9 Tryz.f9:=⟨func9,rfl⟩
theorem c9{b a r}(h:e9 b a=some r):Ct 9 [] [yV a] (ab r) [] 0:=⟨by
 unfold e9 at h
 obtain⟨r1,h2,h⟩:=zB h
 have k:=oC 1 [] (c28 h2) o0
 obtain⟨h3,h⟩|⟨h3,h⟩:=zK h
 obtain⟨r4,h5,h⟩:=zB h
 obtain rfl:=sj h
 exact tF q9 0 [] (oC 1 [] (c29 h5)<|oB 0 h3 k)
 obtain rfl:=sj h
 exact tF q9 0 [] (oB 0 h3 k),⟨⟨tv,tv,⟨tv,dT _⟩,tv⟩,tv⟩,zA,tv,zA⟩
theorem tK(k n:Int)(l:List Tm):xC (.mk k n l)=(tU (.mk k n l)&&wM l):=by rw[xC]
mutual
theorem zEk:∀(t:Tm),t.Ok->zF (fun q=>e29 q t) (xC t)
 | .mk k n l,ho=>by
  refine zF.succ ?_
  simp only[e29]
  have hL:∀c:Nat,l.length=c->zF (fun q=>uB q (.mk k n l) (c:Int) 0) (wM l):=fun c hc=>
   i6 l (.mk k n l) 0 c rfl (by simpa[Tm.sub]using hc) ho.1 ho.2
  by_cases h1:k=1
  ·subst h1
   refine zF.ifT rfl ((aB (p:=.mk 1 n l) (c:=0) (m:=1048576) (r:=wM l) fun hc _ _=>zF.ifF rfl (hL 0 hc)).eq ?_)
   rw[tK];simp[tU,Tm.k,Tm.n,Tm.sub]
   cases wM l<;>simp[Bool.and_comm,Bool.and_left_comm,Bool.and_assoc]
  refine zF.ifF (by simpa[Tm.k]using h1) ?_
  by_cases h6:k=6
  ·subst h6
   refine zF.ifT rfl ((aB (p:=.mk 6 n l) (c:=0) (m:=1048576) (r:=wM l) fun hc _ _=>zF.ifF rfl (hL 0 hc)).eq ?_)
   rw[tK];simp[tU,Tm.k,Tm.n,Tm.sub]
   cases wM l<;>simp[Bool.and_comm,Bool.and_left_comm,Bool.and_assoc]
  refine zF.ifF (by simpa[Tm.k]using h6) ?_
  by_cases h8:k=8
  ·subst h8
   refine zF.ifT rfl ((aB (p:=.mk 8 n l) (c:=0) (m:=1048576) (r:=wM l) fun hc _ _=>zF.ifF rfl (hL 0 hc)).eq ?_)
   rw[tK];simp[tU,Tm.k,Tm.n,Tm.sub]
   cases wM l<;>simp[Bool.and_comm,Bool.and_left_comm,Bool.and_assoc]
  refine zF.ifF (by simpa[Tm.k]using h8) ?_
  by_cases h2:k=2
  ·subst h2
   refine zF.ifT rfl ((aB (p:=.mk 2 n l) (c:=0) (m:=7) (r:=wM l) fun hc _ _=>zF.ifF rfl (hL 0 hc)).eq ?_)
   rw[tK];simp[tU,Tm.k,Tm.n,Tm.sub]
   cases wM l<;>simp[Bool.and_comm,Bool.and_left_comm,Bool.and_assoc]
  refine zF.ifF (by simpa[Tm.k]using h2) ?_
  by_cases h3:k=3
  ·subst h3
   refine zF.ifT rfl ((aB (p:=.mk 3 n l) (c:=2) (m:=0) (r:=wM l) fun hc _ _=>zF.ifF rfl (hL 2 hc)).eq ?_)
   rw[tK];simp[tU,Tm.k,Tm.n,Tm.sub]
   cases wM l<;>simp[Bool.and_comm,Bool.and_left_comm,Bool.and_assoc]
  refine zF.ifF (by simpa[Tm.k]using h3) ?_
  by_cases h4:k=4
  ·subst h4
   refine zF.ifT rfl ((aB (p:=.mk 4 n l) (c:=2) (m:=0) (r:=wM l) fun hc _ _=>zF.ifF rfl (hL 2 hc)).eq ?_)
   rw[tK];simp[tU,Tm.k,Tm.n,Tm.sub]
   cases wM l<;>simp[Bool.and_comm,Bool.and_left_comm,Bool.and_assoc]
  refine zF.ifF (by simpa[Tm.k]using h4) ?_
  by_cases h5:k=5
  ·subst h5
   refine zF.ifT rfl ((aB (p:=.mk 5 n l) (c:=2) (m:=0) (r:=wM l) fun hc _ _=>zF.ifF rfl (hL 2 hc)).eq ?_)
   rw[tK];simp[tU,Tm.k,Tm.n,Tm.sub]
   cases wM l<;>simp[Bool.and_comm,Bool.and_left_comm,Bool.and_assoc]
  refine zF.ifF (by simpa[Tm.k]using h5) ?_
  by_cases h7:k=7
  ·subst h7
   refine zF.ifT rfl ?_
   rcases l with _|⟨x,l⟩
   ·refine(aB (p:=.mk 7 n []) (c:=1) (m:=1048576) (r:=false) fun hc _ _=>by simp[Tm.sub]at hc).eq ?_
    rw[tK];simp[tU,Tm.k,Tm.n,Tm.sub]
   ·refine(aB (p:=.mk 7 n (x::l)) (c:=1) (m:=1048576) (r:=(x.k==2)&&wM (x::l)) fun hc _ _=>zF.pure (a:=x) rfl ?_).eq ?_
    ·by_cases hx:x.k=2
     ·refine zF.ifF (by simp[hx]) ((hL 1 (by simpa[Tm.sub]using hc)).eq (by simp[hx]))
     ·exact zF.ifT (by simp[hx]) (zF.ret.eq (by simp[hx]))
    ·rw[tK];simp[tU,Tm.k,Tm.n,Tm.sub]
     cases wM (x::l)<;>cases (x.k==2)<;>simp[Bool.and_comm,Bool.and_left_comm,Bool.and_assoc]
  refine zF.ifF (by simpa[Tm.k]using h7) (zF.ret.eq ?_)
  rw[tK]
  have:tU (.mk k n l)=false:=by
   simp only[tU,Tm.k]
   by_cases h9:1≤k∧k≤8
   ·omega
   ·by_cases h10:1≤k
    ·simp[show ¬k≤8 by omega]
    ·simp[h10]
  simp[this]
theorem i6:∀(l:List Tm) (p:Tm) (v c:Nat),p.sub.drop v=l->p.sub.length=c->p.sub.length<9223372036854775808->nF l->zF (fun q=>uB q p (c:Int) (v:Int)) (wM l)
 | [],p,v,c,hd,hc,hl,ho=>by
  refine zF.succ ?_
  simp only[uB]
  rw[wM,←hc]
  exact zF.ifF (yO hd) zF.ret
 |t::l,p,v,c,hd,hc,hl,ho=>by
  refine zF.succ ?_
  simp only[uB]
  refine zF.ifT (by rw[←hc];exact yL hd) (zF.pure (yC hd) ((zEk t ho.1).bind ?_))
  rw[wM]
  cases xC t with
  |false=>exact zF.ifF rfl zF.ret
  |true=>
   refine zF.ifT rfl ?_
   rw[yB v (by have:=yT hd;omega)]
   exact i6 l p (v+1) c (zV hd) hc hl ho.2
end
theorem qJ(t:Tm)(ho:t.Ok):zF (fun q=>e9 q t) (zI t):=by
 simp only[e9]
 refine(zKr t).bind ?_
 unfold zI zNc
 by_cases h1:t.nodes≤8192
 ·rw[if_pos h1]
  by_cases h2:t.high≤128
  ·exact zF.ifT (by simp<;>omega) (((zEk t ho).bind zF.ret).eq (by simp[h1,h2]))
  ·exact zF.ifF (by simp<;>omega) (zF.ret.eq (by simp[h2]))
 ·rw[if_neg h1]
  exact zF.ifF (by simp) (zF.ret.eq (by simp[h1]))
def zRi(k:Int)(i:Nat):Int:=if i=1∧k≠5 then 1 else 0
theorem zEj(t:Tm)(i:Nat):zF (fun q=>zNW q t (i:Int)) (zRi t.k i):=by
 refine zF.mk fun q=>?_
 simp only[zNW,zRi]
 by_cases h1:i=1
 ·subst h1;by_cases h5:t.k=5<;>simp[h5]
 ·have:¬((i:Int)=1):=by omega
  simp[h1,this]
theorem zRh{k n:Int}{l:List Tm}(h:tU (.mk k n l)=true){i:Nat}(hi:i<l.length):zRi k i=bB k i:=by
 unfold bB zRi
 by_cases h1:i=1
 ·subst h1
  have hs:=uO h
  simp only[Tm.k,Tm.n,Tm.sub]at hs
  have:k=3∨k=4∨k=5:=by
   by_cases h7:k=7
   ·obtain⟨x,hx,_⟩:=hs.2.2.2.2.2.2.1 h7
    rw[hx]at hi;simp at hi
   ·by_cases h3:k=1∨k=2∨k=6∨k=8
    ·rw[hs.2.2.2.2.2.2.2.1 h3]at hi;simp at hi
    ·omega
  rcases this with rfl|rfl|rfl<;>simp
 ·simp[h1]
mutual
theorem i7:∀(t:Tm) (b:Int),xC t=true->0≤b->b+t.high≤4611686018427387904->zF (fun q=>zGk q t b) (bC t b)
 | .mk k n l,b,hg,h0,h1=>by
  refine zF.succ ?_
  simp only[zGk,Tm.k,Tm.n]
  have hh:=wW hg
  have hn:=kA hh.1
  have hl:zF (fun q=>pS q (.mk k n l) b 0 0) (fF l k 0 b):=
   (V2 l (.mk k n l) 0 b 0 rfl hh.1 hh.2 h0 (by omega) (by rw[Tm.high]at h1;omega)).eq (by have:=zAD l k 0 b;simp only[Tm.k];omega)
  rw[Tm.high]at h1
  rw[bC]
  by_cases hk:k=1
  ·rw[if_pos hk]
   refine zF.ifT (by simpa using hk) ?_
   by_cases hb:n≥b
   ·refine zF.ifT (by simpa using hb) (zF.ret.eq ?_)
    rw[zW (x:=n-b) (by omega) (by omega),zW (by omega) (by omega)];omega
   ·refine zF.ifF (by simpa using hb) (hl.eq ?_)
    have:l=[]:=by
     have:=hh.1
     subst hk
     simp[tU,Tm.k,Tm.n,Tm.sub]at this
     exact this.2.1
    subst this
    rw[fF];omega
  ·rw[if_neg hk]
   exact zF.ifF (by simpa using hk) hl
theorem V2:∀(l:List Tm) (p:Tm) (v:Nat) (b m:Int),p.sub.drop v=l->tU p=true->wM l=true->0≤b->0≤m->b+1+vB l≤4611686018427387904->zF (fun q=>pS q p b m (v:Int)) (max m (fF l p.k v b))
 | [],p,v,b,m,hd,hp,ho,h0,hm,h1=>by
  refine zF.succ ?_
  simp only[pS]
  rw[fF]
  exact zF.ifF (yO hd) (zF.ret.eq (by omega))
 |t::l,p,v,b,m,hd,hp,ho,h0,hm,h1=>by
  refine zF.succ ?_
  simp only[pS]
  have hg:=xY ho
  have hu:=zAE p.k v
  have hlt:=yT hd
  obtain⟨k,n,ls⟩:=p
  have hls:=(kA hp).2.2.2.2
  simp only[Tm.sub]at hlt hd
  have he:=zRh hp hlt
  rw[vB]at h1
  refine zF.ifT (yL hd) (zF.pure (yC hd) ((zEj (.mk k n ls) v).bind ?_))
  simp only[Tm.k]at hu ⊢
  rw[he,zW (x:=b+bB k v) (by omega) (by omega)]
  refine(i7 t (b+bB k v) hg.1 (by omega) (by omega)).bind ?_
  rw[yB v (by omega),zAC]
  refine(V2 l (.mk k n ls) (v+1) b _ (zV hd) hp hg.2 h0 (by omega) (by omega)).eq ?_
  simp only[Tm.k]
  rw[fF];omega
end
def qQ:Nat->yD->Int->yD->Bool->Int->Option yD
 |0,_,_,_,_,_=>none
 |c+1,a,b,e,f,d=>
 if f then
 if decide (d<(a.length:Int))then
 zP a d>>=fun x2=>
 xB 8 e [x2]>>=fun l4=>
 qQ c a b l4 true (yN (d+1))
 else
 some e
 else
 if decide (d<(a.length:Int))then
 zP a d>>=fun x7=>
 if decide (x7≥b)then
 if decide (x7>b)then
 xB 8 e [b]>>=fun l11=>
 xB 8 l11 [x7]>>=fun l13=>
 qQ c a b l13 true (yN (d+1))
 else
 xB 8 e [x7]>>=fun l15=>
 qQ c a b l15 true (yN (d+1))
 else
 xB 8 e [x7]>>=fun l17=>
 qQ c a b l17 false (yN (d+1))
 else
 xB 8 e [b]>>=fun l19=>
 some l19
def zNX(c:Nat)(a:yD)(b:Int):Option yD:=
 qQ c a b [] false 0
theorem zRg:∀c:Nat,(∀ {a b e f d r},qQ c a b e f d=some r->(∀j,dL 0 (pt 16309 f157) (sp j 49 0 [(0,zH zU a .no),(1,ai b),(5,zH zU e (.st 0 1)),(6,ab f),(7,ai d)]) (⟨[],0,[0],1,[]⟩) (fQ 0 (nQ 0 f157 (.sl (zG zU r) r.length .no) [] 0) [.blk 0,.seq (pt 255 f157)]))):=by
 intro c
 induction c with
 |zero=>
  exact fun h=>nn h
 |succ c ih=>
  intro a b e f d r h
  rw[qQ]at h
  cases f
  replace h:=ifF rfl h
  obtain⟨h6,h⟩|⟨h6,h⟩:=zK h
  obtain⟨x7,h8,h⟩:=zB h
  have k:=oA 1 (uH (o:=.no) h8)<|oB 1 h6 o0
  obtain⟨h9,h⟩|⟨h9,h⟩:=zK h
  have k:=oA 0 (uH (o:=.no) h8)<|oB 1 h9 k
  obtain⟨h10,h⟩|⟨h10,h⟩:=zK h
  obtain⟨l11,h12,h⟩:=zB h
  obtain⟨l13,h14,h⟩:=zB h
  exact fun j=>lH 1 [] [] [2] [0,1,5,6,7] (oD (dI l13)<|oD (dI a)<|oP 2 (tN h14 (by simp))<|oA 0 (uH (o:=.no) h8)<|oP 1 (tN h12 (by simp))<|oB 1 h10 k) (ih h)
  obtain⟨l15,h16,h⟩:=zB h
  exact fun j=>lH 1 [] [] [1] [0,1,5,6,7] (oD (dI l15)<|oD (dI a)<|oP 2 (tN h16 (by simp))<|oA 0 (uH (o:=.no) h8)<|oB 1 h10 k) (ih h)
  obtain⟨l17,h18,h⟩:=zB h
  exact fun j=>lH 1 [] [] [1] [0,1,5,6,7] (oD (dI l17)<|oD (dI a)<|oP 2 (tN h18 (by simp))<|oA 0 (uH (o:=.no) h8)<|oB 1 h9 k) (ih h)
  obtain⟨l19,h20,h⟩:=zB h
  obtain rfl:=sj h
  exact fun j=>lF 0 [] (oD (dI l19)<|oP 2 (tN h20 (by simp))<|oB 1 h6 o0)
  replace h:=ifT rfl h
  obtain⟨h1,h⟩|⟨h1,h⟩:=zK h
  obtain⟨x2,h3,h⟩:=zB h
  obtain⟨l4,h5,h⟩:=zB h
  exact fun j=>lH 1 [] [] [1] [0,1,5,6,7] (oD (dI l4)<|oD (dI a)<|oP 2 (tN h5 (by simp))<|oA 1 (uH (o:=.no) h3)<|oB 1 h1 o0) (ih h)
  obtain rfl:=sj h
  exact fun j=>lF 1 [] (oD (dI e)<|oB 1 h1 o0)
theorem zVy{c a b r}(h:zNX c a b=some r):Ct 157 [] [zH zU a .no,ai b] (.sl (zG zU r) r.length .no) [] 0:=⟨by
 unfold zNX at h
 exact tH ⟨func157,rfl⟩ 1 [(none,5,1)] [] [0] [0,1,5,6,7] (oD (dI ([]:yD))<|oD (dI a) o0) (zRg _ h),⟨⟨tv,dI _⟩,tv,tv⟩,zA,dI _,zA⟩
mutual
def e96:Nat->Tm->Int->Int->Option yD
 |0,_,_,_=>none
 |e+1,a,b,c=>
 if a.k==b then
 xB 8 ([]:yD) [a.n]>>=fun l2=>
 nD e a b c l2 0
 else
 if a.k==c then
 xB 8 ([]:yD) [a.n]>>=fun l5=>
 nD e a b c l5 0
 else
 nD e a b c [] 0
def nD:Nat->Tm->Int->Int->yD->Int->Option yD
 |0,_,_,_,_,_=>none
 |e+1,a,b,c,d,g=>
 if decide (g<(a.sub.length:Int))then
 zP a.sub g>>=fun x5=>
 e96 e x5 b c>>=fun r7=>
 dP e a b c g r7 0 d
 else
 some d
def dP:Nat->Tm->Int->Int->Int->yD->Int->yD->Option yD
 |0,_,_,_,_,_,_,_=>none
 |e+1,a,b,c,g,r7,f,d=>
 if decide (f<(r7.length:Int))then
 zP r7 f>>=fun x10=>
 zNX e d x10>>=fun r12=>
 dP e a b c g r7 (yN (f+1)) r12
 else
 nD e a b c d (yN (g+1))
end
abbrev K96 (a:Tm) (b c:Int) (r:yD) (C:Cf):Prop:=C 96 [] [yV a,ai b,ai c] (.sl (zG zU r) r.length .no) [] 0
theorem q96:Qf 96 f96:=⟨func96,rfl⟩
theorem k96{a b c r}(h:K96 a b c r Ci):K96 a b c r Ct:=⟨h,⟨⟨tv,tv,⟨tv,dT _⟩,tv⟩,tv,tv,tv⟩,zA,dI _,zA⟩
theorem I2:∀e:Nat,(∀ {a b c r},e96 e a b c=some r->K96 a b c r Ct)∧(∀ {a b c d g r},nD e a b c d g=some r->(∀j,dL 0 (pt 16309 f96) (sp j 55 0 [(1,ai b),(2,ai c),(3,.mp 0 0),(7,zH zU d (.st 0 1)),(8,ai g)]) (⟨[(0,.cells [ai a.k,ai a.n,zH zC a.sub .no])],1,[0],1,[]⟩) (fQ 0 (nQ 0 f96 (.sl (zG zU r) r.length .no) [] 0) [.blk 0,.seq (pt 255 f96)]))∧(∀j,dL 0 (pt 16309 f96) (sp j 55 0 [(1,ai b),(2,ai c),(3,.mp 0 0),(7,zH zU d .no),(8,ai g)]) (⟨[(0,.cells [ai a.k,ai a.n,zH zC a.sub .no])],1,[],0,[]⟩) (fQ 0 (nQ 0 f96 (.sl (zG zU r) r.length .no) [] 0) [.blk 0,.seq (pt 255 f96)]))∧(∀j,dL 0 (pt 16309 f96) (sp j 55 0 [(1,ai b),(2,ai c),(3,.mp 0 0),(7,zH zU d .full),(8,ai g)]) (⟨[(0,.cells [ai a.k,ai a.n,zH zC a.sub .no])],1,[],0,[]⟩) (fQ 0 (nQ 0 f96 (.sl (zG zU r) r.length .no) [] 0) [.blk 0,.seq (pt 255 f96)])))∧(∀ {a b c g r7 f d r},dP e a b c g r7 f d=some r->(∀j,dL 0 (pt 267221493 f96) (sp j 55 0 [(1,ai b),(2,ai c),(3,.mp 0 0),(7,zH zU d (.st 0 1)),(8,ai g),(9,zH zU r7 .no),(10,ai f)]) (⟨[(0,.cells [ai a.k,ai a.n,zH zC a.sub .no])],1,[0],1,[]⟩) (fQ 0 (nQ 0 f96 (.sl (zG zU r) r.length .no) [] 0) [.blk 2,.blk 1,.seq (pt 260959 f96),.loop (pt 16309 f96),.blk 0,.seq (pt 255 f96)]))∧(∀j,dL 0 (pt 267221493 f96) (sp j 55 0 [(1,ai b),(2,ai c),(3,.mp 0 0),(7,zH zU d .no),(8,ai g),(9,zH zU r7 .no),(10,ai f)]) (⟨[(0,.cells [ai a.k,ai a.n,zH zC a.sub .no])],1,[],0,[]⟩) (fQ 0 (nQ 0 f96 (.sl (zG zU r) r.length .no) [] 0) [.blk 2,.blk 1,.seq (pt 260959 f96),.loop (pt 16309 f96),.blk 0,.seq (pt 255 f96)]))∧(∀j,dL 0 (pt 267221493 f96) (sp j 55 0 [(1,ai b),(2,ai c),(3,.mp 0 0),(7,zH zU d .full),(8,ai g),(9,zH zU r7 .no),(10,ai f)]) (⟨[(0,.cells [ai a.k,ai a.n,zH zC a.sub .no])],1,[],0,[]⟩) (fQ 0 (nQ 0 f96 (.sl (zG zU r) r.length .no) [] 0) [.blk 2,.blk 1,.seq (pt 260959 f96),.loop (pt 16309 f96),.blk 0,.seq (pt 255 f96)]))):=by
 intro e
 induction e with
 |zero=>
  exact⟨fun h=>nn h,fun h=>nn h,fun h=>nn h⟩
 |succ e ih=>
  obtain⟨zVx,gY,gZ⟩:=ih
  refine⟨?_,?_,?_⟩
  intro a b c r h
  rw[e96]at h
  obtain⟨h1,h⟩|⟨h1,h⟩:=zK h
  obtain⟨l2,h3,h⟩:=zB h
  exact k96 (tH q96 0 [] [0] [0] [1,2,3,7,8] (oD (dI l2)<|oD (dT a.sub)<|oP 2 (tN h3 (by simp))<|oB 2 h1 o0) ((gY h).1))
  have k:=oB 2 h1 o0
  obtain⟨h4,h⟩|⟨h4,h⟩:=zK h
  obtain⟨l5,h6,h⟩:=zB h
  exact k96 (tH q96 0 [] [0] [0] [1,2,3,7,8] (oD (dI l5)<|oD (dT a.sub)<|oP 2 (tN h6 (by simp))<|oB 1 h4 k) ((gY h).1))
  exact k96 (tH q96 0 [] [0] [] [1,2,3,7,8] (oD (dI ([]:yD))<|oD (dT a.sub)<|oB 1 h4 k) ((gY h).2.2))
  intro a b c d g r h
  rw[nD]at h
  have z {os ob} (k:Oz os ob):=oD (dI d)<|oD (dT a.sub)<|k
  refine⟨?_,?_,?_⟩
  obtain⟨h4,h⟩|⟨h4,h⟩:=zK h
  obtain⟨x5,h6,h⟩:=zB h
  obtain⟨r7,h8,h⟩:=zB h
  exact fun j=>lH 0 [] [0] [0] [1,2,3,7,8,9,10] (oD (dI r7)<|z<|oC 1 [] (zVx h8)<|oA 1 (xH (o:=.no) h6)<|oB 2 h4 o0) ((gZ h).1)
  obtain rfl:=sj h
  exact fun j=>lF 0 [] (oD (dI d)<|oB 2 h4 o0)
  obtain⟨h4,h⟩|⟨h4,h⟩:=zK h
  obtain⟨x5,h6,h⟩:=zB h
  obtain⟨r7,h8,h⟩:=zB h
  exact fun j=>lH 0 [] [0] [] [1,2,3,7,8,9,10] (oD (dI r7)<|z<|oC 1 [] (zVx h8)<|oA 1 (xH (o:=.no) h6)<|oB 2 h4 o0) ((gZ h).2.1)
  obtain rfl:=sj h
  exact fun j=>lF 0 [] (oD (dI d)<|oB 2 h4 o0)
  obtain⟨h4,h⟩|⟨h4,h⟩:=zK h
  obtain⟨x5,h6,h⟩:=zB h
  obtain⟨r7,h8,h⟩:=zB h
  exact fun j=>lH 0 [] [0] [] [1,2,3,7,8,9,10] (oD (dI r7)<|z<|oC 1 [] (zVx h8)<|oA 1 (xH (o:=.no) h6)<|oB 2 h4 o0) ((gZ h).2.2)
  obtain rfl:=sj h
  exact fun j=>lF 0 [] (oD (dI d)<|oB 2 h4 o0)
  intro a b c g r7 f d r h
  rw[dP]at h
  have z {os ob} (k:Oz os ob):=oD (dI d)<|oD (dT a.sub)<|k
  refine⟨?_,?_,?_⟩
  obtain⟨h9,h⟩|⟨h9,h⟩:=zK h
  obtain⟨x10,h11,h⟩:=zB h
  obtain⟨r12,h13,h⟩:=zB h
  exact fun j=>lH 1 [] [0] [] [1,2,3,7,8,9,10] (oD (dI r7)<|oD (dI r12)<|oD (dT a.sub)<|oC 1 [] (zVy h13)<|oA 0 (uH (o:=.no) h11)<|oB 1 h9 o0) ((gZ h).2.1)
  exact fun j=>lH 1 [] [0] [0] [1,2,3,7,8] (z<|oB 1 h9 o0) ((gY h).1)
  obtain⟨h9,h⟩|⟨h9,h⟩:=zK h
  obtain⟨x10,h11,h⟩:=zB h
  obtain⟨r12,h13,h⟩:=zB h
  exact fun j=>lH 1 [] [0] [] [1,2,3,7,8,9,10] (oD (dI r7)<|oD (dI r12)<|oD (dT a.sub)<|oC 1 [] (zVy h13)<|oA 0 (uH (o:=.no) h11)<|oB 1 h9 o0) ((gZ h).2.1)
  exact fun j=>lH 1 [] [0] [] [1,2,3,7,8] (z<|oB 1 h9 o0) ((gY h).2.1)
  obtain⟨h9,h⟩|⟨h9,h⟩:=zK h
  obtain⟨x10,h11,h⟩:=zB h
  obtain⟨r12,h13,h⟩:=zB h
  exact fun j=>lH 1 [] [0] [] [1,2,3,7,8,9,10] (oD (dI r7)<|oD (dI r12)<|oD (dT a.sub)<|oC 1 [] (zVy h13)<|oA 0 (uH (o:=.no) h11)<|oB 1 h9 o0) ((gZ h).2.1)
  exact fun j=>lH 1 [] [0] [] [1,2,3,7,8] (z<|oB 1 h9 o0) ((gY h).2.2)
theorem c96{e a b c r}(h:e96 e a b c=some r):K96 a b c r Ct:=(I2 _).1 h
def dQ:Nat->Int->yD->Int->Option Bool
 |0,_,_,_=>none
 |a+1,b,r7,c=>
 if decide (c<(r7.length:Int))then
 zP r7 c>>=fun x10=>
 if decide (x10≥b)then
 some false
 else
 dQ a b r7 (yN (c+1))
 else
 some true
def e95(a:Nat)(d:Tm)(e b:Int):Option Bool:=
 e9 a d>>=fun r1=>
 if r1 then
 zGk a d 0>>=fun r4=>
 if decide (r4>e)then
 some false
 else
 e96 a d 6 7>>=fun r7=>
 dQ a b r7 0
 else
 some false
theorem q95:Qf 95 f95:=⟨func95,rfl⟩
theorem zVw:∀a:Nat,(∀ {b r7 c r},dQ a b r7 c=some r->(∀j,dL 0 (pt 16309 f95) (sp j 32 0 [(2,ai b),(7,zH zU r7 .no),(8,ai c)]) (⟨[],0,[],0,[]⟩) (fQ 0 (nQ 0 f95 (ab r) [] 0) [.blk 0,.seq (pt 255 f95)]))):=by
 intro a
 induction a with
 |zero=>
  exact fun h=>nn h
 |succ a ih=>
  intro b r7 c r h
  rw[dQ]at h
  obtain⟨h9,h⟩|⟨h9,h⟩:=zK h
  obtain⟨x10,h11,h⟩:=zB h
  have k:=oA 0 (uH (o:=.no) h11)<|oB 1 h9 o0
  obtain⟨h12,h⟩|⟨h12,h⟩:=zK h
  cases h
  exact fun j=>lF 0 [] (oB 1 h12 k)
  exact fun j=>lH 1 [] [] [] [2,7,8] (oD (dI r7)<|oB 1 h12 k) (ih h)
  cases h
  exact fun j=>lF 0 [] (oB 1 h9 o0)
theorem c95{a d e b r}(h:e95 a d e b=some r):Ct 95 [] [yV d,ai e,ai b] (ab r) [] 0:=⟨by
 unfold e95 at h
 obtain⟨r1,h2,h⟩:=zB h
 obtain⟨h3,h⟩|⟨h3,h⟩:=zK h
 obtain⟨r4,h5,h⟩:=zB h
 have k:=oC 2 [] (yBb h5)<|oK 1 [] h3 (c9 h2) o0
 obtain⟨h6,h⟩|⟨h6,h⟩:=zK h
 cases h
 exact tF q95 0 [] (oB 0 h6 k)
 obtain⟨r7,h8,h⟩:=zB h
 exact tH q95 0 [] [] [] [2,7,8] (oD (dI r7)<|oC 1 [] (c96 h8)<|oB 0 h6 k) (zVw _ h)
 cases h
 exact tF q95 1 [] (oK 1 [] h3 (c9 h2) o0),⟨⟨tv,tv,⟨tv,dT _⟩,tv⟩,tv,tv,tv⟩,zA,tv,zA⟩
def e54(b:Nat)(a:Tm)(c:Int):Option Bool:=
 e95 b a 0 c>>=fun r1=>
 if r1 then
 e96 b a 8 8>>=fun r4=>
 some ((r4.length:Int)==0)
 else
 some false
theorem q54:Qf 54 f54:=⟨func54,rfl⟩
theorem c54{b a c r}(h:e54 b a c=some r):Ct 54 [] [yV a,ai c] (ab r) [] 0:=⟨by
 unfold e54 at h
 obtain⟨r1,h2,h⟩:=zB h
 obtain⟨h3,h⟩|⟨h3,h⟩:=zK h
 obtain⟨r4,h5,h⟩:=zB h
 cases h
 exact tF q54 2 [] (oC 1 [] (c96 h5)<|oK 1 [] h3 (c95 h2) o0)
 cases h
 exact tF q54 0 [] (oK 1 [] h3 (c95 h2) o0),⟨⟨tv,tv,⟨tv,dT _⟩,tv⟩,tv,tv⟩,zA,tv,zA⟩
theorem aH:∀(r l:List Int) (n:Int) (v:Nat) (acc:List Int) (done:Bool),l.drop v=r->l.length≤8192->acc.length≤v+1->(done=false->acc.length≤v)->v≤l.length ->
  yJ (fun q=>qQ q l n acc done (v:Int)) fun o=>o.length≤acc.length+r.length+1∧(done=true->o.length≤acc.length+r.length)∧∀x,x∈o↔x∈acc∨x∈r∨(done=false∧x=n)
 | [],l,n,v,acc,done,hd,hl,ha,hb,hv=>by
  refine yJ.succ ?_
  simp only[qQ]
  cases done with
  |true=>
   refine yJ.ite (fun _=>yJ.ite (fun h=>?_) fun _=>yJ.ret ⟨(by simp<;>omega),fun _=>(by simp),fun x=>by simp⟩) (fun h=>by cases h)
   rw[yO hd]at h;cases h
  |false=>
   refine yJ.ite (fun h=>by cases h) (fun _=>yJ.ite (fun h=>?_) fun _=>yJ.pure (yU (by simp<;>omega)) (yJ.ret ⟨(by simp),fun h=>(by cases h),fun x=>by simp⟩))
   rw[yO hd]at h;cases h
 |y::r,l,n,v,acc,done,hd,hl,ha,hb,hv=>by
  have hlt:=yT hd
  refine yJ.succ ?_
  simp only[qQ]
  cases done with
  |true=>
   refine yJ.ite (fun _=>yJ.ite (fun _=>yJ.pure (yC hd) (yJ.pure (yU (by simp<;>omega)) ?_)) fun h=>?_) (fun h=>by cases h)
   ·rw[yB v (by omega)]
    refine(aH r l n (v+1) (acc++[y]) true (zV hd) hl (by simp<;>omega) (fun h=>by cases h) (by omega)).mono fun o ho=>?_
    refine⟨by have:=ho.2.1 rfl;simp at this ⊢ <;> omega,fun _=>by have:=ho.2.1 rfl;simp at this ⊢ <;> omega,fun x=>?_⟩
    rw[ho.2.2 x];simp[or_assoc]
   ·rw[yL hd]at h;cases h
  |false=>
   have hb':=hb rfl
   refine yJ.ite (fun h=>by cases h) (fun _=>yJ.ite (fun _=>yJ.pure (yC hd) (yJ.ite (fun h1=>yJ.ite (fun h2=>yJ.pure (yU (by simp<;>omega)) (yJ.pure (yU (by simp<;>omega)) ?_)) fun h2=>yJ.pure (yU (by simp<;>omega)) ?_) fun h1=>yJ.pure (yU (by simp<;>omega)) ?_)) fun h=>?_)
   ·rw[yB v (by omega)]
    refine(aH r l n (v+1) (acc++[n]++[y]) true (zV hd) hl (by simp<;>omega) (fun h=>by cases h) (by omega)).mono fun o ho=>?_
    refine⟨by have:=ho.2.1 rfl;simp at this ⊢ <;> omega,fun h=>(by cases h),fun x=>?_⟩
    rw[ho.2.2 x];simp;grind
   ·rw[yB v (by omega)]
    refine(aH r l n (v+1) (acc++[y]) true (zV hd) hl (by simp<;>omega) (fun h=>by cases h) (by omega)).mono fun o ho=>?_
    have e:y=n:=by simp at h1 h2;omega
    subst e
    refine⟨by have:=ho.2.1 rfl;simp at this ⊢ <;> omega,fun h=>(by cases h),fun x=>?_⟩
    rw[ho.2.2 x];simp;grind
   ·rw[yB v (by omega)]
    refine(aH r l n (v+1) (acc++[y]) false (zV hd) hl (by simp<;>omega) (fun _=>by simp<;>omega) (by omega)).mono fun o ho=>?_
    refine⟨by have:=ho.1;simp at this ⊢;omega,fun h=>(by cases h),fun x=>?_⟩
    rw[ho.2.2 x];simp;grind
   ·rw[yL hd]at h;cases h
theorem zNY(l:List Int)(n:Int)(hl:l.length≤8192):yJ (fun q=>zNX q l n) fun o=>o.length≤l.length+1∧∀x,x∈o↔x∈l∨x=n:=by
 simp only[zNX]
 refine(aH l l n 0 [] false rfl hl (by simp) (fun _=>by simp) (by omega)).mono fun o ho=>⟨by have:=ho.1;simpa using this,fun x=>by rw[ho.2.2 x];simp⟩
theorem i8{p:Tm}{a b:Int}{v:Nat}{r7:List Int}{Q:List Int->Prop}{N:Nat}{S:Int->Prop}(hN:N≤8192)(hr:r7.length≤8192)(hv:v<9223372036854775807)
  (K:∀acc:List Int,acc.length≤N->(∀x,x∈acc↔S x)->yJ (fun q=>nD q p a b acc ((v+1:Nat):Int)) Q) :
  ∀(m:List Int) (w:Nat) (acc:List Int),r7.drop w=m->acc.length+m.length≤N->(∀x,(x∈acc∨x∈m)↔S x)->yJ (fun q=>dP q p a b (v:Int) r7 (w:Int) acc) Q
 | [],w,acc,hd,hl,hm=>by
  refine yJ.succ ?_
  simp only[dP]
  refine yJ.ite (fun h=>?_) fun _=>?_
  ·rw[yO hd]at h;cases h
  ·rw[yB v (by omega)]
   exact K acc (by simpa using hl) fun x=>by simpa using hm x
 |y::m,w,acc,hd,hl,hm=>by
  have hlt:=yT hd
  refine yJ.succ ?_
  simp only[dP]
  refine yJ.ite (fun _=>yJ.pure (yC hd) ((zNY acc y (by simp at hl;omega)).bind fun o ho=>?_)) fun h=>?_
  ·rw[yB w (by omega)]
   refine i8 hN hr hv K m (w+1) o (zV hd) (by simp at hl;have:=ho.1;omega) fun x=>?_
   rw[←hm x,ho.2 x];simp[or_assoc]
  ·rw[yL hd]at h;cases h
def zVv(r m:List Int):Prop:=∀x,x∈r↔x∈m
mutual
theorem iU:∀(t:Tm) (a b:Int),t.Ok->t.nodes≤8192->yJ (fun q=>e96 q t a b) fun o=>o.length≤t.nodes∧zVv o (nG t a b)
 | .mk k n l,a,b,ho,hn=>by
  refine yJ.succ ?_
  simp only[e96,Tm.k,Tm.n]
  rw[Tm.nodes]at hn
  have key:∀acc:List Int,acc.length≤1->acc=(if k=a∨k=b then [n]else [])->yJ (fun q=>nD q (.mk k n l) a b acc 0) fun o=>o.length≤(Tm.mk k n l).nodes∧zVv o (nG (.mk k n l) a b):=by
   intro acc h1 h2
   refine(aI l (.mk k n l) 0 a b acc rfl ho.1 ho.2 (by omega)).mono fun o ho=>⟨by rw[Tm.nodes];have:=ho.1;omega,fun x=>?_⟩
   rw[ho.2 x,nG,h2];simp
  refine yJ.ite (fun h=>yJ.pure (yU (by simp)) ?_) fun h=>yJ.ite (fun h'=>yJ.pure (yU (by simp)) ?_) fun h'=>?_
  ·exact key _ (by simp) (by rw[if_pos (.inl (by simpa using h))];rfl)
  ·exact key _ (by simp) (by rw[if_pos (.inr (by simpa using h'))];rfl)
  ·exact key _ (by simp) (by rw[if_neg (by simp at h h';simp[h,h'])])
theorem aI:∀(l:List Tm) (p:Tm) (v:Nat) (a b:Int) (acc:List Int),p.sub.drop v=l->p.sub.length<9223372036854775808->nF l->acc.length+yM l≤8192 ->
  yJ (fun q=>nD q p a b acc (v:Int)) fun o=>o.length≤acc.length+yM l∧∀x,x∈o↔x∈acc∨x∈bD l a b
 | [],p,v,a,b,acc,hd,hl,ho,hn=>by
  refine yJ.succ ?_
  simp only[nD]
  refine yJ.ite (fun h=>?_) fun _=>yJ.ret ⟨by omega,fun x=>by rw[bD];simp⟩
  rw[yO hd]at h;cases h
 |t::l,p,v,a,b,acc,hd,hl,ho,hn=>by
  have hlt:=yT hd
  rw[yM]at hn
  have IH:=fun acc' h=>aI l p (v+1) a b acc' (zV hd) hl ho.2 h
  refine yJ.succ ?_
  simp only[nD]
  refine yJ.ite (fun _=>yJ.pure (yC hd) ((iU t a b ho.1 (by omega)).bind fun r7 hr=>?_)) fun h=>?_
  ·refine i8 (N:=acc.length+t.nodes) (S:=fun x=>x∈acc∨x∈nG t a b) (by omega) (by have:=hr.1;omega) (by omega) (fun acc' h1 h2=>?_) r7 0 acc rfl (by have:=hr.1;omega) fun x=>by rw[hr.2 x]
   refine(IH acc' (by omega)).mono fun o ho=>⟨by rw[yM];have:=ho.1;omega,fun x=>?_⟩
   rw[ho.2 x,h2 x,bD];simp[or_assoc]
  ·rw[yL hd]at h;cases h
end
theorem zNZ:∀(r l:List Int) (n:Int) (v:Nat),l.drop v=r->l.length≤8192->zF (fun q=>dQ q n l (v:Int)) (r.all fun x=>decide (x<n))
 | [],l,n,v,hd,hl=>by
  refine zF.succ ?_
  simp only[dQ]
  exact zF.ifF (yO hd) zF.ret
 |y::r,l,n,v,hd,hl=>by
  have hlt:=yT hd
  refine zF.succ ?_
  simp only[dQ]
  refine zF.ifT (yL hd) (zF.pure (yC hd) ?_)
  by_cases h:y≥n
  ·exact zF.ifT (by simpa using h) (zF.ret.eq (by simp<;>omega))
  ·refine zF.ifF (by simpa using h) ?_
   rw[yB v (by omega)]
   refine(zNZ r l n (v+1) (zV hd) hl).eq ?_
   simp[show y<n by omega]
theorem zOz{r m:List Int}(h:zVv r m)(n:Int):(r.all fun x=>decide (x<n))=m.all fun x=>decide (x<n):=by
 rw[Bool.eq_iff_iff]
 simp only[List.all_eq_true]
 exact⟨fun k x hx=>k x ((h x).2 hx),fun k x hx=>k x ((h x).1 hx)⟩
theorem zKc(t:Tm)(f n:Int)(ho:t.Ok):zF (fun q=>e95 q t f n) (tL t f n):=by
 simp only[e95]
 refine(qJ t ho).bind ?_
 unfold tL
 by_cases h:zI t=true
 ·have hs:=zM h
  refine zF.ifT h ((i7 t 0 hs.2.2 (by omega) (by omega)).bind ?_)
  rw[h]
  by_cases h2:bC t 0>f
  ·exact zF.ifT (by simpa using h2) (zF.ret.eq (by simp<;>omega))
  ·obtain⟨r,h3,h4,h5⟩:=iU t 6 7 ho hs.1
   refine zF.ifF (by simpa using h2) (h3.bind ((zNZ r r n 0 rfl (by omega)).eq ?_))
   rw[zOz h5,show decide (bC t 0≤f)=true by simp<;>omega];simp
 ·exact zF.ifF (by simpa using h) (zF.ret.eq (by simp[h]))
def zIk(t:Tm)(n:Int):Bool:=tL t 0 n&&(nG t 8 8).isEmpty
theorem Y7{t:Tm}{f n:Int}(h:tL t f n=true):zI t=true:=by
 unfold tL at h;simp at h;exact h.1.1
theorem V3(t:Tm)(n:Int)(ho:t.Ok):zF (fun q=>e54 q t n) (zIk t n):=by
 simp only[e54]
 refine(zKc t 0 n ho).bind ?_
 unfold zIk
 by_cases h:tL t 0 n=true
 ·have hs:=zM (Y7 h)
  obtain⟨r,h3,h4,h5⟩:=iU t 8 8 ho hs.1
  refine zF.ifT h (h3.bind (zF.ret.eq ?_))
  rw[h,Bool.true_and,Bool.eq_iff_iff]
  simp only[beq_iff_eq,List.isEmpty_iff]
  constructor
  ·intro h6
   have h6':r=[]:=List.length_eq_zero_iff.1 (by omega)
   refine List.eq_nil_iff_forall_not_mem.2 fun x hx=>?_
   rw[←h5 x,h6']at hx;cases hx
  ·intro h6
   have:r=[]:=List.eq_nil_iff_forall_not_mem.2 fun x hx=>by rw[h5 x,h6]at hx;cases hx
   rw[this];rfl
 ·exact zF.ifF (by simpa using h) (zF.ret.eq (by simp[h]))
def zGj:Nat->Tm->Option zR
 |0,_=>none
 |b+1,a=>
 if a.k != 5 then
 some []
 else
 zP a.sub 0>>=fun x2=>
 zGj b x2>>=fun r4=>
 zP a.sub 1>>=fun x6=>
 xB 40 r4 [x6]>>=fun l8=>
 some l8
abbrev zZy (a:Tm) (r:zR) (C:Cf):Prop:=C 100 [] [yV a] (zH zC r (.st 0 3)) [] 1
theorem zZx:Qf 100 f100:=⟨func100,rfl⟩
theorem yBC:∀b:Nat,(∀ {a r},zGj b a=some r->zZy a r Ct):=by
 intro b
 induction b with
 |zero=>
  exact fun h=>nn h
 |succ b ih=>
  intro a r h
  rw[zGj]at h
  obtain⟨h1,h⟩|⟨h1,h⟩:=zK h
  obtain rfl:=sj h
  exact⟨tG zZx 1 [(none,2,3)] [] [0] true (oD (dT ([]:zR))<|oB 1 h1 o0),⟨⟨tv,tv,⟨tv,dT _⟩,tv⟩,tv⟩,zA,dT _,zA⟩
  obtain⟨x2,h3,h⟩:=zB h
  obtain⟨r4,h5,h⟩:=zB h
  obtain⟨x6,h7,h⟩:=zB h
  obtain⟨l8,h9,h⟩:=zB h
  obtain rfl:=sj h
  exact⟨tG zZx 0 [] [] [1] true (oD (dT l8)<|oP 0 (vF h9 (by simp))<|oS 1 (wC wL [x6])<|oA 0 (xH (o:=.no) h7)<|cD 0<|oC 1 [] (ih h5)<|oA 1 (xH (o:=.no) h3)<|oB 1 h1 o0),⟨⟨tv,tv,⟨tv,dT _⟩,tv⟩,tv⟩,zA,dT _,zA⟩
theorem yBD{b a r}(h:zGj b a=some r):zZy a r Ct:=yBC _ h
def D8:Nat->Int->Int->zR->Option Tm
 |0,_,_,_=>none
 |d+1,b,c,a=>
 if b==5 then
 zP a 0>>=fun x2=>
 D8 d x2.k x2.n x2.sub
 else
 some (Tm.mk b c a)
def e15(d:Nat)(e:Tm):Option Tm:=
 D8 d e.k e.n e.sub
theorem zVt:∀d:Nat,(∀ {b c a r},D8 d b c a=some r->(∀j,dL 0 (pt 229 Tryz.f15) (sp j 11 0 [(1,.mp 0 0),(2,.mp 1 0)]) (⟨[(0,.cells [ai b,ai c,zH zC a .no]),(1,.cells [ai 0,ai 0,zH zC ([]:zR) .nl])],2,[],0,[]⟩) (fQ 0 (nQ 0 Tryz.f15 (yV r) [] 0) [.blk 0,.seq (pt 15 Tryz.f15)]))):=by
 intro d
 induction d with
 |zero=>
  exact fun h=>nn h
 |succ d ih=>
  intro b c a r h
  rw[D8]at h
  obtain⟨h1,h⟩|⟨h1,h⟩:=zK h
  obtain⟨x2,h3,h⟩:=zB h
  exact fun j=>lH 2 [] [0,1] [] [1,2] (oD (dT ([]:zR))<|oD (dT x2.sub)<|oA 1 (xH (o:=.no) h3)<|oB 1 h1 o0) (ih h)
  cases h
  exact fun j=>lF 2 [] (oD (dT a)<|oB 1 h1 o0)
theorem c15{d e r}(h:e15 d e=some r):Ct 15 [] [yV e] (yV r) [] 0:=⟨by
 unfold e15 at h
 exact tH ⟨func15,rfl⟩ 0 [] [0,1] [] [1,2] (oD (dT ([]:zR))<|oD (dT e.sub) o0) (zVt _ h),⟨⟨tv,tv,⟨tv,dT _⟩,tv⟩,tv⟩,zA,⟨tv,tv,dT _,tv⟩,zA⟩
def dV:Nat->zR->Int->Int->zR->Option zR
 |0,_,_,_,_=>none
 |d+1,e,b,c,a=>
 if b==3 then
 zP a 0>>=fun x2=>
 xB 40 e [x2]>>=fun l4=>
 zP a 1>>=fun x6=>
 dV d l4 x6.k x6.n x6.sub
 else
 some e
def e55(d:Nat)(f:Tm):Option zR:=
 dV d [] f.k f.n f.sub
theorem zVs:∀d:Nat,(∀ {e b c a r},dV d e b c a=some r->(∀j,dL 0 (pt 997 f55) (sp j 20 0 [(1,.mp 0 0),(3,zH zC e (.st 0 3))]) (⟨[(0,.cells [ai b,ai c,zH zC a .no])],1,[0],1,[]⟩) (fQ 0 (nQ 0 f55 (.sl (zG zC r) r.length .no) [] 0) [.blk 0,.seq (pt 63 f55)]))):=by
 intro d
 induction d with
 |zero=>
  exact fun h=>nn h
 |succ d ih=>
  intro e b c a r h
  rw[dV]at h
  obtain⟨h1,h⟩|⟨h1,h⟩:=zK h
  obtain⟨x2,h3,h⟩:=zB h
  obtain⟨l4,h5,h⟩:=zB h
  obtain⟨x6,h7,h⟩:=zB h
  exact fun j=>lH 2 [] [0] [1] [1,3] (oD (dT l4)<|oD (dT x6.sub)<|oA 1 (xH (o:=.no) h7)<|oP 0 (vF h5 (by simp))<|oS 1 (wC wL [x2])<|oA 1 (xH (o:=.no) h3)<|oB 1 h1 o0) (ih h)
  obtain rfl:=sj h
  exact fun j=>lF 0 [] (oD (dT e)<|oB 1 h1 o0)
theorem c55{d f r}(h:e55 d f=some r):Ct 55 [] [yV f] (.sl (zG zC r) r.length .no) [] 0:=⟨by
 unfold e55 at h
 exact tH ⟨func55,rfl⟩ 1 [(none,3,3)] [0] [0] [1,3] (oD (dT ([]:zR))<|oD (dT f.sub) o0) (zVs _ h),⟨⟨tv,tv,⟨tv,dT _⟩,tv⟩,tv⟩,zA,dT _,zA⟩
def dW:Nat->Int->Int->zR->Int->Option Bool
 |0,_,_,_,_=>none
 |b+1,c,d,r1,a=>
 if decide (a<c)then
 zP r1 a>>=fun x9=>
 if x9.k != 1 then
 some false
 else
 if x9.n != (yN ((yN (d-1))-a))then
 some false
 else
 dW b c d r1 (yN (a+1))
 else
 some true
def e58(b:Nat)(e:Tm)(f c g d:Int):Option Bool:=
 zGj b e>>=fun r1=>
 e15 b e>>=fun r3=>
 if r3.k != 6 then
 some false
 else
 if r3.n != f then
 some false
 else
 if (r1.length:Int) != (yN (c+g))then
 some false
 else
 dW b c d r1 0
theorem q58:Qf 58 f58:=⟨func58,rfl⟩
theorem zVr:∀b:Nat,(∀ {c d r1 a r},dW b c d r1 a=some r->(∀j,dL 0 (pt 65461 f58) (sp j 58 0 [(2,ai c),(4,ai d),(11,zH zC r1 (.st 0 3)),(13,ai a)]) (⟨[],0,[0],1,[]⟩) (fQ 0 (nQ 0 f58 (ab r) [] 0) [.blk 0,.seq (pt 1023 f58)]))):=by
 intro b
 induction b with
 |zero=>
  exact fun h=>nn h
 |succ b ih=>
  intro c d r1 a r h
  rw[dW]at h
  obtain⟨h8,h⟩|⟨h8,h⟩:=zK h
  obtain⟨x9,h10,h⟩:=zB h
  have k:=oA 0 (xH (o:=(.st 0 3)) h10)<|oB 0 h8 o0
  obtain⟨h11,h⟩|⟨h11,h⟩:=zK h
  cases h
  exact fun j=>lF 0 [] (oB 1 h11 k)
  have k:=oA 0 (xH (o:=(.st 0 3)) h10)<|oB 1 h11 k
  obtain⟨h12,h⟩|⟨h12,h⟩:=zK h
  cases h
  exact fun j=>lF 0 [] (oB 3 h12 k)
  exact fun j=>lH 1 [] [] [0] [2,4,11,13] (oD (dT r1)<|oB 3 h12 k) (ih h)
  cases h
  exact fun j=>lF 0 [] (oB 0 h8 o0)
theorem c58{b e f c g d r}(h:e58 b e f c g d=some r):Ct 58 [] [yV e,ai f,ai c,ai g,ai d] (ab r) [] 0:=⟨by
 unfold e58 at h
 obtain⟨r1,h2,h⟩:=zB h
 obtain⟨r3,h4,h⟩:=zB h
 have k:=oC 1 [] (c15 h4)<|oC 1 [] (yBD h2) o0
 obtain⟨h5,h⟩|⟨h5,h⟩:=zK h
 cases h
 exact tF q58 0 [] (oB 2 h5 k)
 have k:=oB 2 h5 k
 obtain⟨h6,h⟩|⟨h6,h⟩:=zK h
 cases h
 exact tF q58 0 [] (oB 1 h6 k)
 have k:=oB 1 h6 k
 obtain⟨h7,h⟩|⟨h7,h⟩:=zK h
 cases h
 exact tF q58 0 [] (oB 2 h7 k)
 exact tH q58 0 [] [] [0] [2,4,11,13] (oD (dT r1)<|oB 2 h7 k) (zVr _ h),⟨⟨tv,tv,⟨tv,dT _⟩,tv⟩,tv,tv,tv,tv,tv⟩,zA,tv,zA⟩
def dX:Nat->Int->Int->zR->Option Tm
 |0,_,_,_=>none
 |d+1,b,c,a=>
 if b==3 then
 zP a 1>>=fun x2=>
 dX d x2.k x2.n x2.sub
 else
 some (Tm.mk b c a)
def e59(d:Nat)(e:Tm):Option Tm:=
 dX d e.k e.n e.sub
theorem zVp:∀d:Nat,(∀ {b c a r},dX d b c a=some r->(∀j,dL 0 (pt 229 f59) (sp j 11 0 [(1,.mp 0 0),(2,.mp 1 0)]) (⟨[(0,.cells [ai b,ai c,zH zC a .no]),(1,.cells [ai 0,ai 0,zH zC ([]:zR) .nl])],2,[],0,[]⟩) (fQ 0 (nQ 0 f59 (yV r) [] 0) [.blk 0,.seq (pt 15 f59)]))):=by
 intro d
 induction d with
 |zero=>
  exact fun h=>nn h
 |succ d ih=>
  intro b c a r h
  rw[dX]at h
  obtain⟨h1,h⟩|⟨h1,h⟩:=zK h
  obtain⟨x2,h3,h⟩:=zB h
  exact fun j=>lH 2 [] [0,1] [] [1,2] (oD (dT ([]:zR))<|oD (dT x2.sub)<|oA 1 (xH (o:=.no) h3)<|oB 1 h1 o0) (ih h)
  cases h
  exact fun j=>lF 2 [] (oD (dT a)<|oB 1 h1 o0)
theorem c59{d e r}(h:e59 d e=some r):Ct 59 [] [yV e] (yV r) [] 0:=⟨by
 unfold e59 at h
 exact tH ⟨func59,rfl⟩ 0 [] [0,1] [] [1,2] (oD (dT ([]:zR))<|oD (dT e.sub) o0) (zVp _ h),⟨⟨tv,tv,⟨tv,dT _⟩,tv⟩,tv⟩,zA,⟨tv,tv,dT _,tv⟩,zA⟩
def e8(d:Nat)(b:zY)(a c:Int):Option Bool:=
 if decide (a≥0)then
 if decide (a<(b.length:Int))then
 zP b a>>=fun x3=>
 some (x3.kind==c)
 else
 some false
 else
 some false
theorem q8:Qf 8 Tryz.f8:=⟨func8,rfl⟩
theorem c8{d b a c r}(h:e8 d b a c=some r):Ct 8 [] [zH yA b .no,ai a,ai c] (ab r) [] 0:=⟨by
 unfold e8 at h
 obtain⟨h1,h⟩|⟨h1,h⟩:=zK h
 have k:=oB 0 h1 o0
 obtain⟨h2,h⟩|⟨h2,h⟩:=zK h
 obtain⟨x3,h4,h⟩:=zB h
 cases h
 exact tF q8 2 [] (oA 0 (xK (o:=.no) h4)<|oB 1 h2 k)
 cases h
 exact tF q8 0 [] (oB 1 h2 k)
 cases h
 exact tF q8 0 [] (oB 0 h1 o0),⟨⟨tv,dE _⟩,tv,tv,tv⟩,zA,tv,zA⟩
def e97(b:Nat)(a:Tm):Option Bool:=
 if a.k==0 then
 if a.n==0 then
 some ((a.sub.length:Int)==0)
 else
 some false
 else
 some false
theorem q97:Qf 97 f97:=⟨func97,rfl⟩
theorem c97{b a r}(h:e97 b a=some r):Ct 97 [] [yV a] (ab r) [] 0:=⟨by
 unfold e97 at h
 obtain⟨h1,h⟩|⟨h1,h⟩:=zK h
 have k:=oB 1 h1 o0
 obtain⟨h2,h⟩|⟨h2,h⟩:=zK h
 cases h
 exact tF q97 3 [] (oB 1 h2 k)
 cases h
 exact tF q97 0 [] (oB 1 h2 k)
 cases h
 exact tF q97 0 [] (oB 1 h1 o0),⟨⟨tv,tv,⟨tv,dT _⟩,tv⟩,tv⟩,zA,tv,zA⟩
def dY:Nat->Int->zR->Int->Int->Int->zR->Option (zR×Tm×Int)
 |0,_,_,_,_,_,_=>none
 |e+1,d,g,m,b,c,a=>
 if decide (m<d)then
 if b != 3 then
 some ([],(Tm.mk 0 0 []),6)
 else
 zP a 0>>=fun x8=>
 xB 40 g [x8]>>=fun l10=>
 zP a 1>>=fun x12=>
 dY e d l10 (yN (m+1)) x12.k x12.n x12.sub
 else
 some (g,(Tm.mk b c a),0)
def e98(e:Nat)(f:Tm)(d:Int):Option (zR×Tm×Int):=
 e9 e f>>=fun r1=>
 if r1 then
 if decide (d<0)then
 some ([],(Tm.mk 0 0 []),5)
 else
 if decide (d>24)then
 some ([],(Tm.mk 0 0 []),2)
 else
 dY e d [] 0 f.k f.n f.sub
 else
 some ([],(Tm.mk 0 0 []),5)
theorem q98:Qf 98 f98:=⟨func98,rfl⟩
theorem zVo:∀e:Nat,(∀ {d g m b c a r},dY e d g m b c a=some r->(∀j,dL 0 (pt 65461 f98) (sp j 43 0 [(1,ai d),(2,.mp 0 0),(5,.mp 1 0),(7,zH zC g (.st 0 3)),(8,ai m)]) (⟨[(0,.cells [ai b,ai c,zH zC a .no]),(1,.cells [ai 0,ai 0,zH zC ([]:zR) .nl])],2,[0],1,[]⟩) (fQ 0 (nQ 0 f98 (.tup [.sl (zG zC r.1) r.1.length .no,yV r.2.1,ai r.2.2]) [] 0) [.blk 0,.seq (pt 1023 f98)]))):=by
 intro e
 induction e with
 |zero=>
  exact fun h=>nn h
 |succ e ih=>
  intro d g m b c a r h
  rw[dY]at h
  obtain⟨h6,h⟩|⟨h6,h⟩:=zK h
  have k:=oB 0 h6 o0
  obtain⟨h7,h⟩|⟨h7,h⟩:=zK h
  cases h
  exact fun j=>lF 1 [] (oD (dT ([]:zR))<|oD (dT ([]:zR))<|oB 1 h7 k)
  obtain⟨x8,h9,h⟩:=zB h
  obtain⟨l10,h11,h⟩:=zB h
  obtain⟨x12,h13,h⟩:=zB h
  exact fun j=>lH 3 [] [0,1] [1] [1,2,5,7,8] (oD (dT l10)<|oD (dT ([]:zR))<|oD (dT x12.sub)<|oA 1 (xH (o:=.no) h13)<|oP 0 (vF h11 (by simp))<|oS 1 (wC wL [x8])<|oA 1 (xH (o:=.no) h9)<|oB 1 h7 k) (ih h)
  cases h
  exact fun j=>lF 2 [] (oD (dT a)<|oD (dT g)<|oB 0 h6 o0)
theorem c98{e f d r}(h:e98 e f d=some r):Ct 98 [] [yV f,ai d] (.tup [.sl (zG zC r.1) r.1.length .no,yV r.2.1,ai r.2.2]) [] 0:=⟨by
 unfold e98 at h
 have z {os ob} (k:Oz os ob):=oD (dT ([]:zR))<|oD (dT ([]:zR))<|k
 obtain⟨r1,h2,h⟩:=zB h
 obtain⟨h3,h⟩|⟨h3,h⟩:=zK h
 have k:=oK 1 [] h3 (c9 h2) o0
 obtain⟨h4,h⟩|⟨h4,h⟩:=zK h
 cases h
 exact tF q98 1 [] (z<|oB 1 h4 k)
 have k:=oB 1 h4 k
 obtain⟨h5,h⟩|⟨h5,h⟩:=zK h
 cases h
 exact tF q98 1 [] (z<|oB 0 h5 k)
 exact tH q98 1 [(none,7,3)] [0,1] [0] [1,2,5,7,8] (z<|oD (dT f.sub)<|oB 0 h5 k) (zVo _ h)
 cases h
 exact tF q98 2 [] (z<|oK 1 [] h3 (c9 h2) o0),⟨⟨tv,tv,⟨tv,dT _⟩,tv⟩,tv,tv⟩,zA,⟨dT _,⟨tv,tv,dT _,tv⟩,tv,tv⟩,zA⟩
def dZ:Nat->zY->yD->Int->Int->Int->Int->Option Bool
 |0,_,_,_,_,_,_=>none
 |d+1,b,c,e,f,g,a=>
 if decide (a<(c.length:Int))then
 zP c a>>=fun x2=>
 if x2 != (yN (e+a))then
 some false
 else
 e8 d b x2 g>>=fun r5=>
 if r5 then
 zP b x2>>=fun x8=>
 if x8.fam != f then
 some false
 else
 if x8.place != a then
 some false
 else
 dZ d b c e f g (yN (a+1))
 else
 some false
 else
 some true
def e99(d:Nat)(b:zY)(c:yD)(e f g:Int):Option Bool:=
 dZ d b c e f g 0
theorem zVn:∀d:Nat,(∀ {b c e f g a r},dZ d b c e f g a=some r->(∀j,dL 0 (pt 949 f99) (sp j 60 0 [(0,zH yA b .no),(1,zH zU c .no),(2,ai e),(3,ai f),(4,ai g),(11,ai a)]) (⟨[],0,[],0,[]⟩) (fQ 0 (nQ 0 f99 (ab r) [] 0) [.blk 0,.seq (pt 15 f99)]))):=by
 intro d
 induction d with
 |zero=>
  exact fun h=>nn h
 |succ d ih=>
  intro b c e f g a r h
  rw[dZ]at h
  obtain⟨h1,h⟩|⟨h1,h⟩:=zK h
  obtain⟨x2,h3,h⟩:=zB h
  have k:=oA 0 (uH (o:=.no) h3)<|oB 1 h1 o0
  obtain⟨h4,h⟩|⟨h4,h⟩:=zK h
  cases h
  exact fun j=>lF 0 [] (oB 2 h4 k)
  obtain⟨r5,h6,h⟩:=zB h
  have k:=oA 0 (uH (o:=.no) h3)<|oB 2 h4 k
  obtain⟨h7,h⟩|⟨h7,h⟩:=zK h
  obtain⟨x8,h9,h⟩:=zB h
  have k:=oA 1 (xK (o:=.no) h9)<|oA 1 (uH (o:=.no) h3)<|oK 1 [] h7 (c8 h6) k
  obtain⟨h10,h⟩|⟨h10,h⟩:=zK h
  cases h
  exact fun j=>lF 0 [] (oB 1 h10 k)
  have k:=oA 1 (xK (o:=.no) h9)<|oA 0 (uH (o:=.no) h3)<|oB 1 h10 k
  obtain⟨h11,h⟩|⟨h11,h⟩:=zK h
  cases h
  exact fun j=>lF 0 [] (oB 1 h11 k)
  exact fun j=>lH 1 [] [] [] [0,1,2,3,4,11] (oD (dI c)<|oD (dE b)<|oB 1 h11 k) (ih h)
  cases h
  exact fun j=>lF 1 [] (oK 1 [] h7 (c8 h6) k)
  cases h
  exact fun j=>lF 0 [] (oB 1 h1 o0)
theorem c99{d b c e f g r}(h:e99 d b c e f g=some r):Ct 99 [] [zH yA b .no,zH zU c .no,ai e,ai f,ai g] (ab r) [] 0:=⟨by
 unfold e99 at h
 exact tH ⟨func99,rfl⟩ 0 [] [] [] [0,1,2,3,4,11] (oD (dI c)<|oD (dE b) o0) (zVn _ h),⟨⟨tv,dE _⟩,⟨tv,dI _⟩,tv,tv,tv,tv⟩,zA,tv,zA⟩
def Dc(f:Nat->Option Bool)(P:Prop):Prop:=∃b,zF f b∧(b=true↔P)
section
variable {f g:Nat->Option Bool} {P Q:Prop} {α:Type}
theorem Dc.ret{b:Bool}(h:b=true↔P):Dc (fun _=>some b) P:=⟨b,zF.ret,h⟩
theorem Dc.yes(h:P):Dc (fun _=>some true) P:=⟨true,zF.ret,⟨fun _=>h,fun _=>rfl⟩⟩
theorem Dc.no(h:¬P):Dc (fun _=>some false) P:=⟨false,zF.ret,⟨fun e=>(by cases e),fun e=>absurd e h⟩⟩
theorem Dc.ite{c:Bool}(h:c=true->Dc f P)(k:c=false->Dc g P):Dc (fun q=>if c=true then f q else g q) P:=by
 cases c with
 |true=>obtain⟨b,h1,h2⟩:=h rfl;exact⟨b,zF.ifT rfl h1,h2⟩
 |false=>obtain⟨b,h1,h2⟩:=k rfl;exact⟨b,zF.ifF rfl h1,h2⟩
theorem Dc.evt{x:Nat->Option α}{a:α}{c:Nat->α->Option Bool}(h:zF x a)(k:Dc (fun q=>c q a) P):Dc (fun q=>x q>>=c q) P:=by
 obtain⟨b,h1,h2⟩:=k;exact⟨b,h.bind h1,h2⟩
theorem Dc.pure{x:Option α}{a:α}{c:Nat->α->Option Bool}(h:x=some a)(k:Dc (fun q=>c q a) P):Dc (fun q=>x>>=c q) P:=by
 obtain⟨b,h1,h2⟩:=k;exact⟨b,zF.pure h h1,h2⟩
theorem Dc.bind{x:Nat->Option Bool}{c:Nat->Bool->Option Bool}(h:Dc x Q)(k:Q->Dc (fun q=>c q true) P)(k':¬Q->Dc (fun q=>c q false) P):Dc (fun q=>x q>>=c q) P:=by
 obtain⟨b,h1,h2⟩:=h
 cases b with
 |true=>exact Dc.evt h1 (k (h2.1 rfl))
 |false=>exact Dc.evt h1 (k' fun e=>by have:=h2.2 e;cases this)
theorem Dc.succ(h:Dc (fun q=>f (q+1)) P):Dc f P:=by obtain⟨b,h1,h2⟩:=h;exact⟨b,h1.succ,h2⟩
theorem Dc.iff(h:Dc f P)(k:P↔Q):Dc f Q:=by obtain⟨b,h1,h2⟩:=h;exact⟨b,h1,h2.trans k⟩
theorem Dc.of{b:Bool}(h:zF f b):Dc f (b=true):=⟨b,h,Iff.rfl⟩
end
theorem zEi{t:Tm}(hg:xC t=true):∃l y,tQ (wK t) t=some (l,y)∧l.length=wK t∧y.k≠3∧xC y=true∧y.nodes≤t.nodes∧y.high≤t.high∧∀x∈l,xC x=true∧x.nodes≤t.nodes∧x.high≤t.high:=by
 obtain⟨r,hr⟩:=zMh t hg _ (Nat.le_refl _)
 obtain⟨h1,h2,h3,h4⟩:=gS _ t r hg hr
 refine⟨r.1,r.2,hr,h1,fun h=>?_,h3.1,h3.2.1,h3.2.2,h4⟩
 obtain⟨a,b,hx,-,-⟩:=rO h3.1 h
 rw[hx,gR]at h2
 omega
theorem zEh:∀(n:Nat) (t:Tm) (l:List Tm) (y:Tm) (acc:List Tm),xC t=true->tQ n t=some (l,y)->y.k≠3->acc.length+n≤100000->zF (fun q=>dV q acc t.k t.n t.sub) (acc++l)
 |0,t,l,y,acc,_,h,hk,_=>by
  rw[tQ]at h;cases h
  refine zF.succ ?_
  simp only[dV]
  exact zF.ifF (by simpa using hk) (zF.ret.eq (by simp))
 |n+1,t,l,y,acc,hg,h,hk,hl=>by
  by_cases h3:t.k=3
  ·obtain⟨a,b,hx,hga,hgb⟩:=rO hg h3
   rw[hx,pO]at h
   obtain⟨r',h1,h2⟩:=Option.map_eq_some_iff.1 h
   cases h2
   refine zF.succ ?_
   simp only[dV]
   have hs:t.sub=[a,b]:=by rw[hx];rfl
   rw[hs]
   refine zF.ifT (by simp[h3]) (zF.pure (a:=a) rfl (zF.pure (yU (by simp;omega)) (zF.pure (a:=b) rfl ?_)))
   exact(zEh n b r'.1 r'.2 (acc++[a]) hgb h1 hk (by simp;omega)).eq (by simp)
  ·rw[oV h3]at h;cases h
theorem zGi:∀(n:Nat) (t:Tm),t.nodes≤n->wK t≤n
 |0,t,h=>by have:=wZ t;omega
 |n+1,t,h=>by
  unfold wK
  split
  ·rename_i k m a b
   rw[Tm.nodes,yM,yM,yM]at h
   have:=wZ a
   split
   ·have:=zGi n b (by omega);omega
   ·omega
  ·omega
theorem zIj{t:Tm}(hg:xC t=true)(hn:t.nodes≤8192){l:List Tm}{y:Tm}(h:tQ (wK t) t=some (l,y))(hk:y.k≠3):zF (fun q=>e55 q t) l:=by
 simp only[e55]
 have:=zGi t.nodes t (Nat.le_refl _)
 exact(zEh (wK t) t l y [] hg h hk (by simp;omega)).eq (by simp)
theorem zIi:∀(n:Nat) (t:Tm) (l:List Tm) (y:Tm),xC t=true->tQ n t=some (l,y)->y.k≠3->zF (fun q=>dX q t.k t.n t.sub) y
 |0,t,l,y,_,h,hk=>by
  rw[tQ]at h;cases h
  refine zF.succ ?_
  simp only[dX]
  exact zF.ifF (by simpa using hk) (zF.ret.eq (vW _))
 |n+1,t,l,y,hg,h,hk=>by
  by_cases h3:t.k=3
  ·obtain⟨a,b,hx,hga,hgb⟩:=rO hg h3
   rw[hx,pO]at h
   obtain⟨r',h1,h2⟩:=Option.map_eq_some_iff.1 h
   cases h2
   refine zF.succ ?_
   simp only[dX]
   have hs:t.sub=[a,b]:=by rw[hx];rfl
   rw[hs]
   exact zF.ifT (by simp[h3]) (zF.pure (a:=b) rfl (zIi n b r'.1 r'.2 hgb h1 hk))
  ·rw[oV h3]at h;cases h
theorem V4{t:Tm}(hg:xC t=true)(h:t.k=5):∃a b,t = .mk 5 t.n [a,b]∧xC a=true∧xC b=true:=by
 obtain⟨k,n,l⟩:=t
 have hh:=wW hg
 replace h:k=5:=h
 subst h
 obtain⟨a,b,rfl⟩:=zMv ((uO hh.1).2.2.2.2.2.1 (.inr (.inr rfl))).1
 have hc:=xY hh.2
 exact⟨a,b,rfl,hc.1,(xY hc.2).1⟩
theorem zSQ:∀(n:Nat) (t:Tm),xC t=true->t.nodes≤n->(yX t).length≤n
 |0,t,_,h=>by have:=wZ t;omega
 |n+1,t,hg,h=>by
  by_cases h5:t.k=5
  ·obtain⟨a,b,hx,hga,-⟩:=V4 hg h5
   rw[hx]at h ⊢
   rw[Tm.nodes,yM,yM,yM]at h
   rw[qO,List.length_append]
   have:=zSQ n a hga (by omega)
   have:=wZ b
   simp;omega
  ·rw[tO h5];simp
theorem zEg:∀(n:Nat) (t:Tm),xC t=true->t.nodes≤n->n≤8192->zF (fun q=>zGj q t) (yX t)
 |0,t,_,h,_=>by have:=wZ t;omega
 |n+1,t,hg,h,hn=>by
  refine zF.succ ?_
  simp only[zGj]
  by_cases h5:t.k=5
  ·obtain⟨a,b,hx,hga,-⟩:=V4 hg h5
   have hs:t.sub=[a,b]:=by rw[hx];rfl
   have hnn:=gU t
   rw[hs,yM,yM,yM]at hnn
   have:=wZ b
   rw[hs]
   have hle:=zSQ n a hga (by omega)
   refine zF.ifF (by simp[h5]) (zF.pure (a:=a) rfl ((zEg n a hga (by omega) (by omega)).bind (zF.pure (a:=b) rfl (zF.pure (yU (by simp;omega)) (zF.ret.eq ?_)))))
   rw[hx,qO]
  ·exact zF.ifT (by simpa using h5) (zF.ret.eq (tO h5).symm)
theorem D9:∀(n:Nat) (t:Tm),xC t=true->t.nodes≤n->zF (fun q=>D8 q t.k t.n t.sub) (zX t)
 |0,t,_,h=>by have:=wZ t;omega
 |n+1,t,hg,h=>by
  refine zF.succ ?_
  simp only[D8]
  by_cases h5:t.k=5
  ·obtain⟨a,b,hx,hga,-⟩:=V4 hg h5
   have hs:t.sub=[a,b]:=by rw[hx];rfl
   have hnn:=gU t
   rw[hs,yM,yM,yM]at hnn
   rw[hs]
   refine zF.ifT (by simp[h5]) (zF.pure (a:=a) rfl ((D9 n a hga (by omega)).eq ?_))
   rw[hx,kC]
  ·exact zF.ifF (by simpa using h5) (zF.ret.eq (by rw[rL h5,vW]))
theorem H3(P:Nat)(binders:Int)(args:List Tm)(hP:P≤args.length)(hP2:P≤24)(hb:-1048576≤binders∧binders≤1048576):∀(m v:Nat),v+m=P->Dc (fun q=>dW q (P:Int) binders args (v:Int)) (bQ ((args.take P).drop v) (binders-1-v)=true)
 |0,v,hm=>by
  refine Dc.succ ?_
  simp only[dW]
  refine Dc.ite (fun h=>absurd (of_decide_eq_true h) (by omega)) fun _=>Dc.yes ?_
  rw[List.drop_eq_nil_of_le (by rw[List.length_take];omega)];rfl
 |m+1,v,hm=>by
  have hlt:v<args.length:=by omega
  have hd:(args.take P).drop v=args[v]::(args.take P).drop (v+1):=by
   have h2:v<(args.take P).length:=by rw[List.length_take];omega
   rw[List.drop_eq_getElem_cons h2];simp
  refine Dc.succ ?_
  simp only[dW]
  have hg:zP args (v:Int)=some args[v]:=by unfold zP;rw[if_pos (by omega),Int.toNat_natCast];exact List.getElem?_eq_getElem hlt
  rw[hd]
  refine Dc.ite (fun _=>Dc.pure hg (Dc.ite (fun h=>Dc.no ?_) fun h=>?_)) fun h=>absurd (of_decide_eq_false h) (by omega)
  ·rw[bQ];simp only[bne_iff_ne,ne_eq]at h;simp[h]
  ·have hk:args[v].k=1:=by simpa using h
   rw[zW (x:=binders-1) (by omega) (by omega),zW (x:=binders-1-v) (by omega) (by omega)]
   refine Dc.ite (fun h=>Dc.no ?_) fun h=>?_
   ·rw[bQ];simp only[bne_iff_ne,ne_eq]at h;simp[h]
   ·have hn:args[v].n=binders-1-v:=by simpa using h
    rw[yB v (by omega)]
    refine(H3 P binders args hP hP2 hb m (v+1) (by omega)).iff ?_
    rw[bQ,hk,hn]
    simp only[beq_self_eq_true,Bool.true_and]
    rw[show binders-1-((v+1:Nat):Int)=binders-1-v-1 by omega]
theorem V5(t:Tm)(of pars more binders:Int)(hg:xC t=true)(hn:t.nodes≤8192)(h0:0≤pars∧pars≤24)(h1:0≤more∧more≤24)(hb:-1048576≤binders∧binders≤1048576):Dc (fun q=>e58 q t of pars more binders) (uQ t of pars more binders=true):=by
 have hH:zF (fun q=>e15 q t) (zX t):=by simp only[e15];exact D9 t.nodes t hg (Nat.le_refl _)
 simp only[e58]
 unfold uQ
 refine Dc.evt (zEg t.nodes t hg (Nat.le_refl _) hn) (Dc.evt hH (Dc.ite (fun h=>Dc.no ?_) fun h=>Dc.ite (fun k=>Dc.no ?_) fun k=>?_))
 ·simp only[bne_iff_ne,ne_eq]at h;simp[h]
 ·simp only[bne_iff_ne,ne_eq]at k;simp[k]
 ·rw[zW (by omega) (by omega)]
  refine Dc.ite (fun j=>Dc.no ?_) fun j=>?_
  ·simp only[bne_iff_ne,ne_eq]at j;simp[j]
  ·have h':(zX t).k=6:=by simpa using h
   have k':(zX t).n=of:=by simpa using k
   have j':((yX t).length:Int)=pars+more:=by simpa using j
   have:=H3 pars.toNat binders (yX t) (by omega) (by omega) hb pars.toNat 0 (by omega)
   rw[show ((pars.toNat:Nat):Int)=pars by omega]at this
   refine this.iff ?_
   simp[h',k',j']
def Y8(l:List yE)(i:Int):Prop:=lJ (zJ l i)=true∧C0 (zJ l i)=true∧fK l i (zJ l i)=true∧((zJ l i).fields.length=0∨((zJ l i).inds=0∧(zJ l i).cons.length=1∧mO (zJ l i).fields (i+2)=true∧qY l i 4 (zJ l i).fields 0=true∧zI (zJ l (i+1)).type=true∧(wK (zJ l (i+1)).type:Int)=(zJ l i).pars+(zJ l i).fields.length))
def I3(N:ByteArray->Bool)(l:List yE)(i:Int):Prop:=N (zJ l i).name=true∧wX (zJ l i).type i=true∧(((zJ l i).kind=1∧Y8 l i)∨((zJ l i).kind=2∧iI l i=true)∨((zJ l i).kind=4∧qZ l i=true)∨((zJ l i).kind=3∧C2 l i=true))
theorem zBB(l:List yE)(n kind:Int):zF (fun q=>e8 q l n kind) (mN l n kind):=by
 simp only[e8]
 unfold mN
 by_cases h0:0≤n
 ·refine zF.ifT (decide_eq_true h0) ?_
  by_cases h1:n<l.length
  ·exact zF.ifT (decide_eq_true h1) (zF.pure (yH h0 h1) (zF.ret.eq (by simp[h0,h1])))
  ·exact zF.ifF (decide_eq_false h1) (zF.ret.eq (by simp[h1]))
 ·exact zF.ifF (decide_eq_false h0) (zF.ret.eq (by simp[h0]))
theorem zEf(t:Tm):zF (fun q=>e97 q t) (nS t):=by
 simp only[e97]
 unfold nS
 by_cases h0:t.k=0
 ·refine zF.ifT (by simp[h0]) ?_
  by_cases h1:t.n=0
  ·exact zF.ifT (by simp[h1]) (zF.ret.eq (by simp[h0,h1]))
  ·exact zF.ifF (by simp[h1]) (zF.ret.eq (by simp[h1]))
 ·exact zF.ifF (by simp[h0]) (zF.ret.eq (by simp[h0]))
theorem zGh(l:List yE)(p:List Int)(f of kind:Int)(hf:0≤f∧f≤1048576)(hl:l.length≤65535)(hp:p.length≤1152921504606846976):∀(r:List Int) (v:Nat),p.drop v=r->Dc (fun q=>dZ q l p f of kind (v:Int)) (mO r (f+v)=true∧qY l of kind r v=true)
 | [],v,hd=>by
  refine Dc.succ ?_
  simp only[dZ]
  refine Dc.ite (fun h=>?_) fun _=>Dc.yes ⟨rfl,rfl⟩
  rw[yO hd]at h;cases h
 |n::r,v,hd=>by
  have hlt:=yT hd
  refine Dc.succ ?_
  simp only[dZ]
  rw[zW (x:=f+v) (by omega) (by omega)]
  refine Dc.ite (fun _=>Dc.pure (yC hd) (Dc.ite (fun h=>Dc.no fun⟨a,_⟩=>?_) fun h=>?_)) fun h=>?_
  ·rw[mO]at a;simp only[Bool.and_eq_true,beq_iff_eq]at a;simp[a.1]at h
  ·have hn:n=f+v:=by simpa using h
   refine Dc.bind (Dc.of (zBB l n kind)) (fun hi=>?_) fun hi=>Dc.ite (fun h=>(by cases h)) fun _=>Dc.no fun⟨_,a⟩=>?_
   ·have hs:=xM hi
    refine Dc.ite (fun _=>Dc.pure (yH hs.1 hs.2.1) (Dc.ite (fun h=>Dc.no fun⟨_,a⟩=>?_) fun h=>Dc.ite (fun h=>Dc.no fun⟨_,a⟩=>?_) fun h2=>?_)) fun h=>(by cases h)
    ·rw[qY]at a;simp only[Bool.and_eq_true,beq_iff_eq]at a;simp[a.1.1.2]at h
    ·rw[qY]at a;simp only[Bool.and_eq_true,beq_iff_eq]at a;simp[a.1.2]at h
    ·rw[yB v (by omega)]
     refine(zGh l p f of kind hf hl hp r (v+1) (zV hd)).iff ?_
     have h3:(zJ l n).fam=of:=by simpa using h
     have h4:(zJ l n).place=v:=by simpa using h2
     rw[mO,qY,hi,h3,h4]
     simp only[beq_self_eq_true,Bool.true_and,Bool.and_eq_true,beq_iff_eq]
     rw[show f+((v+1:Nat):Int)=f+v+1 by omega,show ((v+1:Nat):Int)=(v:Int)+1 by omega]
     exact⟨fun⟨a,b⟩=>⟨⟨hn,a⟩,b⟩,fun⟨⟨_,a⟩,b⟩=>⟨a,b⟩⟩
   ·rw[qY]at a;simp only[Bool.and_eq_true]at a;exact hi a.1.1.1
  ·rw[yL hd]at h;cases h
theorem zGg(N:Nat)(hN:N≤24):∀(m v:Nat) (acc:List Tm) (x:Tm),v+m=N->xC x=true->acc.length≤v->zF (fun q=>dY q (N:Int) acc (v:Int) x.k x.n x.sub) (fH acc (tQ m x)):=by
 intro m
 induction m with
 |zero=>
  intro v acc x hm hg ha
  refine zF.succ ?_
  simp only[dY]
  refine zF.ifF (decide_eq_false (by omega)) (zF.ret.eq ?_)
  rw[tQ,fH,vW];simp
 |succ m ih=>
  intro v acc x hm hg ha
  refine zF.succ ?_
  simp only[dY]
  refine zF.ifT (decide_eq_true (by omega)) ?_
  by_cases h:x.k=3
  ·obtain⟨a,b,hx,hga,hgb⟩:=rO hg h
   refine zF.ifF (by simp[h]) ?_
   have hs:x.sub=[a,b]:=by rw[hx];rfl
   rw[hs]
   refine zF.pure (a:=a) rfl (zF.pure (yU (by simp<;>omega)) (zF.pure (a:=b) rfl ?_))
   rw[yB v (by omega)]
   refine(ih (v+1) (acc++[a]) b (by omega) hgb (by simp<;>omega)).eq ?_
   rw[hx,pO]
   cases tQ m b<;>simp[fH]
  ·rw[oV h,fH]
   exact zF.ifT (by simp[h]) zF.ret
theorem zKb(t:Tm)(n:Int)(ho:t.Ok):zF (fun q=>e98 q t n) (xR t n):=by
 simp only[e98]
 unfold xR
 refine(qJ t ho).bind ?_
 by_cases hs:zI t=true
 ·refine zF.ifT hs ?_
  rw[if_pos hs]
  by_cases h0:n<0
  ·rw[if_pos h0];exact zF.ifT (decide_eq_true h0) zF.ret
  ·rw[if_neg h0]
   refine zF.ifF (decide_eq_false h0) ?_
   by_cases h1:n>24
   ·rw[if_pos h1];exact zF.ifT (decide_eq_true h1) zF.ret
   ·rw[if_neg h1]
    refine zF.ifF (decide_eq_false h1) ?_
    have:=zGg n.toNat (by omega) n.toNat 0 [] t (by omega) (zM hs).2.2 (by simp)
    rwa[show ((n.toNat:Nat):Int)=n by omega]at this
 ·rw[if_neg hs];exact zF.ifF (by simpa using hs) zF.ret
def e56(b:Nat)(c:zY)(a:Int):Option Bool:=
 zP c a>>=fun x1=>
 if decide (x1.pars<0)then
 some false
 else
 if decide (x1.inds<0)then
 some false
 else
 if decide (x1.pars>24)then
 some false
 else
 if decide (x1.inds>24)then
 some false
 else
 if decide ((yN (x1.pars+x1.inds))>24)then
 some false
 else
 if x1.fam != 0 then
 some false
 else
 if x1.place != 0 then
 some false
 else
 e97 b x1.body>>=fun r10=>
 if r10 then
 e98 b x1.type (yN (x1.pars+x1.inds))>>=fun r13=>
 if r13.2.2 != 0 then
 some false
 else
 if r13.2.1.k != 2 then
 some false
 else
 if r13.2.1.n != x1.level then
 some false
 else
 if decide ((x1.cons.length:Int)>16)then
 some false
 else
 e99 b c x1.cons (yN (a+1)) a 2>>=fun r19=>
 if r19 then
 if (x1.fields.length:Int)==0 then
 some true
 else
 if x1.inds==0 then
 if (x1.cons.length:Int)==1 then
 e99 b c x1.fields (yN (a+2)) a 4>>=fun r25=>
 if r25 then
 zP c (yN (a+1))>>=fun x28=>
 e9 b x28.type>>=fun r30=>
 if r30 then
 e55 b x28.type>>=fun r33=>
 some ((r33.length:Int)==(yN (x1.pars+(x1.fields.length:Int))))
 else
 some false
 else
 some false
 else
 some false
 else
 some false
 else
 some false
 else
 some false
theorem q56:Qf 56 f56:=⟨func56,rfl⟩
theorem c56{b c a r}(h:e56 b c a=some r):Ct 56 [] [zH yA c .no,ai a] (ab r) [] 0:=⟨by
 unfold e56 at h
 obtain⟨x1,h2,h⟩:=zB h
 have k:=oA 0 (xK (o:=.no) h2) o0
 obtain⟨h3,h⟩|⟨h3,h⟩:=zK h
 cases h
 exact tF q56 0 [] (oB 3 h3 k)
 have k:=oB 3 h3 k
 obtain⟨h4,h⟩|⟨h4,h⟩:=zK h
 cases h
 exact tF q56 0 [] (oB 1 h4 k)
 have k:=oB 1 h4 k
 obtain⟨h5,h⟩|⟨h5,h⟩:=zK h
 cases h
 exact tF q56 0 [] (oB 1 h5 k)
 have k:=oB 1 h5 k
 obtain⟨h6,h⟩|⟨h6,h⟩:=zK h
 cases h
 exact tF q56 0 [] (oB 1 h6 k)
 have k:=oB 1 h6 k
 obtain⟨h7,h⟩|⟨h7,h⟩:=zK h
 cases h
 exact tF q56 0 [] (oB 3 h7 k)
 have k:=oB 3 h7 k
 obtain⟨h8,h⟩|⟨h8,h⟩:=zK h
 cases h
 exact tF q56 0 [] (oB 1 h8 k)
 have k:=oB 1 h8 k
 obtain⟨h9,h⟩|⟨h9,h⟩:=zK h
 cases h
 exact tF q56 0 [] (oB 1 h9 k)
 obtain⟨r10,h11,h⟩:=zB h
 have k:=oB 1 h9 k
 obtain⟨h12,h⟩|⟨h12,h⟩:=zK h
 obtain⟨r13,h14,h⟩:=zB h
 have k:=oC 5 [] (c98 h14)<|oK 1 [] h12 (c97 h11) k
 obtain⟨h15,h⟩|⟨h15,h⟩:=zK h
 cases h
 exact tF q56 0 [] (oB 4 h15 k)
 have k:=oB 4 h15 k
 obtain⟨h16,h⟩|⟨h16,h⟩:=zK h
 cases h
 exact tF q56 0 [] (oB 1 h16 k)
 have k:=oB 1 h16 k
 obtain⟨h17,h⟩|⟨h17,h⟩:=zK h
 cases h
 exact tF q56 0 [] (oB 2 h17 k)
 have k:=oB 2 h17 k
 obtain⟨h18,h⟩|⟨h18,h⟩:=zK h
 cases h
 exact tF q56 0 [] (oB 2 h18 k)
 obtain⟨r19,h20,h⟩:=zB h
 have k:=oB 2 h18 k
 obtain⟨h21,h⟩|⟨h21,h⟩:=zK h
 have k:=oK 2 [] h21 (c99 h20) k
 obtain⟨h22,h⟩|⟨h22,h⟩:=zK h
 cases h
 exact tF q56 0 [] (oB 3 h22 k)
 have k:=oB 3 h22 k
 obtain⟨h23,h⟩|⟨h23,h⟩:=zK h
 have k:=oB 1 h23 k
 obtain⟨h24,h⟩|⟨h24,h⟩:=zK h
 obtain⟨r25,h26,h⟩:=zB h
 have k:=oB 2 h24 k
 obtain⟨h27,h⟩|⟨h27,h⟩:=zK h
 obtain⟨x28,h29,h⟩:=zB h
 obtain⟨r30,h31,h⟩:=zB h
 have k:=oA 1 (xK (o:=.no) h29)<|oK 2 [] h27 (c99 h26) k
 obtain⟨h32,h⟩|⟨h32,h⟩:=zK h
 obtain⟨r33,h34,h⟩:=zB h
 cases h
 exact tF q56 3 [] (cD 0<|cD 1<|oC 1 [] (c55 h34)<|oA 1 (xK (o:=.no) h29)<|oK 1 [] h32 (c9 h31) k)
 cases h
 exact tF q56 0 [] (oK 1 [] h32 (c9 h31) k)
 cases h
 exact tF q56 0 [] (oK 2 [] h27 (c99 h26) k)
 cases h
 exact tF q56 0 [] (oB 2 h24 k)
 cases h
 exact tF q56 0 [] (oB 1 h23 k)
 cases h
 exact tF q56 1 [] (oK 2 [] h21 (c99 h20) k)
 cases h
 exact tF q56 1 [] (oK 1 [] h12 (c97 h11) k),⟨⟨tv,dE _⟩,tv,tv⟩,zA,tv,zA⟩
def mV:Nat->Int->yE->yD->Int->Option Bool
 |0,_,_,_,_=>none
 |b+1,a,x1,c,d=>
 if decide (d<(c.length:Int))then
 zP c d>>=fun x19=>
 if x19==a then
 if x1.place==d then
 some true
 else
 mV b a x1 c (yN (d+1))
 else
 mV b a x1 c (yN (d+1))
 else
 some false
def e57(b:Nat)(e:zY)(a:Int):Option Bool:=
 zP e a>>=fun x1=>
 e8 b e x1.fam 1>>=fun r3=>
 if r3 then
 if decide (x1.fam≥a)then
 some false
 else
 e97 b x1.body>>=fun r7=>
 if r7 then
 if x1.inds != 0 then
 some false
 else
 if x1.level != 0 then
 some false
 else
 if (x1.cons.length:Int) != 0 then
 some false
 else
 if (x1.fields.length:Int) != 0 then
 some false
 else
 zP e x1.fam>>=fun x14=>
 if x1.pars != x14.pars then
 some false
 else
 if x1.kind==4 then
 mV b a x1 x14.fields 0
 else
 mV b a x1 x14.cons 0
 else
 some false
 else
 some false
theorem q57:Qf 57 f57:=⟨func57,rfl⟩
theorem zOy:∀b:Nat,(∀ {a x1 c d r},mV b a x1 c d=some r->(∀j,dL 0 (pt 262069 f57) (sp j 95 0 [(1,ai a),(5,.mp 0 0),(6,zH zU c .no),(7,ai d)]) (⟨[(0,.cells [ai x1.kind,at' x1.name,ai x1.type.k,ai x1.type.n,zH zC x1.type.sub .no,ai x1.body.k,ai x1.body.n,zH zC x1.body.sub .no,ai x1.fam,ai x1.place,ai x1.pars,ai x1.inds,ai x1.level,zH zU x1.cons .no,zH zU x1.fields .no])],1,[],0,[]⟩) (fQ 0 (nQ 0 f57 (ab r) [] 0) [.blk 0,.seq (pt 4095 f57)]))):=by
 intro b
 induction b with
 |zero=>
  exact fun h=>nn h
 |succ b ih=>
  intro a x1 c d r h
  rw[mV]at h
  have z {os ob} (k:Oz os ob):=oD (dI c)<|oD (dI x1.fields)<|oD (dI x1.cons)<|oD (dT x1.body.sub)<|oD (dT x1.type.sub)<|k
  obtain⟨h18,h⟩|⟨h18,h⟩:=zK h
  obtain⟨x19,h20,h⟩:=zB h
  have k:=oA 0 (uH (o:=.no) h20)<|oB 1 h18 o0
  obtain⟨h21,h⟩|⟨h21,h⟩:=zK h
  have k:=oB 1 h21 k
  obtain⟨h22,h⟩|⟨h22,h⟩:=zK h
  cases h
  exact fun j=>lF 0 [] (oB 1 h22 k)
  exact fun j=>lH 1 [] [0] [] [1,5,6,7] (z<|oB 1 h22 k) (ih h)
  exact fun j=>lH 1 [] [0] [] [1,5,6,7] (z<|oB 1 h21 k) (ih h)
  cases h
  exact fun j=>lF 0 [] (oB 1 h18 o0)
theorem c57{b e a r}(h:e57 b e a=some r):Ct 57 [] [zH yA e .no,ai a] (ab r) [] 0:=⟨by
 unfold e57 at h
 obtain⟨x1,h2,h⟩:=zB h
 obtain⟨r3,h4,h⟩:=zB h
 have k:=oA 0 (xK (o:=.no) h2) o0
 obtain⟨h5,h⟩|⟨h5,h⟩:=zK h
 have k:=oK 3 [] h5 (c8 h4) k
 obtain⟨h6,h⟩|⟨h6,h⟩:=zK h
 cases h
 exact tF q57 0 [] (oB 2 h6 k)
 obtain⟨r7,h8,h⟩:=zB h
 have k:=oB 2 h6 k
 obtain⟨h9,h⟩|⟨h9,h⟩:=zK h
 have k:=oK 1 [] h9 (c97 h8) k
 obtain⟨h10,h⟩|⟨h10,h⟩:=zK h
 cases h
 exact tF q57 0 [] (oB 2 h10 k)
 have k:=oB 2 h10 k
 obtain⟨h11,h⟩|⟨h11,h⟩:=zK h
 cases h
 exact tF q57 0 [] (oB 1 h11 k)
 have k:=oB 1 h11 k
 obtain⟨h12,h⟩|⟨h12,h⟩:=zK h
 cases h
 exact tF q57 0 [] (oB 2 h12 k)
 have k:=oB 2 h12 k
 obtain⟨h13,h⟩|⟨h13,h⟩:=zK h
 cases h
 exact tF q57 0 [] (oB 2 h13 k)
 obtain⟨x14,h15,h⟩:=zB h
 have k:=oA 2 (xK (o:=.no) h15)<|oB 2 h13 k
 obtain⟨h16,h⟩|⟨h16,h⟩:=zK h
 cases h
 exact tF q57 0 [] (oB 1 h16 k)
 have k:=oA 1 (xK (o:=.no) h15)<|oB 1 h16 k
 obtain⟨h17,h⟩|⟨h17,h⟩:=zK h
 exact tH q57 1 [] [0] [] [1,5,6,7] (oD (dI x14.fields)<|oD (dI x1.fields)<|oD (dI x1.cons)<|oD (dT x1.body.sub)<|oD (dT x1.type.sub)<|oA 1 (xK (o:=.no) h15)<|oB 2 h17 k) (zOy _ h)
 exact tH q57 0 [] [0] [] [1,5,6,7] (oD (dI x14.cons)<|oD (dI x1.fields)<|oD (dI x1.cons)<|oD (dT x1.body.sub)<|oD (dT x1.type.sub)<|oB 2 h17 k) (zOy _ h)
 cases h
 exact tF q57 1 [] (oK 1 [] h9 (c97 h8) k)
 cases h
 exact tF q57 1 [] (oK 3 [] h5 (c8 h4) k),⟨⟨tv,dE _⟩,tv,tv⟩,zA,tv,zA⟩
end Go.Proofs.YtcckelpaoefonaaGreat
