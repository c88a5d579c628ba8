/- Parts of the proof that the law returns true: walks of the functions, plain laws. -/
import Derived.Test.YtohkcbcddindpaaGreatAbB6
set_option linter.unusedVariables false
set_option linter.unusedSimpArgs false
set_option linter.unusedSectionVars false
namespace Go.Proofs.YtohkcbcddindpaaGreat
open Go Go.Ab Go.Proofs.Tryz
def e60(a:Nat)(b:xH)(c:Tm):Option (Int):=e86 a c>>=λr1=>if r1.k !=6 then some (-1)else e87 a b r1.n 2>>=λr4=>if r4 then e61 a c>>=λr7=>zS b r1.n>>=λx9=>e88 a x9.type>>=λr11=>if(r7.length:Int)!=(r11.length:Int)then some (-1)else some r1.n else some (-1)
theorem c60{a b c}:Cz (e60 a b c) 60 [] [zN xA b .no,yZ c] (λr=>ai r) (λ_=>[]) 0:=fw func60<|rC 1 [] c86 λ_=>rB 2 (fE 0)<|rK 1 [] c87 (λ_=>rC 2 [] c61 λ_=>rS (jL 1)<|rA 0 (wM (o:=.no)) λ_=>rC 1 [] c88 λ_=>rB 1 (fE 0)<|fE 1) λ_=>fE 1
mutual def e13:Nat->xH->LR2->(List yP)->yU->Option (uA)|0,_,_,_,_=>none|f+1,d,e,a,b=>V3 f d e a b 0 []def V3:Nat->xH->LR2->(List yP)->yU->Int->yU->Option (uA)
 |0,_,_,_,_,_,_=>none|f+1,d,e,a,b,g,c=>if decide (g<(a.length:Int))then zS a g>>=λx2=>zS b g>>=λx4=>e38 f d e (yP.mk x2.kind_ x2.n_ x2.at_ x2.sub_ x2.t_) x4>>=λr6=>if r6.how_ !=0 then some (uA.mk r6.how_ r6.n_ r6.at_ [])else yX 40 c r6.binds_>>=λl9=>V3 f d e a b (xC (g+1)) l9 else some (uA.mk 0 0 0 c)def e38:Nat->xH->LR2->yP->Tm->Option (uA)
 |0,_,_,_,_=>none|f+1,d,e,a,b=>if a.kind_==3 then some (uA.mk 0 0 0 [])else if a.kind_==1 then some (uA.mk 0 0 0 [b])else if b.k==8 then e16 f e b.n>>=λr4=>if decide (r4>=0)then if a.kind_==4 then some (uA.mk 4 b.n a.at_ [])else some (uA.mk 3 b.n a.at_ [])else e60 f d b>>=λr8=>if decide (r8<0)then some (uA.mk 2 0 a.at_ [])else if a.kind_==4 then some (uA.mk 2 0 a.at_ [])else if r8 !=a.n_ then some (uA.mk 1 0 0 [])else e61 f b>>=λr13=>zS d r8>>=λx15=>mU r13 x15.pars (r13.length:Int)>>=λx17=>e13 f d e a.sub_ x17>>=λr19=>some r19 else e60 f d b>>=λr21=>if decide (r21<0)then some (uA.mk 2 0 a.at_ [])else if a.kind_==4 then some (uA.mk 2 0 a.at_ [])else if r21 !=a.n_ then some (uA.mk 1 0 0 [])else e61 f b>>=λr26=>zS d r21>>=λx28=>mU r26 x28.pars (r26.length:Int)>>=λx30=>e13 f d e a.sub_ x30>>=λr32=>some r32 end
theorem zFd:∀f:Nat,(∀d e a b,Cz (e13 f d e a b) 13 [] [zN xA d .no,zN vJ e .no,zN wA a .no,zN zA b .no] (λr=>J4 r) (λ_=>[]) 0)/\(∀d e a b g c,Lz (V3 f d e a b g c) 0 Tryz.f13 (pt 4021 Tryz.f13) (λj=>sp j 47 0 [(0,zN xA d .no),(1,zN vJ e .no),(2,zN wA a .no),(3,zN zA b .no),(8,.mp 0 0),(9,.mp 1 0),(10,ai g)]) ⟨[(0,.cells [ai 0,ai 0,ai 0,zN zA ([]:yU) .nl]),(1,.cells [ai 0,ai 0,ai 0,zN zA c (.st 0 3)])],2,[0],1,[]⟩ (λr=>J4 r) (λ_=>[]) 0 [.blk 0,.seq (pt 63 Tryz.f13)])/\(∀d e a b,Cz (e38 f d e a b) 38 [] [zN xA d .no,zN vJ e .no,u3 a,yZ b] (λr=>J4 r) (λ_=>[]) 0):=xX ⟨λ_ _ _ _=>cN,λ_ _ _ _ _ _=>lN,λ_ _ _ _=>cN⟩ λf ih=>⟨λd e a b=>fw func13<|fH 1 [(some 1,3,3)] [0,1] [0] [0,1,2,3,8,9,10] (ih.2.1 _ _ _ _ _ _),λd e a b g c=>lw λ_=>rB 1 (rA 0 (yDL (o:=.no)) λ_=>rA 1 (xP (o:=.no)) λ_=>rC 1 [] (ih.2.2 _ _ _ _) λr6=>rB 2 (lE 4)<|rH λ_ h10=>rZ (List.length r6.binds_=0) (λh11=>rS (oP 2 (nY h10 h11))<|lH 2 [] [0,1] [0] [0,1,2,3,8,9,10] (ih.2.1 _ _ _ _ _ _)) λh11=>rS (oP 2 (vQ h10 h11))<|lH 2 [] [0,1] [1] [0,1,2,3,8,9,10] (ih.2.1 _ _ _ _ _ _))<|lE 2,λd e a b=>fw func38<|rB 1 (fE 1)<|rB 1 (rS (oS 1 (xJ xY [b]))<|fE 1)<|rB 1 (rC 1 [] c16 λ_=>rB 0 (rB 1 (fE 3)<|fE 3)<|rC 1 [] c60 λ_=>rB 0 (fE 2)<|rB 1 (fE 2)<|rB 1 (fE 1)<|rS (jL 0)<|rC 1 [] c61 λ_=>rA 0 (wM (o:=.no)) λ_=>rW (λh18=>oF 1 (zCS (o:=(.st 0 3)) h18)) λ_=>rC 0 [] (ih.1 _ _ _ _) λ_=>fE 1)<|rC 1 [] c60 λ_=>rB 0 (fE 2)<|rB 1 (fE 2)<|rB 1 (fE 1)<|rS (jL 0)<|rC 1 [] c61 λ_=>rA 0 (wM (o:=.no)) λ_=>rW (λh31=>oF 1 (zCS (o:=(.st 0 3)) h31)) λ_=>rC 0 [] (ih.1 _ _ _ _) λ_=>fE 1⟩
theorem c13{f d e a b}:Cz (e13 f d e a b) 13 [] [zN xA d .no,zN vJ e .no,zN wA a .no,zN zA b .no] (λr=>J4 r) (λ_=>[]) 0:=(zFd _).1 _ _ _ _
theorem zPl{t:Tm}(hs:zG t=true):∃L:List Tm,L.length=uJ t/\zF (λq=>e88 q t) L:=by have hsp:=zL hs;obtain⟨L,y,hL,hlen,hyk,hyg,hyn,hyh,hLg⟩:=zTc hsp.2.2;exact⟨L,hlen,zWR hsp.2.2 hsp.1 hL hyk⟩
theorem zWT{N:ByteArray->Bool}(l:List yI)(hE:vA N l)(t:Tm)(hs:zG t=true):zF (λq=>e60 q l t) (if vV l t then(yK t).n else-1):=by
 have h:=zL hs;have hn:=gN (zL (tS hs)).2.2;simp only[e60];refine zF.bind (a:=yK t) (by simp only[e86];exact zDQ t.nodes t h.2.2 (Nat.le_refl _)) ?_;by_cases h6:(yK t).k=6
 ·refine zF.ifF (by simpa using h6) ((yAm l (yK t).n 2).bind ?_);by_cases hi:G5 l (yK t).n 2=true
  ·have hi':=tL hi;have hst:=(xS (hE.2 _ hi'.1 hi'.2.1)).1;have hst':=rM hst;refine zF.ifT hi ((zBT t.nodes t h.2.2 (Nat.le_refl _) h.1).bind (zF.pure (yT hi'.1 hi'.2.1) ?_));obtain⟨L,hlen,hT⟩:=zPl hst';refine hT.bind ?_;have hk:qP l (yK t)=2:=by unfold qP;rw[if_pos h6,if_pos hi'.2.1];exact hi'.2.2
   by_cases hq:(xF t).length=L.length;·refine zF.ifF (by simp[hq]) (zF.ret.eq ?_);rw[if_pos];exact⟨hk,by rw[hq,hlen]⟩
   ·refine zF.ifT (by simp;omega) (zF.ret.eq ?_);rw[if_neg];intro hc;exact hq (by rw[hlen];exact hc.2)
  ·refine zF.ifF (by simpa using hi) (zF.ret.eq ?_);rw[if_neg];intro hc;have:=tM hc.1 (by decide);exact hi (by unfold G5;simp[hn,this.2.1,this.2.2])
 ·refine zF.ifT (by simpa using h6) (zF.ret.eq ?_);rw[if_neg];intro hc;exact h6 (tM hc.1 (by decide)).1
theorem zBU(c:List zJ)(hl:c.length<=1048576)(n:Int):∀(r:List zJ)(v:Nat),c.drop v=r->zH (λq=>gW q (ofV c) n (v:Int)) λk=>0<=k↔n∈r.map (·.n_)
 |[],v,hd=>by
  have hd':(ofV c).drop v=[]:=by unfold ofV;rw[<-List.map_drop,hd];rfl
  refine zH.succ ?_;simp only[gW];refine zH.ite (λh=>?_) λ_=>zH.ret (by simp);rw[zY hd']at h;cases h|x::r,v,hd=>by
  have hlt:=yC hd;have hd':(ofV c).drop v=uX.mk x.n_ x.type_::ofV r:=by unfold ofV;rw[<-List.map_drop,hd];rfl
  refine zH.succ ?_;simp only[gW];refine zH.ite (λ_=>zH.pure (zV hd') (zH.ite (λh=>zH.ret ?_) λh=>?_)) λh=>?_
  ·have h':x.n_=n:=by simpa using h
   simp[h']
  ·have h':¬x.n_=n:=by simpa using h
   rw[zU v (by omega)];refine(zBU c hl n r (v+1) (zR hd)).mono λk hk=>hk.trans ?_;simp only[List.map_cons,List.mem_cons];exact⟨.inr,λh=>h.resolve_left λe=>h' e.symm⟩
  ·rw[zX hd']at h;cases h
theorem zDR(c:List zJ)(hl:c.length<=1048576)(n:Int):zH (λq=>e16 q (ofV c) n) λk=>0<=k↔n∈c.map (·.n_):=by simp only[e16];exact zBU c hl n c 0 rfl
theorem yAl{l:List yI}{ns:List Int}{p:zB}{t:Tm}{s:PS}(h:s.ended=true):hP l ns p t s=s:=by cases p;rw[hP,if_pos (.inl h)]
theorem zFc{l:List yI}{ns:List Int}{s:PS}(h:s.ended=true):∀(ps:List zB)(ts:List Tm),bW l ns ps ts s=s|[],_=>by rw[bW]|p::ps,[]=>by rw[bW]|p::ps,t::ts=>by rw[bW,yAl h];exact zFc h ps ts
def HW(s s':PS)(h:uA)(vb:List Tm)(n:Nat):Prop:=(h.how_=0/\∃b,h.binds_=vb++b/\b.length<=n/\s'={s with bs:=s.bs++b})\/(h.how_=1/\s'.out=true)\/(h.how_≠0/\h.how_≠1/\s'.ended=true/\s'.out=false)
theorem yAk{s:PS}(h:s.ended=false):s.out=false:=by unfold PS.ended at h;simp only[Bool.or_eq_false_iff]at h;exact h.1.1
section
variable{N:ByteArray->Bool}{l:List yI}(hE:vA N l)
include hE
mutual theorem zTa(c:List zJ)(hcl:c.length<=1048576):∀(p:zB)(t:Tm)(s:PS),GP l p->oJ p->ndP p<=8192->zG t=true->s.ended=false->zH (λq=>e38 q l (ofV c) (p24 p) t) λh=>HW s (hP l (c.map (·.n_)) p t s) h [] (ndP p)
 |.mk k pn pa sub pt,t,s,hg,ho,hn,ht,hs=>by
  rw[oJ]at ho;rw[GP]at hg;rw[ndP]at hn;have hso:=yAk hs;have hsl:=dM sub;refine zH.succ ?_;simp only[e38,p24];rw[hP];refine zH.ite (λh3=>zH.ret ?_) λh3=>?_
  ·have h3':k=3:=by simpa[yP.kind_]using h3
   rw[if_pos (.inr h3')];exact .inl ⟨rfl,[],rfl,Nat.zero_le _,by simp⟩
  have h3':k≠3:=by simpa[yP.kind_]using h3
  rw[if_neg (λh=>h.elim (λh=>by rw[hs]at h;cases h) h3')];refine zH.ite (λh1=>zH.ret ?_) λh1=>?_
  ·have h1':k=1:=by simpa[yP.kind_]using h1
   rw[if_pos h1'];exact .inl ⟨rfl,[t],rfl,by rw[ndP];simp,rfl⟩
  have h1':k≠1:=by simpa[yP.kind_]using h1
  rw[if_neg h1'];have con:zH (λq=>e60 q l t>>=λr8=>if decide (r8<0)=true then some (uA.mk 2 0 pa [])else if(k==4)=true then some (uA.mk 2 0 pa [])else if(r8 !=pn)=true then some (uA.mk 1 0 0 [])else e61 q t>>=λr13=>zS l r8>>=λx15=>mU r13 x15.pars (List.length r13:Int)>>=λx17=>e13 q l (ofV c) (nK sub) x17>>=λr19=>some r19) λh=>HW s (if vV l t/\k≠4 then(if(yK t).n≠pn then{s with out:=true}else bW l (c.map (·.n_)) sub (sZ l t) s)else{s with st:=true,at_:=pa}) h [] (ndP (.mk k pn pa sub pt)):=by
   have st:HW s {s with st:=true,at_:=pa} (uA.mk 2 0 pa []) [] (ndP (.mk k pn pa sub pt)):=.inr (.inr ⟨show(2:Int)≠0 by decide,show(2:Int)≠1 by decide,by simp[PS.ended],hso⟩);refine zH.bind (P:=λr=>r=if vV l t then(yK t).n else-1) ((zWT l hE t ht).tot rfl) λr e=>?_;by_cases hc:vV l t
   ·rw[if_pos hc]at e;subst e;have sc:=uD ht hc;refine zH.ite (λh=>absurd (of_decide_eq_true h) (by omega)) λ_=>zH.ite (λh4=>zH.ret ?_) λh4=>zH.ite (λhne=>zH.ret ?_) λhne=>?_
    ·have h4':k=4:=by simpa using h4
     rw[if_neg (λh=>h.2 h4')];exact st
    ·have h4':k≠4:=by simpa using h4
     have hn':(yK t).n≠pn:=by simpa using hne
     rw[if_pos ⟨hc,h4'⟩,if_pos hn'];exact .inr (.inl ⟨rfl,rfl⟩)
    ·have h4':k≠4:=by simpa using h4
     have hn':(yK t).n=pn:=by simpa using hne
     rw[if_pos ⟨hc,h4'⟩,if_neg (λh=>h hn')];obtain⟨A,y,hw,-,-,hp,-,q0,q1,-⟩:=uF hE sc.1 sc.2.1 sc.2.2.1;have hk:=hg.1 h1' h3' h4';have har:zIf l pn=uJ (yA l pn).type-(yA l pn).pars:=by unfold zIf;rw[<-hn',if_pos ⟨sc.1,sc.2.1,sc.2.2.1⟩]
     obtain⟨pp,hp',g1,g2,g3⟩:=lM hE ht hc;have hlen:sub.length=(sZ l t).length:=by have h5:=hk.2;rw[har,<-hn']at h5;unfold sZ;rw[List.length_drop];have:=sc.2.2.2;omega
     refine zH.bind (P:=λr=>r=xF t) ((zBT t.nodes t (zL ht).2.2 (Nat.le_refl _) (zL ht).1).tot rfl) λr13 e=>?_;subst e;refine zH.pure (yT sc.1 sc.2.1) (zH.pure (qC (by omega) (by omega)) (zH.bind (P:=λh=>HW s (bW l (c.map (·.n_)) sub (sZ l t) s) h [] (tI sub)) (zH.succ ?_) λh hh=>zH.ret ?_))
     ·simp only[e13];exact zBV c hcl sub (nK sub) (sZ l t) 0 (sZ l t) [] s rfl rfl hlen (λp hp=>⟨zKF hg.2 p hp,bV ho.2.1 p hp⟩) (by omega) (by rw[zBP];exact ho.1) (λx hx=>xN ht (List.mem_of_mem_drop hx)) (by simp;omega) hs
     ·rcases hh with⟨a,b,b1,b2,b3⟩|hh;·exact .inl ⟨a,b,b1,by rw[ndP];omega,b3⟩
      ·exact .inr hh
   ·rw[if_neg hc]at e;subst e;refine zH.ite (λ_=>zH.ret ?_) λh=>absurd (of_decide_eq_false h) (by decide);rw[if_neg (λh=>hc h.1)];exact st
  refine zH.ite (λh8=>(zDR c hcl t.n).bind λk1 hk1=>zH.ite (λh0=>zH.ite (λh4=>zH.ret ?_) λh4=>zH.ret ?_) λh0=>?_) λh8=>?_
  ·have h8':t.k=8:=by simpa using h8
   rw[if_pos ⟨h8',hk1.1 (of_decide_eq_true h0)⟩];exact .inr (.inr ⟨show(4:Int)≠0 by decide,show(4:Int)≠1 by decide,by simp[PS.ended],hso⟩)
  ·have h8':t.k=8:=by simpa using h8
   rw[if_pos ⟨h8',hk1.1 (of_decide_eq_true h0)⟩];exact .inr (.inr ⟨show(3:Int)≠0 by decide,show(3:Int)≠1 by decide,by simp[PS.ended],hso⟩)
  ·have h0':=of_decide_eq_false h0;rw[if_neg (λh=>h0' (hk1.2 h.2))];exact con
  ·have h8':t.k≠8:=by simpa using h8
   rw[if_neg (λh=>h8' h.1)];exact con theorem zBV(c:List zJ)(hcl:c.length<=1048576):∀(r:List zB)(P:List yP)(T:List Tm)(v:Nat)(ts vb:List Tm)(s:PS),P.drop v=nK r->T.drop v=ts->r.length=ts.length->(∀p∈r,GP l p/\oJ p)->tI r<=8192->P.length<=17592186044416->(∀t∈ts,zG t=true)->vb.length+tI r<=100000->s.ended=false->zH (λq=>V3 q l (ofV c) P T (v:Int) vb) λh=>HW s (bW l (c.map (·.n_)) r ts s) h vb (tI r)
 |[],P,T,v,ts,vb,s,hd,htd,hlen,hg,hn,hP,ht,hb,hs=>by
  rw[nK]at hd;refine zH.succ ?_;simp only[V3];refine zH.ite (λh=>?_) λ_=>zH.ret ?_;·rw[zY hd]at h;cases h
  ·rw[bW];exact .inl ⟨rfl,[],by simp,Nat.zero_le _,by simp⟩|p::r,P,T,v,[],vb,s,hd,htd,hlen,hg,hn,hP,ht,hb,hs=>by simp at hlen|p::r,P,T,v,t::ts,vb,s,hd,htd,hlen,hg,hn,hP,ht,hb,hs=>by
  rw[nK]at hd;rw[tI]at hn hb;have hlt:=yC hd;have hp:=hg p (List.mem_cons_self ..);refine zH.succ ?_;simp only[V3,zFe];refine zH.ite (λ_=>zH.pure (zV hd) (zH.pure (zV htd) ((zTa c hcl p t s hp.1 hp.2 (by omega) (ht t (List.mem_cons_self ..)) hs).bind λh hh=>?_))) λh=>?_
  ·rw[bW];refine zH.ite (λhw=>zH.ret ?_) λhw=>?_
   ·have hw':h.how_≠0:=by simpa using hw
    rcases hh with⟨a,-⟩|⟨a,b⟩|⟨a,b,d,e⟩;·exact absurd a hw'
    ·rw[zFc (by unfold PS.ended;rw[b];rfl)];exact .inr (.inl ⟨a,b⟩)
    ·rw[zFc d];exact .inr (.inr ⟨a,b,d,e⟩)
   ·have hw':h.how_=0:=by simpa using hw
    rcases hh with⟨-,b,b1,b2,b3⟩|⟨a,b⟩|⟨a,b,d,e⟩
    ·rw[b3];rw[List.nil_append]at b1;rw[b1];refine zH.pure (yF (by omega)) ?_;rw[zU v (by omega)];refine(zBV c hcl r P T (v+1) ts (vb++b) {s with bs:=s.bs++b} (zR hd) (zR htd) (by simpa using hlen) (λx hx=>hg x (List.mem_cons_of_mem _ hx)) (by omega) hP (λx hx=>ht x (List.mem_cons_of_mem _ hx)) (by simp;omega) hs).mono λh' hh=>?_;rcases hh with⟨a,d,d1,d2,d3⟩|hh;·exact .inl ⟨a,b++d,by rw[d1,List.append_assoc],by rw[tI,List.length_append];omega,by rw[d3];simp[List.append_assoc]⟩
     ·exact .inr hh
    ·rw[hw']at a;cases a
    ·exact absurd hw' a
  ·rw[zX hd]at h;cases h end
theorem zWU(c:List zJ)(hcl:c.length<=1048576)(x:List zB)(a:List Tm)(hlen:x.length=a.length)(hg:∀p∈x,GP l p/\oJ p)(hn:tI x<=8192)(ha:∀t∈a,zG t=true):zH (λq=>e13 q l (ofV c) (nK x) a) λh=>HW PS0 (bW l (c.map (·.n_)) x a PS0) h [] (tI x):=by refine zH.succ ?_;simp only[e13];have:=dM x;exact zBV hE c hcl x (nK x) a 0 a [] PS0 rfl rfl hlen hg hn (by rw[zBP];omega) ha (by simp;omega) rfl
end
def e11(_qq:Nat)(a:zP):Option (List zP):=if D7 a=true/\(wH a).length<=1000000 then some ((wH a).filter λt=>decide (t.kind_=1))else none
theorem yFf{b:Nat}{a:zP}{r:List zP}(h:e11 b a=some r):CT prog 11 [] [xW a] (.sl (zC wD r) r.length .no) [] 0:=by
 unfold e11 at h;split at h;·next g=>obtain rfl:=(Option.some.inj h).symm;exact yCL g.1 g.2
 ·cases h
theorem c11{b:Nat}{a:zP}:Cz (e11 b a) 11 [] [xW a] (λr=>.sl (zC wD r) r.length .no) (λ_=>[]) 0:=λ_ h=>yFf h
def V4:Nat->yU->yU->Int->Option (Bool)|0,_,_,_=>none|c+1,a,b,d=>if decide (d<(a.length:Int))then zS a d>>=λx3=>zS b d>>=λx5=>e39 c x3 x5>>=λr7=>if r7 then V4 c a b (xC (d+1))else some false else some true
def e14(c:Nat)(a b:yU):Option (Bool):=if(a.length:Int)!=(b.length:Int)then some false else V4 c a b 0
theorem yAj:∀c:Nat,∀a b d,Lz (V4 c a b d) 0 Tryz.f14 (pt 4021 Tryz.f14) (λj=>sp j 27 0 [(0,zN zA a .no),(1,zN zA b .no),(5,ai d)]) ⟨[],0,[],0,[]⟩ (λr=>ab r) (λ_=>[]) 0 [.blk 0,.seq (pt 63 Tryz.f14)]:=xX (λ_ _ _=>lN) λc ih=>λa b d=>lw λ_=>rB 1 (rA 0 (xP (o:=.no)) λ_=>rA 1 (xP (o:=.no)) λ_=>rK 1 [] c39 (λ_=>lH 2 [] [] [] [0,1,5] (ih _ _ _)) λ_=>lE 1)<|lE 0
theorem c14{c a b}:Cz (e14 c a b) 14 [] [zN zA a .no,zN zA b .no] (λr=>ab r) (λ_=>[]) 0:=fw func14<|rB 2 (fE 0)<|fH 0 [] [] [] [0,1,5] (yAj _ _ _ _)
def zMP(c:Nat)(a:yU)(b:List (List zB)):Option (Bool):=some false
theorem zWV{c a b}:Cz (zMP c a b) 48 [] [.val (.pointer none),zN zA a .no,zN (rD zK) b .no] (λr=>ab r) (λ_=>[]) 0:=fw func48<|fE 1
def o6(e:Nat)(a:yU)(b:List (List zB))(c d:Int):Option (zP×yQ×Int×Int):=zMP e a b>>=λr1=>if r1 then none else some ((zP.mk 0 0 0 [] [] [] []),(yQ.mk 5 0 0),c,d)
theorem zMQ{e a b c d}:Cz (o6 e a b c d) 32 [.cells [ai c,ai d]] [.val (.pointer none),zN zA a .no,zN (rD zK) b .no,.mp 0 0] (λr=>.tup [xW r.1,kX r.2.1]) (λr=>[.cells [ai r.2.2.1,ai r.2.2.2]]) 0:=fw func32<|rK 0 [] zWV (λ_=>rN) λ_=>fE 3
def zDS:Nat->uG->Int->Option (Bool)|0,_,_=>none|b+1,a,c=>if decide (c<(a.types_.length:Int))then zS a.types_ c>>=λx7=>e28 b x7>>=λr9=>if decide (r9>100)then some false else zDS b a (xC (c+1))else some true
def e7(b:Nat)(d:xH)(a:uG):Option (Bool):=if decide ((d.length:Int)>60)then some false else if decide ((a.types_.length:Int)>30)then some false else if decide ((a.rows_.length:Int)>40)then some false else if decide (a.fuel_<0)then some false else if decide (a.fuel_>400)then some false else zDS b a 0
theorem yCT:∀b:Nat,∀a c,Lz (zDS b a c) 0 Tryz.f7 (pt 4021 Tryz.f7) (λj=>sp j 45 0 [(3,.mp 0 0),(5,ai c)]) ⟨[(0,.cells [zN zA a.types_ .no,zN (rD zK) a.rows_ .no,ai a.fuel_])],1,[],0,[]⟩ (λr=>ab r) (λ_=>[]) 0 [.blk 0,.seq (pt 63 Tryz.f7)]:=xX (λ_ _=>lN) λb ih=>λa c=>lw λ_=>rB 2 (rA 1 (xP (o:=.no)) λ_=>rC 1 [] c28 λ_=>rB 0 (lE 0)<|lH 1 [] [0] [] [3,5] (ih _ _))<|lE 0
theorem c7{b d a}:Cz (e7 b d a) 7 [] [zN xA d .no,J3 a] (λr=>ab r) (λ_=>[]) 0:=fw func7<|rB 1 (fE 0)<|rB 2 (fE 0)<|rB 2 (fE 0)<|rB 1 (fE 0)<|rB 1 (fE 0)<|fH 0 [] [0] [] [3,5] (yCT _ _ _)
def e10(_qq:Nat)(a:zP):Option Int:=if D7 a=true then some ((min (wH a).length 8193:Nat):Int)else none
theorem yFe{b:Nat}{a:zP}{r:Int}(h:e10 b a=some r):CT prog 10 [] [xW a] (ai r) [] 0:=by
 unfold e10 at h;split at h
 ·obtain rfl:=(Option.some.inj h).symm;exact yCK (by assumption)
 ·cases h
theorem u6{b:Nat}{a:zP}:Cz (e10 b a) 10 [] [xW a] (λr=>ai r) (λ_=>[]) 0:=λ_ h=>yFe h
def e41(c:Nat)(a b:Int):Option (Tm):=some (Tm.mk a b [])
theorem c41{c a b}:Cz (e41 c a b) 41 [] [ai a,ai b] (λr=>yZ r) (λ_=>[]) 0:=fw func41<|fE 1
def e17(b:Nat)(a:Int):Option (Tm):=e41 b 6 a>>=λr1=>some r1
theorem c17{b a}:Cz (e17 b a) 17 [] [ai a] (λr=>yZ r) (λ_=>[]) 0:=fw func17<|rC 0 [] c41 λ_=>fE 1
def e31(b:Nat)(a:Int):Option (zB):=some (zB.mk 1 a 0 [] (Tm.mk 0 0 []))
theorem c31{b a}:Cz (e31 b a) 31 [] [ai a] (λr=>wT (zB.mk r.kind_ r.n_ r.at_ r.sub_ r.t_)) (λ_=>[]) 0:=fw func31<|fE 1
def e18(f:Nat)(a:ByteArray)(b:Tm)(c d:Int)(e:yD):Option (yI):=some (yI.mk 1 a b (Tm.mk 0 0 []) 0 0 c d 0 e [])
theorem c18{f a b c d e}:Cz (e18 f a b c d e) 18 [] [at' a,yZ b,ai c,ai d,zN zZ e .no] (λr=>zXL r) (λ_=>[]) 0:=fw func18<|fE 2
def e42(d:Nat)(c:Int)(a b:Tm):Option (Tm):=some (Tm.mk c 0 [a,b])
theorem c42{d c a b}:Cz (e42 d c a b) 42 [] [ai c,yZ a,yZ b] (λr=>yZ r) (λ_=>[]) 0:=fw func42<|rS (oS 2 (xJ xY [a,b]))<|fE 1
def dU(c:Nat)(a b:Tm):Option (Tm):=e42 c 3 a b>>=λr1=>some r1
theorem fP{c a b}:Cz (dU c a b) 19 [] [yZ a,yZ b] (λr=>yZ r) (λ_=>[]) 0:=fw func19<|rC 2 [] c42 λ_=>fE 1
def e20(b:Nat)(a:Int):Option (Tm):=e41 b 2 a>>=λr1=>some r1
theorem Y8{b a}:Cz (e20 b a) 20 [] [ai a] (λr=>yZ r) (λ_=>[]) 0:=fw func20<|rC 0 [] c41 λ_=>fE 1
def zKW:Nat->yU->Int->Int->Int->yU->Option (Tm)|0,_,_,_,_,_=>none|e+1,d,f,a,b,c=>if decide (f<(d.length:Int))then zS d f>>=λx2=>e42 e 5 (Tm.mk a b c) x2>>=λr4=>zKW e d (xC (f+1)) r4.k r4.n r4.sub else some (Tm.mk a b c)
def e43(e:Nat)(g:Tm)(d:yU):Option (Tm):=zKW e d 0 g.k g.n g.sub
theorem yAh:∀e:Nat,∀d f a b c,Lz (zKW e d f a b c) 0 Tryz.f43 (pt 949 Tryz.f43) (λj=>sp j 19 0 [(1,zN zA d .no),(2,.mp 0 0),(4,.mp 1 0),(5,ai f)]) ⟨[(0,.cells [ai a,ai b,zN zA c .no]),(1,.cells [ai 0,ai 0,zN zA ([]:yU) .nl])],2,[],0,[]⟩ (λr=>yZ r) (λ_=>[]) 0 [.blk 0,.seq (pt 15 Tryz.f43)]:=xX (λ_ _ _ _ _=>lN) λe ih=>λd f a b c=>lw λ_=>rB 1 (rA 1 (xP (o:=.no)) λ_=>rC 1 [] c42 λ_=>lH 2 [] [0,1] [] [1,2,4,5] (ih _ _ _ _ _))<|lE 2
theorem c43{e g d}:Cz (e43 e g d) 43 [] [yZ g,zN zA d .no] (λr=>yZ r) (λ_=>[]) 0:=fw func43<|fH 0 [] [0,1] [] [1,2,4,5] (yAh _ _ _ _ _ _)
def e21(c:Nat)(a:Tm)(b:yU):Option (Tm):=e43 c a b>>=λr1=>some r1
theorem c21{c a b}:Cz (e21 c a b) 21 [] [yZ a,zN zA b .no] (λr=>yZ r) (λ_=>[]) 0:=fw func21<|rC 1 [] c43 λ_=>fE 1
def e22(b:Nat)(a:Int):Option (Tm):=e41 b 1 a>>=λr1=>some r1
theorem D8{b a}:Cz (e22 b a) 22 [] [ai a] (λr=>yZ r) (λ_=>[]) 0:=fw func22<|rC 0 [] c41 λ_=>fE 1
def e23(c:Nat)(a b:Tm):Option (Tm):=e42 c 4 a b>>=λr1=>some r1
theorem c23{c a b}:Cz (e23 c a b) 23 [] [yZ a,yZ b] (λr=>yZ r) (λ_=>[]) 0:=fw func23<|rC 2 [] c42 λ_=>fE 1
def e44(d:Nat)(a b:Int)(c:yU):Option (Tm):=some (Tm.mk a b c)
theorem c44{d a b c}:Cz (e44 d a b c) 44 [] [ai a,ai b,zN zA c .no] (λr=>yZ r) (λ_=>[]) 0:=fw func44<|fE 1
def e24(a:Nat)(b c:Int):Option (Tm):=e20 a c>>=λr1=>e44 a 7 b [r1]>>=λr3=>some r3
theorem c24{a b c}:Cz (e24 a b c) 24 [] [ai b,ai c] (λr=>yZ r) (λ_=>[]) 0:=fw func24<|rC 0 [] Y8 λr1=>rS (oS 0 (xJ xY [r1]))<|rC 0 [] c44 λ_=>fE 1
def e25(f:Nat)(a:ByteArray)(b:Tm)(c d e:Int):Option (yI):=some (yI.mk 2 a b (Tm.mk 0 0 []) c d e 0 0 [] [])
theorem c25{f a b c d e}:Cz (e25 f a b c d e) 25 [] [at' a,yZ b,ai c,ai d,ai e] (λr=>zXL r) (λ_=>[]) 0:=fw func25<|fE 2
def e26(d:Nat)(a:ByteArray)(b:Tm)(c:Int):Option (yI):=some (yI.mk 4 a b (Tm.mk 0 0 []) 14 c 2 0 0 [] [])
theorem c26{d a b c}:Cz (e26 d a b c) 26 [] [at' a,yZ b,ai c] (λr=>zXL r) (λ_=>[]) 0:=fw func26<|fE 2
def e5(a:Nat):Option xH:=e17 a 0>>=λr1=>e20 a 0>>=λr3=>dU a r3 r3>>=λr5=>dU a r3 r5>>=λr7=>e18 a (⟨#[80,97,105,114]⟩:ByteArray) r7 2 0 [15]>>=λr9=>e17 a 14>>=λr11=>e22 a 1>>=λr13=>e22 a 0>>=λr15=>e21 a r11 [r13,r15]>>=λr17=>e24 a 0 0>>=λr19=>e23 a r1 r1>>=λr21=>e17 a 2>>=λr23=>e21 a r23 [r15]>>=λr25=>e23 a r1 r25>>=λr27=>e23 a r1 r27>>=λr29=>e21 a r19 [r21,r15,r29,r13]>>=λr31=>e23 a r1 r31>>=λr33=>e23 a r1 r33>>=λr35=>e18 a (⟨#[78,97,116]⟩:ByteArray) r3 0 0 [1,2]>>=λr37=>e25 a (⟨#[122,101,114,111]⟩:ByteArray) r1 0 0 0>>=λr39=>dU a r1 r1>>=λr41=>e25 a (⟨#[115,117,99]⟩:ByteArray) r41 0 1 0>>=λr43=>e18 a (⟨#[66,111,111,108]⟩:ByteArray) r3 0 0 [4,5]>>=λr45=>e17 a 3>>=λr47=>e25 a (⟨#[116,114,117,101]⟩:ByteArray) r47 3 0 0>>=λr49=>e25 a (⟨#[102,97,108,115,101]⟩:ByteArray) r47 3 1 0>>=λr51=>e18 a (⟨#[76,105,115,116]⟩:ByteArray) r5 1 0 [7,8]>>=λr53=>e17 a 6>>=λr55=>e21 a r55 [r15]>>=λr57=>dU a r3 r57>>=λr59=>e25 a (⟨#[110,105,108]⟩:ByteArray) r59 6 0 1>>=λr61=>e21 a r55 [r13]>>=λr63=>e22 a 2>>=λr65=>e21 a r55 [r65]>>=λr67=>dU a r63 r67>>=λr69=>dU a r15 r69>>=λr71=>dU a r3 r71>>=λr73=>e25 a (⟨#[99,111,110,115]⟩:ByteArray) r73 6 1 1>>=λr75=>dU a r1 r3>>=λr77=>dU a r3 r77>>=λr79=>e18 a (⟨#[86,101,99]⟩:ByteArray) r79 1 1 [10,11]>>=λr81=>e17 a 9>>=λr83=>e17 a 1>>=λr85=>e21 a r83 [r15,r85]>>=λr87=>dU a r3 r87>>=λr89=>e25 a (⟨#[118,110,105,108]⟩:ByteArray) r89 9 0 1>>=λr91=>e21 a r83 [r65,r13]>>=λr93=>e22 a 3>>=λr95=>e21 a r23 [r65]>>=λr97=>e21 a r83 [r95,r97]>>=λr99=>dU a r93 r99>>=λr101=>dU a r13 r101>>=λr103=>dU a r1 r103>>=λr105=>dU a r3 r105>>=λr107=>e25 a (⟨#[118,99,111,110,115]⟩:ByteArray) r107 9 1 1>>=λr109=>dU a r13 r3>>=λr111=>dU a r15 r111>>=λr113=>dU a r3 r113>>=λr115=>e18 a (⟨#[69,113]⟩:ByteArray) r115 2 1 [13]>>=λr117=>e17 a 12>>=λr119=>e21 a r119 [r13,r15,r15]>>=λr121=>dU a r15 r121>>=λr123=>dU a r3 r123>>=λr125=>e25 a (⟨#[114,101,102,108]⟩:ByteArray) r125 12 0 2>>=λr127=>e21 a r11 [r95,r65]>>=λr129=>dU a r13 r129>>=λr131=>dU a r13 r131>>=λr133=>dU a r3 r133>>=λr135=>dU a r3 r135>>=λr137=>e25 a (⟨#[112,97,105,114]⟩:ByteArray) r137 14 0 2>>=λr139=>dU a r17 r65>>=λr141=>dU a r3 r141>>=λr143=>dU a r3 r143>>=λr145=>e26 a (⟨#[102,115,116]⟩:ByteArray) r145 0>>=λr147=>dU a r17 r13>>=λr149=>dU a r3 r149>>=λr151=>dU a r3 r151>>=λr153=>e26 a (⟨#[115,110,100]⟩:ByteArray) r153 1>>=λr155=>e18 a (⟨#[84,114,101,101]⟩:ByteArray) r3 0 0 [19,20]>>=λr157=>e17 a 18>>=λr159=>e25 a (⟨#[108,101,97,102]⟩:ByteArray) r159 18 0 0>>=λr161=>dU a r1 r159>>=λr163=>dU a r163 r159>>=λr165=>e25 a (⟨#[110,111,100,101]⟩:ByteArray) r165 18 1 0>>=λr167=>dU a r1 r41>>=λr169=>dU a r15 r13>>=λr171=>dU a r3 r171>>=λr173=>e23 a r15 r15>>=λr175=>e23 a r3 r175>>=λr177=>some [r37,r39,r43,r45,r49,r51,r53,r61,r75,r81,r91,r109,r117,r127,(yI.mk r9.kind r9.name r9.type r9.body r9.fam r9.place r9.pars r9.inds r9.level r9.cons [16,17]),r139,r147,r155,r157,r161,r167,(yI.mk 3 (⟨#[112,108,117,115]⟩:ByteArray) r169 r35 0 0 0 0 0 [] []),(yI.mk 3 (⟨#[105,100]⟩:ByteArray) r173 r177 0 0 0 0 0 [] [])]
theorem c5{a}:Cz (e5 a) 5 [] [] (λr=>.sl (zC xA r) r.length .no) (λ_=>[]) 0:=fw func5<|rC 0 [] c17 λ_=>rH λ_ h4=>rS (oC 1 [] (Y8 _ h4))<|rS (oC 0 [] (Y8 _ h4))<|rS (oC 0 [] (Y8 _ h4))<|rH λ_ h6=>rS (oC 0 [] (fP _ h6))<|rC 0 [] fP λ_=>rC 1 [] c18 λ_=>rH λ_ h12=>rS (oC 3 [] (c17 _ h12))<|rH λr13 h14=>rS (oC 0 [] (D8 _ h14))<|rH λr15 h16=>rS (oC 0 [] (D8 _ h16))<|rS (oS 0 (xJ xY [r13,r15]))<|rC 0 [] c21 λ_=>rC 3 [] c24 λ_=>rC 2 [] c23 λr21=>rS (oC 0 [] (D8 _ h16))<|rH λ_ h24=>rS (oC 2 [] (c17 _ h24))<|rS (oC 0 [] (D8 _ h16))<|rS (oS 0 (xJ xY [r15]))<|rC 0 [] c21 λ_=>rC 0 [] c23 λ_=>rC 0 [] c23 λr29=>rS (oC 0 [] (D8 _ h14))<|rS (oS 0 (xJ xY [r21,r15,r29,r13]))<|rC 0 [] c21 λ_=>rC 0 [] c23 λ_=>rC 0 [] c23 λ_=>rS (oC 1 [] (Y8 _ h4))<|rC 1 [] c18 λ_=>rC 1 [] c25 λ_=>rH λ_ h42=>rS (oC 2 [] (fP _ h42))<|rC 0 [] c25 λ_=>rS (oC 0 [] (Y8 _ h4))<|rC 1 [] c18 λ_=>rH λ_ h48=>rS (oC 0 [] (c17 _ h48))<|rC 0 [] c25 λ_=>rS (oC 0 [] (c17 _ h48))<|rC 0 [] c25 λ_=>rS (oC 0 [] (Y8 _ h4))<|rS (oC 0 [] (Y8 _ h4))<|rS (oC 0 [] (fP _ h6))<|rC 1 [] c18 λ_=>rS (oC 0 [] (Y8 _ h4))<|rH λ_ h56=>rS (oC 0 [] (c17 _ h56))<|rS (oC 0 [] (D8 _ h16))<|rS (oS 0 (xJ xY [r15]))<|rC 0 [] c21 λ_=>rC 0 [] fP λ_=>rC 0 [] c25 λ_=>rS (oC 0 [] (Y8 _ h4))<|rS (oC 0 [] (D8 _ h16))<|rS (oC 0 [] (c17 _ h56))<|rS (oC 0 [] (D8 _ h14))<|rS (oS 0 (xJ xY [r13]))<|rC 0 [] c21 λ_=>rS (oC 0 [] (c17 _ h56))<|rH λr65 h66=>rS (oC 0 [] (D8 _ h66))<|rS (oS 0 (xJ xY [r65]))<|rC 0 [] c21 λ_=>rC 0 [] fP λ_=>rC 0 [] fP λ_=>rC 0 [] fP λ_=>rC 0 [] c25 λ_=>rS (oC 0 [] (Y8 _ h4))<|rS (oC 1 [] (Y8 _ h4))<|rC 0 [] fP λ_=>rC 0 [] fP λ_=>rC 1 [] c18 λ_=>rS (oC 0 [] (Y8 _ h4))<|rH λ_ h84=>rS (oC 0 [] (c17 _ h84))<|rS (oC 0 [] (D8 _ h16))<|rC 0 [] c17 λr85=>rS (oS 0 (xJ xY [r15,r85]))<|rC 0 [] c21 λ_=>rC 0 [] fP λ_=>rC 0 [] c25 λ_=>rS (oC 0 [] (Y8 _ h4))<|rS (oC 1 [] (D8 _ h14))<|rS (oC 0 [] (c17 _ h84))<|rS (oC 0 [] (D8 _ h66))<|rS (oC 0 [] (D8 _ h14))<|rS (oS 0 (xJ xY [r65,r13]))<|rC 0 [] c21 λ_=>rS (oC 0 [] (c17 _ h84))<|rH λr95 h96=>rS (oC 0 [] (D8 _ h96))<|rS (oC 0 [] (c17 _ h24))<|rS (oC 0 [] (D8 _ h66))<|rS (oS 0 (xJ xY [r65]))<|rC 0 [] c21 λr97=>rS (oS 0 (xJ xY [r95,r97]))<|rC 0 [] c21 λ_=>rC 0 [] fP λ_=>rC 0 [] fP λ_=>rC 0 [] fP λ_=>rC 0 [] fP λ_=>rC 0 [] c25 λ_=>rS (oC 0 [] (Y8 _ h4))<|rS (oC 0 [] (D8 _ h16))<|rS (oC 0 [] (D8 _ h14))<|rS (oC 0 [] (Y8 _ h4))<|rC 0 [] fP λ_=>rC 0 [] fP λ_=>rC 0 [] fP λ_=>rC 1 [] c18 λ_=>rS (oC 0 [] (Y8 _ h4))<|rS (oC 0 [] (D8 _ h16))<|rC 0 [] c17 λ_=>rS (oC 0 [] (D8 _ h14))<|rS (oC 0 [] (D8 _ h16))<|rS (oC 0 [] (D8 _ h16))<|rS (oS 0 (xJ xY [r13,r15,r15]))<|rC 0 [] c21 λ_=>rC 0 [] fP λ_=>rC 0 [] fP λ_=>rC 0 [] c25 λ_=>rS (oC 1 [] (Y8 _ h4))<|rS (oC 0 [] (Y8 _ h4))<|rS (oC 0 [] (D8 _ h14))<|rS (oC 0 [] (D8 _ h14))<|rS (oC 0 [] (c17 _ h12))<|rS (oC 0 [] (D8 _ h96))<|rS (oC 0 [] (D8 _ h66))<|rS (oS 0 (xJ xY [r95,r65]))<|rC 0 [] c21 λ_=>rC 0 [] fP λ_=>rC 0 [] fP λ_=>rC 0 [] fP λ_=>rC 0 [] fP λ_=>rC 0 [] c25 λ_=>rS (oC 0 [] (Y8 _ h4))<|rS (oC 0 [] (Y8 _ h4))<|rS (oC 1 [] (D8 _ h66))<|rC 0 [] fP λ_=>rC 0 [] fP λ_=>rC 0 [] fP λ_=>rC 0 [] c26 λ_=>rS (oC 0 [] (Y8 _ h4))<|rS (oC 0 [] (Y8 _ h4))<|rS (oC 1 [] (D8 _ h14))<|rC 0 [] fP λ_=>rC 0 [] fP λ_=>rC 0 [] fP λ_=>rC 0 [] c26 λ_=>rS (oC 0 [] (Y8 _ h4))<|rC 1 [] c18 λ_=>rH λ_ h160=>rS (oC 0 [] (c17 _ h160))<|rC 0 [] c25 λ_=>rS (oC 1 [] (c17 _ h160))<|rC 0 [] fP λ_=>rS (oC 0 [] (c17 _ h160))<|rC 0 [] fP λ_=>rC 0 [] c25 λ_=>rS (oC 3 [] (fP _ h42))<|rC 0 [] fP λ_=>rS (oC 1 [] (Y8 _ h4))<|rS (oC 0 [] (D8 _ h16))<|rS (oC 0 [] (D8 _ h14))<|rC 0 [] fP λ_=>rC 0 [] fP λ_=>rS (oC 0 [] (Y8 _ h4))<|rS (oC 0 [] (D8 _ h16))<|rS (oC 0 [] (D8 _ h16))<|rC 0 [] c23 λ_=>rC 0 [] c23 λ_=>fE 1
def e8(a:Nat):Option (Bool):=e5 a>>=λr1=>e29 a r1>>=λr3=>match r3 with
 |Sum.inl y40=>e30 a 100>>=λr41=>match r41 with
  |Sum.inl y59=>none|Sum.inr y43=>e17 a 0>>=λr44=>e31 a 0>>=λr46=>e31 a 1>>=λr48=>o6 a [r44,r44] [[(zB.mk 2 1 0 [] (Tm.mk 0 0 [])),(zB.mk r46.kind_ r46.n_ r46.at_ r46.sub_ r46.t_)],[(zB.mk 2 2 0 [(zB.mk r46.kind_ r46.n_ r46.at_ r46.sub_ r46.t_)] (Tm.mk 0 0 [])),(zB.mk r48.kind_ r48.n_ r48.at_ r48.sub_ r48.t_)]] y43.2.1 y43.2.2>>=λr50=>if r50.2.1.e_==0 then if r50.1.kind_==3 then e11 a r50.1>>=λr54=>if(r54.length:Int)==2 then e10 a r50.1>>=λr57=>some (r57==3)else some false else some false else some false
 |Sum.inr y5=>e30 a 100>>=λr6=>match r6 with
  |Sum.inl y24=>none|Sum.inr y8=>e17 a 0>>=λr9=>e31 a 0>>=λr11=>e31 a 1>>=λr13=>e32 a (xK.mk y5.2.1 y5.2.2.2.2.1 y5.2.2.2.2.2 y5.2.2.1 y5.2.2.2.1) [r9,r9] [[(zB.mk 2 1 0 [] (Tm.mk 0 0 [])),(zB.mk r11.kind_ r11.n_ r11.at_ r11.sub_ r11.t_)],[(zB.mk 2 2 0 [(zB.mk r11.kind_ r11.n_ r11.at_ r11.sub_ r11.t_)] (Tm.mk 0 0 [])),(zB.mk r13.kind_ r13.n_ r13.at_ r13.sub_ r13.t_)]] y8.2.1 y8.2.2>>=λr15=>if r15.2.1.e_==0 then if r15.1.kind_==3 then e11 a r15.1>>=λr19=>if(r19.length:Int)==2 then e10 a r15.1>>=λr22=>some (r22==3)else some false else some false else some false
theorem c8{a}:Cz (e8 a) 8 [] [] (λr=>ab r) (λ_=>[]) 0:=fw func8<|rC 0 [] c5 λ_=>rC 0 [] c29<|sD (λ_=>rC 2 [] c30<|sD (λ_=>rN) λ_=>rC 2 [] c17 λr44=>rH λr46 h47=>rS (oC 2 [] (c31 _ h47))<|rS (oS 0 (xJ uL [(zB.mk r46.kind_ r46.n_ r46.at_ r46.sub_ r46.t_)]))<|rS (oS 3 (xJ xY [r44,r44]))<|rS (oC 1 [] (c31 _ h47))<|rS (oS 0 (xJ uL [(zB.mk 2 1 0 [] (Tm.mk 0 0 [])),(zB.mk r46.kind_ r46.n_ r46.at_ r46.sub_ r46.t_)]))<|rC 1 [] c31 λr48=>rS (oS 0 (xJ uL [(zB.mk 2 2 0 [(zB.mk r46.kind_ r46.n_ r46.at_ r46.sub_ r46.t_)] (Tm.mk 0 0 [])),(zB.mk r48.kind_ r48.n_ r48.at_ r48.sub_ r48.t_)]))<|rC 1 [0] zMQ λ_=>rB 5 (rB 1 (rC 1 [] c11 λ_=>rB 1 (rC 1 [] u6 λ_=>fE 1)<|fE 0)<|fE 0)<|fE 0) λ_=>rC 2 [] c30<|sD (λ_=>rN) λ_=>rC 2 [] c17 λr9=>rH λr11 h12=>rS (oC 2 [] (c31 _ h12))<|rS (oS 0 (xJ uL [(zB.mk r11.kind_ r11.n_ r11.at_ r11.sub_ r11.t_)]))<|rS (oS 3 (xJ xY [r9,r9]))<|rS (oC 1 [] (c31 _ h12))<|rS (oS 0 (xJ uL [(zB.mk 2 1 0 [] (Tm.mk 0 0 [])),(zB.mk r11.kind_ r11.n_ r11.at_ r11.sub_ r11.t_)]))<|rC 1 [] c31 λr13=>rS (oS 0 (xJ uL [(zB.mk 2 2 0 [(zB.mk r11.kind_ r11.n_ r11.at_ r11.sub_ r11.t_)] (Tm.mk 0 0 [])),(zB.mk r13.kind_ r13.n_ r13.at_ r13.sub_ r13.t_)]))<|rC 1 [0,1,2] c32 λ_=>rB 5 (rB 1 (rC 1 [] c11 λ_=>rB 1 (rC 1 [] u6 λ_=>fE 1)<|fE 0)<|fE 0)<|fE 0
def e9(b:Nat)(c:xH)(a:uG):Option (zP×yQ):=e29 b c>>=λr1=>match r1 with
 |Sum.inl y12=>e30 b a.fuel_>>=λr13=>match r13 with|Sum.inl y18=>none|Sum.inr y15=>o6 b a.types_ a.rows_ y15.2.1 y15.2.2>>=λr16=>some (r16.1,r16.2.1)
 |Sum.inr y3=>e30 b a.fuel_>>=λr4=>match r4 with|Sum.inl y9=>none|Sum.inr y6=>e32 b (xK.mk y3.2.1 y3.2.2.2.2.1 y3.2.2.2.2.2 y3.2.2.1 y3.2.2.2.1) a.types_ a.rows_ y6.2.1 y6.2.2>>=λr7=>some (r7.1,r7.2.1)
theorem c9{b c a}:Cz (e9 b c a) 9 [] [zN xA c .no,J3 a] (λr=>.tup [xW r.1,kX r.2]) (λ_=>[]) 0:=fw func9<|rC 0 [] c29<|sD (λ_=>rC 3 [] c30<|sD (λ_=>rN) λ_=>rC 4 [3] zMQ λ_=>fE 4) λ_=>rC 3 [] c30<|sD (λ_=>rN) λ_=>rC 4 [3,4,5] c32 λ_=>fE 4
mutual def zBW:Nat->xH->uG->(List (List yP)×Bool)->(List zP)->Int->Option (Bool)
 |0,_,_,_,_,_=>none|e+1,d,c,r1,r12,a=>if decide (a<(r12.length:Int))then zDU e d c r1 r12 a [] 0 else e8 e>>=λr15=>some r15 def zDU:Nat->xH->uG->(List (List yP)×Bool)->(List zP)->Int->LR2->Int->Option (Bool)
 |0,_,_,_,_,_,_,_=>none|e+1,d,c,r1,r12,a,b,m=>zS r12 a>>=λx15=>if decide (m<(x15.vars_.length:Int))then zS x15.vars_ m>>=λx18=>yX 48 b [(uX.mk x18.n_ x18.type_)]>>=λl20=>zDU e d c r1 r12 a l20 (xC (m+1))else e12 e b>>=λr22=>if r22 then if decide (x15.row_<0)then some false else if decide (x15.row_>=(r1.1.length:Int))then some false else if(x15.args_.length:Int)!=(c.types_.length:Int)then some false else dV e d c r1 r12 a b 0 else some false def dV:Nat->xH->uG->(List (List yP)×Bool)->(List zP)->Int->LR2->Int->Option (Bool)
 |0,_,_,_,_,_,_,_=>none|e+1,d,c,r1,r12,a,b,g=>zS r12 a>>=λx28=>if decide (g<=x28.row_)then zS r1.1 g>>=λx31=>e13 e d b x31 x28.args_>>=λr33=>if decide (g<x28.row_)then if r33.how_ !=1 then some false else if g==x28.row_ then if r33.how_ !=0 then some false else e14 e r33.binds_ x28.binds_>>=λr39=>if r39 then dV e d c r1 r12 a b (xC (g+1))else some false else dV e d c r1 r12 a b (xC (g+1))else if g==x28.row_ then if r33.how_ !=0 then some false else e14 e r33.binds_ x28.binds_>>=λr44=>if r44 then dV e d c r1 r12 a b (xC (g+1))else some false else dV e d c r1 r12 a b (xC (g+1))else Y9 e d c r1 r12 a b 0 def Y9:Nat->xH->uG->(List (List yP)×Bool)->(List zP)->Int->LR2->Int->Option (Bool)
 |0,_,_,_,_,_,_,_=>none|e+1,d,c,r1,r12,a,b,f=>zS r12 a>>=λx47=>if decide (f<(x47.args_.length:Int))then zS x47.args_ f>>=λx50=>e15 e x50 8 8>>=λr52=>zDV e d c r1 r12 a b f r52 0 else zBW e d c r1 r12 (xC (a+1))def zDV:Nat->xH->uG->(List (List yP)×Bool)->(List zP)->Int->LR2->Int->yD->Int->Option (Bool)
 |0,_,_,_,_,_,_,_,_,_=>none|e+1,d,c,r1,r12,a,b,f,r52,n=>if decide (n<(r52.length:Int))then zS r52 n>>=λx55=>e16 e b x55>>=λr57=>if decide (r57<0)then some false else zDV e d c r1 r12 a b f r52 (xC (n+1))else Y9 e d c r1 r12 a b (xC (f+1))end
def e4(e:Nat)(d:xH)(c:uG):Option (Bool):=e6 e c.rows_>>=λr1=>if r1.2 then e7 e d c>>=λr4=>if r4 then e9 e d c>>=λr7=>if r7.2.e_ !=0 then e8 e>>=λr10=>some r10 else e11 e r7.1>>=λr12=>zBW e d c r1 r12 0 else e8 e>>=λr14=>some r14 else e7 e d c>>=λr16=>if r16 then e8 e>>=λr19=>some r19 else e8 e>>=λr21=>some r21
theorem kQ:∀e:Nat,(∀d c r1 r12 a,Lz (zBW e d c r1 r12 a) 0 Tryz.f4 (pt 1048501 Tryz.f4) (λj=>sp j 208 0 [(0,zN xA d .no),(3,.mp 0 0),(5,zN (rD wA) r1.1 .no),(9,zN wD r12 .no),(10,ai a)]) ⟨[(0,.cells [zN zA c.types_ .no,zN (rD zK) c.rows_ .no,ai c.fuel_])],1,[],0,[]⟩ (λr=>ab r) (λ_=>[]) 0 [.blk 0,.seq (pt 16383 Tryz.f4)])/\(∀d c r1 r12 a b m,Lz (zDU e d c r1 r12 a b m) 0 Tryz.f4 (pt 68714620853 Tryz.f4) (λj=>sp j 208 0 [(0,zN xA d .no),(3,.mp 0 0),(5,zN (rD wA) r1.1 .no),(9,zN wD r12 .no),(10,ai a),(11,zN vJ b (.st 0 4)),(12,ai m)]) ⟨[(0,.cells [zN zA c.types_ .no,zN (rD zK) c.rows_ .no,ai c.fuel_])],1,[0],1,[]⟩ (λr=>ab r) (λ_=>[]) 0 [.blk 2,.seq (pt 1073665951 Tryz.f4),.blk 1,.seq (pt 16776031 Tryz.f4),.loop (pt 1048501 Tryz.f4),.blk 0,.seq (pt 16383 Tryz.f4)])/\(∀d c r1 r12 a b g,Lz (dV e d c r1 r12 a b g) 0 Tryz.f4 (pt 1099433934773 Tryz.f4) (λj=>sp j 208 0 [(0,zN xA d .no),(3,.mp 0 0),(5,zN (rD wA) r1.1 .no),(9,zN wD r12 .no),(10,ai a),(11,zN vJ b (.st 0 4)),(13,ai g)]) ⟨[(0,.cells [zN zA c.types_ .no,zN (rD zK) c.rows_ .no,ai c.fuel_])],1,[0],1,[]⟩ (λr=>ab r) (λ_=>[]) 0 [.blk 4,.seq (pt 17178655231 Tryz.f4),.blk 1,.seq (pt 16776031 Tryz.f4),.loop (pt 1048501 Tryz.f4),.blk 0,.seq (pt 16383 Tryz.f4)])/\(∀d c r1 r12 a b f,Lz (Y9 e d c r1 r12 a b f) 0 Tryz.f4 (pt 1099433934837 Tryz.f4) (λj=>sp j 208 0 [(0,zN xA d .no),(3,.mp 0 0),(5,zN (rD wA) r1.1 .no),(9,zN wD r12 .no),(10,ai a),(11,zN vJ b (.st 0 4)),(15,ai f)]) ⟨[(0,.cells [zN zA c.types_ .no,zN (rD zK) c.rows_ .no,ai c.fuel_])],1,[0],1,[]⟩ (λr=>ab r) (λ_=>[]) 0 [.blk 6,.blk 1,.seq (pt 16776031 Tryz.f4),.loop (pt 1048501 Tryz.f4),.blk 0,.seq (pt 16383 Tryz.f4)])/\(∀d c r1 r12 a b f r52 n,Lz (zDV e d c r1 r12 a b f r52 n) 0 Tryz.f4 (pt 18013125588384245 Tryz.f4) (λj=>sp j 208 0 [(0,zN xA d .no),(3,.mp 0 0),(5,zN (rD wA) r1.1 .no),(9,zN wD r12 .no),(10,ai a),(11,zN vJ b (.st 0 4)),(15,ai f),(16,zN zZ r52 .no),(17,ai n)]) ⟨[(0,.cells [zN zA c.types_ .no,zN (rD zK) c.rows_ .no,ai c.fuel_])],1,[0],1,[]⟩ (λr=>ab r) (λ_=>[]) 0 [.blk 8,.blk 7,.seq (pt 17590942957407 Tryz.f4),.loop (pt 1099433934837 Tryz.f4),.blk 6,.blk 1,.seq (pt 16776031 Tryz.f4),.loop (pt 1048501 Tryz.f4),.blk 0,.seq (pt 16383 Tryz.f4)]):=xX ⟨λ_ _ _ _ _=>lN,λ_ _ _ _ _ _ _=>lN,λ_ _ _ _ _ _ _=>lN,λ_ _ _ _ _ _ _=>lN,λ_ _ _ _ _ _ _ _ _=>lN⟩ λe ih=>⟨λd c r1 r12 a=>lw λ_=>rB 1 (lH 1 [(none,11,4)] [0] [0] [0,3,5,9,10,11,12] (ih.2.1 _ _ _ _ _ _ _))<|rC 0 [] c8 λ_=>lE 0,λd c r1 r12 a b m=>lw λ_=>rH λ_ h16=>rS (oA 0 (B5 (o:=.no) h16))<|rB 2 (rS (oA 0 (B5 (o:=.no) h16))<|rH λ_ h19=>rS (oA 1 (Q3 (o:=.no) h19))<|rS (oA 1 (B5 (o:=.no) h16))<|rS (oA 1 (Q3 (o:=.no) h19))<|rW (λh21=>oP 2 (yBg h21 (by simp))) λ_=>lH 1 [] [0] [1] [0,3,5,9,10,11,12] (ih.2.1 _ _ _ _ _ _ _))<|rK 0 [] c12 (λ_=>rS (oA 1 (B5 (o:=.no) h16))<|rB 1 (lE 0)<|rS (oA 0 (B5 (o:=.no) h16))<|rB 2 (lE 0)<|rS (oA 0 (B5 (o:=.no) h16))<|rB 4 (lE 0)<|lH 0 [] [0] [0] [0,3,5,9,10,11,13] (ih.2.2.1 _ _ _ _ _ _ _)) λ_=>lE 1,λd c r1 r12 a b g=>lw λ_=>rH λ_ h29=>rS (oA 0 (B5 (o:=.no) h29))<|rB 1 (rA 0 (yDK (o:=.no)) λ_=>rS (oA 1 (B5 (o:=.no) h29))<|rC 1 [] c13 λ_=>rS (oA 1 (B5 (o:=.no) h29))<|rB 1 (rB 1 (lE 0)<|rS (oA 0 (B5 (o:=.no) h29))<|rB 1 (rB 1 (lE 0)<|rS (oA 1 (B5 (o:=.no) h29))<|rK 1 [] c14 (λ_=>lH 2 [] [0] [0] [0,3,5,9,10,11,13] (ih.2.2.1 _ _ _ _ _ _ _)) λ_=>lE 1)<|lH 1 [] [0] [0] [0,3,5,9,10,11,13] (ih.2.2.1 _ _ _ _ _ _ _))<|rS (oA 0 (B5 (o:=.no) h29))<|rB 1 (rB 1 (lE 0)<|rS (oA 1 (B5 (o:=.no) h29))<|rK 1 [] c14 (λ_=>lH 2 [] [0] [0] [0,3,5,9,10,11,13] (ih.2.2.1 _ _ _ _ _ _ _)) λ_=>lE 1)<|lH 1 [] [0] [0] [0,3,5,9,10,11,13] (ih.2.2.1 _ _ _ _ _ _ _))<|lH 0 [] [0] [0] [0,3,5,9,10,11,15] (ih.2.2.2.1 _ _ _ _ _ _ _),λd c r1 r12 a b f=>lw λ_=>rH λ_ h48=>rS (oA 0 (B5 (o:=.no) h48))<|rB 2 (rS (oA 0 (B5 (o:=.no) h48))<|rA 1 (xP (o:=.no)) λ_=>rC 1 [] c15 λ_=>lH 0 [] [0] [0] [0,3,5,9,10,11,15,16,17] (ih.2.2.2.2 _ _ _ _ _ _ _ _ _))<|lH 1 [] [0] [] [0,3,5,9,10] (ih.1 _ _ _ _ _),λd c r1 r12 a b f r52 n=>lw λ_=>rB 1 (rA 0 (oV (o:=.no)) λ_=>rC 1 [] c16 λ_=>rB 0 (lE 0)<|lH 1 [] [0] [0] [0,3,5,9,10,11,15,16,17] (ih.2.2.2.2 _ _ _ _ _ _ _ _ _))<|lH 1 [] [0] [0] [0,3,5,9,10,11,15] (ih.2.2.2.1 _ _ _ _ _ _ _)⟩
theorem c4{e d c}:Cz (e4 e d c) 4 [] [zN xA d .no,J3 c] (λr=>ab r) (λ_=>[]) 0:=fw func4<|rC 1 [] c6 λ_=>rB 1 (rK 1 [] c7 (λ_=>rC 3 [] c9 λ_=>rB 5 (rC 0 [] c8 λ_=>fE 0)<|rC 1 [] c11 λ_=>fH 0 [] [0] [] [0,3,5,9,10] (((kQ _).1) _ _ _ _ _)) λ_=>rC 1 [] c8 λ_=>fE 0)<|rK 1 [] c7 (λ_=>rC 2 [] c8 λ_=>fE 0) λ_=>rC 1 [] c8 λ_=>fE 0
theorem zKX:zF (λq=>e8 q) true:=⟨1000,λq hq=>by
 obtain⟨k,rfl⟩:∃k,q=k+1000:=⟨q-1000,by omega⟩;have awake26:∀k,e8 (k+1000)=some true:=λk=>by kernel_rfl
 exact awake26 k⟩
theorem zPi:zF (λq=>e8 q>>=λr=>some r) true:=zKX.bind zF.ret
def okX(x:uG):Prop:=uT x.types_/\zTe x.rows_
theorem Z0(l:List yI)(x:uG):zH (λq=>e7 q l x) λb=>b=true->l.length<=60/\x.types_.length<=30/\x.rows_.length<=40/\0<=x.fuel_/\x.fuel_<=400:=by
 simp only[e7];refine zH.ite (λ_=>zH.ret λh=>nomatch h) λh0=>zH.ite (λ_=>zH.ret λh=>nomatch h) λh1=>zH.ite (λ_=>zH.ret λh=>nomatch h) λh2=>zH.ite (λ_=>zH.ret λh=>nomatch h) λh3=>zH.ite (λ_=>zH.ret λh=>nomatch h) λh4=>?_;have h0:=of_decide_eq_false h0;have h1:=of_decide_eq_false h1;have h2:=of_decide_eq_false h2;have h3:=of_decide_eq_false h3;have h4:=of_decide_eq_false h4;have key:∀(r:List Tm)(v:Nat),x.types_.drop v=r->zH (λq=>zDS q x (v:Int)) λ_=>True:=by intro r;induction r with|nil=>intro v hd;refine zH.succ ?_;simp only[zDS];refine zH.ite (λh=>?_) λ_=>zH.ret trivial;rw[zY hd]at h;cases h|cons t r ih=>
  intro v hd;have hlt:=yC hd;refine zH.succ ?_;simp only[zDS];refine zH.ite (λ_=>zH.pure (zV hd) (zH.bind (P:=λ_=>True) ((zHE t).tot trivial) λ_ _=>zH.ite (λ_=>zH.ret trivial) λ_=>?_)) λh=>?_;·rw[zU v (by omega)];exact ih (v+1) (zR hd)
  ·rw[zX hd]at h;cases h
 exact(key x.types_ 0 rfl).mono λb _ _=>⟨by omega,by omega,by omega,by omega,by omega⟩
theorem zPh{t:zP}(h:TOk t):zF (λq=>e11 q t) ((wH t).filter λt=>decide (t.kind_=1)):=zF.mk λq=>by unfold e11;rw[if_pos ⟨h.1,h.2⟩]
theorem zIK(l:List Tm)(hl:l.length<=1048576)(ho:∀t∈l,zG t=true):zF (λq=>e14 q l l) true:=by
 simp only[e14];refine zF.ifF (by simp) ?_;have key:∀(r:List Tm)(v:Nat),l.drop v=r->zF (λq=>V4 q l l (v:Int)) true:=by intro r;induction r with|nil=>intro v hd;refine zF.succ ?_;simp only[V4];exact zF.ifF (zY hd) zF.ret|cons x r ih=>intro v hd;have hlt:=yC hd;refine zF.succ ?_;simp only[V4];refine zF.ifT (zX hd) (zF.pure (zV hd) (zF.pure (zV hd) ((zDj x (yB (ho x (List.mem_of_mem_drop (by rw[hd];simp))))).bind (zF.ifT rfl ?_))));rw[zU v (by omega)];exact ih (v+1) (zR hd)
 exact key l 0 rfl
theorem zWW{t:Tm}(hs:zG t=true)(a b:Int):∃o:List Int,zF (λq=>e15 q t a b) o/\o.length<=8192/\yAp o (sF t a b):=by have h:=zL hs;obtain⟨o,h1,h2,h3⟩:=Y7 t a b (yB hs) h.1;exact⟨o,h1,by omega,h3⟩
section
variable{l:List yI}{x:uG}{R:List (List yP)×Bool}{a:List zP}{i:Nat}{t:zP}(hi:a[i]?=some t)
theorem zBX(c:List zJ)(hcl:c.length<=1048576)(v:Nat)(fr:List Int)(hfr:∀z∈fr,z∈c.map (·.n_))(hl:fr.length<=8192)(K:zF (λq=>Y9 q l x R a (i:Int) (ofV c) (xC ((v:Int)+1))) true):∀(r:List Int)(w:Nat),fr.drop w=r->zF (λq=>zDV q l x R a (i:Int) (ofV c) (v:Int) fr (w:Int)) true|[],w,hd=>by refine zF.succ ?_;simp only[zDV];exact zF.ifF (zY hd) K|z::r,w,hd=>by have hlt:=yC hd;obtain⟨k,hk,hk2⟩:=zDR c hcl z;have h0:=hk2.2 (hfr z (List.mem_of_mem_drop (by rw[hd];simp)));refine zF.succ ?_;simp only[zDV];refine zF.ifT (zX hd) (zF.pure (zV hd) (zF.bind hk (zF.ifF (decide_eq_false (by omega)) ?_)));rw[zU w (by omega)];exact zBX c hcl v fr hfr hl K r (w+1) (zR hd)
include hi
theorem zDW(hcl:t.vars_.length<=1048576)(hl:t.args_.length<=1048576)(ha:∀b∈t.args_,zG b=true/\Cl t.vars_ b)(K:zF (λq=>zBW q l x R a (xC ((i:Int)+1))) true):∀(r:List Tm)(v:Nat),t.args_.drop v=r->zF (λq=>Y9 q l x R a (i:Int) (ofV t.vars_) (v:Int)) true|[],v,hd=>by refine zF.succ ?_;simp only[Y9];exact zF.pure (wX hi) (zF.ifF (zY hd) K)|b::r,v,hd=>by have hlt:=yC hd;have hb:=ha b (List.mem_of_mem_drop (by rw[hd];simp));obtain⟨o,h1,h2,h3⟩:=zWW hb.1 8 8;refine zF.succ ?_;simp only[Y9];refine zF.pure (wX hi) (zF.ifT (zX hd) (zF.pure (zV hd) (h1.bind ?_)));refine zBX t.vars_ hcl v o (λz hz=>hb.2 z ((h3 z).1 hz)) h2 ?_ o 0 rfl;rw[zU v (by omega)];exact zDW hcl hl ha K r (v+1) (zR hd)
theorem zPg{N:ByteArray->Bool}(hE:vA N l){n:Nat}(hn:n<=1048576){rows:List (List zB)}(hR:R.1=rows.map nK)(hro:dQ l n rows)(hL:zWN l n rows t)(K:zF (λq=>Y9 q l x R a (i:Int) (ofV t.vars_) 0) true):∀(m v:Nat),(v:Int)+m=t.row_+1->zF (λq=>dV q l x R a (i:Int) (ofV t.vars_) (v:Int)) true:=by obtain⟨rw0,e,⟨x1,hx1,he1,hb1⟩,hout⟩:=hL.row;have hc256:=hL.ctx.len;have hrl:rw0<rows.length:=(List.getElem?_eq_some_iff.1 hx1).1;have hr16:=hro.1;intro m;induction m with|zero=>intro v hv;refine zF.succ ?_;simp only[dV];exact zF.pure (wX hi) (zF.ifF (decide_eq_false (by omega)) K)|succ m ih=>
 intro v hv;have hvl:v<rows.length:=by omega
 obtain⟨x2,hx2⟩:∃x2,rows[v]?=some x2:=⟨_,List.getElem?_eq_getElem hvl⟩;have hg:=hro.2 x2 (List.mem_of_getElem? hx2);obtain⟨h,hh,hw⟩:=zWU hE t.vars_ (by omega) x2 t.args_ (by rw[hg.1,hL.len]) hg.2.2 hg.2.1 λb hb=>(hL.args b hb).1;have next:zF (λq=>dV q l x R a (i:Int) (ofV t.vars_) (xC ((v:Int)+1))) true:=by rw[zU v (by omega)];exact ih (v+1) (by omega)
 refine zF.succ ?_;simp only[dV];refine zF.pure (wX hi) (zF.ifT (decide_eq_true (by omega)) (zF.pure (wX (x:=nK x2) (by rw[hR,List.getElem?_map,hx2];rfl)) (zF.bind hh ?_)));by_cases hlt:v<rw0
 ·have ho:=hout v hlt x2 hx2;have h1:h.how_=1:=by
   rcases hw with⟨-,b,-,-,d⟩|⟨d,-⟩|⟨-,-,-,d⟩;·rw[d]at ho;cases ho
   ·exact d
   ·rw[ho]at d;cases d
  exact zF.ifT (decide_eq_true (by omega)) (zF.ifF (by simp[h1]) (zF.ifF (by simp;omega) next))
 ·have ev:v=rw0:=by omega
  subst ev;rw[hx1]at hx2;cases hx2;have h0:h.how_=0/\h.binds_=t.binds_:=by
   rcases hw with⟨d0,b,b1,-,d⟩|⟨-,d⟩|⟨-,-,d,-⟩
   ·refine⟨d0,?_⟩;rw[b1,<-hb1,d];rfl
   ·unfold PS.ended at he1;rw[d]at he1;cases he1
   ·rw[he1]at d;cases d
  refine zF.ifF (decide_eq_false (by omega)) (zF.ifT (by simp;omega) (zF.ifF (by simp[h0.1]) (zF.bind (a:=true) ?_ (zF.ifT rfl next))));rw[h0.2];exact zIK t.binds_ (by have:=hL.bs.1;omega) hL.bs.2
theorem zDX{n:Nat}{rows:List (List zB)}(hR:R.1=rows.map nK)(hn:n=x.types_.length)(hL:zWN l n rows t)(K:zF (λq=>dV q l x R a (i:Int) (ofV t.vars_) 0) true):∀(r:List zJ)(v:Nat)(acc:List uX),t.vars_.drop v=r->acc=ofV (t.vars_.take v)->zF (λq=>zDU q l x R a (i:Int) acc (v:Int)) true
 |[],v,acc,hd,hacc=>by
  have hc:=hL.ctx;obtain⟨rw0,e,⟨x1,hx1,-,-⟩,-⟩:=hL.row;have hrl:rw0<rows.length:=(List.getElem?_eq_some_iff.1 hx1).1;have hv:ofV t.vars_=acc:=by rw[hacc,List.take_of_length_le (List.drop_eq_nil_iff.1 hd)]
  rw[hv]at K;refine zF.succ ?_;simp only[zDU];refine zF.pure (wX hi) (zF.ifF (zY hd) (zF.bind (a:=true) ?_ (zF.ifT rfl (zF.ifF (decide_eq_false (by omega)) (zF.ifF (decide_eq_false (by rw[hR,List.length_map];omega)) (zF.ifF (by rw[hL.len,hn];simp) K))))));rw[<-hv];exact zIn hc λw hw=>(L4 (hc.each w hw).2.2.1).2 (hc.each w hw).2.2.2|w::r,v,acc,hd,hacc=>by have hlt:=yC hd;have hcl:=hL.ctx.len;refine zF.succ ?_;simp only[zDU];refine zF.pure (wX hi) (zF.ifT (zX hd) (zF.pure (zV hd) (zF.pure (yF (by rw[hacc];unfold ofV;simp;omega)) ?_)));rw[zU v (by omega)];exact zDX hR hn hL K r (v+1) _ (zR hd) (by rw[hacc,tE hd];unfold ofV;simp)
end
theorem Z1{N:ByteArray->Bool}{l:List yI}(hE:vA N l){x:uG}(hx:x.types_.length<=30){R:List (List yP)×Bool}{rows:List (List zB)}(hR:R.1=rows.map nK)(hro:dQ l x.types_.length rows){a:List zP}(hal:a.length<=1000000)(ha:∀t∈a,zWN l x.types_.length rows t):∀(r:List zP)(i:Nat),a.drop i=r->zF (λq=>zBW q l x R a (i:Int)) true
 |[],i,hd=>by refine zF.succ ?_;simp only[zBW];exact zF.ifF (zY hd) zPi|t::r,i,hd=>by
  have hlt:=yC hd;have hL:=ha t (List.mem_of_mem_drop (by rw[hd];simp));have hi:a[i]?=some t:=by rw[<-List.head?_drop,hd];rfl
  have hc:=hL.ctx.len;obtain⟨rw0,e,-,-⟩:=hL.row;refine zF.succ ?_;simp only[zBW];refine zF.ifT (zX hd) (zDX hi hR rfl hL ?_ t.vars_ 0 [] rfl rfl);refine zPg hi hE (n:=x.types_.length) (by omega) hR hro hL ?_ (rw0+1) 0 (by omega);refine zDW hi (by omega) (by rw[hL.len];omega) hL.args ?_ t.args_ 0 rfl;rw[zU i (by omega)];exact Z1 hE hx hR hro hal ha r (i+1) (zR hd)
theorem zBY(l:List yI)(x:uG)(he:∀e∈l,jM e)(hcl:∀e∈l,ECl e)(hx:okX x):zF (λq=>e4 q l x) true:=by
 simp only[e4];obtain⟨w,hw,hw2⟩:=zKT x.rows_ hx.2;refine hw.bind (zF.iff (λhwt=>?_) λ_=>?_)
 ·obtain⟨b,hb,hb2⟩:=Z0 l x;refine hb.bind (zF.iff (λhbt=>?_) λ_=>zPi);obtain⟨q0,q1,q2,q3,q4⟩:=hb2 hbt;obtain⟨hn,hR⟩:=hw2 hwt;have hm:zF (λq=>e30 q x.fuel_) (.inr (0,x.fuel_,0)):=zVK x.fuel_ q3 (by omega);simp only[e9];rcases zIl l q0 he hcl with hN|⟨N,hE,hN,hfm⟩;·refine zF.bind (a:=(tr0,yQ.mk 5 0 0)) ((hN.eq (show zOo l false=.inl 5 from rfl)).bind (hm.bind ?_)) (zF.ifT rfl zPi);have hz:zF (λq=>o6 q x.types_ x.rows_ x.fuel_ 0) (tr0,yQ.mk 5 0 0,x.fuel_,0):=zF.mk λq=>rfl;exact hz.bind zF.ret
  ·obtain⟨r,b1,b2,b3⟩:=zPm hE he (by omega) hcl hfm x.types_ hx.1 (by omega) x.rows_ hx.2 hn (L:=x.fuel_) (d:=0) q3 (by omega) (by omega) (by omega);refine zF.bind (a:=(r.1,r.2.1)) (hN.bind ?_) (zF.iff (λ_=>zPi) λh0=>?_);·simp only[zOo,if_true];exact hm.bind (b1.bind zF.ret)
   ·have e0:r.2.1.e_=0:=by simpa using h0
    obtain⟨hro,hLv⟩:=b3 e0;refine(zPh b2).bind (Z1 hE q1 hR hro ?_ (λt ht=>?_) _ 0 rfl);·exact Nat.le_trans (List.length_filter_le ..) b2.2
    ·have:=List.mem_filter.1 ht;exact hLv t this.1 (of_decide_eq_true this.2)
 ·obtain⟨b,hb,-⟩:=Z0 l x;exact hb.bind (zF.iff (λ_=>zPi) λ_=>zPi)
theorem yAf{l:List yI}(h:∀e∈l,RdE e):∀e∈l,jM e:=λe he=>⟨(h e he).1,(h e he).2.1,Nat.le_trans (h e he).2.2.1 (by decide),Nat.le_trans (h e he).2.2.2 (by decide)⟩
theorem yAe{l:List yI}(h:∀e∈l,RdE e):∀e∈l,ECl e:=λe he=>⟨(h e he).2.2.1,(h e he).2.2.2⟩
theorem zBZ(l:List yI)(x:uG)(w0:∀e∈l,RdE e)(w1:okX x):CT prog 4 [] [.sl (zC xA l) l.length .no,J3 x] (ab true) [] 0:=by obtain⟨q,hq⟩:=(zBY l x (yAf w0) (yAe w0) w1).at;exact c4 _ hq
end Go.Proofs.YtohkcbcddindpaaGreat
namespace Go.Proofs.YtohkcbcddindpaaGreat
open Go Go.Ab Go.RowKit Go.Proofs Go.Proofs.Tryz
theorem zTA:∀{l:List Tm},(∀t∈l,t.Ok)->mW l|[],_=>trivial|t::l,h=>⟨h t (by simp),zTA λu hu=>h u (by simp[hu])⟩
theorem zMR:∀{l:List Tm},mW l->∀x∈l,x.Ok
 |[],_,_,h=>nomatch h|a::l,⟨h1,h2⟩,x,hx=>by
  rcases List.mem_cons.1 hx with rfl|hx;·exact h1
  ·exact zMR h2 x hx
theorem zPf{H:Type}{enc:TypeId×Value->H}{W:World}{n:Nat}{c2:Value}{x:DataW H×List MemPlace}(f2:DataW.trod enc prog W 0 (λ_=>true) true n 22 [c2]=some x)(hw:Wt prog 22 x.1):∃l:List Tm,V (X0 W) W (.sl (zC zA l) l.length .no) c2/\mW l/\l.length<=17592186044416:=by
 obtain⟨l,h1,h3,h2⟩:=lL zA 3 uW.len (by omega) (Q:=Tm.Ok) Tryz.underlying22 (by kernel_rfl) (λm _ cs x h _=>by obtain⟨t,a,b⟩:=u4 m cs x h;exact⟨t,by rw[xY];exact a,b⟩) f2 hw;refine⟨l,h1,zTA h3,?_⟩;have:prog.bytesOf 48=40:=by kernel_rfl
 rw[this]at h2;have:reachBytes=140737488351232:=rfl;omega
theorem yCY{α:Type}(l:List α)(h:l.length=7):∃c0 c1 c2 c3 c4 c5 c6,l=[c0,c1,c2,c3,c4,c5,c6]:=by rcases l with _|⟨c0,_|⟨c1,_|⟨c2,_|⟨c3,_|⟨c4,_|⟨c5,_|⟨c6,_|⟨zz,zs⟩⟩⟩⟩⟩⟩⟩⟩<;>simp only[List.length_nil,List.length_cons]at h<;>first|exact⟨c0,c1,c2,c3,c4,c5,c6,rfl⟩|omega
theorem yCZ{α:Type}(l:List α)(h:l.length=5):∃c0 c1 c2 c3 c4,l=[c0,c1,c2,c3,c4]:=by rcases l with _|⟨c0,_|⟨c1,_|⟨c2,_|⟨c3,_|⟨c4,_|⟨zz,zs⟩⟩⟩⟩⟩⟩<;>simp only[List.length_nil,List.length_cons]at h<;>first|exact⟨c0,c1,c2,c3,c4,rfl⟩|omega
theorem zCz{H:Type}{enc:TypeId×Value->H}{W:World}:∀fuel:Nat,∀(cs:List Value)(x:DataW H×List MemPlace),DataW.trod enc prog W 0 (λ_=>true) true fuel 76 cs=some x->Wt prog 76 x.1->∃e:zB,VL (X0 W) W (zK e) cs/\oJ e:=by intro fuel;induction fuel using Nat.strongRecOn with|ind fuel ih=>
 intro cs x h hw;obtain⟨xs,n,hn,hx,hlen,hxs,hf⟩:=DataW.trod_struct Tryz.underlying76 h;rw[hx]at hw;have cc:prog.cellsOf 76=7:=by kernel_rfl
 obtain⟨c0,c1,c2,c3,c4,c5,c6,rfl⟩:=yCY cs (hlen.trans cc);obtain⟨y0,y1,y2,y3,y4,rfl⟩:=yCZ xs hxs;have k3:prog.cellsOf 3=1:=by kernel_rfl
 have k48:prog.cellsOf 48=3:=by kernel_rfl
 have k70:prog.cellsOf 70=1:=by kernel_rfl
 have f0:DataW.trod enc prog W 0 (λ_=>true) true n 3 ((List.drop 0 [c0,c1,c2,c3,c4,c5,c6]).take (prog.cellsOf 3))=some y0:=hf 0 _ rfl;rw[k3]at f0;replace f0:DataW.trod enc prog W 0 (λ_=>true) true n 3 [c0]=some y0:=f0;have w0:Wt prog 3 y0.1:=qW Tryz.underlying76 hw (i:=0) rfl rfl;have f1:DataW.trod enc prog W 0 (λ_=>true) true n 3 ((List.drop 1 [c0,c1,c2,c3,c4,c5,c6]).take (prog.cellsOf 3))=some y1:=hf 1 _ rfl;rw[k3]at f1;replace f1:DataW.trod enc prog W 0 (λ_=>true) true n 3 [c1]=some y1:=f1;have w1:Wt prog 3 y1.1:=qW Tryz.underlying76 hw (i:=1) rfl rfl;have f2:DataW.trod enc prog W 0 (λ_=>true) true n 3 ((List.drop 2 [c0,c1,c2,c3,c4,c5,c6]).take (prog.cellsOf 3))=some y2:=hf 2 _ rfl;rw[k3]at f2;replace f2:DataW.trod enc prog W 0 (λ_=>true) true n 3 [c2]=some y2:=f2;have w2:Wt prog 3 y2.1:=qW Tryz.underlying76 hw (i:=2) rfl rfl;have f3:DataW.trod enc prog W 0 (λ_=>true) true n 70 ((List.drop 3 [c0,c1,c2,c3,c4,c5,c6]).take (prog.cellsOf 70))=some y3:=hf 3 _ rfl;rw[k70]at f3;replace f3:DataW.trod enc prog W 0 (λ_=>true) true n 70 [c3]=some y3:=f3;have w3:Wt prog 70 y3.1:=qW Tryz.underlying76 hw (i:=3) rfl rfl;have f4:DataW.trod enc prog W 0 (λ_=>true) true n 48 ((List.drop 4 [c0,c1,c2,c3,c4,c5,c6]).take (prog.cellsOf 48))=some y4:=hf 4 _ rfl;rw[k48]at f4;replace f4:DataW.trod enc prog W 0 (λ_=>true) true n 48 [c4,c5,c6]=some y4:=f4;have w4:Wt prog 48 y4.1:=qW Tryz.underlying76 hw (i:=4) rfl rfl;obtain⟨n0,e0,-,-⟩:=DataW.trod_int Tryz.underlying3 f0;cases e0;obtain⟨n1,e1,-,-⟩:=DataW.trod_int Tryz.underlying3 f1;cases e1;obtain⟨n2,e2,-,-⟩:=DataW.trod_int Tryz.underlying3 f2;cases e2;obtain⟨l3,v3,o3,b3⟩:=lL zK 7 tQ.len (by omega) (Q:=oJ) Tryz.underlying70 (by kernel_rfl) (λm hm cs x h hw=>(ih m (by omega)) cs x h hw) (n:=n) f3 w3;have b3:l3.length<=17592186044416:=by
  have hb:prog.bytesOf 76=88:=by kernel_rfl
  rw[hb]at b3;have:reachBytes=140737488351232:=rfl;omega
 rw[<-nD]at v3;obtain⟨l4,v4,o4⟩:=u4 n _ _ f4;simp only[P5,VL]at v4;refine⟨zB.mk n0 n1 n2 l3 l4,?_,by rw[oJ];exact⟨b3,zFk o3,o4⟩⟩;rw[zK];simp only[VL];exact⟨by simp only[V],by simp only[V],by simp only[V],v3,v4.1,v4.2.1,v4.2.2.1,trivial⟩
theorem zWX{H:Type}{enc:TypeId×Value->H}{W:World}(fuel:Nat):∀(cs:List Value)(x:DataW H×List MemPlace),DataW.trod enc prog W 0 (λ_=>true) true fuel 70 cs=some x->Wt prog 70 x.1->∃e:List zB,VL (X0 W) W (rD zK e) cs/\(e.length<=17592186044416/\jJ e):=by
 intro cs x h hw;obtain⟨c,rfl⟩:∃c,cs=[c]:=by
  rcases DataW.trod_slice Tryz.underlying70 h with⟨e,-⟩|⟨a,len,cap,el,rs,m,-,e,-⟩;·exact⟨_,e⟩
  ·exact⟨_,e⟩
 obtain⟨l,v,o,b⟩:=lL zK 7 tQ.len (by omega) (Q:=oJ) Tryz.underlying70 (by kernel_rfl) (λm _ cs x h hw=>zCz m cs x h hw) (n:=fuel) h hw;have b:l.length<=17592186044416:=by
  have hb:prog.bytesOf 76=88:=by kernel_rfl
  rw[hb]at b;have:reachBytes=140737488351232:=rfl;omega
 exact⟨l,⟨v,trivial⟩,b,zFk o⟩
theorem zXa{α:Type}(l:List α)(h:l.length=3):∃c0 c1 c2,l=[c0,c1,c2]:=by rcases l with _|⟨c0,_|⟨c1,_|⟨c2,_|⟨zz,zs⟩⟩⟩⟩<;>simp only[List.length_nil,List.length_cons]at h<;>first|exact⟨c0,c1,c2,rfl⟩|omega
theorem zIL{H:Type}{enc:TypeId×Value->H}{W:World}(fuel:Nat):∀(cs:List Value)(x:DataW H×List MemPlace),DataW.trod enc prog W 0 (λ_=>true) true fuel 25 cs=some x->Wt prog 25 x.1->∃e:uG,VL (X0 W) W (eG e) cs/\okX e:=by
 intro cs x h hw;obtain⟨xs,n,hn,hx,hlen,hxs,hf⟩:=DataW.trod_struct Tryz.underlying25 h;rw[hx]at hw;have cc:prog.cellsOf 25=3:=by kernel_rfl
 obtain⟨c0,c1,c2,rfl⟩:=zXa cs (hlen.trans cc);obtain⟨y0,y1,y2,rfl⟩:=zXa xs hxs;have k3:prog.cellsOf 3=1:=by kernel_rfl
 have k22:prog.cellsOf 22=1:=by kernel_rfl
 have k23:prog.cellsOf 23=1:=by kernel_rfl
 have f0:DataW.trod enc prog W 0 (λ_=>true) true n 22 ((List.drop 0 [c0,c1,c2]).take (prog.cellsOf 22))=some y0:=hf 0 _ rfl;rw[k22]at f0;replace f0:DataW.trod enc prog W 0 (λ_=>true) true n 22 [c0]=some y0:=f0;have w0:Wt prog 22 y0.1:=qW Tryz.underlying25 hw (i:=0) rfl rfl;have f1:DataW.trod enc prog W 0 (λ_=>true) true n 23 ((List.drop 1 [c0,c1,c2]).take (prog.cellsOf 23))=some y1:=hf 1 _ rfl;rw[k23]at f1;replace f1:DataW.trod enc prog W 0 (λ_=>true) true n 23 [c1]=some y1:=f1;have w1:Wt prog 23 y1.1:=qW Tryz.underlying25 hw (i:=1) rfl rfl;have f2:DataW.trod enc prog W 0 (λ_=>true) true n 3 ((List.drop 2 [c0,c1,c2]).take (prog.cellsOf 3))=some y2:=hf 2 _ rfl;rw[k3]at f2;replace f2:DataW.trod enc prog W 0 (λ_=>true) true n 3 [c2]=some y2:=f2;have w2:Wt prog 3 y2.1:=qW Tryz.underlying25 hw (i:=2) rfl rfl;obtain⟨l0,v0,o0,b0⟩:=zPf f0 w0;obtain⟨l1,v1,o1,b1⟩:=lL (rD zK) 1 (λ_=>rfl) (by omega) (Q:=λr=>r.length<=17592186044416/\jJ r) Tryz.underlying23 (by kernel_rfl) (λm _ cs x h hw=>zWX m cs x h hw) (n:=n) f1 w1;have b1:l1.length<=17592186044416:=by
  have hb:prog.bytesOf 70=24:=by kernel_rfl
  rw[hb]at b1;have:reachBytes=140737488351232:=rfl;omega
 obtain⟨n2,e2,-,-⟩:=DataW.trod_int Tryz.underlying3 f2;cases e2;refine⟨uG.mk l0 l1 n2,?_,⟨zMR o0,b1,o1⟩⟩;simp only[eG];simp only[VL];exact⟨v0,v1,by simp only[V],trivial⟩
theorem zIM{H:Type}{enc:TypeId×Value->H}{W:World}{v:Value}{d:DataW H}{p:List MemPlace}(h:DataW.Trod enc prog W 0 (λ_=>true) true 25 v d p)(hw:Wt prog 25 d):∃e:uG,V (X0 W) W (.agg (eG e)) v/\okX e:=by
 obtain⟨fuel,hf⟩:=h;have hlen:v.cells.toList.length=3:=by obtain⟨xs,n,hn,hx,hlen,hxs,-⟩:=DataW.trod_struct Tryz.underlying25 hf;exact hlen.trans (by kernel_rfl)
 obtain⟨e,he,hr⟩:=zIL fuel _ _ hf hw;refine⟨e,?_,hr⟩;cases v with|agg cs=>simp only[V];exact⟨_,rfl,by simpa[Value.cells]using he⟩|_=>simp[Value.cells]at hlen
end Go.Proofs.YtohkcbcddindpaaGreat
