/- Parts of the proof that the law returns true: walks of the functions, plain laws. -/
import Derived.Test.YthncchbcdpbgaaaGreatAbB4
set_option linter.unusedVariables false
set_option linter.unusedSimpArgs false
set_option linter.unusedSectionVars false
namespace Go.Proofs.YthncchbcdpbgaaaGreat
open Go Go.Ab Go.Proofs.Tryz
abbrev er4(r:Tm×Int×Int×Int):Int:=r.2.1
abbrev er5(r:Tm×Bool×Int×Int×Int):Int:=r.2.2.1
theorem T4(l:List zX):(wF l).l=l:=rfl
theorem o8(l:List zX):(wF l).rl=l:=rfl
theorem gX(l:List zX):(wF l).parts=mJ l l.length 0:=rfl
noncomputable def nD(l:List zX)(i:Int)(a:List Tm):Tm×Int:=open Classical in if h:∃r,zB (λq=>zHd q l (mJ l l.length 0) i a) r then h.choose else(zT,5)
theorem lK{N:ByteArray->Bool}(l:List zX)(i:Int)(a:List Tm)(hE:wP N l)(ho:xW a)(hl:a.length<=1073741824):zB (λq=>zHd q l (mJ l l.length 0) i a) (nD l i a)/\zCK l i a (nD l i a):=by
 obtain⟨r,hr,hk⟩:=zLj l (mJ l l.length 0) i a hE ho hl;have hx:∃r,zB (λq=>zHd q l (mJ l l.length 0) i a) r:=⟨r,hr⟩;have e:nD l i a=r:=by unfold nD;rw[dif_pos hx];exact hx.choose_spec.det hr
 rw[e];exact⟨hr,hk⟩
noncomputable def P5(l:List zX)(d lev c:Int)(args own:List Tm):Tm×Int:=open Classical in if h:∃r,zB (λq=>zHc q l (mJ l l.length 0) d lev c args own) r then h.choose else(zT,5)
theorem aV{N:ByteArray->Bool}(l:List zX)(d lev c:Int)(args own:List Tm)(hE:wP N l)(ho4:xW args)(ho5:xW own)(hl4:args.length<=65535)(hl5:own.length<=65535):zB (λq=>zHc q l (mJ l l.length 0) d lev c args own) (P5 l d lev c args own)/\zHb l d lev c args own (P5 l d lev c args own):=by
 obtain⟨r,hr,hk⟩:=zOV l d lev c args own hE ho4 ho5 hl4 hl5;have hx:∃r,zB (λq=>zHc q l (mJ l l.length 0) d lev c args own) r:=⟨r,hr⟩;have e:P5 l d lev c args own=r:=by unfold P5;rw[dif_pos hx];exact hx.choose_spec.det hr
 rw[e];exact⟨hr,hk⟩
inductive Act where|none|red(Y:Tm)(e:Int)|tgt(a:Tm)
noncomputable def vA(l:List zX)(x:Tm):Act:=if(zZ x).k=4/\0<(yW x).length then .red (tJ (gR (vO (zZ x).sub 1) [vO (yW x) 0]).1 ((yW x).drop 1)) (gR (vO (zZ x).sub 1) [vO (yW x) 0]).2 else if uN l (zZ x)=3 then .red (tJ (zN l (zZ x).n).body (yW x)) 0 else if uN l (zZ x)=4 then(if((yW x).length:Int)<=(zN l (zZ x).n).pars then .none else .tgt (vO (yW x) (zN l (zZ x).n).pars))else if(zZ x).k=7 then(if kY l (zZ x).n 1=true/\xZ (zN l (zZ x).n)<=(yW x).length then .tgt (vO (yW x) (xZ (zN l (zZ x).n)-1))else .none)else .none
noncomputable def vQ(l:List zX)(x y:Tm):Option (Tm×Int):=if uN l (zZ x)=4 then(if tM l y/\(zN l (zZ y).n).fam=(zN l (zZ x).n).fam then some (tJ (nD l (zZ x).n ((yW y).drop (zN l (zZ y).n).pars.toNat)).1 ((yW x).drop ((zN l (zZ x).n).pars+1).toNat),(nD l (zZ x).n ((yW y).drop (zN l (zZ y).n).pars.toNat)).2)else none)else(if tM l y/\(zN l (zZ y).n).fam=(zZ x).n then some (tJ (P5 l (zZ x).n (vO (zZ x).sub 0).n (zZ y).n ((yW x).take ((zN l (zZ x).n).pars+1+(zN l (zZ x).n).cons.length).toNat) ((yW y).drop (zN l (zZ x).n).pars.toNat)).1 ((yW x).drop (xZ (zN l (zZ x).n)).toNat),(P5 l (zZ x).n (vO (zZ x).sub 0).n (zZ y).n ((yW x).take ((zN l (zZ x).n).pars+1+(zN l (zZ x).n).cons.length).toNat) ((yW y).drop (zN l (zZ x).n).pars.toNat)).2)else none)
inductive Br(l:List zX):Tm->Tm->Int->Int->Prop|stop{x:Tm}:vA l x=.none->Br l x x 0 0|redE{x Y:Tm}{e:Int}:vA l x=.red Y e->e≠0->Br l x zT e 0|redL{x Y:Tm}:vA l x=.red Y 0->zJ Y=false->Br l x zT 2 1|red{x Y y:Tm}{e k:Int}:vA l x=.red Y 0->zJ Y=true->Br l Y y e k->Br l x y e (1+k)|tgtE{x a z:Tm}{e k:Int}:vA l x=.tgt a->Br l a z e k->e≠0->Br l x zT e k|tgtN{x a z:Tm}{k:Int}:vA l x=.tgt a->Br l a z 0 k->vQ l x z=none->Br l x x 0 k|tgtRE{x a z Y:Tm}{e k:Int}:vA l x=.tgt a->Br l a z 0 k->vQ l x z=some (Y,e)->e≠0->Br l x zT e k|tgtRL{x a z Y:Tm}{k:Int}:vA l x=.tgt a->Br l a z 0 k->vQ l x z=some (Y,0)->zJ Y=false->Br l x zT 2 (k+1)|tgtR{x a z Y y:Tm}{e k k':Int}:vA l x=.tgt a->Br l a z 0 k->vQ l x z=some (Y,0)->zJ Y=true->Br l Y y e k'->Br l x y e (k+1+k')
inductive On(l:List zX)(x:Tm):Tm->Bool->Int->Int->Prop|stop:vA l x=.none->On l x x false 0 0|redE{Y:Tm}{e:Int}:vA l x=.red Y e->e≠0->On l x x false e 0|redL{Y:Tm}:vA l x=.red Y 0->zJ Y=false->On l x zT true 2 1|red{Y:Tm}:vA l x=.red Y 0->zJ Y=true->On l x Y true 0 1|tgtE{a z:Tm}{e k:Int}:vA l x=.tgt a->Br l a z e k->e≠0->On l x x false e k|tgtN{a z:Tm}{k:Int}:vA l x=.tgt a->Br l a z 0 k->vQ l x z=none->On l x x false 0 k|tgtRE{a z Y:Tm}{e k:Int}:vA l x=.tgt a->Br l a z 0 k->vQ l x z=some (Y,e)->e≠0->On l x x false e k|tgtRL{a z Y:Tm}{k:Int}:vA l x=.tgt a->Br l a z 0 k->vQ l x z=some (Y,0)->zJ Y=false->On l x zT true 2 (k+1)|tgtR{a z Y:Tm}{k:Int}:vA l x=.tgt a->Br l a z 0 k->vQ l x z=some (Y,0)->zJ Y=true->On l x Y true 0 (k+1)
theorem Br.nn{l:List zX}{x y:Tm}{e k:Int}(h:Br l x y e k):0<=k:=by induction h<;>omega
theorem On.still{l:List zX}{x y:Tm}{k:Int}(h:On l x y false 0 k):y=x/\Br l x x 0 k:=by cases h with|stop h=>exact⟨rfl,.stop h⟩|redE _ h=>exact absurd rfl h|tgtE _ _ h=>exact absurd rfl h|tgtN a b c=>exact⟨rfl,.tgtN a b c⟩|tgtRE _ _ _ h=>exact absurd rfl h
theorem On.err{l:List zX}{x y:Tm}{d:Bool}{e k:Int}(h:On l x y d e k)(he:e≠0):Br l x zT e k:=by cases h with|redE a b=>exact .redE a b|redL a b=>exact .redL a b|tgtE a b c=>exact .tgtE a b c|tgtRE a b c d=>exact .tgtRE a b c d|tgtRL a b c d=>exact .tgtRL a b c d|_=>exact absurd rfl he
theorem On.step{l:List zX}{x Y:Tm}{k:Int}(h:On l x Y true 0 k):zJ Y=true/\1<=k/\∀y e k',Br l Y y e k'->Br l x y e (k+k'):=by cases h with|red a b=>exact⟨b,by omega,λy e k' h=>.red a b h⟩|tgtR a b c d=>exact⟨d,by have:=b.nn;omega,λy e k' h=>.tgtR a b c d h⟩
def HB(l:List zX)(x:Tm)(f:Int):Prop:=Ou (λL U q=>zFB q (wF l) x L U) er4 (λR k=>∃y e,Br l x y e k/\R=λL U=>(y,e,L,U)) (∀y e k,Br l x y e k->f<k) f
def QO(l:List zX)(x:Tm)(R:Int->Int->Tm×Bool×Int×Int×Int)(k:Int):Prop:=∃Y d e,On l x Y d e k/\R=λL U=>(Y,d,e,L,U)
def QF(l:List zX)(x:Tm)(R:Int->Int->Tm×Bool×Int×Int×Int)(k:Int):Prop:=(vA l x=.none/\k=0/\∃Y,R=λL U=>(Y,false,0,L,U))\/∃a z e,vA l x=.tgt a/\Br l a z e k/\((e≠0/\∃Y,R=λL U=>(Y,false,e,L,U))\/(e=0/\((vQ l x z=none/\∃Y,R=λL U=>(Y,false,0,L,U))\/∃Y e',Y.Ok/\vQ l x z=some (Y,e')/\R=λL U=>(Y,true,e',L,U))))
theorem vM{t:Tm}(hg:xP t=true)(h:t.k=3\/t.k=4\/t.k=5):∃a b,t.sub=[a,b]/\xP a=true/\xP b=true:=by obtain⟨k,n,l⟩:=t;have hh:=wU hg;obtain⟨a,b,rfl⟩:=zQU ((tR hh.1).2.2.2.2.2.1 h).1;have hc:=wV hh.2;exact⟨a,b,rfl,hc.1,(wV hc.2).1⟩
theorem zLf{N:ByteArray->Bool}(l:List zX)(hE:wP N l)(x:Tm)(hs:zJ x=true)(f:Int)(hf:0<=f)(h3:(zZ x).k≠4)(hk:uN l (zZ x)=4)(hb:∀a∈yW x,HB l a f)(hB:∀a y k,zJ a=true->Br l a y 0 k->zJ y=true):Ou (λL U q=>zPx q (wF l) (zZ x) (yW x) L U) er5 (QF l x) (∃a,vA l x=.tgt a/\∀z e k,Br l a z e k->f<k) f:=by
 have hh:=uV hs;have h0:=jZ (zK hh).2.2;have hks:=vP hk (by decide);have h1:=hks.2.1;have ho:xW (yW x):=λy hy=>yQ (xS hs hy);have hl:(yW x).length<=8192:=by have h:=zK hs;have:=sT _ h.2.2;omega
 have hp:=(xB (hE.2 _ h0 h1)).2.2.2.1 hks.2.2;unfold bP at hp;simp only[Bool.and_eq_true]at hp;have hw:=vV hp.1;have hfam:=wB ((xB (hE.2 _ hw.1 (by omega))).2.1 hw.2.2.1);have hact:vA l x=if((yW x).length:Int)<=(zN l (zZ x).n).pars then .none else .tgt (vO (yW x) (zN l (zZ x).n).pars):=by unfold vA;rw[if_neg (λh=>h3 h.1),if_neg (by omega),if_pos hk]
 have hre:∀y,vQ l x y=if tM l y/\(zN l (zZ y).n).fam=(zN l (zZ x).n).fam then some (tJ (nD l (zZ x).n ((yW y).drop (zN l (zZ y).n).pars.toNat)).1 ((yW x).drop ((zN l (zZ x).n).pars+1).toNat),(nD l (zZ x).n ((yW y).drop (zN l (zZ y).n).pars.toNat)).2)else none:=λy=>by unfold vQ;rw[if_pos hk]
 refine Ou.succ ?_;simp only[zPx,T4,o8,gX];refine Ou.pure (yO h0 h1) (Ou.ite (λhn=>Ou.ret hf (.inl ⟨by rw[hact,if_pos (of_decide_eq_true hn)],rfl,_,rfl⟩)) λhn=>?_);have hn':=of_decide_eq_false hn;rw[if_neg hn']at hact;have hlt:(zN l (zZ x).n).pars<(yW x).length:=by omega
 have hp0:0<=(zN l (zZ x).n).pars:=by omega
 refine Ou.pure (uB hp0 hlt) (Ou.bind (hb _ (sK hp0 hlt)) (λh=>⟨_,hact,h⟩) (λr hr=>⟨_,zB.ifT (by show(r.2.1 !=0)=true;rw[show r.2.1=8 from hr];decide) zB.ret,hr⟩) ?_);rintro R k k0 k1⟨y,e,hbr,rfl⟩;dsimp only;refine Ou.ite (λh=>Ou.ret (by omega) (.inr ⟨_,y,e,hact,by rwa[Int.add_zero],.inl ⟨by simpa using h,_,rfl⟩⟩)) λh=>?_;have he:e=0:=by simpa using h
 subst he;have hy:=hB _ _ _ (xS hs (sK hp0 hlt)) hbr;refine Ou.evt (zCN l y hy) ?_;unfold zCM;by_cases hc:tM l y
 ·rw[if_pos hc];have hcs:=sD hy hc;obtain⟨A,z,a1,-,-,a4,a5,a6,a7,-⟩:=tT hE hcs.1 hcs.2.1 hcs.2.2.1;refine Ou.ifT rfl (Ou.pure (yO hcs.1 hcs.2.1) (Ou.ite (λhf'=>Ou.ret (by omega) (.inr ⟨_,y,0,hact,by rwa[Int.add_zero],.inr ⟨rfl,.inl ⟨?_,_,rfl⟩⟩⟩)) λhf'=>?_));·rw[hre,if_neg (λh=>by simp[h.2]at hf')]
  ·have hf2:(zN l (zZ y).n).fam=(zN l (zZ x).n).fam:=by simpa using hf'
   have hra:xW (yW y):=λx hx=>yQ (xS hy hx);have hrl:(yW y).length<=8192:=by have h:=zK hy;have:=sT _ h.2.2;omega
   have hlen:=hcs.2.2.2;have hX:=lK l (zZ x).n ((yW y).drop (zN l (zZ y).n).pars.toNat) hE (hra.drop _) (by rw[List.length_drop];omega);refine Ou.pure (sZ a6 (by show(zN l (zZ y).n).pars<=((yW y).length:Int);omega)) (Ou.evt hX.1 ?_);rw[zS (x:=(zN l (zZ x).n).pars+1) (by omega) (by omega)];refine Ou.pure (sZ (by omega) (by omega)) (Ou.evt (vD _ _ (by rw[List.length_drop];omega)) (Ou.ret (by omega) (.inr ⟨_,y,0,hact,by rwa[Int.add_zero],.inr ⟨rfl,.inr ⟨_,_,?_,?_,rfl⟩⟩⟩)));·exact uH _ _ hX.2.1 (ho.drop _)
   ·rw[hre,if_pos ⟨hc,hf2⟩]
 ·rw[if_neg hc];refine Ou.ifF rfl (Ou.ret (by omega) (.inr ⟨_,y,0,hact,by rwa[Int.add_zero],.inr ⟨rfl,.inl ⟨?_,_,rfl⟩⟩⟩));rw[hre,if_neg (λh=>hc h.1)]
theorem zPv{N:ByteArray->Bool}(l:List zX)(hE:wP N l)(x:Tm)(hs:zJ x=true)(f:Int)(hf:0<=f)(hk:(zZ x).k=7)(hb:∀a∈yW x,HB l a f)(hB:∀a y k,zJ a=true->Br l a y 0 k->zJ y=true):Ou (λL U q=>zPw q (wF l) (zZ x) (yW x) L U) er5 (QF l x) (∃a,vA l x=.tgt a/\∀z e k,Br l a z e k->f<k) f:=by
 have hh:=uV hs;have hg:=(zK hh).2.2;have h0:=jZ hg;have ho:xW (yW x):=λy hy=>yQ (xS hs hy);have hl:(yW x).length<=8192:=by have h:=zK hs;have:=sT _ h.2.2;omega
 have hkk:∀n:Int,n≠0->uN l (zZ x)≠n:=λn hn e=>by have:=(vP e hn).1;omega
 have hact:vA l x=if kY l (zZ x).n 1=true/\xZ (zN l (zZ x).n)<=(yW x).length then .tgt (vO (yW x) (xZ (zN l (zZ x).n)-1))else .none:=by unfold vA;rw[if_neg (λh=>by omega),if_neg (hkk 3 (by decide)),if_neg (hkk 4 (by decide)),if_pos hk]
 have hre:∀y,vQ l x y=if tM l y/\(zN l (zZ y).n).fam=(zZ x).n then some (tJ (P5 l (zZ x).n (vO (zZ x).sub 0).n (zZ y).n ((yW x).take ((zN l (zZ x).n).pars+1+(zN l (zZ x).n).cons.length).toNat) ((yW y).drop (zN l (zZ x).n).pars.toNat)).1 ((yW x).drop (xZ (zN l (zZ x).n)).toNat),(P5 l (zZ x).n (vO (zZ x).sub 0).n (zZ y).n ((yW x).take ((zN l (zZ x).n).pars+1+(zN l (zZ x).n).cons.length).toNat) ((yW y).drop (zN l (zZ x).n).pars.toNat)).2)else none:=λy=>by unfold vQ;rw[if_neg (hkk 4 (by decide))]
 refine Ou.succ ?_;simp only[zPw,T4,o8,gX];refine Ou.ite (λhn=>Ou.ret hf (.inl ⟨?_,rfl,_,rfl⟩)) λhn=>?_
 ·rw[hact,if_neg];intro h;have:=(wJ h.1).2.1;have:=of_decide_eq_true hn;omega
 have h1:(zZ x).n<l.length:=by have:=of_decide_eq_false hn;omega
 refine Ou.pure (yO h0 h1) (Ou.ite (λhk1=>Ou.ret hf (.inl ⟨?_,rfl,_,rfl⟩)) λhk1=>?_)
 ·rw[hact,if_neg];intro h;have h2:=(wJ h.1).2.2;rw[h2]at hk1;simp at hk1
 have hk1':(zN l (zZ x).n).kind=1:=by simpa using hk1
 have hfam:=wB ((xB (hE.2 _ h0 h1)).2.1 hk1');have hisT:kY l (zZ x).n 1=true:=by unfold kY;simp[h0,h1,hk1']
 have hargs:xZ (zN l (zZ x).n)=(zN l (zZ x).n).pars+2+(zN l (zZ x).n).cons.length+(zN l (zZ x).n).inds:=by unfold xZ;rw[if_pos hk1']
 refine Ou.pure (zPy h0 h1) (Ou.ite (λhn=>Ou.ret hf (.inl ⟨?_,rfl,_,rfl⟩)) λhn=>?_)
 ·rw[hact,if_neg];intro h;have:=of_decide_eq_true hn;omega
 have hn':=of_decide_eq_false hn;rw[if_pos ⟨hisT,by omega⟩]at hact;rw[zS (x:=xZ (zN l (zZ x).n)-1) (by omega) (by omega)];have hp0:0<=xZ (zN l (zZ x).n)-1:=by omega
 have hlt:xZ (zN l (zZ x).n)-1<(yW x).length:=by omega
 refine Ou.pure (uB hp0 hlt) (Ou.bind (hb _ (sK hp0 hlt)) (λh=>⟨_,hact,h⟩) (λr hr=>⟨_,zB.ifT (by show(r.2.1 !=0)=true;rw[show r.2.1=8 from hr];decide) zB.ret,hr⟩) ?_);rintro R k k0 k1⟨y,e,hbr,rfl⟩;dsimp only;refine Ou.ite (λh=>Ou.ret (by omega) (.inr ⟨_,y,e,hact,by rwa[Int.add_zero],.inl ⟨by simpa using h,_,rfl⟩⟩)) λh=>?_;have he:e=0:=by simpa using h
 subst he;have hy:=hB _ _ _ (xS hs (sK hp0 hlt)) hbr;refine Ou.evt (zCN l y hy) ?_;unfold zCM;by_cases hc:tM l y
 ·rw[if_pos hc];have hcs:=sD hy hc;obtain⟨A,z,a1,-,-,a4,a5,a6,a7,-,-,-,a8,-⟩:=tT hE hcs.1 hcs.2.1 hcs.2.2.1;refine Ou.ifT rfl (Ou.pure (yO hcs.1 hcs.2.1) (Ou.ite (λhf'=>Ou.ret (by omega) (.inr ⟨_,y,0,hact,by rwa[Int.add_zero],.inr ⟨rfl,.inl ⟨?_,_,rfl⟩⟩⟩)) λhf'=>?_));·rw[hre,if_neg (λh=>by simp[h.2]at hf')]
  ·have hf2:(zN l (zZ y).n).fam=(zZ x).n:=by simpa using hf'
   rw[hf2]at a8;have hra:xW (yW y):=λx hx=>yQ (xS hy hx);have hrl:(yW y).length<=8192:=by have h:=zK hy;have:=sT _ h.2.2;omega
   have hlen:=hcs.2.2.2;have hsub:∃s,(zZ x).sub=[s]:=by revert hg hk;generalize zZ x=y;intro hk hg;obtain⟨kk,nn,ss⟩:=y;obtain⟨s,hs,-⟩:=(tR (wU hg).1).2.2.2.2.2.2.1 hk;exact⟨s,hs⟩
   obtain⟨s,hsb⟩:=hsub;rw[zS (x:=(zN l (zZ x).n).pars+1) (by omega) (by omega),zS (x:=(zN l (zZ x).n).pars+1+(zN l (zZ x).n).cons.length) (by omega) (by omega)];have hX:=aV l (zZ x).n (vO (zZ x).sub 0).n (zZ y).n ((yW x).take ((zN l (zZ x).n).pars+1+(zN l (zZ x).n).cons.length).toNat) ((yW y).drop (zN l (zZ x).n).pars.toNat) hE (ho.take _) (hra.drop _) (by rw[List.length_take];omega) (by rw[List.length_drop];omega);refine Ou.pure (uB (by omega) (by rw[hsb];simp)) (Ou.pure (a:=(yW x).take ((zN l (zZ x).n).pars+1+(zN l (zZ x).n).cons.length).toNat) ?_ (Ou.pure (sZ (by omega) (by show _<=((yW y).length:Int);omega)) (Ou.evt hX.1 ?_)));·rw[dM (by omega) (by omega) (by omega)];simp
   refine Ou.pure (sZ (by omega) (by omega)) (Ou.evt (vD _ _ (by rw[List.length_drop];omega)) (Ou.ret (by omega) (.inr ⟨_,y,0,hact,by rwa[Int.add_zero],.inr ⟨rfl,.inr ⟨_,_,?_,?_,rfl⟩⟩⟩)));·exact uH _ _ hX.2.1 (ho.drop _)
   ·rw[hre,if_pos ⟨hc,hf2⟩]
 ·rw[if_neg hc];refine Ou.ifF rfl (Ou.ret (by omega) (.inr ⟨_,y,0,hact,by rwa[Int.add_zero],.inr ⟨rfl,.inl ⟨?_,_,rfl⟩⟩⟩));rw[hre,if_neg (λh=>hc h.1)]
def zYB(l:List zX)(Y:Tm)(e0 k0:Int)(y:Tm)(e k:Int):Prop:=(e0≠0/\y=zT/\e=e0/\k=k0)\/(e0=0/\zJ Y=false/\y=zT/\e=2/\k=k0+1)\/(e0=0/\zJ Y=true/\∃k',Br l Y y e k'/\k=k0+1+k')
section
variable{l:List zX}{x y:Tm}{e k:Int}
theorem Br.inv_none(h:Br l x y e k)(ha:vA l x=.none):y=x/\e=0/\k=0:=by cases h with|stop _=>exact⟨rfl,rfl,rfl⟩|redE a=>rw[ha]at a;cases a|redL a=>rw[ha]at a;cases a|red a=>rw[ha]at a;cases a|tgtE a=>rw[ha]at a;cases a|tgtN a=>rw[ha]at a;cases a|tgtRE a=>rw[ha]at a;cases a|tgtRL a=>rw[ha]at a;cases a|tgtR a=>rw[ha]at a;cases a
theorem Br.inv_red{Y:Tm}{e0:Int}(h:Br l x y e k)(ha:vA l x=.red Y e0):zYB l Y e0 0 y e k:=by cases h with|stop a=>rw[ha]at a;cases a|redE a b=>rw[ha]at a;cases a;exact .inl ⟨b,rfl,rfl,rfl⟩|redL a b=>rw[ha]at a;cases a;exact .inr (.inl ⟨rfl,b,rfl,rfl,rfl⟩)|red a b c=>rw[ha]at a;cases a;exact .inr (.inr ⟨rfl,b,_,c,by omega⟩)|tgtE a=>rw[ha]at a;cases a|tgtN a=>rw[ha]at a;cases a|tgtRE a=>rw[ha]at a;cases a|tgtRL a=>rw[ha]at a;cases a|tgtR a=>rw[ha]at a;cases a
theorem Br.inv_tgt{a:Tm}(h:Br l x y e k)(ha:vA l x=.tgt a):∃z ea ka,Br l a z ea ka/\((ea≠0/\y=zT/\e=ea/\k=ka)\/(ea=0/\((vQ l x z=none/\y=x/\e=0/\k=ka)\/∃Y e0,vQ l x z=some (Y,e0)/\zYB l Y e0 ka y e k))):=by cases h with|stop a=>rw[ha]at a;cases a|redE a b=>rw[ha]at a;cases a|redL a b=>rw[ha]at a;cases a|red a b c=>rw[ha]at a;cases a|tgtE a b c=>rw[ha]at a;cases a;exact⟨_,_,_,b,.inl ⟨c,rfl,rfl,rfl⟩⟩|tgtN a b c=>rw[ha]at a;cases a;exact⟨_,_,_,b,.inr ⟨rfl,.inl ⟨c,rfl,rfl,rfl⟩⟩⟩|tgtRE a b c d=>rw[ha]at a;cases a;exact⟨_,_,_,b,.inr ⟨rfl,.inr ⟨_,_,c,.inl ⟨d,rfl,rfl,rfl⟩⟩⟩⟩|tgtRL a b c d=>rw[ha]at a;cases a;exact⟨_,_,_,b,.inr ⟨rfl,.inr ⟨_,_,c,.inr (.inl ⟨rfl,d,rfl,rfl,rfl⟩)⟩⟩⟩|tgtR a b c d f=>rw[ha]at a;cases a;exact⟨_,_,_,b,.inr ⟨rfl,.inr ⟨_,_,c,.inr (.inr ⟨rfl,d,_,f,rfl⟩)⟩⟩⟩
theorem Br.det(h:Br l x y e k):∀{y':Tm}{e' k':Int},Br l x y' e' k'->y'=y/\e'=e/\k'=k:=by induction h with
 |stop a=>intro y' e' k' h2;exact h2.inv_none a|redE a b=>
  intro y' e' k' h2;rcases h2.inv_red a with⟨c,d⟩|⟨c,d⟩|⟨c,d⟩;·exact d
  ·exact absurd c b
  ·exact absurd c b|redL a b=>
  intro y' e' k' h2;rcases h2.inv_red a with⟨c,d⟩|⟨c,d,f⟩|⟨c,d,f⟩;·exact absurd rfl c
  ·exact f
  ·rw[b]at d;cases d|red a b c ih=>
  intro y' e' k' h2;rcases h2.inv_red a with⟨c,d⟩|⟨c,d,f⟩|⟨c,d,n,f,g⟩;·exact absurd rfl c
  ·rw[b]at d;cases d
  ·obtain⟨rfl,rfl,rfl⟩:=ih f;exact⟨rfl,rfl,by omega⟩|tgtE a b c ih=>
  intro y' e' k' h2;obtain⟨z',ea,ka,hb',h3⟩:=h2.inv_tgt a;obtain⟨rfl,rfl,rfl⟩:=ih hb';rcases h3 with⟨_,d⟩|⟨d,_⟩;·exact d
  ·exact absurd d c|tgtN a b c ih=>
  intro y' e' k' h2;obtain⟨z',ea,ka,hb',h3⟩:=h2.inv_tgt a;obtain⟨rfl,rfl,rfl⟩:=ih hb';rcases h3 with⟨d,_⟩|⟨_,⟨_,d⟩|⟨Y,e0,d,_⟩⟩;·exact absurd rfl d
  ·exact d
  ·rw[c]at d;cases d|tgtRE a b c d ih=>
  intro y' e' k' h2;obtain⟨z',ea,ka,hb',h3⟩:=h2.inv_tgt a;obtain⟨rfl,rfl,rfl⟩:=ih hb';rcases h3 with⟨f,_⟩|⟨_,⟨f,_⟩|⟨Y,e0,f,g⟩⟩;·exact absurd rfl f
  ·rw[c]at f;cases f
  ·rw[c]at f;cases f;rcases g with⟨_,g⟩|⟨g,_⟩|⟨g,_⟩;·exact g
   ·exact absurd g d
   ·exact absurd g d|tgtRL a b c d ih=>
  intro y' e' k' h2;obtain⟨z',ea,ka,hb',h3⟩:=h2.inv_tgt a;obtain⟨rfl,rfl,rfl⟩:=ih hb';rcases h3 with⟨f,_⟩|⟨_,⟨f,_⟩|⟨Y,e0,f,g⟩⟩;·exact absurd rfl f
  ·rw[c]at f;cases f
  ·rw[c]at f;cases f;rcases g with⟨g,_⟩|⟨_,_,g⟩|⟨_,g,_⟩;·exact absurd rfl g
   ·exact g
   ·rw[d]at g;cases g|tgtR a b c d f ih ih2=>
  intro y' e' k' h2;obtain⟨z',ea,ka,hb',h3⟩:=h2.inv_tgt a;obtain⟨rfl,rfl,rfl⟩:=ih hb';rcases h3 with⟨f,_⟩|⟨_,⟨f,_⟩|⟨Y,e0,f,g⟩⟩;·exact absurd rfl f
  ·rw[c]at f;cases f
  ·rw[c]at f;cases f;rcases g with⟨g,_⟩|⟨_,g,_⟩|⟨_,_,n,g,rfl⟩;·exact absurd rfl g
   ·rw[d]at g;cases g
   ·obtain⟨rfl,rfl,rfl⟩:=ih2 g;exact⟨rfl,rfl,rfl⟩
theorem Br.last(h:Br l x y e k):e=0->∃j,j<=k/\On l y y false 0 j:=by induction h with|stop a=>exactλ_=>⟨0,by omega,.stop a⟩|redE _ h=>exactλhe=>absurd he h|redL _ _=>exactλhe=>absurd he (by decide)|red _ _ _ ih=>exactλhe=>by obtain⟨j,a,b⟩:=ih he;exact⟨j,by omega,b⟩|tgtE _ _ h _=>exactλhe=>absurd he h|tgtN a b c _=>exactλ_=>⟨_,by omega,.tgtN a b c⟩|tgtRE _ _ _ h _=>exactλhe=>absurd he h|tgtRL _ _ _ _ _=>exactλhe=>absurd he (by decide)|tgtR _ b _ _ _ _ ih=>exactλhe=>by obtain⟨j,a,c⟩:=ih he;exact⟨j,by have:=b.nn;omega,c⟩
theorem On.det{Y Y':Tm}{d d':Bool}{e e' k k':Int}(h:On l x Y d e k)(h':On l x Y' d' e' k'):Y'=Y/\d'=d/\e'=e/\k'=k:=by cases h with
 |stop a=>cases h' with|stop _=>exact⟨rfl,rfl,rfl,rfl⟩|redE b=>rw[a]at b;cases b|redL b=>rw[a]at b;cases b|red b=>rw[a]at b;cases b|tgtE b=>rw[a]at b;cases b|tgtN b=>rw[a]at b;cases b|tgtRE b=>rw[a]at b;cases b|tgtRL b=>rw[a]at b;cases b|tgtR b=>rw[a]at b;cases b
 |redE a c=>cases h' with|redE b=>rw[a]at b;cases b;exact⟨rfl,rfl,rfl,rfl⟩|redL b=>rw[a]at b;cases b;exact absurd rfl c|red b=>rw[a]at b;cases b;exact absurd rfl c|stop b=>rw[a]at b;cases b|tgtE b=>rw[a]at b;cases b|tgtN b=>rw[a]at b;cases b|tgtRE b=>rw[a]at b;cases b|tgtRL b=>rw[a]at b;cases b|tgtR b=>rw[a]at b;cases b
 |redL a c=>cases h' with|redE b d=>rw[a]at b;cases b;exact absurd rfl d|redL b=>exact⟨rfl,rfl,rfl,rfl⟩|red b d=>rw[a]at b;cases b;rw[c]at d;cases d|stop b=>rw[a]at b;cases b|tgtE b=>rw[a]at b;cases b|tgtN b=>rw[a]at b;cases b|tgtRE b=>rw[a]at b;cases b|tgtRL b=>rw[a]at b;cases b|tgtR b=>rw[a]at b;cases b
 |red a c=>cases h' with|redE b d=>rw[a]at b;cases b;exact absurd rfl d|redL b d=>rw[a]at b;cases b;rw[c]at d;cases d|red b d=>rw[a]at b;cases b;exact⟨rfl,rfl,rfl,rfl⟩|stop b=>rw[a]at b;cases b|tgtE b=>rw[a]at b;cases b|tgtN b=>rw[a]at b;cases b|tgtRE b=>rw[a]at b;cases b|tgtRL b=>rw[a]at b;cases b|tgtR b=>rw[a]at b;cases b
 |tgtE a c f=>cases h' with|stop b=>rw[a]at b;cases b|redE b=>rw[a]at b;cases b|redL b=>rw[a]at b;cases b|red b=>rw[a]at b;cases b|tgtE b g=>rw[a]at b;cases b;obtain⟨-,rfl,rfl⟩:=c.det g;exact⟨rfl,rfl,rfl,rfl⟩|tgtN b g=>rw[a]at b;cases b;exact absurd (c.det g).2.1.symm f|tgtRE b g=>rw[a]at b;cases b;exact absurd (c.det g).2.1.symm f|tgtRL b g=>rw[a]at b;cases b;exact absurd (c.det g).2.1.symm f|tgtR b g=>rw[a]at b;cases b;exact absurd (c.det g).2.1.symm f
 |tgtN a c f=>cases h' with|stop b=>rw[a]at b;cases b|redE b=>rw[a]at b;cases b|redL b=>rw[a]at b;cases b|red b=>rw[a]at b;cases b|tgtE b g n=>rw[a]at b;cases b;exact absurd (c.det g).2.1 n|tgtN b g=>rw[a]at b;cases b;obtain⟨-,-,rfl⟩:=c.det g;exact⟨rfl,rfl,rfl,rfl⟩|tgtRE b g n=>rw[a]at b;cases b;obtain⟨rfl,-,-⟩:=c.det g;rw[f]at n;cases n|tgtRL b g n=>rw[a]at b;cases b;obtain⟨rfl,-,-⟩:=c.det g;rw[f]at n;cases n|tgtR b g n=>rw[a]at b;cases b;obtain⟨rfl,-,-⟩:=c.det g;rw[f]at n;cases n
 |tgtRE a c f n0=>cases h' with|stop b=>rw[a]at b;cases b|redE b=>rw[a]at b;cases b|redL b=>rw[a]at b;cases b|red b=>rw[a]at b;cases b|tgtE b g n=>rw[a]at b;cases b;exact absurd (c.det g).2.1 n|tgtN b g n=>rw[a]at b;cases b;obtain⟨rfl,-,-⟩:=c.det g;rw[f]at n;cases n|tgtRE b g n=>rw[a]at b;cases b;obtain⟨rfl,-,rfl⟩:=c.det g;rw[f]at n;cases n;exact⟨rfl,rfl,rfl,rfl⟩|tgtRL b g n=>rw[a]at b;cases b;obtain⟨rfl,-,-⟩:=c.det g;rw[f]at n;cases n;exact absurd rfl n0|tgtR b g n=>rw[a]at b;cases b;obtain⟨rfl,-,-⟩:=c.det g;rw[f]at n;cases n;exact absurd rfl n0
 |tgtRL a c f n0=>cases h' with|stop b=>rw[a]at b;cases b|redE b=>rw[a]at b;cases b|redL b=>rw[a]at b;cases b|red b=>rw[a]at b;cases b|tgtE b g n=>rw[a]at b;cases b;exact absurd (c.det g).2.1 n|tgtN b g n=>rw[a]at b;cases b;obtain⟨rfl,-,-⟩:=c.det g;rw[f]at n;cases n|tgtRE b g n m=>rw[a]at b;cases b;obtain⟨rfl,-,-⟩:=c.det g;rw[f]at n;cases n;exact absurd rfl m|tgtRL b g n=>rw[a]at b;cases b;obtain⟨rfl,-,rfl⟩:=c.det g;exact⟨rfl,rfl,rfl,rfl⟩|tgtR b g n m=>rw[a]at b;cases b;obtain⟨rfl,-,-⟩:=c.det g;rw[f]at n;cases n;rw[n0]at m;cases m
 |tgtR a c f n0=>cases h' with|stop b=>rw[a]at b;cases b|redE b=>rw[a]at b;cases b|redL b=>rw[a]at b;cases b|red b=>rw[a]at b;cases b|tgtE b g n=>rw[a]at b;cases b;exact absurd (c.det g).2.1 n|tgtN b g n=>rw[a]at b;cases b;obtain⟨rfl,-,-⟩:=c.det g;rw[f]at n;cases n|tgtRE b g n m=>rw[a]at b;cases b;obtain⟨rfl,-,-⟩:=c.det g;rw[f]at n;cases n;exact absurd rfl m|tgtRL b g n m=>rw[a]at b;cases b;obtain⟨rfl,-,-⟩:=c.det g;rw[f]at n;cases n;rw[n0]at m;cases m|tgtR b g n=>rw[a]at b;cases b;obtain⟨rfl,-,rfl⟩:=c.det g;rw[f]at n;cases n;exact⟨rfl,rfl,rfl,rfl⟩
end
section
variable{l:List zX}{x y:Tm}{e k:Int}
theorem On.tgt_lt{a Y:Tm}{d:Bool}{f:Int}(h:On l x Y d e k)(ha:vA l x=.tgt a)(hl:∀z e k,Br l a z e k->f<k):f<k:=by cases h with|stop b=>rw[ha]at b;cases b|redE b=>rw[ha]at b;cases b|redL b=>rw[ha]at b;cases b|red b=>rw[ha]at b;cases b|tgtE b g=>rw[ha]at b;cases b;exact hl _ _ _ g|tgtN b g=>rw[ha]at b;cases b;exact hl _ _ _ g|tgtRE b g=>rw[ha]at b;cases b;exact hl _ _ _ g|tgtRL b g=>rw[ha]at b;cases b;have:=hl _ _ _ g;omega|tgtR b g=>rw[ha]at b;cases b;have:=hl _ _ _ g;omega
theorem On.red_lt{Y Z:Tm}{d:Bool}{e0:Int}(h:On l x Y d e k)(ha:vA l x=.red Z e0)(h0:e0=0):k=1:=by subst h0;cases h with|stop b=>rw[ha]at b;cases b|redE b c=>rw[ha]at b;cases b;exact absurd rfl c|redL b=>rfl|red b=>rfl|tgtE b g=>rw[ha]at b;cases b|tgtN b g=>rw[ha]at b;cases b|tgtRE b g=>rw[ha]at b;cases b|tgtRL b g=>rw[ha]at b;cases b|tgtR b g=>rw[ha]at b;cases b
theorem Br.first(h:Br l x y e k):∃Y d e1 k1,On l x Y d e1 k1/\k1<=k:=by cases h with|stop a=>exact⟨_,_,_,_,.stop a,by omega⟩|redE a b=>exact⟨_,_,_,_,.redE a b,by omega⟩|redL a b=>exact⟨_,_,_,_,.redL a b,by omega⟩|red a b c=>exact⟨_,_,_,_,.red a b,by have:=c.nn;omega⟩|tgtE a b c=>exact⟨_,_,_,_,.tgtE a b c,by omega⟩|tgtN a b c=>exact⟨_,_,_,_,.tgtN a b c,by omega⟩|tgtRE a b c d=>exact⟨_,_,_,_,.tgtRE a b c d,by omega⟩|tgtRL a b c d=>exact⟨_,_,_,_,.tgtRL a b c d,by omega⟩|tgtR a b c d f=>exact⟨_,_,_,_,.tgtR a b c d,by have:=f.nn;omega⟩
theorem Br.after{Y:Tm}{k1:Int}(h:Br l x y e k)(hO:On l x Y true 0 k1):∃k2,Br l Y y e k2/\k=k1+k2:=by cases hO with
 |red a b=>
  rcases h.inv_red a with⟨c,-⟩|⟨-,c,-⟩|⟨-,-,n,f,g⟩;·exact absurd rfl c
  ·rw[b]at c;cases c
  ·exact⟨n,f,by omega⟩|tgtR a b c d=>
  obtain⟨z',ea,ka,hb',h3⟩:=h.inv_tgt a;obtain⟨rfl,rfl,rfl⟩:=b.det hb';rcases h3 with⟨f,_⟩|⟨_,⟨f,_⟩|⟨Y,e0,f,g⟩⟩;·exact absurd rfl f
  ·rw[c]at f;cases f
  ·rw[c]at f;cases f;rcases g with⟨g,_⟩|⟨_,g,_⟩|⟨_,_,n,g,rfl⟩;·exact absurd rfl g
   ·rw[d]at g;cases g
   ·exact⟨n,g,by omega⟩
end
def zVT(b:Nat)(M:wA)(a:Tm):Option (Bool):=Y4 b a 1048577 (M.l.length:Int)>>=λr1=>some r1
theorem yAX{b M a}:Cz (zVT b M a) 218 [mB M 1,mR M] [.mp 0 0,yL a] (λr=>ab r) (λ_=>[mB M 1,mR M]) 0:=fw func218<|rC 4 [] zGN λ_=>fE 0
def zFC(a:Nat)(M:wA)(b:Tm)(c d:Int):Option (Tm×Int×Int×Int):=zVT a M b>>=λr1=>if r1 then zFB a M b c d>>=λr4=>if r4.2.1 !=0 then some ((Tm.mk 0 0 []),r4.2.1,r4.2.2.1,r4.2.2.2)else e96 a r4.1>>=λr7=>some (r7,0,r4.2.2.1,r4.2.2.2)else some ((Tm.mk 0 0 []),5,c,d)
theorem zSH{a M b c d}:Cz (zFC a M b c d) 161 [mB M 1,mR M,.cells [ai c,ai d]] [.mp 0 0,yL b,.mp 2 0] (λr=>.tup [yL r.1,ai r.2.1]) (λr=>[mB M 1,mR M,.cells [ai r.2.2.1,ai r.2.2.2]]) 0:=fw func161<|rK 1 [0,1] yAX (λ_=>rC 2 [0,1,2] yAW λ_=>rB 3 (fE 1)<|rC 1 [] c96 λ_=>fE 1) λ_=>fE 2
theorem Br.shaped{l:List zX}{x y:Tm}{e k:Int}(h:Br l x y e k):zJ x=true->e=0->zJ y=true:=by induction h with|stop _=>exactλhs _=>hs|redE _ h=>exactλ_ he=>absurd he h|redL _ _=>exactλ_ he=>absurd he (by decide)|red _ hY _ ih=>exactλ_ he=>ih hY he|tgtE _ _ h _=>exactλ_ he=>absurd he h|tgtN _ _ _ _=>exactλhs _=>hs|tgtRE _ _ _ h _=>exactλ_ he=>absurd he h|tgtRL _ _ _ _ _=>exactλ_ he=>absurd he (by decide)|tgtR _ _ _ hY _ _ ih=>exactλ_ he=>ih hY he
theorem zCO{Q:(Int->Int->Tm×Bool×Int×Int×Int)->Int->Prop}(p Y:Tm)(f:Int)(hf:0<=f)(ho:Y.Ok)(hL:zJ Y=false->Q (λL U=>(zT,true,2,L,U)) 1)(hS:zJ Y=true->Q (λL U=>(Y,true,0,L,U)) 1){S:Prop}(hsh:f<1->S):Ou (λL U q=>(H2 q L U)>>=λr28=>if(r28.1 !=0)=true then some (p,false,r28.1,r28.2.1,r28.2.2)else(R4 q Y)>>=λr31=>some (r31.1,true,r31.2,r28.2.1,r28.2.2)) er5 Q S f:=by refine Ou.bind (zJq f hf) hsh (λr hr=>⟨_,zB.ifT (by show(r.1 !=0)=true;rw[show r.1=8 from hr];decide) zB.ret,hr⟩) ?_;rintro R k k0 k1⟨rfl,rfl⟩;dsimp only;refine Ou.ifF rfl (Ou.evt (zHC Y ho) ?_);unfold zHB;cases h:zJ Y with|true=>exact Ou.ret (by omega) (hS h)|false=>exact Ou.ret (by omega) (hL h)
theorem zFD(l:List zX)(p:Tm)(f:Int)(hf:0<=f){g:Int->Int->Nat->Option (Tm×Bool×Int×Int×Int)}(h:Ou g er5 (QF l p) (∃a,vA l p=.tgt a/\∀z e k,Br l a z e k->f<k) f):Ou (λL U q=>g L U q>>=λr36=>if r36.2.1=true then(if(r36.2.2.1 !=0)=true then some (p,false,r36.2.2.1,r36.2.2.2.1,r36.2.2.2.2)else(H2 q r36.2.2.2.1 r36.2.2.2.2)>>=λr40=>if(r40.1 !=0)=true then some (p,false,r40.1,r40.2.1,r40.2.2)else(R4 q r36.1)>>=λr43=>some (r43.1,true,r43.2,r40.2.1,r40.2.2))else(if(r36.2.2.1 !=0)=true then some (p,false,r36.2.2.1,r36.2.2.2.1,r36.2.2.2.2)else some (p,false,r36.2.2.1,r36.2.2.2.1,r36.2.2.2.2))) er5 (QO l p) (∀Y d e k,On l p Y d e k->f<k) f:=by
 refine Ou.bind h (λ⟨a,ha,h⟩Y d e k hO=>hO.tgt_lt ha h) (λr hr=>?_) ?_
 ·have hr':(r.2.2.1 !=0)=true:=by rw[show r.2.2.1=8 from hr];decide
  cases hd:r.2.1 with|true=>exact⟨_,zB.ifT rfl (zB.ifT hr' zB.ret),hr⟩|false=>exact⟨_,zB.ifF rfl (zB.ifT hr' zB.ret),hr⟩
 ·rintro R k k0 k1(⟨ha,rfl,Y,rfl⟩|⟨a,z,e,ha,hb,⟨he,Y,rfl⟩|⟨rfl,⟨hr,Y,rfl⟩|⟨Y,e',hY,hr,rfl⟩⟩⟩);·exact Ou.ifF rfl (Ou.ifF rfl (Ou.ret (by omega) ⟨p,false,0,On.stop ha,rfl⟩))
  ·dsimp only;exact Ou.ifF rfl (Ou.ifT (by simpa using he) (Ou.ret (by omega) ⟨p,false,e,by rw[Int.add_zero];exact On.tgtE ha hb he,rfl⟩))
  ·exact Ou.ifF rfl (Ou.ifF rfl (Ou.ret (by omega) ⟨p,false,0,by rw[Int.add_zero];exact On.tgtN ha hb hr,rfl⟩))
  ·dsimp only;refine Ou.ifT rfl (Ou.ite (λh=>?_) λh=>?_);·exact Ou.ret (by omega) ⟨p,false,e',by rw[Int.add_zero];exact On.tgtRE ha hb hr (by simpa using h),rfl⟩
   ·have he:e'=0:=by simpa using h
    subst he;refine zCO p Y (f-k) (by omega) hY (λhs=>⟨_,_,_,On.tgtRL ha hb hr hs,rfl⟩) (λhs=>⟨_,_,_,On.tgtR ha hb hr hs,rfl⟩) (λh Y' d' e' k' hO=>?_);cases hsY:zJ Y with|true=>have:=(On.tgtR ha hb hr hsY).det hO;omega|false=>have:=(On.tgtRL ha hb hr hsY).det hO;omega
theorem zPu{N:ByteArray->Bool}(l:List zX)(hE:wP N l)(he:∀e∈l,nU e)(x:Tm)(hs:zJ x=true)(f:Int)(hf:0<=f)(hb:∀a∈yW x,HB l a f):Ou (λL U q=>zSF q (wF l) x L U) er5 (QO l x) (∀Y d e k,On l x Y d e k->f<k) f:=by
 have hB:∀a y k,zJ a=true->Br l a y 0 k->zJ y=true:=λa y k h1 h2=>h2.shaped h1 rfl;have hh:=uV hs;have hg:=(zK hh).2.2;have hn:=jZ hg;have ho:xW (yW x):=λy hy=>yQ (xS hs hy);have hl:(yW x).length<=8192:=by have h:=zK hs;have:=sT _ h.2.2;omega
 refine Ou.succ ?_;simp only[zSF,T4,o8,gX];refine Ou.evt (kK x hs) (Ou.ite (λh4=>?_) λh4=>?_)
 ·have h4':(zZ x).k=4:=by simpa using h4
  have hkk:∀k:Int,k≠0->uN l (zZ x)≠k:=λk hk e=>by have:=(vP e hk).1;omega
  refine Ou.ite (λhlen=>?_) λhlen=>?_
  ·have hlen':((yW x).length:Int)>0:=of_decide_eq_true hlen;obtain⟨a,b,hab,-,hgb⟩:=vM hg (.inr (.inl h4'));have hm:vO (yW x) 0∈yW x:=sK (by omega) (by omega);have hbo:(vO (zZ x).sub 1).Ok:=by rw[hab];exact wR b hgb
   have hact:vA l x=.red (tJ (gR (vO (zZ x).sub 1) [vO (yW x) 0]).1 ((yW x).drop 1)) (gR (vO (zZ x).sub 1) [vO (yW x) 0]).2:=by unfold vA;rw[if_pos ⟨h4',by omega⟩]
   refine Ou.pure (uB (by omega) (by rw[hab];simp)) (Ou.pure (uB (by omega) (by show(0:Int)<((yW x).length:Int);omega)) (Ou.evt (zNN _ _ hbo (ho _ hm)) (Ou.pure (sZ (by omega) (by show(1:Int)<=((yW x).length:Int);omega)) (Ou.evt (vD _ _ (by show(List.drop _ (yW x)).length<_;rw[List.length_drop];omega)) ?_))));refine Ou.ite (λh=>Ou.ret hf ⟨_,_,_,On.redE hact (by simpa using h),rfl⟩) λh=>?_;have he0:(gR (vO (zZ x).sub 1) [vO (yW x) 0]).2=0:=by simpa using h
   rw[he0]at hact;exact zCO x _ f hf (uH _ _ (E5 _ _ hbo (xW.one (ho _ hm))) (ho.drop _)) (λhs=>⟨_,_,_,On.redL hact hs,rfl⟩) (λhs=>⟨_,_,_,On.red hact hs,rfl⟩) (λh Y' d' e' k' hO=>by have:=hO.red_lt hact rfl;omega)
  ·have hlen':¬((yW x).length:Int)>0:=of_decide_eq_false hlen;have hact:vA l x=.none:=by unfold vA;rw[if_neg (λh=>by omega),if_neg (hkk 3 (by decide)),if_neg (hkk 4 (by decide)),if_neg (by omega)]
   refine Ou.evt (gW l _ hn) (Ou.ifF (by simpa using hkk 3 (by decide)) ?_);refine Ou.evt (gW l _ hn) (Ou.ifF (by simpa using hkk 4 (by decide)) ?_);exact Ou.ifF (by show((zZ x).k==7)=false;rw[h4'];decide) (Ou.ret hf ⟨_,_,_,On.stop hact,rfl⟩)
 ·have h4':(zZ x).k≠4:=by simpa using h4
  refine Ou.evt (gW l _ hn) (Ou.ite (λh=>?_) λh=>?_)
  ·have h3:uN l (zZ x)=3:=by simpa using h
   have hk:=vP h3 (by decide);have hact:vA l x=.red (tJ (zN l (zZ x).n).body (yW x)) 0:=by unfold vA;rw[if_neg (λh=>h4' h.1),if_pos h3]
   refine Ou.pure (yO hn hk.2.1) (Ou.evt (vD _ _ (by show(yW x).length<_;omega)) ?_);exact zCO x _ f hf (uH _ _ (he _ (pB hn hk.2.1)).2.1 ho) (λhs=>⟨_,_,_,On.redL hact hs,rfl⟩) (λhs=>⟨_,_,_,On.red hact hs,rfl⟩) (λh Y' d' e' k' hO=>by have:=hO.red_lt hact rfl;omega)
  ·have h3:uN l (zZ x)≠3:=by simpa using h
   refine Ou.evt (gW l _ hn) (Ou.ite (λh=>?_) λh=>?_);·exact zFD l x f hf (zLf l hE x hs f hf h4' (by simpa using h) hb hB)
   ·have h4k:uN l (zZ x)≠4:=by simpa using h
    refine Ou.ite (λh=>zFD l x f hf (zPv l hE x hs f hf (by simpa using h) hb hB)) λh=>?_;have h7:(zZ x).k≠7:=by simpa using h
    have hact:vA l x=.none:=by unfold vA;rw[if_neg (λh=>h4' h.1),if_neg h3,if_neg h4k,if_neg h7]
    exact Ou.ret hf ⟨_,_,_,On.stop hact,rfl⟩
theorem zLe{N:ByteArray->Bool}(l:List zX)(hE:wP N l)(he:∀e∈l,nU e):∀(F n:Nat)(x:Tm),zJ x=true->x.nodes<=n->Ou (λL U q=>H3 q (wF l) L U x.k x.n x.sub) er4 (λR k=>∃y e,Br l x y e k/\R=λL U=>(y,e,L,U)) (∀y e k,Br l x y e k->(F:Int)<k) (F:Int):=by intro F;induction F using Nat.strongRecOn with|ind F IH=>intro n;induction n with|zero=>intro x _ h;have:=wO x;omega|succ n ih=>
 intro x hs hn;have hg:=(zK hs).2.2;have hb:∀a∈yW x,HB l a F:=λa ha=>by have:=((eD x hg).2.2.2.2 a ha).2.1;refine Ou.succ ?_;simp only[zFB];exact ih a (xS hs ha) (by omega)
 refine Ou.succ ?_;simp only[H3,vF];refine Ou.bind (zPu l hE he x hs F (by omega) hb) (λh y e k hbr=>by obtain⟨Y,d,e1,k1,h1,h2⟩:=hbr.first;have:=h _ _ _ _ h1;omega) (λr hr=>?_) ?_
 ·have hr':(r.2.2.1 !=0)=true:=by rw[show r.2.2.1=8 from hr];decide
  cases hd:r.2.1 with|true=>exact⟨_,zB.ifT rfl (zB.ifT hr' zB.ret),hr⟩|false=>exact⟨_,zB.ifF rfl (zB.ifT hr' zB.ret),hr⟩
 ·rintro R k k0 k1⟨Y,d,e,hO,rfl⟩;dsimp only;by_cases e0:e=0
  ·subst e0;cases d with|true=>
    obtain⟨hY,hk1,hst⟩:=hO.step;refine Ou.ifT rfl (Ou.ifF rfl ?_);have:=IH ((F:Int)-k).toNat (by omega) Y.nodes Y hY (Nat.le_refl _);rw[show((((F:Int)-k).toNat:Nat):Int)=F-k by omega]at this;refine this.mono ?_ λh y e k' hbr=>?_
    ·rintro R n _ _⟨y,e,hbr,rfl⟩;exact⟨y,e,hst y e n hbr,rfl⟩
    ·obtain⟨k2,h2,h3⟩:=hbr.after hO;have:=h _ _ _ h2;omega|false=>obtain⟨rfl,hbr⟩:=hO.still;exact Ou.ifF rfl (Ou.ifF rfl (Ou.ret (by omega) ⟨Y,0,by rwa[Int.add_zero],rfl⟩))
  ·have hb:=hO.err e0;have hr':(e !=0)=true:=by simpa using e0
   cases d with|true=>exact Ou.ifT rfl (Ou.ifT hr' (Ou.ret (by omega) ⟨zT,e,by rwa[Int.add_zero],rfl⟩))|false=>exact Ou.ifF rfl (Ou.ifT hr' (Ou.ret (by omega) ⟨zT,e,by rwa[Int.add_zero],rfl⟩))
theorem zVU{N:ByteArray->Bool}(l:List zX)(hE:wP N l)(he:∀e∈l,nU e)(x:Tm)(hs:zJ x=true)(f:Int)(hf:0<=f):HB l x f:=by refine Ou.succ ?_;simp only[zFB];have:=zLe l hE he f.toNat x.nodes x hs (Nat.le_refl _);rwa[show((f.toNat:Nat):Int)=f by omega]at this
def xG(l:List zX)(x:Tm):Prop:=qW x 1048577 l.length=true
instance(l:List zX)(x:Tm):Decidable (xG l x):=inferInstanceAs(Decidable (_=true))
theorem xG.shaped{l:List zX}{x:Tm}(h:xG l x):zJ x=true:=by unfold xG qW at h;simp only[Bool.and_eq_true]at h;exact h.1.1
def QBR(l:List zX)(x:Tm)(R:Int->Int->Tm×Int×Int×Int)(k:Int):Prop:=(¬xG l x/\k=0/\R=λL U=>(zT,5,L,U))\/(xG l x/\∃y e,Br l x y e k/\R=λL U=>(if e=0 then y else zT,e,L,U))
theorem zBj{N:ByteArray->Bool}(l:List zX)(hE:wP N l)(he:∀e∈l,nU e)(x:Tm)(ho:x.Ok)(f:Int)(hf:0<=f):Ou (λL U q=>zFC q (wF l) x L U) er4 (QBR l x) (xG l x/\∀y e k,Br l x y e k->f<k) f:=by
 simp only[zFC,zVT,T4];refine Ou.evt (a:=qW x 1048577 l.length) ((mD x _ _ ho).bind zB.ret) (Ou.ite (λh=>?_) λh=>?_)
 ·have hR:xG l x:=h;refine Ou.bind (zVU l hE he x hR.shaped f hf) (λh=>⟨hR,h⟩) (λr hr=>⟨_,zB.ifT (by show(r.2.1 !=0)=true;rw[show r.2.1=8 from hr];decide) zB.ret,hr⟩) ?_;rintro R k k0 k1⟨y,e,hbr,rfl⟩;dsimp only;by_cases e0:e=0
  ·subst e0;have hy:=hbr.shaped hR.shaped rfl;refine Ou.ifF rfl (Ou.evt (a:=y) ((nN y (yQ hy)).eq (by unfold kJ;rw[if_pos hy])) (Ou.ret (by omega) (.inr ⟨hR,y,0,by rwa[Int.add_zero],rfl⟩)))
  ·refine Ou.ifT (by simpa using e0) (Ou.ret (by omega) (.inr ⟨hR,y,e,by rwa[Int.add_zero],?_⟩));rw[if_neg e0];rfl
 ·exact Ou.ret hf (.inl ⟨by unfold xG;rw[h];simp,rfl,rfl⟩)
structure Inv(l:List zX)(I:Tm->Prop):Prop where
 spine:∀t,xP t=true->I t->I (zZ t)/\∀a∈yW t,I a
 ap:∀f as0,I f->(∀a∈as0,I a)->I (tJ f as0)beta:∀(n:Int)(a b x:Tm),I (.mk 4 n [a,b])->I x->I (siT [x] b 0)body:∀i:Int,0<=i->i<l.length->(zN l i).kind=3->I (zN l i).body
 step:∀(d:Int)(s:Tm)(lev c:Int)(args own:List Tm),I (.mk 7 d [s])->kY l c 2=true->(zN l c).fam=d->(args.length:Int)=(zN l d).pars+1+(zN l d).cons.length->own.length=(vL l c).args.length->(∀a∈args,I a)->(∀a∈own,I a)->I (zOU l d lev c args own)
theorem zSI{l:List zX}{I:Tm->Prop}(hI:Inv l I){x Y:Tm}(hs:zJ x=true)(hx:I x)(h:vA l x=.red Y 0):I Y:=by
 have hsp:=hI.spine x (zK hs).2.2 hx;have hg:=(zK (uV hs)).2.2;unfold vA at h;by_cases h1:(zZ x).k=4/\0<(yW x).length
 ·rw[if_pos h1]at h;have hm:vO (yW x) 0∈yW x:=sK (by omega) (by omega);obtain⟨a,b,hab,-,-⟩:=vM hg (.inr (.inl h1.1));have hhd:zZ x=.mk 4 (zZ x).n [a,b]:=by rw[<-h1.1,<-hab,vF]
  injection h with hY he;rw[(zJu he).2.2.2]at hY;rw[<-hY];refine hI.ap _ _ ?_ λy hy=>hsp.2 y (List.mem_of_mem_drop hy);have hb:vO (zZ x).sub 1=b:=by rw[hab];rfl
  rw[hb];exact hI.beta (zZ x).n a b _ (by rw[<-hhd];exact hsp.1) (hsp.2 _ hm)
 ·rw[if_neg h1]at h;by_cases h2:uN l (zZ x)=3
  ·rw[if_pos h2]at h;injection h with hY he;rw[<-hY];have hk:=vP h2 (by decide);exact hI.ap _ _ (hI.body _ (jZ hg) hk.2.1 hk.2.2) hsp.2
  ·rw[if_neg h2]at h;split at h;·split at h<;>cases h
   ·split at h;·split at h<;>cases h
    ·cases h
theorem T5{N:ByteArray->Bool}{l:List zX}(hE:wP N l){x a:Tm}(hs:zJ x=true)(h:vA l x=.tgt a):a∈yW x/\(uN l (zZ x)=4\/((zZ x).k=7/\kY l (zZ x).n 1=true/\xZ (zN l (zZ x).n)<=(yW x).length)):=by
 have hn:=jZ (zK (uV hs)).2.2;unfold vA at h;by_cases h1:(zZ x).k=4/\0<(yW x).length;·rw[if_pos h1]at h;cases h
 ·rw[if_neg h1]at h;by_cases h2:uN l (zZ x)=3;·rw[if_pos h2]at h;cases h
  ·rw[if_neg h2]at h;by_cases h3:uN l (zZ x)=4
   ·rw[if_pos h3]at h;split at h;·cases h
    ·injection h with h;have hk:=vP h3 (by decide);have hp:=(xB (hE.2 _ hn hk.2.1)).2.2.2.1 hk.2.2;unfold bP at hp;simp only[Bool.and_eq_true]at hp;have hw:=vV hp.1;have hfam:=wB ((xB (hE.2 _ hw.1 (by omega))).2.1 hw.2.2.1);rw[<-h];exact⟨sK (by omega) (by omega),.inl h3⟩
   ·rw[if_neg h3]at h;by_cases h4:(zZ x).k=7
    ·rw[if_pos h4]at h;split at h
     ·rename_i h5;injection h with h;have hi:=wJ h5.1;have hfam:=wB ((xB (hE.2 _ hi.1 hi.2.1)).2.1 hi.2.2);have h6:=h5.2;unfold xZ at h6 h;rw[if_pos hi.2.2]at h6 h;rw[<-h];exact⟨sK (by omega) (by omega),.inr ⟨h4,h5⟩⟩
     ·cases h
    ·rw[if_neg h4]at h;cases h
theorem zLd{N:ByteArray->Bool}{l:List zX}{I:Tm->Prop}(hE:wP N l)(hI:Inv l I){x y Y a:Tm}(hs:zJ x=true)(hsy:zJ y=true)(hx:I x)(hy:I y)(ha:vA l x=.tgt a)(h:vQ l x y=some (Y,0)):I Y:=by
 have hsp:=hI.spine x (zK hs).2.2 hx;have hsy2:=hI.spine y (zK hsy).2.2 hy;have hg:=(zK (uV hs)).2.2;have hox:xW (yW x):=λz hz=>yQ (xS hs hz);have hoy:xW (yW y):=λz hz=>yQ (xS hsy hz);have hlx:(yW x).length<=8192:=by have h:=zK hs;have:=sT _ h.2.2;omega
 have hly:(yW y).length<=8192:=by have h:=zK hsy;have:=sT _ h.2.2;omega
 have hca:=(T5 hE hs ha).2;unfold vQ at h;by_cases h4:uN l (zZ x)=4
 ·rw[if_pos h4]at h;split at h
  ·simp only[Option.some.injEq,Prod.mk.injEq]at h;have hX:=(lK l (zZ x).n ((yW y).drop (zN l (zZ y).n).pars.toNat) hE (hoy.drop _) (by rw[List.length_drop];omega)).2.2.2 h.2;rw[<-h.1];refine hI.ap _ _ ?_ λz hz=>hsp.2 z (List.mem_of_mem_drop hz);rw[hX.2.2.2];exact hsy2.2 _ (List.mem_of_mem_drop (sK hX.2.1 hX.2.2.1))
  ·cases h
 ·rw[if_neg h4]at h;obtain⟨h7,-,-⟩:=hca.resolve_left h4;split at h
  ·simp only[Option.some.injEq,Prod.mk.injEq]at h;have hX:=(aV l (zZ x).n (vO (zZ x).sub 0).n (zZ y).n ((yW x).take ((zN l (zZ x).n).pars+1+(zN l (zZ x).n).cons.length).toNat) ((yW y).drop (zN l (zZ x).n).pars.toNat) hE (hox.take _) (hoy.drop _) (by rw[List.length_take];omega) (by rw[List.length_drop];omega)).2.2.2 h.2;rw[<-h.1];refine hI.ap _ _ ?_ λz hz=>hsp.2 z (List.mem_of_mem_drop hz);obtain⟨-,-,b1,b2,b3,b4,-,-,b5,-⟩:=hX;rw[b5];obtain⟨s,hsb⟩:∃s,(zZ x).sub=[s]:=by revert hg h7;generalize zZ x=w;intro hg h7;obtain⟨kk,nn,ss⟩:=w;obtain⟨s,hs,-⟩:=(tR (wU hg).1).2.2.2.2.2.2.1 h7;exact⟨s,hs⟩
   have hhd:zZ x=.mk 7 (zZ x).n [s]:=by rw[<-h7,<-hsb,vF]
   exact hI.step _ s _ _ _ _ (by rw[<-hhd];exact hsp.1) b1 b2 b3 b4 (λz hz=>hsp.2 z (List.mem_of_mem_take hz)) (λz hz=>hsy2.2 z (List.mem_of_mem_drop hz))
  ·cases h
theorem Br.inv{N:ByteArray->Bool}{l:List zX}{I:Tm->Prop}(hE:wP N l)(hI:Inv l I){x y:Tm}{e k:Int}(h:Br l x y e k):zJ x=true->e=0->I x->I y:=by induction h with|stop _=>exactλ_ _ hx=>hx|redE _ h=>exactλ_ he=>absurd he h|redL _ _=>exactλ_ he=>absurd he (by decide)|red a hY _ ih=>exactλhs he hx=>ih hY he (zSI hI hs hx a)|tgtE _ _ h _=>exactλ_ he=>absurd he h|tgtN _ _ _ _=>exactλ_ _ hx=>hx|tgtRE _ _ _ h _=>exactλ_ he=>absurd he h|tgtRL _ _ _ _ _=>exactλ_ he=>absurd he (by decide)|tgtR a b c hY _ ih ih2=>intro hs he hx;have hm:=(T5 hE hs a).1;have hsa:=xS hs hm;exact ih2 hY he (zLd hE hI hs (b.shaped hsa rfl) hx (ih hsa rfl ((hI.spine _ (zK hs).2.2 hx).2 _ hm)) a c)
theorem zLc{N:ByteArray->Bool}{l:List zX}(hE:wP N l){P:Int->Int->Prop}(hP:∀k n:Int,k≠8->(k=6\/k=7->n<l.length)->P k n):Inv l (xM P)where
 spine:=λt hg h=>aR t hg h
 ap:=λf as0 hf ha=>jW as0 f (hP 5 0 (by decide) (by omega)) hf ha
 beta:=λn a b x h hx=>by rw[xM,wZ,wZ,wZ]at h;exact zCE [x] (λy hy=>by rw[List.mem_singleton.1 hy];exact hx) b 0 h.2.2.1
 body:=λi h0 h1 hk=>by have hd:=(xB (hE.2 i h0 h1)).2.2.2.2.1 hk;unfold zLw at hd;simp only[Bool.and_eq_true]at hd;exact zBp (λk n h=>hP k n h.2 λh'=>by have:=h.1 h';omega) (G8 hd.1)
 step:=λd s lev c args own h7 hc hf ha ho h1 h2=>by have hi:=wJ hc;obtain⟨A,y,hw,-⟩:=tT hE hi.1 hi.2.1 hi.2.2;rw[xM]at h7;refine zLh (hP 4 0 (by decide) (by omega)) (hP 5 0 (by decide) (by omega)) (hP 0 0 (by decide) (by omega)) (hP 2 _ (by decide) (by omega)) (h7.1.resolve_left (by decide)) h1 h2 ?_;exact zHa (by rw[hw]) (zBp (λk n h=>hP k n h.2 λh'=>by have:=h.1 h';omega) (G8 (xB (hE.2 _ hi.1 hi.2.1)).1))
def aW:Nat->yA->Int->Option (Int)|0,_,_=>none|c+1,a,b=>if decide ((a.length:Int)>0)then if decide (b<=8192)then zO a (yJ ((a.length:Int)-1))>>=λx3=>sN a 0 (yJ ((a.length:Int)-1))>>=λx5=>yT 40 ([]:yA) x5>>=λl7=>sN x3.sub 0 (zUK (x3.sub.length:Int) 8193)>>=λx10=>yT 40 l7 x10>>=λl12=>aW c l12 (yJ (b+1))else some b else some b
def e12(c:Nat)(d:Tm):Option (Int):=aW c [d] 0
theorem zVV:∀c:Nat,∀a b,Lz (aW c a b) 0 Tryz.f12 (pt 4069 Tryz.f12) (λj=>sp j 39 0 [(3,zC zA a .full),(4,ai b)]) ⟨[],0,[],0,[]⟩ (λr=>ai r) (λ_=>[]) 0 [.blk 0,.seq (pt 255 Tryz.f12)]/\Lz (aW c a b) 0 Tryz.f12 (pt 4069 Tryz.f12) (λj=>sp j 39 0 [(3,zC zA a (.st 0 3)),(4,ai b)]) ⟨[],0,[0],1,[]⟩ (λr=>ai r) (λ_=>[]) 0 [.blk 0,.seq (pt 255 Tryz.f12)]:=xF (λ_ _=>⟨lN,lN⟩) λc ih=>λa b=>⟨lw λ_=>rB 1 (rB 0 (rA 2 (xA (o:=.full)) λ_=>rW (λh6=>oF 5 (zIK (o:=.full) h6)) λx5=>rH λ_ h8=>rZ (List.length x5=0) (λh9=>rS (oP 0 (qT h8 h9))<|rA 4 rM λx10=>rH λ_ h13=>rZ (List.length x10=0) (λh14=>rS (oP 0 (qT h13 h14))<|lH 1 [] [] [] [3,4] ((ih _ _).1)) λh14=>rS (oP 0 (xY h13 h14))<|lH 1 [] [] [0] [3,4] ((ih _ _).2)) λh9=>rS (oP 0 (xY h8 h9))<|rA 4 rM λx10=>rH λ_ h13=>rZ (List.length x10=0) (λh14=>rS (oP 0 (qT h13 h14))<|lH 1 [] [] [0] [3,4] ((ih _ _).2)) λh14=>rS (oP 0 (xY h13 h14))<|lH 1 [] [] [1] [3,4] ((ih _ _).2))<|lE 0)<|lE 0,lw λ_=>rB 1 (rB 0 (rA 2 (xA (o:=(.st 0 3))) λ_=>rW (λh6=>oF 5 (zIK (o:=(.st 0 3)) h6)) λx5=>rH λ_ h8=>rZ (List.length x5=0) (λh9=>rS (oP 0 (qT h8 h9))<|rA 4 rM λx10=>rH λ_ h13=>rZ (List.length x10=0) (λh14=>rS (oP 0 (qT h13 h14))<|lH 1 [] [] [] [3,4] ((ih _ _).1)) λh14=>rS (oP 0 (xY h13 h14))<|lH 1 [] [] [1] [3,4] ((ih _ _).2)) λh9=>rS (oP 0 (xY h8 h9))<|rA 4 rM λx10=>rH λ_ h13=>rZ (List.length x10=0) (λh14=>rS (oP 0 (qT h13 h14))<|lH 1 [] [] [1] [3,4] ((ih _ _).2)) λh14=>rS (oP 0 (xY h13 h14))<|lH 1 [] [] [2] [3,4] ((ih _ _).2))<|lE 0)<|lE 0⟩
theorem c12{c d}:Cz (e12 c d) 12 [] [yL d] (λr=>ai r) (λ_=>[]) 0:=fw func12<|rS (oS 1 (yU xH [d]))<|fH 0 [] [] [] [3,4] ((zVV _ _ _).1)
theorem iA:∀a b:List Tm,yR (a++b)=yR a+yR b|[],b=>by simp[yR]|t::a,b=>by simp only[List.cons_append,yR,iA a b];omega
theorem mK:∀l:List Tm,l.length<=yR l|[]=>by simp[yR]|t::l=>by rw[yR];have:=mK l;have:=wO t;simp;omega
theorem dN(t:Tm):t.nodes=1+yR t.sub:=by cases t;rw[Tm.nodes,Tm.sub]
theorem zFE(t:Tm):t.high=1+vC t.sub:=by cases t;rw[Tm.high,Tm.sub]
theorem zBi:∀a b:List Tm,vC (a++b)=max (vC a) (vC b)|[],b=>by simp[vC]|t::a,b=>by simp only[List.cons_append,vC,zBi a b];omega
theorem zPt{α:Type}{l:List α}{a b:Nat}(h1:a<=b)(h2:b<=l.length):sN l (a:Int) (b:Int)=some ((l.drop a).take (b-a)):=by unfold sN;rw[if_pos (by omega),show((b:Int)-(a:Int)).toNat=b-a by omega,show(a:Int).toNat=a by omega]
theorem zLb{α:Type}(l:List α)(x:α):zO (l++[x]) (l.length:Int)=some x:=by unfold zO;rw[if_pos (by omega)];simp
theorem zLa:∀(m h:Nat)(todo:List Tm),h+m=8193->todo.length<=1+h*8193->zB (λq=>aW q todo (h:Int)) ((min (h+yR todo) 8193:Nat):Int):=by intro m;induction m with
 |zero=>
  intro h todo hm hl;refine zB.succ ?_;simp only[aW];have:h=8193:=by omega
  subst this;rcases todo with _|⟨x,todo⟩;·exact zB.ifF (by simp) (zB.ret.eq (by simp))
  ·refine zB.ifT (by simp<;>omega) (zB.ifF (by simp) (zB.ret.eq ?_));have:min (8193+yR (x::todo)) 8193=8193:=by omega
   rw[this]|succ m ih=>
  intro h todo hm hl;refine zB.succ ?_;simp only[aW];rcases List.eq_nil_or_concat todo with rfl|⟨ini,x,rfl⟩
  ·refine zB.ifF (by simp) (zB.ret.eq ?_);have:min (h+yR []) 8193=h:=by rw[yR];omega
   rw[this]
  ·simp only[List.concat_eq_append]at hl⊢;have hlen:(ini++[x]).length=ini.length+1:=by simp
   have hb:h*8193<=8192*8193:=Nat.mul_le_mul_right _ (by omega);have e1:yJ (((ini++[x]).length:Int)-1)=(ini.length:Int):=by rw[zS (by omega) (by omega),hlen];omega
   refine zB.ifT (by simp<;>omega) (zB.ifT (by simp<;>omega) ?_);rw[e1];refine zB.pure (zLb ini x) ?_;have e2:sN (ini++[x]) 0 (ini.length:Int)=some ini:=by have:=zPt (l:=ini++[x]) (a:=0) (b:=ini.length) (by omega) (by omega);simpa using this
   refine zB.pure e2 (zB.pure (zW (by simp<;>omega)) ?_);have e3:zUK (x.sub.length:Int) 8193=((min x.sub.length 8193:Nat):Int):=by unfold zUK;split<;>omega
   rw[e3];have e4:=zPt (l:=x.sub) (a:=0) (b:=min x.sub.length 8193) (by omega) (by omega);refine zB.pure (by simpa using e4) (zB.pure (zW (by simp<;>omega)) ?_);rw[zV h (by omega)];refine(ih (h+1) _ (by omega) (by simp<;>omega)).eq ?_;have hn:=dN x;simp only[List.nil_append,iA,yR,Nat.add_zero];by_cases hs:x.sub.length<=8193
   ·rw[show min x.sub.length 8193=x.sub.length by omega,List.take_length];omega
   ·have h1:=mK (x.sub.take (min x.sub.length 8193));have h2:=mK x.sub;simp only[List.length_take]at h1;omega
theorem zFF(t:Tm):zB (λq=>e12 q t) ((min t.nodes 8193:Nat):Int):=by simp only[e12];refine(zLa 8193 0 [t] (by omega) (by simp)).eq ?_;simp[yR]
def zJp(d:Nat)(c a b:Int):Option (Int):=some b
theorem zSJ{d c a b}:Cz (zJp d c a b) 46 [.cells [ai c,ai a]] [.mp 0 0,ai b] (λ_=>.tup []) (λr=>[.cells [ai r,ai a]]) 0:=fw func46<|fE 1
def e20(b:Nat)(a:Int):Option ((Int)⊕(Int×Int×Int)):=if decide (a<0)then some (Sum.inl 5)else if decide (a>1048576)then some (Sum.inl 5)else zJp b 0 0 a>>=λr3=>some (Sum.inr (0,r3,0))
theorem c20{b a}:Cz (e20 b a) 20 [] [ai a] (Sum.elim (λx=>.tup [.val (.pointer none),ai x]) (λx=>.tup [.mp 0 0,ai x.1])) (Sum.elim (λ_=>[]) (λx=>[.cells [ai x.2.1,ai x.2.2]])) 0:=fw func20<|rB 0 (fE 0)<|rB 0 (fE 0)<|rC 0 [0] zSJ λ_=>fF 0 [0]
theorem zJo(f:Int)(h0:0<=f)(h1:f<=1048576):zB (λq=>e20 q f) (.inr (0,f,0)):=by simp only[e20];exact zB.ifF (decide_eq_false (by omega)) (zB.ifF (decide_eq_false (by omega)) (zB.bind (a:=f) (zB.mk λ_=>rfl) zB.ret))
mutual theorem zJn:∀(t:Tm)(b:Int),xP t=true->0<=b->C7 t b<=1048577
 |.mk k n l,b,hg,hb=>by
  have hh:=wU hg;have hn:=mC hh.1;rw[C7];split;·omega
  ·exact zJm l k 0 b hh.2 hb theorem zJm:∀(l:List Tm)(k:Int)(i:Nat)(b:Int),wT l=true->0<=b->cF l k i b<=1048577|[],k,i,b,_,_=>by rw[cF];omega|t::l,k,i,b,hg,hb=>by have hc:=wV hg;have hu:=zCk k i;have h1:=zJn t (b+C6 k i) hc.1 (by omega);have h2:=zJm l k (i+1) b hc.2 hb;rw[cF];omega end
theorem sE{l:List zX}{t:Tm}:xG l t↔zJ t=true/\xM (λk n=>k=6\/k=7->n<l.length) t:=by
 unfold xG qW;rw[<-G7 (Q:=λn=>n<(l.length:Int)) (by decide) (by decide) t];simp only[Bool.and_eq_true,decide_eq_true_eq,List.all_eq_true];constructor;·rintro⟨⟨h1,-⟩,h2⟩;exact⟨h1,h2⟩
 ·rintro⟨h1,h2⟩;exact⟨⟨h1,zJn t 0 (zK h1).2.2 (by omega)⟩,h2⟩
theorem Br.right{N:ByteArray->Bool}{l:List zX}(hE:wP N l){x y:Tm}{k:Int}(h:Br l x y 0 k)(hR:xG l x):xG l y:=by have hr:=sE.1 hR;exact sE.2 ⟨h.shaped hr.1 rfl,h.inv hE (zLc hE λk n _ h=>h) hr.1 rfl hr.2⟩
def uX(y:Tm):List Tm:=if y.k=3\/y.k=4 then y.sub else if y.k=5 then yW y else[]
def L5(y:Tm)(ps:List Tm):Tm:=if y.k=3\/y.k=4 then .mk y.k 0 ps else if y.k=5 then tJ (zZ y) ps else y
def mP(P:Tm->Tm->Int->Prop):List Tm->List Tm->Int->Prop|[],xs,k=>xs=[]/\k=0|t::ts,xs,k=>∃x xs' k1 k2,xs=x::xs'/\P t x k1/\mP P ts xs' k2/\k=k1+k2
def NmN(l:List zX):Nat->Tm->Tm->Int->Prop|0,_,_,_=>False|n+1,t,x,k=>xG l t/\∃y k1 ps k2,Br l t y 0 k1/\mP (NmN l n) (uX y) ps k2/\x=L5 y ps/\k=k1+k2
def Nm(l:List zX)(t x:Tm)(k:Int):Prop:=∃n,NmN l n t x k
def NmL(l:List zX)(ts xs:List Tm)(k:Int):Prop:=∃n,mP (NmN l n) ts xs k
section
variable{P P':Tm->Tm->Int->Prop}
theorem mP.len:∀{ts xs:List Tm}{k:Int},mP P ts xs k->xs.length=ts.length|[],_,_,⟨a,_⟩=>by rw[a]|_::_,_,_,⟨x,xs',k1,k2,a,_,c,_⟩=>by rw[a,List.length_cons,List.length_cons,mP.len c]
theorem mP.nn(h:∀t x k,P t x k->0<=k):∀{ts xs:List Tm}{k:Int},mP P ts xs k->0<=k|[],_,_,⟨_,a⟩=>by omega|_::_,_,_,⟨x,xs',k1,k2,_,b,c,d⟩=>by have:=h _ _ _ b;have:=mP.nn h c;omega
theorem mP.at:∀{ts xs:List Tm}{k:Int},mP P ts xs k->∀(i:Nat)(h:i<ts.length)(h':i<xs.length),∃k1,P ts[i] xs[i] k1|[],_,_,_,i,h,_=>by simp at h|_::_,_,_,⟨x,xs',k1,k2,a,b,_,_⟩,0,_,_=>by subst a;exact⟨k1,b⟩|_::_,_,_,⟨x,xs',k1,k2,a,_,c,_⟩,i+1,h,h'=>by subst a;exact mP.at c i (by simpa using h) (by simpa using h')
theorem mP.self:∀{ts:List Tm},(∀t∈ts,P t t 0)->mP P ts ts 0|[],_=>⟨rfl,rfl⟩|t::ts,h=>⟨t,ts,0,0,rfl,h t (by simp),mP.self λx hx=>h x (by simp[hx]),rfl⟩
theorem mP.mem:∀{ts xs:List Tm}{k:Int},mP P ts xs k->∀x∈xs,∃t∈ts,∃k1,P t x k1
 |[],_,_,⟨a,_⟩,x,hx=>by rw[a]at hx;cases hx|t::_,_,_,⟨y,xs',k1,k2,a,b,c,_⟩,x,hx=>by
  subst a;rcases List.mem_cons.1 hx with rfl|hx;·exact⟨t,by simp,k1,b⟩
  ·obtain⟨t',h1,h2⟩:=mP.mem c x hx;exact⟨t',by simp[h1],h2⟩
end
theorem NmN.nn{l:List zX}:∀{n:Nat}{t x:Tm}{k:Int},NmN l n t x k->0<=k|0,_,_,_,h=>h.elim|n+1,t,x,k,⟨_,y,k1,ps,k2,a,b,_,d⟩=>by have:=a.nn;have:=mP.nn (λ_ _ _ h=>NmN.nn h) b;omega
theorem NmL.nn{l:List zX}{t x:List Tm}{k:Int}:NmL l t x k->0<=k:=λ⟨_,a⟩=>mP.nn (λ_ _ _ h=>NmN.nn h) a
theorem Nm.inv{l:List zX}{t x:Tm}{k:Int}(h:Nm l t x k):∃y k1 ps k2,xG l t/\Br l t y 0 k1/\NmL l (uX y) ps k2/\x=L5 y ps/\k=k1+k2:=by obtain⟨n,h⟩:=h;cases n with|zero=>exact h.elim|succ n=>obtain⟨hR,y,k1,ps,k2,a,b,c,d⟩:=h;exact⟨y,k1,ps,k2,hR,a,⟨n,b⟩,c,d⟩
theorem o9:∀(l:List Tm)(f:Tm),zZ (tJ f l)=zZ f|[],f=>by rw[tJ]|a::l,f=>by rw[tJ,o9 l,eC]
theorem L6:∀(l:List Tm)(f:Tm),yW (tJ f l)=yW f++l|[],f=>by rw[tJ,List.append_nil]|a::l,f=>by rw[tJ,L6 l,mX];simp
theorem zPs:∀(l:List Tm)(f:Tm),l≠[]->(tJ f l).k=5|[],_,h=>absurd rfl h|[a],f,_=>by rw[tJ,tJ,Tm.k]|a::b::l,f,_=>by rw[tJ];exact zPs (b::l) _ (by simp)
theorem zYF{y:Tm}(hg:xP y=true)(h:y.k=5):yW y≠[]:=by obtain⟨a,b,hs,-,-⟩:=vM hg (.inr (.inr h));obtain⟨k,n,l⟩:=y;have h':k=5:=h;have hs':l=[a,b]:=hs;subst h';subst hs';rw[mX];simp
theorem L7{y:Tm}{ps:List Tm}(hs:zJ y=true)(hl:ps.length=(uX y).length):uX (L5 y ps)=ps/\L5 (L5 y ps) ps=L5 y ps/\(zZ (L5 y ps)=zZ y/\(yW (L5 y ps)).length=(yW y).length\/(y.k=3\/y.k=4)):=by
 have hg:=(zK hs).2.2;unfold uX at hl;by_cases h1:y.k=3\/y.k=4
 ·have e:L5 y ps=.mk y.k 0 ps:=by unfold L5;rw[if_pos h1]
  rw[e];refine⟨?_,?_,.inr h1⟩;·unfold uX;rw[if_pos (by simpa[Tm.k]using h1)];rfl
  ·unfold L5;rw[if_pos (by simpa[Tm.k]using h1)];rfl
 ·rw[if_neg h1]at hl;by_cases h2:y.k=5
  ·rw[if_pos h2]at hl;have e:L5 y ps=tJ (zZ y) ps:=by unfold L5;rw[if_neg h1,if_pos h2]
   have hne:ps≠[]:=λh=>by have:=zYF hg h2;rw[h]at hl;exact this (List.length_eq_zero_iff.1 hl.symm)
   have hk:=zPs ps (zZ y) hne;have hd5:=(eD y hg).2.1;have hh:zZ (tJ (zZ y) ps)=zZ y:=by rw[o9,qX hd5]
   have ha:yW (tJ (zZ y) ps)=ps:=by rw[L6,sJ hd5,List.nil_append]
   rw[e];refine⟨?_,?_,.inl ⟨hh,by rw[ha,hl]⟩⟩;·unfold uX;rw[if_neg (by omega),if_pos hk,ha]
   ·unfold L5;rw[if_neg (by omega),if_pos hk,hh]
  ·rw[if_neg h2]at hl;have hp:ps=[]:=List.length_eq_zero_iff.1 (by simpa using hl);have e:L5 y ps=y:=by unfold L5;rw[if_neg h1,if_neg h2]
   rw[e,hp];refine⟨?_,?_,.inl ⟨rfl,rfl⟩⟩;·unfold uX;rw[if_neg h1,if_neg h2]
   ·unfold L5;rw[if_neg h1,if_neg h2]
theorem zCP{l:List zX}{y:Tm}(h:y.k=3\/y.k=4):¬tM l y:=λhc=>by have:=(vP hc.1 (by decide)).1;rw[qX (by omega)]at this;omega
theorem zSK{l:List zX}{y:Tm}{ps:List Tm}(hs:zJ y=true)(hl:ps.length=(uX y).length)(h:tM l (L5 y ps)):tM l y/\zZ (L5 y ps)=zZ y:=by
 rcases(L7 hs hl).2.2 with⟨h1,h2⟩|h3;·unfold tM at h⊢;rw[h1,h2]at h;exact⟨h,h1⟩
 ·have e:L5 y ps=.mk y.k 0 ps:=by unfold L5;rw[if_pos h3]
  rw[e]at h;exact absurd h (zCP (by simpa[Tm.k]using h3))
theorem n6{l:List zX}{x y:Tm}:vQ l x y=none↔¬(tM l y/\(zN l (zZ y).n).fam=if uN l (zZ x)=4 then(zN l (zZ x).n).fam else(zZ x).n):=by
 unfold vQ;by_cases h:uN l (zZ x)=4
 ·rw[if_pos h,if_pos h];by_cases h2:tM l y/\(zN l (zZ y).n).fam=(zN l (zZ x).n).fam;·rw[if_pos h2];simp[h2]
  ·rw[if_neg h2];simp only[true_iff];exact h2
 ·rw[if_neg h,if_neg h];by_cases h2:tM l y/\(zN l (zZ y).n).fam=(zZ x).n;·rw[if_pos h2];simp[h2]
  ·rw[if_neg h2];simp only[true_iff];exact h2
theorem zPr{N:ByteArray->Bool}{l:List zX}(hE:wP N l){x y:Tm}(hs:zJ y=true)(hh:zZ x=zZ y)(ha:(yW x).length=(yW y).length):(vA l y=.none->vA l x=.none)/\∀a,vA l y=.tgt a->∃i:Int,0<=i/\i<(yW y).length/\a=vO (yW y) i/\vA l x=.tgt (vO (yW x) i):=by
 have hn:=jZ (zK (uV hs)).2.2;unfold vA;rw[hh,ha];by_cases h1:(zZ y).k=4/\0<(yW y).length;·rw[if_pos h1,if_pos h1];exact⟨λh=>(by cases h),λa h=>(by cases h)⟩
 ·rw[if_neg h1,if_neg h1];by_cases h2:uN l (zZ y)=3;·rw[if_pos h2,if_pos h2];exact⟨λh=>(by cases h),λa h=>(by cases h)⟩
  ·rw[if_neg h2,if_neg h2];by_cases h3:uN l (zZ y)=4
   ·rw[if_pos h3,if_pos h3];by_cases h4:((yW y).length:Int)<=(zN l (zZ y).n).pars;·rw[if_pos h4,if_pos h4];exact⟨id,λa h=>(by cases h)⟩
    ·rw[if_neg h4,if_neg h4];have hk:=vP h3 (by decide);have hp:=(xB (hE.2 _ hn hk.2.1)).2.2.2.1 hk.2.2;unfold bP at hp;simp only[Bool.and_eq_true]at hp;have hw:=vV hp.1;have hfam:=wB ((xB (hE.2 _ hw.1 (by omega))).2.1 hw.2.2.1);exact⟨λh=>(by cases h),λa h=>by injection h with h;exact⟨_,by omega,by omega,h.symm,rfl⟩⟩
   ·rw[if_neg h3,if_neg h3];by_cases h4:(zZ y).k=7
    ·rw[if_pos h4,if_pos h4];by_cases h5:kY l (zZ y).n 1=true/\xZ (zN l (zZ y).n)<=(yW y).length
     ·rw[if_pos h5,if_pos h5];have hi:=wJ h5.1;have hfam:=wB ((xB (hE.2 _ hi.1 hi.2.1)).2.1 hi.2.2);have h6:xZ (zN l (zZ y).n)=(zN l (zZ y).n).pars+2+(zN l (zZ y).n).cons.length+(zN l (zZ y).n).inds:=by unfold xZ;rw[if_pos hi.2.2]
      exact⟨λh=>(by cases h),λa h=>by injection h with h;exact⟨_,by omega,by omega,h.symm,rfl⟩⟩
     ·rw[if_neg h5,if_neg h5];exact⟨id,λa h=>(by cases h)⟩
    ·rw[if_neg h4,if_neg h4];exact⟨id,λa h=>(by cases h)⟩
theorem On.still_inv{l:List zX}{y:Tm}{j:Int}(h:On l y y false 0 j):vA l y=.none\/∃a z j',vA l y=.tgt a/\Br l a z 0 j'/\vQ l y z=none:=by cases h with|stop a=>exact .inl a|redE _ b=>exact absurd rfl b|tgtE _ _ c=>exact absurd rfl c|tgtN a b c=>exact .inr ⟨_,_,_,a,b,c⟩|tgtRE _ _ _ d=>exact absurd rfl d
theorem n7{t x:Tm}(h:zJ t=true)(hx:x∈t.sub):zJ x=true:=by
 obtain⟨k,n,l⟩:=t;have hs:=zK h;have hg:=(wU hs.2.2).2;rw[Tm.nodes,Tm.high]at hs;have key:∀l:List Tm,wT l=true->∀x∈l,xP x=true/\x.nodes<=yR l/\x.high<=vC l:=by intro l;induction l with|nil=>intro _ x hx;cases hx|cons a l ih=>
  intro hg x hx;have hc:=wV hg;rw[yR,vC];rcases List.mem_cons.1 hx with rfl|hx;·exact⟨hc.1,by omega,by omega⟩
  ·have:=ih hc.2 x hx;exact⟨this.1,by omega,by omega⟩
 have:=key l hg x hx;exact mF (by omega) (by omega) this.1
theorem bS{y x:Tm}(h:zJ y=true)(hx:x∈uX y):zJ x=true:=by
 unfold uX at hx;split at hx;·exact n7 h hx
 ·split at hx;·exact xS h hx
  ·cases hx
theorem NmN.again{N:ByteArray->Bool}{l:List zX}(hE:wP N l):∀{n:Nat}{t x:Tm}{k:Int},NmN l n t x k->zJ x=true->NmN l n x x 0
 |0,_,_,_,h,_=>h.elim|n+1,t,x,k,⟨hR,y,k1,ps,k2,a,b,c,d⟩,hs=>by
  have hRy:=a.right hE hR;have hsy:=hRy.shaped;have hlen:=b.len;obtain⟨e1,e2,e3⟩:=L7 hsy hlen;rw[<-c]at e1 e2 e3;have hps:∀p∈ps,NmN l n p p 0:=λp hp=>by obtain⟨q,hq,kq,hn⟩:=b.mem p hp;exact NmN.again hE hn (bS hs (by rw[e1];exact hp))
  have hn0:∀{p:Tm},NmN l n p p 0->xG l p/\Br l p p 0 0:=λ{p}h=>by cases n with|zero=>exact h.elim|succ n=>
    obtain⟨hR,y,k1,ps,k2,a,b,c,d⟩:=h;have h1:=a.nn;have h2:=mP.nn (λ_ _ _ h=>NmN.nn h) b;have hz:k1=0:=by omega
    subst hz;refine⟨hR,?_⟩;have hy:y=p:=by
     have key:∀{x y:Tm}{e k:Int},Br l x y e k->e=0->k<=0->y=x:=λh=>by cases h with|stop _=>exactλ_ _=>rfl|redE _ h=>exactλhe=>absurd he h|redL _ _=>exactλhe=>absurd he (by decide)|red _ _ h=>exactλ_ hk=>by have:=h.nn;omega|tgtE _ _ h=>exactλhe=>absurd he h|tgtN _ _ _=>exactλ_ _=>rfl|tgtRE _ _ _ h=>exactλhe=>absurd he h|tgtRL _ _ _ _=>exactλhe=>absurd he (by decide)|tgtR _ h1 _ _ h2=>exactλ_ hk=>by have:=h1.nn;have:=h2.nn;omega
     exact key a rfl (Int.le_refl 0)
    rw[hy]at a;exact a
  have hP5:(λ(k n:Int)=>k=6\/k=7->n<(l.length:Int)) 5 0:=λh=>by omega
  have hyN:=(sE.1 hRy).2;have hRx:xG l x:=by
   refine sE.2 ⟨hs,?_⟩;have hpsN:∀p∈ps,xM (λk n=>k=6\/k=7->n<l.length) p:=λp hp=>(sE.1 (hn0 (hps p hp)).1).2;rw[c];unfold L5;by_cases h1:y.k=3\/y.k=4;·rw[if_pos h1,xM,L3];exact⟨.inr λh=>by omega,hpsN⟩
   ·rw[if_neg h1];by_cases h2:y.k=5;·rw[if_pos h2];exact jW ps _ hP5 (aR y (zK hsy).2.2 hyN).1 hpsN
    ·rw[if_neg h2];exact hyN
  have hbr:Br l x x 0 0:=by
   rcases e3 with⟨hh,ha⟩|h34
   ·obtain⟨j,-,hon⟩:=a.last rfl;have hact:=zPr hE hsy hh ha;rcases hon.still_inv with h|⟨a',z,j',h1,h2,h3⟩;·exact .stop (hact.1 h)
    ·obtain⟨i,i0,i1,i2,i3⟩:=hact.2 a' h1;have hy5:y.k=5:=by
      by_cases h5:y.k=5;·exact h5
      ·rw[sJ h5]at i1;simp at i1;omega
     have hpy:uX y=yW y:=by unfold uX;rw[if_neg (by omega),if_pos hy5]
     have hpx:yW x=ps:=by
      have e:x=tJ (zZ y) ps:=by rw[c];unfold L5;rw[if_neg (by omega),if_pos hy5]
      rw[e,L6,sJ (eD y (zK hsy).2.2).2.1,List.nil_append]
     rw[hpy]at hlen b;have hi1:i.toNat<(yW y).length:=by omega
     have hi2:i.toNat<ps.length:=by omega
     obtain⟨ki,hki⟩:=b.at i.toNat hi1 hi2;have ea:a'=(yW y)[i.toNat]:=by rw[i2];unfold vO;rw[List.getElem?_eq_getElem hi1];rfl
     have eb:vO (yW x) i=ps[i.toNat]:=by rw[hpx];unfold vO;rw[List.getElem?_eq_getElem hi2];rfl
     rw[<-ea]at hki;have hself:=hps _ (List.getElem_mem hi2);refine .tgtN (i3.trans (by rw[eb])) (hn0 hself).2 ?_;cases n with|zero=>exact hki.elim|succ n=>obtain⟨hRa,w,w1,qs,w2,u1,u2,u3,u4⟩:=hki;obtain⟨rfl,-,-⟩:=h2.det u1;have hsw:=u1.shaped hRa.shaped rfl;rw[n6]at h3⊢;rw[hh];rintro⟨c1,c2⟩;rw[u3]at c1 c2;obtain⟨d1,d2⟩:=zSK hsw u2.len c1;rw[d2]at c2;exact h3 ⟨d1,c2⟩
   ·have hx34:x.k=3\/x.k=4:=by rw[c];unfold L5;rw[if_pos h34];simpa[Tm.k]using h34
    refine .stop ?_;unfold vA;rw[qX (by omega),sJ (by omega)];have hk:∀m:Int,m≠0->uN l x≠m:=λm hm e=>by have:=(vP e hm).1;omega
    rw[if_neg (by simp),if_neg (hk 3 (by decide)),if_neg (hk 4 (by decide)),if_neg (by omega)]
  exact⟨hRx,x,0,ps,0,hbr,by rw[e1];exact mP.self hps,e2.symm,rfl⟩
theorem Br.e8{N:ByteArray->Bool}{l:List zX}(hE:wP N l){x y:Tm}{e k:Int}(h:Br l x y e k):zJ x=true->e≠8:=by induction h with
 |stop _=>exactλ_=>by decide|@redE x Y e a h=>
  intro hs;unfold vA at a;split at a;·injection a with h1 h2;rw[<-h2];exact zCC _ _
  ·split at a
   ·injection a with h1 h2;rw[<-h2];decide
   ·split at a;·split at a<;>cases a
    ·split at a;·split at a<;>cases a
     ·cases a|redL _ _=>exactλ_=>by decide|red _ hY _ ih=>exactλ_=>ih hY|tgtE a _ _ ih=>exactλhs=>ih (xS hs (T5 hE hs a).1)|tgtN _ _ _ _=>exactλ_=>by decide|@tgtRE x a z Y e k ha hb hr he ih=>
  intro hs;have hm:=(T5 hE hs ha).1;have hz:=hb.shaped (xS hs hm) rfl;have hox:xW (yW x):=λz hz=>yQ (xS hs hz);have hoy:xW (yW z):=λw hw=>yQ (xS hz hw);have hlx:(yW x).length<=8192:=by have h:=zK hs;have:=sT _ h.2.2;omega
  have hly:(yW z).length<=8192:=by have h:=zK hz;have:=sT _ h.2.2;omega
  unfold vQ at hr;split at hr
  ·split at hr
   ·simp only[Option.some.injEq,Prod.mk.injEq]at hr;rw[<-hr.2];exact(lK l (zZ x).n ((yW z).drop (zN l (zZ z).n).pars.toNat) hE (hoy.drop _) (by rw[List.length_drop];omega)).2.2.1
   ·cases hr
  ·split at hr
   ·simp only[Option.some.injEq,Prod.mk.injEq]at hr;rw[<-hr.2];exact(aV l (zZ x).n (vO (zZ x).sub 0).n (zZ z).n ((yW x).take ((zN l (zZ x).n).pars+1+(zN l (zZ x).n).cons.length).toNat) ((yW z).drop (zN l (zZ x).n).pars.toNat) hE (hox.take _) (hoy.drop _) (by rw[List.length_take];omega) (by rw[List.length_drop];omega)).2.2.1
   ·cases hr|tgtRL _ _ _ _ _=>exactλ_=>by decide|tgtR a b c hY _ ih ih2=>exactλ_=>ih2 hY
theorem Br.zero{l:List zX}{x y:Tm}{e k:Int}(h:Br l x y e k):e=0->k<=0->y=x:=by cases h with|stop _=>exactλ_ _=>rfl|redE _ h=>exactλhe=>absurd he h|redL _ _=>exactλhe=>absurd he (by decide)|red _ _ h=>exactλ_ hk=>by have:=h.nn;omega|tgtE _ _ h=>exactλhe=>absurd he h|tgtN _ _ _=>exactλ_ _=>rfl|tgtRE _ _ _ h=>exactλhe=>absurd he h|tgtRL _ _ _ _=>exactλhe=>absurd he (by decide)|tgtR _ h1 _ _ h2=>exactλ_ hk=>by have:=h1.nn;have:=h2.nn;omega
theorem Ou.evt0{ρ:Type}{f:Int->Int->Nat->Option ρ}{er:ρ->Int}{Q:(Int->Int->ρ)->Int->Prop}{S:Prop}{l:Int}{R:Int->Int->ρ}(h:∀L U,zB (f L U) (R L U))(h0:0<=l)(k:Q R 0):Ou f er Q S l:=.inl ⟨R,0,by omega,h0,k,λL U _ _ _=>by rw[show L-0=L by omega,show U+0=U by omega];exact h L U,λL U _ _=>by omega⟩
abbrev PE:=(Tm×Int)×(Tm×Int)
def uY(t:Tm):Tm×Int:=if t.k=4 then(vO t.sub 1,0)else(.mk 5 0 [(vU t 1 0).1,.mk 1 0 []],if(vU t 1 0).2=0 then(if zJ (.mk 5 0 [(vU t 1 0).1,.mk 1 0 []])=true then 0 else 2)else(vU t 1 0).2)
def wG(l:List zX)(c:Int):List Int:=(zN l (zN l c).fam).fields
def xT(l:List zX)(t:Tm):Prop:=tM l t/\wG l (zZ t).n≠[]
instance(l:List zX)(t:Tm):Decidable (xT l t):=inferInstanceAs(Decidable (_/\_))
def uD(l:List zX)(t:Tm)(c:Int)(i:Nat)(pars:List Tm):Tm×Int:=if xT l t/\(zZ t).n=c then(vO (yW t) ((pars.length+i:Nat):Int),0)else(.mk 5 0 [tJ (.mk 6 (((wG l c)[i]?).getD (-1)) []) pars,t],if zJ (.mk 5 0 [tJ (.mk 6 (((wG l c)[i]?).getD (-1)) []) pars,t])=true then 0 else 2)
def sL(l:List zX)(t:Tm):List Tm:=(yW t).take (zN l (zZ t).n).pars.toNat
def nR(l:List zX)(x y:Tm)(c:Int)(pars:List Tm):Nat->Nat->List PE|0,_=>[]|m+1,i=>(uD l x c i pars,uD l y c i pars)::nR l x y c pars m (i+1)
def cJ:List Tm->List Tm->List PE|a::l,b::m=>((a,0),(b,0))::cJ l m|_,_=>[]
def zFG(x y:Tm):List PE:=(if(zZ x).k=3 then[((vO (zZ x).sub 0,0),(vO (zZ y).sub 0,0)),((vO (zZ x).sub 1,0),(vO (zZ y).sub 1,0))]else[])++cJ (yW x) (yW y)
inductive Hd where|ans(b:Bool)|all(ps:List PE)|pi(a b c d:Tm)
def nE(x y:Tm):Hd:=if(zZ x).k≠(zZ y).k\/(zZ x).n≠(zZ y).n\/(yW x).length≠(yW y).length\/((zZ x).k=7/\(vO (zZ x).sub 0).n≠(vO (zZ y).sub 0).n)then .ans false else .all (zFG x y)
def xV(l:List zX)(m:Bool)(x y:Tm):Hd:=if x.k=4\/y.k=4 then .all [(uY x,uY y)]else if xT l x then(if xT l y/\(zZ x).n≠(zZ y).n then .ans false else .all (nR l x y (zZ x).n (sL l x) (wG l (zZ x).n).length 0))else if xT l y then .all (nR l x y (zZ y).n (sL l y) (wG l (zZ y).n).length 0)else if x.k≠y.k then .ans false else if x.k=3 then .pi (vO x.sub 0) (vO y.sub 0) (vO x.sub 1) (vO y.sub 1)else if x.k=2 then .ans (if m=true then decide (x.n<=y.n)else x.n==y.n)else nE x y
def wW(C:Tm->Tm->Bool->Int->Prop):List PE->Bool->Int->Prop|[],b,k=>b=true/\k=0|p::r,b,k=>p.1.2=0/\p.2.2=0/\∃b1 k1,C p.1.1 p.2.1 b1 k1/\((b1=false/\b=false/\k=k1)\/(b1=true/\∃k2,wW C r b k2/\k=k1+k2))
def I7(C:Bool->Tm->Tm->Bool->Int->Prop)(m:Bool):Hd->Bool->Int->Prop|.ans b0,b,k=>b=b0/\k=0|.all ps,b,k=>wW (C false) ps b k|.pi a a' c c',b,k=>∃b1 k1,C false a a' b1 k1/\((b1=false/\b=false/\k=k1)\/(b1=true/\∃k2,C m c c' b k2/\k=k1+k2))
def B2(l:List zX):Nat->Bool->Tm->Tm->Bool->Int->Prop|0,_,_,_,_,_=>False|n+1,m,x,y,b,k=>xG l x/\xG l y/\∃x' k1 y' k2 k3,Br l x x' 0 k1/\Br l y y' 0 k2/\I7 (B2 l n) m (xV l m x' y') b k3/\k=k1+k2+k3
def Cv(l:List zX)(m:Bool)(x y:Tm)(b:Bool)(k:Int):Prop:=∃n,B2 l n m x y b k
section
variable{C C':Tm->Tm->Bool->Int->Prop}
theorem wW.mono(h:∀x y b k,C x y b k->C' x y b k):∀{ps:List PE}{b:Bool}{k:Int},wW C ps b k->wW C' ps b k|[],_,_,a=>a|_::_,_,_,⟨a,b,b1,k1,c,d⟩=>⟨a,b,b1,k1,h _ _ _ _ c,d.imp id λ⟨e,k2,f,g⟩=>⟨e,k2,wW.mono h f,g⟩⟩
theorem wW.nn(h:∀x y b k,C x y b k->0<=k):∀{ps:List PE}{b:Bool}{k:Int},wW C ps b k->0<=k
 |[],_,_,⟨_,a⟩=>by omega|_::_,_,_,⟨_,_,b1,k1,c,d⟩=>by
  have:=h _ _ _ _ c;rcases d with⟨_,_,d⟩|⟨_,k2,d,e⟩;·omega
  ·have:=wW.nn h d;omega
theorem wW.det(h:∀x y b k b' k',C x y b k->C' x y b' k'->b'=b/\k'=k):∀{ps:List PE}{b b':Bool}{k k':Int},wW C ps b k->wW C' ps b' k'->b'=b/\k'=k
 |[],_,_,_,_,⟨a,b⟩,⟨c,d⟩=>by subst a;subst c;exact⟨rfl,by omega⟩|_::_,_,_,_,_,⟨_,_,b1,k1,c,d⟩,⟨_,_,b1',k1',c',d'⟩=>by
  obtain⟨rfl,rfl⟩:=h _ _ _ _ _ _ c c';rcases d with⟨d1,d2,d3⟩|⟨d1,k2,d2,d3⟩
  ·rcases d' with⟨_,e2,e3⟩|⟨e1,_⟩;·subst d2;subst e2;exact⟨rfl,by omega⟩
   ·rw[d1]at e1;cases e1
  ·rcases d' with⟨e1,_⟩|⟨_,k2',e2,e3⟩;·rw[d1]at e1;cases e1
   ·obtain⟨rfl,rfl⟩:=wW.det h d2 e2;exact⟨rfl,by omega⟩
end
section
variable{C C':Bool->Tm->Tm->Bool->Int->Prop}{m:Bool}
theorem I7.mono(h:∀m x y b k,C m x y b k->C' m x y b k):∀{q:Hd}{b:Bool}{k:Int},I7 C m q b k->I7 C' m q b k|.ans _,_,_,a=>a|.all _,_,_,a=>wW.mono (h false) a|.pi _ _ _ _,_,_,⟨b1,k1,c,d⟩=>⟨b1,k1,h _ _ _ _ _ c,d.imp id λ⟨e,k2,f,g⟩=>⟨e,k2,h _ _ _ _ _ f,g⟩⟩
theorem I7.nn(h:∀m x y b k,C m x y b k->0<=k):∀{q:Hd}{b:Bool}{k:Int},I7 C m q b k->0<=k
 |.ans _,_,_,⟨_,a⟩=>by omega|.all _,_,_,a=>wW.nn (h false) a|.pi _ _ _ _,_,_,⟨b1,k1,c,d⟩=>by
  have:=h _ _ _ _ _ c;rcases d with⟨_,_,d⟩|⟨_,k2,d,e⟩;·omega
  ·have:=h _ _ _ _ _ d;omega
theorem I7.det(h:∀m x y b k b' k',C m x y b k->C' m x y b' k'->b'=b/\k'=k):∀{q:Hd}{b b':Bool}{k k':Int},I7 C m q b k->I7 C' m q b' k'->b'=b/\k'=k
 |.ans _,_,_,_,_,⟨a,b⟩,⟨c,d⟩=>by subst a;subst c;exact⟨rfl,by omega⟩|.all _,_,_,_,_,a,b=>wW.det (h false) a b|.pi _ _ _ _,_,_,_,_,⟨b1,k1,c,d⟩,⟨b1',k1',c',d'⟩=>by
  obtain⟨rfl,rfl⟩:=h _ _ _ _ _ _ _ c c';rcases d with⟨d1,d2,d3⟩|⟨d1,k2,d2,d3⟩
  ·rcases d' with⟨_,e2,e3⟩|⟨e1,_⟩;·subst d2;subst e2;exact⟨rfl,by omega⟩
   ·rw[d1]at e1;cases e1
  ·rcases d' with⟨e1,_⟩|⟨_,k2',e2,e3⟩;·rw[d1]at e1;cases e1
   ·obtain⟨rfl,rfl⟩:=h _ _ _ _ _ _ _ d2 e2;exact⟨rfl,by omega⟩
end
theorem B2.mono{l:List zX}:∀{n:Nat}{m:Bool}{x y:Tm}{b:Bool}{k:Int},B2 l n m x y b k->B2 l (n+1) m x y b k|0,_,_,_,_,_,h=>h.elim|n+1,m,x,y,b,k,⟨r1,r2,x',k1,y',k2,k3,h1,h2,h3,h4⟩=>⟨r1,r2,x',k1,y',k2,k3,h1,h2,h3.mono (λ_ _ _ _ _ h=>B2.mono h),h4⟩
theorem B2.le{l:List zX}{n n':Nat}{m:Bool}{x y:Tm}{b:Bool}{k:Int}(h:B2 l n m x y b k)(hm:n<=n'):B2 l n' m x y b k:=by induction hm with|refl=>exact h|step _ ih=>exact ih.mono
theorem B2.nn{l:List zX}:∀{n:Nat}{m:Bool}{x y:Tm}{b:Bool}{k:Int},B2 l n m x y b k->0<=k|0,_,_,_,_,_,h=>h.elim|n+1,m,x,y,b,k,⟨r1,r2,x',k1,y',k2,k3,h1,h2,h3,h4⟩=>by have:=h1.nn;have:=h2.nn;have:=h3.nn (λ_ _ _ _ _ h=>B2.nn h);omega
theorem B2.det{l:List zX}:∀{n n':Nat}{m:Bool}{x y:Tm}{b b':Bool}{k k':Int},B2 l n m x y b k->B2 l n' m x y b' k'->b'=b/\k'=k|0,_,_,_,_,_,_,_,_,h,_=>h.elim|_+1,0,_,_,_,_,_,_,_,_,h=>h.elim|n+1,n'+1,m,x,y,b,b',k,k',⟨_,_,x',k1,y',k2,k3,h1,h2,h3,h4⟩,⟨_,_,x1',j1,y1',j2,j3,g1,g2,g3,g4⟩=>by obtain⟨rfl,-,rfl⟩:=h1.det g1;obtain⟨rfl,-,rfl⟩:=h2.det g2;obtain⟨rfl,rfl⟩:=I7.det (C:=B2 l n) (C':=B2 l n') (λ_ _ _ _ _ _ _ a b=>B2.det a b) h3 g3;exact⟨rfl,by omega⟩
theorem Cv.det{l:List zX}{m:Bool}{x y:Tm}{b b':Bool}{k k':Int}:Cv l m x y b k->Cv l m x y b' k'->b'=b/\k'=k:=λ⟨_,a⟩⟨_,b⟩=>a.det b
theorem Cv.nn{l:List zX}{m:Bool}{x y:Tm}{b:Bool}{k:Int}:Cv l m x y b k->0<=k:=λ⟨_,a⟩=>a.nn
theorem wW.bound{l:List zX}:∀{ps:List PE}{b:Bool}{k:Int},wW (Cv l false) ps b k->∃n,wW (B2 l n false) ps b k
 |[],_,_,a=>⟨0,a⟩|_::_,_,_,⟨a,b,b1,k1,⟨n,c⟩,d⟩=>by
  rcases d with d|⟨e,k2,f,g⟩;·exact⟨n,a,b,b1,k1,c,.inl d⟩
  ·obtain⟨n',f⟩:=wW.bound f;exact⟨max n n',a,b,b1,k1,c.le (by omega),.inr ⟨e,k2,f.mono (λ_ _ _ _ h=>h.le (by omega)),g⟩⟩
theorem I7.bound{l:List zX}{m:Bool}:∀{q:Hd}{b:Bool}{k:Int},I7 (Cv l) m q b k->∃n,I7 (B2 l n) m q b k
 |.ans _,_,_,a=>⟨0,a⟩|.all _,_,_,a=>wW.bound a|.pi _ _ _ _,_,_,⟨b1,k1,⟨n,c⟩,d⟩=>by
  rcases d with d|⟨e,k2,⟨n',f⟩,g⟩;·exact⟨n,b1,k1,c,.inl d⟩
  ·exact⟨max n n',b1,k1,c.le (by omega),.inr ⟨e,k2,f.le (by omega),g⟩⟩
theorem Cv.mk{l:List zX}{m:Bool}{x y x' y':Tm}{b:Bool}{k1 k2 k3:Int}(r1:xG l x)(r2:xG l y)(h1:Br l x x' 0 k1)(h2:Br l y y' 0 k2)(h3:I7 (Cv l) m (xV l m x' y') b k3):Cv l m x y b (k1+k2+k3):=by obtain⟨n,h3⟩:=h3.bound;exact⟨n+1,r1,r2,x',k1,y',k2,k3,h1,h2,h3,rfl⟩
theorem Cv.inv{l:List zX}{m:Bool}{x y:Tm}{b:Bool}{k:Int}(h:Cv l m x y b k):xG l x/\xG l y/\∃x' k1 y' k2 k3,Br l x x' 0 k1/\Br l y y' 0 k2/\I7 (Cv l) m (xV l m x' y') b k3/\k=k1+k2+k3:=by obtain⟨n,h⟩:=h;cases n with|zero=>exact h.elim|succ n=>obtain⟨r1,r2,x',k1,y',k2,k3,h1,h2,h3,h4⟩:=h;exact⟨r1,r2,x',k1,y',k2,k3,h1,h2,h3.mono (λ_ _ _ _ _ h=>⟨n,h⟩),h4⟩
def n8(l:List zX)(k n:Int):Nat:=if k=4 then 3 else if k=6/\(zN l n).kind=2 then 2 else 1
mutual def sG(l:List zX):Tm->Nat|.mk k n s=>n8 l k n+rG l s def rG(l:List zX):List Tm->Nat|[]=>0|t::s=>sG l t+rG l s end
theorem gY(l:List zX)(k n:Int):1<=n8 l k n/\n8 l k n<=3:=by unfold n8;split<;>(try split)<;>omega
theorem zCQ(l:List zX):∀t:Tm,1<=sG l t|.mk k n s=>by rw[sG];have:=gY l k n;omega
theorem zCR(l:List zX):∀{s:List Tm}{x:Tm},x∈s->sG l x<=rG l s
 |a::s,x,h=>by
  rw[rG];rcases List.mem_cons.1 h with rfl|h;·omega
  ·have:=zCR l h;omega
theorem zCS(l:List zX):∀a b:List Tm,rG l (a++b)=rG l a+rG l b|[],b=>by simp[rG]|t::a,b=>by simp only[List.cons_append,rG,zCS l a b];omega
mutual theorem zUk(l:List zX):∀(t:Tm)(b c k:Int),sG l (Q9 t b c k)<=sG l t
 |.mk kd n s,b,c,k=>by
  rw[Q9];split
  ·rename_i h;rw[sG,sG,rG];have e:∀m,n8 l 1 m=1:=λm=>by unfold n8;simp
   have:=(gY l kd n).1;rw[e];omega
  ·rw[sG,sG];have:=zPq l s kd 0 b c k;omega theorem zPq(l:List zX):∀(s:List Tm)(kd:Int)(i:Nat)(b c k:Int),rG l (lfL s kd i b c k)<=rG l s|[],_,_,_,_,_=>by rw[lfL];omega|t::s,kd,i,b,c,k=>by rw[lfL,rG,rG];have:=zUk l t (sP kd i b) c k;have:=zPq l s kd (i+1) b c k;omega end
theorem zUj(l:List zX):∀(s:List Tm)(f:Tm),sG l (tJ f s)=sG l f+rG l s+s.length
 |[],f=>by rw[tJ,rG];simp|a::s,f=>by
  have e:n8 l 5 0=1:=by unfold n8;simp
  rw[tJ,zUj l s,sG,rG,rG,rG,rG,e,List.length_cons];omega
theorem n9(l:List zX):∀t:Tm,xP t=true->sG l t=sG l (zZ t)+rG l (yW t)+(yW t).length:=by
 refine E1 ?_ ?_;·intro t hg hk;rw[qX hk,sJ hk,rG];simp
 ·intro n a b hg ha hb ih;have e:n8 l 5 n=1:=by unfold n8;simp
  rw[eC,mX,sG,rG,rG,rG,e,zCS,rG,rG,List.length_append,ih];simp;omega
theorem gZ(l:List zX)(t:Tm):sG l t=n8 l t.k t.n+rG l t.sub:=by cases t;rw[sG,Tm.k,Tm.n,Tm.sub]
def L8(b:Nat)(a:Int):Option (Tm):=zEc b 6 a []>>=λr1=>some r1
theorem R5{b a}:Cz (L8 b a) 130 [] [ai a] (λr=>yL r) (λ_=>[]) 0:=fw func130<|rC 0 [] zGQ λ_=>fE 1
def zPp(f:Nat)(M:wA)(b:yB)(c d a:Int)(e:Tm):Option (Tm×Int×Int×Int):=zFC f M e c d>>=λr1=>if a==0 then some (r1.1,r1.2.1,r1.2.2.1,r1.2.2.2)else some (r1.1,a,r1.2.2.1,r1.2.2.2)
theorem zYG{f M b c d a e}:Cz (zPp f M b c d a e) 196 [.cells [.mp 1 0,zC zP b .no,.mp 3 0,ai a],mB M 2,mR M,.cells [ai c,ai d]] [.mp 0 0,yL e] (λr=>yL r.1) (λr=>[.cells [.mp 1 0,zC zP b .no,.mp 3 0,ai r.2.1],mB M 2,mR M,.cells [ai r.2.2.1,ai r.2.2.2]]) 0:=fw func196<|rC 3 [1,2,3] zSH λ_=>rB 4 (fE 3)<|fE 2
def zHD(g:Nat)(M:wA)(a:yB)(d e b:Int)(f c:Tm):Option (Tm×Tm×Bool×Int×Int×Int):=if b !=0 then some (f,c,false,b,d,e)else zPp g M a d e b f>>=λr2=>if r2.2.1 !=0 then some (r2.1,c,false,r2.2.1,r2.2.2.1,r2.2.2.2)else zPp g M a r2.2.2.1 r2.2.2.2 r2.2.1 c>>=λr5=>some (r2.1,r5.1,(r5.2.1==0),r5.2.1,r5.2.2.1,r5.2.2.2)
theorem zYH{g M a d e b f c}:Cz (zHD g M a d e b f c) 139 [.cells [.mp 1 0,zC zP a .no,.mp 3 0,ai b],mB M 2,mR M,.cells [ai d,ai e]] [.mp 0 0,yL f,yL c] (λr=>.tup [yL r.1,yL r.2.1,ab r.2.2.1]) (λr=>[.cells [.mp 1 0,zC zP a .no,.mp 3 0,ai r.2.2.2.1],mB M 2,mR M,.cells [ai r.2.2.2.2.1,ai r.2.2.2.2.2]]) 0:=fw func139<|rB 1 (fE 4)<|rC 1 [0,1,2,3] zYG λ_=>rB 2 (fE 4)<|rC 1 [0,1,2,3] zYG λ_=>fE 7
def aX(c:Nat)(M:wA)(b:yB)(e f a:Int)(d:Tm):Option (Tm×Int):=if d.k==4 then zO d.sub 1>>=λx2=>some (x2,a)else zEa c d 1>>=λr4=>iU c 0>>=λr6=>kI c r4.1 r6>>=λr8=>if r4.2==0 then qV c r8>>=λr11=>if r11 then if a==0 then some (r8,r4.2)else some (r8,a)else if a==0 then some (r8,2)else some (r8,a)else if a==0 then some (r8,r4.2)else some (r8,a)
theorem zFH{c M b e f a d}:Cz (aX c M b e f a d) 197 [.cells [.mp 1 0,zC zP b .no,.mp 3 0,ai a],mB M 2,mR M,.cells [ai e,ai f]] [.mp 0 0,yL d] (λr=>yL r.1) (λr=>[.cells [.mp 1 0,zC zP b .no,.mp 3 0,ai r.2],mB M 2,mR M,.cells [ai e,ai f]]) 0:=fw func197<|rB 1 (rA 1 (xA (o:=.no)) λ_=>fE 2)<|rC 1 [] zNC λ_=>rC 4 [] kL λ_=>rC 0 [] nL λ_=>rB 1 (rK 1 [] pP (λ_=>rB 2 (fE 3)<|fE 2) λ_=>rB 2 (fE 3)<|fE 2)<|rB 1 (fE 3)<|fE 2
def zSL(a:Nat)(M:wA)(b:Tm):Option (Int×yA×Bool):=qV a b>>=λr1=>if r1 then e96 a b>>=λr4=>zLg a M r4>>=λr6=>some (r6.1,r6.2.1,r6.2.2)else some (0,[],false)
theorem yAZ{a M b}:Cz (zSL a M b) 253 [mB M 1,mR M] [.mp 0 0,yL b] (λr=>.tup [ai r.1,.sl (zH zA r.2.1) r.2.1.length .no,ab r.2.2]) (λ_=>[mB M 1,mR M]) 0:=fw func253<|rK 2 [] pP (λ_=>rC 2 [] c96 λ_=>rC 0 [0,1] zVR λ_=>fE 3) λ_=>fE 1
def zAm(f:Nat)(M:wA)(a:yB)(c d b:Int)(e:Tm):Option (Int×yA×Bool):=zSL f M e>>=λr1=>if r1.2.2 then zO a r1.1>>=λx4=>zO a x4.fam>>=λx6=>if(x6.fields.length:Int)==0 then some (0,[],false)else some (r1.1,r1.2.1,true)else some (0,[],false)
theorem zHE{f M a c d b e}:Cz (zAm f M a c d b e) 198 [.cells [.mp 1 0,zC zP a .no,.mp 3 0,ai b],mB M 2,mR M,.cells [ai c,ai d]] [.mp 0 0,yL e] (λr=>.tup [ai r.1,.sl (zH zA r.2.1) r.2.1.length .no,ab r.2.2]) (λ_=>[.cells [.mp 1 0,zC zP a .no,.mp 3 0,ai b],mB M 2,mR M,.cells [ai c,ai d]]) 0:=fw func198<|rC 2 [1,2] yAZ λ_=>rB 2 (rA 3 (xN (o:=.no)) λ_=>rA 1 (xN (o:=.no)) λ_=>rB 2 (fE 0)<|fE 0)<|fE 1
def zVW(c:Nat)(a b:Int):Option (Bool):=some (decide (a<=b))
theorem yBz{c a b}:Cz (zVW c a b) 339 [] [ai a,ai b] (λr=>ab r) (λ_=>[]) 0:=fw func339<|fE 1
def zVX(c:Nat)(a b:Int):Option (Bool):=some (a==b)
theorem yBy{c a b}:Cz (zVX c a b) 141 [] [ai a,ai b] (λr=>ab r) (λ_=>[]) 0:=fw func141<|fE 1
def zPo(c:Nat)(M:wA)(b:yB)(m n a:Int)(d:Tm)(e f:Int)(g:yA):Option (Tm×Int):=zAm c M b m n a d>>=λr1=>if r1.2.2 then if r1.1==e then zO r1.2.1 (yJ ((g.length:Int)+f))>>=λx5=>some (x5,a)else zO b e>>=λx7=>zO b x7.fam>>=λx9=>zO x9.fields f>>=λx11=>L8 c x11>>=λr13=>nM c r13 g>>=λr15=>kI c r15 d>>=λr17=>if a==0 then qV c r17>>=λr20=>if r20 then some (r17,a)else some (r17,2)else some (r17,a)else zO b e>>=λx23=>zO b x23.fam>>=λx25=>zO x25.fields f>>=λx27=>L8 c x27>>=λr29=>nM c r29 g>>=λr31=>kI c r31 d>>=λr33=>if a==0 then qV c r33>>=λr36=>if r36 then some (r33,a)else some (r33,2)else some (r33,a)
theorem zYI{c M b m n a d e f g}:Cz (zPo c M b m n a d e f g) 254 [.cells [.mp 1 0,zC zP b .no,.mp 3 0,ai a],mB M 2,mR M,.cells [ai m,ai n]] [.mp 0 0,yL d,ai e,ai f,zC zA g .no] (λr=>yL r.1) (λr=>[.cells [.mp 1 0,zC zP b .no,.mp 3 0,ai r.2],mB M 2,mR M,.cells [ai m,ai n]]) 0:=fw func254<|rC 1 [0,1,2,3] zHE λ_=>rB 2 (rB 0 (rA 2 (xA (o:=.no)) λ_=>fE 2)<|rA 2 (xN (o:=.no)) λ_=>rA 1 (xN (o:=.no)) λ_=>rA 1 (sS (o:=.no)) λ_=>rC 1 [] R5 λ_=>rC 0 [] oI λ_=>rC 1 [] nL λ_=>rB 2 (rK 1 [] pP (λ_=>fE 3) λ_=>fE 4)<|fE 2)<|rA 2 (xN (o:=.no)) λ_=>rA 1 (xN (o:=.no)) λ_=>rA 1 (sS (o:=.no)) λ_=>rC 1 [] R5 λ_=>rC 0 [] oI λ_=>rC 1 [] nL λ_=>rB 2 (rK 1 [] pP (λ_=>fE 3) λ_=>fE 4)<|fE 2
mutual def wX:Nat->yB->yB->sI->yH->yH->yB->Int->Int->Int->Tm->Tm->Option (Bool×Int×Int×Int)|0,_,_,_,_,_,_,_,_,_,_,_=>none|t+1,b,c,d,e,f,a,p,q,w,u,v=>zHD t (wA.mk b c d e f) a p q w u v>>=λr1=>if r1.2.2.1 then H4 t b c d e f a r1.2.2.2.2.1 r1.2.2.2.2.2 r1.2.2.2.1 r1.1 r1.2.1>>=λr4=>some (r4.1,r4.2.1,r4.2.2.1,r4.2.2.2)else some (false,r1.2.2.2.1,r1.2.2.2.2.1,r1.2.2.2.2.2)def H4:Nat->yB->yB->sI->yH->yH->yB->Int->Int->Int->Tm->Tm->Option (Bool×Int×Int×Int)
 |0,_,_,_,_,_,_,_,_,_,_,_=>none|t+1,b,c,d,e,f,a,p,q,w,u,v=>if u.k==4 then aX t (wA.mk b c d e f) a p q w u>>=λr2=>aX t (wA.mk b c d e f) a p q r2.2 v>>=λr4=>wX t b c d e f a p q r4.2 r2.1 r4.1>>=λr6=>some (r6.1,r6.2.1,r6.2.2.1,r6.2.2.2)else if v.k==4 then aX t (wA.mk b c d e f) a p q w u>>=λr9=>aX t (wA.mk b c d e f) a p q r9.2 v>>=λr11=>wX t b c d e f a p q r11.2 r9.1 r11.1>>=λr13=>some (r13.1,r13.2.1,r13.2.2.1,r13.2.2.2)else zAm t (wA.mk b c d e f) a p q w u>>=λr15=>if r15.2.2 then zAm t (wA.mk b c d e f) a p q w v>>=λr18=>if r18.2.2 then if r15.1 !=r18.1 then some (false,w,p,q)else zO a r15.1>>=λx22=>sN r15.2.1 0 x22.pars>>=λx24=>tN t b c d e f a p q w u v r15.1 x24>>=λr26=>some (r26.1,r26.2.1,r26.2.2.1,r26.2.2.2)else zO a r15.1>>=λx28=>sN r15.2.1 0 x28.pars>>=λx30=>tN t b c d e f a p q w u v r15.1 x30>>=λr32=>some (r32.1,r32.2.1,r32.2.2.1,r32.2.2.2)else zAm t (wA.mk b c d e f) a p q w v>>=λr34=>if r34.2.2 then zO a r34.1>>=λx37=>sN r34.2.1 0 x37.pars>>=λx39=>tN t b c d e f a p q w u v r34.1 x39>>=λr41=>some (r41.1,r41.2.1,r41.2.2.1,r41.2.2.2)else if u.k !=v.k then some (false,w,p,q)else if u.k==3 then zO u.sub 0>>=λx45=>zO v.sub 0>>=λx47=>wX t b c d e f a p q w x45 x47>>=λr49=>if r49.1 then zO u.sub 1>>=λx52=>zO v.sub 1>>=λx54=>wX t b c d e f a r49.2.2.1 r49.2.2.2 r49.2.1 x52 x54>>=λr56=>some (r56.1,r56.2.1,r56.2.2.1,r56.2.2.2)else some (false,r49.2.1,r49.2.2.1,r49.2.2.2)else if u.k==2 then zVX t u.n v.n>>=λr59=>some (r59,w,p,q)else kT t b c d e f a p q w u v>>=λr61=>some (r61.1,r61.2.1,r61.2.2.1,r61.2.2.2)def tN:Nat->yB->yB->sI->yH->yH->yB->Int->Int->Int->Tm->Tm->Int->yA->Option (Bool×Int×Int×Int)|0,_,_,_,_,_,_,_,_,_,_,_,_,_=>none|t+1,b,c,d,e,f,a,p,q,w,u,v,y,A=>zO a y>>=λx1=>zO a x1.fam>>=λx3=>tC t b c d e f a u v y A x3 0 w p q def tC:Nat->yB->yB->sI->yH->yH->yB->Tm->Tm->Int->yA->zX->Int->Int->Int->Int->Option (Bool×Int×Int×Int)
 |0,_,_,_,_,_,_,_,_,_,_,_,_,_,_,_=>none|t+1,b,c,d,e,f,a,u,v,y,A,x3,z,s,g,m=>if decide (z<(x3.fields.length:Int))then zPo t (wA.mk b c d e f) a g m s u y z A>>=λr6=>zPo t (wA.mk b c d e f) a g m r6.2 v y z A>>=λr8=>wX t b c d e f a g m r8.2 r6.1 r8.1>>=λr10=>if r10.1 then tC t b c d e f a u v y A x3 (yJ (z+1)) r10.2.1 r10.2.2.1 r10.2.2.2 else some (false,r10.2.1,r10.2.2.1,r10.2.2.2)else some (true,s,g,m)def kT:Nat->yB->yB->sI->yH->yH->yB->Int->Int->Int->Tm->Tm->Option (Bool×Int×Int×Int)
 |0,_,_,_,_,_,_,_,_,_,_,_=>none|t+1,b,c,d,e,f,a,p,q,w,u,v=>E0 t u>>=λr1=>E0 t v>>=λr3=>if r1.1.k !=r3.1.k then some (false,w,p,q)else if r1.1.n !=r3.1.n then some (false,w,p,q)else if(r1.2.length:Int)!=(r3.2.length:Int)then some (false,w,p,q)else if r1.1.k==7 then zO r1.1.sub 0>>=λx9=>zO r3.1.sub 0>>=λx11=>if x9.n !=x11.n then some (false,w,p,q)else if r1.1.k==3 then wX t b c d e f a p q w x9 x11>>=λr15=>if r15.1 then zO r1.1.sub 1>>=λx18=>zO r3.1.sub 1>>=λx20=>wX t b c d e f a r15.2.2.1 r15.2.2.2 r15.2.1 x18 x20>>=λr22=>if r22.1 then wQ t b c d e f a r1 r3 0 r22.2.1 r22.2.2.1 r22.2.2.2 else some (false,r22.2.1,r22.2.2.1,r22.2.2.2)else some (false,r15.2.1,r15.2.2.1,r15.2.2.2)else wQ t b c d e f a r1 r3 0 w p q else if r1.1.k==3 then zO r1.1.sub 0>>=λx26=>zO r3.1.sub 0>>=λx28=>wX t b c d e f a p q w x26 x28>>=λr30=>if r30.1 then zO r1.1.sub 1>>=λx33=>zO r3.1.sub 1>>=λx35=>wX t b c d e f a r30.2.2.1 r30.2.2.2 r30.2.1 x33 x35>>=λr37=>if r37.1 then wQ t b c d e f a r1 r3 0 r37.2.1 r37.2.2.1 r37.2.2.2 else some (false,r37.2.1,r37.2.2.1,r37.2.2.2)else some (false,r30.2.1,r30.2.2.1,r30.2.2.2)else wQ t b c d e f a r1 r3 0 w p q def wQ:Nat->yB->yB->sI->yH->yH->yB->(Tm×yA)->(Tm×yA)->Int->Int->Int->Int->Option (Bool×Int×Int×Int)
 |0,_,_,_,_,_,_,_,_,_,_,_,_=>none|t+1,b,c,d,e,f,a,r1,r3,i,s,g,m=>if decide (i<(r1.2.length:Int))then zO r1.2 i>>=λx26=>zO r3.2 i>>=λx28=>wX t b c d e f a g m s x26 x28>>=λr30=>if r30.1 then wQ t b c d e f a r1 r3 (yJ (i+1)) r30.2.1 r30.2.2.1 r30.2.2.2 else some (false,r30.2.1,r30.2.2.1,r30.2.2.2)else some (true,s,g,m)end
theorem xE:∀t:Nat,(∀b c d e f a p q w u v,Cz (wX t b c d e f a p q w u v) 71 [.cells [.mp 1 0,zC zP a .no,.mp 3 0,ai w],qB b 2 e f,qR c d,.cells [ai p,ai q]] [.mp 0 0,yL u,yL v] (λr=>ab r.1) (λr=>[.cells [.mp 1 0,zC zP a .no,.mp 3 0,ai r.2.1],qB b 2 e f,qR c d,.cells [ai r.2.2.1,ai r.2.2.2]]) 0)/\(∀b c d e f a p q w u v,Cz (H4 t b c d e f a p q w u v) 140 [.cells [.mp 1 0,zC zP a .no,.mp 3 0,ai w],qB b 2 e f,qR c d,.cells [ai p,ai q]] [.mp 0 0,yL u,yL v,.agg [.clo 141 [] [],.clo 71 [.mp 0 0] []]] (λr=>ab r.1) (λr=>[.cells [.mp 1 0,zC zP a .no,.mp 3 0,ai r.2.1],qB b 2 e f,qR c d,.cells [ai r.2.2.1,ai r.2.2.2]]) 0)/\(∀b c d e f a p q w u v y A,Cz (tN t b c d e f a p q w u v y A) 199 [.cells [.mp 1 0,zC zP a .no,.mp 3 0,ai w],qB b 2 e f,qR c d,.cells [ai p,ai q]] [.mp 0 0,yL u,yL v,ai y,zC zA A .no] (λr=>ab r.1) (λr=>[.cells [.mp 1 0,zC zP a .no,.mp 3 0,ai r.2.1],qB b 2 e f,qR c d,.cells [ai r.2.2.1,ai r.2.2.2]]) 0)/\(∀b c d e f a u v y A x3 z s g m,Lz (tC t b c d e f a u v y A x3 z s g m) 4 f199 (pt 949 f199) (λj=>sp j 47 0 [(0,.mp 0 0),(3,ai y),(4,zC zA A .no),(6,.mp 4 0),(7,.mp 5 0),(27,ai (x3.fields.length:Int)),(28,ai z)]) ⟨[(0,.cells [.mp 1 0,zC zP a .no,.mp 3 0,ai s]),(1,qB b 2 e f),(2,qR c d),(3,.cells [ai g,ai m]),(4,.cells [ai u.k,ai u.n,zC zA u.sub .no]),(5,.cells [ai v.k,ai v.n,zC zA v.sub .no])],6,[],0,[]⟩ (λr=>ab r.1) (λr=>[.cells [.mp 1 0,zC zP a .no,.mp 3 0,ai r.2.1],qB b 2 e f,qR c d,.cells [ai r.2.2.1,ai r.2.2.2]]) 0 [.blk 0,.seq (pt 15 f199)])/\(∀b c d e f a p q w u v,Cz (kT t b c d e f a p q w u v) 200 [.cells [.mp 1 0,zC zP a .no,.mp 3 0,ai w],qB b 2 e f,qR c d,.cells [ai p,ai q]] [.mp 0 0,yL u,yL v] (λr=>ab r.1) (λr=>[.cells [.mp 1 0,zC zP a .no,.mp 3 0,ai r.2.1],qB b 2 e f,qR c d,.cells [ai r.2.2.1,ai r.2.2.2]]) 0)/\(∀b c d e f a r1 r3 i s g m,Lz (wQ t b c d e f a r1 r3 i s g m) 4 f200 (pt 262069 f200) (λj=>sp j 104 0 [(0,.mp 0 0),(8,zC zA r1.2 .no),(10,zC zA r3.2 .no),(88,ai (r1.2.length:Int)),(89,ai i)]) ⟨[(0,.cells [.mp 1 0,zC zP a .no,.mp 3 0,ai s]),(1,qB b 2 e f),(2,qR c d),(3,.cells [ai g,ai m])],4,[],0,[]⟩ (λr=>ab r.1) (λr=>[.cells [.mp 1 0,zC zP a .no,.mp 3 0,ai r.2.1],qB b 2 e f,qR c d,.cells [ai r.2.2.1,ai r.2.2.2]]) 0 [.blk 0,.seq (pt 4095 f200)]):=xF ⟨λ_ _ _ _ _ _ _ _ _ _ _=>cN,λ_ _ _ _ _ _ _ _ _ _ _=>cN,λ_ _ _ _ _ _ _ _ _ _ _ _ _=>cN,λ_ _ _ _ _ _ _ _ _ _ _ _ _ _ _=>lN,λ_ _ _ _ _ _ _ _ _ _ _=>cN,λ_ _ _ _ _ _ _ _ _ _ _ _=>lN⟩ λt ih=>⟨λb c d e f a p q w u v=>fw func71<|rC 2 [0,1,2,3] zYH λ_=>rB 2 (rC 4 [0,1,2,3] (ih.2.1 _ _ _ _ _ _ _ _ _ _ _) λ_=>fE 0)<|fE 2,λb c d e f a p q w u v=>fw func140<|rB 1 (rC 1 [0,1,2,3] zFH λ_=>rC 1 [0,1,2,3] zFH λ_=>rC 0 [0,1,2,3] (ih.1 _ _ _ _ _ _ _ _ _ _ _) λ_=>fE 0)<|rB 1 (rC 1 [0,1,2,3] zFH λ_=>rC 1 [0,1,2,3] zFH λ_=>rC 0 [0,1,2,3] (ih.1 _ _ _ _ _ _ _ _ _ _ _) λ_=>fE 0)<|rC 1 [0,1,2,3] zHE λ_=>rB 2 (rC 1 [0,1,2,3] zHE λ_=>rB 2 (rB 0 (fE 0)<|rA 3 (xN (o:=.no)) λ_=>rA 1 rM λ_=>rC 0 [0,1,2,3] (ih.2.2.1 _ _ _ _ _ _ _ _ _ _ _ _ _) λ_=>fE 0)<|rA 3 (xN (o:=.no)) λ_=>rA 1 rM λ_=>rC 0 [0,1,2,3] (ih.2.2.1 _ _ _ _ _ _ _ _ _ _ _ _ _) λ_=>fE 0)<|rC 1 [0,1,2,3] zHE λ_=>rB 2 (rA 3 (xN (o:=.no)) λ_=>rA 1 rM λ_=>rC 0 [0,1,2,3] (ih.2.2.1 _ _ _ _ _ _ _ _ _ _ _ _ _) λ_=>fE 0)<|rB 2 (fE 0)<|rB 1 (rA 1 (xA (o:=.no)) λ_=>rA 2 (xA (o:=.no)) λ_=>rK 1 [0,1,2,3] (ih.1 _ _ _ _ _ _ _ _ _ _ _) (λ_=>rA 2 (xA (o:=.no)) λ_=>rA 2 (xA (o:=.no)) λ_=>rC 1 [0,1,2,3] (ih.1 _ _ _ _ _ _ _ _ _ _ _) λ_=>fE 0) λ_=>fE 0)<|rB 1 (rC 3 [] yBy λ_=>fE 0)<|rC 2 [0,1,2,3] (ih.2.2.2.2.1 _ _ _ _ _ _ _ _ _ _ _) λ_=>fE 0,λb c d e f a p q w u v y A=>fw func199<|rA 2 (xN (o:=.no)) λ_=>rA 1 (xN (o:=.no)) λ_=>fH 2 [] [0,1,2,3,4,5] [] [0,3,4,6,7,27,28] (ih.2.2.2.1 _ _ _ _ _ _ _ _ _ _ _ _ _ _ _),λb c d e f a u v y A x3 z s g m=>lw λ_=>rB 0 (rC 1 [0,1,2,3] zYI λ_=>rC 1 [0,1,2,3] zYI λ_=>rK 0 [0,1,2,3] (ih.1 _ _ _ _ _ _ _ _ _ _ _) (λ_=>lH 2 [] [0,1,2,3,4,5] [] [0,3,4,6,7,27,28] (ih.2.2.2.1 _ _ _ _ _ _ _ _ _ _ _ _ _ _ _)) λ_=>lE 1)<|lE 0,λb c d e f a p q w u v=>fw func200<|rC 1 [] zGP λ_=>rC 4 [] zGP λ_=>rB 5 (fE 0)<|rB 2 (fE 0)<|rB 2 (fE 0)<|rB 1 (rH λ_ h10=>rS (oA 1 (xA (o:=.no) h10))<|rH λ_ h12=>rS (oA 2 (xA (o:=.no) h12))<|rB 1 (fE 0)<|rB 1 (rS (oA 1 (xA (o:=.no) h10))<|rS (oA 2 (xA (o:=.no) h12))<|rK 1 [0,1,2,3] (ih.1 _ _ _ _ _ _ _ _ _ _ _) (λ_=>rA 1 (xA (o:=.no)) λ_=>rA 2 (xA (o:=.no)) λ_=>rK 1 [0,1,2,3] (ih.1 _ _ _ _ _ _ _ _ _ _ _) (λ_=>fH 2 [] [0,1,2,3] [] [0,8,10,88,89] (ih.2.2.2.2.2 _ _ _ _ _ _ _ _ _ _ _ _)) λ_=>fE 1) λ_=>fE 1)<|fH 1 [] [0,1,2,3] [] [0,8,10,88,89] (ih.2.2.2.2.2 _ _ _ _ _ _ _ _ _ _ _ _))<|rB 1 (rA 1 (xA (o:=.no)) λ_=>rA 2 (xA (o:=.no)) λ_=>rK 1 [0,1,2,3] (ih.1 _ _ _ _ _ _ _ _ _ _ _) (λ_=>rA 1 (xA (o:=.no)) λ_=>rA 2 (xA (o:=.no)) λ_=>rK 1 [0,1,2,3] (ih.1 _ _ _ _ _ _ _ _ _ _ _) (λ_=>fH 2 [] [0,1,2,3] [] [0,8,10,88,89] (ih.2.2.2.2.2 _ _ _ _ _ _ _ _ _ _ _ _)) λ_=>fE 1) λ_=>fE 1)<|fH 1 [] [0,1,2,3] [] [0,8,10,88,89] (ih.2.2.2.2.2 _ _ _ _ _ _ _ _ _ _ _ _),λb c d e f a r1 r3 i s g m=>lw λ_=>rB 0 (rA 0 (xA (o:=.no)) λ_=>rA 1 (xA (o:=.no)) λ_=>rK 1 [0,1,2,3] (ih.1 _ _ _ _ _ _ _ _ _ _ _) (λ_=>lH 2 [] [0,1,2,3] [] [0,8,10,88,89] (ih.2.2.2.2.2 _ _ _ _ _ _ _ _ _ _ _ _)) λ_=>lE 1)<|lE 0⟩
theorem T6{t b c d e f a p q w u v}:Cz (wX t b c d e f a p q w u v) 71 [.cells [.mp 1 0,zC zP a .no,.mp 3 0,ai w],qB b 2 e f,qR c d,.cells [ai p,ai q]] [.mp 0 0,yL u,yL v] (λr=>ab r.1) (λr=>[.cells [.mp 1 0,zC zP a .no,.mp 3 0,ai r.2.1],qB b 2 e f,qR c d,.cells [ai r.2.2.1,ai r.2.2.2]]) 0:=(xE _).1 _ _ _ _ _ _ _ _ _ _ _
theorem m3{t b c d e f a p q w u v y A}:Cz (tN t b c d e f a p q w u v y A) 199 [.cells [.mp 1 0,zC zP a .no,.mp 3 0,ai w],qB b 2 e f,qR c d,.cells [ai p,ai q]] [.mp 0 0,yL u,yL v,ai y,zC zA A .no] (λr=>ab r.1) (λr=>[.cells [.mp 1 0,zC zP a .no,.mp 3 0,ai r.2.1],qB b 2 e f,qR c d,.cells [ai r.2.2.1,ai r.2.2.2]]) 0:=(xE _).2.2.1 _ _ _ _ _ _ _ _ _ _ _ _ _
theorem zPn{t b c d e f a p q w u v}:Cz (kT t b c d e f a p q w u v) 200 [.cells [.mp 1 0,zC zP a .no,.mp 3 0,ai w],qB b 2 e f,qR c d,.cells [ai p,ai q]] [.mp 0 0,yL u,yL v] (λr=>ab r.1) (λr=>[.cells [.mp 1 0,zC zP a .no,.mp 3 0,ai r.2.1],qB b 2 e f,qR c d,.cells [ai r.2.2.1,ai r.2.2.2]]) 0:=(xE _).2.2.2.2.1 _ _ _ _ _ _ _ _ _ _ _
mutual def H5:Nat->yB->yB->sI->yH->yH->yB->Int->Int->Int->Tm->Tm->Option (Bool×Int×Int×Int)
 |0,_,_,_,_,_,_,_,_,_,_,_=>none|t+1,b,c,d,e,f,a,g,m,q,p,s=>if p.k==4 then aX t (wA.mk b c d e f) a g m q p>>=λr2=>aX t (wA.mk b c d e f) a g m r2.2 s>>=λr4=>wX t b c d e f a g m r4.2 r2.1 r4.1>>=λr6=>some (r6.1,r6.2.1,r6.2.2.1,r6.2.2.2)else if s.k==4 then aX t (wA.mk b c d e f) a g m q p>>=λr9=>aX t (wA.mk b c d e f) a g m r9.2 s>>=λr11=>wX t b c d e f a g m r11.2 r9.1 r11.1>>=λr13=>some (r13.1,r13.2.1,r13.2.2.1,r13.2.2.2)else zAm t (wA.mk b c d e f) a g m q p>>=λr15=>if r15.2.2 then zAm t (wA.mk b c d e f) a g m q s>>=λr18=>if r18.2.2 then if r15.1 !=r18.1 then some (false,q,g,m)else zO a r15.1>>=λx22=>sN r15.2.1 0 x22.pars>>=λx24=>tN t b c d e f a g m q p s r15.1 x24>>=λr26=>some (r26.1,r26.2.1,r26.2.2.1,r26.2.2.2)else zO a r15.1>>=λx28=>sN r15.2.1 0 x28.pars>>=λx30=>tN t b c d e f a g m q p s r15.1 x30>>=λr32=>some (r32.1,r32.2.1,r32.2.2.1,r32.2.2.2)else zAm t (wA.mk b c d e f) a g m q s>>=λr34=>if r34.2.2 then zO a r34.1>>=λx37=>sN r34.2.1 0 x37.pars>>=λx39=>tN t b c d e f a g m q p s r34.1 x39>>=λr41=>some (r41.1,r41.2.1,r41.2.2.1,r41.2.2.2)else if p.k !=s.k then some (false,q,g,m)else if p.k==3 then zO p.sub 0>>=λx45=>zO s.sub 0>>=λx47=>wX t b c d e f a g m q x45 x47>>=λr49=>if r49.1 then zO p.sub 1>>=λx52=>zO s.sub 1>>=λx54=>oV t b c d e f a r49.2.2.1 r49.2.2.2 r49.2.1 x52 x54>>=λr56=>some (r56.1,r56.2.1,r56.2.2.1,r56.2.2.2)else some (false,r49.2.1,r49.2.2.1,r49.2.2.2)else if p.k==2 then zVW t p.n s.n>>=λr59=>some (r59,q,g,m)else kT t b c d e f a g m q p s>>=λr61=>some (r61.1,r61.2.1,r61.2.2.1,r61.2.2.2)def oV:Nat->yB->yB->sI->yH->yH->yB->Int->Int->Int->Tm->Tm->Option (Bool×Int×Int×Int)
 |0,_,_,_,_,_,_,_,_,_,_,_=>none|t+1,b,c,d,e,f,a,g,m,q,p,s=>zHD t (wA.mk b c d e f) a g m q p s>>=λr1=>if r1.2.2.1 then H5 t b c d e f a r1.2.2.2.2.1 r1.2.2.2.2.2 r1.2.2.2.1 r1.1 r1.2.1>>=λr4=>some (r4.1,r4.2.1,r4.2.2.1,r4.2.2.2)else some (false,r1.2.2.2.1,r1.2.2.2.2.1,r1.2.2.2.2.2)end
theorem L9:∀t:Nat,(∀b c d e f a g m q p s,Cz (H5 t b c d e f a g m q p s) 140 [.cells [.mp 1 0,zC zP a .no,.mp 3 0,ai q],qB b 2 e f,qR c d,.cells [ai g,ai m]] [.mp 0 0,yL p,yL s,.agg [.clo 339 [] [],.clo 324 [.mp 0 0] []]] (λr=>ab r.1) (λr=>[.cells [.mp 1 0,zC zP a .no,.mp 3 0,ai r.2.1],qB b 2 e f,qR c d,.cells [ai r.2.2.1,ai r.2.2.2]]) 0)/\(∀b c d e f a g m q p s,Cz (oV t b c d e f a g m q p s) 324 [.cells [.mp 1 0,zC zP a .no,.mp 3 0,ai q],qB b 2 e f,qR c d,.cells [ai g,ai m]] [.mp 0 0,yL p,yL s] (λr=>ab r.1) (λr=>[.cells [.mp 1 0,zC zP a .no,.mp 3 0,ai r.2.1],qB b 2 e f,qR c d,.cells [ai r.2.2.1,ai r.2.2.2]]) 0):=xF ⟨λ_ _ _ _ _ _ _ _ _ _ _=>cN,λ_ _ _ _ _ _ _ _ _ _ _=>cN⟩ λt ih=>⟨λb c d e f a g m q p s=>fw func140<|rB 1 (rC 1 [0,1,2,3] zFH λ_=>rC 1 [0,1,2,3] zFH λ_=>rC 0 [0,1,2,3] T6 λ_=>fE 0)<|rB 1 (rC 1 [0,1,2,3] zFH λ_=>rC 1 [0,1,2,3] zFH λ_=>rC 0 [0,1,2,3] T6 λ_=>fE 0)<|rC 1 [0,1,2,3] zHE λ_=>rB 2 (rC 1 [0,1,2,3] zHE λ_=>rB 2 (rB 0 (fE 0)<|rA 3 (xN (o:=.no)) λ_=>rA 1 rM λ_=>rC 0 [0,1,2,3] m3 λ_=>fE 0)<|rA 3 (xN (o:=.no)) λ_=>rA 1 rM λ_=>rC 0 [0,1,2,3] m3 λ_=>fE 0)<|rC 1 [0,1,2,3] zHE λ_=>rB 2 (rA 3 (xN (o:=.no)) λ_=>rA 1 rM λ_=>rC 0 [0,1,2,3] m3 λ_=>fE 0)<|rB 2 (fE 0)<|rB 1 (rA 1 (xA (o:=.no)) λ_=>rA 2 (xA (o:=.no)) λ_=>rK 1 [0,1,2,3] T6 (λ_=>rA 2 (xA (o:=.no)) λ_=>rA 2 (xA (o:=.no)) λ_=>rC 1 [0,1,2,3] (ih.2 _ _ _ _ _ _ _ _ _ _ _) λ_=>fE 0) λ_=>fE 0)<|rB 1 (rC 3 [] yBz λ_=>fE 0)<|rC 2 [0,1,2,3] zPn λ_=>fE 0,λb c d e f a g m q p s=>fw func324<|rC 2 [0,1,2,3] zYH λ_=>rB 2 (rC 4 [0,1,2,3] (ih.1 _ _ _ _ _ _ _ _ _ _ _) λ_=>fE 0)<|fE 2⟩
theorem zPm{t b c d e f a g m q p s}:Cz (oV t b c d e f a g m q p s) 324 [.cells [.mp 1 0,zC zP a .no,.mp 3 0,ai q],qB b 2 e f,qR c d,.cells [ai g,ai m]] [.mp 0 0,yL p,yL s] (λr=>ab r.1) (λr=>[.cells [.mp 1 0,zC zP a .no,.mp 3 0,ai r.2.1],qB b 2 e f,qR c d,.cells [ai r.2.2.1,ai r.2.2.2]]) 0:=(L9 _).2 _ _ _ _ _ _ _ _ _ _ _
def zCT(r:Bool×Int×Int×Int):Int:=if r.1=true then 9 else r.2.1
theorem M0{r:Bool×Int×Int×Int}(h:zCT r=8):r.1=false/\r.2.1=8:=by
 unfold zCT at h;split at h;·omega
 ·rename_i h1;exact⟨by simpa using h1,h⟩
def R6(l:List zX)(m:Bool)(L U e:Int)(q:Nat)(x y:Tm):Option (Bool×Int×Int×Int):=match m with|false=>wX q l l (mJ l l.length 0) (l.map xZ) (l.map tW) l L U e x y|true=>oV q l l (mJ l l.length 0) (l.map xZ) (l.map tW) l L U e x y
def zLA(l:List zX)(m:Bool)(L U e:Int)(q:Nat)(x y:Tm):Option (Bool×Int×Int×Int):=match m with|false=>H4 q l l (mJ l l.length 0) (l.map xZ) (l.map tW) l L U e x y|true=>H5 q l l (mJ l l.length 0) (l.map xZ) (l.map tW) l L U e x y
def QX(X:Bool->Int->Prop)(R:Int->Int->Bool×Int×Int×Int)(k:Int):Prop:=∃b e,e≠8/\(e=0->X b k)/\(e≠0->b=false/\∀b k,¬X b k)/\R=λL U=>(b,e,L,U)
def HX(g:Int->Int->Nat->Option (Bool×Int×Int×Int))(X:Bool->Int->Prop)(f:Int):Prop:=Ou g zCT (QX X) (∀b k,X b k->f<k) f
def HC(l:List zX)(m:Bool)(x y:Tm)(f:Int):Prop:=HX (λL U q=>R6 l m L U 0 q x y) (Cv l m x y) f
theorem mL{X:Bool->Int->Prop}{e k:Int}(h8:e≠8)(h0:e≠0)(h:∀b k,¬X b k):QX X (λL U=>(false,e,L,U)) k:=⟨false,e,h8,λh=>absurd h h0,λ_=>⟨rfl,h⟩,rfl⟩
theorem zBh{X:Bool->Int->Prop}{b:Bool}{k:Int}(h:X b k):QX X (λL U=>(b,0,L,U)) k:=⟨b,0,by decide,λ_=>h,λh=>absurd rfl h,rfl⟩
theorem zFI(l:List zX)(m:Bool)(x y:Tm)(e:Int)(he:e≠0)(L U:Int):zB (λq=>R6 l m L U e q x y) (false,e,L,U):=by
 have hp:zB (λq=>zHD q (wA.mk l l (mJ l l.length 0) (l.map xZ) (l.map tW)) l L U e x y) (x,y,false,e,L,U):=by simp only[zHD];exact zB.ifT (by simpa using he) zB.ret
 cases m with|false=>refine zB.succ ?_;simp only[R6,wX];exact hp.bind (zB.ifF rfl zB.ret)|true=>refine zB.succ ?_;simp only[R6,oV];exact hp.bind (zB.ifF rfl zB.ret)
theorem wW.one{C:Tm->Tm->Bool->Int->Prop}{p:PE}{b:Bool}{k:Int}:wW C [p] b k↔p.1.2=0/\p.2.2=0/\C p.1.1 p.2.1 b k:=by
 constructor
 ·rintro⟨h1,h2,b1,k1,h3,⟨rfl,rfl,rfl⟩|⟨rfl,k2,⟨rfl,rfl⟩,rfl⟩⟩;·exact⟨h1,h2,h3⟩
  ·exact⟨h1,h2,by rwa[Int.add_zero]⟩
 ·rintro⟨h1,h2,h3⟩;refine⟨h1,h2,b,k,h3,?_⟩;cases b with|false=>exact .inl ⟨rfl,rfl,rfl⟩|true=>exact .inr ⟨rfl,0,⟨rfl,rfl⟩,by omega⟩
theorem H6{l:List zX}{p:PE}{r:List PE}{f:Int}{g:Int->Int->Nat->Option (Bool×Int×Int×Int)}{c:Int->Int->Int->Nat->Option (Bool×Int×Int×Int)}(h1:HX g (wW (Cv l false) [p]) f)(hc:∀k,0<=k->k<=f->HX (λL U q=>c 0 L U q) (wW (Cv l false) r) (f-k)):HX (λL U q=>g L U q>>=λr30=>if r30.1=true then c r30.2.1 r30.2.2.1 r30.2.2.2 q else some (false,r30.2.1,r30.2.2.1,r30.2.2.2)) (wW (Cv l false) (p::r)) f:=by
 refine Ou.bind h1 (λh b k ha=>?_) (λr hr=>?_) ?_
 ·obtain⟨a1,a2,b1,k1,a3,a4⟩:=ha;have:=h b1 k1 (wW.one.2 ⟨a1,a2,a3⟩);rcases a4 with⟨-,-,a4⟩|⟨-,k2,a4,a5⟩;·omega
  ·have:=wW.nn (λ_ _ _ _ h=>Cv.nn h) a4;omega
 ·have:=M0 hr;refine⟨_,zB.ifF this.1 zB.ret,?_⟩;unfold zCT;rw[if_neg (by simp)];exact this.2
 ·rintro R k k0 k1⟨b1,e1,h8,h0,hn,rfl⟩;dsimp only;by_cases e0:e1=0
  ·subst e0;obtain⟨a1,a2,a3⟩:=wW.one.1 (h0 rfl);cases b1 with|false=>exact Ou.ifF rfl (Ou.ret (by omega) (zBh ⟨a1,a2,false,k,a3,.inl ⟨rfl,rfl,by omega⟩⟩))|true=>
   refine Ou.ifT rfl ((hc k k0 k1).mono ?_ λh b k' ha=>?_)
   ·rintro R n _ _⟨b,e,g8,g0,gn,rfl⟩;refine⟨b,e,g8,λhe=>⟨a1,a2,true,k,a3,.inr ⟨rfl,n,g0 he,rfl⟩⟩,λhe=>⟨(gn he).1,λb' k' ha=>?_⟩,rfl⟩;obtain⟨-,-,b1,k1,a4,a5⟩:=ha;obtain⟨rfl,rfl⟩:=a3.det a4;rcases a5 with⟨a5,-⟩|⟨-,k2,a5,-⟩;·cases a5
    ·exact(gn he).2 _ _ a5
   ·obtain⟨-,-,b1,k1,a4,a5⟩:=ha;obtain⟨rfl,rfl⟩:=a3.det a4;rcases a5 with⟨a5,-⟩|⟨-,k2,a5,a6⟩;·cases a5
    ·have:=h _ _ a5;omega
  ·obtain⟨rfl,hno⟩:=hn e0;refine Ou.ifF rfl (Ou.ret (by omega) (mL h8 e0 λb k ha=>?_));obtain⟨a1,a2,b1,k1,a3,-⟩:=ha;exact hno b1 k1 (wW.one.2 ⟨a1,a2,a3⟩)
theorem zCU{l:List zX}{p q:Tm×Int}{f:Int}(hf:0<=f)(h8:p.2≠8/\q.2≠8)(h:p.2=0->q.2=0->HC l false p.1 q.1 f):HX (λL U n=>R6 l false L U (if p.2=0 then q.2 else p.2) n p.1 q.1) (wW (Cv l false) [(p,q)]) f:=by
 by_cases h1:p.2=0
 ·rw[if_pos h1];by_cases h2:q.2=0
  ·rw[h2];refine(h h1 h2).mono ?_ λhs b k ha=>hs b k (wW.one.1 ha).2.2;rintro R n _ _⟨b,e,g8,g0,gn,rfl⟩;exact⟨b,e,g8,λhe=>wW.one.2 ⟨h1,h2,g0 he⟩,λhe=>⟨(gn he).1,λb k ha=>(gn he).2 b k (wW.one.1 ha).2.2⟩,rfl⟩
  ·exact Ou.evt0 (λL U=>zFI l false p.1 q.1 q.2 h2 L U) hf (mL h8.2 h2 λb k ha=>h2 (wW.one.1 ha).2.1)
 ·rw[if_neg h1];exact Ou.evt0 (λL U=>zFI l false p.1 q.1 p.2 h1 L U) hf (mL h8.1 h1 λb k ha=>h1 (wW.one.1 ha).1)
theorem M1{l:List zX}{a b:Tm}{f:Int}(h:HC l false a b f):HX (λL U n=>R6 l false L U 0 n a b) (wW (Cv l false) [((a,0),(b,0))]) f:=by refine h.mono ?_ λhs b k ha=>hs b k (wW.one.1 ha).2.2;rintro R n _ _⟨b,e,g8,g0,gn,rfl⟩;exact⟨b,e,g8,λhe=>wW.one.2 ⟨rfl,rfl,g0 he⟩,λhe=>⟨(gn he).1,λb k ha=>(gn he).2 b k (wW.one.1 ha).2.2⟩,rfl⟩
theorem zJk{l:List zX}{f:Int}(hf:0<=f):HX (λL U _=>some (true,0,L,U)) (wW (Cv l false) []) f:=Ou.ret hf (zBh ⟨rfl,rfl⟩)
theorem T7(t:Tm):(uY t).2≠8:=by
 unfold uY;split;·simp
 ·dsimp only;split;·split<;>simp
  ·exact t8 t 1 0
theorem T8{t:Tm}(hs:zJ t=true):(uY t).1.Ok:=by
 unfold uY;split
 ·rename_i h;obtain⟨a,b,hab,-,hb⟩:=vM (zK hs).2.2 (.inr (.inl h));rw[hab];exact wR b hb
 ·exact rO (gQ t 1 0 (yQ hs)) (yZ _ _)
theorem zYJ{t:Tm}(h:t.k=4):uY t=(vO t.sub 1,0):=if_pos h
theorem zYK{t:Tm}(h:t.k≠4):uY t=(.mk 5 0 [(vU t 1 0).1,.mk 1 0 []],if(vU t 1 0).2=0 then(if zJ (.mk 5 0 [(vU t 1 0).1,.mk 1 0 []])=true then 0 else 2)else(vU t 1 0).2):=if_neg h
theorem dO(M:wA)(l:List zX)(t:Tm)(hs:zJ t=true)(L U e:Int):zB (λq=>aX q M l L U e t) ((uY t).1,if e=0 then(uY t).2 else e):=by
 simp only[aX];by_cases h4:t.k=4
 ·obtain⟨a,b,hab,-,-⟩:=vM (zK hs).2.2 (.inr (.inl h4));refine zB.ifT (by simp[h4]) (zB.pure (uB (by omega) (by rw[hab];simp)) (zB.ret.eq ?_));rw[zYJ h4];by_cases he:e=0;·simp[he]
  ·simp[he]
 ·rw[zYK h4];refine zB.ifF (by simp[h4]) ((zEB t 1 (yQ hs)).bind ((sU 0).bind ((qY _ _).bind ?_)));dsimp only;by_cases h1:(vU t 1 0).2=0
  ·refine zB.ifT (by simp[h1]) ((xR _ (rO (gQ t 1 0 (yQ hs)) (yZ _ _))).bind ?_);by_cases h2:zJ (.mk 5 0 [(vU t 1 0).1,.mk 1 0 []])=true
   ·refine zB.ifT h2 ?_;by_cases he:e=0;·exact zB.ifT (by simp[he]) (zB.ret.eq (by simp[h1,h2,he]))
    ·exact zB.ifF (by simp[he]) (zB.ret.eq (by simp[he]))
   ·refine zB.ifF (by simpa using h2) ?_;by_cases he:e=0;·exact zB.ifT (by simp[he]) (zB.ret.eq (by simp[h1,h2,he]))
    ·exact zB.ifF (by simp[he]) (zB.ret.eq (by simp[he]))
  ·refine zB.ifF (by simp[h1]) ?_;by_cases he:e=0;·exact zB.ifT (by simp[he]) (zB.ret.eq (by simp[h1,he]))
   ·exact zB.ifF (by simp[he]) (zB.ret.eq (by simp[he]))
def iW(l:List zX)(t:Tm):Int×List Tm×Bool:=if xT l t then((zZ t).n,yW t,true)else(0,[],false)
theorem zVY(l:List zX)(t:Tm)(hs:zJ t=true):zB (λq=>zSL q (wF l) t) (zCM l t):=by simp only[zSL];refine(xR t (yQ hs)).bind (zB.ifT hs (((nN t (yQ hs)).eq (by unfold kJ;rw[if_pos hs])).bind ((zCN l t hs).bind zB.ret)))
theorem pR{N:ByteArray->Bool}(l:List zX)(hE:wP N l)(t:Tm)(hs:zJ t=true)(L U e:Int):zB (λq=>zAm q (wF l) l L U e t) (iW l t):=by
 simp only[zAm];refine(zVY l t hs).bind ?_;by_cases h:tM l t
 ·have hcs:=sD hs h;obtain⟨A,z,a1,-,-,a4,a5,a6,a7,f0,f1,-⟩:=tT hE hcs.1 hcs.2.1 hcs.2.2.1;have c:zCM l t=((zZ t).n,yW t,true):=if_pos h;rw[c];refine zB.ifT rfl (zB.pure (yO hcs.1 hcs.2.1) (zB.pure (yO f0 (show(zN l (zZ t).n).fam<_ by omega)) ?_));by_cases h2:wG l (zZ t).n=[];·have r:iW l t=(0,[],false):=if_neg (λh=>h.2 h2);rw[r];have h3:(zN l (zN l (zZ t).n).fam).fields=[]:=h2;exact zB.ifT (by rw[h3];rfl) zB.ret
  ·have r:iW l t=((zZ t).n,yW t,true):=if_pos ⟨h,h2⟩;rw[r];have h3:(zN l (zN l (zZ t).n).fam).fields≠[]:=h2;have:=List.length_pos_iff.2 h3;exact zB.ifF (by simp;omega) zB.ret
 ·have c:zCM l t=(0,[],false):=if_neg h;have r:iW l t=(0,[],false):=if_neg (λh'=>h h'.1);rw[c,r];exact zB.ifF rfl zB.ret
theorem pS{N:ByteArray->Bool}{l:List zX}{c:Int}(hE:wP N l)(h0:0<=c)(h1:c<l.length)(hk:(zN l c).kind=2)(hf:wG l c≠[]):(uS (zN l c).type:Int)=(zN l c).pars+(wG l c).length/\0<=(zN l c).pars/\0<=(zN l c).fam/\(zN l c).fam<l.length/\∀n∈wG l c,kY l n 4=true:=by
 obtain⟨A,z,a1,-,-,a4,a5,a6,a7,f0,f1,fk,fp,fi,fs,-,q0,q1⟩:=tT hE h0 h1 hk;have hft:=(xB (hE.2 _ f0 (by omega))).2.1 fk;have hcn:=(xB (hE.2 c h0 h1)).2.2.1 hk;unfold pC at hft;simp only[Bool.and_eq_true,Bool.or_eq_true,decide_eq_true_eq]at hft;have hne:(zN l (zN l c).fam).fields.length≠0:=λh=>hf (List.length_eq_zero_iff.1 h);have hD:=hft.2.resolve_left hne;have hC:=hft.1.2;unfold zRW at hD;unfold zAo at hC;simp only[Bool.and_eq_true,beq_iff_eq,decide_eq_true_eq]at hD hC;obtain⟨⟨⟨⟨⟨d1,d2⟩,d3⟩,d4⟩,d5⟩,d6⟩:=hD;unfold zFr pQ zLy at hcn;simp only[Bool.and_eq_true,decide_eq_true_eq,beq_iff_eq]at hcn;have hown:K7 l (zN l c)=(zN l (zN l c).fam).cons:=by unfold K7;rw[if_neg (by omega)]
 have hpl:=hcn.1.2;rw[hown]at hpl;obtain⟨w,hw⟩:∃w,(zN l (zN l c).fam).cons=[w]:=by rcases hc:(zN l (zN l c).fam).cons with _|⟨w,_|⟨v,r⟩⟩<;>rw[hc]at d2<;>simp at d2;exact⟨w,rfl⟩
 rw[hw]at hC hpl;have hwc:w=c:=by
  have h3:=hpl.2;have h4:(zN l c).place.toNat=0:=by have:=hpl.1.2;simp at this;omega
  rw[h4]at h3;simpa using h3
 have hrun:=hC.1.2;rw[u7]at hrun;simp only[Bool.and_eq_true,beq_iff_eq]at hrun;have hc1:c=(zN l c).fam+1:=by omega
 rw[<-hc1,a1]at d6;refine⟨?_,a6,f0,by omega,?_⟩;·rw[<-a4,fp];exact d6
 ·have key:∀(r:List Int)(k:Int),aO l (zN l c).fam 4 r k=true->∀n∈r,kY l n 4=true:=by intro r;induction r with|nil=>intro k _ n hn;cases hn|cons a r ih=>
   intro k h n hn;rw[aO]at h;simp only[Bool.and_eq_true]at h;rcases List.mem_cons.1 hn with rfl|hn;·exact h.1.1.1
   ·exact ih _ h.2 n hn
  exact key _ 0 d4
theorem zSM{l:List zX}{c:Int}{i:Nat}(h:i<(wG l c).length):zO (zN l (zN l c).fam).fields (i:Int)=some (((wG l c)[i]?).getD (-1)):=by unfold zO;rw[if_pos (by omega),show(i:Int).toNat=i by omega];show(wG l c)[i]?=_;rw[List.getElem?_eq_getElem h];rfl
theorem zFJ(l:List zX)(t:Tm)(c:Int)(i:Nat)(pars:List Tm):(uD l t c i pars).2≠8:=by
 unfold uD;split;·simp
 ·dsimp only;split<;>simp
theorem zFK{l:List zX}{t:Tm}(hs:zJ t=true){c:Int}{i:Nat}{pars:List Tm}(hp:xW pars):(uD l t c i pars).1.Ok:=by
 unfold uD;split;·exact zCL (Q:=Tm.Ok) (λa ha=>yQ (xS hs ha)) O8
 ·exact rO (uH _ _ (yZ _ _) hp) (yQ hs)
theorem zJj{N:ByteArray->Bool}(l:List zX)(hE:wP N l)(t:Tm)(hs:zJ t=true)(L U e c:Int)(i:Nat)(pars:List Tm)(h0:0<=c)(h1:c<l.length)(hk:(zN l c).kind=2)(hi:i<(wG l c).length)(hp:(pars.length:Int)=(zN l c).pars)(hop:xW pars):zB (λq=>zPo q (wF l) l L U e t c (i:Int) pars) ((uD l t c i pars).1,if e=0 then(uD l t c i pars).2 else e):=by
 have hf:wG l c≠[]:=λh=>by rw[h]at hi;simp at hi
 obtain⟨r1,r2,r3,r4,-⟩:=pS hE h0 h1 hk hf;have hpl:(zN l c).pars<=24/\uS (zN l c).type<=24:=by obtain⟨A,z,a1,-,-,a4,a5,a6,a7,-⟩:=tT hE h0 h1 hk;omega
 have tail:zB (λq=>zO l c>>=λx7=>zO l x7.fam>>=λx9=>zO x9.fields (i:Int)>>=λx11=>L8 q x11>>=λr13=>nM q r13 pars>>=λr15=>kI q r15 t>>=λr17=>if(e==0)=true then qV q r17>>=λr20=>if r20=true then some (r17,e)else some (r17,2)else some (r17,e)) (.mk 5 0 [tJ (.mk 6 (((wG l c)[i]?).getD (-1)) []) pars,t],if e=0 then(if zJ (.mk 5 0 [tJ (.mk 6 (((wG l c)[i]?).getD (-1)) []) pars,t])=true then 0 else 2)else e):=by
  refine zB.pure (yO h0 h1) (zB.pure (yO r3 r4) (zB.pure (zSM hi) (zB.bind (a:=.mk 6 (((wG l c)[i]?).getD (-1)) []) (zB.mk λ_=>rfl) ((vD _ pars (by omega)).bind ((qY _ t).bind ?_)))));by_cases he:e=0
  ·refine zB.ifT (by simp[he]) ((xR _ (rO (uH _ _ (yZ _ _) hop) (yQ hs))).bind ?_);by_cases h2:zJ (.mk 5 0 [tJ (.mk 6 (((wG l c)[i]?).getD (-1)) []) pars,t])=true;·exact zB.ifT h2 (zB.ret.eq (by simp[h2,he]))
   ·exact zB.ifF (by simpa using h2) (zB.ret.eq (by simp[h2,he]))
  ·exact zB.ifF (by simp[he]) (zB.ret.eq (by simp[he]))
 simp only[zPo];refine(pR l hE t hs L U e).bind ?_;by_cases h:xT l t
 ·have r:iW l t=((zZ t).n,yW t,true):=if_pos h;rw[r];refine zB.ifT rfl ?_;by_cases h2:(zZ t).n=c
  ·have hpc:uD l t c i pars=(vO (yW t) ((pars.length+i:Nat):Int),0):=if_pos ⟨h,h2⟩;rw[hpc];have hal:(yW t).length=uS (zN l c).type:=by rw[<-h2];exact h.1.2
   refine zB.ifT (by simp[h2]) ?_;rw[zS (x:=(pars.length:Int)+i) (by omega) (by omega),show(pars.length:Int)+(i:Int)=((pars.length+i:Nat):Int)by omega];refine zB.pure (uB (by omega) (by show _<((yW t).length:Int);omega)) (zB.ret.eq ?_);by_cases he:e=0;·simp[he]
   ·simp[he]
  ·have hpc:uD l t c i pars=(.mk 5 0 [tJ (.mk 6 (((wG l c)[i]?).getD (-1)) []) pars,t],if zJ (.mk 5 0 [tJ (.mk 6 (((wG l c)[i]?).getD (-1)) []) pars,t])=true then 0 else 2):=if_neg (λh'=>h2 h'.2);rw[hpc];exact zB.ifF (by simpa using h2) tail
 ·have r:iW l t=(0,[],false):=if_neg h;have hpc:uD l t c i pars=(.mk 5 0 [tJ (.mk 6 (((wG l c)[i]?).getD (-1)) []) pars,t],if zJ (.mk 5 0 [tJ (.mk 6 (((wG l c)[i]?).getD (-1)) []) pars,t])=true then 0 else 2):=if_neg (λh'=>h h'.1);rw[r,hpc];exact zB.ifF rfl tail
def er6(r:Tm×Tm×Bool×Int×Int×Int):Int:=if r.2.2.1=true then 9 else r.2.2.2.1
theorem zUi{r:Tm×Tm×Bool×Int×Int×Int}(h:er6 r=8):r.2.2.1=false/\r.2.2.2.1=8:=by
 unfold er6 at h;split at h;·omega
 ·rename_i h1;exact⟨by simpa using h1,h⟩
def QP(l:List zX)(x y:Tm)(R:Int->Int->Tm×Tm×Bool×Int×Int×Int)(k:Int):Prop:=(∃x' k1 y' k2,xG l x/\xG l y/\Br l x x' 0 k1/\Br l y y' 0 k2/\k=k1+k2/\R=λL U=>(x',y',true,0,L,U))\/(∃a b e,e≠0/\e≠8/\(∀m b k,¬Cv l m x y b k)/\R=λL U=>(a,b,false,e,L,U))
theorem m4{N:ByteArray->Bool}(l:List zX)(hE:wP N l)(he:∀e∈l,nU e)(x:Tm)(ho:x.Ok)(f:Int)(hf:0<=f):Ou (λL U q=>zPp q (wF l) l L U 0 x) er4 (QBR l x) (xG l x/\∀y e k,Br l x y e k->f<k) f:=by
 simp only[zPp];refine Ou.bind (zBj l hE he x ho f hf) id (λr hr=>⟨_,zB.ifT rfl zB.ret,hr⟩) ?_;rintro R k k0 k1 hQ;have hQ':=hQ;rcases hQ with⟨hR,rfl,rfl⟩|⟨hR,y,e,hbr,rfl⟩;·exact Ou.ifT rfl (Ou.ret (by omega) (by rw[Int.add_zero];exact hQ'))
 ·exact Ou.ifT rfl (Ou.ret (by omega) (by rw[Int.add_zero];exact hQ'))
theorem zFL{N:ByteArray->Bool}(l:List zX)(hE:wP N l)(he:∀e∈l,nU e)(x y:Tm)(hx:x.Ok)(hy:y.Ok)(f:Int)(hf:0<=f):Ou (λL U q=>zHD q (wF l) l L U 0 x y) er6 (QP l x y) (∀m b k,Cv l m x y b k->f<k) f:=by
 simp only[zHD];refine Ou.ifF rfl (Ou.bind (m4 l hE he x hx f hf) (λh m b k hc=>?_) (λr hr=>?_) ?_)
 ·obtain⟨-,-,x',k1,y',k2,k3,h1,h2,h3,rfl⟩:=hc.inv;have:=h.2 _ _ _ h1;have:=h2.nn;have:=h3.nn (λ_ _ _ _ _ h=>Cv.nn h);omega
 ·refine⟨_,zB.ifT (by show(r.2.1 !=0)=true;rw[show r.2.1=8 from hr];decide) zB.ret,?_⟩;unfold er6;rw[if_neg (by simp)];exact hr
 ·rintro R k k0 k1(⟨hR,rfl,rfl⟩|⟨hR,x',e,hbr,rfl⟩);·exact Ou.ifT rfl (Ou.ret (by omega) (.inr ⟨_,_,5,by decide,by decide,λm b k hc=>hR hc.inv.1,rfl⟩))
  ·dsimp only;by_cases e0:e=0
   ·subst e0;rw[if_pos rfl];refine Ou.ifF rfl (Ou.bind (m4 l hE he y hy (f-k) (by omega)) (λh m b k' hc=>?_) (λr hr=>⟨_,zB.ret,?_⟩) ?_)
    ·obtain⟨-,-,x1,k1,y',k2,k3,h1,h2,h3,rfl⟩:=hc.inv;obtain⟨-,-,rfl⟩:=hbr.det h1;have:=h.2 _ _ _ h2;have:=h3.nn (λ_ _ _ _ _ h=>Cv.nn h);omega
    ·have hr':r.2.1=8:=hr;unfold er6;dsimp only;rw[hr',if_neg (by decide)]
    ·rintro R n n0 n1(⟨hR2,rfl,rfl⟩|⟨hR2,y',e,hbr2,rfl⟩);·exact Ou.ret (by omega) (.inr ⟨x',zT,5,by decide,by decide,λm b k hc=>hR2 hc.inv.2.1,rfl⟩)
     ·by_cases e1:e=0;·subst e1;exact Ou.ret (by omega) (.inl ⟨x',k,y',n,hR,hR2,hbr,hbr2,by omega,by funext L U;simp⟩)
      ·refine Ou.ret (by omega) (.inr ⟨x',zT,e,e1,hbr2.e8 hE hR2.shaped,λm b k' hc=>?_,by simp[e1,show(e==0)=false by simpa using e1]⟩);obtain⟨-,-,x1,k1,y1,k2,k3,h1,h2,h3,-⟩:=hc.inv;exact e1 (hbr2.det h2).2.1.symm
   ·rw[if_neg e0];refine Ou.ifT (by simpa using e0) (Ou.ret (by omega) (.inr ⟨zT,y,e,e0,hbr.e8 hE hR.shaped,λm b k' hc=>?_,rfl⟩));obtain⟨-,-,x1,k1,y1,k2,k3,h1,-⟩:=hc.inv;exact e0 (hbr.det h1).2.1.symm
def BC(l:List zX)(f:Int)(W:Nat):Prop:=∀m p q,p.Ok->q.Ok->sG l p+sG l q<W->∀g,0<=g->g<=f->HC l m p q g
theorem BC.le{l:List zX}{f g:Int}{W:Nat}(h:BC l f W)(hg:g<=f):BC l g W:=λm p q a b c d e k=>h m p q a b c d e (by omega)
theorem HX.imp{g g':Int->Int->Nat->Option (Bool×Int×Int×Int)}{X:Bool->Int->Prop}{f:Int}(h:HX g X f)(k:∀L U r,zB (g L U) r->zB (g' L U) r):HX g' X f:=Ou.imp h k
theorem HX.same{g:Int->Int->Nat->Option (Bool×Int×Int×Int)}{X:Bool->Int->Prop}{f:Int}(h:HX g X f):HX (λL U q=>g L U q>>=λr=>some (r.1,r.2.1,r.2.2.1,r.2.2.2)) X f:=h.imp λL U r h=>h.bind zB.ret
theorem zJi(l:List zX)(x y:Tm×List Tm)(W:Nat)(hl:x.2.length<=8192)(hxy:y.2.length=x.2.length)(hox:xW x.2)(hoy:xW y.2)(hw:∀a∈x.2,∀b∈y.2,sG l a+sG l b<W):∀(r s:List Tm)(v:Nat)(f:Int),x.2.drop v=r->y.2.drop v=s->0<=f->BC l f W->HX (λL U q=>wQ q l l (mJ l l.length 0) (l.map xZ) (l.map tW) l x y (v:Int) 0 L U) (wW (Cv l false) (cJ r s)) f
 |[],s,v,f,hd,hs,hf,hB=>by
  refine Ou.succ ?_;simp only[wQ];have e:cJ [] s=[]:=by cases s<;>rfl
  rw[e];exact Ou.ifF (yE hd) (zJk hf)|a::r,[],v,f,hd,hs,hf,hB=>by have hlt:=yK hd;have:y.2.length<=v:=List.drop_eq_nil_iff.1 hs;omega|a::r,b::s,v,f,hd,hs,hf,hB=>by
  have hlt:=yK hd;have hma:a∈x.2:=by
   have:a∈x.2.drop v:=by rw[hd];simp
   exact List.mem_of_mem_drop this
  have hmb:b∈y.2:=by
   have:b∈y.2.drop v:=by rw[hs];simp
   exact List.mem_of_mem_drop this
  refine Ou.succ ?_;simp only[wQ];refine Ou.ifT (yD hd) (Ou.pure (zY hd) (Ou.pure (zY hs) ?_));rw[zV v (by omega)];exact H6 (c:=λe L U q=>wQ q l l (mJ l l.length 0) (l.map xZ) (l.map tW) l x y ((v+1:Nat):Int) e L U) (M1 (hB false a b (hox a hma) (hoy b hmb) (hw a hma b hmb) f hf (Int.le_refl f))) λk k0 k1=>zJi l x y W hl hxy hox hoy hw r s (v+1) (f-k) (zR hd) (zR hs) (by omega) (hB.le (by omega))
theorem pW{l:List zX}{m b:Bool}{f:Int}(hf:0<=f):HX (λL U _=>some (b,0,L,U)) (I7 (Cv l) m (.ans b)) f:=Ou.ret hf (zBh ⟨rfl,rfl⟩)
theorem m5(l:List zX)(m:Bool)(x y:Tm)(hsx:zJ x=true)(hsy:zJ y=true)(f:Int)(hf:0<=f)(hB:BC l f (sG l x+sG l y)):HX (λL U q=>kT q l l (mJ l l.length 0) (l.map xZ) (l.map tW) l L U 0 x y) (I7 (Cv l) m (nE x y)) f:=by
 have hgx:=(zK hsx).2.2;have hgy:=(zK hsy).2.2;have hgh:=(zK (uV hsx)).2.2;have hgk:=(zK (uV hsy)).2.2;have hox:xW (yW x):=λa ha=>yQ (xS hsx ha);have hoy:xW (yW y):=λa ha=>yQ (xS hsy ha);have hlx:(yW x).length<=8192:=by have h:=zK hsx;have:=sT _ h.2.2;omega
 have hwx:=n9 l x hgx;have hwy:=n9 l y hgy;have hph:=zCQ l (zZ x);have hpk:=zCQ l (zZ y);have hw:∀a∈yW x,∀b∈yW y,sG l a+sG l b<sG l x+sG l y:=λa ha b hb=>by have:=zCR l ha;have:=zCR l hb;omega
 refine Ou.succ ?_;simp only[kT];refine Ou.evt (kK x hsx) (Ou.evt (kK y hsy) ?_);dsimp only;by_cases c1:(zZ x).k=(zZ y).k
 ·refine Ou.ifF (by simp[c1]) ?_;by_cases c2:(zZ x).n=(zZ y).n
  ·refine Ou.ifF (by simp[c2]) ?_;by_cases c3:(yW x).length=(yW y).length
   ·refine Ou.ifF (by simp[c3]) ?_;have loop:∀g,0<=g->g<=f->HX (λL U q=>wQ q l l (mJ l l.length 0) (l.map xZ) (l.map tW) l (zZ x,yW x) (zZ y,yW y) 0 0 L U) (wW (Cv l false) (cJ (yW x) (yW y))) g:=λg g0 g1=>zJi l (zZ x,yW x) (zZ y,yW y) _ hlx c3.symm hox hoy hw (yW x) (yW y) 0 g rfl rfl g0 (hB.le g1);by_cases c4:(zZ x).k=7
    ·obtain⟨s,hs⟩:∃s,(zZ x).sub=[s]:=by revert hgh c4;generalize zZ x=w;intro hg h7;obtain⟨kk,nn,ss⟩:=w;obtain⟨s,hs,-⟩:=(tR (wU hg).1).2.2.2.2.2.2.1 h7;exact⟨s,hs⟩
     obtain⟨s',hs'⟩:∃s,(zZ y).sub=[s]:=by
      have c4':(zZ y).k=7:=by omega
      revert hgk c4';generalize zZ y=w;intro hg h7;obtain⟨kk,nn,ss⟩:=w;obtain⟨s,hs,-⟩:=(tR (wU hg).1).2.2.2.2.2.2.1 h7;exact⟨s,hs⟩
     refine Ou.ifT (by simp[c4]) (Ou.pure (uB (by omega) (by rw[hs];simp)) (Ou.pure (uB (by omega) (by rw[hs'];simp)) ?_));by_cases c5:(vO (zZ x).sub 0).n=(vO (zZ y).sub 0).n
     ·refine Ou.ifF (by simp[c5]) (Ou.ifF (by simp[c4]) ?_);have e:nE x y=.all (cJ (yW x) (yW y)):=by unfold nE zFG;rw[if_neg (by omega),if_neg (by omega),List.nil_append]
      rw[e];exact loop f hf (Int.le_refl f)
     ·refine Ou.ifT (by simpa using c5) ?_;have e:nE x y=.ans false:=by unfold nE;rw[if_pos (.inr (.inr (.inr ⟨c4,c5⟩)))]
      rw[e];exact pW hf
    ·refine Ou.ifF (by simpa using c4) ?_;by_cases c5:(zZ x).k=3
     ·have c5':(zZ y).k=3:=by omega
      obtain⟨a,b,hab,hga,hgb⟩:=vM hgh (.inl c5);obtain⟨a',b',hab',hga',hgb'⟩:=vM hgk (.inl c5');have ea:vO (zZ x).sub 0=a:=by rw[hab];rfl
      have eb:vO (zZ x).sub 1=b:=by rw[hab];rfl
      have ea':vO (zZ y).sub 0=a':=by rw[hab'];rfl
      have eb':vO (zZ y).sub 1=b':=by rw[hab'];rfl
      have e:nE x y=.all (((a,0),(a',0))::((b,0),(b',0))::cJ (yW x) (yW y)):=by unfold nE zFG;rw[if_neg (by omega),if_pos c5,ea,eb,ea',eb'];rfl
      have w1:=gZ l (zZ x);have w2:=gZ l (zZ y);rw[hab,rG,rG,rG]at w1;rw[hab',rG,rG,rG]at w2;have v1:=(gY l (zZ x).k (zZ x).n).1;have v2:=(gY l (zZ y).k (zZ y).n).1;rw[e];refine Ou.ifT (by simp[c5]) (Ou.pure (a:=a) (by rw[hab];rfl) (Ou.pure (a:=a') (by rw[hab'];rfl) ?_));refine H6 (c:=λe L U q=>zO (zZ x).sub 1>>=λx33=>zO (zZ y).sub 1>>=λx35=>wX q l l (mJ l l.length 0) (l.map xZ) (l.map tW) l L U e x33 x35>>=λr37=>if r37.1=true then wQ q l l (mJ l l.length 0) (l.map xZ) (l.map tW) l (zZ x,yW x) (zZ y,yW y) 0 r37.2.1 r37.2.2.1 r37.2.2.2 else some (false,r37.2.1,r37.2.2.1,r37.2.2.2)) (M1 (hB false a a' (wR a hga) (wR a' hga') (by omega) f hf (Int.le_refl f))) λk k0 k1=>?_;refine Ou.pure (a:=b) (by rw[hab];rfl) (Ou.pure (a:=b') (by rw[hab'];rfl) ?_);exact H6 (c:=λe L U q=>wQ q l l (mJ l l.length 0) (l.map xZ) (l.map tW) l (zZ x,yW x) (zZ y,yW y) 0 e L U) (M1 (hB false b b' (wR b hgb) (wR b' hgb') (by omega) (f-k) (by omega) (by omega))) λk' k0' k1'=>loop (f-k-k') (by omega) (by omega)
     ·refine Ou.ifF (by simpa using c5) ?_;have e:nE x y=.all (cJ (yW x) (yW y)):=by unfold nE zFG;rw[if_neg (by omega),if_neg c5,List.nil_append]
      rw[e];exact loop f hf (Int.le_refl f)
   ·refine Ou.ifT (by simp;omega) ?_;have e:nE x y=.ans false:=by unfold nE;rw[if_pos (.inr (.inr (.inl c3)))]
    rw[e];exact pW hf
  ·refine Ou.ifT (by simpa using c2) ?_;have e:nE x y=.ans false:=by unfold nE;rw[if_pos (.inr (.inl c2))]
   rw[e];exact pW hf
 ·refine Ou.ifT (by simpa using c1) ?_;have e:nE x y=.ans false:=by unfold nE;rw[if_pos (.inl c1)]
  rw[e];exact pW hf
theorem m6{N:ByteArray->Bool}(l:List zX)(hE:wP N l)(x y:Tm)(c:Int)(pars:List Tm)(W:Nat)(hsx:zJ x=true)(hsy:zJ y=true)(h0:0<=c)(h1:c<l.length)(hk:(zN l c).kind=2)(hp:(pars.length:Int)=(zN l c).pars)(hop:xW pars)(hw:∀i,i<(wG l c).length->sG l (uD l x c i pars).1+sG l (uD l y c i pars).1<W):∀(m i:Nat)(f:Int),i+m=(wG l c).length->0<=f->BC l f W->HX (λL U q=>tC q l l (mJ l l.length 0) (l.map xZ) (l.map tW) l x y c pars (zN l (zN l c).fam) (i:Int) 0 L U) (wW (Cv l false) (nR l x y c pars m i)) f
 |0,i,f,hm,hf,hB=>by refine Ou.succ ?_;simp only[tC];have hm':i=(zN l (zN l c).fam).fields.length:=hm;exact Ou.ifF (decide_eq_false (by omega)) (zJk hf)|m+1,i,f,hm,hf,hB=>by
  have hi:i<(wG l c).length:=by omega
  have hne:wG l c≠[]:=λh=>by rw[h]at hi;simp at hi
  have hlen:(wG l c).length<=24:=by have r:=pS hE h0 h1 hk hne;obtain⟨A,z,a1,-,-,a4,a5,a6,a7,-⟩:=tT hE h0 h1 hk;omega
  refine Ou.succ ?_;simp only[tC];refine Ou.ifT (decide_eq_true (by show(i:Int)<((wG l c).length:Int);omega)) ?_;have e1:=λL U=>zJj l hE x hsx L U 0 c i pars h0 h1 hk hi hp hop;have e2:=λL U=>zJj l hE y hsy L U (uD l x c i pars).2 c i pars h0 h1 hk hi hp hop;refine HX.imp (g:=λL U q=>R6 l false L U (if(uD l x c i pars).2=0 then(uD l y c i pars).2 else(uD l x c i pars).2) q (uD l x c i pars).1 (uD l y c i pars).1>>=λr10=>if r10.1=true then tC q l l (mJ l l.length 0) (l.map xZ) (l.map tW) l x y c pars (zN l (zN l c).fam) ((i+1:Nat):Int) r10.2.1 r10.2.2.1 r10.2.2.2 else some (false,r10.2.1,r10.2.2.1,r10.2.2.2)) ?_ λL U r h=>?_
  ·exact H6 (c:=λe L U q=>tC q l l (mJ l l.length 0) (l.map xZ) (l.map tW) l x y c pars (zN l (zN l c).fam) ((i+1:Nat):Int) e L U) (zCU (p:=uD l x c i pars) (q:=uD l y c i pars) hf ⟨zFJ _ _ _ _ _,zFJ _ _ _ _ _⟩ λ_ _=>hB false _ _ (zFK hsx hop) (zFK hsy hop) (hw i hi) f hf (Int.le_refl f)) λk k0 k1=>m6 l hE x y c pars W hsx hsy h0 h1 hk hp hop hw m (i+1) (f-k) (by omega) (by omega) (hB.le (by omega))
  ·have a1:=e1 L U;rw[if_pos rfl]at a1;rw[zV i (by omega)];exact a1.bind ((e2 L U).bind h)
theorem zPl{l:List zX}{m:Bool}{a a' c1 c1':Tm}{f:Int}{g:Int->Int->Nat->Option (Bool×Int×Int×Int)}{c:Int->Int->Int->Nat->Option (Bool×Int×Int×Int)}(h1:HX g (Cv l false a a') f)(hc:∀k,0<=k->k<=f->HX (λL U q=>c 0 L U q) (Cv l m c1 c1') (f-k)):HX (λL U q=>g L U q>>=λr30=>if r30.1=true then c r30.2.1 r30.2.2.1 r30.2.2.2 q else some (false,r30.2.1,r30.2.2.1,r30.2.2.2)) (I7 (Cv l) m (.pi a a' c1 c1')) f:=by
 refine Ou.bind h1 (λh b k ha=>?_) (λr hr=>?_) ?_
 ·obtain⟨b1,k1,a3,a4⟩:=ha;have:=h b1 k1 a3;rcases a4 with⟨-,-,a4⟩|⟨-,k2,a4,a5⟩;·omega
  ·have:=a4.nn;omega
 ·have:=M0 hr;refine⟨_,zB.ifF this.1 zB.ret,?_⟩;unfold zCT;rw[if_neg (by simp)];exact this.2
 ·rintro R k k0 k1⟨b1,e1,h8,h0,hn,rfl⟩;dsimp only;by_cases e0:e1=0
  ·subst e0;have a3:=h0 rfl;cases b1 with|false=>exact Ou.ifF rfl (Ou.ret (by omega) (zBh ⟨false,k,a3,.inl ⟨rfl,rfl,by omega⟩⟩))|true=>
   refine Ou.ifT rfl ((hc k k0 k1).mono ?_ λh b k' ha=>?_)
   ·rintro R n _ _⟨b,e,g8,g0,gn,rfl⟩;refine⟨b,e,g8,λhe=>⟨true,k,a3,.inr ⟨rfl,n,g0 he,rfl⟩⟩,λhe=>⟨(gn he).1,λb' k' ha=>?_⟩,rfl⟩;obtain⟨b1,k1,a4,a5⟩:=ha;obtain⟨rfl,rfl⟩:=a3.det a4;rcases a5 with⟨a5,-⟩|⟨-,k2,a5,-⟩;·cases a5
    ·exact(gn he).2 _ _ a5
   ·obtain⟨b1,k1,a4,a5⟩:=ha;obtain⟨rfl,rfl⟩:=a3.det a4;rcases a5 with⟨a5,-⟩|⟨-,k2,a5,a6⟩;·cases a5
    ·have:=h _ _ a5;omega
  ·obtain⟨rfl,hno⟩:=hn e0;refine Ou.ifF rfl (Ou.ret (by omega) (mL h8 e0 λb k ha=>?_));obtain⟨b1,k1,a3,-⟩:=ha;exact hno b1 k1 a3
theorem zPk(l:List zX){x y:Tm}(hgx:xP x=true)(hgy:xP y=true)(hp:(uY x).2=0)(hq:(uY y).2=0)(h:x.k=4\/y.k=4):sG l (uY x).1+sG l (uY y).1<sG l x+sG l y:=by
 have lam:∀t:Tm,xP t=true->t.k=4->sG l (uY t).1+4<=sG l t:=λt hg h4=>by
  obtain⟨a,b,hab,-,-⟩:=vM hg (.inr (.inl h4));rw[zYJ h4,hab];have w:=gZ l t;rw[hab,rG,rG,rG]at w;have e:n8 l t.k t.n=3:=by unfold n8;rw[if_pos h4]
  have:=zCQ l a;show sG l b+4<=_;omega
 have oth:∀t:Tm,(uY t).2=0->t.k≠4->sG l (uY t).1<=sG l t+2:=λt h0 h4=>by
  rw[zYK h4]at h0⊢;have h1:(vU t 1 0).2=0:=by
   by_cases h1:(vU t 1 0).2=0;·exact h1
   ·rw[if_neg h1]at h0;exact h0
  rw[(G6 h1).2.2.2.2,sG,rG,rG,rG,sG,rG];have e1:n8 l 5 0=1:=by unfold n8;simp
  have e2:n8 l 1 0=1:=by unfold n8;simp
  have:=zUk l t 0 0 1;omega
 by_cases h1:x.k=4
 ·have a:=lam x hgx h1;by_cases h2:y.k=4;·have b:=lam y hgy h2;omega
  ·have b:=oth y hq h2;omega
 ·have a:=oth x hp h1;have b:=lam y hgy (h.resolve_left h1);omega
theorem zPj{N:ByteArray->Bool}{l:List zX}(hE:wP N l){x y:Tm}(hsx:zJ x=true)(hsy:zJ y=true){c:Int}{pars:List Tm}(h0:0<=c)(h1:c<l.length)(hk:(zN l c).kind=2){i:Nat}(hi:i<(wG l c).length)(h:(xT l x/\(zZ x).n=c/\pars=sL l x/\(xT l y->(zZ y).n=c))\/(¬xT l x/\xT l y/\(zZ y).n=c/\pars=sL l y)):sG l (uD l x c i pars).1+sG l (uD l y c i pars).1<sG l x+sG l y:=by
 have hne:wG l c≠[]:=λh=>by rw[h]at hi;simp at hi
 obtain⟨r1,r2,r3,r4,r5⟩:=pS hE h0 h1 hk hne;have con:∀t:Tm,zJ t=true->xT l t->(zZ t).n=c->pars.length=(zN l c).pars.toNat->sG l (uD l t c i pars).1+rG l (sL l t)+(zN l c).pars.toNat+3<=sG l t:=λt hs hr hn hl=>by
  have e:uD l t c i pars=(vO (yW t) ((pars.length+i:Nat):Int),0):=if_pos ⟨hr,hn⟩;rw[e];show sG l (vO (yW t) ((pars.length+i:Nat):Int))+rG l (sL l t)+(zN l c).pars.toNat+3<=sG l t;have hlen:(yW t).length=uS (zN l c).type:=by rw[<-hn];exact hr.1.2
  have hk6:=(vP hr.1.1 (by decide)).1;have hw:=n9 l t (zK hs).2.2;have hh:=gZ l (zZ t);have e2:n8 l (zZ t).k (zZ t).n=2:=by unfold n8;rw[if_neg (by omega),if_pos ⟨hk6,by rw[hn];exact hk⟩]
  have hsplit:yW t=(yW t).take (zN l c).pars.toNat++(yW t).drop (zN l c).pars.toNat:=(List.take_append_drop _ _).symm;have hwl:rG l (yW t)=rG l (sL l t)+rG l ((yW t).drop (zN l c).pars.toNat):=by
   have:sL l t=(yW t).take (zN l c).pars.toNat:=by unfold sL;rw[hn]
   rw[this,<-zCS,List.take_append_drop]
  have hm:vO (yW t) ((pars.length+i:Nat):Int)∈(yW t).drop (zN l c).pars.toNat:=by
   unfold vO;have hlt:pars.length+i<(yW t).length:=by omega
   rw[show(((pars.length+i:Nat):Int)).toNat=pars.length+i by omega,List.getElem?_eq_getElem hlt];show(yW t)[pars.length+i]∈_;have:(yW t)[pars.length+i]=((yW t).drop (zN l c).pars.toNat)[i]'(by simp;omega):=by rw[List.getElem_drop];congr 1;omega
   rw[this];exact List.getElem_mem _
  have:=zCR l hm;have:(yW t).length>=(zN l c).pars.toNat+1:=by omega
  have hnn:0<=rG l (zZ t).sub:=Nat.zero_le _;omega
 have oth:∀t:Tm,¬(xT l t/\(zZ t).n=c)->sG l (uD l t c i pars).1=2+rG l pars+pars.length+sG l t:=λt hr=>by
  have e:uD l t c i pars=(.mk 5 0 [tJ (.mk 6 (((wG l c)[i]?).getD (-1)) []) pars,t],if zJ (.mk 5 0 [tJ (.mk 6 (((wG l c)[i]?).getD (-1)) []) pars,t])=true then 0 else 2):=if_neg hr;rw[e];have hfk:(zN l (((wG l c)[i]?).getD (-1))).kind=4:=by rw[List.getElem?_eq_getElem hi];exact(wJ (r5 _ (List.getElem_mem hi))).2.2
  have e1:n8 l 5 0=1:=by unfold n8;simp
  have e2:n8 l 6 (((wG l c)[i]?).getD (-1))=1:=by unfold n8;rw[if_neg (by decide),if_neg (by omega)]
  show sG l (.mk 5 0 [tJ (.mk 6 (((wG l c)[i]?).getD (-1)) []) pars,t])=_;rw[sG,rG,rG,rG,zUj,sG,rG,e1,e2];omega
 have plen:∀t:Tm,zJ t=true->xT l t->(zZ t).n=c->(sL l t).length=(zN l c).pars.toNat:=λt hs hr hn=>by
  have hlen:(yW t).length=uS (zN l c).type:=by rw[<-hn];exact hr.1.2
  unfold sL;rw[hn,List.length_take];omega
 rcases h with⟨hx,hn,hp,hy⟩|⟨hx,hy,hn,hp⟩
 ·have hl:=plen x hsx hx hn;rw[<-hp]at hl;have a:=con x hsx hx hn hl;rw[<-hp]at a;by_cases ry:xT l y;·have b:=con y hsy ry (hy ry) hl;omega
  ·have b:=oth y (λh=>ry h.1);omega
 ·have hl:=plen y hsy hy hn;rw[<-hp]at hl;have a:=con y hsy hy hn hl;rw[<-hp]at a;have b:=oth x (λh=>hx h.1);omega
theorem zHF{N:ByteArray->Bool}(l:List zX)(hE:wP N l)(x y:Tm)(hsx:zJ x=true)(hsy:zJ y=true)(f:Int)(hf:0<=f)(hB:BC l f (sG l x+sG l y)):HX (λL U q=>zLA l false L U 0 q x y) (I7 (Cv l) false (xV l false x y)) f:=by
 have hgx:=(zK hsx).2.2;have hgy:=(zK hsy).2.2;refine Ou.succ ?_;simp only[zLA,H4];have lamC:x.k=4\/y.k=4->HX (λL U q=>aX q (wA.mk l l (mJ l l.length 0) (l.map xZ) (l.map tW)) l L U 0 x>>=λr2=>aX q (wA.mk l l (mJ l l.length 0) (l.map xZ) (l.map tW)) l L U r2.2 y>>=λr4=>wX q l l (mJ l l.length 0) (l.map xZ) (l.map tW) l L U r4.2 r2.1 r4.1>>=λr6=>some (r6.1,r6.2.1,r6.2.2.1,r6.2.2.2)) (I7 (Cv l) false (xV l false x y)) f:=λh=>by
  have e:xV l false x y=.all [(uY x,uY y)]:=if_pos h;rw[e];refine HX.imp (g:=λL U q=>R6 l false L U (if(uY x).2=0 then(uY y).2 else(uY x).2) q (uY x).1 (uY y).1>>=λr6=>some (r6.1,r6.2.1,r6.2.2.1,r6.2.2.2)) ?_ λL U r h=>?_;·refine HX.same (zCU (p:=uY x) (q:=uY y) hf ⟨T7 x,T7 y⟩ λhp hq=>hB false _ _ (T8 hsx) (T8 hsy) ?_ f hf (Int.le_refl f));exact zPk l hgx hgy hp hq h
  ·have a1:=dO (wF l) l x hsx L U 0;have a2:=dO (wF l) l y hsy L U (uY x).2;rw[if_pos rfl]at a1;exact a1.bind (a2.bind h)
 refine Ou.ite (λh=>lamC (.inl (by simpa using h))) λh4=>Ou.ite (λh=>lamC (.inr (by simpa using h))) λh4'=>?_;have n4:¬(x.k=4\/y.k=4):=by
  have a:x.k≠4:=by simpa using h4
  have b:y.k≠4:=by simpa using h4'
  omega
 have flds:∀(c:Int)(pars:List Tm),(xT l x/\(zZ x).n=c/\pars=sL l x/\(xT l y->(zZ y).n=c))\/(¬xT l x/\xT l y/\(zZ y).n=c/\pars=sL l y)->∀cs:List Tm,sN cs 0 (zN l c).pars=some pars->HX (λL U q=>zO l c>>=λx22=>sN cs 0 x22.pars>>=λx24=>tN q l l (mJ l l.length 0) (l.map xZ) (l.map tW) l L U 0 x y c x24>>=λr26=>some (r26.1,r26.2.1,r26.2.2.1,r26.2.2.2)) (wW (Cv l false) (nR l x y c pars (wG l c).length 0)) f:=λc pars h cs hcs=>by
  have hc:∃t,(t=x\/t=y)/\zJ t=true/\xT l t/\(zZ t).n=c/\pars=sL l t:=by
   rcases h with h|h;·exact⟨x,.inl rfl,hsx,h.1,h.2.1,h.2.2.1⟩
   ·exact⟨y,.inr rfl,hsy,h.2.1,h.2.2.1,h.2.2.2⟩
  obtain⟨t,-,hst,hrt,hnt,hpt⟩:=hc;have hcs':=sD hst hrt.1;rw[hnt]at hcs';have hf0:=hrt.2;rw[hnt]at hf0;have rf:=pS hE hcs'.1 hcs'.2.1 hcs'.2.2.1 hf0;have hop:xW pars:=by rw[hpt];exact xW.take (λa ha=>yQ (xS hst ha)) _
  have hpl:(pars.length:Int)=(zN l c).pars:=by rw[hpt];unfold sL;rw[hnt,List.length_take];omega
  refine Ou.pure (yO hcs'.1 hcs'.2.1) (Ou.pure hcs (HX.same (Ou.succ ?_)));simp only[tN];refine Ou.pure (yO hcs'.1 hcs'.2.1) (Ou.pure (yO rf.2.2.1 rf.2.2.2.1) ?_);exact m6 l hE x y c pars _ hsx hsy hcs'.1 hcs'.2.1 hcs'.2.2.1 hpl hop (λi hi=>zPj hE hsx hsy hcs'.1 hcs'.2.1 hcs'.2.2.1 hi h) (wG l c).length 0 f (by omega) hf hB
 have par_sl:∀t,zJ t=true->xT l t->sN (yW t) 0 (zN l (zZ t).n).pars=some (sL l t):=λt hst hrt=>by have hcs':=sD hst hrt.1;have rf:=pS hE hcs'.1 hcs'.2.1 hcs'.2.2.1 hrt.2;rw[dM (by omega) rf.2.1 (by omega)];unfold sL;simp
 refine Ou.evt (pR l hE x hsx 0 0 0) ?_;by_cases rx:xT l x
 ·have ex:iW l x=((zZ x).n,yW x,true):=if_pos rx;rw[ex];refine Ou.ifT rfl (Ou.evt (pR l hE y hsy 0 0 0) ?_);by_cases ry:xT l y
  ·have ey:iW l y=((zZ y).n,yW y,true):=if_pos ry;rw[ey];refine Ou.ifT rfl ?_;by_cases hn:(zZ x).n=(zZ y).n
   ·have e:xV l false x y=.all (nR l x y (zZ x).n (sL l x) (wG l (zZ x).n).length 0):=by unfold xV;rw[if_neg n4,if_pos rx,if_neg (λh=>h.2 hn)]
    rw[e];exact Ou.ifF (by simp[hn]) (flds _ _ (.inl ⟨rx,rfl,rfl,λ_=>hn.symm⟩) (yW x) (par_sl x hsx rx))
   ·have e:xV l false x y=.ans false:=by unfold xV;rw[if_neg n4,if_pos rx,if_pos ⟨ry,hn⟩]
    rw[e];exact Ou.ifT (by simpa using hn) (pW hf)
  ·have ey:iW l y=(0,[],false):=if_neg ry;have e:xV l false x y=.all (nR l x y (zZ x).n (sL l x) (wG l (zZ x).n).length 0):=by unfold xV;rw[if_neg n4,if_pos rx,if_neg (λh=>ry h.1)]
   rw[ey,e];exact Ou.ifF rfl (flds _ _ (.inl ⟨rx,rfl,rfl,λh=>absurd h ry⟩) (yW x) (par_sl x hsx rx))
 ·have ex:iW l x=(0,[],false):=if_neg rx;rw[ex];refine Ou.ifF rfl (Ou.evt (pR l hE y hsy 0 0 0) ?_);by_cases ry:xT l y
  ·have ey:iW l y=((zZ y).n,yW y,true):=if_pos ry;have e:xV l false x y=.all (nR l x y (zZ y).n (sL l y) (wG l (zZ y).n).length 0):=by unfold xV;rw[if_neg n4,if_neg rx,if_pos ry]
   rw[ey,e];exact Ou.ifT rfl (flds _ _ (.inr ⟨rx,ry,rfl,rfl⟩) (yW y) (par_sl y hsy ry))
  ·have ey:iW l y=(0,[],false):=if_neg ry;rw[ey];refine Ou.ifF rfl ?_;by_cases hk:x.k=y.k
   ·refine Ou.ifF (by simp[hk]) ?_;by_cases k3:x.k=3
    ·have e:xV l false x y=.pi (vO x.sub 0) (vO y.sub 0) (vO x.sub 1) (vO y.sub 1):=by unfold xV;rw[if_neg n4,if_neg rx,if_neg ry,if_neg (by simpa using hk),if_pos k3]
     obtain⟨a,b,hab,hga,hgb⟩:=vM hgx (.inl k3);obtain⟨a',b',hab',hga',hgb'⟩:=vM hgy (.inl (by omega));have ea:vO x.sub 0=a:=by rw[hab];rfl
     have eb:vO x.sub 1=b:=by rw[hab];rfl
     have ea':vO y.sub 0=a':=by rw[hab'];rfl
     have eb':vO y.sub 1=b':=by rw[hab'];rfl
     have w1:=gZ l x;have w2:=gZ l y;rw[hab,rG,rG,rG]at w1;rw[hab',rG,rG,rG]at w2;have v1:=(gY l x.k x.n).1;have v2:=(gY l y.k y.n).1;rw[e,ea,eb,ea',eb'];refine Ou.ifT (by simp[k3]) (Ou.pure (a:=a) (by rw[hab];rfl) (Ou.pure (a:=a') (by rw[hab'];rfl) ?_));refine zPl (c:=λe L U q=>zO x.sub 1>>=λx52=>zO y.sub 1>>=λx54=>wX q l l (mJ l l.length 0) (l.map xZ) (l.map tW) l L U e x52 x54>>=λr56=>some (r56.1,r56.2.1,r56.2.2.1,r56.2.2.2)) (hB false a a' (wR a hga) (wR a' hga') (by omega) f hf (Int.le_refl f)) λk k0 k1=>?_;exact Ou.pure (a:=b) (by rw[hab];rfl) (Ou.pure (a:=b') (by rw[hab'];rfl) (HX.same (hB false b b' (wR b hgb) (wR b' hgb') (by omega) (f-k) (by omega) (by omega))))
    ·refine Ou.ifF (by simpa using k3) ?_;by_cases k2:x.k=2
     ·have e:xV l false x y=.ans (if false=true then decide (x.n<=y.n)else x.n==y.n):=by unfold xV;rw[if_neg n4,if_neg rx,if_neg ry,if_neg (by simpa using hk),if_neg k3,if_pos k2]
      rw[e];refine Ou.ifT (by simp[k2]) (Ou.evt (a:=if false=true then decide (x.n<=y.n)else x.n==y.n) (zB.mk λq=>?_) (pW hf));simp[zVX]
     ·have e:xV l false x y=nE x y:=by unfold xV;rw[if_neg n4,if_neg rx,if_neg ry,if_neg (by simpa using hk),if_neg k3,if_neg k2]
      rw[e];exact Ou.ifF (by simpa using k2) (HX.same (m5 l false x y hsx hsy f hf hB))
   ·have e:xV l false x y=.ans false:=by unfold xV;rw[if_neg n4,if_neg rx,if_neg ry,if_pos hk]
    rw[e];exact Ou.ifT (by simpa using hk) (pW hf)
theorem zHG{N:ByteArray->Bool}(l:List zX)(hE:wP N l)(x y:Tm)(hsx:zJ x=true)(hsy:zJ y=true)(f:Int)(hf:0<=f)(hB:BC l f (sG l x+sG l y)):HX (λL U q=>zLA l true L U 0 q x y) (I7 (Cv l) true (xV l true x y)) f:=by
 have hgx:=(zK hsx).2.2;have hgy:=(zK hsy).2.2;refine Ou.succ ?_;simp only[zLA,H5];have lamC:x.k=4\/y.k=4->HX (λL U q=>aX q (wA.mk l l (mJ l l.length 0) (l.map xZ) (l.map tW)) l L U 0 x>>=λr2=>aX q (wA.mk l l (mJ l l.length 0) (l.map xZ) (l.map tW)) l L U r2.2 y>>=λr4=>wX q l l (mJ l l.length 0) (l.map xZ) (l.map tW) l L U r4.2 r2.1 r4.1>>=λr6=>some (r6.1,r6.2.1,r6.2.2.1,r6.2.2.2)) (I7 (Cv l) true (xV l true x y)) f:=λh=>by
  have e:xV l true x y=.all [(uY x,uY y)]:=if_pos h;rw[e];refine HX.imp (g:=λL U q=>R6 l false L U (if(uY x).2=0 then(uY y).2 else(uY x).2) q (uY x).1 (uY y).1>>=λr6=>some (r6.1,r6.2.1,r6.2.2.1,r6.2.2.2)) ?_ λL U r h=>?_;·refine HX.same (zCU (p:=uY x) (q:=uY y) hf ⟨T7 x,T7 y⟩ λhp hq=>hB false _ _ (T8 hsx) (T8 hsy) ?_ f hf (Int.le_refl f));exact zPk l hgx hgy hp hq h
  ·have a1:=dO (wF l) l x hsx L U 0;have a2:=dO (wF l) l y hsy L U (uY x).2;rw[if_pos rfl]at a1;exact a1.bind (a2.bind h)
 refine Ou.ite (λh=>lamC (.inl (by simpa using h))) λh4=>Ou.ite (λh=>lamC (.inr (by simpa using h))) λh4'=>?_;have n4:¬(x.k=4\/y.k=4):=by
  have a:x.k≠4:=by simpa using h4
  have b:y.k≠4:=by simpa using h4'
  omega
 have flds:∀(c:Int)(pars:List Tm),(xT l x/\(zZ x).n=c/\pars=sL l x/\(xT l y->(zZ y).n=c))\/(¬xT l x/\xT l y/\(zZ y).n=c/\pars=sL l y)->∀cs:List Tm,sN cs 0 (zN l c).pars=some pars->HX (λL U q=>zO l c>>=λx22=>sN cs 0 x22.pars>>=λx24=>tN q l l (mJ l l.length 0) (l.map xZ) (l.map tW) l L U 0 x y c x24>>=λr26=>some (r26.1,r26.2.1,r26.2.2.1,r26.2.2.2)) (wW (Cv l false) (nR l x y c pars (wG l c).length 0)) f:=λc pars h cs hcs=>by
  have hc:∃t,(t=x\/t=y)/\zJ t=true/\xT l t/\(zZ t).n=c/\pars=sL l t:=by
   rcases h with h|h;·exact⟨x,.inl rfl,hsx,h.1,h.2.1,h.2.2.1⟩
   ·exact⟨y,.inr rfl,hsy,h.2.1,h.2.2.1,h.2.2.2⟩
  obtain⟨t,-,hst,hrt,hnt,hpt⟩:=hc;have hcs':=sD hst hrt.1;rw[hnt]at hcs';have hf0:=hrt.2;rw[hnt]at hf0;have rf:=pS hE hcs'.1 hcs'.2.1 hcs'.2.2.1 hf0;have hop:xW pars:=by rw[hpt];exact xW.take (λa ha=>yQ (xS hst ha)) _
  have hpl:(pars.length:Int)=(zN l c).pars:=by rw[hpt];unfold sL;rw[hnt,List.length_take];omega
  refine Ou.pure (yO hcs'.1 hcs'.2.1) (Ou.pure hcs (HX.same (Ou.succ ?_)));simp only[tN];refine Ou.pure (yO hcs'.1 hcs'.2.1) (Ou.pure (yO rf.2.2.1 rf.2.2.2.1) ?_);exact m6 l hE x y c pars _ hsx hsy hcs'.1 hcs'.2.1 hcs'.2.2.1 hpl hop (λi hi=>zPj hE hsx hsy hcs'.1 hcs'.2.1 hcs'.2.2.1 hi h) (wG l c).length 0 f (by omega) hf hB
 have par_sl:∀t,zJ t=true->xT l t->sN (yW t) 0 (zN l (zZ t).n).pars=some (sL l t):=λt hst hrt=>by have hcs':=sD hst hrt.1;have rf:=pS hE hcs'.1 hcs'.2.1 hcs'.2.2.1 hrt.2;rw[dM (by omega) rf.2.1 (by omega)];unfold sL;simp
 refine Ou.evt (pR l hE x hsx 0 0 0) ?_;by_cases rx:xT l x
 ·have ex:iW l x=((zZ x).n,yW x,true):=if_pos rx;rw[ex];refine Ou.ifT rfl (Ou.evt (pR l hE y hsy 0 0 0) ?_);by_cases ry:xT l y
  ·have ey:iW l y=((zZ y).n,yW y,true):=if_pos ry;rw[ey];refine Ou.ifT rfl ?_;by_cases hn:(zZ x).n=(zZ y).n
   ·have e:xV l true x y=.all (nR l x y (zZ x).n (sL l x) (wG l (zZ x).n).length 0):=by unfold xV;rw[if_neg n4,if_pos rx,if_neg (λh=>h.2 hn)]
    rw[e];exact Ou.ifF (by simp[hn]) (flds _ _ (.inl ⟨rx,rfl,rfl,λ_=>hn.symm⟩) (yW x) (par_sl x hsx rx))
   ·have e:xV l true x y=.ans false:=by unfold xV;rw[if_neg n4,if_pos rx,if_pos ⟨ry,hn⟩]
    rw[e];exact Ou.ifT (by simpa using hn) (pW hf)
  ·have ey:iW l y=(0,[],false):=if_neg ry;have e:xV l true x y=.all (nR l x y (zZ x).n (sL l x) (wG l (zZ x).n).length 0):=by unfold xV;rw[if_neg n4,if_pos rx,if_neg (λh=>ry h.1)]
   rw[ey,e];exact Ou.ifF rfl (flds _ _ (.inl ⟨rx,rfl,rfl,λh=>absurd h ry⟩) (yW x) (par_sl x hsx rx))
 ·have ex:iW l x=(0,[],false):=if_neg rx;rw[ex];refine Ou.ifF rfl (Ou.evt (pR l hE y hsy 0 0 0) ?_);by_cases ry:xT l y
  ·have ey:iW l y=((zZ y).n,yW y,true):=if_pos ry;have e:xV l true x y=.all (nR l x y (zZ y).n (sL l y) (wG l (zZ y).n).length 0):=by unfold xV;rw[if_neg n4,if_neg rx,if_pos ry]
   rw[ey,e];exact Ou.ifT rfl (flds _ _ (.inr ⟨rx,ry,rfl,rfl⟩) (yW y) (par_sl y hsy ry))
  ·have ey:iW l y=(0,[],false):=if_neg ry;rw[ey];refine Ou.ifF rfl ?_;by_cases hk:x.k=y.k
   ·refine Ou.ifF (by simp[hk]) ?_;by_cases k3:x.k=3
    ·have e:xV l true x y=.pi (vO x.sub 0) (vO y.sub 0) (vO x.sub 1) (vO y.sub 1):=by unfold xV;rw[if_neg n4,if_neg rx,if_neg ry,if_neg (by simpa using hk),if_pos k3]
     obtain⟨a,b,hab,hga,hgb⟩:=vM hgx (.inl k3);obtain⟨a',b',hab',hga',hgb'⟩:=vM hgy (.inl (by omega));have ea:vO x.sub 0=a:=by rw[hab];rfl
     have eb:vO x.sub 1=b:=by rw[hab];rfl
     have ea':vO y.sub 0=a':=by rw[hab'];rfl
     have eb':vO y.sub 1=b':=by rw[hab'];rfl
     have w1:=gZ l x;have w2:=gZ l y;rw[hab,rG,rG,rG]at w1;rw[hab',rG,rG,rG]at w2;have v1:=(gY l x.k x.n).1;have v2:=(gY l y.k y.n).1;rw[e,ea,eb,ea',eb'];refine Ou.ifT (by simp[k3]) (Ou.pure (a:=a) (by rw[hab];rfl) (Ou.pure (a:=a') (by rw[hab'];rfl) ?_));refine zPl (c:=λe L U q=>zO x.sub 1>>=λx52=>zO y.sub 1>>=λx54=>oV q l l (mJ l l.length 0) (l.map xZ) (l.map tW) l L U e x52 x54>>=λr56=>some (r56.1,r56.2.1,r56.2.2.1,r56.2.2.2)) (hB false a a' (wR a hga) (wR a' hga') (by omega) f hf (Int.le_refl f)) λk k0 k1=>?_;exact Ou.pure (a:=b) (by rw[hab];rfl) (Ou.pure (a:=b') (by rw[hab'];rfl) (HX.same (hB true b b' (wR b hgb) (wR b' hgb') (by omega) (f-k) (by omega) (by omega))))
    ·refine Ou.ifF (by simpa using k3) ?_;by_cases k2:x.k=2
     ·have e:xV l true x y=.ans (if true=true then decide (x.n<=y.n)else x.n==y.n):=by unfold xV;rw[if_neg n4,if_neg rx,if_neg ry,if_neg (by simpa using hk),if_neg k3,if_pos k2]
      rw[e];refine Ou.ifT (by simp[k2]) (Ou.evt (a:=if true=true then decide (x.n<=y.n)else x.n==y.n) (zB.mk λq=>?_) (pW hf));simp[zVW]
     ·have e:xV l true x y=nE x y:=by unfold xV;rw[if_neg n4,if_neg rx,if_neg ry,if_neg (by simpa using hk),if_neg k3,if_neg k2]
      rw[e];exact Ou.ifF (by simpa using k2) (HX.same (m5 l true x y hsx hsy f hf hB))
   ·have e:xV l true x y=.ans false:=by unfold xV;rw[if_neg n4,if_neg rx,if_neg ry,if_pos hk]
    rw[e];exact Ou.ifT (by simpa using hk) (pW hf)
theorem zLB{N:ByteArray->Bool}(l:List zX)(hE:wP N l)(m:Bool)(x y:Tm)(hsx:zJ x=true)(hsy:zJ y=true)(f:Int)(hf:0<=f)(hB:BC l f (sG l x+sG l y)):HX (λL U q=>zLA l m L U 0 q x y) (I7 (Cv l) m (xV l m x y)) f:=by cases m with|false=>exact zHF l hE x y hsx hsy f hf hB|true=>exact zHG l hE x y hsx hsy f hf hB
def zHH(a:Nat)(M:wA):Option (Int):=some (M.l.length:Int)
theorem zPi{a M}:Cz (zHH a M) 137 [mB M 1,mR M] [.mp 0 0] (λr=>ai r) (λ_=>[mB M 1,mR M]) 0:=fw func137<|fE 3
def zHI(a:Nat)(M:wA):Option yB:=e51 a M.l>>=λr1=>some r1
theorem zVZ{a M}:Cz (zHI a M) 138 [mB M 1,mR M] [.mp 0 0] (λr=>.sl (zH zP r) r.length .no) (λ_=>[mB M 1,mR M]) 0:=fw func138<|rC 2 [] c51 λ_=>fE 0
def m7(w:Nat)(f g:yB)(m:sI)(n p:yH)(q:yB)(t u v s a:Int)(b:yA)(c d:Int)(e:yA):Option (Bool×Int×Int×Int):=oV w f g m n p q t u v (Tm.mk s a b) (Tm.mk c d e)>>=λr1=>some (r1.1,r1.2.1,r1.2.2.1,r1.2.2.2)
theorem zPh{w f g m n p q t u v s a b c d e}:Cz (m7 w f g m n p q t u v s a b c d e) 323 [.cells [.mp 1 0,zC zP q .no,.mp 3 0,ai v],qB f 2 n p,qR g m,.cells [ai t,ai u],.cells [ai s,ai a,zC zA b .no],.cells [ai c,ai d,zC zA e .no]] [.mp 0 0,.mp 4 0,.mp 5 0] (λr=>ab r.1) (λr=>[.cells [.mp 1 0,zC zP q .no,.mp 3 0,ai r.2.1],qB f 2 n p,qR g m,.cells [ai r.2.2.1,ai r.2.2.2],.cells [ai s,ai a,zC zA b .no],.cells [ai c,ai d,zC zA e .no]]) 0:=fw func323<|rC 2 [0,1,2,3] zPm λ_=>fE 0
def zCV(f:Nat)(g m:yB)(n:sI)(p q:yH)(v w:Tm)(s t u a:Int)(b:yA)(c d:Int)(e:yA):Option (Bool×Int×Int×Int):=zHH f (wA.mk g m n p q)>>=λr1=>Y4 f v 1048577 r1>>=λr3=>if r3 then zHH f (wA.mk g m n p q)>>=λr6=>Y4 f w 1048577 r6>>=λr8=>if r8 then zHI f (wA.mk g m n p q)>>=λr11=>m7 f g m n p q r11 s t 0 u a b c d e>>=λr13=>if r13.1 then some ((r13.2.1==0),r13.2.1,r13.2.2.1,r13.2.2.2)else some (false,r13.2.1,r13.2.2.1,r13.2.2.2)else some (false,5,s,t)else some (false,5,s,t)
theorem zSN{f g m n p q v w s t u a b c d e}:Cz (zCV f g m n p q v w s t u a b c d e) 69 [qB g 1 p q,qR m n,.cells [ai s,ai t],.cells [ai u,ai a,zC zA b .no],.cells [ai c,ai d,zC zA e .no]] [.mp 0 0,yL v,yL w,.mp 2 0,.clo 323 [] [.mp 3 0,.mp 4 0]] (λr=>.tup [ab r.1,ai r.2.1]) (λr=>[qB g 1 p q,qR m n,.cells [ai r.2.2.1,ai r.2.2.2],.cells [ai u,ai a,zC zA b .no],.cells [ai c,ai d,zC zA e .no]]) 0:=fw func69<|rC 2 [0,1] zPi λ_=>rK 0 [] zGN (λ_=>rC 2 [0,1] zPi λ_=>rK 0 [] zGN (λ_=>rC 1 [0,1] zVZ λ_=>rK 0 [7,0,1,2,3,4] zPh (λ_=>fE 3) λ_=>fE 1) λ_=>fE 1) λ_=>fE 1
def zLC(e:Nat)(M:wA)(a b:Tm)(c d:Int):Option (Bool×Int×Int×Int):=zCV e M.l M.rl M.parts M.args M.own a b c d a.k a.n a.sub b.k b.n b.sub>>=λr1=>some (r1.1,r1.2.1,r1.2.2.1,r1.2.2.2)
theorem zYM{e M a b c d}:Cz (zLC e M a b c d) 307 [mB M 1,mR M,.cells [ai c,ai d]] [.mp 0 0,yL a,yL b,.mp 2 0] (λr=>.tup [ab r.1,ai r.2.1]) (λr=>[mB M 1,mR M,.cells [ai r.2.2.1,ai r.2.2.2]]) 0:=fw func307<|rC 2 [0,1,2,3,4] zSN λ_=>fE 2
def zCW(w:Nat)(f g:yB)(m:sI)(n p:yH)(q:yB)(t u v s a:Int)(b:yA)(c d:Int)(e:yA):Option (Bool×Int×Int×Int):=wX w f g m n p q t u v (Tm.mk s a b) (Tm.mk c d e)>>=λr1=>some (r1.1,r1.2.1,r1.2.2.1,r1.2.2.2)
theorem zSO{w f g m n p q t u v s a b c d e}:Cz (zCW w f g m n p q t u v s a b c d e) 70 [.cells [.mp 1 0,zC zP q .no,.mp 3 0,ai v],qB f 2 n p,qR g m,.cells [ai t,ai u],.cells [ai s,ai a,zC zA b .no],.cells [ai c,ai d,zC zA e .no]] [.mp 0 0,.mp 4 0,.mp 5 0] (λr=>ab r.1) (λr=>[.cells [.mp 1 0,zC zP q .no,.mp 3 0,ai r.2.1],qB f 2 n p,qR g m,.cells [ai r.2.2.1,ai r.2.2.2],.cells [ai s,ai a,zC zA b .no],.cells [ai c,ai d,zC zA e .no]]) 0:=fw func70<|rC 2 [0,1,2,3] T6 λ_=>fE 0
def zCX(f:Nat)(g m:yB)(n:sI)(p q:yH)(v w:Tm)(s t u a:Int)(b:yA)(c d:Int)(e:yA):Option (Bool×Int×Int×Int):=zHH f (wA.mk g m n p q)>>=λr1=>Y4 f v 1048577 r1>>=λr3=>if r3 then zHH f (wA.mk g m n p q)>>=λr6=>Y4 f w 1048577 r6>>=λr8=>if r8 then zHI f (wA.mk g m n p q)>>=λr11=>zCW f g m n p q r11 s t 0 u a b c d e>>=λr13=>if r13.1 then some ((r13.2.1==0),r13.2.1,r13.2.2.1,r13.2.2.2)else some (false,r13.2.1,r13.2.2.1,r13.2.2.2)else some (false,5,s,t)else some (false,5,s,t)
theorem zSP{f g m n p q v w s t u a b c d e}:Cz (zCX f g m n p q v w s t u a b c d e) 69 [qB g 1 p q,qR m n,.cells [ai s,ai t],.cells [ai u,ai a,zC zA b .no],.cells [ai c,ai d,zC zA e .no]] [.mp 0 0,yL v,yL w,.mp 2 0,.clo 70 [] [.mp 3 0,.mp 4 0]] (λr=>.tup [ab r.1,ai r.2.1]) (λr=>[qB g 1 p q,qR m n,.cells [ai r.2.2.1,ai r.2.2.2],.cells [ai u,ai a,zC zA b .no],.cells [ai c,ai d,zC zA e .no]]) 0:=fw func69<|rC 2 [0,1] zPi λ_=>rK 0 [] zGN (λ_=>rC 2 [0,1] zPi λ_=>rK 0 [] zGN (λ_=>rC 1 [0,1] zVZ λ_=>rK 0 [7,0,1,2,3,4] zSO (λ_=>fE 3) λ_=>fE 1) λ_=>fE 1) λ_=>fE 1
def e40(e:Nat)(M:wA)(a b:Tm)(c d:Int):Option (Bool×Int×Int×Int):=zCX e M.l M.rl M.parts M.args M.own a b c d a.k a.n a.sub b.k b.n b.sub>>=λr1=>some (r1.1,r1.2.1,r1.2.2.1,r1.2.2.2)
theorem c40{e M a b c d}:Cz (e40 e M a b c d) 40 [mB M 1,mR M,.cells [ai c,ai d]] [.mp 0 0,yL a,yL b,.mp 2 0] (λr=>.tup [ab r.1,ai r.2.1]) (λr=>[mB M 1,mR M,.cells [ai r.2.2.1,ai r.2.2.2]]) 0:=fw func40<|rC 2 [0,1,2,3,4] zSP λ_=>fE 2
theorem zPg{N:ByteArray->Bool}(l:List zX)(hE:wP N l)(he:∀e∈l,nU e):∀(F n:Nat)(m:Bool)(x y:Tm),x.Ok->y.Ok->sG l x+sG l y<=n->HC l m x y (F:Int):=by intro F;induction F using Nat.strongRecOn with|ind F IH=>intro n;induction n with|zero=>intro m x y _ _ h;have:=zCQ l x;omega|succ n ih=>
 intro m x y hx hy hn;have fin:∀(m:Bool)(k:Int)(x' y':Tm)(j1 j2:Int),xG l x->xG l y->Br l x x' 0 j1->Br l y y' 0 j2->k=j1+j2->k<=F->Ou (λL U q=>zLA l m L U 0 q x' y'>>=λr4=>some (r4.1,r4.2.1,r4.2.2.1,r4.2.2.2)) zCT (λR n=>QX (Cv l m x y) R (k+n)) (∀b k,Cv l m x y b k->(F:Int)<k) ((F:Int)-k):=λm k x' y' j1 j2 hR1 hR2 hb1 hb2 hk k1=>by
  have n1:=hb1.nn;have n2:=hb2.nn;have hB:BC l ((F:Int)-k) (sG l x'+sG l y'):=λm p q hp hq hw g g0 g1=>by
   by_cases hk0:k<=0
   ·have e1:=hb1.zero rfl (by omega);have e2:=hb2.zero rfl (by omega);subst e1;subst e2;by_cases hg:g=F
    ·subst hg;exact ih m p q hp hq (by omega)
    ·have:=IH g.toNat (by omega) (sG l p+sG l q) m p q hp hq (Nat.le_refl _);rwa[show((g.toNat:Nat):Int)=g by omega]at this
   ·have:=IH g.toNat (by omega) (sG l p+sG l q) m p q hp hq (Nat.le_refl _);rwa[show((g.toNat:Nat):Int)=g by omega]at this
  have h:=HX.same (zLB l hE m x' y' (hb1.shaped hR1.shaped rfl) (hb2.shaped hR2.shaped rfl) ((F:Int)-k) (by omega) hB);refine Ou.mono h ?_ λhs b k' hc=>?_
  ·rintro R n _ _⟨b,e,h8,h0,hn',rfl⟩;refine⟨b,e,h8,λhe=>?_,λhe=>⟨(hn' he).1,λb' k' hc=>?_⟩,rfl⟩
   ·have:=Cv.mk hR1 hR2 hb1 hb2 (h0 he);rwa[hk]
   ·obtain⟨-,-,x1,i1,y1,i2,i3,h1,h2,h3,-⟩:=hc.inv;obtain⟨rfl,-,-⟩:=hb1.det h1;obtain⟨rfl,-,-⟩:=hb2.det h2;exact(hn' he).2 _ _ h3
  ·obtain⟨-,-,x1,i1,y1,i2,i3,h1,h2,h3,rfl⟩:=hc.inv;obtain⟨rfl,-,rfl⟩:=hb1.det h1;obtain⟨rfl,-,rfl⟩:=hb2.det h2;have:=hs _ _ h3;omega
 cases m
 ·refine Ou.succ ?_;simp only[R6,wX];refine Ou.bind (zFL l hE he x y hx hy F (by omega)) (λh b k hc=>h _ _ _ hc) (λr hr=>?_) ?_
  ·have:=zUi hr;refine⟨_,zB.ifF this.1 zB.ret,?_⟩;unfold zCT;rw[if_neg (by simp)];exact this.2
  ·rintro R k k0 k1(⟨x',j1,y',j2,hR1,hR2,hb1,hb2,rfl,rfl⟩|⟨a,b,e,e0,e8,hno,rfl⟩);·exact Ou.ifT rfl (fin false (j1+j2) x' y' j1 j2 hR1 hR2 hb1 hb2 rfl k1)
   ·exact Ou.ifF rfl (Ou.ret (by omega) (mL e8 e0 λb k=>hno _ b k))
 ·refine Ou.succ ?_;simp only[R6,oV];refine Ou.bind (zFL l hE he x y hx hy F (by omega)) (λh b k hc=>h _ _ _ hc) (λr hr=>?_) ?_;·have:=zUi hr;refine⟨_,zB.ifF this.1 zB.ret,?_⟩;unfold zCT;rw[if_neg (by simp)];exact this.2
  ·rintro R k k0 k1(⟨x',j1,y',j2,hR1,hR2,hb1,hb2,rfl,rfl⟩|⟨a,b,e,e0,e8,hno,rfl⟩);·exact Ou.ifT rfl (fin true (j1+j2) x' y' j1 j2 hR1 hR2 hb1 hb2 rfl k1)
   ·exact Ou.ifF rfl (Ou.ret (by omega) (mL e8 e0 λb k=>hno _ b k))
def zWz(l:List zX)(m:Bool)(L U:Int)(q:Nat)(x y:Tm):Option (Bool×Int×Int×Int):=match m with|false=>e40 q (wF l) x y L U|true=>zLC q (wF l) x y L U
theorem zCY{N:ByteArray->Bool}(l:List zX)(hE:wP N l)(he:∀e∈l,nU e)(hl:l.length<=65535)(hc:∀e∈l,ECl e)(m:Bool)(x y:Tm)(hx:x.Ok)(hy:y.Ok)(f:Int)(hf:0<=f):HX (λL U q=>zWz l m L U q x y) (Cv l m x y) f:=by
 have hC:=zPg l hE he f.toNat (sG l x+sG l y) m x y hx hy (Nat.le_refl _);rw[show((f.toNat:Nat):Int)=f by omega]at hC;have hLen:zB (λq=>zHH q (wF l)) (l.length:Int):=zB.mk λ_=>rfl;have hEnt:zB (λq=>zHI q (wF l)) l:=by simp only[zHI];exact((F9 l hl he hc).eq (kR hE)).bind zB.ret
 have post:HX (λL U q=>(R6 l m L U 0 q x y>>=λr1=>some (r1.1,r1.2.1,r1.2.2.1,r1.2.2.2))>>=λr13=>if r13.1=true then some ((r13.2.1==0),r13.2.1,r13.2.2.1,r13.2.2.2)else some (false,r13.2.1,r13.2.2.1,r13.2.2.2)) (Cv l m x y) f:=by
  refine Ou.bind (HX.same hC) id (λr hr=>?_) ?_
  ·have:=M0 hr;refine⟨_,zB.ifF this.1 zB.ret,?_⟩;unfold zCT;rw[if_neg (by simp)];exact this.2
  ·rintro R k k0 k1⟨b,e,h8,h0,hn,rfl⟩;dsimp only;by_cases e0:e=0
   ·subst e0;have hX:=h0 rfl;cases b with|true=>exact Ou.ifT rfl (Ou.ret (by omega) (zBh (b:=true) (by rwa[Int.add_zero])))|false=>exact Ou.ifF rfl (Ou.ret (by omega) (zBh (by rwa[Int.add_zero])))
   ·obtain⟨rfl,hno⟩:=hn e0;exact Ou.ifF rfl (Ou.ret (by omega) (mL h8 e0 hno))
 have bad1:¬xG l x->∀b k,¬Cv l m x y b k:=λh b k hc=>h hc.inv.1;have bad2:¬xG l y->∀b k,¬Cv l m x y b k:=λh b k hc=>h hc.inv.2.1;cases m with
 |false=>
  simp only[zWz,e40,zCX];refine HX.same ?_;refine Ou.evt hLen (Ou.evt (mD x 1048577 l.length hx) (Ou.ite (λh1=>?_) λh1=>?_))
  ·refine Ou.evt hLen (Ou.evt (mD y 1048577 l.length hy) (Ou.ite (λh2=>?_) λh2=>?_))
   ·refine Ou.evt hEnt ?_;simp only[zCW,vF];exact post
   ·exact Ou.ret hf (mL (by decide) (by decide) (bad2 (by unfold xG;rw[h2];simp)))
  ·exact Ou.ret hf (mL (by decide) (by decide) (bad1 (by unfold xG;rw[h1];simp)))|true=>
  simp only[zWz,zLC,zCV];refine HX.same ?_;refine Ou.evt hLen (Ou.evt (mD x 1048577 l.length hx) (Ou.ite (λh1=>?_) λh1=>?_))
  ·refine Ou.evt hLen (Ou.evt (mD y 1048577 l.length hy) (Ou.ite (λh2=>?_) λh2=>?_))
   ·refine Ou.evt hEnt ?_;simp only[m7,vF];exact post
   ·exact Ou.ret hf (mL (by decide) (by decide) (bad2 (by unfold xG;rw[h2];simp)))
  ·exact Ou.ret hf (mL (by decide) (by decide) (bad1 (by unfold xG;rw[h1];simp)))
def zFM(c:Nat)(a b:Tm):Option (Tm):=zEc c 3 0 [a,b]>>=λr1=>some r1
theorem zSQ{c a b}:Cz (zFM c a b) 187 [] [yL a,yL b] (λr=>yL r) (λ_=>[]) 0:=fw func187<|rS (oS 2 (yU xH [a,b]))<|rC 0 [] zGQ λ_=>fE 1
def qD:Nat->yA->Int->Int->Int->yA->Option (Tm×Int)|0,_,_,_,_,_=>none|e+1,d,g,a,b,c=>if decide (g<(d.length:Int))then zO d (yJ ((yJ ((d.length:Int)-1))-g))>>=λx12=>zFM e x12 (Tm.mk a b c)>>=λr14=>qD e d (yJ (g+1)) r14.k r14.n r14.sub else qV e (Tm.mk a b c)>>=λr16=>if r16 then e96 e (Tm.mk a b c)>>=λr19=>some (r19,0)else some ((Tm.mk 0 0 []),2)
def qE:Nat->yA->Tm->Int->Option (Tm×Int)|0,_,_,_=>none|e+1,d,f,m=>if decide (m<(d.length:Int))then zO d m>>=λx3=>qV e x3>>=λr5=>if r5 then qE e d f (yJ (m+1))else some ((Tm.mk 0 0 []),5)else qV e f>>=λr8=>if r8 then qD e d 0 f.k f.n f.sub else some ((Tm.mk 0 0 []),5)
def m8(e:Nat)(d:yA)(f:Tm):Option (Tm×Int):=if decide ((d.length:Int)>24)then some ((Tm.mk 0 0 []),2)else qE e d f 0
theorem zFN:∀e:Nat,∀d g a b c,Lz (qD e d g a b c) 0 f186 (pt 65461 f186) (λj=>sp j 53 0 [(0,zC zA d .no),(2,.clo 187 [] []),(4,.mp 0 0),(6,.mp 1 0),(31,ai (d.length:Int)),(32,ai g)]) ⟨[(0,.cells [ai a,ai b,zC zA c .no]),(1,.cells [ai 0,ai 0,zC zA ([]:yA) .nl])],2,[],0,[]⟩ (λr=>.tup [yL r.1,ai r.2]) (λ_=>[]) 0 [.blk 2,.seq (pt 1023 f186)]:=xF (λ_ _ _ _ _=>lN) λe ih=>λd g a b c=>lw λ_=>rB 0 (rA 3 (xA (o:=.no)) λ_=>rC 2 [] zSQ λ_=>lH 2 [] [0,1] [] [0,2,4,6,31,32] (ih _ _ _ _ _))<|rK 1 [] pP (λ_=>rC 2 [] c96 λ_=>lE 1) λ_=>lE 2
theorem zFO:∀e:Nat,∀d f m,Lz (qE e d f m) 0 f186 (pt 4021 f186) (λj=>sp j 53 0 [(0,zC zA d .no),(2,.clo 187 [] []),(4,.mp 0 0),(6,.mp 1 0),(15,zC zA d .no),(16,ai (d.length:Int)),(17,ai m)]) ⟨[(0,.cells [ai f.k,ai f.n,zC zA f.sub .no]),(1,.cells [ai 0,ai 0,zC zA ([]:yA) .nl])],2,[],0,[]⟩ (λr=>.tup [yL r.1,ai r.2]) (λ_=>[]) 0 [.blk 0,.seq (pt 63 f186)]:=xF (λ_ _ _=>lN) λe ih=>λd f m=>lw λ_=>rB 0 (rA 0 (xA (o:=.no)) λ_=>rK 3 [] pP (λ_=>lH 2 [] [0,1] [] [0,2,4,6,15,16,17] (ih _ _ _)) λ_=>lE 2)<|rK 1 [] pP (λ_=>lH 2 [] [0,1] [] [0,2,4,6,31,32] (zFN _ _ _ _ _ _)) λ_=>lE 2
theorem zPf{e d f}:Cz (m8 e d f) 186 [] [zC zA d .no,yL f,.clo 187 [] []] (λr=>.tup [yL r.1,ai r.2]) (λ_=>[]) 0:=fw func186<|rB 1 (fE 1)<|fH 1 [] [0,1] [] [0,2,4,6,15,16,17] (zFO _ _ _ _)
def zAl(c:Nat)(a:yA)(b:Tm):Option (Tm×Int):=m8 c a b>>=λr1=>some (r1.1,r1.2)
theorem m9{c a b}:Cz (zAl c a b) 128 [] [zC zA a .no,yL b] (λr=>.tup [yL r.1,ai r.2]) (λ_=>[]) 0:=fw func128<|rC 1 [] zPf λ_=>fE 3
def zWy(c:Nat)(a:yB)(d b:Int):Option (Int):=aP c a>>=λr1=>if r1 then zHh c a d 1>>=λr4=>if r4 then if decide (b<0)then some 16 else if decide (b>7)then some 16 else some 0 else some 16 else some 5
theorem yBx{c a d b}:Cz (zWy c a d b) 260 [] [zC zP a .no,ai d,ai b] (λr=>ai r) (λ_=>[]) 0:=fw func260<|rK 0 [] c47 (λ_=>rK 1 [] zSg (λ_=>rB 1 (fE 0)<|rB 0 (fE 0)<|fE 0) λ_=>fE 1) λ_=>fE 1
def e48(b:Nat)(a:yB)(c:Int):Option (yA×yA×Int):=aP b a>>=λr1=>if r1 then e90 b a c 1>>=λr4=>if r4 then zO a c>>=λx7=>e91 b x7.type (yJ (x7.pars+x7.inds))>>=λr9=>sN r9.1 0 x7.pars>>=λx11=>sN r9.1 x7.pars (r9.1.length:Int)>>=λx13=>some (x11,x13,0)else some ([],[],16)else some ([],[],5)
theorem c48{b a c}:Cz (e48 b a c) 48 [] [zC zP a .no,ai c] (λr=>.tup [.sl (zH zA r.1) r.1.length .no,.sl (zH zA r.2.1) r.2.1.length .no,ai r.2.2]) (λ_=>[]) 0:=fw func48<|rK 0 [] c47 (λ_=>rK 1 [] c90 (λ_=>rH λ_ h8=>rS (oA 1 (xN (o:=.no) h8))<|rS (oA 1 (xN (o:=.no) h8))<|rS (oA 1 (xN (o:=.no) h8))<|rC 2 [] c91 λ_=>rS (oA 4 (xN (o:=.no) h8))<|rS (oA 1 (xN (o:=.no) h8))<|rA 1 (mA (o:=.no)) λ_=>rS (oA 0 (xN (o:=.no) h8))<|rA 1 qU λ_=>fE 0) λ_=>fE 1) λ_=>fE 1
def zSR(b:Nat)(a:Int)(e:yB)(c f:Int)(d:yA):Option (Tm×Int):=e48 b e c>>=λr1=>L8 b c>>=λr3=>R3 b a d (r1.2.1.length:Int)>>=λr5=>nM b r3 r5.1>>=λr7=>s7 b (r1.2.1.length:Int)>>=λr9=>nM b r7 r9>>=λr11=>zFi b r5.2 r1.2.1 d>>=λr13=>yT 40 r13.1 [r11]>>=λl15=>Q8 b f>>=λr17=>zAl b l15 r17>>=λr19=>s9 b r13.2 r19.1 r19.2>>=λr21=>some (r21.1,r21.2)
theorem zYO{b a e c f d}:Cz (zSR b a e c f d) 261 [.cells [ai a]] [.mp 0 0,zC zP e .no,ai c,ai f,zC zA d .no] (λr=>yL r.1) (λr=>[.cells [ai r.2]]) 0:=fw func261<|rC 0 [] c48 λ_=>rC 4 [] R5 λ_=>rC 0 [0] s8 λ_=>rC 0 [] oI λ_=>rC 0 [] aS λ_=>rC 0 [] oI λr11=>rC 1 [0] zLm λ_=>rS (oS 1 (yU xH [r11]))<|rW (λh16=>oP 0 (xY h16 (by simp))) λ_=>rC 0 [] zCj λ_=>rC 0 [] m9 λ_=>rC 2 [0] zAn λ_=>fE 1
def zSS(b:Nat)(a:yB)(c:Int):Option (uK×Int):=aP b a>>=λr1=>if r1 then e90 b a c 2>>=λr4=>if r4 then zOG b a c>>=λr7=>some (r7,0)else some ((uK.mk [] [] []),16)else some ((uK.mk [] [] []),5)
theorem yBw{b a c}:Cz (zSS b a c) 299 [] [zC zP a .no,ai c] (λr=>.tup [zUM r.1,ai r.2]) (λ_=>[]) 0:=fw func299<|rK 0 [] c47 (λ_=>rK 1 [] c90 (λ_=>rC 1 [] zYe λ_=>fE 1) λ_=>fE 2) λ_=>fE 2
def iB:Nat->tK->Int->Int->Int->yA->Int->Int->Int->Int->yA->Option (Tm×Int)|0,_,_,_,_,_,_,_,_,_,_=>none|g+1,a,q,m,p,b,s,c,d,e,f=>if decide (s<(a.at'.length:Int))then zO a.at' s>>=λx14=>zHi g c x14 (a.around.length:Int) b>>=λr16=>kI g (Tm.mk d e f) r16.1>>=λr18=>iB g a q m p b (yJ (s+1)) r16.2 r18.k r18.n r18.sub else iU g (yJ ((yJ ((yJ ((yJ (m-q))+p))-1))+(a.around.length:Int)))>>=λr20=>s7 g (a.around.length:Int)>>=λr22=>nM g r20 r22>>=λr24=>kI g (Tm.mk d e f) r24>>=λr26=>zFi g c a.around b>>=λr28=>zAl g r28.1 r26>>=λr30=>s9 g r28.2 r30.1 r30.2>>=λr32=>some (r32.1,r32.2)
def iC:Nat->Tm->tK->Int->Int->Int->(yA×Int)->yA->Int->Option (Tm×Int)|0,_,_,_,_,_,_,_,_=>none|g+1,u,a,q,m,p,r1,b,t=>if decide (t<q)then iU g (yJ ((yJ ((yJ (m-1))-t))+p))>>=λr7=>yT 40 b [r7]>>=λl9=>iC g u a q m p r1 l9 (yJ (t+1))else zLl g r1.2 u (yJ ((yJ (m+p))+(a.around.length:Int)))>>=λr11=>iB g a q m p b 0 r11.2 r11.1.k r11.1.n r11.1.sub
def zST(g:Nat)(v:Int)(w:yA)(u:Tm)(a:tK)(q m p:Int):Option (Tm×Int):=R3 g v w (yJ (m+p))>>=λr1=>yT 40 ([]:yA) r1.1>>=λl3=>iC g u a q m p r1 l3 0
theorem zJh:∀g:Nat,∀a q m p b s c d e f,Lz (iB g a q m p b s c d e f) 1 f300 (pt 4194229 f300) (λj=>sp j 97 0 [(0,.mp 0 0),(10,.mp 1 0),(14,.mp 2 0),(15,ai (yJ ((yJ (m-q))+p))),(16,ai (a.around.length:Int)),(17,zC zA b (.st 0 3)),(19,.mp 3 0),(62,zC zA a.at' .no),(63,ai (a.at'.length:Int)),(64,ai s)]) ⟨[(0,.cells [ai c]),(1,.cells [ab a.is,zC zA a.around .no,zC zA a.at' .no]),(2,.cells [ai 0,ai 0,zC zA ([]:yA) .nl]),(3,.cells [ai d,ai e,zC zA f .no])],4,[0],1,[]⟩ (λr=>yL r.1) (λr=>[.cells [ai r.2]]) 0 [.blk 2,.seq (pt 65535 f300)]/\Lz (iB g a q m p b s c d e f) 1 f300 (pt 4194229 f300) (λj=>sp j 97 0 [(0,.mp 0 0),(10,.mp 1 0),(14,.mp 2 0),(15,ai (yJ ((yJ (m-q))+p))),(16,ai (a.around.length:Int)),(17,zC zA b .nl),(19,.mp 3 0),(62,zC zA a.at' .no),(63,ai (a.at'.length:Int)),(64,ai s)]) ⟨[(0,.cells [ai c]),(1,.cells [ab a.is,zC zA a.around .no,zC zA a.at' .no]),(2,.cells [ai 0,ai 0,zC zA ([]:yA) .nl]),(3,.cells [ai d,ai e,zC zA f .no])],4,[],0,[]⟩ (λr=>yL r.1) (λr=>[.cells [ai r.2]]) 0 [.blk 2,.seq (pt 65535 f300)]:=xF (λ_ _ _ _ _ _ _ _ _ _=>⟨lN,lN⟩) λg ih=>λa q m p b s c d e f=>⟨lw λ_=>rB 0 (rA 0 (xA (o:=.no)) λ_=>rC 4 [0] zLn λ_=>rC 0 [] nL λ_=>lH 2 [] [0,1,2,3] [0] [0,10,14,15,16,17,19,62,63,64] ((ih _ _ _ _ _ _ _ _ _ _).1))<|rC 3 [] kL λ_=>rC 0 [] aS λ_=>rC 0 [] oI λ_=>rC 0 [] nL λ_=>rC 2 [0] zLm λ_=>rC 1 [] m9 λ_=>rC 2 [0] zAn λ_=>lE 1,lw λ_=>rB 0 (rA 0 (xA (o:=.no)) λ_=>rC 4 [0] zLn λ_=>rC 0 [] nL λ_=>lH 2 [] [0,1,2,3] [] [0,10,14,15,16,17,19,62,63,64] ((ih _ _ _ _ _ _ _ _ _ _).2))<|rC 3 [] kL λ_=>rC 0 [] aS λ_=>rC 0 [] oI λ_=>rC 0 [] nL λ_=>rC 2 [0] zLm λ_=>rC 1 [] m9 λ_=>rC 2 [0] zAn λ_=>lE 1⟩
theorem zJg:∀g:Nat,∀u a q m p r1 b t,Lz (iC g u a q m p r1 b t) 1 f300 (pt 262069 f300) (λj=>sp j 97 0 [(0,.mp 0 0),(5,ai m),(6,ai p),(9,.mp 1 0),(10,.mp 2 0),(14,.mp 3 0),(15,ai (yJ ((yJ (m-q))+p))),(16,ai (a.around.length:Int)),(17,zC zA b .nl),(38,ai q),(39,ai t)]) ⟨[(0,.cells [ai r1.2]),(1,.cells [ai u.k,ai u.n,zC zA u.sub .no]),(2,.cells [ab a.is,zC zA a.around .no,zC zA a.at' .no]),(3,.cells [ai 0,ai 0,zC zA ([]:yA) .nl])],4,[],0,[]⟩ (λr=>yL r.1) (λr=>[.cells [ai r.2]]) 0 [.blk 0,.seq (pt 4095 f300)]/\Lz (iC g u a q m p r1 b t) 1 f300 (pt 262069 f300) (λj=>sp j 97 0 [(0,.mp 0 0),(5,ai m),(6,ai p),(9,.mp 1 0),(10,.mp 2 0),(14,.mp 3 0),(15,ai (yJ ((yJ (m-q))+p))),(16,ai (a.around.length:Int)),(17,zC zA b (.st 0 3)),(38,ai q),(39,ai t)]) ⟨[(0,.cells [ai r1.2]),(1,.cells [ai u.k,ai u.n,zC zA u.sub .no]),(2,.cells [ab a.is,zC zA a.around .no,zC zA a.at' .no]),(3,.cells [ai 0,ai 0,zC zA ([]:yA) .nl])],4,[0],1,[]⟩ (λr=>yL r.1) (λr=>[.cells [ai r.2]]) 0 [.blk 0,.seq (pt 4095 f300)]:=xF (λ_ _ _ _ _ _ _ _=>⟨lN,lN⟩) λg ih=>λu a q m p r1 b t=>⟨lw λ_=>rB 0 (rC 3 [] kL λr7=>rS (oS 0 (yU xH [r7]))<|rW (λh10=>oP 0 (xY h10 (by simp))) λ_=>lH 1 [] [0,1,2,3] [0] [0,5,6,9,10,14,15,16,17,38,39] ((ih _ _ _ _ _ _ _ _).2))<|rC 3 [0] zHg λ_=>lH 3 [] [0,2,3,4] [] [0,10,14,15,16,17,19,62,63,64] ((zJh _ _ _ _ _ _ _ _ _ _ _).2),lw λ_=>rB 0 (rC 3 [] kL λr7=>rS (oS 0 (yU xH [r7]))<|rW (λh10=>oP 0 (xY h10 (by simp))) λ_=>lH 1 [] [0,1,2,3] [1] [0,5,6,9,10,14,15,16,17,38,39] ((ih _ _ _ _ _ _ _ _).2))<|rC 3 [0] zHg λ_=>lH 3 [] [0,2,3,4] [0] [0,10,14,15,16,17,19,62,63,64] ((zJh _ _ _ _ _ _ _ _ _ _ _).1)⟩
theorem yBv{g v w u a q m p}:Cz (zST g v w u a q m p) 300 [.cells [ai v]] [.mp 0 0,zC zA w .no,yL u,zUL a,ai q,ai m,ai p] (λr=>yL r.1) (λr=>[.cells [ai r.2]]) 0:=fw func300<|rC 5 [0] s8 λr1=>rH λ_ h4=>rZ (List.length r1.1=0) (λh5=>rS (oP 0 (qT h4 h5))<|fH 0 [] [0,1,2,3] [] [0,5,6,9,10,14,15,16,17,38,39] ((zJg _ _ _ _ _ _ _ _ _).1)) λh5=>rS (oP 0 (xY h4 h5))<|fH 0 [] [0,1,2,3] [0] [0,5,6,9,10,14,15,16,17,38,39] ((zJg _ _ _ _ _ _ _ _ _).2)
def iD:Nat->Int->(uK×Int)->yA->yA->(yA×Int)->yA->Int->Int->Int->Int->yA->Option (Tm×Int)|0,_,_,_,_,_,_,_,_,_,_,_=>none|d+1,p,r1,b,c,r18,l23,t,a,e,f,g=>if decide (t<(r1.1.inds.length:Int))then zO r1.1.inds t>>=λx29=>zHi d a x29 0 l23>>=λr31=>kI d (Tm.mk e f g) r31.1>>=λr33=>iD d p r1 b c r18 l23 (yJ (t+1)) r31.2 r33.k r33.n r33.sub else L8 d p>>=λr35=>nM d r35 r18.1>>=λr37=>nM d r37 c>>=λr39=>kI d (Tm.mk e f g) r39>>=λr41=>zAl d b r41>>=λr43=>s9 d a r43.1 r43.2>>=λr45=>some (r45.1,r45.2)
def dP:Nat->Int->yA->Tm->(uK×Int)->yA->Int->Int->yA->Int->Option (Tm×Int)|0,_,_,_,_,_,_,_,_,_=>none|d+1,p,s,q,r1,b,m,a,c,v=>if decide (v<(r1.1.args.length:Int))then iU d (yJ ((yJ ((yJ ((r1.1.args.length:Int)-1))-v))+m))>>=λr14=>yT 40 c [r14]>>=λl16=>dP d p s q r1 b m a l16 (yJ (v+1))else R3 d a s (yJ ((r1.1.args.length:Int)+m))>>=λr18=>yT 40 ([]:yA) r18.1>>=λl20=>yT 40 l20 c>>=λl23=>zLl d r18.2 q (yJ ((r1.1.args.length:Int)+m))>>=λr26=>iD d p r1 b c r18 l23 0 r26.2 r26.1.k r26.1.n r26.1.sub
def iE:Nat->Int->yA->Tm->(uK×Int)->yA->Int->Int->Int->Option (Tm×Int)|0,_,_,_,_,_,_,_,_=>none|d+1,p,s,q,r1,b,m,u,a=>if decide (u<(r1.1.recs.length:Int))then zO r1.1.recs u>>=λx6=>if x6.is then zST d a s q x6 u (r1.1.args.length:Int) m>>=λr9=>yT 40 b [r9.1]>>=λl11=>iE d p s q r1 l11 (yJ (m+1)) (yJ (u+1)) r9.2 else iE d p s q r1 b m (yJ (u+1)) a else dP d p s q r1 b m a [] 0
def zSU(d:Nat)(w:Int)(y:yB)(p:Int)(s:yA)(q:Tm):Option (Tm×Int):=zSS d y p>>=λr1=>zFi d w r1.1.args s>>=λr3=>iE d p s q r1 r3.1 0 0 r3.2
theorem T9:∀d:Nat,∀p r1 b c r18 l23 t a e f g,Lz (iD d p r1 b c r18 l23 t a e f g) 1 f262 (pt 1073741749 f262) (λj=>sp j 124 0 [(0,.mp 0 0),(2,ai p),(10,.mp 1 0),(14,zC zA b (.st 0 3)),(18,zC zA c (.st 1 3)),(20,zC zA r18.1 .no),(21,zC zA l23 .full),(22,.mp 2 0),(96,zC zA r1.1.inds .no),(97,ai (r1.1.inds.length:Int)),(98,ai t)]) ⟨[(0,.cells [ai a]),(1,.cells [ai 0,ai 0,zC zA ([]:yA) .nl]),(2,.cells [ai e,ai f,zC zA g .no])],3,[0,1],2,[]⟩ (λr=>yL r.1) (λr=>[.cells [ai r.2]]) 0 [.blk 4,.seq (pt 16777215 f262)]/\Lz (iD d p r1 b c r18 l23 t a e f g) 1 f262 (pt 1073741749 f262) (λj=>sp j 124 0 [(0,.mp 0 0),(2,ai p),(10,.mp 1 0),(14,zC zA b (.st 0 3)),(18,zC zA c (.st 1 3)),(20,zC zA r18.1 .no),(21,zC zA l23 (.st 2 3)),(22,.mp 2 0),(96,zC zA r1.1.inds .no),(97,ai (r1.1.inds.length:Int)),(98,ai t)]) ⟨[(0,.cells [ai a]),(1,.cells [ai 0,ai 0,zC zA ([]:yA) .nl]),(2,.cells [ai e,ai f,zC zA g .no])],3,[0,1,2],3,[]⟩ (λr=>yL r.1) (λr=>[.cells [ai r.2]]) 0 [.blk 4,.seq (pt 16777215 f262)]:=xF (λ_ _ _ _ _ _ _ _ _ _ _=>⟨lN,lN⟩) λd ih=>λp r1 b c r18 l23 t a e f g=>⟨lw λ_=>rB 0 (rA 0 (xA (o:=.no)) λ_=>rC 4 [0] zLn λ_=>rC 0 [] nL λ_=>lH 2 [] [0,1,2] [0,1] [0,2,10,14,18,20,21,22,96,97,98] ((ih _ _ _ _ _ _ _ _ _ _ _).1))<|rC 1 [] R5 λ_=>rC 0 [] oI λ_=>rC 0 [] oI λ_=>rC 0 [] nL λ_=>rC 2 [] m9 λ_=>rC 2 [0] zAn λ_=>lE 1,lw λ_=>rB 0 (rA 0 (xA (o:=.no)) λ_=>rC 4 [0] zLn λ_=>rC 0 [] nL λ_=>lH 2 [] [0,1,2] [0,1,2] [0,2,10,14,18,20,21,22,96,97,98] ((ih _ _ _ _ _ _ _ _ _ _ _).2))<|rC 1 [] R5 λ_=>rC 0 [] oI λ_=>rC 0 [] oI λ_=>rC 0 [] nL λ_=>rC 2 [] m9 λ_=>rC 2 [0] zAn λ_=>lE 1⟩
theorem zSV:∀d:Nat,∀p s q r1 b m a c v,Lz (dP d p s q r1 b m a c v) 1 f262 (pt 4194229 f262) (λj=>sp j 124 0 [(0,.mp 0 0),(2,ai p),(3,zC zA s .no),(9,.mp 1 0),(10,.mp 2 0),(11,.mp 3 0),(13,ai (r1.1.args.length:Int)),(14,zC zA b (.st 0 3)),(15,ai m),(18,zC zA c (.st 1 3)),(63,ai (r1.1.args.length:Int)),(64,ai v)]) ⟨[(0,.cells [ai a]),(1,.cells [ai q.k,ai q.n,zC zA q.sub .no]),(2,.cells [ai 0,ai 0,zC zA ([]:yA) .nl]),(3,.cells [zC zA r1.1.args .no,zC zA r1.1.inds .no,zC iS r1.1.recs .no])],4,[0,1],2,[]⟩ (λr=>yL r.1) (λr=>[.cells [ai r.2]]) 0 [.blk 2,.seq (pt 65535 f262)]:=xF (λ_ _ _ _ _ _ _ _ _=>lN) λd ih=>λp s q r1 b m a c v=>lw λ_=>rB 0 (rC 3 [] kL λr14=>rS (oS 0 (yU xH [r14]))<|rW (λh17=>oP 0 (xY h17 (by simp))) λ_=>lH 1 [] [0,1,2,3] [0,2] [0,2,3,9,10,11,13,14,15,18,63,64] (ih _ _ _ _ _ _ _ _ _))<|rC 1 [0] s8 λr18=>rH λ_ h21=>rZ (List.length r18.1=0) (λh22=>rS (oP 1 (qT h21 h22))<|rH λ_ h24=>rZ (List.length c=0) (λh25=>rS (oP 0 (qT h24 h25))<|rC 2 [0] zHg λ_=>lH 3 [] [0,2,4] [0,1] [0,2,10,14,18,20,21,22,96,97,98] ((T9 _ _ _ _ _ _ _ _ _ _ _ _).1)) λh25=>rS (oP 0 (xY h24 h25))<|rC 2 [0] zHg λ_=>lH 3 [] [0,2,4] [0,1,2] [0,2,10,14,18,20,21,22,96,97,98] ((T9 _ _ _ _ _ _ _ _ _ _ _ _).2)) λh22=>rS (oP 1 (xY h21 h22))<|rH λ_ h24=>rZ (List.length c=0) (λh25=>rS (oP 0 (qT h24 h25))<|rC 2 [0] zHg λ_=>lH 3 [] [0,2,4] [0,1,2] [0,2,10,14,18,20,21,22,96,97,98] ((T9 _ _ _ _ _ _ _ _ _ _ _ _).2)) λh25=>rS (oP 0 (xY h24 h25))<|rC 2 [0] zHg λ_=>lH 3 [] [0,2,4] [0,1,3] [0,2,10,14,18,20,21,22,96,97,98] ((T9 _ _ _ _ _ _ _ _ _ _ _ _).2)
theorem zSW:∀d:Nat,∀p s q r1 b m u a,Lz (iE d p s q r1 b m u a) 1 f262 (pt 262069 f262) (λj=>sp j 124 0 [(0,.mp 0 0),(2,ai p),(3,zC zA s .no),(9,.mp 1 0),(10,.mp 2 0),(11,.mp 3 0),(13,ai (r1.1.args.length:Int)),(14,zC zA b (.st 0 3)),(15,ai m),(40,zC iS r1.1.recs .no),(41,ai (r1.1.recs.length:Int)),(42,ai u)]) ⟨[(0,.cells [ai a]),(1,.cells [ai q.k,ai q.n,zC zA q.sub .no]),(2,.cells [ai 0,ai 0,zC zA ([]:yA) .nl]),(3,.cells [zC zA r1.1.args .no,zC zA r1.1.inds .no,zC iS r1.1.recs .no])],4,[0],1,[]⟩ (λr=>yL r.1) (λr=>[.cells [ai r.2]]) 0 [.blk 0,.seq (pt 4095 f262)]:=xF (λ_ _ _ _ _ _ _ _=>lN) λd ih=>λp s q r1 b m u a=>lw λ_=>rB 0 (rA 0 (zUt (o:=.no)) λ_=>rB 2 (rC 2 [0] yBv λr9=>rS (oS 0 (yU xH [r9.1]))<|rW (λh12=>oP 0 (xY h12 (by simp))) λ_=>lH 2 [] [0,1,2,3] [1] [0,2,3,9,10,11,13,14,15,40,41,42] (ih _ _ _ _ _ _ _ _))<|lH 1 [] [0,1,2,3] [0] [0,2,3,9,10,11,13,14,15,40,41,42] (ih _ _ _ _ _ _ _ _))<|lH 0 [(none,18,3)] [0,1,2,3] [0,1] [0,2,3,9,10,11,13,14,15,18,63,64] (zSV _ _ _ _ _ _ _ _ _ _)
theorem yBu{d w y p s q}:Cz (zSU d w y p s q) 262 [.cells [ai w]] [.mp 0 0,zC zP y .no,ai p,zC zA s .no,yL q] (λr=>yL r.1) (λr=>[.cells [ai r.2]]) 0:=fw func262<|rC 0 [] yBw λ_=>rC 6 [0] zLm λ_=>fH 2 [] [0,1,2,3] [0] [0,2,3,9,10,11,13,14,15,40,41,42] (zSW _ _ _ _ _ _ _ _ _)
def dQ:Nat->yB->Int->(yA×yA×Int)->zX->yA->Int->Int->Option (Tm×Int)|0,_,_,_,_,_,_,_=>none|a+1,d,e,r4,x15,f,c,b=>if decide (c<(x15.cons.length:Int))then zO x15.cons c>>=λx18=>s7 a (r4.1.length:Int)>>=λr20=>R3 a b r20 (yJ (c+1))>>=λr22=>iU a c>>=λr24=>zSU a r22.2 d x18 r22.1 r24>>=λr26=>yT 40 f [r26.1]>>=λl28=>dQ a d e r4 x15 l28 (yJ (c+1)) r26.2 else zO d e>>=λx30=>s7 a (r4.1.length:Int)>>=λr32=>R3 a b r32 (yJ ((x30.cons.length:Int)+1))>>=λr34=>zFi a r34.2 r4.2.1 r34.1>>=λr36=>yT 40 f r36.1>>=λl38=>L8 a e>>=λr41=>R3 a r36.2 r32 (yJ ((yJ ((x30.cons.length:Int)+1))+(r4.2.1.length:Int)))>>=λr43=>nM a r41 r43.1>>=λr45=>s7 a (r4.2.1.length:Int)>>=λr47=>nM a r45 r47>>=λr49=>yT 40 l38 [r49]>>=λl51=>iU a (yJ ((yJ ((x30.cons.length:Int)+(r4.2.1.length:Int)))+1))>>=λr53=>R3 a r43.2 r47 1>>=λr55=>nM a r53 r55.1>>=λr57=>iU a 0>>=λr59=>kI a r57 r59>>=λr61=>zAl a l51 r61>>=λr63=>s9 a r55.2 r63.1 r63.2>>=λr65=>zOO a r65.2 r65.1>>=λr67=>some (r67.1,r67.2.1)
def zSX(a:Nat)(d:yB)(e g:Int):Option (Tm×Int):=zWy a d e g>>=λr1=>if r1 !=0 then some ((Tm.mk 0 0 []),r1)else e48 a d e>>=λr4=>yT 40 ([]:yA) r4.1>>=λl6=>s7 a (r4.1.length:Int)>>=λr9=>zSR a 0 d e g r9>>=λr11=>yT 40 l6 [r11.1]>>=λl13=>zO d e>>=λx15=>dQ a d e r4 x15 l13 0 r11.2
theorem zJf:∀a:Nat,∀d e r4 x15 f c b,Lz (dQ a d e r4 x15 f c b) 0 f214 (pt 4194229 f214) (λj=>sp j 140 0 [(0,zC zP d .no),(1,ai e),(6,.mp 0 0),(9,.mp 1 0),(11,zC zA r4.2.1 .no),(13,ai (r4.1.length:Int)),(14,zC zA f (.st 0 3)),(57,zC zQ x15.cons .no),(58,ai (x15.cons.length:Int)),(59,ai c)]) ⟨[(0,.cells [ai 0,ai 0,zC zA ([]:yA) .nl]),(1,.cells [ai b])],2,[0],1,[]⟩ (λr=>.tup [yL r.1,ai r.2]) (λ_=>[]) 0 [.blk 0,.seq (pt 65535 f214)]:=xF (λ_ _ _ _ _ _ _=>lN) λa ih=>λd e r4 x15 f c b=>lw λ_=>rB 0 (rA 0 (sS (o:=.no)) λ_=>rC 1 [] aS λ_=>rC 1 [1] s8 λ_=>rC 0 [] kL λ_=>rC 0 [1] yBu λr26=>rS (oS 0 (yU xH [r26.1]))<|rW (λh29=>oP 0 (xY h29 (by simp))) λ_=>lH 1 [] [0,1] [1] [0,1,6,9,11,13,14,57,58,59] (ih _ _ _ _ _ _ _))<|rA 0 (xN (o:=.no)) λ_=>rH λ_ h33=>rS (oC 2 [] (aS _ h33))<|rC 1 [1] s8 λ_=>rC 0 [1] zLm λr36=>rH λ_ h39=>rZ (List.length r36.1=0) (λh40=>rS (oP 0 (qT h39 h40))<|rC 1 [] R5 λ_=>rS (oC 0 [] (aS _ h33))<|rC 2 [1] s8 λ_=>rC 0 [] oI λ_=>rH λ_ h48=>rS (oC 0 [] (aS _ h48))<|rC 0 [] oI λr49=>rS (oS 2 (yU xH [r49]))<|rW (λh52=>oP 0 (xY h52 (by simp))) λ_=>rC 2 [] kL λ_=>rS (oC 0 [] (aS _ h48))<|rC 0 [1] s8 λ_=>rC 0 [] oI λ_=>rC 2 [] kL λ_=>rC 0 [] nL λ_=>rC 0 [] m9 λ_=>rC 2 [1] zAn λ_=>rC 0 [1] zVJ λ_=>lE 3) λh40=>rS (oP 0 (xY h39 h40))<|rC 1 [] R5 λ_=>rS (oC 0 [] (aS _ h33))<|rC 2 [1] s8 λ_=>rC 0 [] oI λ_=>rH λ_ h48=>rS (oC 0 [] (aS _ h48))<|rC 0 [] oI λr49=>rS (oS 2 (yU xH [r49]))<|rW (λh52=>oP 0 (xY h52 (by simp))) λ_=>rC 2 [] kL λ_=>rS (oC 0 [] (aS _ h48))<|rC 0 [1] s8 λ_=>rC 0 [] oI λ_=>rC 2 [] kL λ_=>rC 0 [] nL λ_=>rC 0 [] m9 λ_=>rC 2 [1] zAn λ_=>rC 0 [1] zVJ λ_=>lE 3
theorem yBt{a d e g}:Cz (zSX a d e g) 214 [] [zC zP d .no,ai e,ai g] (λr=>.tup [yL r.1,ai r.2]) (λ_=>[]) 0:=fw func214<|rC 0 [] yBx λ_=>rB 0 (fE 1)<|rC 0 [] c48 λr4=>rH λ_ h7=>rZ (List.length r4.1=0) (λh8=>rS (oP 5 (qT h7 h8))<|rC 0 [] aS λ_=>rC 0 [1] zYO λr11=>rS (oS 0 (yU xH [r11.1]))<|rW (λh14=>oP 0 (xY h14 (by simp))) λ_=>rA 0 (xN (o:=.no)) λ_=>fH 2 [] [0,1] [0] [0,1,6,9,11,13,14,57,58,59] (zJf _ _ _ _ _ _ _ _)) λh8=>rS (oP 5 (xY h7 h8))<|rC 0 [] aS λ_=>rC 0 [1] zYO λr11=>rS (oS 0 (yU xH [r11.1]))<|rW (λh14=>oP 0 (xY h14 (by simp))) λ_=>rA 0 (xN (o:=.no)) λ_=>fH 2 [] [0,1] [1] [0,1,6,9,11,13,14,57,58,59] (zJf _ _ _ _ _ _ _ _)
def piI(l:List Tm)(t:Tm):Tm:=l.foldr (λa x=>.mk 3 0 [a,x]) t
theorem zSY(l:List Tm)(hl:l.length<=24)(ho:xW l):∀(m v:Nat)(t:Tm),v+m=l.length->t.Ok->zD (λq=>qD q l (v:Int) t.k t.n t.sub) (MT 0 (piI (l.take m) t)):=by intro m;induction m with
 |zero=>
  intro v t hm ht;refine zD.succ ?_;simp only[qD,vF];refine zD.ite (λh=>?_) λ_=>?_;·have:=of_decide_eq_true h;omega
  ·refine zD.bind (P:=λb=>b=zJ t) ((xR t ht).tot rfl) λr hr=>zD.ite (λh=>?_) λ_=>zD.ret ⟨yZ 0 0,by simp,by simp⟩;refine zD.bind (P:=λx=>x=kJ t) ((nN t ht).tot rfl) λx hx=>zD.ret ?_;subst hx;have e:kJ t=t:=by unfold kJ;rw[if_pos (by rw[<-hr];exact h)]
   rw[e];exact⟨ht,by simp,λ_=>⟨rfl,by simp[piI]⟩⟩|succ m ih=>
  intro v t hm ht;refine zD.succ ?_;simp only[qD,vF];refine zD.ite (λ_=>?_) λh=>?_
  ·have hlt:m<l.length:=by omega
   rw[zS (x:=(l.length:Int)-1) (by omega) (by omega),zS (x:=(l.length:Int)-1-v) (by omega) (by omega)];have hx:zO l ((l.length:Int)-1-v)=some l[m]:=by unfold zO;rw[if_pos (by omega),show((l.length:Int)-1-v).toNat=m by omega,List.getElem?_eq_getElem hlt]
   refine zD.pure hx (zD.bind (P:=λr=>r=Tm.mk 3 0 [l[m],t]) (zB.tot (zB.mk λ_=>rfl) rfl) λr hr=>?_);subst hr;rw[zV v (by omega)];refine(ih (v+1) _ (by omega) (rO (ho _ (List.getElem_mem hlt)) ht)).mono λx hx=>?_;have e:l.take (m+1)=l.take m++[l[m]]:=by rw[List.take_add_one,List.getElem?_eq_getElem hlt];rfl
   rw[e];unfold piI at hx⊢;rw[List.foldr_append];exact hx
  ·have:=of_decide_eq_false h;omega
theorem zJe(t:Tm)(ht:t.Ok):∀(r l:List Tm)(v:Nat),l.drop v=r->l.length<=24->xW l->zD (λq=>qE q l t (v:Int)) (MT 0 (piI l t))
 |[],l,v,hd,hl,ho=>by
  refine zD.succ ?_;simp only[qE];refine zD.ite (λh=>?_) λ_=>?_;·rw[yE hd]at h;cases h
  ·refine zD.bind (P:=λ_=>True) ((xR t ht).tot trivial) λr _=>zD.ite (λ_=>?_) λ_=>zD.ret ⟨yZ 0 0,by simp,by simp⟩;have:=zSY l hl ho l.length 0 t (by omega) ht;rwa[List.take_length]at this|x::r,l,v,hd,hl,ho=>by
  have hlt:=yK hd;refine zD.succ ?_;simp only[qE];refine zD.ite (λ_=>?_) λh=>?_
  ·refine zD.pure (zY hd) (zD.bind (P:=λ_=>True) ((xR x (ho.at hd)).tot trivial) λ_ _=>zD.ite (λ_=>?_) λ_=>zD.ret ⟨yZ 0 0,by simp,by simp⟩);rw[zV v (by omega)];exact zJe t ht r l (v+1) (zR hd) hl ho
  ·rw[yD hd]at h;cases h
theorem iF(l:List Tm)(t:Tm)(ho:xW l)(ht:t.Ok):zD (λq=>zAl q l t) (MT 0 (piI l t)):=by simp only[zAl];refine zD.bind (P:=MT 0 (piI l t)) ?_ λx hx=>zD.ret hx;simp only[m8];refine zD.ite (λ_=>zD.ret ⟨yZ 0 0,by simp,by simp⟩) λh=>?_;have:=of_decide_eq_false h;exact zJe t ht l l 0 rfl (by omega) ho
def MO(e:Int)(x:Tm×Int):Prop:=x.1.Ok/\(e≠8->x.2≠8)
theorem MT.mo{e:Int}{v:Tm}{x:Tm×Int}(h:MT e v x):MO e x:=⟨h.1,h.2.1⟩
theorem H7(e:Int)(t:Tm)(p:Int)(ht:t.Ok)(hp:p≠8):zD (λq=>s9 q e t p) (MO e):=by
 refine(S9 e t p).mono λx hx=>⟨by rw[hx.1];exact ht,λhe=>?_⟩;rw[hx.2];split;·exact hp
 ·exact he
theorem zFP(p3:tK)(p4 p5 p6:Int)(h3:G9 p3)(outer:List Tm)(ho:xW outer)(hl:outer.length<=1073741824):∀(r:List Tm)(v:Nat)(e:Int)(t:Tm),p3.at'.drop v=r->t.Ok->zD (λq=>iB q p3 p4 p5 p6 outer (v:Int) e t.k t.n t.sub) (MO e)
 |[],v,e,t,hd,ht=>by
  refine zD.succ ?_;simp only[iB,vF];refine zD.ite (λh=>?_) λ_=>?_;·rw[yE hd]at h;cases h
  ·have:=h3.2.2.1;refine zD.bind (P:=λx=>x.Ok) ((sU _).tot (yZ _ _)) λr20 h20=>zD.bind (P:=λx=>x=jX p3.around.length) ((lI _ this).tot rfl) λr22 h22=>?_;subst h22;refine zD.bind (P:=λx=>x.Ok) ((vD r20 _ (by rw[uC];omega)).tot (uH _ _ h20 (pD _))) λr24 h24=>?_;refine zD.bind (P:=λx=>x.Ok) ((qY t r24).tot (rO ht h24)) λr26 h26=>?_;refine(pE e p3.around outer ho hl (by omega) h3.1).bind λr28 h28=>(iF r28.1 r26 h28.1.1 h26).bind λr30 h30=>(H7 r28.2 r30.1 r30.2 h30.1 (h30.2.1 (by decide))).bind λr32 h32=>zD.ret ⟨h32.1,λhe=>h32.2 (h28.1.2.1 he)⟩|x::r,v,e,t,hd,ht=>by
  have hlt:=yK hd;have:=h3.2.2.1;have:=h3.2.2.2;refine zD.succ ?_;simp only[iB,vF];refine zD.ite (λ_=>?_) λh=>?_
  ·refine zD.pure (zY hd) ((lJ e x _ outer (h3.2.1.at hd) (by omega) ho hl).bind λr16 h16=>?_);refine zD.bind (P:=λx=>x=Tm.mk 5 0 [t,r16.1]) ((qY t r16.1).tot rfl) λr18 h18=>?_;subst h18;rw[zV v (by omega)];exact(zFP p3 p4 p5 p6 h3 outer ho hl r (v+1) r16.2 (.mk 5 0 [t,r16.1]) (zR hd) (rO ht h16.1)).mono λy hy=>⟨hy.1,λhe=>hy.2 (h16.2.1 he)⟩
  ·rw[yD hd]at h;cases h
theorem zPe(p2:Tm)(p3:tK)(p4:Nat)(p5 p6:Int)(h2:p2.Ok)(h3:G9 p3)(r1:List Tm×Int)(h4:p4<=65535):∀(m v:Nat)(acc:List Tm),v+m=p4->acc.length<=1048576+v->xW acc->zD (λq=>iC q p2 p3 (p4:Int) p5 p6 r1 acc (v:Int)) (MO r1.2):=by intro m;induction m with
 |zero=>
  intro v acc hm ha ho;refine zD.succ ?_;simp only[iC];refine zD.ite (λh=>?_) λ_=>(zHe r1.2 p2 _ h2).bind λr11 h11=>?_;·have:=of_decide_eq_true h;omega
  ·exact(zFP p3 p4 p5 p6 h3 acc ho (by omega) p3.at' 0 r11.2 r11.1 rfl h11.1).mono λy hy=>⟨hy.1,λhe=>hy.2 (h11.2.1 he)⟩|succ m ih=>
  intro v acc hm ha ho;refine zD.succ ?_;simp only[iC];refine zD.ite (λ_=>?_) λh=>?_
  ·refine zD.bind (P:=λx=>x.Ok) ((sU _).tot (yZ _ _)) λr7 h7=>zD.pure (zW (by simp<;>omega)) ?_;rw[zV v (by omega)];exact ih (v+1) _ (by omega) (by simp<;>omega) (ho.app (xW.one h7))
  ·have:=of_decide_eq_false h;omega
theorem zFQ(e:Int)(p1:List Tm)(p2:Tm)(p3:tK)(p4:Nat)(p5 p6:Int)(h1:xW p1)(hl1:p1.length<=1048576)(h2:p2.Ok)(h3:G9 p3)(h4:p4<=65535):zD (λq=>zST q e p1 p2 p3 (p4:Int) p5 p6) (MO e):=by simp only[zST];refine(nP e p1 _ (by omega) h1).bind λr1 hr1=>zD.pure (zW (by simp;omega)) ?_;rw[List.nil_append];exact(zPe p2 p3 p4 p5 p6 h2 h3 r1 h4 p4 0 r1.1 (by omega) (by omega) hr1.1.1).mono λy hy=>⟨hy.1,λhe=>hy.2 (hr1.1.2.1 he)⟩
def zCZ(p:uK):Prop:=xW p.args/\xW p.inds/\p.args.length<=24/\p.inds.length<=8192/\p.recs.length<=24/\∀r∈p.recs,G9 r
theorem zFR(p2:Int)(r1:uK×Int)(hp:zCZ r1.1)(v14 v18 l23:List Tm)(r18:List Tm×Int)(h14:xW v14)(h18:xW v18)(hl18:v18.length<=65535)(h23:xW l23)(hl23:l23.length<=1073741824)(hr18:xW r18.1)(hlr:r18.1.length<=1048576):∀(r:List Tm)(v:Nat)(e:Int)(t:Tm),r1.1.inds.drop v=r->t.Ok->zD (λq=>iD q p2 r1 v14 v18 r18 l23 (v:Int) e t.k t.n t.sub) (MO e)
 |[],v,e,t,hd,ht=>by
  refine zD.succ ?_;simp only[iD,vF];refine zD.ite (λh=>?_) λ_=>?_;·rw[yE hd]at h;cases h
  ·refine zD.bind (P:=λx=>x=Tm.mk 6 p2 []) (zB.tot (zB.mk λ_=>rfl) rfl) λr35 h35=>?_;subst h35;refine zD.bind (P:=λx=>x.Ok) ((vD _ r18.1 (by omega)).tot (uH _ _ (yZ _ _) hr18)) λr37 h37=>?_;refine zD.bind (P:=λx=>x.Ok) ((vD r37 v18 (by omega)).tot (uH _ _ h37 h18)) λr39 h39=>?_;refine zD.bind (P:=λx=>x.Ok) ((qY t r39).tot (rO ht h39)) λr41 h41=>?_;exact(iF v14 r41 h14 h41).bind λr43 h43=>(H7 e r43.1 r43.2 h43.1 (h43.2.1 (by decide))).bind λr45 h45=>zD.ret h45|x::r,v,e,t,hd,ht=>by
  have hlt:=yK hd;have:=hp.2.2.2.1;refine zD.succ ?_;simp only[iD,vF];refine zD.ite (λ_=>?_) λh=>?_
  ·refine zD.pure (zY hd) ((lJ e x 0 l23 (hp.2.1.at hd) (by omega) h23 hl23).bind λr31 h31=>?_);refine zD.bind (P:=λx=>x=Tm.mk 5 0 [t,r31.1]) ((qY t r31.1).tot rfl) λr33 h33=>?_;subst h33;rw[zV v (by omega)];exact(zFR p2 r1 hp v14 v18 l23 r18 h14 h18 hl18 h23 hl23 hr18 hlr r (v+1) r31.2 (.mk 5 0 [t,r31.1]) (zR hd) (rO ht h31.1)).mono λy hy=>⟨hy.1,λhe=>hy.2 (h31.2.1 he)⟩
  ·rw[yD hd]at h;cases h
theorem zPd(p2:Int)(p3:List Tm)(p4:Tm)(r1:uK×Int)(hp:zCZ r1.1)(h3:xW p3)(hl3:p3.length<=1048576)(h4:p4.Ok)(v14:List Tm)(v15 e:Int)(h14:xW v14):∀(m v:Nat)(acc:List Tm),v+m=r1.1.args.length->acc.length<=v->xW acc->zD (λq=>dP q p2 p3 p4 r1 v14 v15 e acc (v:Int)) (MO e):=by intro m;have:=hp.2.2.1;induction m with|zero=>
 intro v acc hm ha ho;refine zD.succ ?_;simp only[dP];refine zD.ite (λh=>?_) λ_=>(nP e p3 _ (by omega) h3).bind λr18 h18=>?_
 ·have:=of_decide_eq_true h;omega
 ·refine zD.pure (zW (by simp;omega)) (zD.pure (zW (by simp;omega)) ?_);rw[List.nil_append];refine(zHe r18.2 p4 _ h4).bind λr26 h26=>?_;exact(zFR p2 r1 hp v14 acc (r18.1++acc) r18 h14 ho (by omega) (h18.1.1.app ho) (by simp;omega) h18.1.1 (by omega) r1.1.inds 0 r26.2 r26.1 rfl h26.1).mono λy hy=>⟨hy.1,λhe=>hy.2 (h26.2.1 (h18.1.2.1 he))⟩|succ m ih=>
 intro v acc hm ha ho;refine zD.succ ?_;simp only[dP];refine zD.ite (λ_=>?_) λh=>?_
 ·refine zD.bind (P:=λx=>x.Ok) ((sU _).tot (yZ _ _)) λr14 h14=>zD.pure (zW (by simp<;>omega)) ?_;rw[zV v (by omega)];exact ih (v+1) _ (by omega) (by simp<;>omega) (ho.app (xW.one h14))
 ·have:=of_decide_eq_false h;omega
theorem j4(p2:Int)(p3:List Tm)(p4:Tm)(r1:uK×Int)(hp:zCZ r1.1)(h3:xW p3)(hl3:p3.length<=1048576)(h4:p4.Ok):∀(r:List tK)(v:Nat)(acc:List Tm)(seen e:Int),r1.1.recs.drop v=r->v<=24->acc.length<=24+v->xW acc->zD (λq=>iE q p2 p3 p4 r1 acc seen (v:Int) e) (MO e)
 |[],v,acc,seen,e,hd,hv,ha,ho=>by
  refine zD.succ ?_;simp only[iE];refine zD.ite (λh=>?_) λ_=>?_;·rw[yE hd]at h;cases h
  ·exact zPd p2 p3 p4 r1 hp h3 hl3 h4 acc seen e ho r1.1.args.length 0 [] (by omega) (by simp) xW.nil|x::r,v,acc,seen,e,hd,hv,ha,ho=>by
  have hlt:=yK hd;have h5:=hp.2.2.2.2.1;have hx:x∈r1.1.recs:=by
   have:x∈r1.1.recs.drop v:=by rw[hd];simp
   exact List.mem_of_mem_drop this
  refine zD.succ ?_;simp only[iE];refine zD.ite (λ_=>?_) λh=>?_
  ·refine zD.pure (zY hd) (zD.ite (λ_=>?_) λ_=>?_)
   ·refine(zFQ e p3 p4 x v _ seen h3 hl3 h4 (hp.2.2.2.2.2 x hx) (by omega)).bind λr9 h9=>zD.pure (zW (by simp<;>omega)) ?_;rw[zV v (by omega)];exact(j4 p2 p3 p4 r1 hp h3 hl3 h4 r (v+1) _ _ r9.2 (zR hd) (by omega) (by simp<;>omega) (ho.app (xW.one h9.1))).mono λy hy=>⟨hy.1,λhe=>hy.2 (h9.2 he)⟩
   ·rw[zV v (by omega)];exact j4 p2 p3 p4 r1 hp h3 hl3 h4 r (v+1) acc seen e (zR hd) (by omega) (by omega) ho
  ·rw[yD hd]at h;cases h
theorem zPc{N:ByteArray->Bool}{l:List zX}{i:Int}(hE:wP N l)(h0:0<=i)(h1:i<l.length)(hk:(zN l i).kind=2):zCZ (vL l i):=by
 obtain⟨A,y,hw,hy,hA,hAp,hA24,p0,p1,-⟩:=tT hE h0 h1 hk;have hal:=sT _ (zK hy).2.2;have hn:=(zK hy).1;unfold vL;rw[hw];refine⟨λx hx=>yQ (hA x (List.mem_of_mem_drop hx)),λx hx=>yQ (xS hy (List.mem_of_mem_drop hx)),?_,?_,?_,zCJ l _ _ _⟩
 ·show(A.drop _).length<=24;rw[List.length_drop];omega
 ·show((yW y).drop _).length<=8192;rw[List.length_drop];omega
 ·show(G3 l _ (A.drop _) _).length<=24;rw[L1,List.length_drop];omega
theorem zPb{N:ByteArray->Bool}(l:List zX)(i:Int)(hF:zB (λq=>aP q l) true)(hE:wP N l)(he:∀e∈l,nU e)(h:kY l i 2=true):zB (λq=>zSS q l i) (vL l i,0):=by have hi:=wJ h;simp only[zSS];exact hF.bind (zB.ifT rfl (((zIY l i 2).eq h).bind (zB.ifT rfl ((zFn l i hE hi.1 hi.2.1 hi.2.2 he).bind zB.ret))))
theorem zHJ{N:ByteArray->Bool}(l:List zX)(c:Int)(hF:zB (λq=>aP q l) true)(hE:wP N l)(he:∀e∈l,nU e)(hc:kY l c 2=true)(e:Int)(p3:List Tm)(p4:Tm)(h3:xW p3)(hl3:p3.length<=1048576)(h4:p4.Ok):zD (λq=>zSU q e l c p3 p4) (MO e):=by have hi:=wJ hc;have hp:=zPc hE hi.1 hi.2.1 hi.2.2;simp only[zSU];refine zD.bind (P:=λr=>r=(vL l c,0)) ((zPb l c hF hE he hc).tot rfl) λr1 hr1=>?_;subst hr1;refine(pE e (vL l c).args p3 h3 (by omega) (by have:=hp.2.2.1;omega) hp.1).bind λr3 h3'=>?_;have:=hp.2.2.1;exact(j4 c p3 p4 (vL l c,0) hp h3 hl3 h4 (vL l c).recs 0 r3.1 0 r3.2 rfl (by omega) (by have:=h3'.2;omega) h3'.1.1).mono λy hy=>⟨hy.1,λhe=>hy.2 (h3'.1.2.1 he)⟩
def uR(l:List zX)(d:Int):List Tm×List Tm:=((wN (zN l d).type ((zN l d).pars+(zN l d).inds)).1.take (zN l d).pars.toNat,(wN (zN l d).type ((zN l d).pars+(zN l d).inds)).1.drop (zN l d).pars.toNat)
theorem iG{N:ByteArray->Bool}{l:List zX}{d:Int}(hE:wP N l)(h:kY l d 1=true):(wN (zN l d).type ((zN l d).pars+(zN l d).inds)).2.2=0/\((wN (zN l d).type ((zN l d).pars+(zN l d).inds)).1.length:Int)=(zN l d).pars+(zN l d).inds/\(∀x∈(wN (zN l d).type ((zN l d).pars+(zN l d).inds)).1,zJ x=true)/\0<=(zN l d).pars/\0<=(zN l d).inds/\(zN l d).pars+(zN l d).inds<=24/\(zN l d).cons.length<=16/\∀c∈(zN l d).cons,kY l c 2=true:=by
 have hi:=wJ h;have hft:=(xB (hE.2 d hi.1 hi.2.1)).2.1 hi.2.2;have hs:=wB hft;unfold pC zHr zAo at hft;simp only[Bool.and_eq_true,beq_iff_eq]at hft;have hb:=hft.1.1.2.1.1;have hsp:=K2 (t:=(zN l d).type) (n:=(zN l d).pars+(zN l d).inds) (l:=(wN (zN l d).type ((zN l d).pars+(zN l d).inds)).1) (y:=(wN (zN l d).type ((zN l d).pars+(zN l d).inds)).2.1) (by rw[<-hb]);have key:∀(r:List Int)(k:Int),aO l d 2 r k=true->∀n∈r,kY l n 2=true:=by intro r;induction r with|nil=>intro k _ n hn;cases hn|cons a r ih=>
  intro k h n hn;rw[aO]at h;simp only[Bool.and_eq_true]at h;rcases List.mem_cons.1 hn with rfl|hn;·exact h.1.1.1
  ·exact ih _ h.2 n hn
 exact⟨hb,hsp.2.2.2.1,hsp.2.2.2.2.2.2,hs.1,hs.2.1,hs.2.2.1,hs.2.2.2,key _ 0 hft.1.2.2⟩
theorem zJd{N:ByteArray->Bool}(l:List zX)(d:Int)(hF:zB (λq=>aP q l) true)(hE:wP N l)(he:∀e∈l,nU e)(h:kY l d 1=true):zB (λq=>e48 q l d) ((uR l d).1,(uR l d).2,0):=by have hi:=wJ h;obtain⟨h0,h1,h2,h3,h4,h5,-,-⟩:=iG hE h;simp only[e48];refine hF.bind (zB.ifT rfl (((zIY l d 1).eq h).bind (zB.ifT rfl (zB.pure (yO hi.1 hi.2.1) ?_))));rw[zS (x:=(zN l d).pars+(zN l d).inds) (by omega) (by omega)];refine(gS _ _ (he _ (pB hi.1 hi.2.1)).1).bind (zB.pure (a:=(uR l d).1) ?_ (zB.pure (sZ h3 (by omega)) zB.ret));rw[dM (by omega) h3 (by omega)];unfold uR;simp
theorem U0{N:ByteArray->Bool}{l:List zX}{d:Int}(hE:wP N l)(h:kY l d 1=true):xW (uR l d).1/\xW (uR l d).2/\(uR l d).1.length<=24/\(uR l d).2.length<=24:=by
 obtain⟨h0,h1,h2,h3,h4,h5,-,-⟩:=iG hE h;refine⟨λx hx=>yQ (h2 x (List.mem_of_mem_take hx)),λx hx=>yQ (h2 x (List.mem_of_mem_drop hx)),?_,?_⟩;·unfold uR;rw[List.length_take];omega
 ·unfold uR;rw[List.length_drop];omega
theorem zHK{N:ByteArray->Bool}(l:List zX)(d lev:Int)(hF:zB (λq=>aP q l) true)(hE:wP N l)(he:∀e∈l,nU e)(h:kY l d 1=true)(e:Int)(p4:List Tm)(h4:xW p4)(hl4:p4.length<=1048576):zD (λq=>zSR q e l d lev p4) (MO e):=by obtain⟨o1,o2,l1,l2⟩:=U0 hE h;simp only[zSR];refine zD.bind (P:=λr=>r=((uR l d).1,(uR l d).2,0)) ((zJd l d hF hE he h).tot rfl) λr1 hr1=>?_;subst hr1;refine zD.bind (P:=λx=>x=Tm.mk 6 d []) (zB.tot (zB.mk λ_=>rfl) rfl) λr3 h3=>?_;subst h3;refine(nP e p4 _ (by omega) h4).bind λr5 h5=>?_;refine zD.bind (P:=λx=>x.Ok) ((vD _ r5.1 (by omega)).tot (uH _ _ (yZ _ _) h5.1.1)) λr7 h7=>?_;refine zD.bind (P:=λx=>x=jX (uR l d).2.length) ((lI (uR l d).2.length (by omega)).tot rfl) λr9 h9=>?_;subst h9;refine zD.bind (P:=λx=>x.Ok) ((vD r7 _ (by rw[uC];omega)).tot (uH _ _ h7 (pD _))) λr11 h11=>?_;refine(pE r5.2 (uR l d).2 p4 h4 (by omega) (by omega) o2).bind λr13 h13=>zD.pure (zW (by simp;have:=h13.2;omega)) ?_;refine zD.bind (P:=λx=>x.Ok) ((mY lev).tot (yZ _ _)) λr17 h17=>?_;exact(iF (r13.1++[r11]) r17 (h13.1.1.app (xW.one h11)) h17).bind λr19 h19=>(H7 r13.2 r19.1 r19.2 h19.1 (h19.2.1 (by decide))).bind λr21 h21=>zD.ret ⟨h21.1,λhe=>h21.2 (h13.1.2.1 (h5.1.2.1 he))⟩
theorem zFS{N:ByteArray->Bool}(l:List zX)(d:Int)(hF:zB (λq=>aP q l) true)(hE:wP N l)(he:∀e∈l,nU e)(h:kY l d 1=true):∀(r:List Int)(v:Nat)(acc:List Tm)(e:Int),(zN l d).cons.drop v=r->v<=16->acc.length<=32+v->xW acc->zD (λq=>dQ q l d ((uR l d).1,(uR l d).2,0) (zN l d) acc (v:Int) e) (MO e)
 |[],v,acc,e,hd,hv,ha,ho=>by
  have hi:=wJ h;obtain⟨o1,o2,l1,l2⟩:=U0 hE h;obtain⟨-,-,-,-,-,-,hcl,-⟩:=iG hE h;refine zD.succ ?_;simp only[dQ];refine zD.ite (λh=>?_) λ_=>?_;·rw[yE hd]at h;cases h
  ·refine zD.pure (yO hi.1 hi.2.1) (zD.bind (P:=λx=>x=jX (uR l d).1.length) ((lI (uR l d).1.length (by omega)).tot rfl) λr32 h32=>?_);subst h32;refine(nP e _ _ (by rw[uC];omega) (pD _)).bind λr34 h34=>?_;have hl34:=h34.2;rw[uC]at hl34;refine(pE r34.2 (uR l d).2 r34.1 h34.1.1 (by omega) (by omega) o2).bind λr36 h36=>zD.pure (zW (by have:=h36.2;omega)) ?_;refine zD.bind (P:=λx=>x=Tm.mk 6 d []) (zB.tot (zB.mk λ_=>rfl) rfl) λr41 h41=>?_;subst h41;refine(nP r36.2 _ _ (by rw[uC];omega) (pD _)).bind λr43 h43=>?_;have hl43:=h43.2;rw[uC]at hl43;refine zD.bind (P:=λx=>x.Ok) ((vD _ r43.1 (by omega)).tot (uH _ _ (yZ _ _) h43.1.1)) λr45 h45=>?_;refine zD.bind (P:=λx=>x=jX (uR l d).2.length) ((lI (uR l d).2.length (by omega)).tot rfl) λr47 h47=>?_;subst h47;refine zD.bind (P:=λx=>x.Ok) ((vD r45 _ (by rw[uC];omega)).tot (uH _ _ h45 (pD _))) λr49 h49=>?_;refine zD.pure (zW (by simp;have:=h36.2;omega)) ?_;refine zD.bind (P:=λx=>x.Ok) ((sU _).tot (yZ _ _)) λr53 h53=>?_;refine(nP r43.2 _ _ (by rw[uC];omega) (pD _)).bind λr55 h55=>?_;have hl55:=h55.2;rw[uC]at hl55;refine zD.bind (P:=λx=>x.Ok) ((vD r53 r55.1 (by omega)).tot (uH _ _ h53 h55.1.1)) λr57 h57=>?_;refine zD.bind (P:=λx=>x.Ok) ((sU _).tot (yZ _ _)) λr59 h59=>?_;refine zD.bind (P:=λx=>x.Ok) ((qY r57 r59).tot (rO h57 h59)) λr61 h61=>?_;refine(iF _ r61 ((ho.app h36.1.1).app (xW.one h49)) h61).bind λr63 h63=>(H7 r55.2 r63.1 r63.2 h63.1 (h63.2.1 (by decide))).bind λr65 h65=>(zFe r65.2 r65.1 h65.1).bind λr67 h67=>zD.ret ⟨h67.1,λhe=>h67.2.1 (h65.2 (h55.1.2.1 (h43.1.2.1 (h36.1.2.1 (h34.1.2.1 he)))))⟩|c::r,v,acc,e,hd,hv,ha,ho=>by
  have hlt:=yK hd;obtain⟨o1,o2,l1,l2⟩:=U0 hE h;obtain⟨-,-,-,-,-,-,hcl,hcons⟩:=iG hE h;have hc:c∈(zN l d).cons:=by
   have:c∈(zN l d).cons.drop v:=by rw[hd];simp
   exact List.mem_of_mem_drop this
  refine zD.succ ?_;simp only[dQ];refine zD.ite (λ_=>?_) λh=>?_
  ·refine zD.pure (zY hd) (zD.bind (P:=λx=>x=jX (uR l d).1.length) ((lI (uR l d).1.length (by omega)).tot rfl) λr20 h20=>?_);subst h20;refine(nP e _ _ (by rw[uC];omega) (pD _)).bind λr22 h22=>?_;have hl22:=h22.2;rw[uC]at hl22;refine zD.bind (P:=λx=>x.Ok) ((sU _).tot (yZ _ _)) λr24 h24=>?_;refine(zHJ l c hF hE he (hcons c hc) r22.2 r22.1 r24 h22.1.1 (by omega) h24).bind λr26 h26=>zD.pure (zW (by simp<;>omega)) ?_;rw[zV v (by omega)];exact(zFS l d hF hE he h r (v+1) _ r26.2 (zR hd) (by omega) (by simp<;>omega) (ho.app (xW.one h26.1))).mono λy hy=>⟨hy.1,λhe=>hy.2 (h26.2 (h22.1.2.1 he))⟩
  ·rw[yD hd]at h;cases h
theorem zLD{N:ByteArray->Bool}(l:List zX)(d lev:Int)(hF:zB (λq=>aP q l) true)(hE:wP N l)(he:∀e∈l,nU e):zD (λq=>zSX q l d lev) (MO 0):=by
 have bad:∀e:Int,e≠8->MO 0 (.mk 0 0 [],e):=λe h=>⟨yZ 0 0,λ_=>h⟩;simp only[zSX,zWy];refine zD.bind (P:=λr=>r≠8/\(r=0->kY l d 1=true)) ?_ λr1 hr1=>zD.ite (λ_=>zD.ret (bad _ hr1.1)) λh=>?_
 ·refine zD.bind (P:=λb=>b=true) (hF.tot rfl) λb hb=>zD.ite (λ_=>?_) λh=>by rw[hb]at h;cases h
  refine zD.bind (P:=λb=>b=kY l d 1) ((zCI l d 1).tot rfl) λb2 hb2=>zD.ite (λh2=>?_) λ_=>zD.ret ⟨by decide,λh=>by cases h⟩;exact zD.ite (λ_=>zD.ret ⟨by decide,λh=>by cases h⟩) λ_=>zD.ite (λ_=>zD.ret ⟨by decide,λh=>by cases h⟩) λ_=>zD.ret ⟨by decide,λ_=>by rw[<-hb2];exact h2⟩
 ·have h0:r1=0:=by simpa using h
  have hd:=hr1.2 h0;have hi:=wJ hd;obtain⟨o1,o2,l1,l2⟩:=U0 hE hd;refine zD.bind (P:=λr=>r=((uR l d).1,(uR l d).2,0)) ((zJd l d hF hE he hd).tot rfl) λr4 hr4=>?_;subst hr4;refine zD.pure (zW (by simp;omega)) (zD.bind (P:=λx=>x=jX (uR l d).1.length) ((lI (uR l d).1.length (by omega)).tot rfl) λr9 h9=>?_);subst h9;refine(zHK l d lev hF hE he hd 0 _ (pD _) (by rw[uC];omega)).bind λr11 h11=>zD.pure (zW (by simp;omega)) (zD.pure (yO hi.1 hi.2.1) ?_);exact(zFS l d hF hE he hd (zN l d).cons 0 _ r11.2 rfl (by omega) (by simp;omega) ((xW.nil.app o1).app (xW.one h11.1))).mono λy hy=>⟨hy.1,λhe=>hy.2 (h11.2 he)⟩
def zSZ(m:Nat)(M:wA)(f g:Int)(a:yA)(b:yH)(c:yA)(d:yB)(e:Int):Option (Tm×Int):=if decide (e>=(a.length:Int))then some ((Tm.mk 0 0 []),3)else zO a (yJ ((yJ ((a.length:Int)-1))-e))>>=λx2=>zEa m x2 (yJ (e+1))>>=λr4=>some (r4.1,r4.2)
theorem yBs{m M f g a b c d e}:Cz (zSZ m M f g a b c d e) 212 [.cells [.mp 1 0,.mp 3 0,zC zA a .no,zC zQ b .no,zC zA c .no,zC zP d .no],mB M 2,mR M,.cells [ai f,ai g]] [.mp 0 0,ai e] (λr=>.tup [yL r.1,ai r.2]) (λ_=>[.cells [.mp 1 0,.mp 3 0,zC zA a .no,zC zQ b .no,zC zA c .no,zC zP d .no],mB M 2,mR M,.cells [ai f,ai g]]) 0:=fw func212<|rB 2 (fE 1)<|rA 5 (xA (o:=.no)) λ_=>rC 2 [] zNC λ_=>fE 3
def iH:Nat->wA->Int->Int->yA->yH->yA->yB->Int->Int->Option (Tm×Int)|0,_,_,_,_,_,_,_,_,_=>none|m+1,M,e,f,a,b,c,d,g,n=>if decide (n>=0)then zO b n>>=λx2=>if x2==g then zO c n>>=λx5=>zEa m x5 (a.length:Int)>>=λr7=>some (r7.1,r7.2)else iH m M e f a b c d g (yJ (n-1))else some ((Tm.mk 0 0 []),3)
def zTz(m:Nat)(M:wA)(e f:Int)(a:yA)(b:yH)(c:yA)(d:yB)(g:Int):Option (Tm×Int):=iH m M e f a b c d g (yJ ((b.length:Int)-1))
theorem zTy:∀m:Nat,∀M e f a b c d g n,Lz (iH m M e f a b c d g n) 4 f213 (pt 949 f213) (λj=>sp j 46 0 [(0,.mp 0 0),(1,ai g),(4,.mp 4 0),(6,ai n)]) ⟨[(0,.cells [.mp 1 0,.mp 3 0,zC zA a .no,zC zQ b .no,zC zA c .no,zC zP d .no]),(1,mB M 2),(2,mR M),(3,.cells [ai e,ai f]),(4,.cells [ai 0,ai 0,zC zA ([]:yA) .nl])],5,[],0,[]⟩ (λr=>.tup [yL r.1,ai r.2]) (λ_=>[.cells [.mp 1 0,.mp 3 0,zC zA a .no,zC zQ b .no,zC zA c .no,zC zP d .no],mB M 2,mR M,.cells [ai e,ai f]]) 0 [.blk 0,.seq (pt 15 f213)]:=xF (λ_ _ _ _ _ _ _ _ _=>lN) λm ih=>λM e f a b c d g n=>lw λ_=>rB 0 (rA 1 (sS (o:=.no)) λ_=>rB 1 (rA 1 (xA (o:=.no)) λ_=>rC 3 [] zNC λ_=>lE 3)<|lH 1 [] [0,1,2,3,4] [] [0,1,4,6] (ih _ _ _ _ _ _ _ _ _))<|lE 1
theorem yBr{m M e f a b c d g}:Cz (zTz m M e f a b c d g) 213 [.cells [.mp 1 0,.mp 3 0,zC zA a .no,zC zQ b .no,zC zA c .no,zC zP d .no],mB M 2,mR M,.cells [ai e,ai f]] [.mp 0 0,ai g] (λr=>.tup [yL r.1,ai r.2]) (λ_=>[.cells [.mp 1 0,.mp 3 0,zC zA a .no,zC zQ b .no,zC zA c .no,zC zP d .no],mB M 2,mR M,.cells [ai e,ai f]]) 0:=fw func213<|fH 3 [] [0,1,2,3,4] [] [0,1,4,6] (zTy _ _ _ _ _ _ _ _ _ _)
def zTx(b:Nat)(a:Tm):Option (Tm×Int):=qV b a>>=λr1=>if r1 then some (a,0)else some ((Tm.mk 0 0 []),2)
theorem yBq{b a}:Cz (zTx b a) 267 [] [yL a] (λr=>.tup [yL r.1,ai r.2]) (λ_=>[]) 0:=fw func267<|rK 1 [] pP (λ_=>fE 3) λ_=>fE 2
def e95(m:Nat)(M:wA)(f g:Int)(a:yA)(b:yH)(c:yA)(d:yB)(e:Tm):Option (yA×yH×yA×yB):=sN a 0 (a.length:Int)>>=λx1=>yT 40 x1 [e]>>=λl3=>some (l3,b,c,d)
theorem c95{m M f g a b c d e}:Cz (e95 m M f g a b c d e) 95 [.cells [.mp 1 0,.mp 3 0,zC zA a .no,zC zQ b .no,zC zA c .no,zC zP d .no],mB M 2,mR M,.cells [ai f,ai g]] [.mp 0 0,yL e] (λ_=>.mp 4 0) (λr=>[.cells [.mp 1 0,.mp 3 0,zC zA a .no,zC zQ b .no,zC zA c .no,zC zP d .no],mB M 2,mR M,.cells [ai f,ai g],.cells [.mp 1 0,.mp 3 0,zC zA r.1 .no,zC zQ r.2.1 .no,zC zA r.2.2.1 .no,zC zP r.2.2.2 .no]]) 0:=fw func95<|rA 7 (mA (o:=.no)) λ_=>rS (oS 1 (yU xH [e]))<|rW (λh4=>oP 0 (xY h4 (by simp))) λ_=>fF 1 [0,1,2,3,5]
mutual def e94:Nat->wA->Int->Int->yA->yH->yA->yB->Tm->Option (Int×Int×Int×Int)|0,_,_,_,_,_,_,_,_=>none|m+1,M,f,g,a,b,c,d,e=>zAk m M f g a b c d e>>=λr1=>if r1.2.1 !=0 then some (0,r1.2.1,r1.2.2.1,r1.2.2.2)else zFC m M r1.1 r1.2.2.1 r1.2.2.2>>=λr4=>if r4.2.1 !=0 then some (0,r4.2.1,r4.2.2.1,r4.2.2.2)else if r4.1.k !=2 then some (0,6,r4.2.2.1,r4.2.2.2)else some (r4.1.n,0,r4.2.2.1,r4.2.2.2)def zAk:Nat->wA->Int->Int->yA->yH->yA->yB->Tm->Option (Tm×Int×Int×Int)
 |0,_,_,_,_,_,_,_,_=>none|m+1,M,f,g,a,b,c,d,e=>if e.k==1 then zSZ m M f g a b c d e.n>>=λr2=>some (r2.1,r2.2,f,g)else if e.k==8 then zTz m M f g a b c d e.n>>=λr5=>some (r5.1,r5.2,f,g)else if e.k==6 then zO d e.n>>=λx8=>some (x8.type,0,f,g)else if e.k==7 then zO e.sub 0>>=λx11=>zSX m d e.n x11.n>>=λr13=>some (r13.1,r13.2,f,g)else if e.k==2 then if decide (e.n>=7)then some ((Tm.mk 0 0 []),7,f,g)else Q8 m (yJ (e.n+1))>>=λr17=>some (r17,0,f,g)else if e.k==3 then zWx m M f g a b c d e>>=λr20=>some (r20.1,r20.2.1,r20.2.2.1,r20.2.2.2)else if e.k==4 then zWw m M f g a b c d e>>=λr23=>some (r23.1,r23.2.1,r23.2.2.1,r23.2.2.2)else zWv m M f g a b c d e>>=λr25=>some (r25.1,r25.2.1,r25.2.2.1,r25.2.2.2)def zWx:Nat->wA->Int->Int->yA->yH->yA->yB->Tm->Option (Tm×Int×Int×Int)
 |0,_,_,_,_,_,_,_,_=>none|m+1,M,f,g,a,b,c,d,e=>zO e.sub 0>>=λx1=>e94 m M f g a b c d x1>>=λr3=>if r3.2.1 !=0 then some ((Tm.mk 0 0 []),r3.2.1,r3.2.2.1,r3.2.2.2)else e95 m M r3.2.2.1 r3.2.2.2 a b c d x1>>=λr6=>zO e.sub 1>>=λx8=>e94 m M r3.2.2.1 r3.2.2.2 r6.1 r6.2.1 r6.2.2.1 r6.2.2.2 x8>>=λr10=>if r10.2.1 !=0 then some ((Tm.mk 0 0 []),r10.2.1,r10.2.2.1,r10.2.2.2)else Q8 m (mN r3.1 r10.1)>>=λr13=>some (r13,0,r10.2.2.1,r10.2.2.2)def zWw:Nat->wA->Int->Int->yA->yH->yA->yB->Tm->Option (Tm×Int×Int×Int)
 |0,_,_,_,_,_,_,_,_=>none|m+1,M,f,g,a,b,c,d,e=>zO e.sub 0>>=λx1=>e94 m M f g a b c d x1>>=λr3=>if r3.2.1 !=0 then some ((Tm.mk 0 0 []),r3.2.1,r3.2.2.1,r3.2.2.2)else e95 m M r3.2.2.1 r3.2.2.2 a b c d x1>>=λr6=>zO e.sub 1>>=λx8=>zAk m M r3.2.2.1 r3.2.2.2 r6.1 r6.2.1 r6.2.2.1 r6.2.2.2 x8>>=λr10=>if r10.2.1 !=0 then some ((Tm.mk 0 0 []),r10.2.1,r10.2.2.1,r10.2.2.2)else zFM m x1 r10.1>>=λr13=>zTx m r13>>=λr15=>some (r15.1,r15.2,r10.2.2.1,r10.2.2.2)def zWv:Nat->wA->Int->Int->yA->yH->yA->yB->Tm->Option (Tm×Int×Int×Int)
 |0,_,_,_,_,_,_,_,_=>none|m+1,M,f,g,a,b,c,d,e=>H2 m f g>>=λr1=>if r1.1 !=0 then some ((Tm.mk 0 0 []),r1.1,r1.2.1,r1.2.2)else zO e.sub 0>>=λx4=>zAk m M r1.2.1 r1.2.2 a b c d x4>>=λr6=>if r6.2.1 !=0 then some ((Tm.mk 0 0 []),r6.2.1,r6.2.2.1,r6.2.2.2)else zFC m M r6.1 r6.2.2.1 r6.2.2.2>>=λr9=>if r9.2.1 !=0 then some ((Tm.mk 0 0 []),r9.2.1,r9.2.2.1,r9.2.2.2)else if r9.1.k !=3 then some ((Tm.mk 0 0 []),6,r9.2.2.1,r9.2.2.2)else zO e.sub 1>>=λx13=>zO r9.1.sub 0>>=λx15=>zLE m M r9.2.2.1 r9.2.2.2 a b c d x13 x15>>=λr17=>if r17.1 !=0 then some ((Tm.mk 0 0 []),r17.1,r17.2.1,r17.2.2)else zO r9.1.sub 1>>=λx20=>zNK m x20 x13>>=λr22=>some (r22.1,r22.2,r17.2.1,r17.2.2)def zLE:Nat->wA->Int->Int->yA->yH->yA->yB->Tm->Tm->Option (Int×Int×Int)
 |0,_,_,_,_,_,_,_,_,_=>none|m+1,M,f,g,a,b,c,d,e,p=>if e.k==4 then zFC m M p f g>>=λr2=>if r2.2.1 !=0 then some (r2.2.1,r2.2.2.1,r2.2.2.2)else if r2.1.k==3 then zWu m M r2.2.2.1 r2.2.2.2 a b c d e r2.1>>=λr6=>some (r6.1,r6.2.1,r6.2.2)else zAk m M r2.2.2.1 r2.2.2.2 a b c d e>>=λr8=>if r8.2.1 !=0 then some (r8.2.1,r8.2.2.1,r8.2.2.2)else zLC m M r8.1 p r8.2.2.1 r8.2.2.2>>=λr11=>if r11.1 then if r11.2.1==0 then some (r11.2.1,r11.2.2.1,r11.2.2.2)else some (r11.2.1,r11.2.2.1,r11.2.2.2)else if r11.2.1==0 then some (6,r11.2.2.1,r11.2.2.2)else some (r11.2.1,r11.2.2.1,r11.2.2.2)else zAk m M f g a b c d e>>=λr16=>if r16.2.1 !=0 then some (r16.2.1,r16.2.2.1,r16.2.2.2)else zLC m M r16.1 p r16.2.2.1 r16.2.2.2>>=λr19=>if r19.1 then if r19.2.1==0 then some (r19.2.1,r19.2.2.1,r19.2.2.2)else some (r19.2.1,r19.2.2.1,r19.2.2.2)else if r19.2.1==0 then some (6,r19.2.2.1,r19.2.2.2)else some (r19.2.1,r19.2.2.1,r19.2.2.2)def zWu:Nat->wA->Int->Int->yA->yH->yA->yB->Tm->Tm->Option (Int×Int×Int)
 |0,_,_,_,_,_,_,_,_,_=>none|m+1,M,f,g,a,b,c,d,e,p=>zO e.sub 0>>=λx1=>e94 m M f g a b c d x1>>=λr3=>if r3.2.1 !=0 then some (r3.2.1,r3.2.2.1,r3.2.2.2)else zO p.sub 0>>=λx6=>e40 m M x1 x6 r3.2.2.1 r3.2.2.2>>=λr8=>if r8.1 then if r8.2.1 !=0 then some (r8.2.1,r8.2.2.1,r8.2.2.2)else e95 m M r8.2.2.1 r8.2.2.2 a b c d x6>>=λr12=>zO e.sub 1>>=λx14=>zO p.sub 1>>=λx16=>zLE m M r8.2.2.1 r8.2.2.2 r12.1 r12.2.1 r12.2.2.1 r12.2.2.2 x14 x16>>=λr18=>some (r18.1,r18.2.1,r18.2.2)else if r8.2.1 !=0 then some (r8.2.1,r8.2.2.1,r8.2.2.2)else some (6,r8.2.2.1,r8.2.2.2)end
theorem nS:∀m:Nat,(∀M f g a b c d e,Cz (e94 m M f g a b c d e) 94 [.cells [.mp 1 0,.mp 3 0,zC zA a .no,zC zQ b .no,zC zA c .no,zC zP d .no],mB M 2,mR M,.cells [ai f,ai g]] [.mp 0 0,yL e] (λr=>.tup [ai r.1,ai r.2.1]) (λr=>[.cells [.mp 1 0,.mp 3 0,zC zA a .no,zC zQ b .no,zC zA c .no,zC zP d .no],mB M 2,mR M,.cells [ai r.2.2.1,ai r.2.2.2]]) 0)/\(∀M f g a b c d e,Cz (zAk m M f g a b c d e) 160 [.cells [.mp 1 0,.mp 3 0,zC zA a .no,zC zQ b .no,zC zA c .no,zC zP d .no],mB M 2,mR M,.cells [ai f,ai g]] [.mp 0 0,yL e] (λr=>.tup [yL r.1,ai r.2.1]) (λr=>[.cells [.mp 1 0,.mp 3 0,zC zA a .no,zC zQ b .no,zC zA c .no,zC zP d .no],mB M 2,mR M,.cells [ai r.2.2.1,ai r.2.2.2]]) 0)/\(∀M f g a b c d e,Cz (zWx m M f g a b c d e) 215 [.cells [.mp 1 0,.mp 3 0,zC zA a .no,zC zQ b .no,zC zA c .no,zC zP d .no],mB M 2,mR M,.cells [ai f,ai g]] [.mp 0 0,yL e] (λr=>.tup [yL r.1,ai r.2.1]) (λr=>[.cells [.mp 1 0,.mp 3 0,zC zA a .no,zC zQ b .no,zC zA c .no,zC zP d .no],mB M 2,mR M,.cells [ai r.2.2.1,ai r.2.2.2]]) 0)/\(∀M f g a b c d e,Cz (zWw m M f g a b c d e) 216 [.cells [.mp 1 0,.mp 3 0,zC zA a .no,zC zQ b .no,zC zA c .no,zC zP d .no],mB M 2,mR M,.cells [ai f,ai g]] [.mp 0 0,yL e] (λr=>.tup [yL r.1,ai r.2.1]) (λr=>[.cells [.mp 1 0,.mp 3 0,zC zA a .no,zC zQ b .no,zC zA c .no,zC zP d .no],mB M 2,mR M,.cells [ai r.2.2.1,ai r.2.2.2]]) 0)/\(∀M f g a b c d e,Cz (zWv m M f g a b c d e) 217 [.cells [.mp 1 0,.mp 3 0,zC zA a .no,zC zQ b .no,zC zA c .no,zC zP d .no],mB M 2,mR M,.cells [ai f,ai g]] [.mp 0 0,yL e] (λr=>.tup [yL r.1,ai r.2.1]) (λr=>[.cells [.mp 1 0,.mp 3 0,zC zA a .no,zC zQ b .no,zC zA c .no,zC zP d .no],mB M 2,mR M,.cells [ai r.2.2.1,ai r.2.2.2]]) 0)/\(∀M f g a b c d e p,Cz (zLE m M f g a b c d e p) 269 [.cells [.mp 1 0,.mp 3 0,zC zA a .no,zC zQ b .no,zC zA c .no,zC zP d .no],mB M 2,mR M,.cells [ai f,ai g]] [.mp 0 0,yL e,yL p] (λr=>ai r.1) (λr=>[.cells [.mp 1 0,.mp 3 0,zC zA a .no,zC zQ b .no,zC zA c .no,zC zP d .no],mB M 2,mR M,.cells [ai r.2.1,ai r.2.2]]) 0)/\(∀M f g a b c d e p,Cz (zWu m M f g a b c d e p) 306 [.cells [.mp 1 0,.mp 3 0,zC zA a .no,zC zQ b .no,zC zA c .no,zC zP d .no],mB M 2,mR M,.cells [ai f,ai g]] [.mp 0 0,yL e,yL p] (λr=>ai r.1) (λr=>[.cells [.mp 1 0,.mp 3 0,zC zA a .no,zC zQ b .no,zC zA c .no,zC zP d .no],mB M 2,mR M,.cells [ai r.2.1,ai r.2.2]]) 0):=xF ⟨λ_ _ _ _ _ _ _ _=>cN,λ_ _ _ _ _ _ _ _=>cN,λ_ _ _ _ _ _ _ _=>cN,λ_ _ _ _ _ _ _ _=>cN,λ_ _ _ _ _ _ _ _=>cN,λ_ _ _ _ _ _ _ _ _=>cN,λ_ _ _ _ _ _ _ _ _=>cN⟩ λm ih=>⟨λM f g a b c d e=>fw func94<|rC 1 [0,1,2,3] (ih.2.1 _ _ _ _ _ _ _ _) λ_=>rB 3 (fE 0)<|rC 3 [1,2,3] zSH λ_=>rB 3 (fE 0)<|rB 1 (fE 0)<|fE 1,λM f g a b c d e=>fw func160<|rB 1 (rC 1 [0,1,2,3] yBs λ_=>fE 3)<|rB 0 (rC 1 [0,1,2,3] yBr λ_=>fE 3)<|rB 0 (rA 2 (xN (o:=.no)) λ_=>fE 2)<|rB 0 (rA 3 (xA (o:=.no)) λ_=>rC 1 [] yBt λ_=>fE 3)<|rB 0 (rB 1 (fE 1)<|rC 2 [] zCj λ_=>fE 1)<|rB 0 (rC 1 [0,1,2,3] (ih.2.2.1 _ _ _ _ _ _ _ _) λ_=>fE 3)<|rB 0 (rC 1 [0,1,2,3] (ih.2.2.2.1 _ _ _ _ _ _ _ _) λ_=>fE 3)<|rC 1 [0,1,2,3] (ih.2.2.2.2.1 _ _ _ _ _ _ _ _) λ_=>fE 3,λM f g a b c d e=>fw func215<|rH λ_ h2=>rS (oA 1 (xA (o:=.no) h2))<|rC 1 [0,1,2,3] (ih.1 _ _ _ _ _ _ _ _) λ_=>rB 2 (fE 1)<|rS (oA 1 (xA (o:=.no) h2))<|rC 1 [0,1,2,3] c95 λ_=>rS (b9 0)<|rA 0 (xA (o:=.no)) λ_=>rC 1 [6,1,2,3] (ih.1 _ _ _ _ _ _ _ _) λ_=>rB 2 (fE 1)<|rC 1 [] zCj λ_=>fE 1,λM f g a b c d e=>fw func216<|rH λ_ h2=>rS (oA 1 (xA (o:=.no) h2))<|rC 1 [0,1,2,3] (ih.1 _ _ _ _ _ _ _ _) λ_=>rB 2 (fE 1)<|rS (oA 1 (xA (o:=.no) h2))<|rC 1 [0,1,2,3] c95 λ_=>rS (b9 0)<|rA 0 (xA (o:=.no)) λ_=>rC 1 [6,1,2,3] (ih.2.1 _ _ _ _ _ _ _ _) λ_=>rB 3 (fE 1)<|rS (oA 1 (xA (o:=.no) h2))<|rC 2 [] zSQ λ_=>rC 0 [] yBq λ_=>fE 3,λM f g a b c d e=>fw func217<|rC 1 [3] zFa λ_=>rB 0 (fE 1)<|rA 1 (xA (o:=.no)) λ_=>rC 1 [0,1,2,3] (ih.2.1 _ _ _ _ _ _ _ _) λ_=>rB 3 (fE 1)<|rC 3 [1,2,3] zSH λ_=>rB 3 (fE 1)<|rB 1 (fE 1)<|rH λ_ h14=>rS (oA 1 (xA (o:=.no) h14))<|rA 2 (xA (o:=.no)) λ_=>rC 1 [0,1,2,3] (ih.2.2.2.2.2.1 _ _ _ _ _ _ _ _ _) λ_=>rB 0 (fE 1)<|rA 1 (xA (o:=.no)) λ_=>rS (oA 2 (xA (o:=.no) h14))<|rC 1 [] zXQ λ_=>fE 3,λM f g a b c d e p=>fw func269<|rB 1 (rC 3 [1,2,3] zSH λ_=>rB 3 (fE 0)<|rB 1 (rC 2 [0,1,2,3] (ih.2.2.2.2.2.2 _ _ _ _ _ _ _ _ _) λ_=>fE 0)<|rC 1 [0,1,2,3] (ih.2.1 _ _ _ _ _ _ _ _) λ_=>rB 3 (fE 0)<|rC 4 [1,2,3] zYM λ_=>rB 0 (rB 1 (fE 1)<|fE 0)<|rB 1 (fE 1)<|fE 0)<|rC 1 [0,1,2,3] (ih.2.1 _ _ _ _ _ _ _ _) λ_=>rB 3 (fE 0)<|rC 4 [1,2,3] zYM λ_=>rB 0 (rB 1 (fE 1)<|fE 0)<|rB 1 (fE 1)<|fE 0,λM f g a b c d e p=>fw func306<|rH λ_ h2=>rS (oA 1 (xA (o:=.no) h2))<|rC 1 [0,1,2,3] (ih.1 _ _ _ _ _ _ _ _) λ_=>rB 2 (fE 0)<|rS (oA 2 (xA (o:=.no) h2))<|rH λ_ h7=>rS (oA 2 (xA (o:=.no) h7))<|rC 2 [1,2,3] c40 λ_=>rB 0 (rB 1 (fE 0)<|rS (oA 2 (xA (o:=.no) h7))<|rC 1 [0,1,2,3] c95 λ_=>rS (b9 0)<|rA 0 (xA (o:=.no)) λ_=>rS (b9 1)<|rA 0 (xA (o:=.no)) λ_=>rC 1 [6,1,2,3] (ih.2.2.2.2.2.1 _ _ _ _ _ _ _ _ _) λ_=>fE 0)<|rB 1 (fE 0)<|fE 1⟩
theorem c94{m M f g a b c d e}:Cz (e94 m M f g a b c d e) 94 [.cells [.mp 1 0,.mp 3 0,zC zA a .no,zC zQ b .no,zC zA c .no,zC zP d .no],mB M 2,mR M,.cells [ai f,ai g]] [.mp 0 0,yL e] (λr=>.tup [ai r.1,ai r.2.1]) (λr=>[.cells [.mp 1 0,.mp 3 0,zC zA a .no,zC zQ b .no,zC zA c .no,zC zP d .no],mB M 2,mR M,.cells [ai r.2.2.1,ai r.2.2.2]]) 0:=(nS _).1 _ _ _ _ _ _ _ _
set_option linter.unusedSectionVars false
theorem iI{l:List zX}{t x:Tm}(h:xG l t)(hx:x∈t.sub):xG l x:=by have hr:=sE.1 h;refine sE.2 ⟨n7 hr.1 hx,?_⟩;obtain⟨k,n,s⟩:=t;have h2:=hr.2;rw[xM,L3]at h2;exact h2.2 x hx
abbrev er3(r:Int×Int×Int):Int:=r.1
abbrev zWt(r:Int×Int×Int×Int):Int:=r.2.1
def QI(R:Int->Int->Tm×Int×Int×Int)(_:Int):Prop:=∃a e,a.Ok/\e≠8/\R=λL U=>(a,e,L,U)
def QU(R:Int->Int->Int×Int×Int×Int)(_:Int):Prop:=∃a e,e≠8/\R=λL U=>(a,e,L,U)
def QK(R:Int->Int->Int×Int×Int)(_:Int):Prop:=∃e,e≠8/\R=λL U=>(e,L,U)
def HI(l:List zX)(ns:List Int)(ts:List Tm)(t:Tm):Prop:=∀(ctx:List Tm)(f:Int),xW ctx->ctx.length+t.nodes<=100000->0<=f->Ou (λL U q=>zAk q (wF l) L U ctx ns ts l t) er4 QI True f
def HU(l:List zX)(ns:List Int)(ts:List Tm)(t:Tm):Prop:=∀(ctx:List Tm)(f:Int),xW ctx->ctx.length+t.nodes<=100000->0<=f->Ou (λL U q=>e94 q (wF l) L U ctx ns ts l t) zWt QU True f
def HK(l:List zX)(ns:List Int)(ts:List Tm)(t:Tm):Prop:=∀(ctx:List Tm)(a:Tm)(f:Int),xW ctx->a.Ok->ctx.length+t.nodes<=100000->0<=f->Ou (λL U q=>zLE q (wF l) L U ctx ns ts l t a) er3 QK True f
theorem aY{N:ByteArray->Bool}(l:List zX)(hE:wP N l)(he:∀e∈l,nU e)(x:Tm)(ho:x.Ok)(f:Int)(hf:0<=f):Ou (λL U q=>zFC q (wF l) x L U) er4 (λR _=>∃y e,y.Ok/\e≠8/\(e=0->zJ y=true)/\R=λL U=>(y,e,L,U)) True f:=by
 refine(zBj l hE he x ho f hf).mono ?_ λ_=>trivial;rintro R k _ _(⟨-,-,rfl⟩|⟨hR,y,e,hbr,rfl⟩);·exact⟨zT,5,O8,by decide,λh=>absurd h (by decide),rfl⟩
 ·by_cases e0:e=0
  ·subst e0;exact⟨y,0,yQ (hbr.shaped hR.shaped rfl),by decide,λ_=>hbr.shaped hR.shaped rfl,by simp⟩
  ·exact⟨zT,e,O8,hbr.e8 hE hR.shaped,λh=>absurd h e0,by simp[e0]⟩
theorem ne8{e:Int}(h:e=8):(e !=0)=true:=by rw[h];decide
theorem zDz(l:List zX)(ns:List Int)(ctx ts:List Tm)(n:Int)(hn:0<=n/\n<=1048576)(ho:xW ctx)(hl:ctx.length<=100000)(L U:Int):zD (λq=>zSZ q (wF l) L U ctx ns ts l n) (MO 0):=by simp only[zSZ];refine zD.ite (λ_=>zD.ret ⟨yZ 0 0,λ_=>by decide⟩) λh=>?_;have:=of_decide_eq_false h;rw[zS (x:=(ctx.length:Int)-1) (by omega) (by omega),zS (x:=(ctx.length:Int)-1-n) (by omega) (by omega)];obtain⟨x,hx,hm⟩:=zCF (l:=ctx) (i:=(ctx.length:Int)-1-n) (by omega) (by omega);exact zD.pure hx (zD.bind (P:=MT 0 (Q9 x 0 0 (yJ (n+1)))) ((zEB x _ (ho x hm)).tot (zCG x _ 0 (ho x hm))) λr hr=>zD.ret hr.mo)
theorem zLF(l:List zX)(ns:List Int)(ctx ts:List Tm)(n:Int)(ho:xW ts)(hl:ns.length=ts.length)(hl2:ns.length<=100000):∃r,MO 0 r/\∀L U,zB (λq=>zTz q (wF l) L U ctx ns ts l n) r:=by
 simp only[zTz];have key:∀m:Nat,m<=ns.length->∃r,MO 0 r/\∀L U,zB (λq=>iH q (wF l) L U ctx ns ts l n ((m:Int)-1)) r:=by intro m;induction m with|zero=>intro _;refine⟨(zT,3),⟨O8,λ_=>by decide⟩,λL U=>zB.succ ?_⟩;simp only[iH];exact zB.ifF (decide_eq_false (by omega)) zB.ret|succ m ih=>
  intro hm;obtain⟨x,hx,-⟩:=zCF (l:=ns) (i:=((m+1:Nat):Int)-1) (by omega) (by omega);by_cases e:x=n
  ·obtain⟨y,hy,hym⟩:=zCF (l:=ts) (i:=((m+1:Nat):Int)-1) (by omega) (by omega);refine⟨vU y (ctx.length:Int) 0,(zCG y _ 0 (ho y hym)).mo,λL U=>zB.succ ?_⟩;simp only[iH];exact zB.ifT (decide_eq_true (by omega)) (zB.pure hx (zB.ifT (by simpa using e) (zB.pure hy ((zEB y _ (ho y hym)).bind zB.ret))))
  ·obtain⟨r,h1,h2⟩:=ih (by omega);refine⟨r,h1,λL U=>zB.succ ?_⟩;simp only[iH];refine zB.ifT (decide_eq_true (by omega)) (zB.pure hx (zB.ifF (by simpa using e) ?_));rw[zS (by omega) (by omega),show((m+1:Nat):Int)-1-1=(m:Int)-1 by omega];exact h2 L U
 rw[zS (by omega) (by omega)];exact key ns.length (Nat.le_refl _)
theorem M2(l:List zX)(ns:List Int)(ctx ts:List Tm)(a:Tm)(hl:ctx.length<=100000)(L U:Int):zB (λq=>e95 q (wF l) L U ctx ns ts l a) (ctx++[a],ns,ts,l):=by simp only[e95];exact zB.pure (a:=ctx) (by rw[sZ (by omega) (by omega)];simp) (zB.pure (zW (by simp<;>omega)) zB.ret)
section
variable{N:ByteArray->Bool}(l:List zX)(hE:wP N l)(he:∀e∈l,nU e)(hl:l.length<=65535)(hc:∀e∈l,ECl e)(hF:zB (λq=>aP q l) true)(ns:List Int)(ts:List Tm)(hts:xW ts)(hns:ns.length=ts.length)(hnl:ns.length<=100000)
include hE he hl hc hF hts hns hnl
theorem zPA(t:Tm)(hi:HI l ns ts t):HU l ns ts t:=by intro ctx f ho hn hf;refine Ou.succ ?_;simp only[e94];refine Ou.bind (hi ctx f ho hn hf) id (λr hr=>⟨_,zB.ifT (ne8 hr) zB.ret,hr⟩) ?_;rintro R k k0 k1⟨a,e,ha,h8,rfl⟩;dsimp only;refine Ou.ite (λh=>Ou.ret (by omega) ⟨0,e,h8,rfl⟩) λ_=>?_;refine Ou.bind (aY l hE he a ha (f-k) (by omega)) id (λr hr=>⟨_,zB.ifT (ne8 hr) zB.ret,hr⟩) ?_;rintro R n n0 n1⟨y,e,hy,h8,-,rfl⟩;dsimp only;exact Ou.ite (λh=>Ou.ret (by omega) ⟨0,e,h8,rfl⟩) λ_=>Ou.ite (λ_=>Ou.ret (by omega) ⟨0,6,by decide,rfl⟩) λ_=>Ou.ret (by omega) ⟨y.n,0,by decide,rfl⟩
theorem zLG(n:Nat)(ih:∀t,xG l t->t.nodes<=n->HI l ns ts t/\HU l ns ts t/\HK l ns ts t)(t:Tm)(hR:xG l t)(hn:t.nodes<=n+1):HI l ns ts t:=by
 intro ctx f ho hcl hf;have hs:=hR.shaped;have hg:=(zK hs).2.2;have hn0:=jZ hg;have hnm:t.n<=1048576:=by obtain⟨k,n,ls⟩:=t;exact(mC (wU hg).1).2.1
 have sub2':t.k=3\/t.k=4\/t.k=5->∃a b,t.sub=[a,b]/\xG l a/\xG l b/\a.nodes+b.nodes+1<=t.nodes:=λh=>by obtain⟨a,b,hab,-,-⟩:=vM hg h;have hns:=dN t;rw[hab,yR,yR,yR]at hns;exact⟨a,b,hab,iI hR (by rw[hab];simp),iI hR (by rw[hab];simp),by omega⟩
 refine Ou.succ ?_;simp only[zAk];refine Ou.ite (λh=>?_) λh1=>?_;·obtain⟨r,hr,h⟩:=zDz l ns ctx ts t.n ⟨hn0,hnm⟩ ho (by omega) 0 0;refine Ou.imp (f:=λL U q=>some (r.1,r.2,L,U)) (Ou.ret hf ⟨r.1,r.2,h.1,h.2 (by decide),rfl⟩) λL U x hx=>zB.bind (a:=r) ?_ hx;obtain⟨m,hm⟩:=hr;exact⟨m,hm⟩
 refine Ou.ite (λh=>?_) λh8=>?_
 ·obtain⟨r,h,hr⟩:=zLF l ns ctx ts t.n hts hns hnl;exact Ou.imp (f:=λL U q=>some (r.1,r.2,L,U)) (Ou.ret hf ⟨r.1,r.2,h.1,h.2 (by decide),rfl⟩) λL U x hx=>zB.bind (a:=r) (hr L U) hx
 refine Ou.ite (λh=>?_) λh6=>?_
 ·have h6:t.k=6:=by simpa using h
  have hlt:t.n<l.length:=by have hr:=(sE.1 hR).2;obtain⟨k,n,s⟩:=t;rw[xM]at hr;have h6':k=6:=h6;exact(hr.1.resolve_left (by omega)) (.inl h6')
  exact Ou.pure (yO hn0 hlt) (Ou.ret hf ⟨_,0,(he _ (pB hn0 hlt)).1,by decide,rfl⟩)
 refine Ou.ite (λh=>?_) λh7=>?_
 ·have h7:t.k=7:=by simpa using h
  obtain⟨s,hsb⟩:∃s,t.sub=[s]:=by obtain⟨kk,nn,ss⟩:=t;obtain⟨s,hs,-⟩:=(tR (wU hg).1).2.2.2.2.2.2.1 h7;exact⟨s,hs⟩
  exact Ou.pure (a:=s) (by rw[hsb];rfl) (Ou.tot (zLD l t.n s.n hF hE he) λr hr=>Ou.ret hf ⟨r.1,r.2,hr.1,hr.2 (by decide),rfl⟩)
 refine Ou.ite (λh=>?_) λh2=>?_;·exact Ou.ite (λ_=>Ou.ret hf ⟨_,7,yZ 0 0,by decide,rfl⟩) λ_=>Ou.evt (mY _) (Ou.ret hf ⟨_,0,yZ _ _,by decide,rfl⟩)
 refine Ou.ite (λh=>?_) λh3=>?_
 ·have h3:t.k=3:=by simpa using h
  obtain⟨a,b,hab,hRa,hRb,hnn⟩:=sub2' (.inl h3);have pa:=wO a;have pb:=wO b;refine Ou.bind (er:=er4) (Q:=QI) (S:=True) (Ou.succ ?_) id (λr hr=>⟨_,zB.ret,hr⟩) (λR k k0 k1 hQ=>by obtain⟨a,e,h1,h2,rfl⟩:=hQ;exact Ou.ret (by omega) ⟨a,e,h1,h2,rfl⟩);simp only[zWx];refine Ou.pure (a:=a) (by rw[hab];rfl) (Ou.bind ((ih a hRa (by omega)).2.1 ctx f ho (by omega) hf) id (λr hr=>⟨_,zB.ifT (ne8 hr) zB.ret,hr⟩) ?_);rintro R k k0 k1⟨i,e,h8,rfl⟩;dsimp only;refine Ou.ite (λh=>Ou.ret (by omega) ⟨_,e,yZ 0 0,h8,rfl⟩) λ_=>?_;refine Ou.imp (f:=λL U q=>e94 q (wF l) L U (ctx++[a]) ns ts l b>>=λr10=>if(r10.2.1 !=0)=true then some ((Tm.mk 0 0 []),r10.2.1,r10.2.2.1,r10.2.2.2)else Q8 q (mN i r10.1)>>=λr13=>some (r13,0,r10.2.2.1,r10.2.2.2)) ?_ λL U r h=>(M2 l ns ctx ts a (by omega) L U).bind (zB.pure (a:=b) (by rw[hab];rfl) h);refine Ou.bind ((ih b hRb (by omega)).2.1 (ctx++[a]) (f-k) (ho.app (xW.one (yQ hRa.shaped))) (by simp;omega) (by omega)) id (λr hr=>⟨_,zB.ifT (ne8 hr) zB.ret,hr⟩) ?_;rintro R n n0 n1⟨j,e,h8,rfl⟩;dsimp only;exact Ou.ite (λh=>Ou.ret (by omega) ⟨_,e,yZ 0 0,h8,rfl⟩) λ_=>Ou.evt (mY _) (Ou.ret (by omega) ⟨_,0,yZ _ _,by decide,rfl⟩)
 refine Ou.ite (λh=>?_) λh4=>?_
 ·have h4:t.k=4:=by simpa using h
  obtain⟨a,b,hab,hRa,hRb,hnn⟩:=sub2' (.inr (.inl h4));have pa:=wO a;have pb:=wO b;refine Ou.bind (er:=er4) (Q:=QI) (S:=True) (Ou.succ ?_) id (λr hr=>⟨_,zB.ret,hr⟩) (λR k k0 k1 hQ=>by obtain⟨a,e,h1,h2,rfl⟩:=hQ;exact Ou.ret (by omega) ⟨a,e,h1,h2,rfl⟩);simp only[zWw];refine Ou.pure (a:=a) (by rw[hab];rfl) (Ou.bind ((ih a hRa (by omega)).2.1 ctx f ho (by omega) hf) id (λr hr=>⟨_,zB.ifT (ne8 hr) zB.ret,hr⟩) ?_);rintro R k k0 k1⟨i,e,h8,rfl⟩;dsimp only;refine Ou.ite (λh=>Ou.ret (by omega) ⟨_,e,yZ 0 0,h8,rfl⟩) λ_=>?_;refine Ou.imp (f:=λL U q=>zAk q (wF l) L U (ctx++[a]) ns ts l b>>=λr10=>if(r10.2.1 !=0)=true then some ((Tm.mk 0 0 []),r10.2.1,r10.2.2.1,r10.2.2.2)else zFM q a r10.1>>=λr13=>zTx q r13>>=λr15=>some (r15.1,r15.2,r10.2.2.1,r10.2.2.2)) ?_ λL U r h=>(M2 l ns ctx ts a (by omega) L U).bind (zB.pure (a:=b) (by rw[hab];rfl) h);refine Ou.bind ((ih b hRb (by omega)).1 (ctx++[a]) (f-k) (ho.app (xW.one (yQ hRa.shaped))) (by simp;omega) (by omega)) id (λr hr=>⟨_,zB.ifT (ne8 hr) zB.ret,hr⟩) ?_;rintro R n n0 n1⟨c,e,hc,h8,rfl⟩;dsimp only;refine Ou.ite (λh=>Ou.ret (by omega) ⟨_,e,yZ 0 0,h8,rfl⟩) λ_=>Ou.evt (a:=Tm.mk 3 0 [a,c]) (zB.mk λ_=>rfl) ?_;have ok:(Tm.mk 3 0 [a,c]).Ok:=rO (yQ hRa.shaped) hc;refine Ou.evt (a:=zHB (Tm.mk 3 0 [a,c])) ?_ (Ou.ret (by omega) ⟨_,_,?_,?_,rfl⟩)
  ·simp only[zTx];refine(xR _ ok).bind ?_;unfold zHB;by_cases h:zJ (Tm.mk 3 0 [a,c])=true;·rw[if_pos h,if_pos h];exact zB.ret
   ·rw[if_neg h,if_neg h];exact zB.ret
  ·unfold zHB;split;·exact ok
   ·exact O8
  ·unfold zHB;split<;>simp
 have h5:t.k=5:=by
  have a1:t.k≠1:=by simpa using h1
  have a2:t.k≠2:=by simpa using h2
  have a3:t.k≠3:=by simpa using h3
  have a4:t.k≠4:=by simpa using h4
  have a6:t.k≠6:=by simpa using h6
  have a7:t.k≠7:=by simpa using h7
  have a8:t.k≠8:=by simpa using h8
  have b:1<=t.k/\t.k<=8:=by obtain⟨k,n,ls⟩:=t;have:=mC (wU hg).1;exact⟨this.2.2.1,this.2.2.2.1⟩
  omega
 obtain⟨a,b,hab,hRa,hRb,hnn⟩:=sub2' (.inr (.inr h5));have pa:=wO a;have pb:=wO b;refine Ou.bind (er:=er4) (Q:=QI) (S:=True) (Ou.succ ?_) id (λr hr=>⟨_,zB.ret,hr⟩) (λR k k0 k1 hQ=>by obtain⟨a,e,h1,h2,rfl⟩:=hQ;exact Ou.ret (by omega) ⟨a,e,h1,h2,rfl⟩);simp only[zWv];refine Ou.bind (zJq f hf) (λ_=>trivial) (λr hr=>⟨_,zB.ifT (ne8 hr) zB.ret,hr⟩) ?_;rintro R k k0 k1⟨rfl,rfl⟩;dsimp only;refine Ou.ifF rfl (Ou.pure (a:=a) (by rw[hab];rfl) (Ou.bind ((ih a hRa (by omega)).1 ctx (f-1) ho (by omega) (by omega)) id (λr hr=>⟨_,zB.ifT (ne8 hr) zB.ret,hr⟩) ?_));rintro R k j0 j1⟨ft,e,hft,h8,rfl⟩;dsimp only;refine Ou.ite (λh=>Ou.ret (by omega) ⟨_,e,yZ 0 0,h8,rfl⟩) λ_=>?_;refine Ou.bind (aY l hE he ft hft (f-1-k) (by omega)) id (λr hr=>⟨_,zB.ifT (ne8 hr) zB.ret,hr⟩) ?_;rintro R n n0 n1⟨p,e,hp,h8,hps,rfl⟩;dsimp only;refine Ou.ite (λh=>Ou.ret (by omega) ⟨_,e,yZ 0 0,h8,rfl⟩) λhe0=>Ou.ite (λ_=>Ou.ret (by omega) ⟨_,6,yZ 0 0,by decide,rfl⟩) λhp3=>?_;have he0':e=0:=by simpa using he0
 have hp3':p.k=3:=by simpa using hp3
 obtain⟨c,d,hcd,hgc,hgd⟩:=vM (zK (hps he0')).2.2 (.inl hp3');refine Ou.pure (a:=b) (by rw[hab];rfl) (Ou.pure (a:=c) (by rw[hcd];rfl) (Ou.bind ((ih b hRb (by omega)).2.2 ctx c (f-1-k-n) ho (wR c hgc) (by omega) (by omega)) id (λr hr=>⟨_,zB.ifT (ne8 hr) zB.ret,hr⟩) ?_));rintro R i i0 i1⟨e,h8,rfl⟩;dsimp only;refine Ou.ite (λh=>Ou.ret (by omega) ⟨_,e,yZ 0 0,h8,rfl⟩) λ_=>Ou.pure (a:=d) (by rw[hcd];rfl) (Ou.evt (zNN d b (wR d hgd) (yQ hRb.shaped)) (Ou.ret (by omega) ⟨_,_,E5 _ _ (wR d hgd) (xW.one (yQ hRb.shaped)),zCC _ _,rfl⟩))
theorem zLH(n:Nat)(ih:∀t,xG l t->t.nodes<=n->HI l ns ts t/\HU l ns ts t/\HK l ns ts t)(t:Tm)(hR:xG l t)(hn:t.nodes<=n+1)(hi:HI l ns ts t):HK l ns ts t:=by
 intro ctx a f ho ha hcl hf;have hs:=hR.shaped;have hg:=(zK hs).2.2;have plain:∀g,0<=g->Ou (λL U q=>zAk q (wF l) L U ctx ns ts l t>>=λr16=>if(r16.2.1 !=0)=true then some (r16.2.1,r16.2.2.1,r16.2.2.2)else zLC q (wF l) r16.1 a r16.2.2.1 r16.2.2.2>>=λr19=>if r19.1=true then(if(r19.2.1==0)=true then some (r19.2.1,r19.2.2.1,r19.2.2.2)else some (r19.2.1,r19.2.2.1,r19.2.2.2))else(if(r19.2.1==0)=true then some (6,r19.2.2.1,r19.2.2.2)else some (r19.2.1,r19.2.2.1,r19.2.2.2))) er3 QK True g:=λg g0=>by
  refine Ou.bind (hi ctx g ho hcl g0) id (λr hr=>⟨_,zB.ifT (ne8 hr) zB.ret,hr⟩) ?_;rintro R k k0 k1⟨b,e,hb,h8,rfl⟩;dsimp only;refine Ou.ite (λh=>Ou.ret (by omega) ⟨e,h8,rfl⟩) λ_=>?_;refine Ou.bind (zCY l hE he hl hc true b a hb ha (g-k) (by omega)) (λ_=>trivial) (λr hr=>?_) ?_
  ·have:=M0 hr;exact⟨_,zB.ifF this.1 (zB.ifF (by rw[this.2];decide) zB.ret),this.2⟩
  ·rintro R n n0 n1⟨b',e,h8,-,-,rfl⟩;dsimp only;exact Ou.ite (λ_=>Ou.ite (λ_=>Ou.ret (by omega) ⟨e,h8,rfl⟩) λ_=>Ou.ret (by omega) ⟨e,h8,rfl⟩) λ_=>Ou.ite (λ_=>Ou.ret (by omega) ⟨6,by decide,rfl⟩) λ_=>Ou.ret (by omega) ⟨e,h8,rfl⟩
 refine Ou.succ ?_;simp only[zLE];refine Ou.ite (λh=>?_) λ_=>plain f hf;have h4:t.k=4:=by simpa using h
 obtain⟨u,v,huv,-,-⟩:=vM hg (.inr (.inl h4));have hRu:=iI hR (x:=u) (by rw[huv];simp);have hRv:=iI hR (x:=v) (by rw[huv];simp);have hnn:=dN t;rw[huv,yR,yR,yR]at hnn;have pu:=wO u;have pv:=wO v;refine Ou.bind (aY l hE he a ha f hf) id (λr hr=>⟨_,zB.ifT (ne8 hr) zB.ret,hr⟩) ?_;rintro R k k0 k1⟨p,e,hp,h8,hps,rfl⟩;dsimp only;refine Ou.ite (λh=>Ou.ret (by omega) ⟨e,h8,rfl⟩) λhe0=>Ou.ite (λhp3=>?_) λ_=>plain (f-k) (by omega);have he0':e=0:=by simpa using he0
 have hp3':p.k=3:=by simpa using hp3
 obtain⟨c,d,hcd,hgc,hgd⟩:=vM (zK (hps he0')).2.2 (.inl hp3');refine Ou.bind (er:=er3) (Q:=QK) (S:=True) (Ou.succ ?_) id (λr hr=>⟨_,zB.ret,hr⟩) (λR k k0 k1 hQ=>by obtain⟨e,h2,rfl⟩:=hQ;exact Ou.ret (by omega) ⟨e,h2,rfl⟩);simp only[zWu];refine Ou.pure (a:=u) (by rw[huv];rfl) (Ou.bind ((ih u hRu (by omega)).2.1 ctx (f-k) ho (by omega) (by omega)) id (λr hr=>⟨_,zB.ifT (ne8 hr) zB.ret,hr⟩) ?_);rintro R j j0 j1⟨i,e,h8,rfl⟩;dsimp only;refine Ou.ite (λh=>Ou.ret (by omega) ⟨e,h8,rfl⟩) λ_=>Ou.pure (a:=c) (by rw[hcd];rfl) ?_;refine Ou.bind (zCY l hE he hl hc false u c (yQ hRu.shaped) (wR c hgc) (f-k-j) (by omega)) (λ_=>trivial) (λr hr=>?_) ?_;·have:=M0 hr;exact⟨_,zB.ifF this.1 (zB.ifT (ne8 this.2) zB.ret),this.2⟩
 ·rintro R n n0 n1⟨b',e,h8,-,-,rfl⟩;dsimp only;refine Ou.ite (λ_=>Ou.ite (λ_=>Ou.ret (by omega) ⟨e,h8,rfl⟩) λ_=>?_) λ_=>Ou.ite (λ_=>Ou.ret (by omega) ⟨e,h8,rfl⟩) λ_=>Ou.ret (by omega) ⟨6,by decide,rfl⟩;refine Ou.imp (f:=λL U q=>zLE q (wF l) L U (ctx++[c]) ns ts l v d>>=λr18=>some (r18.1,r18.2.1,r18.2.2)) ?_ λL U r h=>(M2 l ns ctx ts c (by omega) L U).bind (zB.pure (a:=v) (by rw[huv];rfl) (zB.pure (a:=d) (by rw[hcd];rfl) h));refine Ou.bind ((ih v hRv (by omega)).2.2 (ctx++[c]) d (f-k-j-n) (ho.app (xW.one (wR c hgc))) (wR d hgd) (by simp;omega) (by omega)) id (λr hr=>⟨_,zB.ret,hr⟩) ?_;rintro R m m0 m1⟨e,h8,rfl⟩;exact Ou.ret (by omega) ⟨e,h8,rfl⟩
theorem zFT:∀(n:Nat)(t:Tm),xG l t->t.nodes<=n->HI l ns ts t/\HU l ns ts t/\HK l ns ts t|0,t,_,h=>by have:=wO t;omega|n+1,t,hR,hn=>by have ih:=zFT n;have hi:=zLG l hE he hl hc hF ns ts hts hns hnl n ih t hR hn;exact⟨hi,zPA l hE he hl hc hF ns ts hts hns hnl t hi,zLH l hE he hl hc hF ns ts hts hns hnl n ih t hR hn hi⟩
end
def iJ:Nat->(List ByteArray)->Int->Option (Bool)|0,_,_=>none|b+1,a,c=>if decide (c<(a.length:Int))then zO a c>>=λx2=>if !(x2.toList==(⟨#[95]⟩:ByteArray).toList)then kN b x2>>=λr5=>if r5 then iJ b a (yJ (c+1))else some false else iJ b a (yJ (c+1))else some true
def zWs(b:Nat)(a:List ByteArray):Option (Bool):=iJ b a 0
theorem zTw:∀b:Nat,∀a c,Lz (iJ b a c) 0 f242 (pt 949 f242) (λj=>sp j 19 0 [(5,zC xJ a .no),(6,ai (a.length:Int)),(7,ai c)]) ⟨[],0,[],0,[]⟩ (λr=>ab r) (λ_=>[]) 0 [.blk 0,.seq (pt 15 f242)]:=xF (λ_ _=>lN) λb ih=>λa c=>lw λ_=>rB 0 (rA 0 (zQG (o:=.no)) λ_=>rB 1 (rK 0 [] E8 (λ_=>lH 2 [] [] [] [5,6,7] (ih _ _)) λ_=>lE 1)<|lH 1 [] [] [] [5,6,7] (ih _ _))<|lE 0
theorem yBn{b a}:Cz (zWs b a) 242 [] [zC xJ a .no] (λr=>ab r) (λ_=>[]) 0:=fw func242<|fH 1 [] [] [] [5,6,7] (zTw _ _ _)
def zPB(b:Nat)(c:yB)(a:List ByteArray):Option (Int):=zWs b a>>=λr1=>if r1 then aP b c>>=λr4=>if r4 then if decide ((a.length:Int)>24)then some 2 else some 0 else some 5 else some 5
theorem zYP{b c a}:Cz (zPB b c a) 184 [] [zC zP c .no,zC xJ a .no] (λr=>ai r) (λ_=>[]) 0:=fw func184<|rK 0 [] yBn (λ_=>rK 1 [] c47 (λ_=>rB 2 (fE 0)<|fE 0) λ_=>fE 1) λ_=>fE 1
def dU:Nat->yB->ByteArray->Int->Option (Int×Int)|0,_,_,_=>none|d+1,b,c,a=>if decide (a<(b.length:Int))then zO b a>>=λx2=>if x2.name.toList==c.toList then some (a,0)else dU d b c (yJ (a+1))else some (0,16)
def zWr(d:Nat)(b:yB)(c:ByteArray):Option (Int×Int):=dU d b c 0
theorem zTv:∀d:Nat,∀b c a,Lz (dU d b c a) 0 f285 (pt 949 f285) (λj=>sp j 21 0 [(1,at' c),(8,zC zP b .no),(9,ai (b.length:Int)),(10,ai a)]) ⟨[],0,[],0,[]⟩ (λr=>.tup [ai r.1,ai r.2]) (λ_=>[]) 0 [.blk 0,.seq (pt 15 f285)]:=xF (λ_ _ _=>lN) λd ih=>λb c a=>lw λ_=>rB 0 (rA 0 (xN (o:=.no)) λ_=>rB 3 (lE 0)<|lH 1 [] [] [] [1,8,9,10] (ih _ _ _))<|lE 0
theorem yBm{d b c}:Cz (zWr d b c) 285 [] [zC zP b .no,at' c] (λr=>.tup [ai r.1,ai r.2]) (λ_=>[]) 0:=fw func285<|fH 1 [] [] [] [1,8,9,10] (zTv _ _ _ _)
def zTu(f:Nat)(c:yB)(b a d e:Int):Option (Int×Int):=if b==0 then some (d,e)else some (b,a)
theorem yBl{f c b a d e}:Cz (zTu f c b a d e) 286 [.cells [zC zP c .no,ai b,ai a]] [.mp 0 0,ai d,ai e] (λ_=>.tup []) (λr=>[.cells [zC zP c .no,ai r.1,ai r.2]]) 0:=fw func286<|rB 1 (fE 2)<|fE 0
def dV:Nat->yB->Int->Int->(List ByteArray)->zG->Int->Option (Tm×Int×Int)|0,_,_,_,_,_,_=>none|e+1,b,c,a,f,d,g=>if decide (g>=0)then zO f g>>=λx2=>if x2.toList==d.name_.toList then iU e (yJ ((yJ ((f.length:Int)-1))-g))>>=λr5=>some (r5,c,a)else dV e b c a f d (yJ (g-1))else zWr e b d.name_>>=λr7=>if r7.2 !=0 then zTu e b c a 3 d.at_>>=λr10=>L8 e r7.1>>=λr12=>some (r12,r10.1,r10.2)else L8 e r7.1>>=λr14=>some (r14,c,a)
def zWq(e:Nat)(b:yB)(c a:Int)(f:List ByteArray)(d:zG):Option (Tm×Int×Int):=dV e b c a f d (yJ ((f.length:Int)-1))
theorem zTt:∀e:Nat,∀b c a f d g,Lz (dV e b c a f d g) 1 f243 (pt 949 f243) (λj=>sp j 48 0 [(0,.mp 0 0),(1,zC xJ f .no),(5,.mp 1 0),(6,.mp 2 0),(7,ai g)]) ⟨[(0,.cells [zC zP b .no,ai c,ai a]),(1,.cells [ai d.kind_,ai d.at_,at' d.name_,ai d.n_,zC zL d.sub_ .no]),(2,.cells [ai 0,ai 0,zC zA ([]:yA) .nl])],3,[],0,[]⟩ (λr=>yL r.1) (λr=>[.cells [zC zP b .no,ai r.2.1,ai r.2.2]]) 0 [.blk 0,.seq (pt 15 f243)]:=xF (λ_ _ _ _ _ _=>lN) λe ih=>λb c a f d g=>lw λ_=>rB 0 (rA 0 (zQG (o:=.no)) λ_=>rB 2 (rC 3 [] kL λ_=>lE 1)<|lH 1 [] [0,1,2] [] [0,1,5,6,7] (ih _ _ _ _ _ _))<|rC 2 [] yBm λ_=>rB 2 (rC 1 [0] yBl λ_=>rC 0 [] R5 λ_=>lE 1)<|rC 0 [] R5 λ_=>lE 1
theorem yBk{e b c a f d}:Cz (zWq e b c a f d) 243 [.cells [zC zP b .no,ai c,ai a]] [.mp 0 0,zC xJ f .no,yX d] (λr=>yL r.1) (λr=>[.cells [zC zP b .no,ai r.2.1,ai r.2.2]]) 0:=fw func243<|fH 2 [] [0,1,2] [] [0,1,5,6,7] (zTt _ _ _ _ _ _ _)
def zAj:Nat->yB->Int->Int->(List ByteArray)->zG->Option (Tm×Int×Int)
 |0,_,_,_,_,_=>none|e+1,b,c,a,f,d=>if d.kind_==1 then zWq e b c a f d>>=λr2=>some (r2.1,r2.2.1,r2.2.2)else if d.kind_==2 then Q8 e d.n_>>=λr5=>some (r5,c,a)else zO d.sub_ 0>>=λx7=>zAj e b c a f x7>>=λr9=>if d.kind_ !=5 then sN f 0 (f.length:Int)>>=λx12=>yT 16 x12 [d.name_]>>=λl14=>zO d.sub_ 1>>=λx16=>zAj e b r9.2.1 r9.2.2 l14 x16>>=λr18=>if d.kind_==3 then zFM e r9.1 r18.1>>=λr21=>some (r21,r18.2.1,r18.2.2)else if d.kind_==4 then zLo e r9.1 r18.1>>=λr24=>some (r24,r18.2.1,r18.2.2)else kI e r9.1 r18.1>>=λr26=>some (r26,r18.2.1,r18.2.2)else zO d.sub_ 1>>=λx28=>zAj e b r9.2.1 r9.2.2 f x28>>=λr30=>if d.kind_==3 then zFM e r9.1 r30.1>>=λr33=>some (r33,r30.2.1,r30.2.2)else if d.kind_==4 then zLo e r9.1 r30.1>>=λr36=>some (r36,r30.2.1,r30.2.2)else kI e r9.1 r30.1>>=λr38=>some (r38,r30.2.1,r30.2.2)
theorem yBj:∀e:Nat,∀b c a f d,Cz (zAj e b c a f d) 185 [.cells [zC zP b .no,ai c,ai a]] [.mp 0 0,zC xJ f .no,yX d] (λr=>yL r.1) (λr=>[.cells [zC zP b .no,ai r.2.1,ai r.2.2]]) 0:=xF (λ_ _ _ _ _=>cN) λe ih=>λb c a f d=>fw func185<|rB 1 (rC 1 [0] yBk λ_=>fE 1)<|rB 0 (rC 1 [] zCj λ_=>fE 1)<|rA 1 (zEs (o:=.no)) λ_=>rC 1 [0] (ih _ _ _ _ _) λ_=>rB 2 (rA 2 (zNl (o:=.no)) λ_=>rW (λh15=>oP 2 (D6 h15 (by simp))) λ_=>rA 1 (zEs (o:=.no)) λ_=>rC 1 [0] (ih _ _ _ _ _) λ_=>rB 2 (rC 2 [] zSQ λ_=>fE 1)<|rB 0 (rC 2 [] zVI λ_=>fE 1)<|rC 2 [] nL λ_=>fE 1)<|rA 1 (zEs (o:=.no)) λ_=>rC 1 [0] (ih _ _ _ _ _) λ_=>rB 2 (rC 2 [] zSQ λ_=>fE 1)<|rB 0 (rC 2 [] zVI λ_=>fE 1)<|rC 2 [] nL λ_=>fE 1
theorem yBi{e b c a f d}:Cz (zAj e b c a f d) 185 [.cells [zC zP b .no,ai c,ai a]] [.mp 0 0,zC xJ f .no,yX d] (λr=>yL r.1) (λr=>[.cells [zC zP b .no,ai r.2.1,ai r.2.2]]) 0:=yBj _ _ _ _ _ _
def zPC(a:Nat)(b:yB)(c:List ByteArray)(d:zG):Option (Tm×Int×Int):=zHy a d>>=λr1=>if r1 then zPB a b c>>=λr4=>if r4 !=0 then some ((Tm.mk 0 0 []),0,r4)else zAj a b 0 0 c d>>=λr7=>if r7.2.1 !=0 then some ((Tm.mk 0 0 []),r7.2.2,r7.2.1)else qV a r7.1>>=λr10=>if r10 then some (r7.1,0,0)else some ((Tm.mk 0 0 []),0,2)else some ((Tm.mk 0 0 []),0,5)
theorem zWp{a b c d}:Cz (zPC a b c d) 126 [] [zC zP b .no,zC xJ c .no,yX d] (λr=>.tup [yL r.1,ai r.2.1,ai r.2.2]) (λ_=>[]) 0:=fw func126<|rK 1 [] zRa (λ_=>rC 1 [] zYP λ_=>rB 0 (fE 1)<|rC 1 [2] yBi λ_=>rB 2 (fE 3)<|rK 1 [] pP (λ_=>fE 3) λ_=>fE 2) λ_=>fE 2
def iK:Nat->yB->(List yC)->yA->(List ByteArray)->Int->Option (yA×List ByteArray×Int×Int)|0,_,_,_,_,_=>none|f+1,e,c,d,a,b=>if decide (b<(c.length:Int))then zO c b>>=λx9=>kN f x9.name_>>=λr11=>if r11 then zPC f e a x9.type_>>=λr14=>if r14.2.2 !=0 then some ([],[],r14.2.1,r14.2.2)else yT 40 d [r14.1]>>=λl17=>yT 16 a [x9.name_]>>=λl19=>iK f e c l17 l19 (yJ (b+1))else some ([],[],0,5)else some (d,a,0,0)
def zPD(f:Nat)(e:yB)(g:List ByteArray)(c:List yC):Option (yA×List ByteArray×Int×Int):=zPB f e g>>=λr1=>if r1 !=0 then some ([],[],0,r1)else if decide ((c.length:Int)>(yJ (24-(g.length:Int))))then some ([],[],0,2)else yT 16 ([]:List ByteArray) g>>=λl5=>iK f e c [] l5 0
theorem zJb:∀f:Nat,∀e c d a b,Lz (iK f e c d a b) 0 f123 (pt 65461 f123) (λj=>sp j 68 0 [(0,zC zP e .no),(11,zC zA d (.st 0 3)),(12,zC xJ a .full),(33,zC zF c .no),(34,ai (c.length:Int)),(35,ai b)]) ⟨[],0,[0],1,[]⟩ (λr=>.tup [.sl (zH zA r.1) r.1.length .no,.sl (zH xJ r.2.1) r.2.1.length .no,ai r.2.2.1,ai r.2.2.2]) (λ_=>[]) 0 [.blk 0,.seq (pt 1023 f123)]/\Lz (iK f e c d a b) 0 f123 (pt 65461 f123) (λj=>sp j 68 0 [(0,zC zP e .no),(11,zC zA d (.st 0 3)),(12,zC xJ a (.st 1 1)),(33,zC zF c .no),(34,ai (c.length:Int)),(35,ai b)]) ⟨[],0,[0,1],2,[]⟩ (λr=>.tup [.sl (zH zA r.1) r.1.length .no,.sl (zH xJ r.2.1) r.2.1.length .no,ai r.2.2.1,ai r.2.2.2]) (λ_=>[]) 0 [.blk 0,.seq (pt 1023 f123)]:=xF (λ_ _ _ _ _=>⟨lN,lN⟩) λf ih=>λe c d a b=>⟨lw λ_=>rB 0 (rA 0 (Y3 (o:=.no)) λ_=>rK 3 [] E8 (λ_=>rC 2 [] zWp λr14=>rB 4 (lE 0)<|rS (oS 1 (yU xH [r14.1]))<|rW (λh18=>oP 0 (xY h18 (by simp))) λ_=>rW (λh20=>oP 2 (D6 h20 (by simp))) λ_=>lH 1 [] [] [1,2] [0,11,12,33,34,35] ((ih _ _ _ _ _).2)) λ_=>lE 1)<|lE 0,lw λ_=>rB 0 (rA 0 (Y3 (o:=.no)) λ_=>rK 3 [] E8 (λ_=>rC 2 [] zWp λr14=>rB 4 (lE 0)<|rS (oS 1 (yU xH [r14.1]))<|rW (λh18=>oP 0 (xY h18 (by simp))) λ_=>rW (λh20=>oP 2 (D6 h20 (by simp))) λ_=>lH 1 [] [] [2,3] [0,11,12,33,34,35] ((ih _ _ _ _ _).2)) λ_=>lE 1)<|lE 0⟩
theorem zYQ{f e g c}:Cz (zPD f e g c) 123 [] [zC zP e .no,zC xJ g .no,zC zF c .no] (λr=>.tup [.sl (zH zA r.1) r.1.length .no,.sl (zH xJ r.2.1) r.2.1.length .no,ai r.2.2.1,ai r.2.2.2]) (λ_=>[]) 0:=fw func123<|rC 0 [] zYP λ_=>rB 0 (fE 0)<|rB 3 (fE 0)<|rH λ_ h6=>rZ (List.length g=0) (λh7=>rS (oP 1 (zXA h6 h7))<|fH 1 [(none,11,3)] [] [0] [0,11,12,33,34,35] ((zJb _ _ _ _ _ _).1)) λh7=>rS (oP 1 (D6 h6 h7))<|fH 1 [(none,11,3)] [] [1,0] [0,11,12,33,34,35] ((zJb _ _ _ _ _ _).2)
def zDy(c:Nat)(a:Int):Option (yB×Nat):=if decide (a<0)then none else if decide ((yJ (a-0))>0)then gmk 192 (default:zX) (yJ (a-0))>>=λx3=>zKf x3.length 0 0>>=λx5=>some (x3,x5.2)else none
theorem zTs{c a}:Cz (zDy c a) 192 [] [zC zP ([]:yB) .nl,ai a] (λr=>.ms 0 0 r.2 r.1.length 15) (λr=>[.row (zH zP r.1)]) 0:=fw func192<|rB 0 (rN)<|rI (λh2=>rS (oB 4 h2)<|rW (λh4=>oMz 2 (zQJ (of_decide_eq_true h2) h4)) λx3=>rA 1 (zQI (b:=0) (off:=0) (n:=List.length x3)) λ_=>fF 0 [0]) λ_=>rN
def zTr(b:Nat)(a:Int):Option Unit:=(zDy b a)>>=λr=>if decide (r.2=0)=true then some ()else none
theorem zYR{b:Nat}{a:Int}{r:Unit}(h:zTr b a=some r):CT prog 192 [] [.sl (zH zP ([]:yB)) (List.length ([]:yB)) .nl,ai a] (.sl (zH zP ([]:yB)) (List.length ([]:yB)) (.st 0 15)) [] 1:=by obtain⟨x,h1,h⟩:=wM h;obtain⟨h2,h⟩:=spT h;exact CT.freezeZ (zTs _ h1) (of_decide_eq_true h2)
theorem yBh{b:Nat}{a:Int}:Cz (zTr b a) 192 [] [.sl (zH zP ([]:yB)) (List.length ([]:yB)) .nl,ai a] (λ_=>.sl (zH zP ([]:yB)) (List.length ([]:yB)) (.st 0 15)) (λ_=>[]) 1:=λ_ h=>zYR h
def dW:Nat->(List yB)->Int->yB->Option yB|0,_,_,_=>none|b+1,a,c,f=>if decide (c<(a.length:Int))then zO a c>>=λx8=>yT 192 f x8>>=λl10=>dW b a (yJ (c+1)) l10 else some f
def dX:Nat->(List yB)->Int->Int->Option yB|0,_,_,_=>none|b+1,a,d,e=>if decide (d<(a.length:Int))then zO a d>>=λx2=>if decide ((yJ (e+(x2.length:Int)))<0)then none else dX b a (yJ (d+1)) (yJ (e+(x2.length:Int)))else zTr b e>>=λr5=>dW b a 0 []
def zTq(b:Nat)(a:List yB):Option yB:=dX b a 0 0
theorem zTp:∀b:Nat,∀a c f,Lz (dW b a c f) 0 f134 (pt 65461 f134) (λj=>sp j 36 0 [(6,zC zP f (.st 0 15)),(25,zC (slC zP) a .no),(26,ai (a.length:Int)),(27,ai c)]) ⟨[],0,[0],1,[]⟩ (λr=>.sl (zH zP r) r.length .no) (λ_=>[]) 0 [.blk 2,.seq (pt 1023 f134)]:=xF (λ_ _ _=>lN) λb ih=>λa c f=>lw λ_=>rB 0 (rA 0 (zUu (o:=.no)) λx8=>rH λ_ h11=>rZ (List.length x8=0) (λh12=>rS (oP 1 (zXb h11 h12))<|lH 1 [] [] [0] [6,25,26,27] (ih _ _ _)) λh12=>rS (oP 1 (zUx h11 h12))<|lH 1 [] [] [1] [6,25,26,27] (ih _ _ _))<|lE 0
theorem zTo:∀b:Nat,∀a d e,Lz (dX b a d e) 0 f134 (pt 4021 f134) (λj=>sp j 36 0 [(0,zC (slC zP) a .no),(3,ai e),(9,zC (slC zP) a .no),(10,ai (a.length:Int)),(11,ai d)]) ⟨[],0,[],0,[]⟩ (λr=>.sl (zH zP r) r.length .no) (λ_=>[]) 0 [.blk 0,.seq (pt 63 f134)]:=xF (λ_ _ _=>lN) λb ih=>λa d e=>lw λ_=>rB 0 (rA 0 (zUu (o:=.no)) λ_=>rB 3 (rN)<|lH 1 [] [] [] [0,3,9,10,11] (ih _ _ _))<|rW (λh6=>oCx 0 [] (yBh _ h6)) λ_=>lH 1 [] [] [0] [6,25,26,27] (zTp _ _ _ _)
theorem yBg{b a}:Cz (zTq b a) 134 [] [zC (slC zP) a .no] (λr=>.sl (zH zP r) r.length .no) (λ_=>[]) 0:=fw func134<|fH 1 [] [] [] [0,3,9,10,11] (zTo _ _ _ _)
def qF:Nat->yB->(List zXg)->Int->Option yB|0,_,_,_=>none|b+1,a,d,c=>if decide (c<(a.length:Int))then zO a c>>=λx2=>e96 b x2.type>>=λr4=>e96 b x2.body>>=λr6=>zJz b x2.cons>>=λr8=>zJz b x2.fields>>=λr10=>yT 192 d [(zX.mk x2.kind x2.name r4 r6 x2.fam x2.place x2.pars x2.inds x2.level r8 r10)]>>=λl12=>qF b a l12 (yJ (c+1))else some d
def zJa(b:Nat)(a:yB):Option yB:=qF b a [] 0
theorem zFU:∀b:Nat,∀a d c,Lz (qF b a d c) 0 f51 (pt 4021 f51) (λj=>sp j 34 0 [(3,zC entZ d (.st 0 15)),(6,zC zP a .no),(7,ai (a.length:Int)),(8,ai c)]) ⟨[],0,[0],1,[]⟩ (λr=>zC entZ r .no) (λ_=>[]) 0 [.blk 0,.seq (pt 63 f51)]:=xF (λ_ _ _=>lN) λb ih=>λa d c=>lw λ_=>rB 0 (rA 0 (xN (o:=.no)) λx2=>rC 3 [] c96 λr4=>rC 1 [] c96 λr6=>rC 3 [] zUn λr8=>rS (b9 0)<|rC 0 [] zUn λr10=>rS (oWk 3 (wkr (zC entZ [(zX.mk x2.kind x2.name r4 r6 x2.fam x2.place x2.pars x2.inds x2.level r8 r10)] .full)))<|rW (λh13=>oP 0 (zUU h13 (by simp))) λ_=>lH 1 [] [] [1] [3,6,7,8] (ih _ _ _))<|lE 0
theorem zYS{b a}:Cz (zJa b a) 51 [] [zC zP a .no] (λr=>zC entZ r .no) (λ_=>[]) 0:=fw func51<|fH 1 [(none,3,15)] [] [0] [3,6,7,8] (zFU _ _ _ _)
def M3:Nat->yB->yB->(List (ByteArray×Int))->Int->Option (yB×Int)|0,_,_,_,_=>none|d+1,b,c,a,e=>if decide (e<(c.length:Int))then zO c e>>=λx9=>if decide ((X4 a x9.name)>0)then some ([],4)else M3 d b c a (yJ (e+1))else zTq d [b,c]>>=λr12=>aP d r12>>=λr14=>if r14 then zJa d r12>>=λr17=>some (r17,0)else some ([],5)
def M4:Nat->yB->yB->Int->(List (ByteArray×Int))->Option (yB×Int)|0,_,_,_,_=>none|d+1,b,c,f,a=>if decide (f<(b.length:Int))then zO b f>>=λx6=>M4 d b c (yJ (f+1)) (Q7 a x6.name (yJ ((X4 a x6.name)+1)))else M3 d b c a 0
def e61(d:Nat)(b c:yB):Option (yB×Int):=aP d b>>=λr1=>if r1 then if decide ((c.length:Int)>(yJ (256-(b.length:Int))))then some ([],2)else M4 d b c 0 ([]:List (ByteArray×Int))else some ([],5)
theorem zWo:∀d:Nat,∀b c a e,Lz (M3 d b c a e) 0 f61 (pt 262069 f61) (λj=>sp j 55 0 [(0,zC zP b .no),(1,zC zP c .no),(6,.obj 0),(34,zC zP c .no),(35,ai (c.length:Int)),(36,ai e)]) ⟨[(0,X3 a)],1,[],0,[]⟩ (λr=>.tup [zC entZ r.1 .no,ai r.2]) (λ_=>[]) 0 [.blk 2,.seq (pt 4095 f61)]:=xF (λ_ _ _ _=>lN) λd ih=>λb c a e=>lw λ_=>rB 0 (rA 0 (xN (o:=.no)) λx9=>rS (oL 3 (zIJ a x9.name))<|rB 0 (lE 0)<|lH 1 [] [0] [] [0,1,6,34,35,36] (ih _ _ _ _))<|rC 1 [] yBg λ_=>rK 0 [] c47 (λ_=>rC 1 [] zYS λ_=>lE 0) λ_=>lE 1
theorem zWn:∀d:Nat,∀b c f a,Lz (M4 d b c f a) 0 f61 (pt 65461 f61) (λj=>sp j 55 0 [(0,zC zP b .no),(1,zC zP c .no),(6,.obj 0),(22,zC zP b .no),(23,ai (b.length:Int)),(24,ai f)]) ⟨[(0,X3 a)],1,[],0,[]⟩ (λr=>.tup [zC entZ r.1 .no,ai r.2]) (λ_=>[]) 0 [.blk 0,.seq (pt 1023 f61)]:=xF (λ_ _ _ _=>lN) λd ih=>λb c f a=>lw λ_=>rB 0 (rA 0 (xN (o:=.no)) λx6=>rS (oL 3 (zIJ a x6.name))<|rS (oU 1 (zUr a x6.name (yJ ((X4 a x6.name)+1))))<|lH 1 [] [0] [] [0,1,6,22,23,24] (ih _ _ _ _))<|lH 1 [] [0] [] [0,1,6,34,35,36] (zWo _ _ _ _ _)
theorem c61{d b c}:Cz (e61 d b c) 61 [] [zC zP b .no,zC zP c .no] (λr=>.tup [zC entZ r.1 .no,ai r.2]) (λ_=>[]) 0:=fw func61<|rK 0 [] c47 (λ_=>rB 4 (fE 0)<|fH 1 [] [0] [] [0,1,6,22,23,24] (zWn _ _ _ _ _)) λ_=>fE 1
theorem P6:∀(r l:List ByteArray)(v:Nat),l.drop v=r->l.length<=65535->zD (λq=>iJ q l (v:Int)) λ_=>True|[],l,v,hd,hl=>by refine zD.succ ?_;simp only[iJ];refine zD.ite (λh=>?_) λ_=>zD.ret trivial;rw[yE hd]at h;cases h|x::r,l,v,hd,hl=>by have hlt:=yK hd;refine zD.succ ?_;simp only[iJ];rw[zV v (by omega)];have go:=P6 r l (v+1) (zR hd) hl;exact zD.ite (λ_=>zD.pure (zY hd) (zD.ite (λ_=>(sC _).bind λ_ _=>zD.ite (λ_=>go) λ_=>zD.ret trivial) λ_=>go)) λh=>by rw[yD hd]at h;cases h
theorem j5(l:List zX)(hl:l.length<=65535)(he:∀e∈l,nU e):zD (λq=>aP q l) λb=>∃N d,b=eZ N d l:=by obtain⟨N,hN⟩:=t6;obtain⟨d,-,h⟩:=L0 N hN l hl he;exact h.tot ⟨N,d,rfl⟩
theorem j6(l:List zX)(hl:l.length<=65535)(he:∀e∈l,nU e)(n:List ByteArray)(hn:n.length<=65535):zD (λq=>zPB q l n) λr=>r=0->n.length<=24:=by simp only[zPB,zWs];exact(P6 n n 0 rfl hn).bind λ_ _=>zD.ite (λ_=>(j5 l hl he).bind λ_ _=>zD.ite (λ_=>zD.ite (λ_=>zD.ret λh=>absurd h (by decide)) λh=>zD.ret λ_=>by have:=of_decide_eq_false h;omega) λ_=>zD.ret λh=>absurd h (by decide)) λ_=>zD.ret λh=>absurd h (by decide)
theorem zBg(s:ByteArray):∀(r l:List zX)(v:Nat),l.drop v=r->l.length<=65535->zD (λq=>dU q l s (v:Int)) λ_=>True|[],l,v,hd,hl=>by refine zD.succ ?_;simp only[dU];refine zD.ite (λh=>?_) λ_=>zD.ret trivial;rw[yE hd]at h;cases h|x::r,l,v,hd,hl=>by have hlt:=yK hd;refine zD.succ ?_;simp only[dU];rw[zV v (by omega)];exact zD.ite (λ_=>zD.pure (zY hd) (zD.ite (λ_=>zD.ret trivial) λ_=>zBg s r l (v+1) (zR hd) hl)) λh=>by rw[yD hd]at h;cases h
theorem uP(k n:Int):(Tm.mk k n []).Ok:=⟨by simp,trivial⟩
theorem zPE{x y:Tm}(hx:x.Ok)(hy:y.Ok)(k n:Int):(Tm.mk k n [x,y]).Ok:=⟨by simp,hx,hy,trivial⟩
theorem kU(n:Int):zB (λq=>L8 q n) (.mk 6 n []):=zB.mk λ_=>rfl
theorem zWm(a b:Tm):zB (λq=>zFM q a b) (.mk 3 0 [a,b]):=zB.mk λ_=>rfl
theorem zTn(a b:Tm):zB (λq=>zLo q a b) (.mk 4 0 [a,b]):=zB.mk λ_=>rfl
section
variable(l:List zX)(hl:l.length<=65535)(he:∀e∈l,nU e)
theorem zLI(a b c d:Int):zD (λq=>zTu q l a b c d) λ_=>True:=by simp only[zTu];exact zD.ite (λ_=>zD.ret trivial) λ_=>zD.ret trivial
include hl
theorem zBf(e p:Int)(n:List ByteArray)(t:zG)(hn:n.length<=100000):∀(m:Nat),m<=n.length->zD (λq=>dV q l e p n t ((m:Int)-1)) λr=>r.1.Ok|0,hm=>by refine zD.succ ?_;simp only[dV,zWr];exact zD.ite (λh=>absurd (of_decide_eq_true h) (by simp)) λ_=>(zBg t.name_ l l 0 rfl hl).bind λ_ _=>zD.ite (λ_=>(zLI l _ _ _ _).bind λ_ _=>zD.bind ((kU _).tot rfl) λ_ h=>zD.ret (h▸uP _ _)) λ_=>zD.bind ((kU _).tot rfl) λ_ h=>zD.ret (h▸uP _ _)|m+1,hm=>by refine zD.succ ?_;simp only[dV];rw[show(((m+1:Nat):Int)-1)=(m:Int)by omega,zS (x:=(m:Int)-1) (by omega) (by omega)];obtain⟨x,hx,-⟩:=tS (l:=n) (i:=(m:Int)) (by omega) (by omega);exact zD.ite (λ_=>zD.pure hx (zD.ite (λ_=>zD.bind ((sU _).tot rfl) λ_ h=>zD.ret (h▸uP _ _)) λ_=>zBf e p n t hn m (by omega))) λh=>absurd (of_decide_eq_false h) (by omega)
theorem zLJ(e p:Int){t:zG}(ht:XOk t):∀(e p:Int)(n:List ByteArray),n.length+ndN t<=100000->zD (λq=>zAj q l e p n t) λr=>r.1.Ok:=by induction ht with
 |@leaf k a nm m sub h=>
  intro e p n hn;refine zD.succ ?_;simp only[zAj,zWq,zG.kind_];rw[zS (by omega) (by omega)];refine zD.ite (λ_=>(zBf l hl e p n _ (by omega) n.length (Nat.le_refl _)).bind λr hr=>zD.ret hr) λh1=>zD.ite (λ_=>zD.bind ((mY _).tot rfl) λ_ h=>zD.ret (h▸uP _ _)) λh2=>?_;have h1:k≠1:=by simpa using h1
  have h2:k≠2:=by simpa using h2
  omega|@two k a nm m x y h hx hy ihx ihy=>intro e p n hn;simp only[ndN,ndL]at hn;refine zD.succ ?_;simp only[zAj,zG.kind_,zG.sub_,zG.name_];refine zD.ite (λh1=>absurd (by simpa using h1:k=1) (by omega)) λ_=>zD.ite (λh1=>absurd (by simpa using h1:k=2) (by omega)) λ_=>zD.pure (a:=x) rfl ((ihx e p n (by omega)).bind λr hr=>?_);have fin:∀(n':List ByteArray),n'.length+ndN y<=100000->zD (λq=>zAj q l r.2.1 r.2.2 n' y>>=λr18=>if(k==3)=true then zFM q r.1 r18.1>>=λr21=>some (r21,r18.2.1,r18.2.2)else if(k==4)=true then zLo q r.1 r18.1>>=λr24=>some (r24,r18.2.1,r18.2.2)else kI q r.1 r18.1>>=λr26=>some (r26,r18.2.1,r18.2.2)) λr=>r.1.Ok:=λn' h'=>(ihy _ _ n' h').bind λs hs=>zD.ite (λ_=>zD.bind ((zWm _ _).tot rfl) λ_ h=>zD.ret (h▸zPE hr hs _ _)) λ_=>zD.ite (λ_=>zD.bind ((zTn _ _).tot rfl) λ_ h=>zD.ret (h▸zPE hr hs _ _)) λ_=>zD.bind ((qY _ _).tot rfl) λ_ h=>zD.ret (h▸zPE hr hs _ _);refine zD.ite (λ_=>zD.pure (a:=n) (by unfold sN;rw[if_pos (by omega)];simp) (zD.pure (zW (by simp;omega)) (zD.pure (a:=y) rfl (fin _ (by simp;omega))))) λ_=>zD.pure (a:=y) rfl (fin n (by omega))
include he
theorem zBe(n:List ByteArray)(hn:n.length<=65535)(t:zG)(ht:gV t):zD (λq=>zPC q l n t) λr=>r.1.Ok/\(r.2.2=0->zJ r.1=true):=by
 simp only[zPC];refine(F4 t ht).bind λb hb=>zD.ite (λh=>(j6 l hl he n hn).bind λc hc=>zD.ite (λh2=>zD.ret ⟨uP _ _,λh3=>?_⟩) λh2=>?_) λ_=>zD.ret ⟨uP _ _,λh=>absurd h (by decide)⟩;·exact absurd h3 (by simpa using h2)
 ·have h3:=hc (by simpa using h2);have h4:=hb h;refine(zLJ l hl 0 0 h4.1 0 0 n (by omega)).bind λr hr=>zD.ite (λh5=>zD.ret ⟨uP _ _,λh6=>?_⟩) λ_=>zD.bind ((xR _ hr).tot rfl) λd hd=>zD.ite (λh7=>zD.ret ⟨hr,λ_=>hd.trans h7⟩) λ_=>zD.ret ⟨uP _ _,λh=>absurd h (by decide)⟩;exact absurd h6 (by simpa using h5)
def TeR(N:Nat)(r:List Tm×List ByteArray×Int×Int):Prop:=r.2.2.2=0->xW r.1/\(∀t∈r.1,zJ t=true)/\r.1.length=N/\r.2.1.length<=24
theorem zBd(b:List yC)(hb:bOk b)(k:Nat)(hbl:k+b.length<=24):∀(r:List yC)(v:Nat)(T:List Tm)(n:List ByteArray),b.drop v=r->v<=b.length->T.length=v->n.length=k+v->xW T->(∀t∈T,zJ t=true)->zD (λq=>iK q l b T n (v:Int)) (TeR b.length)
 |[],v,T,n,hd,hv,hT,hn,ho,hs=>by refine zD.succ ?_;simp only[iK];have h1:=List.drop_eq_nil_iff.1 hd;refine zD.ite (λh=>?_) λ_=>zD.ret λ_=>⟨ho,hs,by show T.length=_;omega,by show n.length<=_;omega⟩;rw[yE hd]at h;cases h|x::r,v,T,n,hd,hv,hT,hn,ho,hs=>by
  have hlt:=yK hd;have hm:x∈b:=List.mem_of_mem_drop (hd▸List.mem_cons_self ..);refine zD.succ ?_;simp only[iK];rw[zV v (by omega)];refine zD.ite (λ_=>zD.pure (zY hd) ((sC _).bind λ_ _=>zD.ite (λ_=>(zBe l hl he n (by omega) x.type_ (hb x hm)).bind λt ht=>zD.ite (λh=>zD.ret λh2=>?_) λh=>zD.pure (zW (by simp;omega)) (zD.pure (zW (by simp;omega)) ?_)) λ_=>zD.ret λh=>absurd h (by decide))) λh=>by rw[yD hd]at h;cases h
  ·exact absurd h2 (by simpa using h)
  ·have h0:t.2.2=0:=by simpa using h
   refine zBd b hb k hbl r (v+1) _ _ (zR hd) hlt (by simp[hT]) (by simp[hn];omega) (λa ha=>?_) λa ha=>?_<;>rcases List.mem_append.1 ha with ha|ha;·exact ho a ha
   ·rw[List.mem_singleton.1 ha];exact ht.1
   ·exact hs a ha
   ·rw[List.mem_singleton.1 ha];exact ht.2 h0
theorem zBc(n:List ByteArray)(hn:n.length<=65535)(b:List yC)(hb:bOk b)(hbl:b.length<=65535):zD (λq=>zPD q l n b) (TeR b.length):=by simp only[zPD];refine(j6 l hl he n hn).bind λc hc=>zD.ite (λh2=>zD.ret λh3=>absurd h3 (by simpa using h2)) λh2=>?_;have h3:=hc (by simpa using h2);rw[zS (by omega) (by omega)];refine zD.ite (λ_=>zD.ret λh=>absurd h (by decide)) λh4=>zD.pure (zW (by simp;omega)) ?_;have h5:=of_decide_eq_false h4;exact zBd l hl he b hb n.length (by omega) b 0 [] _ rfl (by omega) rfl (by simp) (λ_ h=>nomatch h) (λ_ h=>nomatch h)
end
theorem zBb:∀(r l acc:List zX)(v:Nat),l.drop v=r->l.length<=65535->(∀e∈l,nU e)->(∀e∈l,ECl e)->acc.length<=v->zB (λq=>qF q l acc (v:Int)) (acc++r.map zFq)|[],l,acc,v,hd,hl,he,hc,ha=>by refine zB.succ ?_;simp only[qF];exact zB.ifF (yE hd) (zB.ret.eq (by simp))|x::r,l,acc,v,hd,hl,he,hc,ha=>by have hlt:=yK hd;have hx:x∈l:=List.mem_of_mem_drop (hd▸List.mem_cons_self ..);have hE:=he x hx;have hC:=hc x hx;refine zB.succ ?_;simp only[qF];refine zB.ifT (yD hd) (zB.pure (zY hd) ((nN _ hE.1).bind ((nN _ hE.2.1).bind ?_)));refine zB.bind (a:=x.cons) (zB.mk λq=>(zW (by have:=hC.1;simp<;>omega)).trans (by simp)) (zB.bind (a:=x.fields) (zB.mk λq=>(zW (by have:=hC.2;simp<;>omega)).trans (by simp)) (zB.pure (zW (by simp<;>omega)) ?_));rw[zV v (by omega)];exact(zBb r l _ (v+1) (zR hd) hl he hc (by simp<;>omega)).eq (by simp[zFq])
theorem zHL(a b:List zX)(h:0<a.length+b.length)(hl:a.length+b.length<=65535):zB (λq=>zTq q [a,b]) (a++b):=by
 simp only[zTq];refine zB.succ ?_;simp only[dX];refine zB.ifT rfl (zB.pure (a:=a) rfl (zB.ifF (decide_eq_false (by rw[zS (by omega) (by omega)];omega)) (zB.succ ?_)));simp only[dX];rw[zS (x:=0+(a.length:Int)) (by omega) (by omega)];refine zB.ifT rfl (zB.pure (a:=b) rfl (zB.ifF (decide_eq_false (by rw[zS (by omega) (by omega)];omega)) (zB.succ ?_)));simp only[dX];rw[zS (x:=0+(a.length:Int)+(b.length:Int)) (by omega) (by omega)];refine zB.ifF rfl (zB.bind (a:=()) ?_ (zB.succ ?_));·simp only[zTr,zDy];rw[zS (x:=0+(a.length:Int)+(b.length:Int)-0) (by omega) (by omega)];refine zB.bind (zB.ifF (decide_eq_false (by omega)) (zB.ifT (decide_eq_true (by omega)) (zB.pure (by unfold gmk;rw[if_pos (by omega)]) (zB.pure (by unfold zKf;rw[if_pos (by omega)]) zB.ret)))) (zB.ifT (by rfl) zB.ret)
 ·simp only[dW];refine zB.ifT rfl (zB.pure (a:=a) rfl (zB.pure (zW (by simp;omega)) (zB.succ ?_)));simp only[dW];refine zB.ifT rfl (zB.pure (a:=b) rfl (zB.pure (zW (by simp;omega)) (zB.succ ?_)));simp only[dW];exact zB.ifF rfl (zB.ret.eq (by simp))
theorem zFV(a b:List zX)(m:List (ByteArray×Int))(h:0<a.length+b.length)(hl:a.length+b.length<=65535)(he:∀e∈a++b,nU e)(hc:∀e∈a++b,ECl e):∀(r:List zX)(v:Nat),b.drop v=r->zD (λq=>M3 q a b m (v:Int)) λr=>(r.2≠0->r.1=[]/\r.2≠8)/\(r.2=0->r.1=a++b/\zB (λq=>aP q (a++b)) true)
 |[],v,hd=>by
  refine zD.succ ?_;simp only[M3];refine zD.ite (λh=>by rw[yE hd]at h;cases h) λ_=>zD.bind ((zHL a b h hl).tot rfl) λc hc'=>?_;subst hc';obtain⟨N,hN⟩:=t6;obtain⟨d,-,hF⟩:=L0 N hN (a++b) (by rw[List.length_append];omega) he;refine zD.bind (hF.tot rfl) λc hc'=>zD.ite (λh1=>?_) λ_=>zD.ret ⟨λ_=>⟨rfl,by decide⟩,λh=>absurd h (by decide)⟩;rw[<-hc']at h1;have cp:zB (λq=>zJa q (a++b)) (a++b):=by simp only[zJa];exact(zBb _ _ [] 0 rfl (by rw[List.length_append];omega) he hc (by simp)).eq (by rw[List.nil_append];exact kR (jU h1))
  exact zD.bind (cp.tot rfl) λx hx=>zD.ret ⟨λh=>absurd rfl h,λ_=>⟨hx.symm,h1▸hF⟩⟩|x::r,v,hd=>by have hlt:=yK hd;refine zD.succ ?_;simp only[M3];rw[zV v (by omega)];exact zD.ite (λ_=>zD.pure (zY hd) (zD.ite (λ_=>zD.ret ⟨λ_=>⟨rfl,by decide⟩,λh=>absurd h (by decide)⟩) λ_=>zFV a b m h hl he hc r (v+1) (zR hd))) λh=>by rw[yD hd]at h;cases h
theorem zFW(a b:List zX)(h:0<a.length+b.length)(hl:a.length+b.length<=65535)(he:∀e∈a++b,nU e)(hc:∀e∈a++b,ECl e):∀(r:List zX)(v:Nat)(m:List (ByteArray×Int)),a.drop v=r->zD (λq=>M4 q a b (v:Int) m) λr=>(r.2≠0->r.1=[]/\r.2≠8)/\(r.2=0->r.1=a++b/\zB (λq=>aP q (a++b)) true)|[],v,m,hd=>by refine zD.succ ?_;simp only[M4];exact zD.ite (λh=>by rw[yE hd]at h;cases h) λ_=>zFV a b m h hl he hc b 0 rfl|x::r,v,m,hd=>by have hlt:=yK hd;refine zD.succ ?_;simp only[M4];rw[zV v (by omega)];exact zD.ite (λ_=>zD.pure (zY hd) (zFW a b h hl he hc r (v+1) _ (zR hd))) λh=>by rw[yD hd]at h;cases h
theorem zPF(a b:List zX)(h:0<a.length+b.length)(hl:a.length+b.length<=65535)(he:∀e∈a++b,nU e)(hc:∀e∈a++b,ECl e):zD (λq=>e61 q a b) λr=>(r.2≠0->r.1=[]/\r.2≠8)/\(r.2=0->r.1=a++b/\zB (λq=>aP q (a++b)) true):=by simp only[e61];exact(j5 a (by omega) λe h=>he e (List.mem_append_left _ h)).bind λ_ _=>zD.ite (λ_=>zD.ite (λ_=>zD.ret ⟨λ_=>⟨rfl,by decide⟩,λh=>absurd h (by decide)⟩) λ_=>zFW a b h hl he hc a 0 _ rfl) λ_=>zD.ret ⟨λ_=>⟨rfl,by decide⟩,λh=>absurd h (by decide)⟩
def dY:Nat->wA->Int->Int->yA->yH->yA->yA->Int->Option (Bool)|0,_,_,_,_,_,_,_,_=>none|e+1,M,c,d,p0_Context,p0_Names,p0_Types,b,a=>if decide (a<(b.length:Int))then zO b a>>=λx3=>zHH e M>>=λr5=>Y4 e x3 1048577 r5>>=λr7=>if r7 then dY e M c d p0_Context p0_Names p0_Types b (yJ (a+1))else some false else some true
def zLK(e:Nat)(M:wA)(c d:Int)(p0_Context:yA)(p0_Names:yH)(p0_Types b:yA):Option (Bool):=if(p0_Names.length:Int)!=(p0_Types.length:Int)then some false else dY e M c d p0_Context p0_Names p0_Types b 0
theorem zTl:∀e:Nat,∀M c d p0_Context p0_Names p0_Types b a,Lz (dY e M c d p0_Context p0_Names p0_Types b a) 3 f159 (pt 4021 f159) (λj=>sp j 32 0 [(2,.mp 3 0),(19,zC zA b .no),(20,ai (b.length:Int)),(21,ai a)]) ⟨[(0,mB M 1),(1,mR M),(2,.cells [ai c,ai d]),(3,.cells [.mp 0 0,.mp 2 0,zC zA p0_Context .no,zC zQ p0_Names .no,zC zA p0_Types .no])],4,[],0,[]⟩ (λr=>ab r) (λ_=>[mB M 1,mR M,.cells [ai c,ai d]]) 0 [.blk 0,.seq (pt 63 f159)]:=xF (λ_ _ _ _ _ _ _ _=>lN) λe ih=>λM c d p0_Context p0_Names p0_Types b a=>lw λ_=>rB 0 (rA 0 (xA (o:=.no)) λ_=>rC 4 [0,1] zPi λ_=>rK 0 [] zGN (λ_=>lH 2 [] [0,1,2,3] [] [2,19,20,21] (ih _ _ _ _ _ _ _ _)) λ_=>lE 1)<|lE 0
theorem zWl{e M c d p0_Context p0_Names p0_Types b}:Cz (zLK e M c d p0_Context p0_Names p0_Types b) 159 [mB M 1,mR M,.cells [ai c,ai d]] [.agg [.mp 0 0,.mp 2 0,zC zA p0_Context .no,zC zQ p0_Names .no,zC zA p0_Types .no],zC zA b .no] (λr=>ab r) (λ_=>[mB M 1,mR M,.cells [ai c,ai d]]) 0:=fw func159<|rB 6 (fE 0)<|fH 1 [] [0,1,2,3] [] [2,19,20,21] (zTl _ _ _ _ _ _ _ _ _)
def e93(c:Nat)(M:wA)(a b:Int)(p0_Context:yA)(p0_Names:yH)(p0_Types d:yA):Option ((Int×yA×yH×yA×yB)⊕(Int)):=zLK c M a b p0_Context p0_Names p0_Types d>>=λr1=>if r1 then zLK c M a b p0_Context p0_Names p0_Types p0_Context>>=λr4=>if r4 then zLK c M a b p0_Context p0_Names p0_Types p0_Types>>=λr7=>if r7 then zHI c M>>=λr10=>some (Sum.inl (0,p0_Context,p0_Names,p0_Types,r10))else some (Sum.inr 5)else some (Sum.inr 5)else some (Sum.inr 5)
theorem c93{c M a b p0_Context p0_Names p0_Types d}:Cz (e93 c M a b p0_Context p0_Names p0_Types d) 93 [mB M 1,mR M,.cells [ai a,ai b]] [.agg [.mp 0 0,.mp 2 0,zC zA p0_Context .no,zC zQ p0_Names .no,zC zA p0_Types .no],zC zA d .no] (Sum.elim (λx=>.tup [.mp 3 0,ai x.1]) (λx=>.tup [.val (.pointer none),ai x])) (Sum.elim (λx=>[mB M 1,mR M,.cells [ai a,ai b],.cells [.mp 0 0,.mp 2 0,zC zA x.2.1 .no,zC zQ x.2.2.1 .no,zC zA x.2.2.2.1 .no,zC zP x.2.2.2.2 .no]]) (λ_=>[mB M 1,mR M,.cells [ai a,ai b]])) 0:=fw func93<|rK 1 [0,1,2] zWl (λ_=>rK 3 [0,1,2] zWl (λ_=>rK 3 [0,1,2] zWl (λ_=>rC 3 [0,1] zVZ λ_=>fF 0 [0,1,2,4]) λ_=>fE 1) λ_=>fE 1) λ_=>fE 1
def e98(d:Nat)(M:wA)(a b:Int)(p0_Context:yA)(p0_Names:yH)(p0_Types:yA)(c:Tm):Option (Int×Int×Int×Int):=e93 d M a b p0_Context p0_Names p0_Types [c]>>=λr1=>match r1 with|Sum.inl y3=>if y3.1 !=0 then some (0,y3.1,a,b)else e94 d M a b y3.2.1 y3.2.2.1 y3.2.2.2.1 y3.2.2.2.2 c>>=λr5=>some (r5.1,r5.2.1,r5.2.2.1,r5.2.2.2)|Sum.inr y7=>if y7 !=0 then some (0,y7,a,b)else none
theorem c98{d M a b p0_Context p0_Names p0_Types c}:Cz (e98 d M a b p0_Context p0_Names p0_Types c) 98 [mB M 1,mR M,.cells [ai a,ai b]] [.agg [.mp 0 0,.mp 2 0,zC zA p0_Context .no,zC zQ p0_Names .no,zC zA p0_Types .no],yL c] (λr=>.tup [ai r.1,ai r.2.1]) (λr=>[mB M 1,mR M,.cells [ai r.2.2.1,ai r.2.2.2]]) 0:=fw func98<|rS (oS 2 (yU xH [c]))<|rC 0 [0,1,2] c93<|iT (λ_=>rB 2 (fE 0)<|rC 1 [5,0,1,2] c94 λ_=>fE 2) λ_=>rB 2 (fE 0) rN
set_option linter.unusedSectionVars false
def M5(l:List zX)(ns:List Int)(ts p:List Tm):Bool:=decide (ns.length=ts.length)&&p.all λx=>decide (xG l x)
theorem zBa{l:List zX}{ns:List Int}{ts p:List Tm}(h:M5 l ns ts p=true):ns.length=ts.length/\∀x∈p,xG l x:=by unfold M5 at h;simp only[Bool.and_eq_true,List.all_eq_true,decide_eq_true_eq]at h;exact h
theorem j7(l:List zX)(ctx:List Tm)(ns:List Int)(ts p:List Tm)(L U:Int)(hl:p.length<=100):∀(r:List Tm)(v:Nat),p.drop v=r->xW r->zB (λq=>dY q (wF l) L U ctx ns ts p (v:Int)) (r.all λx=>decide (xG l x))
 |[],v,hd,_=>by refine zB.succ ?_;simp only[dY];exact zB.ifF (yE hd) zB.ret|t::r,v,hd,ho=>by
  have hlt:=yK hd;refine zB.succ ?_;simp only[dY];have hr:zB (λq=>Y4 q t 1048577 (l.length:Int)) (decide (xG l t)):=(mD t _ _ (ho t (by simp))).eq (by show _=decide (qW t 1048577 l.length=true);simp);refine zB.ifT (yD hd) (zB.pure (zY hd) (zB.bind (a:=(l.length:Int)) (zB.mk λq=>rfl) (hr.bind ?_)));by_cases h:xG l t
  ·refine zB.ifT (by simpa using h) ?_;rw[zV v (by omega)];exact(j7 l ctx ns ts p L U hl r (v+1) (zR hd) λx hx=>ho x (by simp[hx])).eq (by simp[h])
  ·exact zB.ifF (by simpa using h) (zB.ret.eq (by simp[h]))
theorem M6(l:List zX)(ctx:List Tm)(ns:List Int)(ts p:List Tm)(L U:Int)(hl:p.length<=100)(ho:xW p):zB (λq=>zLK q (wF l) L U ctx ns ts p) (M5 l ns ts p):=by
 simp only[zLK];unfold M5;by_cases h:ns.length=ts.length;·exact zB.ifF (by simp[h]) ((j7 l ctx ns ts p L U hl p 0 rfl ho).eq (by simp[h]))
 ·exact zB.ifT (by simp;omega) (zB.ret.eq (by simp[h]))
section
variable{N:ByteArray->Bool}(l:List zX)(hE:wP N l)(he:∀e∈l,nU e)(hl:l.length<=65535)(hc:∀e∈l,ECl e)
include hE he hl hc
theorem zFX(ctx:List Tm)(ns:List Int)(ts:List Tm)(t:Tm)(hcl:ctx.length<=100)(htl:ts.length<=100)(hoc:xW ctx)(hot:xW ts)(ho:t.Ok)(L U:Int):zB (λq=>e93 q (wF l) L U ctx ns ts [t]) (if(M5 l ns ts [t]&&M5 l ns ts ctx&&M5 l ns ts ts)=true then .inl (0,ctx,ns,ts,l)else .inr 5):=by
 simp only[e93];refine(M6 l ctx ns ts [t] L U (by simp) (xW.one ho)).bind ?_;by_cases h1:M5 l ns ts [t]=true
 ·refine zB.ifT h1 ((M6 l ctx ns ts ctx L U hcl hoc).bind ?_);by_cases h2:M5 l ns ts ctx=true
  ·refine zB.ifT h2 ((M6 l ctx ns ts ts L U htl hot).bind ?_);by_cases h3:M5 l ns ts ts=true
   ·refine zB.ifT h3 (zB.bind (a:=l) ?_ (zB.ret.eq (by simp[h1,h2,h3])));simp only[zHI];exact((F9 l hl he hc).eq (kR hE)).bind zB.ret
   ·exact zB.ifF (by simpa using h3) (zB.ret.eq (by simp[h3]))
  ·exact zB.ifF (by simpa using h2) (zB.ret.eq (by simp[h2]))
 ·exact zB.ifF (by simpa using h1) (zB.ret.eq (by simp[h1]))
theorem zDx(hF:zB (λq=>aP q l) true)(ctx:List Tm)(ns:List Int)(ts:List Tm)(t:Tm)(hcl:ctx.length<=100)(htl:ts.length<=100)(hoc:xW ctx)(hot:xW ts)(ho:t.Ok)(f:Int)(hf:0<=f):Ou (λL U q=>e98 q (wF l) L U ctx ns ts t) zWt QU True f:=by
 simp only[e98];by_cases h:(M5 l ns ts [t]&&M5 l ns ts ctx&&M5 l ns ts ts)=true
 ·have hh:=h;simp only[Bool.and_eq_true]at h;obtain⟨⟨h1,h2⟩,h3⟩:=h;have hR:=(zBa h1).2 t (by simp);have hns:=(zBa h1).1;refine Ou.imp (f:=λL U q=>e94 q (wF l) L U ctx ns ts l t>>=λr5=>some (r5.1,r5.2.1,r5.2.2.1,r5.2.2.2)) ?_ λL U r k=>((zFX l hE he hl hc ctx ns ts t hcl htl hoc hot ho L U).eq (if_pos hh)).bind (zB.ifF rfl k);have hn:=(zK hR.shaped).1;refine Ou.bind ((zFT l hE he hl hc hF ns ts hot hns (by omega) t.nodes t hR (Nat.le_refl _)).2.1 ctx f hoc (by omega) hf) id (λr hr=>⟨_,zB.ret,hr⟩) ?_;rintro R k k0 k1⟨a,e,h8,rfl⟩;exact Ou.ret (by omega) ⟨a,e,h8,rfl⟩
 ·refine Ou.imp (f:=λL U q=>some (0,5,L,U)) (Ou.ret hf ⟨0,5,by decide,rfl⟩) λL U r k=>((zFX l hE he hl hc ctx ns ts t hcl htl hoc hot ho L U).eq (if_neg h)).bind (zB.ifT rfl k)
end
structure P7(l:List zX):Prop where
 he:∀e∈l,nU e
 hc:∀e∈l,ECl e
 hl:l.length<=65535
 hF:zB (λq=>aP q l) true
theorem P7.E{l:List zX}(h:P7 l):(∃N,wP N l)/\zB (λq=>e39 q l) (.inr (0,l,l.map xZ,l.map tW,l,mJ l l.length 0)):=by obtain⟨N,hN⟩:=t6;obtain⟨b,h1,h2,h3⟩:=zSo N hN l h.hl h.he h.hc;have e:=h.hF.det h1;subst e;exact⟨⟨N,h2 rfl⟩,h3.eq (by unfold zOJ;rw[if_pos rfl])⟩
theorem P7.U{l:List zX}(h:P7 l)(ctx:List Tm)(t:Tm)(hcl:ctx.length<=100)(hoc:xW ctx)(ho:t.Ok)(f:Int)(hf:0<=f):Ou (λL U q=>e98 q (wF l) L U ctx [] [] t) zWt QU True f:=by obtain⟨⟨N,hE⟩,-⟩:=h.E;exact zDx l hE h.he h.hl h.hc h.hF ctx [] [] t hcl (by simp) hoc (λ_ h=>nomatch h) ho f hf
def oY(B:Nat)(q:yB)(s t:Int)(u:ByteArray)(v:List yC)(w y:Int)(z:ByteArray)(i:Int)(j:List zG)(c:List yC)(d:List xQ)(e f:Int)(g:yA)(m:List ByteArray)(n a b p A:Int):Option (Bool×Int×Int):=if a==0 then if p !=0 then some ((p !=0),p,A)else some ((a !=0),a,b)else some ((a !=0),a,b)
theorem kV{B q s t u v w y z i j c d e f g m n a b p A}:Cz (oY B q s t u v w y z i j c d e f g m n a b p A) 120 [.cells [zC zP q .no,ai s,ai t,at' u,zC zF v .no,ai w,ai y,at' z,ai i,zC zL j .no,zC zF c .no,zC zU d .no,.mp 1 0,zC zA g .no,zC xJ m .no,zC zA ([]:yA) .nl,ai n,ai a,ai b],.cells [ai e,ai f]] [.mp 0 0,ai p,ai A] (λr=>ab r.1) (λr=>[.cells [zC zP q .no,ai s,ai t,at' u,zC zF v .no,ai w,ai y,at' z,ai i,zC zL j .no,zC zF c .no,zC zU d .no,.mp 1 0,zC zA g .no,zC xJ m .no,zC zA ([]:yA) .nl,ai n,ai r.2.1,ai r.2.2],.cells [ai e,ai f]]) 0:=fw func120<|rB 1 (rB 0 (fG 4 [] [0,1] [] true)<|fG 2 [] [0,1] [] true)<|fG 2 [] [0,1] [] true
def tO(j:Nat)(n:yB)(p q:Int)(s:ByteArray)(t:List yC)(u v:Int)(w:ByteArray)(y:Int)(z:List zG)(c:List yC)(d:List xQ)(e f g a b m i:Int):Option (Bool×Int×Int):=if a==0 then if m !=0 then some ((m !=0),m,i)else some ((a !=0),a,b)else some ((a !=0),a,b)
theorem rD{j n p q s t u v w y z c d e f g a b m i}:Cz (tO j n p q s t u v w y z c d e f g a b m i) 120 [.cells [zC zP n .no,ai p,ai q,at' s,zC zF t .no,ai u,ai v,at' w,ai y,zC zL z .no,zC zF c .no,zC zU d .no,.mp 1 0,zC zA ([]:yA) .nl,zC xJ ([]:List ByteArray) .nl,zC zA ([]:yA) .nl,ai g,ai a,ai b],.cells [ai e,ai f]] [.mp 0 0,ai m,ai i] (λr=>ab r.1) (λr=>[.cells [zC zP n .no,ai p,ai q,at' s,zC zF t .no,ai u,ai v,at' w,ai y,zC zL z .no,zC zF c .no,zC zU d .no,.mp 1 0,zC zA ([]:yA) .nl,zC xJ ([]:List ByteArray) .nl,zC zA ([]:yA) .nl,ai g,ai r.2.1,ai r.2.2],.cells [ai e,ai f]]) 0:=fw func120<|rB 1 (rB 0 (fG 4 [] [0,1] [] true)<|fG 2 [] [0,1] [] true)<|fG 2 [] [0,1] [] true
def zPG(b:Nat)(a:ByteArray):Option (ByteArray):=zMV a (⟨#[39]⟩:ByteArray)>>=λx1=>some x1
theorem zYT{b a}:Cz (zPG b a) 121 [] [at' a] (λr=>at' r) (λ_=>[]) 0:=fw func121<|rA 0 (zUQ (P:=prog) (t:=9)) λ_=>fE 0
def dZ:Nat->(List ByteArray)->ByteArray->Int->Option (Int)|0,_,_,_=>none|c+1,a,b,d=>if decide (d>=0)then zO a d>>=λx2=>if x2.toList==b.toList then some d else dZ c a b (yJ (d-1))else some (-1)
def zTk(c:Nat)(a:List ByteArray)(b:ByteArray):Option (Int):=dZ c a b (yJ ((a.length:Int)-1))
theorem zTj:∀c:Nat,∀a b d,Lz (dZ c a b d) 0 f122 (pt 949 f122) (λj=>sp j 20 0 [(0,zC xJ a .no),(1,at' b),(5,ai d)]) ⟨[],0,[],0,[]⟩ (λr=>ai r) (λ_=>[]) 0 [.blk 0,.seq (pt 15 f122)]:=xF (λ_ _ _=>lN) λc ih=>λa b d=>lw λ_=>rB 0 (rA 0 (zQG (o:=.no)) λ_=>rB 1 (lE 0)<|lH 1 [] [] [] [0,1,5] (ih _ _ _))<|lE 0
theorem zYU{c a b}:Cz (zTk c a b) 122 [] [zC xJ a .no,at' b] (λr=>ai r) (λ_=>[]) 0:=fw func122<|fH 2 [] [] [] [0,1,5] (zTj _ _ _ _)
end Go.Proofs.YthncchbcdpbgaaaGreat
