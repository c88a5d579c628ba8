/- Parts of the proof that the law returns true: walks of the functions, plain laws. -/
import Derived.Test.YthncchbcdpbgaaaGreatAbB4
set_option linter.unusedVariables false
set_option linter.unusedSimpArgs false
set_option linter.unusedSectionVars false
namespace Go.Proofs.YthncchbcdpbgaaaGreat
open Go Go.Ab
theorem zPu(l:List Ent)(i:Int)(h0:0≤i)(h1:i<l.length)(hk:(ent l i).kind=2):zL (evA l l.length 0) i=some (vO l i):=by
 unfold zL
 rw[if_pos h0,zGX l l.length 0 i.toNat (by omega),show ((0+i.toNat:Nat):Int)=i by omega,if_pos hk]
theorem zRQ(l:List Ent)(t:Tm)(of b:Int):bI (zLU l t of b):=by
 unfold zLU
 split
 ·rename_i h
  have hw:=oH (t:=t) (l:=(xC t).1) (y:=(xC t).2.1) (by rw[←h.1])
  have hs:=zK hw.2.2.2.2.1
  have hal:=sA _ hs.2.2
  refine⟨fun x hx=>yG (hw.2.2.2.2.2 x hx),fun x hx=>yG (xP hw.2.2.2.2.1 (List.mem_of_mem_drop hx)),?_,?_⟩
  ·show (xC t).1.length≤_
   omega
  ·show ((arT (xC t).2.1).drop _).length≤_
   rw[List.length_drop];omega
 ·exact⟨OkA.nil,OkA.nil,by simp,by simp⟩
theorem zAI(l:List Ent)(of:Int):∀(r:List Tm) (b:Int),∀x∈D4 l of r b,bI x
 | [],_,x,h=>nomatch h
 |a::r,b,x,h=>by
  rcases List.mem_cons.1 h with h|h
  ·rw[h];exact zRQ l a of b
  ·exact zAI l of r (b+1) x h
def zAJ(l:List Ent)(i:Int)(a:List Tm)(x:Tm×Int):Prop:=
 x.1.Ok∧x.2≠8∧(x.2=0->(a.length:Int)=(ent l (ent l i).fam).fields.length∧0≤(ent l i).place∧(ent l i).place<a.length∧x.1=nth a (ent l i).place)
theorem zIR{N:ByteArray->Bool}(l:List Ent)(parts:List xN)(i:Int)(a:List Tm)(hE:vK N l)(ho:OkA a)(hl:a.length≤1073741824):Tot (fun q=>zFi q l parts i a) (zAJ l i a):=by
 simp only[zFi]
 have bad:∀e:Int,e≠8->e≠0->zAJ l i a (.mk 0 0 [],e):=fun e h8 h0=>⟨yS 0 0,h8,fun h=>absurd h h0⟩
 refine Tot.bind (P:=fun b=>b=isT l i 4) ((zAH l i 4).tot rfl) fun b hb=>Tot.ite (fun hT=>?_) fun _=>Tot.ret (bad _ (by decide) (by decide))
 rw[hT]at hb
 have hi:=wU hb.symm
 have hp:=(xQ (hE.2 i hi.1 hi.2.1)).2.2.2.1 hi.2.2
 unfold D3 at hp
 simp only[Bool.and_eq_true]at hp
 have hw:=sP hp.1
 have h6:=hw.2.2.2.2.2
 unfold R6 at h6
 rw[if_pos hi.2.2]at h6
 refine Tot.pure (yF hi.1 hi.2.1) (Tot.pure (yF hw.1 (by omega)) (Tot.ite (fun _=>Tot.ret (bad _ (by decide) (by decide))) fun hn=>?_))
 have hn':(a.length:Int)=(ent l (ent l i).fam).fields.length:=by simpa using hn
 refine Tot.bind (P:=fun _=>True) ((dO a hl ho).tot trivial) fun _ _=>Tot.ite (fun _=>?_) fun _=>Tot.ret (bad _ (by decide) (by decide))
 have h7:(ent l i).place<a.length:=by omega
 have hx:=uB (l:=a) hw.2.2.2.2.1 h7
 exact Tot.pure hx (Tot.ret ⟨ho _ (rQ hw.2.2.2.2.1 h7),by simp,fun _=>⟨hn',hw.2.2.2.2.1,h7,rfl⟩⟩)
def S4(d lev:Int)(args own:List Tm)(pars:Nat):List uS->Nat->Tm->Tm
 | [],_,t=>t
 |r::rs,v,t=>S4 d lev args own pars rs (v+1) (if r.is=true then .mk 5 0 [t,zTX (.mk 7 d [.mk 2 lev []]) args (args.take pars++own.take v) r (nth own v)]else t)
def zTZ(l:List Ent)(d lev c:Int)(args own:List Tm):Tm:=
 S4 d lev args own (ent l d).pars.toNat (vO l c).recs 0 (apT (nth args ((ent l d).pars+1+(ent l c).place)) own)
theorem zIS{N:ByteArray->Bool}(l:List Ent)(parts:List xN)(i p2:Int)(p4 p5:List Tm)(x:xN)(hE:vK N l)(h0:0≤i)(h1:i<l.length)(hk:(ent l i).kind=1)(hp:(ent l i).pars≤p4.length)(hl4:p4.length≤65535)(h5:p5.length=x.recs.length)(hl5:p5.length≤65535)
  (ho4:OkA p4) (ho5:OkA p5) (hx:∀r∈x.recs,bI r):∀(r:List uS) (v:Nat) (e:Int) (t:Tm),x.recs.drop v=r->t.Ok->Tot (fun q=>kG q l parts i p2 p4 p5 x (v:Int) e t.k t.n t.sub)
   (fun y=>y.1.Ok∧(e≠8->y.2≠8)∧(y.2=0->e=0∧y.1=S4 i p2 p4 p5 (ent l i).pars.toNat r v t∧zG y.1=true)):=by
 have hf:=wI ((xQ (hE.2 i h0 h1)).2.1 hk)
 intro r
 induction r with
 |nil=>
  intro v e t hd ht
  refine Tot.succ ?_
  simp only[kG,uI]
  refine Tot.ite (fun h=>?_) fun _=>(zDj e t ht).bind fun r h=>Tot.ret ⟨h.1,h.2.1,fun h0=>?_⟩
  ·rw[zX hd]at h;cases h
  ·have k:=h.2.2 h0
   exact⟨k.1,k.2.1,by show zG r.1=true;rw[k.2.1];exact k.2.2⟩
 |cons z r ih=>
  intro v e t hd ht
  have hlt:=yC hd
  have hz:z∈x.recs:=by
   have:z∈x.recs.drop v:=by rw[hd];simp
   exact List.mem_of_mem_drop this
  refine Tot.succ ?_
  simp only[kG,uI]
  refine Tot.ite (fun _=>?_) fun h=>?_
  ·refine Tot.pure (zS hd) (Tot.ite (fun hzi=>?_) fun hzi=>?_)
   ·refine Tot.pure (yF h0 h1) (Tot.pure (fM (by omega) (by omega) hp) (Tot.pure (zZ (by simp<;>omega)) (Tot.pure (fM (by omega) (by omega) (by omega)) (Tot.pure (zZ (by simp<;>omega)) ?_))))
    refine Tot.bind (P:=fun y=>y=Tm.mk 7 i [Tm.mk 2 p2 []]) (Evt.tot (r:=Tm.mk 7 i [Tm.mk 2 p2 []]) (Evt.mk fun _=>rfl) rfl) fun r44 h44=>?_
    subst h44
    have hnv:(v:Int)<p5.length:=by omega
    refine Tot.pure (uB (l:=p5) (n:=(v:Int)) (by omega) hnv) ?_
    refine(S3 e (.mk 7 i [.mk 2 p2 []]) p4 _ z (nth p5 v) (zRN (yS _ _)) ho4 (by omega) ?_ ?_ (hx z hz) (ho5 _ (rQ (by omega) hnv))).bind fun r48 h48=>?_
    ·exact(OkA.nil.app ((ho4.drop _).take _)).app ((ho5.drop _).take _)
    ·simp only[List.length_append,List.length_take,List.length_drop,List.length_nil];omega
    refine Tot.bind (P:=fun y=>y=Tm.mk 5 0 [t,r48.1]) ((pM t r48.1).tot rfl) fun r50 h50=>?_
    subst h50
    rw[zU v (by omega)]
    refine(ih (v+1) r48.2 (.mk 5 0 [t,r48.1]) (zQ hd) (sB ht h48.1)).mono fun y hy=>⟨hy.1,fun he=>hy.2.1 (h48.2.1 he),fun he=>?_⟩
    have k:=hy.2.2 he
    have k4:=h48.2.2 k.1
    refine⟨k4.1,?_,k.2.2⟩
    rw[k.2.1,k4.2,S4,if_pos hzi]
    simp
   ·rw[zU v (by omega)]
    refine(ih (v+1) e t (zQ hd) ht).mono fun y hy=>⟨hy.1,hy.2.1,fun he=>?_⟩
    have k:=hy.2.2 he
    refine⟨k.1,?_,k.2.2⟩
    rw[k.2.1,S4,if_neg (by simpa using hzi)]
  ·rw[zW hd]at h;cases h
def zFg(l:List Ent)(d lev c:Int)(args own:List Tm)(x:Tm×Int):Prop:=
 x.1.Ok∧x.2≠8∧(x.2=0->(0≤lev∧lev≤7)∧isT l d 1=true∧isT l c 2=true∧(ent l c).fam=d∧(args.length:Int)=(ent l d).pars+1+(ent l d).cons.length∧own.length=(vO l c).args.length∧args.all zG=true∧own.all zG=true∧x.1=zTZ l d lev c args own∧zG x.1=true)
theorem zMu{N:ByteArray->Bool}(l:List Ent)(i p2 c:Int)(p4 p5:List Tm)(hE:vK N l)(ho4:OkA p4)(ho5:OkA p5)(hl4:p4.length≤65535)(hl5:p5.length≤65535):Tot (fun q=>zFh q l (evA l l.length 0) i p2 c p4 p5) (zFg l i p2 c p4 p5):=by
 have bad:∀e:Int,e≠8->e≠0->zFg l i p2 c p4 p5 (.mk 0 0 [],e):=fun e h8 h0=>⟨yS 0 0,h8,fun h=>absurd h h0⟩
 simp only[zFh]
 refine Tot.bind (P:=fun b=>b=isT l i 1) ((zAH l i 1).tot rfl) fun b hb=>Tot.ite (fun hT=>?_) fun _=>Tot.ret (bad _ (by decide) (by decide))
 rw[hT]at hb
 have hi:=wU hb.symm
 refine Tot.ite (fun _=>Tot.ret (bad _ (by decide) (by decide))) fun hv0=>Tot.ite (fun _=>Tot.ret (bad _ (by decide) (by decide))) fun hv1=>?_
 have hv0':=of_decide_eq_false hv0
 have hv1':=of_decide_eq_false hv1
 refine Tot.bind (P:=fun b=>b=isT l c 2) ((zAH l c 2).tot rfl) fun b2 hb2=>Tot.ite (fun hT=>?_) fun _=>Tot.ret (bad _ (by decide) (by decide))
 rw[hT]at hb2
 have hc:=wU hb2.symm
 have hf:=wI ((xQ (hE.2 i hi.1 hi.2.1)).2.1 hi.2.2)
 obtain⟨A,y,hw,hy,hA,hAp,hA24,p0,p1,f0,f1,fk,fp,fi,fs,hap,q0,q1⟩:=tN hE hc.1 hc.2.1 hc.2.2
 refine Tot.pure (yF hc.1 hc.2.1) (Tot.ite (fun _=>Tot.ret (bad _ (by decide) (by decide))) fun hn=>?_)
 have hfam:(ent l c).fam=i:=by simpa using hn
 refine Tot.pure (zPu l c hc.1 hc.2.1 hc.2.2) (Tot.pure (yF hi.1 hi.2.1) ?_)
 rw[hfam]at fp q1 fi fs
 rw[zV (x:=(ent l i).pars+1) (by omega) (by omega),zV (x:=(ent l i).pars+1+(ent l i).cons.length) (by omega) (by omega),zV (x:=(ent l i).pars+1+(ent l c).place) (by omega) (by omega)]
 refine Tot.ite (fun _=>Tot.ret (bad _ (by decide) (by decide))) fun hn4=>Tot.ite (fun _=>Tot.ret (bad _ (by decide) (by decide))) fun hn5=>?_
 have hn4':(p4.length:Int)=(ent l i).pars+1+(ent l i).cons.length:=by simpa using hn4
 have hn5':(p5.length:Int)=(vO l c).args.length:=by simpa using hn5
 refine Tot.bind (P:=fun b=>b=p4.all zG) ((dO p4 (by omega) ho4).tot rfl) fun b4 hb4=>Tot.ite (fun hs4=>?_) fun _=>Tot.ret (bad _ (by decide) (by decide))
 refine Tot.bind (P:=fun b=>b=p5.all zG) ((dO p5 (by omega) ho5).tot rfl) fun b5 hb5=>Tot.ite (fun hs5=>?_) fun _=>Tot.ret (bad _ (by decide) (by decide))
 have h7:(ent l i).pars+1+(ent l c).place<p4.length:=by omega
 refine Tot.pure (uB (l:=p4) (by omega) h7) (Tot.bind (P:=fun z=>z=apT (nth p4 ((ent l i).pars+1+(ent l c).place)) p5) ((vA _ p5 (by omega)).tot rfl) fun r26 h26=>?_)
 subst h26
 have hlen:(vO l c).recs.length=(vO l c).args.length:=by unfold vO;exact aV l _ _ _
 refine(zIS l _ i p2 p4 p5 (vO l c) hE hi.1 hi.2.1 hi.2.2 (by omega) hl4 (by omega) hl5 ho4 ho5 (by unfold vO;exact zAI l _ _ _) _ 0 0 _ rfl (uQ _ _ (ho4 _ (rQ (by omega) h7)) ho5)).mono fun x hx=>⟨hx.1,hx.2.1 (by decide),fun h0=>?_⟩
 have k:=hx.2.2 h0
 exact⟨⟨by omega,by omega⟩,hb.symm,hb2.symm,hfam,hn4',by omega,by rw[←hb4];exact hs4,by rw[←hb5];exact hs5,k.2.1,k.2.2⟩
section
variable {P:Int->Int->Prop}
theorem zPt{Q:Tm->Prop}{l:List Tm}{n:Int}(h:∀a∈l,Q a)(hz:Q zT):Q (nth l n):=by
 unfold nth
 cases e:l[n.toNat]? with
 |none=>exact hz
 |some x=>exact h x (List.mem_of_getElem? e)
end
def S5(qq:Nat)(q0 q1 p1:Int):Option (Int×Int):=
 some ((w64 (q0+p1)),(w64 (q0+p1)))
theorem zMt{qq q0 q1 p1}:Cz (S5 qq q0 q1 p1) 322 [.cells [ai q0,ai q1]] [.mp 0 0,ai p1] (fun r=>ai r.1) (fun r=>[.cells [ai r.2,ai q1]]) 0:=fw Tryz.func322<|fE 1
def S6(qq:Nat)(q0 q1 p1:Int):Option (Int×Int):=
 some ((w64 (q1+p1)),(w64 (q1+p1)))
theorem zMs{qq q0 q1 p1}:Cz (S6 qq q0 q1 p1) 322 [.cells [ai q0,ai q1]] [.mp 0 1,ai p1] (fun r=>ai r.1) (fun r=>[.cells [ai q0,ai r.2]]) 0:=fw Tryz.func322<|fE 1
def zAK(qq:Nat)(q0 q1:Int):Option (Int):=
 some q0
theorem zPs{qq q0 q1}:Cz (zAK qq q0 q1) 72 [.cells [ai q0,ai q1]] [.mp 0 0] (fun r=>ai r) (fun _=>[.cells [ai q0,ai q1]]) 0:=fw Tryz.func72<|fE 1
def zRR(qq:Nat)(fl fu p1:Int):Option (Int×Int×Int):=
 if decide (p1<0)then
 some (8,fl,fu)
 else
 zAK qq fl fu>>=fun r2=>
 if decide (p1>r2)then
 some (8,fl,fu)
 else
 S5 qq fl fu (w64 (0-p1))>>=fun r5=>
 S6 qq r5.2 fu p1>>=fun r7=>
 some (0,r5.2,r7.2)
theorem zVH{qq fl fu p1}:Cz (zRR qq fl fu p1) 305 [.cells [ai fl,ai fu]] [.mp 0 0,ai p1] (fun r=>ai r.1) (fun r=>[.cells [ai r.2.1,ai r.2.2]]) 0:=fw Tryz.func305<|rB 1 (fE 0)<|rC 0 [0] zPs fun _=>rB 0 (fE 0)<|rC 1 [0] zMt fun _=>rC 0 [0] zMs fun _=>fE 0
def bJ(qq:Nat)(fl fu:Int):Option (Int×Int×Int):=
 zRR qq fl fu 1>>=fun r1=>
 some (r1.1,r1.2.1,r1.2.2)
theorem zDi{qq fl fu}:Cz (bJ qq fl fu) 268 [.cells [ai fl,ai fu]] [.mp 0 0] (fun r=>ai r.1) (fun r=>[.cells [ai r.2.1,ai r.2.2]]) 0:=fw Tryz.func268<|rC 0 [0] zVH fun _=>fE 0
def zDh(qq:Nat)(M:xO)(p1:Tm):Option (Int):=
 if p1.k != 6 then
 some 0
 else
 if decide (p1.n≥(List.length M.l:Int))then
 some 0
 else
 zL M.l p1.n>>=fun x3=>
 some x3.kind
theorem zMr{qq M p1}:Cz (zDh qq M p1) 308 [mB M 1,mR M] [.mp 0 0,tmA p1] (fun r=>ai r) (fun _=>[mB M 1,mR M]) 0:=fw Tryz.func308<|rB 1 (fE 0)<|rB 3 (fE 0)<|rA 2 (yY (o:=.no)) fun _=>fE 1
def zIT(qq:Nat)(M:xO)(p1:Tm):Option (Int×List Tm×Bool):=
 jX qq p1>>=fun r1=>
 zDh qq M r1.1>>=fun r3=>
 if r3 != 2 then
 some (0,[],false)
 else
 zL M.own r1.1.n>>=fun x6=>
 if (List.length r1.2:Int) != x6 then
 some (0,[],false)
 else
 some (r1.1.n,r1.2,true)
theorem zRS{qq M p1}:Cz (zIT qq M p1) 295 [mB M 1,mR M] [.mp 0 0,tmA p1] (fun r=>.tup [ai r.1,.sl (zD zA r.2.1) (List.length r.2.1) .no,ab r.2.2]) (fun _=>[mB M 1,mR M]) 0:=fw Tryz.func295<|rC 1 [] E8 fun _=>rC 4 [0,1] zMr fun _=>rB 0 (fE 0)<|rA 3 (pL (o:=.no)) fun _=>rB 1 (fE 0)<|fE 1
def F4(qq:Nat)(p0:Tm):Option (Tm×Int):=
 tV qq p0>>=fun r1=>
 if r1 then
 some (p0,0)
 else
 some ((Tm.mk 0 0 []),2)
theorem zFf{qq p0}:Cz (F4 qq p0) 311 [] [tmA p0] (fun r=>.tup [tmA r.1,ai r.2]) (fun _=>[]) 0:=fw Tryz.func311<|rK 1 [] sW (fun _=>fE 3) fun _=>fE 2
def zUz{ρ:Type}(f:Int->Int->Nat->Option ρ)(er:ρ->Int)(R:Int->Int->ρ)(k:Int):Prop:=
 (∀L U,k≤L->0≤U->L+U≤1099511627776->Evt (f L U) (R (L-k) (U+k)))∧(∀L U,0≤L->L<k->0≤U->L+U≤1099511627776->∃r,Evt (f L U) r∧er r=8)
def zRT{ρ:Type}(f:Int->Int->Nat->Option ρ)(er:ρ->Int)(l:Int):Prop:=∀U,0≤U->l+U≤1099511627776->∃r,Evt (f l U) r∧er r=8
def Ou{ρ:Type}(f:Int->Int->Nat->Option ρ)(er:ρ->Int)(Q:(Int->Int->ρ)->Int->Prop)(S:Prop)(l:Int):Prop:=
 (∃R k,0≤k∧k≤l∧Q R k∧zUz f er R k)∨(zRT f er l∧S)
section
variable {ρ σ τ:Type} {er:ρ->Int} {er':σ->Int} {Q:(Int->Int->ρ)->Int->Prop} {Q':(Int->Int->σ)->Int->Prop} {S S':Prop} {l:Int}
theorem Ou.imp{f g:Int->Int->Nat->Option ρ}(h:Ou f er Q S l)(k:∀L U r,Evt (f L U) r->Evt (g L U) r):Ou g er Q S l:=by
 rcases h with⟨R,n,h0,h1,h2,h3,h4⟩|⟨h,s⟩
 ·exact .inl ⟨R,n,h0,h1,h2,fun L U a b c=>k _ _ _ (h3 L U a b c),fun L U a b c d=>by obtain⟨r,x,y⟩:=h4 L U a b c d;exact⟨r,k _ _ _ x,y⟩⟩
 ·exact .inr ⟨fun U a b=>by obtain⟨r,x,y⟩:=h U a b;exact⟨r,k _ _ _ x,y⟩,s⟩
theorem Ou.mono{f:Int->Int->Nat->Option ρ}{Q2:(Int->Int->ρ)->Int->Prop}(h:Ou f er Q S l)(k:∀R n,0≤n->n≤l->Q R n->Q2 R n)(hs:S->S'):Ou f er Q2 S' l:=by
 rcases h with⟨R,n,h0,h1,h2,h3⟩|⟨h,s⟩
 ·exact .inl ⟨R,n,h0,h1,k R n h0 h1 h2,h3⟩
 ·exact .inr ⟨h,hs s⟩
theorem Ou.succ{f:Int->Int->Nat->Option ρ}(h:Ou (fun L U q=>f L U (q+1)) er Q S l):Ou f er Q S l:=h.imp fun _ _ _ h=>h.succ
theorem Ou.pure{x:Option τ}{a:τ}{c:Int->Int->Nat->τ->Option ρ}(h:x=some a)(g:Ou (fun L U q=>c L U q a) er Q S l):Ou (fun L U q=>x>>=c L U q) er Q S l:=g.imp fun _ _ _ k=>Evt.pure h k
theorem Ou.evt{x:Nat->Option τ}{a:τ}{c:Int->Int->Nat->τ->Option ρ}(h:Evt x a)(g:Ou (fun L U q=>c L U q a) er Q S l):Ou (fun L U q=>x q>>=c L U q) er Q S l:=g.imp fun _ _ _ k=>Evt.bind h k
theorem Ou.tot{x:Nat->Option τ}{P:τ->Prop}{c:Int->Int->Nat->τ->Option ρ}(h:Tot x P)(g:∀a,P a->Ou (fun L U q=>c L U q a) er Q S l):Ou (fun L U q=>x q>>=c L U q) er Q S l:=by
 obtain⟨a,h,p⟩:=h
 exact(g a p).evt h
theorem Ou.ite{b:Bool}{f g:Int->Int->Nat->Option ρ}(h:b=true->Ou f er Q S l)(k:b=false->Ou g er Q S l):Ou (fun L U q=>if b=true then f L U q else g L U q) er Q S l:=by
 cases b with
 |true=>exact(h rfl).imp fun _ _ _ x=>Evt.ifT rfl x
 |false=>exact(k rfl).imp fun _ _ _ x=>Evt.ifF rfl x
theorem Ou.ifT{b:Bool}{f g:Int->Int->Nat->Option ρ}(h:b=true)(k:Ou f er Q S l):Ou (fun L U q=>if b=true then f L U q else g L U q) er Q S l:=Ou.ite (fun _=>k) fun h'=>by rw[h]at h';cases h'
theorem Ou.ifF{b:Bool}{f g:Int->Int->Nat->Option ρ}(h:b=false)(k:Ou g er Q S l):Ou (fun L U q=>if b=true then f L U q else g L U q) er Q S l:=Ou.ite (fun h'=>by rw[h]at h';cases h') fun _=>k
theorem Ou.ret{R:Int->Int->ρ}(h:0≤l)(k:Q R 0):Ou (fun L U _=>some (R L U)) er Q S l:=
 .inl ⟨R,0,by omega,h,k,fun L U _ _ _=>by rw[show L-0=L by omega,show U+0=U by omega];exact Evt.ret,fun L U _ _=>by omega⟩
theorem Ou.bind{f:Int->Int->Nat->Option ρ}{c:Nat->ρ->Option σ}(h:Ou f er Q S l)(hs:S->S')(he:∀r,er r=8->∃r',Evt (fun q=>c q r) r'∧er' r'=8)
  (hg:∀R k,0≤k->k≤l->Q R k->Ou (fun L U q=>c q (R L U)) er' (fun R' n=>Q' R' (k+n)) S' (l-k)):Ou (fun L U q=>f L U q>>=c q) er' Q' S' l:=by
 rcases h with⟨R,k,h0,h1,h2,h3,h4⟩|⟨h,s⟩
 ·rcases hg R k h0 h1 h2 with⟨R',n,g0,g1,g2,g3,g4⟩|⟨g,s⟩
  ·refine .inl ⟨R',k+n,by omega,by omega,g2,fun L U a b c=>?_,fun L U a b c d=>?_⟩
   ·have:=g3 (L-k) (U+k) (by omega) (by omega) (by omega)
    rw[show L-(k+n)=L-k-n by omega,show U+(k+n)=U+k+n by omega]
    exact(h3 L U (by omega) b c).bind this
   ·by_cases e:L<k
    ·obtain⟨r,x,y⟩:=h4 L U a e c d
     obtain⟨r',x',y'⟩:=he r y
     exact⟨r',x.bind x',y'⟩
    ·obtain⟨r',x',y'⟩:=g4 (L-k) (U+k) (by omega) (by omega) (by omega) (by omega)
     exact⟨r',(h3 L U (by omega) c d).bind x',y'⟩
  ·refine .inr ⟨fun U a b=>?_,s⟩
   obtain⟨r',x',y'⟩:=g (U+k) (by omega) (by omega)
   exact⟨r',(h3 l U h1 a b).bind x',y'⟩
 ·refine .inr ⟨fun U a b=>?_,hs s⟩
  obtain⟨r,x,y⟩:=h U a b
  obtain⟨r',x',y'⟩:=he r y
  exact⟨r',x.bind x',y'⟩
end
theorem S7(L U:Int)(h0:0≤L)(h1:0≤U)(h2:L+U≤1099511627776):Evt (fun q=>bJ q L U) (if 1≤L then(0,L-1,U+1)else(8,L,U)):=by
 simp only[bJ,zRR,zAK,S5,S6]
 refine Evt.bind (a:=if 1≤L then(0,L-1,U+1)else(8,L,U)) ?_ Evt.ret
 refine Evt.ifF (by decide) (Evt.pure rfl ?_)
 by_cases h:1≤L
 ·rw[if_pos h]
  refine Evt.ifF (decide_eq_false (by omega)) (Evt.pure rfl (Evt.pure rfl (Evt.ret.eq ?_)))
  have e:w64 (0-1) = -1:=by decide
  rw[e,zV (x:=U+1) (by omega) (by omega)]
  show ((0:Int),w64 (L + -1),U+1)=_
  rw[zV (by omega) (by omega)];rfl
 ·rw[if_neg h]
  exact Evt.ifT (decide_eq_true (by omega)) Evt.ret
theorem zGZ(l:Int)(h:0≤l):Ou (fun L U q=>bJ q L U) (fun r=>r.1) (fun R k=>k=1∧R=fun L U=>(0,L,U)) (l<1) l:=by
 by_cases h1:1≤l
 ·refine .inl ⟨fun L U=>(0,L,U),1,by omega,h1,⟨rfl,rfl⟩,fun L U a b c=>(S7 L U (by omega) b c).eq (if_pos a),fun L U a b c d=>⟨_,S7 L U a c d,?_⟩⟩
  rw[if_neg (by omega)]
 ·refine .inr ⟨fun U a b=>⟨_,S7 l U h a b,?_⟩,by omega⟩
  rw[if_neg h1]
def qA(l:List Ent)(t:Tm):Int:=if t.k=6 then(if t.n<l.length then(ent l t.n).kind else 0)else 0
theorem iF(l:List Ent)(t:Tm)(h:0≤t.n):Evt (fun q=>zDh q (xV l) t) (qA l t):=by
 simp only[zDh,xV]
 unfold qA
 by_cases k:t.k=6
 ·rw[if_pos k]
  refine Evt.ifF (by simp[k]) ?_
  by_cases n:t.n<l.length
  ·rw[if_pos n];exact Evt.ifF (decide_eq_false (by omega)) (Evt.pure (yF h n) Evt.ret)
  ·rw[if_neg n];exact Evt.ifT (decide_eq_true (by omega)) Evt.ret
 ·rw[if_neg k];exact Evt.ifT (by simp[k]) Evt.ret
theorem tC{l:List Ent}{t:Tm}{k:Int}(h:qA l t=k)(hk:k≠0):t.k=6∧t.n<l.length∧(ent l t.n).kind=k:=by
 unfold qA at h
 split at h
 ·rename_i a
  split at h
  ·rename_i b;exact⟨a,b,h⟩
  ·exact absurd h.symm hk
 ·exact absurd h.symm hk
def zFe(t:Tm):Tm×Int:=if zG t=true then(t,0)else(zT,2)
theorem zFd(t:Tm)(ho:t.Ok):Evt (fun q=>F4 q t) (zFe t):=by
 simp only[F4]
 refine(xB t ho).bind ?_
 unfold zFe
 by_cases h:zG t=true
 ·rw[if_pos h,if_pos h];exact Evt.ret
 ·rw[if_neg h,if_neg h];exact Evt.ret
theorem dP{t:Tm}(h:xS t=true):0≤t.n:=by
 obtain⟨k,n,l⟩:=t
 exact(lX (wQ h).1).1
theorem zPr{l:List Ent}{i:Int}(h0:0≤i)(h1:i<l.length):zL (xV l).own i=some (uJ (ent l i)):=by
 have h:=yF (l:=l) h0 h1
 unfold zL at h ⊢
 rw[if_pos h0]at h ⊢
 show (l.map uJ)[i.toNat]? = _
 rw[List.getElem?_map,h];rfl
theorem zMq{l:List Ent}{i:Int}(h0:0≤i)(h1:i<l.length):zL (xV l).args i=some (xR (ent l i)):=by
 have h:=yF (l:=l) h0 h1
 unfold zL at h ⊢
 rw[if_pos h0]at h ⊢
 show (l.map xR)[i.toNat]? = _
 rw[List.getElem?_map,h];rfl
def iG(l:List Ent)(t:Tm):Prop:=qA l (hdT t)=2∧(arT t).length=uD (ent l (hdT t).n).type
instance (l:List Ent) (t:Tm):Decidable (iG l t):=inferInstanceAs (Decidable (_∧_))
def zAL(l:List Ent)(t:Tm):Int×List Tm×Bool:=if iG l t then((hdT t).n,arT t,true)else(0,[],false)
theorem zAM(l:List Ent)(t:Tm)(hs:zG t=true):Evt (fun q=>zIT q (xV l) t) (zAL l t):=by
 simp only[zIT]
 have hn:=dP (zK (sL hs)).2.2
 refine(rJ t hs).bind ((iF l _ hn).bind ?_)
 by_cases h:qA l (hdT t)=2
 ·have hk:=tC h (by decide)
  refine Evt.ifF (by simp[h]) (Evt.pure (zPr hn hk.2.1) ?_)
  have e:uJ (ent l (hdT t).n)=uD (ent l (hdT t).n).type:=by unfold uJ;rw[if_pos hk.2.2]
  by_cases h2:(arT t).length=uD (ent l (hdT t).n).type
  ·have c:zAL l t=((hdT t).n,arT t,true):=if_pos ⟨h,h2⟩
   rw[c]
   exact Evt.ifF (by rw[e];simp[h2]) Evt.ret
  ·have c:zAL l t=(0,[],false):=if_neg (fun h'=>h2 h'.2)
   rw[c]
   exact Evt.ifT (by rw[e];simp;omega) Evt.ret
 ·have c:zAL l t=(0,[],false):=if_neg (fun h'=>h h'.1)
  rw[c]
  exact Evt.ifT (by simp[h]) Evt.ret
theorem sC{l:List Ent}{t:Tm}(hs:zG t=true)(h:iG l t):0≤(hdT t).n∧(hdT t).n<l.length∧(ent l (hdT t).n).kind=2∧(arT t).length=uD (ent l (hdT t).n).type:=by
 have hk:=tC h.1 (by decide)
 exact⟨dP (zK (sL hs)).2.2,hk.2.1,hk.2.2,h.2⟩
mutual
def zDg:Nat->xO->Tm->Int->Int->Option (Tm×Int×Int×Int)
 |0,_,_,_,_=>none
 |qq+1,M,p1,fl,fu=>
 bK qq M fl fu p1.k p1.n p1.sub
def bK:Nat->xO->Int->Int->Int->Int->(List Tm)->Option (Tm×Int×Int×Int)
 |0,_,_,_,_,_,_=>none
 |qq+1,M,xA,xY,wJ,wK,tB=>
 zPq qq M (Tm.mk wJ wK tB) xA xY>>=fun r1=>
 if r1.2.1 then
 if r1.2.2.1 != 0 then
 some ((Tm.mk 0 0 []),r1.2.2.1,r1.2.2.2.1,r1.2.2.2.2)
 else
 bK qq M r1.2.2.2.1 r1.2.2.2.2 r1.1.k r1.1.n r1.1.sub
 else
 if r1.2.2.1 != 0 then
 some ((Tm.mk 0 0 []),r1.2.2.1,r1.2.2.2.1,r1.2.2.2.2)
 else
 some ((Tm.mk wJ wK tB),0,r1.2.2.2.1,r1.2.2.2.2)
def zPq:Nat->xO->Tm->Int->Int->Option (Tm×Bool×Int×Int×Int)
 |0,_,_,_,_=>none
 |qq+1,M,p1,fl,fu=>
 jX qq p1>>=fun r1=>
 if r1.1.k==4 then
 if decide ((List.length r1.2:Int)>0)then
 zL r1.1.sub 1>>=fun x5=>
 zL r1.2 0>>=fun x7=>
 zKX qq x5 x7>>=fun r9=>
 gsl r1.2 1 (List.length r1.2:Int)>>=fun x11=>
 nI qq r9.1 x11>>=fun r13=>
 if r9.2 != 0 then
 some (p1,false,r9.2,fl,fu)
 else
 bJ qq fl fu>>=fun r16=>
 if r16.1 != 0 then
 some (p1,false,r16.1,r16.2.1,r16.2.2)
 else
 F4 qq r13>>=fun r19=>
 some (r19.1,true,r19.2,r16.2.1,r16.2.2)
 else
 zDh qq M r1.1>>=fun r21=>
 if r21==3 then
 zL M.l r1.1.n>>=fun x24=>
 nI qq x24.body r1.2>>=fun r26=>
 bJ qq fl fu>>=fun r28=>
 if r28.1 != 0 then
 some (p1,false,r28.1,r28.2.1,r28.2.2)
 else
 F4 qq r26>>=fun r31=>
 some (r31.1,true,r31.2,r28.2.1,r28.2.2)
 else
 zDh qq M r1.1>>=fun r33=>
 if r33==4 then
 zMp qq M r1.1 r1.2 fl fu>>=fun r36=>
 if r36.2.1 then
 if r36.2.2.1 != 0 then
 some (p1,false,r36.2.2.1,r36.2.2.2.1,r36.2.2.2.2)
 else
 bJ qq r36.2.2.2.1 r36.2.2.2.2>>=fun r40=>
 if r40.1 != 0 then
 some (p1,false,r40.1,r40.2.1,r40.2.2)
 else
 F4 qq r36.1>>=fun r43=>
 some (r43.1,true,r43.2,r40.2.1,r40.2.2)
 else
 if r36.2.2.1 != 0 then
 some (p1,false,r36.2.2.1,r36.2.2.2.1,r36.2.2.2.2)
 else
 some (p1,false,r36.2.2.1,r36.2.2.2.1,r36.2.2.2.2)
 else
 if r1.1.k==7 then
 zMo qq M r1.1 r1.2 fl fu>>=fun r47=>
 if r47.2.1 then
 if r47.2.2.1 != 0 then
 some (p1,false,r47.2.2.1,r47.2.2.2.1,r47.2.2.2.2)
 else
 bJ qq r47.2.2.2.1 r47.2.2.2.2>>=fun r51=>
 if r51.1 != 0 then
 some (p1,false,r51.1,r51.2.1,r51.2.2)
 else
 F4 qq r47.1>>=fun r54=>
 some (r54.1,true,r54.2,r51.2.1,r51.2.2)
 else
 if r47.2.2.1 != 0 then
 some (p1,false,r47.2.2.1,r47.2.2.2.1,r47.2.2.2.2)
 else
 some (p1,false,r47.2.2.1,r47.2.2.2.1,r47.2.2.2.2)
 else
 some (p1,false,0,fl,fu)
 else
 zDh qq M r1.1>>=fun r57=>
 if r57==3 then
 zL M.l r1.1.n>>=fun x60=>
 nI qq x60.body r1.2>>=fun r62=>
 bJ qq fl fu>>=fun r64=>
 if r64.1 != 0 then
 some (p1,false,r64.1,r64.2.1,r64.2.2)
 else
 F4 qq r62>>=fun r67=>
 some (r67.1,true,r67.2,r64.2.1,r64.2.2)
 else
 zDh qq M r1.1>>=fun r69=>
 if r69==4 then
 zMp qq M r1.1 r1.2 fl fu>>=fun r72=>
 if r72.2.1 then
 if r72.2.2.1 != 0 then
 some (p1,false,r72.2.2.1,r72.2.2.2.1,r72.2.2.2.2)
 else
 bJ qq r72.2.2.2.1 r72.2.2.2.2>>=fun r76=>
 if r76.1 != 0 then
 some (p1,false,r76.1,r76.2.1,r76.2.2)
 else
 F4 qq r72.1>>=fun r79=>
 some (r79.1,true,r79.2,r76.2.1,r76.2.2)
 else
 if r72.2.2.1 != 0 then
 some (p1,false,r72.2.2.1,r72.2.2.2.1,r72.2.2.2.2)
 else
 some (p1,false,r72.2.2.1,r72.2.2.2.1,r72.2.2.2.2)
 else
 if r1.1.k==7 then
 zMo qq M r1.1 r1.2 fl fu>>=fun r83=>
 if r83.2.1 then
 if r83.2.2.1 != 0 then
 some (p1,false,r83.2.2.1,r83.2.2.2.1,r83.2.2.2.2)
 else
 bJ qq r83.2.2.2.1 r83.2.2.2.2>>=fun r87=>
 if r87.1 != 0 then
 some (p1,false,r87.1,r87.2.1,r87.2.2)
 else
 F4 qq r83.1>>=fun r90=>
 some (r90.1,true,r90.2,r87.2.1,r87.2.2)
 else
 if r83.2.2.1 != 0 then
 some (p1,false,r83.2.2.1,r83.2.2.2.1,r83.2.2.2.2)
 else
 some (p1,false,r83.2.2.1,r83.2.2.2.1,r83.2.2.2.2)
 else
 some (p1,false,0,fl,fu)
def zMp:Nat->xO->Tm->(List Tm)->Int->Int->Option (Tm×Bool×Int×Int×Int)
 |0,_,_,_,_,_=>none
 |qq+1,M,p1,p2,fl,fu=>
 zL M.l p1.n>>=fun x1=>
 if decide ((List.length p2:Int)≤x1.pars)then
 some ((Tm.mk 0 0 []),false,0,fl,fu)
 else
 zL p2 x1.pars>>=fun x4=>
 zDg qq M x4 fl fu>>=fun r6=>
 if r6.2.1 != 0 then
 some ((Tm.mk 0 0 []),false,r6.2.1,r6.2.2.1,r6.2.2.2)
 else
 zIT qq M r6.1>>=fun r9=>
 if r9.2.2 then
 zL M.l r9.1>>=fun x12=>
 if x12.fam != x1.fam then
 some ((Tm.mk 0 0 []),false,0,r6.2.2.1,r6.2.2.2)
 else
 gsl r9.2.1 x12.pars (List.length r9.2.1:Int)>>=fun x15=>
 zFi qq M.rl M.parts p1.n x15>>=fun r17=>
 gsl p2 (w64 (x1.pars+1)) (List.length p2:Int)>>=fun x19=>
 nI qq r17.1 x19>>=fun r21=>
 some (r21,true,r17.2,r6.2.2.1,r6.2.2.2)
 else
 some ((Tm.mk 0 0 []),false,0,r6.2.2.1,r6.2.2.2)
def zMo:Nat->xO->Tm->(List Tm)->Int->Int->Option (Tm×Bool×Int×Int×Int)
 |0,_,_,_,_,_=>none
 |qq+1,M,p1,p2,fl,fu=>
 if decide (p1.n≥(List.length M.l:Int))then
 some ((Tm.mk 0 0 []),false,0,fl,fu)
 else
 zL M.l p1.n>>=fun x2=>
 if x2.kind != 1 then
 some ((Tm.mk 0 0 []),false,0,fl,fu)
 else
 zL M.args p1.n>>=fun x5=>
 if decide ((List.length p2:Int)<x5)then
 some ((Tm.mk 0 0 []),false,0,fl,fu)
 else
 zL p2 (w64 (x5-1))>>=fun x8=>
 zDg qq M x8 fl fu>>=fun r10=>
 if r10.2.1 != 0 then
 some ((Tm.mk 0 0 []),false,r10.2.1,r10.2.2.1,r10.2.2.2)
 else
 zIT qq M r10.1>>=fun r13=>
 if r13.2.2 then
 zL M.l r13.1>>=fun x16=>
 if x16.fam != p1.n then
 some ((Tm.mk 0 0 []),false,0,r10.2.2.1,r10.2.2.2)
 else
 zL p1.sub 0>>=fun x19=>
 gsl p2 0 (w64 ((w64 (x2.pars+1))+(List.length x2.cons:Int)))>>=fun x21=>
 gsl r13.2.1 x2.pars (List.length r13.2.1:Int)>>=fun x23=>
 zFh qq M.rl M.parts p1.n x19.n r13.1 x21 x23>>=fun r25=>
 gsl p2 x5 (List.length p2:Int)>>=fun x27=>
 nI qq r25.1 x27>>=fun r29=>
 some (r29,true,r25.2,r10.2.2.1,r10.2.2.2)
 else
 some ((Tm.mk 0 0 []),false,0,r10.2.2.1,r10.2.2.2)
end
theorem lA:∀qq:Nat,(∀M p1 fl fu,Cz (zDg qq M p1 fl fu) 219 [mB M 1,mR M,.cells [ai fl,ai fu]] [.mp 0 0,tmA p1,.mp 2 0] (fun r=>.tup [tmA r.1,ai r.2.1]) (fun r=>[mB M 1,mR M,.cells [ai r.2.2.1,ai r.2.2.2]]) 0)∧(∀M xA xY wJ wK tB,Lz (bK qq M xA xY wJ wK tB) 3 Tryz.f219 (inn (inn (rgt (inn (rgt (bod Tryz.f219)))))) (fun j=>sp j 28 0 [(0,.mp 0 0),(2,.mp 2 0),(4,.mp 3 0),(6,.mp 4 0)]) ⟨[(0,mB M 1),(1,mR M),(2,.cells [ai xA,ai xY]),(3,.cells [ai wJ,ai wK,slv zA tB .no]),(4,.cells [ai 0,ai 0,slv zA ([]:List Tm) .nl])],5,[],0,[]⟩ (fun r=>.tup [tmA r.1,ai r.2.1]) (fun r=>[mB M 1,mR M,.cells [ai r.2.2.1,ai r.2.2.2]]) 0 [.blk 0])∧(∀M p1 fl fu,Cz (zPq qq M p1 fl fu) 271 [mB M 1,mR M,.cells [ai fl,ai fu]] [.mp 0 0,tmA p1,.mp 2 0] (fun r=>.tup [tmA r.1,ab r.2.1,ai r.2.2.1]) (fun r=>[mB M 1,mR M,.cells [ai r.2.2.2.1,ai r.2.2.2.2]]) 0)∧(∀M p1 p2 fl fu,Cz (zMp qq M p1 p2 fl fu) 309 [mB M 1,mR M,.cells [ai fl,ai fu]] [.mp 0 0,tmA p1,slv zA p2 .no,.mp 2 0] (fun r=>.tup [tmA r.1,ab r.2.1,ai r.2.2.1]) (fun r=>[mB M 1,mR M,.cells [ai r.2.2.2.1,ai r.2.2.2.2]]) 0)∧(∀M p1 p2 fl fu,Cz (zMo qq M p1 p2 fl fu) 310 [mB M 1,mR M,.cells [ai fl,ai fu]] [.mp 0 0,tmA p1,slv zA p2 .no,.mp 2 0] (fun r=>.tup [tmA r.1,ab r.2.1,ai r.2.2.1]) (fun r=>[mB M 1,mR M,.cells [ai r.2.2.2.1,ai r.2.2.2.2]]) 0):=yW ⟨fun _ _ _ _=>cN,fun _ _ _ _ _ _=>lN,fun _ _ _ _=>cN,fun _ _ _ _ _=>cN,fun _ _ _ _ _=>cN⟩ fun qq ih=>⟨fun M p1 fl fu=>fw Tryz.func219<|fH 0 [] [0,1,2,3,4] [] [0,2,4,6] (ih.2.1 _ _ _ _ _ _),
 fun M xA xY wJ wK tB=>lw fun _=>rC 1 [0,1,2] (ih.2.2.1 _ _ _ _) fun _=>rB 1 (rB 2 (lE 1)<|lH 2 [] [0,1,2,3,4] [] [0,2,4,6] (ih.2.1 _ _ _ _ _ _))<|rB 2 (lE 1)<|lE 2,
 fun M p1 fl fu=>fw Tryz.func271<|rC 1 [] E8 fun _=>rB 5 (rB 1 (rA 1 (yM (o:=.no)) fun _=>rA 1 (yM (o:=.no)) fun _=>rC 1 [] zTj fun _=>rA 4 uX fun _=>rC 0 [] pV fun _=>rB 1 (fE 2)<|rC 1 [2] zDi fun _=>rB 0 (fE 2)<|rC 1 [] zFf fun _=>fE 5)<|rC 1 [0,1] zMr fun _=>rB 0 (rA 2 (yY (o:=.no)) fun _=>rC 1 [] pV fun _=>rC 3 [2] zDi fun _=>rB 0 (fE 2)<|rC 1 [] zFf fun _=>fE 5)<|rC 1 [0,1] zMr fun _=>rB 0 (rC 1 [0,1,2] (ih.2.2.2.1 _ _ _ _ _) fun _=>rB 1 (rB 2 (fE 2)<|rC 1 [2] zDi fun _=>rB 0 (fE 2)<|rC 1 [] zFf fun _=>fE 5)<|rB 2 (fE 2)<|fE 3)<|rB 1 (rC 1 [0,1,2] (ih.2.2.2.2 _ _ _ _ _) fun _=>rB 1 (rB 2 (fE 2)<|rC 1 [2] zDi fun _=>rB 0 (fE 2)<|rC 1 [] zFf fun _=>fE 5)<|rB 2 (fE 2)<|fE 3)<|fE 4)<|rC 1 [0,1] zMr fun _=>rB 0 (rA 2 (yY (o:=.no)) fun _=>rC 1 [] pV fun _=>rC 3 [2] zDi fun _=>rB 0 (fE 2)<|rC 1 [] zFf fun _=>fE 5)<|rC 1 [0,1] zMr fun _=>rB 0 (rC 1 [0,1,2] (ih.2.2.2.1 _ _ _ _ _) fun _=>rB 1 (rB 2 (fE 2)<|rC 1 [2] zDi fun _=>rB 0 (fE 2)<|rC 1 [] zFf fun _=>fE 5)<|rB 2 (fE 2)<|fE 3)<|rB 1 (rC 1 [0,1,2] (ih.2.2.2.2 _ _ _ _ _) fun _=>rB 1 (rB 2 (fE 2)<|rC 1 [2] zDi fun _=>rB 0 (fE 2)<|rC 1 [] zFf fun _=>fE 5)<|rB 2 (fE 2)<|fE 3)<|fE 4,
 fun M p1 p2 fl fu=>fw Tryz.func309<|rH fun _ h2=>rS (oA 2 (yY (o:=.no) h2))<|rB 2 (fE 1)<|rA 0 (yM (o:=.no)) fun _=>rC 1 [0,1,2] (ih.1 _ _ _ _) fun _=>rB 3 (fE 1)<|rC 1 [0,1] zRS fun _=>rB 2 (rH fun _ h13=>rS (oA 2 (yY (o:=.no) h13))<|rS (oA 3 (yY (o:=.no) h2))<|rB 1 (fE 1)<|rS (oA 3 (yY (o:=.no) h13))<|rA 1 uX fun _=>rC 0 [1] zVF fun _=>rA 5 uX fun _=>rC 0 [] pV fun _=>fE 1)<|fE 2,
 fun M p1 p2 fl fu=>fw Tryz.func310<|rB 3 (fE 1)<|rH fun _ h3=>rS (oA 2 (yY (o:=.no) h3))<|rB 1 (fE 1)<|rH fun _ h6=>rS (oA 3 (pL (o:=.no) h6))<|rB 1 (fE 1)<|rS (oA 2 (pL (o:=.no) h6))<|rA 2 (yM (o:=.no)) fun _=>rC 1 [0,1,2] (ih.1 _ _ _ _) fun _=>rB 3 (fE 1)<|rC 1 [0,1] zRS fun _=>rB 2 (rA 2 (yY (o:=.no)) fun _=>rB 2 (fE 1)<|rS (oA 2 (yY (o:=.no) h3))<|rA 5 (yM (o:=.no)) fun _=>rA 6 tR fun _=>rA 1 uX fun _=>rC 0 [1] zVG fun _=>rA 4 uX fun _=>rC 0 [] pV fun _=>fE 1)<|fE 2⟩
theorem zVI{qq M p1 fl fu}:Cz (zDg qq M p1 fl fu) 219 [mB M 1,mR M,.cells [ai fl,ai fu]] [.mp 0 0,tmA p1,.mp 2 0] (fun r=>.tup [tmA r.1,ai r.2.1]) (fun r=>[mB M 1,mR M,.cells [ai r.2.2.1,ai r.2.2.2]]) 0:=(lA _).1 _ _ _ _
abbrev er4 (r:Tm×Int×Int×Int):Int:=r.2.1
abbrev er5 (r:Tm×Bool×Int×Int×Int):Int:=r.2.2.1
theorem J2(l:List Ent):(xV l).l=l:=rfl
theorem S8(l:List Ent):(xV l).rl=l:=rfl
theorem iH(l:List Ent):(xV l).parts=evA l l.length 0:=rfl
noncomputable def iI(l:List Ent)(i:Int)(a:List Tm):Tm×Int:=
 open Classical in if h:∃r,Evt (fun q=>zFi q l (evA l l.length 0) i a) r then h.choose else(zT,5)
theorem D7{N:ByteArray->Bool}(l:List Ent)(i:Int)(a:List Tm)(hE:vK N l)(ho:OkA a)(hl:a.length≤1073741824):Evt (fun q=>zFi q l (evA l l.length 0) i a) (iI l i a)∧zAJ l i a (iI l i a):=by
 obtain⟨r,hr,hk⟩:=zIR l (evA l l.length 0) i a hE ho hl
 have hx:∃r,Evt (fun q=>zFi q l (evA l l.length 0) i a) r:=⟨r,hr⟩
 have e:iI l i a=r:=by
  unfold iI
  rw[dif_pos hx]
  exact hx.choose_spec.det hr
 rw[e];exact⟨hr,hk⟩
noncomputable def D8(l:List Ent)(d lev c:Int)(args own:List Tm):Tm×Int:=
 open Classical in if h:∃r,Evt (fun q=>zFh q l (evA l l.length 0) d lev c args own) r then h.choose else(zT,5)
theorem S9{N:ByteArray->Bool}(l:List Ent)(d lev c:Int)(args own:List Tm)(hE:vK N l)(ho4:OkA args)(ho5:OkA own)(hl4:args.length≤65535)(hl5:own.length≤65535):Evt (fun q=>zFh q l (evA l l.length 0) d lev c args own) (D8 l d lev c args own)∧zFg l d lev c args own (D8 l d lev c args own):=by
 obtain⟨r,hr,hk⟩:=zMu l d lev c args own hE ho4 ho5 hl4 hl5
 have hx:∃r,Evt (fun q=>zFh q l (evA l l.length 0) d lev c args own) r:=⟨r,hr⟩
 have e:D8 l d lev c args own=r:=by
  unfold D8
  rw[dif_pos hx]
  exact hx.choose_spec.det hr
 rw[e];exact⟨hr,hk⟩
inductive Act where
 |none
 |red (Y:Tm) (e:Int)
 |tgt (a:Tm)
noncomputable def vW(l:List Ent)(x:Tm):Act:=
 if (hdT x).k=4∧0<(arT x).length then .red (apT (iA (nth (hdT x).sub 1) [nth (arT x) 0]).1 ((arT x).drop 1)) (iA (nth (hdT x).sub 1) [nth (arT x) 0]).2
 else if qA l (hdT x)=3 then .red (apT (ent l (hdT x).n).body (arT x)) 0
 else if qA l (hdT x)=4 then(if ((arT x).length:Int)≤(ent l (hdT x).n).pars then .none else .tgt (nth (arT x) (ent l (hdT x).n).pars))
 else if (hdT x).k=7 then(if isT l (hdT x).n 1=true∧xR (ent l (hdT x).n)≤(arT x).length then .tgt (nth (arT x) (xR (ent l (hdT x).n)-1))else .none)
 else .none
noncomputable def tD(l:List Ent)(x y:Tm):Option (Tm×Int):=
 if qA l (hdT x)=4 then
  (if iG l y∧(ent l (hdT y).n).fam=(ent l (hdT x).n).fam then
   some (apT (iI l (hdT x).n ((arT y).drop (ent l (hdT y).n).pars.toNat)).1 ((arT x).drop ((ent l (hdT x).n).pars+1).toNat),(iI l (hdT x).n ((arT y).drop (ent l (hdT y).n).pars.toNat)).2)
  else none)
 else
  (if iG l y∧(ent l (hdT y).n).fam=(hdT x).n then
   some (apT (D8 l (hdT x).n (nth (hdT x).sub 0).n (hdT y).n ((arT x).take ((ent l (hdT x).n).pars+1+(ent l (hdT x).n).cons.length).toNat) ((arT y).drop (ent l (hdT x).n).pars.toNat)).1 ((arT x).drop (xR (ent l (hdT x).n)).toNat),
    (D8 l (hdT x).n (nth (hdT x).sub 0).n (hdT y).n ((arT x).take ((ent l (hdT x).n).pars+1+(ent l (hdT x).n).cons.length).toNat) ((arT y).drop (ent l (hdT x).n).pars.toNat)).2)
  else none)
inductive Br (l:List Ent):Tm->Tm->Int->Int->Prop
 |stop {x:Tm}:vW l x = .none->Br l x x 0 0
 |redE {x Y:Tm} {e:Int}:vW l x = .red Y e->e≠0->Br l x zT e 0
 |redL {x Y:Tm}:vW l x = .red Y 0->zG Y=false->Br l x zT 2 1
 |red {x Y y:Tm} {e k:Int}:vW l x = .red Y 0->zG Y=true->Br l Y y e k->Br l x y e (1+k)
 |tgtE {x a z:Tm} {e k:Int}:vW l x = .tgt a->Br l a z e k->e≠0->Br l x zT e k
 |tgtN {x a z:Tm} {k:Int}:vW l x = .tgt a->Br l a z 0 k->tD l x z=none->Br l x x 0 k
 |tgtRE {x a z Y:Tm} {e k:Int}:vW l x = .tgt a->Br l a z 0 k->tD l x z=some (Y,e)->e≠0->Br l x zT e k
 |tgtRL {x a z Y:Tm} {k:Int}:vW l x = .tgt a->Br l a z 0 k->tD l x z=some (Y,0)->zG Y=false->Br l x zT 2 (k+1)
 |tgtR {x a z Y y:Tm} {e k k':Int}:vW l x = .tgt a->Br l a z 0 k->tD l x z=some (Y,0)->zG Y=true->Br l Y y e k'->Br l x y e (k+1+k')
inductive On (l:List Ent) (x:Tm):Tm->Bool->Int->Int->Prop
 |stop:vW l x = .none->On l x x false 0 0
 |redE {Y:Tm} {e:Int}:vW l x = .red Y e->e≠0->On l x x false e 0
 |redL {Y:Tm}:vW l x = .red Y 0->zG Y=false->On l x zT true 2 1
 |red {Y:Tm}:vW l x = .red Y 0->zG Y=true->On l x Y true 0 1
 |tgtE {a z:Tm} {e k:Int}:vW l x = .tgt a->Br l a z e k->e≠0->On l x x false e k
 |tgtN {a z:Tm} {k:Int}:vW l x = .tgt a->Br l a z 0 k->tD l x z=none->On l x x false 0 k
 |tgtRE {a z Y:Tm} {e k:Int}:vW l x = .tgt a->Br l a z 0 k->tD l x z=some (Y,e)->e≠0->On l x x false e k
 |tgtRL {a z Y:Tm} {k:Int}:vW l x = .tgt a->Br l a z 0 k->tD l x z=some (Y,0)->zG Y=false->On l x zT true 2 (k+1)
 |tgtR {a z Y:Tm} {k:Int}:vW l x = .tgt a->Br l a z 0 k->tD l x z=some (Y,0)->zG Y=true->On l x Y true 0 (k+1)
theorem Br.nn{l:List Ent}{x y:Tm}{e k:Int}(h:Br l x y e k):0≤k:=by
 induction h<;>omega
theorem On.still{l:List Ent}{x y:Tm}{k:Int}(h:On l x y false 0 k):y=x∧Br l x x 0 k:=by
 cases h with
 |stop h=>exact⟨rfl,.stop h⟩
 |redE _ h=>exact absurd rfl h
 |tgtE _ _ h=>exact absurd rfl h
 |tgtN a b c=>exact⟨rfl,.tgtN a b c⟩
 |tgtRE _ _ _ h=>exact absurd rfl h
theorem On.err{l:List Ent}{x y:Tm}{d:Bool}{e k:Int}(h:On l x y d e k)(he:e≠0):Br l x zT e k:=by
 cases h with
 |redE a b=>exact .redE a b
 |redL a b=>exact .redL a b
 |tgtE a b c=>exact .tgtE a b c
 |tgtRE a b c d=>exact .tgtRE a b c d
 |tgtRL a b c d=>exact .tgtRL a b c d
 |_=>exact absurd rfl he
theorem On.step{l:List Ent}{x Y:Tm}{k:Int}(h:On l x Y true 0 k):zG Y=true∧1≤k∧∀y e k',Br l Y y e k'->Br l x y e (k+k'):=by
 cases h with
 |red a b=>exact⟨b,by omega,fun y e k' h=>.red a b h⟩
 |tgtR a b c d=>exact⟨d,by have:=b.nn;omega,fun y e k' h=>.tgtR a b c d h⟩
def HB(l:List Ent)(x:Tm)(f:Int):Prop:=Ou (fun L U q=>zDg q (xV l) x L U) er4 (fun R k=>∃y e,Br l x y e k∧R=fun L U=>(y,e,L,U)) (∀y e k,Br l x y e k->f<k) f
def QO(l:List Ent)(x:Tm)(R:Int->Int->Tm×Bool×Int×Int×Int)(k:Int):Prop:=∃Y d e,On l x Y d e k∧R=fun L U=>(Y,d,e,L,U)
def QF(l:List Ent)(x:Tm)(R:Int->Int->Tm×Bool×Int×Int×Int)(k:Int):Prop:=
 (vW l x = .none∧k=0∧∃Y,R=fun L U=>(Y,false,0,L,U)) ∨
 ∃a z e,vW l x = .tgt a∧Br l a z e k∧((e≠0∧∃Y,R=fun L U=>(Y,false,e,L,U))∨(e=0∧((tD l x z=none∧∃Y,R=fun L U=>(Y,false,0,L,U))∨∃Y e',Y.Ok∧tD l x z=some (Y,e')∧R=fun L U=>(Y,true,e',L,U))))
theorem vT{t:Tm}(hg:xS t=true)(h:t.k=3∨t.k=4∨t.k=5):∃a b,t.sub=[a,b]∧xS a=true∧xS b=true:=by
 obtain⟨k,n,l⟩:=t
 have hh:=wQ hg
 obtain⟨a,b,rfl⟩:=zNB ((sI hh.1).2.2.2.2.2.1 h).1
 have hc:=wP hh.2
 exact⟨a,b,rfl,hc.1,(wP hc.2).1⟩
theorem zIU{N:ByteArray->Bool}(l:List Ent)(hE:vK N l)(x:Tm)(hs:zG x=true)(f:Int)(hf:0≤f)(h3:(hdT x).k≠4)(hk:qA l (hdT x)=4)(hb:∀a∈arT x,HB l a f)(hB:∀a y k,zG a=true->Br l a y 0 k->zG y=true) :
  Ou (fun L U q=>zMp q (xV l) (hdT x) (arT x) L U) er5 (QF l x) (∃a,vW l x = .tgt a∧∀z e k,Br l a z e k->f<k) f:=by
 have hh:=sL hs
 have h0:=dP (zK hh).2.2
 have hks:=tC hk (by decide)
 have h1:=hks.2.1
 have ho:OkA (arT x):=fun y hy=>yG (xP hs hy)
 have hl:(arT x).length≤8192:=by
  have h:=zK hs
  have:=sA _ h.2.2
  omega
 have hp:=(xQ (hE.2 _ h0 h1)).2.2.2.1 hks.2.2
 unfold D3 at hp
 simp only[Bool.and_eq_true]at hp
 have hw:=sP hp.1
 have hfam:=wI ((xQ (hE.2 _ hw.1 (by omega))).2.1 hw.2.2.1)
 have hact:vW l x=if ((arT x).length:Int)≤(ent l (hdT x).n).pars then .none else .tgt (nth (arT x) (ent l (hdT x).n).pars):=by
  unfold vW
  rw[if_neg (fun h=>h3 h.1),if_neg (by omega),if_pos hk]
 have hre:∀y,tD l x y=if iG l y∧(ent l (hdT y).n).fam=(ent l (hdT x).n).fam then
   some (apT (iI l (hdT x).n ((arT y).drop (ent l (hdT y).n).pars.toNat)).1 ((arT x).drop ((ent l (hdT x).n).pars+1).toNat),(iI l (hdT x).n ((arT y).drop (ent l (hdT y).n).pars.toNat)).2)
  else none:=fun y=>by
  unfold tD
  rw[if_pos hk]
 refine Ou.succ ?_
 simp only[zMp,J2,S8,iH]
 refine Ou.pure (yF h0 h1) (Ou.ite (fun hn=>Ou.ret hf (.inl ⟨by rw[hact,if_pos (of_decide_eq_true hn)],rfl,_,rfl⟩)) fun hn=>?_)
 have hn':=of_decide_eq_false hn
 rw[if_neg hn']at hact
 have hlt:(ent l (hdT x).n).pars<(arT x).length:=by omega
 have hp0:0≤(ent l (hdT x).n).pars:=by omega
 refine Ou.pure (uB hp0 hlt) (Ou.bind (hb _ (rQ hp0 hlt)) (fun h=>⟨_,hact,h⟩) (fun r hr=>⟨_,Evt.ifT (by show (r.2.1 != 0)=true;rw[show r.2.1=8 from hr];decide) Evt.ret,hr⟩) ?_)
 rintro R k k0 k1 ⟨y,e,hbr,rfl⟩
 dsimp only
 refine Ou.ite (fun h=>Ou.ret (by omega) (.inr ⟨_,y,e,hact,by rwa[Int.add_zero],.inl ⟨by simpa using h,_,rfl⟩⟩)) fun h=>?_
 have he:e=0:=by simpa using h
 subst he
 have hy:=hB _ _ _ (xP hs (rQ hp0 hlt)) hbr
 refine Ou.evt (zAM l y hy) ?_
 unfold zAL
 by_cases hc:iG l y
 ·rw[if_pos hc]
  have hcs:=sC hy hc
  obtain⟨A,z,a1,-,-,a4,a5,a6,a7,-⟩:=tN hE hcs.1 hcs.2.1 hcs.2.2.1
  refine Ou.ifT rfl (Ou.pure (yF hcs.1 hcs.2.1) (Ou.ite (fun hf'=>Ou.ret (by omega) (.inr ⟨_,y,0,hact,by rwa[Int.add_zero],.inr ⟨rfl,.inl ⟨?_,_,rfl⟩⟩⟩)) fun hf'=>?_))
  ·rw[hre,if_neg (fun h=>by simp[h.2]at hf')]
  ·have hf2:(ent l (hdT y).n).fam=(ent l (hdT x).n).fam:=by simpa using hf'
   have hra:OkA (arT y):=fun x hx=>yG (xP hy hx)
   have hrl:(arT y).length≤8192:=by
    have h:=zK hy
    have:=sA _ h.2.2
    omega
   have hlen:=hcs.2.2.2
   have hX:=D7 l (hdT x).n ((arT y).drop (ent l (hdT y).n).pars.toNat) hE (hra.drop _) (by rw[List.length_drop];omega)
   refine Ou.pure (uZ a6 (by show (ent l (hdT y).n).pars≤((arT y).length:Int);omega)) (Ou.evt hX.1 ?_)
   rw[zV (x:=(ent l (hdT x).n).pars+1) (by omega) (by omega)]
   refine Ou.pure (uZ (by omega) (by omega)) (Ou.evt (vA _ _ (by rw[List.length_drop];omega)) (Ou.ret (by omega) (.inr ⟨_,y,0,hact,by rwa[Int.add_zero],.inr ⟨rfl,.inr ⟨_,_,?_,?_,rfl⟩⟩⟩)))
   ·exact uQ _ _ hX.2.1 (ho.drop _)
   ·rw[hre,if_pos ⟨hc,hf2⟩]
 ·rw[if_neg hc]
  refine Ou.ifF rfl (Ou.ret (by omega) (.inr ⟨_,y,0,hact,by rwa[Int.add_zero],.inr ⟨rfl,.inl ⟨?_,_,rfl⟩⟩⟩))
  rw[hre,if_neg (fun h=>hc h.1)]
theorem zMn{N:ByteArray->Bool}(l:List Ent)(hE:vK N l)(x:Tm)(hs:zG x=true)(f:Int)(hf:0≤f)(hk:(hdT x).k=7)(hb:∀a∈arT x,HB l a f)(hB:∀a y k,zG a=true->Br l a y 0 k->zG y=true) :
  Ou (fun L U q=>zMo q (xV l) (hdT x) (arT x) L U) er5 (QF l x) (∃a,vW l x = .tgt a∧∀z e k,Br l a z e k->f<k) f:=by
 have hh:=sL hs
 have hg:=(zK hh).2.2
 have h0:=dP hg
 have ho:OkA (arT x):=fun y hy=>yG (xP hs hy)
 have hl:(arT x).length≤8192:=by
  have h:=zK hs
  have:=sA _ h.2.2
  omega
 have hkk:∀n:Int,n≠0->qA l (hdT x)≠n:=fun n hn e=>by have:=(tC e hn).1;omega
 have hact:vW l x=if isT l (hdT x).n 1=true∧xR (ent l (hdT x).n)≤(arT x).length then .tgt (nth (arT x) (xR (ent l (hdT x).n)-1))else .none:=by
  unfold vW
  rw[if_neg (fun h=>by omega),if_neg (hkk 3 (by decide)),if_neg (hkk 4 (by decide)),if_pos hk]
 have hre:∀y,tD l x y=if iG l y∧(ent l (hdT y).n).fam=(hdT x).n then
   some (apT (D8 l (hdT x).n (nth (hdT x).sub 0).n (hdT y).n ((arT x).take ((ent l (hdT x).n).pars+1+(ent l (hdT x).n).cons.length).toNat) ((arT y).drop (ent l (hdT x).n).pars.toNat)).1 ((arT x).drop (xR (ent l (hdT x).n)).toNat),
    (D8 l (hdT x).n (nth (hdT x).sub 0).n (hdT y).n ((arT x).take ((ent l (hdT x).n).pars+1+(ent l (hdT x).n).cons.length).toNat) ((arT y).drop (ent l (hdT x).n).pars.toNat)).2)
  else none:=fun y=>by
  unfold tD
  rw[if_neg (hkk 4 (by decide))]
 refine Ou.succ ?_
 simp only[zMo,J2,S8,iH]
 refine Ou.ite (fun hn=>Ou.ret hf (.inl ⟨?_,rfl,_,rfl⟩)) fun hn=>?_
 ·rw[hact,if_neg]
  intro h
  have:=(wU h.1).2.1
  have:=of_decide_eq_true hn
  omega
 have h1:(hdT x).n<l.length:=by have:=of_decide_eq_false hn;omega
 refine Ou.pure (yF h0 h1) (Ou.ite (fun hk1=>Ou.ret hf (.inl ⟨?_,rfl,_,rfl⟩)) fun hk1=>?_)
 ·rw[hact,if_neg]
  intro h
  have h2:=(wU h.1).2.2
  rw[h2]at hk1
  simp at hk1
 have hk1':(ent l (hdT x).n).kind=1:=by simpa using hk1
 have hfam:=wI ((xQ (hE.2 _ h0 h1)).2.1 hk1')
 have hisT:isT l (hdT x).n 1=true:=by unfold isT;simp[h0,h1,hk1']
 have hargs:xR (ent l (hdT x).n)=(ent l (hdT x).n).pars+2+(ent l (hdT x).n).cons.length+(ent l (hdT x).n).inds:=by unfold xR;rw[if_pos hk1']
 refine Ou.pure (zMq h0 h1) (Ou.ite (fun hn=>Ou.ret hf (.inl ⟨?_,rfl,_,rfl⟩)) fun hn=>?_)
 ·rw[hact,if_neg]
  intro h
  have:=of_decide_eq_true hn
  omega
 have hn':=of_decide_eq_false hn
 rw[if_pos ⟨hisT,by omega⟩]at hact
 rw[zV (x:=xR (ent l (hdT x).n)-1) (by omega) (by omega)]
 have hp0:0≤xR (ent l (hdT x).n)-1:=by omega
 have hlt:xR (ent l (hdT x).n)-1<(arT x).length:=by omega
 refine Ou.pure (uB hp0 hlt) (Ou.bind (hb _ (rQ hp0 hlt)) (fun h=>⟨_,hact,h⟩) (fun r hr=>⟨_,Evt.ifT (by show (r.2.1 != 0)=true;rw[show r.2.1=8 from hr];decide) Evt.ret,hr⟩) ?_)
 rintro R k k0 k1 ⟨y,e,hbr,rfl⟩
 dsimp only
 refine Ou.ite (fun h=>Ou.ret (by omega) (.inr ⟨_,y,e,hact,by rwa[Int.add_zero],.inl ⟨by simpa using h,_,rfl⟩⟩)) fun h=>?_
 have he:e=0:=by simpa using h
 subst he
 have hy:=hB _ _ _ (xP hs (rQ hp0 hlt)) hbr
 refine Ou.evt (zAM l y hy) ?_
 unfold zAL
 by_cases hc:iG l y
 ·rw[if_pos hc]
  have hcs:=sC hy hc
  obtain⟨A,z,a1,-,-,a4,a5,a6,a7,-,-,-,a8,-⟩:=tN hE hcs.1 hcs.2.1 hcs.2.2.1
  refine Ou.ifT rfl (Ou.pure (yF hcs.1 hcs.2.1) (Ou.ite (fun hf'=>Ou.ret (by omega) (.inr ⟨_,y,0,hact,by rwa[Int.add_zero],.inr ⟨rfl,.inl ⟨?_,_,rfl⟩⟩⟩)) fun hf'=>?_))
  ·rw[hre,if_neg (fun h=>by simp[h.2]at hf')]
  ·have hf2:(ent l (hdT y).n).fam=(hdT x).n:=by simpa using hf'
   rw[hf2]at a8
   have hra:OkA (arT y):=fun x hx=>yG (xP hy hx)
   have hrl:(arT y).length≤8192:=by
    have h:=zK hy
    have:=sA _ h.2.2
    omega
   have hlen:=hcs.2.2.2
   have hsub:∃s,(hdT x).sub=[s]:=by
    revert hg hk
    generalize hdT x=y
    intro hk hg
    obtain⟨kk,nn,ss⟩:=y
    obtain⟨s,hs,-⟩:=(sI (wQ hg).1).2.2.2.2.2.2.1 hk
    exact⟨s,hs⟩
   obtain⟨s,hsb⟩:=hsub
   rw[zV (x:=(ent l (hdT x).n).pars+1) (by omega) (by omega),zV (x:=(ent l (hdT x).n).pars+1+(ent l (hdT x).n).cons.length) (by omega) (by omega)]
   have hX:=S9 l (hdT x).n (nth (hdT x).sub 0).n (hdT y).n ((arT x).take ((ent l (hdT x).n).pars+1+(ent l (hdT x).n).cons.length).toNat) ((arT y).drop (ent l (hdT x).n).pars.toNat) hE (ho.take _) (hra.drop _) (by rw[List.length_take];omega) (by rw[List.length_drop];omega)
   refine Ou.pure (uB (by omega) (by rw[hsb];simp)) (Ou.pure (a:=(arT x).take ((ent l (hdT x).n).pars+1+(ent l (hdT x).n).cons.length).toNat) ?_ (Ou.pure (uZ (by omega) (by show _≤((arT y).length:Int);omega)) (Ou.evt hX.1 ?_)))
   ·rw[fM (by omega) (by omega) (by omega)];simp
   refine Ou.pure (uZ (by omega) (by omega)) (Ou.evt (vA _ _ (by rw[List.length_drop];omega)) (Ou.ret (by omega) (.inr ⟨_,y,0,hact,by rwa[Int.add_zero],.inr ⟨rfl,.inr ⟨_,_,?_,?_,rfl⟩⟩⟩)))
   ·exact uQ _ _ hX.2.1 (ho.drop _)
   ·rw[hre,if_pos ⟨hc,hf2⟩]
 ·rw[if_neg hc]
  refine Ou.ifF rfl (Ou.ret (by omega) (.inr ⟨_,y,0,hact,by rwa[Int.add_zero],.inr ⟨rfl,.inl ⟨?_,_,rfl⟩⟩⟩))
  rw[hre,if_neg (fun h=>hc h.1)]
def zUy(l:List Ent)(Y:Tm)(e0 k0:Int)(y:Tm)(e k:Int):Prop:=
 (e0≠0∧y=zT∧e=e0∧k=k0)∨(e0=0∧zG Y=false∧y=zT∧e=2∧k=k0+1)∨(e0=0∧zG Y=true∧∃k',Br l Y y e k'∧k=k0+1+k')
section
variable {l:List Ent} {x y:Tm} {e k:Int}
theorem Br.inv_none(h:Br l x y e k)(ha:vW l x = .none):y=x∧e=0∧k=0:=by
 cases h with
 |stop _=>exact⟨rfl,rfl,rfl⟩
 |redE a=>rw[ha]at a;cases a
 |redL a=>rw[ha]at a;cases a
 |red a=>rw[ha]at a;cases a
 |tgtE a=>rw[ha]at a;cases a
 |tgtN a=>rw[ha]at a;cases a
 |tgtRE a=>rw[ha]at a;cases a
 |tgtRL a=>rw[ha]at a;cases a
 |tgtR a=>rw[ha]at a;cases a
theorem Br.inv_red{Y:Tm}{e0:Int}(h:Br l x y e k)(ha:vW l x = .red Y e0):zUy l Y e0 0 y e k:=by
 cases h with
 |stop a=>rw[ha]at a;cases a
 |redE a b=>rw[ha]at a;cases a;exact .inl ⟨b,rfl,rfl,rfl⟩
 |redL a b=>rw[ha]at a;cases a;exact .inr (.inl ⟨rfl,b,rfl,rfl,rfl⟩)
 |red a b c=>rw[ha]at a;cases a;exact .inr (.inr ⟨rfl,b,_,c,by omega⟩)
 |tgtE a=>rw[ha]at a;cases a
 |tgtN a=>rw[ha]at a;cases a
 |tgtRE a=>rw[ha]at a;cases a
 |tgtRL a=>rw[ha]at a;cases a
 |tgtR a=>rw[ha]at a;cases a
theorem Br.inv_tgt{a:Tm}(h:Br l x y e k)(ha:vW l x = .tgt a):∃z ea ka,Br l a z ea ka∧((ea≠0∧y=zT∧e=ea∧k=ka)∨(ea=0∧((tD l x z=none∧y=x∧e=0∧k=ka)∨∃Y e0,tD l x z=some (Y,e0)∧zUy l Y e0 ka y e k))):=by
 cases h with
 |stop a=>rw[ha]at a;cases a
 |redE a b=>rw[ha]at a;cases a
 |redL a b=>rw[ha]at a;cases a
 |red a b c=>rw[ha]at a;cases a
 |tgtE a b c=>rw[ha]at a;cases a;exact⟨_,_,_,b,.inl ⟨c,rfl,rfl,rfl⟩⟩
 |tgtN a b c=>rw[ha]at a;cases a;exact⟨_,_,_,b,.inr ⟨rfl,.inl ⟨c,rfl,rfl,rfl⟩⟩⟩
 |tgtRE a b c d=>rw[ha]at a;cases a;exact⟨_,_,_,b,.inr ⟨rfl,.inr ⟨_,_,c,.inl ⟨d,rfl,rfl,rfl⟩⟩⟩⟩
 |tgtRL a b c d=>rw[ha]at a;cases a;exact⟨_,_,_,b,.inr ⟨rfl,.inr ⟨_,_,c,.inr (.inl ⟨rfl,d,rfl,rfl,rfl⟩)⟩⟩⟩
 |tgtR a b c d f=>rw[ha]at a;cases a;exact⟨_,_,_,b,.inr ⟨rfl,.inr ⟨_,_,c,.inr (.inr ⟨rfl,d,_,f,rfl⟩)⟩⟩⟩
theorem Br.det(h:Br l x y e k):∀ {y':Tm} {e' k':Int},Br l x y' e' k'->y'=y∧e'=e∧k'=k:=by
 induction h with
 |stop a=>intro y' e' k' h2;exact h2.inv_none a
 |redE a b=>
  intro y' e' k' h2
  rcases h2.inv_red a with⟨c,d⟩|⟨c,d⟩|⟨c,d⟩
  ·exact d
  ·exact absurd c b
  ·exact absurd c b
 |redL a b=>
  intro y' e' k' h2
  rcases h2.inv_red a with⟨c,d⟩|⟨c,d,f⟩|⟨c,d,f⟩
  ·exact absurd rfl c
  ·exact f
  ·rw[b]at d;cases d
 |red a b c ih=>
  intro y' e' k' h2
  rcases h2.inv_red a with⟨c,d⟩|⟨c,d,f⟩|⟨c,d,n,f,g⟩
  ·exact absurd rfl c
  ·rw[b]at d;cases d
  ·obtain⟨rfl,rfl,rfl⟩:=ih f;exact⟨rfl,rfl,by omega⟩
 |tgtE a b c ih=>
  intro y' e' k' h2
  obtain⟨z',ea,ka,hb',h3⟩:=h2.inv_tgt a
  obtain⟨rfl,rfl,rfl⟩:=ih hb'
  rcases h3 with⟨_,d⟩|⟨d,_⟩
  ·exact d
  ·exact absurd d c
 |tgtN a b c ih=>
  intro y' e' k' h2
  obtain⟨z',ea,ka,hb',h3⟩:=h2.inv_tgt a
  obtain⟨rfl,rfl,rfl⟩:=ih hb'
  rcases h3 with⟨d,_⟩|⟨_,⟨_,d⟩|⟨Y,e0,d,_⟩⟩
  ·exact absurd rfl d
  ·exact d
  ·rw[c]at d;cases d
 |tgtRE a b c d ih=>
  intro y' e' k' h2
  obtain⟨z',ea,ka,hb',h3⟩:=h2.inv_tgt a
  obtain⟨rfl,rfl,rfl⟩:=ih hb'
  rcases h3 with⟨f,_⟩|⟨_,⟨f,_⟩|⟨Y,e0,f,g⟩⟩
  ·exact absurd rfl f
  ·rw[c]at f;cases f
  ·rw[c]at f;cases f
   rcases g with⟨_,g⟩|⟨g,_⟩|⟨g,_⟩
   ·exact g
   ·exact absurd g d
   ·exact absurd g d
 |tgtRL a b c d ih=>
  intro y' e' k' h2
  obtain⟨z',ea,ka,hb',h3⟩:=h2.inv_tgt a
  obtain⟨rfl,rfl,rfl⟩:=ih hb'
  rcases h3 with⟨f,_⟩|⟨_,⟨f,_⟩|⟨Y,e0,f,g⟩⟩
  ·exact absurd rfl f
  ·rw[c]at f;cases f
  ·rw[c]at f;cases f
   rcases g with⟨g,_⟩|⟨_,_,g⟩|⟨_,g,_⟩
   ·exact absurd rfl g
   ·exact g
   ·rw[d]at g;cases g
 |tgtR a b c d f ih ih2=>
  intro y' e' k' h2
  obtain⟨z',ea,ka,hb',h3⟩:=h2.inv_tgt a
  obtain⟨rfl,rfl,rfl⟩:=ih hb'
  rcases h3 with⟨f,_⟩|⟨_,⟨f,_⟩|⟨Y,e0,f,g⟩⟩
  ·exact absurd rfl f
  ·rw[c]at f;cases f
  ·rw[c]at f;cases f
   rcases g with⟨g,_⟩|⟨_,g,_⟩|⟨_,_,n,g,rfl⟩
   ·exact absurd rfl g
   ·rw[d]at g;cases g
   ·obtain⟨rfl,rfl,rfl⟩:=ih2 g;exact⟨rfl,rfl,rfl⟩
theorem On.det{Y Y':Tm}{d d':Bool}{e e' k k':Int}(h:On l x Y d e k)(h':On l x Y' d' e' k'):Y'=Y∧d'=d∧e'=e∧k'=k:=by
 cases h with
 |stop a=>
  cases h' with
  |stop _=>exact⟨rfl,rfl,rfl,rfl⟩
  |redE b=>rw[a]at b;cases b
  |redL b=>rw[a]at b;cases b
  |red b=>rw[a]at b;cases b
  |tgtE b=>rw[a]at b;cases b
  |tgtN b=>rw[a]at b;cases b
  |tgtRE b=>rw[a]at b;cases b
  |tgtRL b=>rw[a]at b;cases b
  |tgtR b=>rw[a]at b;cases b
 |redE a c=>
  cases h' with
  |redE b=>rw[a]at b;cases b;exact⟨rfl,rfl,rfl,rfl⟩
  |redL b=>rw[a]at b;cases b;exact absurd rfl c
  |red b=>rw[a]at b;cases b;exact absurd rfl c
  |stop b=>rw[a]at b;cases b
  |tgtE b=>rw[a]at b;cases b
  |tgtN b=>rw[a]at b;cases b
  |tgtRE b=>rw[a]at b;cases b
  |tgtRL b=>rw[a]at b;cases b
  |tgtR b=>rw[a]at b;cases b
 |redL a c=>
  cases h' with
  |redE b d=>rw[a]at b;cases b;exact absurd rfl d
  |redL b=>exact⟨rfl,rfl,rfl,rfl⟩
  |red b d=>rw[a]at b;cases b;rw[c]at d;cases d
  |stop b=>rw[a]at b;cases b
  |tgtE b=>rw[a]at b;cases b
  |tgtN b=>rw[a]at b;cases b
  |tgtRE b=>rw[a]at b;cases b
  |tgtRL b=>rw[a]at b;cases b
  |tgtR b=>rw[a]at b;cases b
 |red a c=>
  cases h' with
  |redE b d=>rw[a]at b;cases b;exact absurd rfl d
  |redL b d=>rw[a]at b;cases b;rw[c]at d;cases d
  |red b d=>rw[a]at b;cases b;exact⟨rfl,rfl,rfl,rfl⟩
  |stop b=>rw[a]at b;cases b
  |tgtE b=>rw[a]at b;cases b
  |tgtN b=>rw[a]at b;cases b
  |tgtRE b=>rw[a]at b;cases b
  |tgtRL b=>rw[a]at b;cases b
  |tgtR b=>rw[a]at b;cases b
 |tgtE a c f=>
  cases h' with
  |stop b=>rw[a]at b;cases b
  |redE b=>rw[a]at b;cases b
  |redL b=>rw[a]at b;cases b
  |red b=>rw[a]at b;cases b
  |tgtE b g=>rw[a]at b;cases b;obtain⟨-,rfl,rfl⟩:=c.det g;exact⟨rfl,rfl,rfl,rfl⟩
  |tgtN b g=>rw[a]at b;cases b;exact absurd (c.det g).2.1.symm f
  |tgtRE b g=>rw[a]at b;cases b;exact absurd (c.det g).2.1.symm f
  |tgtRL b g=>rw[a]at b;cases b;exact absurd (c.det g).2.1.symm f
  |tgtR b g=>rw[a]at b;cases b;exact absurd (c.det g).2.1.symm f
 |tgtN a c f=>
  cases h' with
  |stop b=>rw[a]at b;cases b
  |redE b=>rw[a]at b;cases b
  |redL b=>rw[a]at b;cases b
  |red b=>rw[a]at b;cases b
  |tgtE b g n=>rw[a]at b;cases b;exact absurd (c.det g).2.1 n
  |tgtN b g=>rw[a]at b;cases b;obtain⟨-,-,rfl⟩:=c.det g;exact⟨rfl,rfl,rfl,rfl⟩
  |tgtRE b g n=>rw[a]at b;cases b;obtain⟨rfl,-,-⟩:=c.det g;rw[f]at n;cases n
  |tgtRL b g n=>rw[a]at b;cases b;obtain⟨rfl,-,-⟩:=c.det g;rw[f]at n;cases n
  |tgtR b g n=>rw[a]at b;cases b;obtain⟨rfl,-,-⟩:=c.det g;rw[f]at n;cases n
 |tgtRE a c f n0=>
  cases h' with
  |stop b=>rw[a]at b;cases b
  |redE b=>rw[a]at b;cases b
  |redL b=>rw[a]at b;cases b
  |red b=>rw[a]at b;cases b
  |tgtE b g n=>rw[a]at b;cases b;exact absurd (c.det g).2.1 n
  |tgtN b g n=>rw[a]at b;cases b;obtain⟨rfl,-,-⟩:=c.det g;rw[f]at n;cases n
  |tgtRE b g n=>rw[a]at b;cases b;obtain⟨rfl,-,rfl⟩:=c.det g;rw[f]at n;cases n;exact⟨rfl,rfl,rfl,rfl⟩
  |tgtRL b g n=>rw[a]at b;cases b;obtain⟨rfl,-,-⟩:=c.det g;rw[f]at n;cases n;exact absurd rfl n0
  |tgtR b g n=>rw[a]at b;cases b;obtain⟨rfl,-,-⟩:=c.det g;rw[f]at n;cases n;exact absurd rfl n0
 |tgtRL a c f n0=>
  cases h' with
  |stop b=>rw[a]at b;cases b
  |redE b=>rw[a]at b;cases b
  |redL b=>rw[a]at b;cases b
  |red b=>rw[a]at b;cases b
  |tgtE b g n=>rw[a]at b;cases b;exact absurd (c.det g).2.1 n
  |tgtN b g n=>rw[a]at b;cases b;obtain⟨rfl,-,-⟩:=c.det g;rw[f]at n;cases n
  |tgtRE b g n m=>rw[a]at b;cases b;obtain⟨rfl,-,-⟩:=c.det g;rw[f]at n;cases n;exact absurd rfl m
  |tgtRL b g n=>rw[a]at b;cases b;obtain⟨rfl,-,rfl⟩:=c.det g;exact⟨rfl,rfl,rfl,rfl⟩
  |tgtR b g n m=>rw[a]at b;cases b;obtain⟨rfl,-,-⟩:=c.det g;rw[f]at n;cases n;rw[n0]at m;cases m
 |tgtR a c f n0=>
  cases h' with
  |stop b=>rw[a]at b;cases b
  |redE b=>rw[a]at b;cases b
  |redL b=>rw[a]at b;cases b
  |red b=>rw[a]at b;cases b
  |tgtE b g n=>rw[a]at b;cases b;exact absurd (c.det g).2.1 n
  |tgtN b g n=>rw[a]at b;cases b;obtain⟨rfl,-,-⟩:=c.det g;rw[f]at n;cases n
  |tgtRE b g n m=>rw[a]at b;cases b;obtain⟨rfl,-,-⟩:=c.det g;rw[f]at n;cases n;exact absurd rfl m
  |tgtRL b g n m=>rw[a]at b;cases b;obtain⟨rfl,-,-⟩:=c.det g;rw[f]at n;cases n;rw[n0]at m;cases m
  |tgtR b g n=>rw[a]at b;cases b;obtain⟨rfl,-,rfl⟩:=c.det g;rw[f]at n;cases n;exact⟨rfl,rfl,rfl,rfl⟩
end
section
variable {l:List Ent} {x y:Tm} {e k:Int}
theorem On.tgt_lt{a Y:Tm}{d:Bool}{f:Int}(h:On l x Y d e k)(ha:vW l x = .tgt a)(hl:∀z e k,Br l a z e k->f<k):f<k:=by
 cases h with
 |stop b=>rw[ha]at b;cases b
 |redE b=>rw[ha]at b;cases b
 |redL b=>rw[ha]at b;cases b
 |red b=>rw[ha]at b;cases b
 |tgtE b g=>rw[ha]at b;cases b;exact hl _ _ _ g
 |tgtN b g=>rw[ha]at b;cases b;exact hl _ _ _ g
 |tgtRE b g=>rw[ha]at b;cases b;exact hl _ _ _ g
 |tgtRL b g=>rw[ha]at b;cases b;have:=hl _ _ _ g;omega
 |tgtR b g=>rw[ha]at b;cases b;have:=hl _ _ _ g;omega
theorem On.red_lt{Y Z:Tm}{d:Bool}{e0:Int}(h:On l x Y d e k)(ha:vW l x = .red Z e0)(h0:e0=0):k=1:=by
 subst h0
 cases h with
 |stop b=>rw[ha]at b;cases b
 |redE b c=>rw[ha]at b;cases b;exact absurd rfl c
 |redL b=>rfl
 |red b=>rfl
 |tgtE b g=>rw[ha]at b;cases b
 |tgtN b g=>rw[ha]at b;cases b
 |tgtRE b g=>rw[ha]at b;cases b
 |tgtRL b g=>rw[ha]at b;cases b
 |tgtR b g=>rw[ha]at b;cases b
theorem Br.first(h:Br l x y e k):∃Y d e1 k1,On l x Y d e1 k1∧k1≤k:=by
 cases h with
 |stop a=>exact⟨_,_,_,_,.stop a,by omega⟩
 |redE a b=>exact⟨_,_,_,_,.redE a b,by omega⟩
 |redL a b=>exact⟨_,_,_,_,.redL a b,by omega⟩
 |red a b c=>exact⟨_,_,_,_,.red a b,by have:=c.nn;omega⟩
 |tgtE a b c=>exact⟨_,_,_,_,.tgtE a b c,by omega⟩
 |tgtN a b c=>exact⟨_,_,_,_,.tgtN a b c,by omega⟩
 |tgtRE a b c d=>exact⟨_,_,_,_,.tgtRE a b c d,by omega⟩
 |tgtRL a b c d=>exact⟨_,_,_,_,.tgtRL a b c d,by omega⟩
 |tgtR a b c d f=>exact⟨_,_,_,_,.tgtR a b c d,by have:=f.nn;omega⟩
theorem Br.after{Y:Tm}{k1:Int}(h:Br l x y e k)(hO:On l x Y true 0 k1):∃k2,Br l Y y e k2∧k=k1+k2:=by
 cases hO with
 |red a b=>
  rcases h.inv_red a with⟨c,-⟩|⟨-,c,-⟩|⟨-,-,n,f,g⟩
  ·exact absurd rfl c
  ·rw[b]at c;cases c
  ·exact⟨n,f,by omega⟩
 |tgtR a b c d=>
  obtain⟨z',ea,ka,hb',h3⟩:=h.inv_tgt a
  obtain⟨rfl,rfl,rfl⟩:=b.det hb'
  rcases h3 with⟨f,_⟩|⟨_,⟨f,_⟩|⟨Y,e0,f,g⟩⟩
  ·exact absurd rfl f
  ·rw[c]at f;cases f
  ·rw[c]at f;cases f
   rcases g with⟨g,_⟩|⟨_,g,_⟩|⟨_,_,n,g,rfl⟩
   ·exact absurd rfl g
   ·rw[d]at g;cases g
   ·exact⟨n,g,by omega⟩
end
def zRU(qq:Nat)(M:xO)(p1:Tm):Option (Bool):=
 O8 qq p1 1048577 (List.length M.l:Int)>>=fun r1=>
 some r1
theorem zVJ{qq M p1}:Cz (zRU qq M p1) 218 [mB M 1,mR M] [.mp 0 0,tmA p1] (fun r=>ab r) (fun _=>[mB M 1,mR M]) 0:=fw Tryz.func218<|rC 4 [] zEH fun _=>fE 0
def zDf(qq:Nat)(M:xO)(p1:Tm)(fl fu:Int):Option (Tm×Int×Int×Int):=
 zRU qq M p1>>=fun r1=>
 if r1 then
 zDg qq M p1 fl fu>>=fun r4=>
 if r4.2.1 != 0 then
 some ((Tm.mk 0 0 []),r4.2.1,r4.2.2.1,r4.2.2.2)
 else
 e96 qq r4.1>>=fun r7=>
 some (r7,0,r4.2.2.1,r4.2.2.2)
 else
 some ((Tm.mk 0 0 []),5,fl,fu)
theorem zPp{qq M p1 fl fu}:Cz (zDf qq M p1 fl fu) 161 [mB M 1,mR M,.cells [ai fl,ai fu]] [.mp 0 0,tmA p1,.mp 2 0] (fun r=>.tup [tmA r.1,ai r.2.1]) (fun r=>[mB M 1,mR M,.cells [ai r.2.2.1,ai r.2.2.2]]) 0:=fw Tryz.func161<|rK 1 [0,1] zVJ (fun _=>rC 2 [0,1,2] zVI fun _=>rB 3 (fE 1)<|rC 1 [] c96 fun _=>fE 1) fun _=>fE 2
theorem Br.shaped{l:List Ent}{x y:Tm}{e k:Int}(h:Br l x y e k):zG x=true->e=0->zG y=true:=by
 induction h with
 |stop _=>exact fun hs _=>hs
 |redE _ h=>exact fun _ he=>absurd he h
 |redL _ _=>exact fun _ he=>absurd he (by decide)
 |red _ hY _ ih=>exact fun _ he=>ih hY he
 |tgtE _ _ h _=>exact fun _ he=>absurd he h
 |tgtN _ _ _ _=>exact fun hs _=>hs
 |tgtRE _ _ _ h _=>exact fun _ he=>absurd he h
 |tgtRL _ _ _ _ _=>exact fun _ he=>absurd he (by decide)
 |tgtR _ _ _ hY _ _ ih=>exact fun _ he=>ih hY he
theorem zAN{Q:(Int->Int->Tm×Bool×Int×Int×Int)->Int->Prop}(p Y:Tm)(f:Int)(hf:0≤f)(ho:Y.Ok)(hL:zG Y=false->Q (fun L U=>(zT,true,2,L,U)) 1)(hS:zG Y=true->Q (fun L U=>(Y,true,0,L,U)) 1){S:Prop}(hsh:f<1->S) :
  Ou (fun L U q=>(bJ q L U)>>=fun r28=>if (r28.1 != 0)=true then some (p,false,r28.1,r28.2.1,r28.2.2)else(F4 q Y)>>=fun r31=>some (r31.1,true,r31.2,r28.2.1,r28.2.2)) er5 Q S f:=by
 refine Ou.bind (zGZ f hf) hsh (fun r hr=>⟨_,Evt.ifT (by show (r.1 != 0)=true;rw[show r.1=8 from hr];decide) Evt.ret,hr⟩) ?_
 rintro R k k0 k1 ⟨rfl,rfl⟩
 dsimp only
 refine Ou.ifF rfl (Ou.evt (zFd Y ho) ?_)
 unfold zFe
 cases h:zG Y with
 |true=>exact Ou.ret (by omega) (hS h)
 |false=>exact Ou.ret (by omega) (hL h)
theorem zDe(l:List Ent)(p:Tm)(f:Int)(hf:0≤f){g:Int->Int->Nat->Option (Tm×Bool×Int×Int×Int)}(h:Ou g er5 (QF l p) (∃a,vW l p = .tgt a∧∀z e k,Br l a z e k->f<k) f) :
  Ou (fun L U q=>g L U q>>=fun r36=>if r36.2.1=true then(if (r36.2.2.1 != 0)=true then some (p,false,r36.2.2.1,r36.2.2.2.1,r36.2.2.2.2)else
   (bJ q r36.2.2.2.1 r36.2.2.2.2)>>=fun r40=>if (r40.1 != 0)=true then some (p,false,r40.1,r40.2.1,r40.2.2)else(F4 q r36.1)>>=fun r43=>some (r43.1,true,r43.2,r40.2.1,r40.2.2))
   else(if (r36.2.2.1 != 0)=true then some (p,false,r36.2.2.1,r36.2.2.2.1,r36.2.2.2.2)else some (p,false,r36.2.2.1,r36.2.2.2.1,r36.2.2.2.2))) er5 (QO l p) (∀Y d e k,On l p Y d e k->f<k) f:=by
 refine Ou.bind h (fun⟨a,ha,h⟩ Y d e k hO=>hO.tgt_lt ha h) (fun r hr=>?_) ?_
 ·have hr':(r.2.2.1 != 0)=true:=by rw[show r.2.2.1=8 from hr];decide
  cases hd:r.2.1 with
  |true=>exact⟨_,Evt.ifT rfl (Evt.ifT hr' Evt.ret),hr⟩
  |false=>exact⟨_,Evt.ifF rfl (Evt.ifT hr' Evt.ret),hr⟩
 ·rintro R k k0 k1 (⟨ha,rfl,Y,rfl⟩|⟨a,z,e,ha,hb,⟨he,Y,rfl⟩|⟨rfl,⟨hr,Y,rfl⟩|⟨Y,e',hY,hr,rfl⟩⟩⟩)
  ·exact Ou.ifF rfl (Ou.ifF rfl (Ou.ret (by omega) ⟨p,false,0,On.stop ha,rfl⟩))
  ·dsimp only
   exact Ou.ifF rfl (Ou.ifT (by simpa using he) (Ou.ret (by omega) ⟨p,false,e,by rw[Int.add_zero];exact On.tgtE ha hb he,rfl⟩))
  ·exact Ou.ifF rfl (Ou.ifF rfl (Ou.ret (by omega) ⟨p,false,0,by rw[Int.add_zero];exact On.tgtN ha hb hr,rfl⟩))
  ·dsimp only
   refine Ou.ifT rfl (Ou.ite (fun h=>?_) fun h=>?_)
   ·exact Ou.ret (by omega) ⟨p,false,e',by rw[Int.add_zero];exact On.tgtRE ha hb hr (by simpa using h),rfl⟩
   ·have he:e'=0:=by simpa using h
    subst he
    refine zAN p Y (f-k) (by omega) hY (fun hs=>⟨_,_,_,On.tgtRL ha hb hr hs,rfl⟩) (fun hs=>⟨_,_,_,On.tgtR ha hb hr hs,rfl⟩) (fun h Y' d' e' k' hO=>?_)
    cases hsY:zG Y with
    |true=>have:=(On.tgtR ha hb hr hsY).det hO;omega
    |false=>have:=(On.tgtRL ha hb hr hsY).det hO;omega
theorem zMm{N:ByteArray->Bool}(l:List Ent)(hE:vK N l)(he:∀e∈l,EOk e)(x:Tm)(hs:zG x=true)(f:Int)(hf:0≤f)(hb:∀a∈arT x,HB l a f):Ou (fun L U q=>zPq q (xV l) x L U) er5 (QO l x) (∀Y d e k,On l x Y d e k->f<k) f:=by
 have hB:∀a y k,zG a=true->Br l a y 0 k->zG y=true:=fun a y k h1 h2=>h2.shaped h1 rfl
 have hh:=sL hs
 have hg:=(zK hh).2.2
 have hn:=dP hg
 have ho:OkA (arT x):=fun y hy=>yG (xP hs hy)
 have hl:(arT x).length≤8192:=by
  have h:=zK hs
  have:=sA _ h.2.2
  omega
 refine Ou.succ ?_
 simp only[zPq,J2,S8,iH]
 refine Ou.evt (rJ x hs) (Ou.ite (fun h4=>?_) fun h4=>?_)
 ·have h4':(hdT x).k=4:=by simpa using h4
  have hkk:∀k:Int,k≠0->qA l (hdT x)≠k:=fun k hk e=>by have:=(tC e hk).1;omega
  refine Ou.ite (fun hlen=>?_) fun hlen=>?_
  ·have hlen':((arT x).length:Int)>0:=of_decide_eq_true hlen
   obtain⟨a,b,hab,-,hgb⟩:=vT hg (.inr (.inl h4'))
   have hm:nth (arT x) 0∈arT x:=rQ (by omega) (by omega)
   have hbo:(nth (hdT x).sub 1).Ok:=by rw[hab];exact wF b hgb
   have hact:vW l x = .red (apT (iA (nth (hdT x).sub 1) [nth (arT x) 0]).1 ((arT x).drop 1)) (iA (nth (hdT x).sub 1) [nth (arT x) 0]).2:=by
    unfold vW
    rw[if_pos ⟨h4',by omega⟩]
   refine Ou.pure (uB (by omega) (by rw[hab];simp)) (Ou.pure (uB (by omega) (by show (0:Int)<((arT x).length:Int);omega)) (Ou.evt (zLz _ _ hbo (ho _ hm)) (Ou.pure (uZ (by omega) (by show (1:Int)≤((arT x).length:Int);omega)) (Ou.evt (vA _ _ (by show (List.drop _ (arT x)).length<_;rw[List.length_drop];omega)) ?_))))
   refine Ou.ite (fun h=>Ou.ret hf ⟨_,_,_,On.redE hact (by simpa using h),rfl⟩) fun h=>?_
   have he0:(iA (nth (hdT x).sub 1) [nth (arT x) 0]).2=0:=by simpa using h
   rw[he0]at hact
   exact zAN x _ f hf (uQ _ _ (zAf _ _ hbo (OkA.one (ho _ hm))) (ho.drop _)) (fun hs=>⟨_,_,_,On.redL hact hs,rfl⟩) (fun hs=>⟨_,_,_,On.red hact hs,rfl⟩) (fun h Y' d' e' k' hO=>by have:=hO.red_lt hact rfl;omega)
  ·have hlen':¬((arT x).length:Int)>0:=of_decide_eq_false hlen
   have hact:vW l x = .none:=by
    unfold vW
    rw[if_neg (fun h=>by omega),if_neg (hkk 3 (by decide)),if_neg (hkk 4 (by decide)),if_neg (by omega)]
   refine Ou.evt (iF l _ hn) (Ou.ifF (by simpa using hkk 3 (by decide)) ?_)
   refine Ou.evt (iF l _ hn) (Ou.ifF (by simpa using hkk 4 (by decide)) ?_)
   exact Ou.ifF (by show ((hdT x).k==7)=false;rw[h4'];decide) (Ou.ret hf ⟨_,_,_,On.stop hact,rfl⟩)
 ·have h4':(hdT x).k≠4:=by simpa using h4
  refine Ou.evt (iF l _ hn) (Ou.ite (fun h=>?_) fun h=>?_)
  ·have h3:qA l (hdT x)=3:=by simpa using h
   have hk:=tC h3 (by decide)
   have hact:vW l x = .red (apT (ent l (hdT x).n).body (arT x)) 0:=by
    unfold vW
    rw[if_neg (fun h=>h4' h.1),if_pos h3]
   refine Ou.pure (yF hn hk.2.1) (Ou.evt (vA _ _ (by show (arT x).length<_;omega)) ?_)
   exact zAN x _ f hf (uQ _ _ (he _ (tY hn hk.2.1)).2.1 ho) (fun hs=>⟨_,_,_,On.redL hact hs,rfl⟩) (fun hs=>⟨_,_,_,On.red hact hs,rfl⟩) (fun h Y' d' e' k' hO=>by have:=hO.red_lt hact rfl;omega)
  ·have h3:qA l (hdT x)≠3:=by simpa using h
   refine Ou.evt (iF l _ hn) (Ou.ite (fun h=>?_) fun h=>?_)
   ·exact zDe l x f hf (zIU l hE x hs f hf h4' (by simpa using h) hb hB)
   ·have h4k:qA l (hdT x)≠4:=by simpa using h
    refine Ou.ite (fun h=>zDe l x f hf (zMn l hE x hs f hf (by simpa using h) hb hB)) fun h=>?_
    have h7:(hdT x).k≠7:=by simpa using h
    have hact:vW l x = .none:=by
     unfold vW
     rw[if_neg (fun h=>h4' h.1),if_neg h3,if_neg h4k,if_neg h7]
    exact Ou.ret hf ⟨_,_,_,On.stop hact,rfl⟩
theorem zIV{N:ByteArray->Bool}(l:List Ent)(hE:vK N l)(he:∀e∈l,EOk e):∀(F n:Nat) (x:Tm),zG x=true->x.nodes≤n->Ou (fun L U q=>bK q (xV l) L U x.k x.n x.sub) er4 (fun R k=>∃y e,Br l x y e k∧R=fun L U=>(y,e,L,U)) (∀y e k,Br l x y e k->(F:Int)<k) (F:Int):=by
 intro F
 induction F using Nat.strongRecOn with
 |ind F IH=>
  intro n
  induction n with
  |zero=>intro x _ h;have:=xZ x;omega
  |succ n ih=>
   intro x hs hn
   have hg:=(zK hs).2.2
   have hb:∀a∈arT x,HB l a F:=fun a ha=>by
    have:=((zAg x hg).2.2.2.2 a ha).2.1
    refine Ou.succ ?_
    simp only[zDg]
    exact ih a (xP hs ha) (by omega)
   refine Ou.succ ?_
   simp only[bK,uI]
   refine Ou.bind (zMm l hE he x hs F (by omega) hb) (fun h y e k hbr=>by obtain⟨Y,d,e1,k1,h1,h2⟩:=hbr.first;have:=h _ _ _ _ h1;omega) (fun r hr=>?_) ?_
   ·have hr':(r.2.2.1 != 0)=true:=by rw[show r.2.2.1=8 from hr];decide
    cases hd:r.2.1 with
    |true=>exact⟨_,Evt.ifT rfl (Evt.ifT hr' Evt.ret),hr⟩
    |false=>exact⟨_,Evt.ifF rfl (Evt.ifT hr' Evt.ret),hr⟩
   ·rintro R k k0 k1 ⟨Y,d,e,hO,rfl⟩
    dsimp only
    by_cases e0:e=0
    ·subst e0
     cases d with
     |true=>
      obtain⟨hY,hk1,hst⟩:=hO.step
      refine Ou.ifT rfl (Ou.ifF rfl ?_)
      have:=IH ((F:Int)-k).toNat (by omega) Y.nodes Y hY (Nat.le_refl _)
      rw[show ((((F:Int)-k).toNat:Nat):Int)=F-k by omega]at this
      refine this.mono ?_ fun h y e k' hbr=>?_
      ·rintro R n _ _ ⟨y,e,hbr,rfl⟩
       exact⟨y,e,hst y e n hbr,rfl⟩
      ·obtain⟨k2,h2,h3⟩:=hbr.after hO
       have:=h _ _ _ h2
       omega
     |false=>
      obtain⟨rfl,hbr⟩:=hO.still
      exact Ou.ifF rfl (Ou.ifF rfl (Ou.ret (by omega) ⟨Y,0,by rwa[Int.add_zero],rfl⟩))
    ·have hb:=hO.err e0
     have hr':(e != 0)=true:=by simpa using e0
     cases d with
     |true=>exact Ou.ifT rfl (Ou.ifT hr' (Ou.ret (by omega) ⟨zT,e,by rwa[Int.add_zero],rfl⟩))
     |false=>exact Ou.ifF rfl (Ou.ifT hr' (Ou.ret (by omega) ⟨zT,e,by rwa[Int.add_zero],rfl⟩))
theorem zRV{N:ByteArray->Bool}(l:List Ent)(hE:vK N l)(he:∀e∈l,EOk e)(x:Tm)(hs:zG x=true)(f:Int)(hf:0≤f):HB l x f:=by
 refine Ou.succ ?_
 simp only[zDg]
 have:=zIV l hE he f.toNat x.nodes x hs (Nat.le_refl _)
 rwa[show ((f.toNat:Nat):Int)=f by omega]at this
def xF(l:List Ent)(x:Tm):Prop:=oT x 1048577 l.length=true
instance (l:List Ent) (x:Tm):Decidable (xF l x):=inferInstanceAs (Decidable (_=true))
theorem xF.shaped{l:List Ent}{x:Tm}(h:xF l x):zG x=true:=by
 unfold xF oT at h
 simp only[Bool.and_eq_true]at h
 exact h.1.1
def QBR(l:List Ent)(x:Tm)(R:Int->Int->Tm×Int×Int×Int)(k:Int):Prop:=
 (¬xF l x∧k=0∧R=fun L U=>(zT,5,L,U))∨(xF l x∧∃y e,Br l x y e k∧R=fun L U=>(if e=0 then y else zT,e,L,U))
theorem m4{N:ByteArray->Bool}(l:List Ent)(hE:vK N l)(he:∀e∈l,EOk e)(x:Tm)(ho:x.Ok)(f:Int)(hf:0≤f):Ou (fun L U q=>zDf q (xV l) x L U) er4 (QBR l x) (xF l x∧∀y e k,Br l x y e k->f<k) f:=by
 simp only[zDf,zRU,J2]
 refine Ou.evt (a:=oT x 1048577 l.length) ((oV x _ _ ho).bind Evt.ret) (Ou.ite (fun h=>?_) fun h=>?_)
 ·have hR:xF l x:=h
  refine Ou.bind (zRV l hE he x hR.shaped f hf) (fun h=>⟨hR,h⟩) (fun r hr=>⟨_,Evt.ifT (by show (r.2.1 != 0)=true;rw[show r.2.1=8 from hr];decide) Evt.ret,hr⟩) ?_
  rintro R k k0 k1 ⟨y,e,hbr,rfl⟩
  dsimp only
  by_cases e0:e=0
  ·subst e0
   have hy:=hbr.shaped hR.shaped rfl
   refine Ou.ifF rfl (Ou.evt (a:=y) ((pW y (yG hy)).eq (by unfold mT;rw[if_pos hy])) (Ou.ret (by omega) (.inr ⟨hR,y,0,by rwa[Int.add_zero],rfl⟩)))
  ·refine Ou.ifT (by simpa using e0) (Ou.ret (by omega) (.inr ⟨hR,y,e,by rwa[Int.add_zero],?_⟩))
   rw[if_neg e0];rfl
 ·exact Ou.ret hf (.inl ⟨by unfold xF;rw[h];simp,rfl,rfl⟩)
theorem zHz{N:ByteArray->Bool}{l:List Ent}(hE:vK N l){x a:Tm}(hs:zG x=true)(h:vW l x = .tgt a):a∈arT x∧(qA l (hdT x)=4∨((hdT x).k=7∧isT l (hdT x).n 1=true∧xR (ent l (hdT x).n)≤(arT x).length)):=by
 have hn:=dP (zK (sL hs)).2.2
 unfold vW at h
 by_cases h1:(hdT x).k=4∧0<(arT x).length
 ·rw[if_pos h1]at h;cases h
 ·rw[if_neg h1]at h
  by_cases h2:qA l (hdT x)=3
  ·rw[if_pos h2]at h;cases h
  ·rw[if_neg h2]at h
   by_cases h3:qA l (hdT x)=4
   ·rw[if_pos h3]at h
    split at h
    ·cases h
    ·injection h with h
     have hk:=tC h3 (by decide)
     have hp:=(xQ (hE.2 _ hn hk.2.1)).2.2.2.1 hk.2.2
     unfold D3 at hp
     simp only[Bool.and_eq_true]at hp
     have hw:=sP hp.1
     have hfam:=wI ((xQ (hE.2 _ hw.1 (by omega))).2.1 hw.2.2.1)
     rw[←h]
     exact⟨rQ (by omega) (by omega),.inl h3⟩
   ·rw[if_neg h3]at h
    by_cases h4:(hdT x).k=7
    ·rw[if_pos h4]at h
     split at h
     ·rename_i h5
      injection h with h
      have hi:=wU h5.1
      have hfam:=wI ((xQ (hE.2 _ hi.1 hi.2.1)).2.1 hi.2.2)
      have h6:=h5.2
      unfold xR at h6 h
      rw[if_pos hi.2.2]at h6 h
      rw[←h]
      exact⟨rQ (by omega) (by omega),.inr ⟨h4,h5⟩⟩
     ·cases h
    ·rw[if_neg h4]at h;cases h
def dQ:Nat->(List Tm)->Int->Option (Int)
 |0,_,_=>none
 |qq+1,v3,v4=>
 if decide ((List.length v3:Int)>0)then
 if decide (v4≤8192)then
 zL v3 (w64 ((List.length v3:Int)-1))>>=fun x3=>
 gsl v3 0 (w64 ((List.length v3:Int)-1))>>=fun x5=>
 yR 40 ([]:List Tm) x5>>=fun l7=>
 gsl x3.sub 0 (zQO (List.length x3.sub:Int) 8193)>>=fun x10=>
 yR 40 l7 x10>>=fun l12=>
 dQ qq l12 (w64 (v4+1))
 else
 some v4
 else
 some v4
def e12(qq:Nat)(p0:Tm):Option (Int):=
 dQ qq [p0] 0
theorem zRW:∀qq:Nat,∀v3 v4,Lz (dQ qq v3 v4) 0 Tryz.f12 (inn (inn (lft (rgt (rgt (rgt (bod Tryz.f12))))))) (fun j=>sp j 39 0 [(3,slv zA v3 .full),(4,ai v4)]) ⟨[],0,[],0,[]⟩ (fun r=>ai r) (fun _=>[]) 0 [.blk 0,.seq (rgt (rgt (rgt (rgt (bod Tryz.f12)))))]∧Lz (dQ qq v3 v4) 0 Tryz.f12 (inn (inn (lft (rgt (rgt (rgt (bod Tryz.f12))))))) (fun j=>sp j 39 0 [(3,slv zA v3 (.st 0 3)),(4,ai v4)]) ⟨[],0,[0],1,[]⟩ (fun r=>ai r) (fun _=>[]) 0 [.blk 0,.seq (rgt (rgt (rgt (rgt (bod Tryz.f12)))))]:=yW (fun _ _=>⟨lN,lN⟩) fun qq ih=>fun v3 v4=>⟨lw fun _=>rB 1 (rB 0 (rA 2 (yM (o:=.full)) fun _=>rW (fun h6=>oF 5 (zGa (o:=.full) h6)) fun x5=>rH fun _ h8=>rZ (List.length x5=0) (fun h9=>rS (oP 0 (sJ h8 h9))<|rA 4 tR fun x10=>rH fun _ h13=>rZ (List.length x10=0) (fun h14=>rS (oP 0 (sJ h13 h14))<|lH 1 [] [] [] [3,4] ((ih _ _).1)) fun h14=>rS (oP 0 (xU h13 h14))<|lH 1 [] [] [0] [3,4] ((ih _ _).2)) fun h9=>rS (oP 0 (xU h8 h9))<|rA 4 tR fun x10=>rH fun _ h13=>rZ (List.length x10=0) (fun h14=>rS (oP 0 (sJ h13 h14))<|lH 1 [] [] [0] [3,4] ((ih _ _).2)) fun h14=>rS (oP 0 (xU h13 h14))<|lH 1 [] [] [1] [3,4] ((ih _ _).2))<|lE 0)<|lE 0,lw fun _=>rB 1 (rB 0 (rA 2 (yM (o:=(.st 0 3))) fun _=>rW (fun h6=>oF 5 (zGa (o:=(.st 0 3)) h6)) fun x5=>rH fun _ h8=>rZ (List.length x5=0) (fun h9=>rS (oP 0 (sJ h8 h9))<|rA 4 tR fun x10=>rH fun _ h13=>rZ (List.length x10=0) (fun h14=>rS (oP 0 (sJ h13 h14))<|lH 1 [] [] [] [3,4] ((ih _ _).1)) fun h14=>rS (oP 0 (xU h13 h14))<|lH 1 [] [] [1] [3,4] ((ih _ _).2)) fun h9=>rS (oP 0 (xU h8 h9))<|rA 4 tR fun x10=>rH fun _ h13=>rZ (List.length x10=0) (fun h14=>rS (oP 0 (sJ h13 h14))<|lH 1 [] [] [1] [3,4] ((ih _ _).2)) fun h14=>rS (oP 0 (xU h13 h14))<|lH 1 [] [] [2] [3,4] ((ih _ _).2))<|lE 0)<|lE 0⟩
theorem c12{qq p0}:Cz (e12 qq p0) 12 [] [tmA p0] (fun r=>ai r) (fun _=>[]) 0:=fw Tryz.func12<|rS (oS 1 (yV xH [p0]))<|fH 0 [] [] [] [3,4] ((zRW _ _ _).1)
theorem nE:∀a b:List Tm,yN (a++b)=yN a+yN b
 | [],b=>by simp[yN]
 |t::a,b=>by simp only[List.cons_append,yN,nE a b];omega
theorem qM:∀l:List Tm,l.length≤yN l
 | []=>by simp[yN]
 |t::l=>by rw[yN];have:=qM l;have:=xZ t;simp;omega
theorem fN(t:Tm):t.nodes=1+yN t.sub:=by cases t;rw[Tm.nodes,Tm.sub]
theorem zMl{α:Type}{l:List α}{a b:Nat}(h1:a≤b)(h2:b≤l.length):gsl l (a:Int) (b:Int)=some ((l.drop a).take (b-a)):=by
 unfold gsl
 rw[if_pos (by omega),show ((b:Int)-(a:Int)).toNat=b-a by omega,show (a:Int).toNat=a by omega]
theorem zIW{α:Type}(l:List α)(x:α):zL (l++[x]) (l.length:Int)=some x:=by
 unfold zL
 rw[if_pos (by omega)];simp
theorem zIX:∀(m h:Nat) (todo:List Tm),h+m=8193->todo.length≤1+h*8193->Evt (fun q=>dQ q todo (h:Int)) ((min (h+yN todo) 8193:Nat):Int):=by
 intro m
 induction m with
 |zero=>
  intro h todo hm hl
  refine Evt.succ ?_
  simp only[dQ]
  have:h=8193:=by omega
  subst this
  rcases todo with _|⟨x,todo⟩
  ·exact Evt.ifF (by simp) (Evt.ret.eq (by simp))
  ·refine Evt.ifT (by simp<;>omega) (Evt.ifF (by simp) (Evt.ret.eq ?_))
   have:min (8193+yN (x::todo)) 8193=8193:=by omega
   rw[this]
 |succ m ih=>
  intro h todo hm hl
  refine Evt.succ ?_
  simp only[dQ]
  rcases List.eq_nil_or_concat todo with rfl|⟨ini,x,rfl⟩
  ·refine Evt.ifF (by simp) (Evt.ret.eq ?_)
   have:min (h+yN []) 8193=h:=by rw[yN];omega
   rw[this]
  ·simp only[List.concat_eq_append]at hl ⊢
   have hlen:(ini++[x]).length=ini.length+1:=by simp
   have hb:h*8193≤8192*8193:=Nat.mul_le_mul_right _ (by omega)
   have e1:w64 (((ini++[x]).length:Int)-1)=(ini.length:Int):=by rw[zV (by omega) (by omega),hlen];omega
   refine Evt.ifT (by simp<;>omega) (Evt.ifT (by simp<;>omega) ?_)
   rw[e1]
   refine Evt.pure (zIW ini x) ?_
   have e2:gsl (ini++[x]) 0 (ini.length:Int)=some ini:=by
    have:=zMl (l:=ini++[x]) (a:=0) (b:=ini.length) (by omega) (by omega)
    simpa using this
   refine Evt.pure e2 (Evt.pure (zZ (by simp<;>omega)) ?_)
   have e3:zQO (x.sub.length:Int) 8193=((min x.sub.length 8193:Nat):Int):=by unfold zQO;split<;>omega
   rw[e3]
   have e4:=zMl (l:=x.sub) (a:=0) (b:=min x.sub.length 8193) (by omega) (by omega)
   refine Evt.pure (by simpa using e4) (Evt.pure (zZ (by simp<;>omega)) ?_)
   rw[zU h (by omega)]
   refine(ih (h+1) _ (by omega) (by simp<;>omega)).eq ?_
   have hn:=fN x
   simp only[List.nil_append,nE,yN,Nat.add_zero]
   by_cases hs:x.sub.length≤8193
   ·rw[show min x.sub.length 8193=x.sub.length by omega,List.take_length]
    omega
   ·have h1:=qM (x.sub.take (min x.sub.length 8193))
    have h2:=qM x.sub
    simp only[List.length_take]at h1
    omega
theorem zMk(t:Tm):Evt (fun q=>e12 q t) ((min t.nodes 8193:Nat):Int):=by
 simp only[e12]
 refine(zIX 8193 0 [t] (by omega) (by simp)).eq ?_
 simp[yN]
def zHy(qq:Nat)(q0 q1 p1:Int):Option (Int):=
 some p1
theorem zPo{qq q0 q1 p1}:Cz (zHy qq q0 q1 p1) 46 [.cells [ai q0,ai q1]] [.mp 0 0,ai p1] (fun _=>.tup []) (fun r=>[.cells [ai r,ai q1]]) 0:=fw Tryz.func46<|fE 1
def e20(qq:Nat)(p0:Int):Option ((Int) ⊕ (Int×Int×Int)):=
 if decide (p0<0)then
 some (Sum.inl 5)
 else
 if decide (p0>1048576)then
 some (Sum.inl 5)
 else
 zHy qq 0 0 p0>>=fun r3=>
 some (Sum.inr (0,r3,0))
theorem c20{qq p0}:Cz (e20 qq p0) 20 [] [ai p0] (Sum.elim (fun x=>.tup [.val (.pointer none),ai x]) (fun x=>.tup [.mp 0 0,ai x.1])) (Sum.elim (fun _=>[]) (fun x=>[.cells [ai x.2.1,ai x.2.2]])) 0:=fw Tryz.func20<|rB 0 (fE 0)<|rB 0 (fE 0)<|rC 0 [0] zPo fun _=>fF 0 [0]
mutual
def e63:Nat->Tm->Tm->Option (Bool)
 |0,_,_=>none
 |qq+1,p0,p1=>
 if p0.k != p1.k then
 some false
 else
 if p0.n != p1.n then
 some false
 else
 if (List.length p0.sub:Int) != (List.length p1.sub:Int)then
 some false
 else
 aX qq p0 p1 0
def aX:Nat->Tm->Tm->Int->Option (Bool)
 |0,_,_,_=>none
 |qq+1,p0,p1,v5=>
 if decide (v5<(List.length p0.sub:Int))then
 zL p0.sub v5>>=fun x5=>
 zL p1.sub v5>>=fun x7=>
 e63 qq x5 x7>>=fun r9=>
 if r9 then
 aX qq p0 p1 (w64 (v5+1))
 else
 some false
 else
 some true
end
theorem zIY:∀qq:Nat,(∀p0 p1,Cz (e63 qq p0 p1) 63 [] [tmA p0,tmA p1] (fun r=>ab r) (fun _=>[]) 0)∧(∀p0 p1 v5,Lz (aX qq p0 p1 v5) 0 Tryz.f63 (inn (inn (rgt (lft (rgt (rgt (bod Tryz.f63))))))) (fun j=>sp j 46 0 [(2,.mp 0 0),(3,.mp 1 0),(5,ai v5)]) ⟨[(0,.cells [ai p0.k,ai p0.n,slv zA p0.sub .no]),(1,.cells [ai p1.k,ai p1.n,slv zA p1.sub .no])],2,[],0,[]⟩ (fun r=>ab r) (fun _=>[]) 0 [.blk 0,.seq (rgt (rgt (rgt (bod Tryz.f63))))]):=yW ⟨fun _ _=>cN,fun _ _ _=>lN⟩ fun qq ih=>⟨fun p0 p1=>fw Tryz.func63<|rB 2 (fE 0)<|rB 2 (fE 0)<|rB 4 (fE 0)<|fH 0 [] [0,1] [] [2,3,5] (ih.2 _ _ _),
 fun p0 p1 v5=>lw fun _=>rB 2 (rA 1 (yM (o:=.no)) fun _=>rA 2 (yM (o:=.no)) fun _=>rK 1 [] (ih.1 _ _) (fun _=>lH 2 [] [0,1] [] [2,3,5] (ih.2 _ _ _)) fun _=>lE 1)<|lE 0⟩
theorem c63{qq p0 p1}:Cz (e63 qq p0 p1) 63 [] [tmA p0,tmA p1] (fun r=>ab r) (fun _=>[]) 0:=(zIY _).1 _ _
mutual
theorem m5:∀(t:Tm),t.Ok->Evt (fun q=>e63 q t t) true
 | .mk k n l,ho=>by
  rw[Tm.Ok]at ho
  refine Evt.succ ?_
  simp only[e63]
  exact Evt.ifF (by simp) (Evt.ifF (by simp) (Evt.ifF (by simp) (T3 l (.mk k n l) 0 rfl ho.1 ho.2)))
theorem T3:∀(l:List Tm) (p:Tm) (v:Nat),p.sub.drop v=l->p.sub.length<9223372036854775808->OkL l->Evt (fun q=>aX q p p (v:Int)) true
 | [],p,v,hd,hl,ho=>by
  refine Evt.succ ?_
  simp only[aX]
  exact Evt.ifF (zX hd) Evt.ret
 |t::l,p,v,hd,hl,ho=>by
  have hlt:=yC hd
  rw[OkL]at ho
  refine Evt.succ ?_
  simp only[aX]
  refine Evt.ifT (zW hd) (Evt.pure (zS hd) (Evt.pure (zS hd) ((m5 t ho.1).bind (Evt.ifT rfl ?_))))
  rw[zU v (by omega)]
  exact T3 l p (v+1) (zQ hd) hl ho.2
end
theorem zPn(f:Int)(h0:0≤f)(h1:f≤1048576):Evt (fun q=>e20 q f) (.inr (0,f,0)):=by
 simp only[e20]
 exact Evt.ifF (decide_eq_false (by omega)) (Evt.ifF (decide_eq_false (by omega)) (Evt.bind (a:=f) (Evt.mk fun _=>rfl) Evt.ret))
mutual
theorem zHx:∀(t:Tm) (b:Int),xS t=true->0≤b->W8 t b≤1048577
 | .mk k n l,b,hg,hb=>by
  have hh:=wQ hg
  have hn:=lX hh.1
  rw[W8]
  split
  ·omega
  ·exact zHw l k 0 b hh.2 hb
theorem zHw:∀(l:List Tm) (k:Int) (i:Nat) (b:Int),pN l=true->0≤b->M8 l k i b≤1048577
 | [],k,i,b,_,_=>by rw[M8];omega
 |t::l,k,i,b,hg,hb=>by
  have hc:=wP hg
  have hu:=zGG k i
  have h1:=zHx t (b+W7 k i) hc.1 (by omega)
  have h2:=zHw l k (i+1) b hc.2 hb
  rw[M8];omega
end
theorem dS{l:List Ent}{t:Tm}:xF l t↔zG t=true∧zFo (fun k n=>k=6∨k=7->n<l.length) t:=by
 unfold xF oT
 rw[←zDr (Q:=fun n=>n<(l.length:Int)) (by decide) (by decide) t]
 simp only[Bool.and_eq_true,decide_eq_true_eq,List.all_eq_true]
 constructor
 ·rintro ⟨⟨h1,-⟩,h2⟩;exact⟨h1,h2⟩
 ·rintro ⟨h1,h2⟩;exact⟨⟨h1,zHx t 0 (zK h1).2.2 (by omega)⟩,h2⟩
theorem dU{t x:Tm}(h:zG t=true)(hx:x∈t.sub):zG x=true:=by
 obtain⟨k,n,l⟩:=t
 have hs:=zK h
 have hg:=(wQ hs.2.2).2
 rw[Tm.nodes,Tm.high]at hs
 have key:∀l:List Tm,pN l=true->∀x∈l,xS x=true∧x.nodes≤yN l∧x.high≤rY l:=by
  intro l
  induction l with
  |nil=>intro _ x hx;cases hx
  |cons a l ih=>
   intro hg x hx
   have hc:=wP hg
   rw[yN,rY]
   rcases List.mem_cons.1 hx with rfl|hx
   ·exact⟨hc.1,by omega,by omega⟩
   ·have:=ih hc.2 x hx;exact⟨this.1,by omega,by omega⟩
 have:=key l hg x hx
 exact oY (by omega) (by omega) this.1
theorem Br.e8{N:ByteArray->Bool}{l:List Ent}(hE:vK N l){x y:Tm}{e k:Int}(h:Br l x y e k):zG x=true->e≠8:=by
 induction h with
 |stop _=>exact fun _=>by decide
 | @redE x Y e a h=>
  intro hs
  unfold vW at a
  split at a
  ·injection a with h1 h2
   rw[←h2];exact zAE _ _
  ·split at a
   ·injection a with h1 h2
    rw[←h2];decide
   ·split at a
    ·split at a<;>cases a
    ·split at a
     ·split at a<;>cases a
     ·cases a
 |redL _ _=>exact fun _=>by decide
 |red _ hY _ ih=>exact fun _=>ih hY
 |tgtE a _ _ ih=>exact fun hs=>ih (xP hs (zHz hE hs a).1)
 |tgtN _ _ _ _=>exact fun _=>by decide
 | @tgtRE x a z Y e k ha hb hr he ih=>
  intro hs
  have hm:=(zHz hE hs ha).1
  have hz:=hb.shaped (xP hs hm) rfl
  have hox:OkA (arT x):=fun z hz=>yG (xP hs hz)
  have hoy:OkA (arT z):=fun w hw=>yG (xP hz hw)
  have hlx:(arT x).length≤8192:=by
   have h:=zK hs
   have:=sA _ h.2.2
   omega
  have hly:(arT z).length≤8192:=by
   have h:=zK hz
   have:=sA _ h.2.2
   omega
  unfold tD at hr
  split at hr
  ·split at hr
   ·simp only[Option.some.injEq,Prod.mk.injEq]at hr
    rw[←hr.2]
    exact(D7 l (hdT x).n ((arT z).drop (ent l (hdT z).n).pars.toNat) hE (hoy.drop _) (by rw[List.length_drop];omega)).2.2.1
   ·cases hr
  ·split at hr
   ·simp only[Option.some.injEq,Prod.mk.injEq]at hr
    rw[←hr.2]
    exact(S9 l (hdT x).n (nth (hdT x).sub 0).n (hdT z).n ((arT x).take ((ent l (hdT x).n).pars+1+(ent l (hdT x).n).cons.length).toNat) ((arT z).drop (ent l (hdT x).n).pars.toNat) hE (hox.take _) (hoy.drop _) (by rw[List.length_take];omega) (by rw[List.length_drop];omega)).2.2.1
   ·cases hr
 |tgtRL _ _ _ _ _=>exact fun _=>by decide
 |tgtR a b c hY _ ih ih2=>exact fun _=>ih2 hY
theorem Br.zero{l:List Ent}{x y:Tm}{e k:Int}(h:Br l x y e k):e=0->k≤0->y=x:=by
 cases h with
 |stop _=>exact fun _ _=>rfl
 |redE _ h=>exact fun he=>absurd he h
 |redL _ _=>exact fun he=>absurd he (by decide)
 |red _ _ h=>exact fun _ hk=>by have:=h.nn;omega
 |tgtE _ _ h=>exact fun he=>absurd he h
 |tgtN _ _ _=>exact fun _ _=>rfl
 |tgtRE _ _ _ h=>exact fun he=>absurd he h
 |tgtRL _ _ _ _=>exact fun he=>absurd he (by decide)
 |tgtR _ h1 _ _ h2=>exact fun _ hk=>by have:=h1.nn;have:=h2.nn;omega
theorem Ou.evt0{ρ:Type}{f:Int->Int->Nat->Option ρ}{er:ρ->Int}{Q:(Int->Int->ρ)->Int->Prop}{S:Prop}{l:Int}{R:Int->Int->ρ}(h:∀L U,Evt (f L U) (R L U))(h0:0≤l)(k:Q R 0):Ou f er Q S l:=
 .inl ⟨R,0,by omega,h0,k,fun L U _ _ _=>by rw[show L-0=L by omega,show U+0=U by omega];exact h L U,fun L U _ _=>by omega⟩
abbrev PE:=(Tm×Int)×(Tm×Int)
def uR(t:Tm):Tm×Int:=
 if t.k=4 then(nth t.sub 1,0)else
  (.mk 5 0 [(vE t 1 0).1,.mk 1 0 []],if (vE t 1 0).2=0 then(if zG (.mk 5 0 [(vE t 1 0).1,.mk 1 0 []])=true then 0 else 2)else(vE t 1 0).2)
def xW(l:List Ent)(c:Int):List Int:=(ent l (ent l c).fam).fields
def vB(l:List Ent)(t:Tm):Prop:=iG l t∧xW l (hdT t).n≠[]
instance (l:List Ent) (t:Tm):Decidable (vB l t):=inferInstanceAs (Decidable (_∧_))
def uC(l:List Ent)(t:Tm)(c:Int)(i:Nat)(pars:List Tm):Tm×Int:=
 if vB l t∧(hdT t).n=c then(nth (arT t) ((pars.length+i:Nat):Int),0)else
  (.mk 5 0 [apT (.mk 6 (((xW l c)[i]?).getD (-1)) []) pars,t],if zG (.mk 5 0 [apT (.mk 6 (((xW l c)[i]?).getD (-1)) []) pars,t])=true then 0 else 2)
def rT(l:List Ent)(t:Tm):List Tm:=(arT t).take (ent l (hdT t).n).pars.toNat
def F5(l:List Ent)(x y:Tm)(c:Int)(pars:List Tm):Nat->Nat->List PE
 |0,_=>[]
 |m+1,i=>(uC l x c i pars,uC l y c i pars)::F5 l x y c pars m (i+1)
def zDd:List Tm->List Tm->List PE
 |a::l,b::m=>((a,0),(b,0))::zDd l m
 |_,_=>[]
def zPm(x y:Tm):List PE:=(if (hdT x).k=3 then [((nth (hdT x).sub 0,0),(nth (hdT y).sub 0,0)),((nth (hdT x).sub 1,0),(nth (hdT y).sub 1,0))]else [])++zDd (arT x) (arT y)
inductive Hd where
 |ans (b:Bool)
 |all (ps:List PE)
 |pi (a b c d:Tm)
def jA(x y:Tm):Hd:=
 if (hdT x).k≠(hdT y).k∨(hdT x).n≠(hdT y).n∨(arT x).length≠(arT y).length∨((hdT x).k=7∧(nth (hdT x).sub 0).n≠(nth (hdT y).sub 0).n)then .ans false else .all (zPm x y)
def wC(l:List Ent)(m:Bool)(x y:Tm):Hd:=
 if x.k=4∨y.k=4 then .all [(uR x,uR y)]
 else if vB l x then(if vB l y∧(hdT x).n≠(hdT y).n then .ans false else .all (F5 l x y (hdT x).n (rT l x) (xW l (hdT x).n).length 0))
 else if vB l y then .all (F5 l x y (hdT y).n (rT l y) (xW l (hdT y).n).length 0)
 else if x.k≠y.k then .ans false
 else if x.k=3 then .pi (nth x.sub 0) (nth y.sub 0) (nth x.sub 1) (nth y.sub 1)
 else if x.k=2 then .ans (if m=true then decide (x.n≤y.n)else x.n==y.n)
 else jA x y
def vM(C:Tm->Tm->Bool->Int->Prop):List PE->Bool->Int->Prop
 | [],b,k=>b=true∧k=0
 |p::r,b,k=>p.1.2=0∧p.2.2=0∧∃b1 k1,C p.1.1 p.2.1 b1 k1∧((b1=false∧b=false∧k=k1)∨(b1=true∧∃k2,vM C r b k2∧k=k1+k2))
def HdR(C:Bool->Tm->Tm->Bool->Int->Prop)(m:Bool):Hd->Bool->Int->Prop
 | .ans b0,b,k=>b=b0∧k=0
 | .all ps,b,k=>vM (C false) ps b k
 | .pi a a' c c',b,k=>∃b1 k1,C false a a' b1 k1∧((b1=false∧b=false∧k=k1)∨(b1=true∧∃k2,C m c c' b k2∧k=k1+k2))
def CvN(l:List Ent):Nat->Bool->Tm->Tm->Bool->Int->Prop
 |0,_,_,_,_,_=>False
 |n+1,m,x,y,b,k=>xF l x∧xF l y∧∃x' k1 y' k2 k3,Br l x x' 0 k1∧Br l y y' 0 k2∧HdR (CvN l n) m (wC l m x' y') b k3∧k=k1+k2+k3
def Cv(l:List Ent)(m:Bool)(x y:Tm)(b:Bool)(k:Int):Prop:=∃n,CvN l n m x y b k
section
variable {C C':Tm->Tm->Bool->Int->Prop}
theorem vM.mono(h:∀x y b k,C x y b k->C' x y b k):∀ {ps:List PE} {b:Bool} {k:Int},vM C ps b k->vM C' ps b k
 | [],_,_,a=>a
 |_::_,_,_,⟨a,b,b1,k1,c,d⟩=>⟨a,b,b1,k1,h _ _ _ _ c,d.imp id fun⟨e,k2,f,g⟩=>⟨e,k2,vM.mono h f,g⟩⟩
theorem vM.nn(h:∀x y b k,C x y b k->0≤k):∀ {ps:List PE} {b:Bool} {k:Int},vM C ps b k->0≤k
 | [],_,_,⟨_,a⟩=>by omega
 |_::_,_,_,⟨_,_,b1,k1,c,d⟩=>by
  have:=h _ _ _ _ c
  rcases d with⟨_,_,d⟩|⟨_,k2,d,e⟩
  ·omega
  ·have:=vM.nn h d;omega
theorem vM.det(h:∀x y b k b' k',C x y b k->C' x y b' k'->b'=b∧k'=k):∀ {ps:List PE} {b b':Bool} {k k':Int},vM C ps b k->vM C' ps b' k'->b'=b∧k'=k
 | [],_,_,_,_,⟨a,b⟩,⟨c,d⟩=>by subst a;subst c;exact⟨rfl,by omega⟩
 |_::_,_,_,_,_,⟨_,_,b1,k1,c,d⟩,⟨_,_,b1',k1',c',d'⟩=>by
  obtain⟨rfl,rfl⟩:=h _ _ _ _ _ _ c c'
  rcases d with⟨d1,d2,d3⟩|⟨d1,k2,d2,d3⟩
  ·rcases d' with⟨_,e2,e3⟩|⟨e1,_⟩
   ·subst d2;subst e2;exact⟨rfl,by omega⟩
   ·rw[d1]at e1;cases e1
  ·rcases d' with⟨e1,_⟩|⟨_,k2',e2,e3⟩
   ·rw[d1]at e1;cases e1
   ·obtain⟨rfl,rfl⟩:=vM.det h d2 e2;exact⟨rfl,by omega⟩
end
section
variable {C C':Bool->Tm->Tm->Bool->Int->Prop} {m:Bool}
theorem HdR.mono(h:∀m x y b k,C m x y b k->C' m x y b k):∀ {q:Hd} {b:Bool} {k:Int},HdR C m q b k->HdR C' m q b k
 | .ans _,_,_,a=>a
 | .all _,_,_,a=>vM.mono (h false) a
 | .pi _ _ _ _,_,_,⟨b1,k1,c,d⟩=>⟨b1,k1,h _ _ _ _ _ c,d.imp id fun⟨e,k2,f,g⟩=>⟨e,k2,h _ _ _ _ _ f,g⟩⟩
theorem HdR.nn(h:∀m x y b k,C m x y b k->0≤k):∀ {q:Hd} {b:Bool} {k:Int},HdR C m q b k->0≤k
 | .ans _,_,_,⟨_,a⟩=>by omega
 | .all _,_,_,a=>vM.nn (h false) a
 | .pi _ _ _ _,_,_,⟨b1,k1,c,d⟩=>by
  have:=h _ _ _ _ _ c
  rcases d with⟨_,_,d⟩|⟨_,k2,d,e⟩
  ·omega
  ·have:=h _ _ _ _ _ d;omega
theorem HdR.det(h:∀m x y b k b' k',C m x y b k->C' m x y b' k'->b'=b∧k'=k):∀ {q:Hd} {b b':Bool} {k k':Int},HdR C m q b k->HdR C' m q b' k'->b'=b∧k'=k
 | .ans _,_,_,_,_,⟨a,b⟩,⟨c,d⟩=>by subst a;subst c;exact⟨rfl,by omega⟩
 | .all _,_,_,_,_,a,b=>vM.det (h false) a b
 | .pi _ _ _ _,_,_,_,_,⟨b1,k1,c,d⟩,⟨b1',k1',c',d'⟩=>by
  obtain⟨rfl,rfl⟩:=h _ _ _ _ _ _ _ c c'
  rcases d with⟨d1,d2,d3⟩|⟨d1,k2,d2,d3⟩
  ·rcases d' with⟨_,e2,e3⟩|⟨e1,_⟩
   ·subst d2;subst e2;exact⟨rfl,by omega⟩
   ·rw[d1]at e1;cases e1
  ·rcases d' with⟨e1,_⟩|⟨_,k2',e2,e3⟩
   ·rw[d1]at e1;cases e1
   ·obtain⟨rfl,rfl⟩:=h _ _ _ _ _ _ _ d2 e2;exact⟨rfl,by omega⟩
end
theorem CvN.mono{l:List Ent}:∀ {n:Nat} {m:Bool} {x y:Tm} {b:Bool} {k:Int},CvN l n m x y b k->CvN l (n+1) m x y b k
 |0,_,_,_,_,_,h=>h.elim
 |n+1,m,x,y,b,k,⟨r1,r2,x',k1,y',k2,k3,h1,h2,h3,h4⟩=>⟨r1,r2,x',k1,y',k2,k3,h1,h2,h3.mono (fun _ _ _ _ _ h=>CvN.mono h),h4⟩
theorem CvN.le{l:List Ent}{n n':Nat}{m:Bool}{x y:Tm}{b:Bool}{k:Int}(h:CvN l n m x y b k)(hm:n≤n'):CvN l n' m x y b k:=by
 induction hm with
 |refl=>exact h
 |step _ ih=>exact ih.mono
theorem CvN.nn{l:List Ent}:∀ {n:Nat} {m:Bool} {x y:Tm} {b:Bool} {k:Int},CvN l n m x y b k->0≤k
 |0,_,_,_,_,_,h=>h.elim
 |n+1,m,x,y,b,k,⟨r1,r2,x',k1,y',k2,k3,h1,h2,h3,h4⟩=>by
  have:=h1.nn
  have:=h2.nn
  have:=h3.nn (fun _ _ _ _ _ h=>CvN.nn h)
  omega
theorem CvN.det{l:List Ent}:∀ {n n':Nat} {m:Bool} {x y:Tm} {b b':Bool} {k k':Int},CvN l n m x y b k->CvN l n' m x y b' k'->b'=b∧k'=k
 |0,_,_,_,_,_,_,_,_,h,_=>h.elim
 |_+1,0,_,_,_,_,_,_,_,_,h=>h.elim
 |n+1,n'+1,m,x,y,b,b',k,k',⟨_,_,x',k1,y',k2,k3,h1,h2,h3,h4⟩,⟨_,_,x1',j1,y1',j2,j3,g1,g2,g3,g4⟩=>by
  obtain⟨rfl,-,rfl⟩:=h1.det g1
  obtain⟨rfl,-,rfl⟩:=h2.det g2
  obtain⟨rfl,rfl⟩:=HdR.det (C:=CvN l n) (C':=CvN l n') (fun _ _ _ _ _ _ _ a b=>CvN.det a b) h3 g3
  exact⟨rfl,by omega⟩
theorem Cv.det{l:List Ent}{m:Bool}{x y:Tm}{b b':Bool}{k k':Int}:Cv l m x y b k->Cv l m x y b' k'->b'=b∧k'=k:=fun⟨_,a⟩ ⟨_,b⟩=>a.det b
theorem Cv.nn{l:List Ent}{m:Bool}{x y:Tm}{b:Bool}{k:Int}:Cv l m x y b k->0≤k:=fun⟨_,a⟩=>a.nn
theorem vM.bound{l:List Ent}:∀ {ps:List PE} {b:Bool} {k:Int},vM (Cv l false) ps b k->∃n,vM (CvN l n false) ps b k
 | [],_,_,a=>⟨0,a⟩
 |_::_,_,_,⟨a,b,b1,k1,⟨n,c⟩,d⟩=>by
  rcases d with d|⟨e,k2,f,g⟩
  ·exact⟨n,a,b,b1,k1,c,.inl d⟩
  ·obtain⟨n',f⟩:=vM.bound f
   exact⟨max n n',a,b,b1,k1,c.le (by omega),.inr ⟨e,k2,f.mono (fun _ _ _ _ h=>h.le (by omega)),g⟩⟩
theorem HdR.bound{l:List Ent}{m:Bool}:∀ {q:Hd} {b:Bool} {k:Int},HdR (Cv l) m q b k->∃n,HdR (CvN l n) m q b k
 | .ans _,_,_,a=>⟨0,a⟩
 | .all _,_,_,a=>vM.bound a
 | .pi _ _ _ _,_,_,⟨b1,k1,⟨n,c⟩,d⟩=>by
  rcases d with d|⟨e,k2,⟨n',f⟩,g⟩
  ·exact⟨n,b1,k1,c,.inl d⟩
  ·exact⟨max n n',b1,k1,c.le (by omega),.inr ⟨e,k2,f.le (by omega),g⟩⟩
theorem Cv.mk{l:List Ent}{m:Bool}{x y x' y':Tm}{b:Bool}{k1 k2 k3:Int}(r1:xF l x)(r2:xF l y)(h1:Br l x x' 0 k1)(h2:Br l y y' 0 k2)(h3:HdR (Cv l) m (wC l m x' y') b k3):Cv l m x y b (k1+k2+k3):=by
 obtain⟨n,h3⟩:=h3.bound
 exact⟨n+1,r1,r2,x',k1,y',k2,k3,h1,h2,h3,rfl⟩
theorem Cv.inv{l:List Ent}{m:Bool}{x y:Tm}{b:Bool}{k:Int}(h:Cv l m x y b k):xF l x∧xF l y∧∃x' k1 y' k2 k3,Br l x x' 0 k1∧Br l y y' 0 k2∧HdR (Cv l) m (wC l m x' y') b k3∧k=k1+k2+k3:=by
 obtain⟨n,h⟩:=h
 cases n with
 |zero=>exact h.elim
 |succ n=>
  obtain⟨r1,r2,x',k1,y',k2,k3,h1,h2,h3,h4⟩:=h
  exact⟨r1,r2,x',k1,y',k2,k3,h1,h2,h3.mono (fun _ _ _ _ _ h=>⟨n,h⟩),h4⟩
def nwT(l:List Ent)(k n:Int):Nat:=if k=4 then 3 else if k=6∧(ent l n).kind=2 then 2 else 1
mutual
def wtT(l:List Ent):Tm->Nat
 | .mk k n s=>nwT l k n+wtL l s
def wtL(l:List Ent):List Tm->Nat
 | []=>0
 |t::s=>wtT l t+wtL l s
end
theorem iJ(l:List Ent)(k n:Int):1≤nwT l k n∧nwT l k n≤3:=by unfold nwT;split<;>(try split)<;>omega
theorem zAO(l:List Ent):∀t:Tm,1≤wtT l t
 | .mk k n s=>by rw[wtT];have:=iJ l k n;omega
theorem zAP(l:List Ent):∀ {s:List Tm} {x:Tm},x∈s->wtT l x≤wtL l s
 |a::s,x,h=>by
  rw[wtL]
  rcases List.mem_cons.1 h with rfl|h
  ·omega
  ·have:=zAP l h;omega
theorem zAQ(l:List Ent):∀a b:List Tm,wtL l (a++b)=wtL l a+wtL l b
 | [],b=>by simp[wtL]
 |t::a,b=>by simp only[List.cons_append,wtL,zAQ l a b];omega
mutual
theorem zQB(l:List Ent):∀(t:Tm) (b c k:Int),wtT l (lfT t b c k)≤wtT l t
 | .mk kd n s,b,c,k=>by
  rw[lfT]
  split
  ·rename_i h
   rw[wtT,wtT,wtL]
   have e:∀m,nwT l 1 m=1:=fun m=>by unfold nwT;simp
   have:=(iJ l kd n).1
   rw[e];omega
  ·rw[wtT,wtT]
   have:=zMj l s kd 0 b c k
   omega
theorem zMj(l:List Ent):∀(s:List Tm) (kd:Int) (i:Nat) (b c k:Int),wtL l (lfL s kd i b c k)≤wtL l s
 | [],_,_,_,_,_=>by rw[lfL];omega
 |t::s,kd,i,b,c,k=>by
  rw[lfL,wtL,wtL]
  have:=zQB l t (tO kd i b) c k
  have:=zMj l s kd (i+1) b c k
  omega
end
theorem zQC(l:List Ent):∀(s:List Tm) (f:Tm),wtT l (apT f s)=wtT l f+wtL l s+s.length
 | [],f=>by rw[apT,wtL];simp
 |a::s,f=>by
  have e:nwT l 5 0=1:=by unfold nwT;simp
  rw[apT,zQC l s,wtT,wtL,wtL,wtL,wtL,e,List.length_cons];omega
theorem T4(l:List Ent):∀t:Tm,xS t=true->wtT l t=wtT l (hdT t)+wtL l (arT t)+(arT t).length:=by
 refine I7 ?_ ?_
 ·intro t hg hk
  rw[zAh hk,I6 hk,wtL];simp
 ·intro n a b hg ha hb ih
  have e:nwT l 5 n=1:=by unfold nwT;simp
  rw[zAi,I5,wtT,wtL,wtL,wtL,e,zAQ,wtL,wtL,List.length_append,ih];simp;omega
theorem iK(l:List Ent)(t:Tm):wtT l t=nwT l t.k t.n+wtL l t.sub:=by cases t;rw[wtT,Tm.k,Tm.n,Tm.sub]
def X9(qq:Nat)(p0:Int):Option (Tm):=
 zCh qq 6 p0 []>>=fun r1=>
 some r1
theorem zAR{qq p0}:Cz (X9 qq p0) 130 [] [ai p0] (fun r=>tmA r) (fun _=>[]) 0:=fw Tryz.func130<|rC 0 [] zEK fun _=>fE 1
def zMi(qq:Nat)(M:xO)(q0_l:List Ent)(fl fu q0_e:Int)(p1:Tm):Option (Tm×Int×Int×Int):=
 zDf qq M p1 fl fu>>=fun r1=>
 if q0_e==0 then
 some (r1.1,r1.2.1,r1.2.2.1,r1.2.2.2)
 else
 some (r1.1,q0_e,r1.2.2.1,r1.2.2.2)
theorem zUx{qq M q0_l fl fu q0_e p1}:Cz (zMi qq M q0_l fl fu q0_e p1) 196 [.cells [.mp 1 0,slv zI q0_l .no,.mp 3 0,ai q0_e],mB M 2,mR M,.cells [ai fl,ai fu]] [.mp 0 0,tmA p1] (fun r=>tmA r.1) (fun r=>[.cells [.mp 1 0,slv zI q0_l .no,.mp 3 0,ai r.2.1],mB M 2,mR M,.cells [ai r.2.2.1,ai r.2.2.2]]) 0:=fw Tryz.func196<|rC 3 [1,2,3] zPp fun _=>rB 4 (fE 3)<|fE 2
def zFc(qq:Nat)(M:xO)(q0_l:List Ent)(fl fu q0_e:Int)(p1 p2:Tm):Option (Tm×Tm×Bool×Int×Int×Int):=
 if q0_e != 0 then
 some (p1,p2,false,q0_e,fl,fu)
 else
 zMi qq M q0_l fl fu q0_e p1>>=fun r2=>
 if r2.2.1 != 0 then
 some (r2.1,p2,false,r2.2.1,r2.2.2.1,r2.2.2.2)
 else
 zMi qq M q0_l r2.2.2.1 r2.2.2.2 r2.2.1 p2>>=fun r5=>
 some (r2.1,r5.1,(r5.2.1==0),r5.2.1,r5.2.2.1,r5.2.2.2)
theorem zUw{qq M q0_l fl fu q0_e p1 p2}:Cz (zFc qq M q0_l fl fu q0_e p1 p2) 139 [.cells [.mp 1 0,slv zI q0_l .no,.mp 3 0,ai q0_e],mB M 2,mR M,.cells [ai fl,ai fu]] [.mp 0 0,tmA p1,tmA p2] (fun r=>.tup [tmA r.1,tmA r.2.1,ab r.2.2.1]) (fun r=>[.cells [.mp 1 0,slv zI q0_l .no,.mp 3 0,ai r.2.2.2.1],mB M 2,mR M,.cells [ai r.2.2.2.2.1,ai r.2.2.2.2.2]]) 0:=fw Tryz.func139<|rB 1 (fE 4)<|rC 1 [0,1,2,3] zUx fun _=>rB 2 (fE 4)<|rC 1 [0,1,2,3] zUx fun _=>fE 7
def dV(qq:Nat)(M:xO)(q0_l:List Ent)(fl fu q0_e:Int)(p1:Tm):Option (Tm×Int):=
 if p1.k==4 then
 zL p1.sub 1>>=fun x2=>
 some (x2,q0_e)
 else
 zCe qq p1 1>>=fun r4=>
 dL qq 0>>=fun r6=>
 kY qq r4.1 r6>>=fun r8=>
 if r4.2==0 then
 tV qq r8>>=fun r11=>
 if r11 then
 if q0_e==0 then
 some (r8,r4.2)
 else
 some (r8,q0_e)
 else
 if q0_e==0 then
 some (r8,2)
 else
 some (r8,q0_e)
 else
 if q0_e==0 then
 some (r8,r4.2)
 else
 some (r8,q0_e)
theorem zDc{qq M q0_l fl fu q0_e p1}:Cz (dV qq M q0_l fl fu q0_e p1) 197 [.cells [.mp 1 0,slv zI q0_l .no,.mp 3 0,ai q0_e],mB M 2,mR M,.cells [ai fl,ai fu]] [.mp 0 0,tmA p1] (fun r=>tmA r.1) (fun r=>[.cells [.mp 1 0,slv zI q0_l .no,.mp 3 0,ai r.2],mB M 2,mR M,.cells [ai fl,ai fu]]) 0:=fw Tryz.func197<|rB 1 (rA 1 (yM (o:=.no)) fun _=>fE 2)<|rC 1 [] zKO fun _=>rC 4 [] jY fun _=>rC 0 [] nH fun _=>rB 1 (rK 1 [] sW (fun _=>rB 2 (fE 3)<|fE 2) fun _=>rB 2 (fE 3)<|fE 2)<|rB 1 (fE 3)<|fE 2
def zPl(qq:Nat)(M:xO)(p1:Tm):Option (Int×List Tm×Bool):=
 tV qq p1>>=fun r1=>
 if r1 then
 e96 qq p1>>=fun r4=>
 zIT qq M r4>>=fun r6=>
 some (r6.1,r6.2.1,r6.2.2)
 else
 some (0,[],false)
theorem zVK{qq M p1}:Cz (zPl qq M p1) 253 [mB M 1,mR M] [.mp 0 0,tmA p1] (fun r=>.tup [ai r.1,.sl (zD zA r.2.1) (List.length r.2.1) .no,ab r.2.2]) (fun _=>[mB M 1,mR M]) 0:=fw Tryz.func253<|rK 2 [] sW (fun _=>rC 2 [] c96 fun _=>rC 0 [0,1] zRS fun _=>fE 3) fun _=>fE 1
def Y0(qq:Nat)(M:xO)(q0_l:List Ent)(fl fu q0_e:Int)(p1:Tm):Option (Int×List Tm×Bool):=
 zPl qq M p1>>=fun r1=>
 if r1.2.2 then
 zL q0_l r1.1>>=fun x4=>
 zL q0_l x4.fam>>=fun x6=>
 if (List.length x6.fields:Int)==0 then
 some (0,[],false)
 else
 some (r1.1,r1.2.1,true)
 else
 some (0,[],false)
theorem zFb{qq M q0_l fl fu q0_e p1}:Cz (Y0 qq M q0_l fl fu q0_e p1) 198 [.cells [.mp 1 0,slv zI q0_l .no,.mp 3 0,ai q0_e],mB M 2,mR M,.cells [ai fl,ai fu]] [.mp 0 0,tmA p1] (fun r=>.tup [ai r.1,.sl (zD zA r.2.1) (List.length r.2.1) .no,ab r.2.2]) (fun _=>[.cells [.mp 1 0,slv zI q0_l .no,.mp 3 0,ai q0_e],mB M 2,mR M,.cells [ai fl,ai fu]]) 0:=fw Tryz.func198<|rC 2 [1,2] zVK fun _=>rB 2 (rA 3 (yY (o:=.no)) fun _=>rA 1 (yY (o:=.no)) fun _=>rB 2 (fE 0)<|fE 0)<|fE 1
def zRX(qq:Nat)(p0 p1:Int):Option (Bool):=
 some (decide (p0≤p1))
theorem zVL{qq p0 p1}:Cz (zRX qq p0 p1) 339 [] [ai p0,ai p1] (fun r=>ab r) (fun _=>[]) 0:=fw Tryz.func339<|fE 1
def zRY(qq:Nat)(p0 p1:Int):Option (Bool):=
 some (p0==p1)
theorem zVM{qq p0 p1}:Cz (zRY qq p0 p1) 141 [] [ai p0,ai p1] (fun r=>ab r) (fun _=>[]) 0:=fw Tryz.func141<|fE 1
def zMh(qq:Nat)(M:xO)(q0_l:List Ent)(fl fu q0_e:Int)(p1:Tm)(p2 p3:Int)(p4:List Tm):Option (Tm×Int):=
 Y0 qq M q0_l fl fu q0_e p1>>=fun r1=>
 if r1.2.2 then
 if r1.1==p2 then
 zL r1.2.1 (w64 ((List.length p4:Int)+p3))>>=fun x5=>
 some (x5,q0_e)
 else
 zL q0_l p2>>=fun x7=>
 zL q0_l x7.fam>>=fun x9=>
 zL x9.fields p3>>=fun x11=>
 X9 qq x11>>=fun r13=>
 nI qq r13 p4>>=fun r15=>
 kY qq r15 p1>>=fun r17=>
 if q0_e==0 then
 tV qq r17>>=fun r20=>
 if r20 then
 some (r17,q0_e)
 else
 some (r17,2)
 else
 some (r17,q0_e)
 else
 zL q0_l p2>>=fun x23=>
 zL q0_l x23.fam>>=fun x25=>
 zL x25.fields p3>>=fun x27=>
 X9 qq x27>>=fun r29=>
 nI qq r29 p4>>=fun r31=>
 kY qq r31 p1>>=fun r33=>
 if q0_e==0 then
 tV qq r33>>=fun r36=>
 if r36 then
 some (r33,q0_e)
 else
 some (r33,2)
 else
 some (r33,q0_e)
theorem zUv{qq M q0_l fl fu q0_e p1 p2 p3 p4}:Cz (zMh qq M q0_l fl fu q0_e p1 p2 p3 p4) 254 [.cells [.mp 1 0,slv zI q0_l .no,.mp 3 0,ai q0_e],mB M 2,mR M,.cells [ai fl,ai fu]] [.mp 0 0,tmA p1,ai p2,ai p3,slv zA p4 .no] (fun r=>tmA r.1) (fun r=>[.cells [.mp 1 0,slv zI q0_l .no,.mp 3 0,ai r.2],mB M 2,mR M,.cells [ai fl,ai fu]]) 0:=fw Tryz.func254<|rC 1 [0,1,2,3] zFb fun _=>rB 2 (rB 0 (rA 2 (yM (o:=.no)) fun _=>fE 2)<|rA 2 (yY (o:=.no)) fun _=>rA 1 (yY (o:=.no)) fun _=>rA 1 (pL (o:=.no)) fun _=>rC 1 [] zAR fun _=>rC 0 [] pV fun _=>rC 1 [] nH fun _=>rB 2 (rK 1 [] sW (fun _=>fE 3) fun _=>fE 4)<|fE 2)<|rA 2 (yY (o:=.no)) fun _=>rA 1 (yY (o:=.no)) fun _=>rA 1 (pL (o:=.no)) fun _=>rC 1 [] zAR fun _=>rC 0 [] pV fun _=>rC 1 [] nH fun _=>rB 2 (rK 1 [] sW (fun _=>fE 3) fun _=>fE 4)<|fE 2
mutual
def wL:Nat->(List Ent)->(List Ent)->(List xN)->(List Int)->(List Int)->(List Ent)->Int->Int->Int->Tm->Tm->Option (Bool×Int×Int×Int)
 |0,_,_,_,_,_,_,_,_,_,_,_=>none
 |qq+1,q0,q1,q2,q3,q4,q5,q6,q7,q8,p1,p2=>
 zFc qq (xO.mk q0 q1 q2 q3 q4) q5 q6 q7 q8 p1 p2>>=fun r1=>
 if r1.2.2.1 then
 bL qq q0 q1 q2 q3 q4 q5 r1.2.2.2.2.1 r1.2.2.2.2.2 r1.2.2.2.1 r1.1 r1.2.1>>=fun r4=>
 some (r4.1,r4.2.1,r4.2.2.1,r4.2.2.2)
 else
 some (false,r1.2.2.2.1,r1.2.2.2.2.1,r1.2.2.2.2.2)
def bL:Nat->(List Ent)->(List Ent)->(List xN)->(List Int)->(List Int)->(List Ent)->Int->Int->Int->Tm->Tm->Option (Bool×Int×Int×Int)
 |0,_,_,_,_,_,_,_,_,_,_,_=>none
 |qq+1,q0,q1,q2,q3,q4,q5,q6,q7,q8,p1,p2=>
 if p1.k==4 then
 dV qq (xO.mk q0 q1 q2 q3 q4) q5 q6 q7 q8 p1>>=fun r2=>
 dV qq (xO.mk q0 q1 q2 q3 q4) q5 q6 q7 r2.2 p2>>=fun r4=>
 wL qq q0 q1 q2 q3 q4 q5 q6 q7 r4.2 r2.1 r4.1>>=fun r6=>
 some (r6.1,r6.2.1,r6.2.2.1,r6.2.2.2)
 else
 if p2.k==4 then
 dV qq (xO.mk q0 q1 q2 q3 q4) q5 q6 q7 q8 p1>>=fun r9=>
 dV qq (xO.mk q0 q1 q2 q3 q4) q5 q6 q7 r9.2 p2>>=fun r11=>
 wL qq q0 q1 q2 q3 q4 q5 q6 q7 r11.2 r9.1 r11.1>>=fun r13=>
 some (r13.1,r13.2.1,r13.2.2.1,r13.2.2.2)
 else
 Y0 qq (xO.mk q0 q1 q2 q3 q4) q5 q6 q7 q8 p1>>=fun r15=>
 if r15.2.2 then
 Y0 qq (xO.mk q0 q1 q2 q3 q4) q5 q6 q7 q8 p2>>=fun r18=>
 if r18.2.2 then
 if r15.1 != r18.1 then
 some (false,q8,q6,q7)
 else
 zL q5 r15.1>>=fun x22=>
 gsl r15.2.1 0 x22.pars>>=fun x24=>
 uN qq q0 q1 q2 q3 q4 q5 q6 q7 q8 p1 p2 r15.1 x24>>=fun r26=>
 some (r26.1,r26.2.1,r26.2.2.1,r26.2.2.2)
 else
 zL q5 r15.1>>=fun x28=>
 gsl r15.2.1 0 x28.pars>>=fun x30=>
 uN qq q0 q1 q2 q3 q4 q5 q6 q7 q8 p1 p2 r15.1 x30>>=fun r32=>
 some (r32.1,r32.2.1,r32.2.2.1,r32.2.2.2)
 else
 Y0 qq (xO.mk q0 q1 q2 q3 q4) q5 q6 q7 q8 p2>>=fun r34=>
 if r34.2.2 then
 zL q5 r34.1>>=fun x37=>
 gsl r34.2.1 0 x37.pars>>=fun x39=>
 uN qq q0 q1 q2 q3 q4 q5 q6 q7 q8 p1 p2 r34.1 x39>>=fun r41=>
 some (r41.1,r41.2.1,r41.2.2.1,r41.2.2.2)
 else
 if p1.k != p2.k then
 some (false,q8,q6,q7)
 else
 if p1.k==3 then
 zL p1.sub 0>>=fun x45=>
 zL p2.sub 0>>=fun x47=>
 wL qq q0 q1 q2 q3 q4 q5 q6 q7 q8 x45 x47>>=fun r49=>
 if r49.1 then
 zL p1.sub 1>>=fun x52=>
 zL p2.sub 1>>=fun x54=>
 wL qq q0 q1 q2 q3 q4 q5 r49.2.2.1 r49.2.2.2 r49.2.1 x52 x54>>=fun r56=>
 some (r56.1,r56.2.1,r56.2.2.1,r56.2.2.2)
 else
 some (false,r49.2.1,r49.2.2.1,r49.2.2.2)
 else
 if p1.k==2 then
 zRY qq p1.n p2.n>>=fun r59=>
 some (r59,q8,q6,q7)
 else
 lB qq q0 q1 q2 q3 q4 q5 q6 q7 q8 p1 p2>>=fun r61=>
 some (r61.1,r61.2.1,r61.2.2.1,r61.2.2.2)
def uN:Nat->(List Ent)->(List Ent)->(List xN)->(List Int)->(List Int)->(List Ent)->Int->Int->Int->Tm->Tm->Int->(List Tm)->Option (Bool×Int×Int×Int)
 |0,_,_,_,_,_,_,_,_,_,_,_,_,_=>none
 |qq+1,q0,q1,q2,q3,q4,q5,q6,q7,q8,p1,p2,p3,p4=>
 zL q5 p3>>=fun x1=>
 zL q5 x1.fam>>=fun x3=>
 uF qq q0 q1 q2 q3 q4 q5 p1 p2 p3 p4 x3 0 q8 q6 q7
def uF:Nat->(List Ent)->(List Ent)->(List xN)->(List Int)->(List Int)->(List Ent)->Tm->Tm->Int->(List Tm)->Ent->Int->Int->Int->Int->Option (Bool×Int×Int×Int)
 |0,_,_,_,_,_,_,_,_,_,_,_,_,_,_,_=>none
 |qq+1,q0,q1,q2,q3,q4,q5,p1,p2,p3,p4,x3,v28,yE,wJ,wK=>
 if decide (v28<(List.length x3.fields:Int))then
 zMh qq (xO.mk q0 q1 q2 q3 q4) q5 wJ wK yE p1 p3 v28 p4>>=fun r6=>
 zMh qq (xO.mk q0 q1 q2 q3 q4) q5 wJ wK r6.2 p2 p3 v28 p4>>=fun r8=>
 wL qq q0 q1 q2 q3 q4 q5 wJ wK r8.2 r6.1 r8.1>>=fun r10=>
 if r10.1 then
 uF qq q0 q1 q2 q3 q4 q5 p1 p2 p3 p4 x3 (w64 (v28+1)) r10.2.1 r10.2.2.1 r10.2.2.2
 else
 some (false,r10.2.1,r10.2.2.1,r10.2.2.2)
 else
 some (true,yE,wJ,wK)
def lB:Nat->(List Ent)->(List Ent)->(List xN)->(List Int)->(List Int)->(List Ent)->Int->Int->Int->Tm->Tm->Option (Bool×Int×Int×Int)
 |0,_,_,_,_,_,_,_,_,_,_,_=>none
 |qq+1,q0,q1,q2,q3,q4,q5,q6,q7,q8,p1,p2=>
 jX qq p1>>=fun r1=>
 jX qq p2>>=fun r3=>
 if r1.1.k != r3.1.k then
 some (false,q8,q6,q7)
 else
 if r1.1.n != r3.1.n then
 some (false,q8,q6,q7)
 else
 if (List.length r1.2:Int) != (List.length r3.2:Int)then
 some (false,q8,q6,q7)
 else
 if r1.1.k==7 then
 zL r1.1.sub 0>>=fun x9=>
 zL r3.1.sub 0>>=fun x11=>
 if x9.n != x11.n then
 some (false,q8,q6,q7)
 else
 if r1.1.k==3 then
 wL qq q0 q1 q2 q3 q4 q5 q6 q7 q8 x9 x11>>=fun r15=>
 if r15.1 then
 zL r1.1.sub 1>>=fun x18=>
 zL r3.1.sub 1>>=fun x20=>
 wL qq q0 q1 q2 q3 q4 q5 r15.2.2.1 r15.2.2.2 r15.2.1 x18 x20>>=fun r22=>
 if r22.1 then
 wE qq q0 q1 q2 q3 q4 q5 r1 r3 0 r22.2.1 r22.2.2.1 r22.2.2.2
 else
 some (false,r22.2.1,r22.2.2.1,r22.2.2.2)
 else
 some (false,r15.2.1,r15.2.2.1,r15.2.2.2)
 else
 wE qq q0 q1 q2 q3 q4 q5 r1 r3 0 q8 q6 q7
 else
 if r1.1.k==3 then
 zL r1.1.sub 0>>=fun x26=>
 zL r3.1.sub 0>>=fun x28=>
 wL qq q0 q1 q2 q3 q4 q5 q6 q7 q8 x26 x28>>=fun r30=>
 if r30.1 then
 zL r1.1.sub 1>>=fun x33=>
 zL r3.1.sub 1>>=fun x35=>
 wL qq q0 q1 q2 q3 q4 q5 r30.2.2.1 r30.2.2.2 r30.2.1 x33 x35>>=fun r37=>
 if r37.1 then
 wE qq q0 q1 q2 q3 q4 q5 r1 r3 0 r37.2.1 r37.2.2.1 r37.2.2.2
 else
 some (false,r37.2.1,r37.2.2.1,r37.2.2.2)
 else
 some (false,r30.2.1,r30.2.2.1,r30.2.2.2)
 else
 wE qq q0 q1 q2 q3 q4 q5 r1 r3 0 q8 q6 q7
def wE:Nat->(List Ent)->(List Ent)->(List xN)->(List Int)->(List Int)->(List Ent)->(Tm×List Tm)->(Tm×List Tm)->Int->Int->Int->Int->Option (Bool×Int×Int×Int)
 |0,_,_,_,_,_,_,_,_,_,_,_,_=>none
 |qq+1,q0,q1,q2,q3,q4,q5,r1,r3,v89,yE,wJ,wK=>
 if decide (v89<(List.length r1.2:Int))then
 zL r1.2 v89>>=fun x26=>
 zL r3.2 v89>>=fun x28=>
 wL qq q0 q1 q2 q3 q4 q5 wJ wK yE x26 x28>>=fun r30=>
 if r30.1 then
 wE qq q0 q1 q2 q3 q4 q5 r1 r3 (w64 (v89+1)) r30.2.1 r30.2.2.1 r30.2.2.2
 else
 some (false,r30.2.1,r30.2.2.1,r30.2.2.2)
 else
 some (true,yE,wJ,wK)
end
theorem yZ:∀qq:Nat,(∀q0 q1 q2 q3 q4 q5 q6 q7 q8 p1 p2,Cz (wL qq q0 q1 q2 q3 q4 q5 q6 q7 q8 p1 p2) 71 [.cells [.mp 1 0,slv zI q5 .no,.mp 3 0,ai q8],.cells [slv zI q0 .no,.mp 2 0,slv zM q3 .no,slv zM q4 .no],.cells [slv zI q1 .no,slv xX q2 .no],.cells [ai q6,ai q7]] [.mp 0 0,tmA p1,tmA p2] (fun r=>ab r.1) (fun r=>[.cells [.mp 1 0,slv zI q5 .no,.mp 3 0,ai r.2.1],.cells [slv zI q0 .no,.mp 2 0,slv zM q3 .no,slv zM q4 .no],.cells [slv zI q1 .no,slv xX q2 .no],.cells [ai r.2.2.1,ai r.2.2.2]]) 0)∧(∀q0 q1 q2 q3 q4 q5 q6 q7 q8 p1 p2,Cz (bL qq q0 q1 q2 q3 q4 q5 q6 q7 q8 p1 p2) 140 [.cells [.mp 1 0,slv zI q5 .no,.mp 3 0,ai q8],.cells [slv zI q0 .no,.mp 2 0,slv zM q3 .no,slv zM q4 .no],.cells [slv zI q1 .no,slv xX q2 .no],.cells [ai q6,ai q7]] [.mp 0 0,tmA p1,tmA p2,.agg [.clo 141 [] [],.clo 71 [.mp 0 0] []]] (fun r=>ab r.1) (fun r=>[.cells [.mp 1 0,slv zI q5 .no,.mp 3 0,ai r.2.1],.cells [slv zI q0 .no,.mp 2 0,slv zM q3 .no,slv zM q4 .no],.cells [slv zI q1 .no,slv xX q2 .no],.cells [ai r.2.2.1,ai r.2.2.2]]) 0)∧(∀q0 q1 q2 q3 q4 q5 q6 q7 q8 p1 p2 p3 p4,Cz (uN qq q0 q1 q2 q3 q4 q5 q6 q7 q8 p1 p2 p3 p4) 199 [.cells [.mp 1 0,slv zI q5 .no,.mp 3 0,ai q8],.cells [slv zI q0 .no,.mp 2 0,slv zM q3 .no,slv zM q4 .no],.cells [slv zI q1 .no,slv xX q2 .no],.cells [ai q6,ai q7]] [.mp 0 0,tmA p1,tmA p2,ai p3,slv zA p4 .no] (fun r=>ab r.1) (fun r=>[.cells [.mp 1 0,slv zI q5 .no,.mp 3 0,ai r.2.1],.cells [slv zI q0 .no,.mp 2 0,slv zM q3 .no,slv zM q4 .no],.cells [slv zI q1 .no,slv xX q2 .no],.cells [ai r.2.2.1,ai r.2.2.2]]) 0)∧(∀q0 q1 q2 q3 q4 q5 p1 p2 p3 p4 x3 v28 yE wJ wK,Lz (uF qq q0 q1 q2 q3 q4 q5 p1 p2 p3 p4 x3 v28 yE wJ wK) 4 Tryz.f199 (inn (inn (rgt (lft (rgt (bod Tryz.f199)))))) (fun j=>sp j 47 0 [(0,.mp 0 0),(3,ai p3),(4,slv zA p4 .no),(6,.mp 4 0),(7,.mp 5 0),(27,ai (List.length x3.fields:Int)),(28,ai v28)]) ⟨[(0,.cells [.mp 1 0,slv zI q5 .no,.mp 3 0,ai yE]),(1,.cells [slv zI q0 .no,.mp 2 0,slv zM q3 .no,slv zM q4 .no]),(2,.cells [slv zI q1 .no,slv xX q2 .no]),(3,.cells [ai wJ,ai wK]),(4,.cells [ai p1.k,ai p1.n,slv zA p1.sub .no]),(5,.cells [ai p2.k,ai p2.n,slv zA p2.sub .no])],6,[],0,[]⟩ (fun r=>ab r.1) (fun r=>[.cells [.mp 1 0,slv zI q5 .no,.mp 3 0,ai r.2.1],.cells [slv zI q0 .no,.mp 2 0,slv zM q3 .no,slv zM q4 .no],.cells [slv zI q1 .no,slv xX q2 .no],.cells [ai r.2.2.1,ai r.2.2.2]]) 0 [.blk 0,.seq (rgt (rgt (bod Tryz.f199)))])∧(∀q0 q1 q2 q3 q4 q5 q6 q7 q8 p1 p2,Cz (lB qq q0 q1 q2 q3 q4 q5 q6 q7 q8 p1 p2) 200 [.cells [.mp 1 0,slv zI q5 .no,.mp 3 0,ai q8],.cells [slv zI q0 .no,.mp 2 0,slv zM q3 .no,slv zM q4 .no],.cells [slv zI q1 .no,slv xX q2 .no],.cells [ai q6,ai q7]] [.mp 0 0,tmA p1,tmA p2] (fun r=>ab r.1) (fun r=>[.cells [.mp 1 0,slv zI q5 .no,.mp 3 0,ai r.2.1],.cells [slv zI q0 .no,.mp 2 0,slv zM q3 .no,slv zM q4 .no],.cells [slv zI q1 .no,slv xX q2 .no],.cells [ai r.2.2.1,ai r.2.2.2]]) 0)∧(∀q0 q1 q2 q3 q4 q5 r1 r3 v89 yE wJ wK,Lz (wE qq q0 q1 q2 q3 q4 q5 r1 r3 v89 yE wJ wK) 4 Tryz.f200 (inn (inn (rgt (lft (rgt (rgt (rgt (rgt (rgt (bod Tryz.f200)))))))))) (fun j=>sp j 104 0 [(0,.mp 0 0),(8,slv zA r1.2 .no),(10,slv zA r3.2 .no),(88,ai (List.length r1.2:Int)),(89,ai v89)]) ⟨[(0,.cells [.mp 1 0,slv zI q5 .no,.mp 3 0,ai yE]),(1,.cells [slv zI q0 .no,.mp 2 0,slv zM q3 .no,slv zM q4 .no]),(2,.cells [slv zI q1 .no,slv xX q2 .no]),(3,.cells [ai wJ,ai wK])],4,[],0,[]⟩ (fun r=>ab r.1) (fun r=>[.cells [.mp 1 0,slv zI q5 .no,.mp 3 0,ai r.2.1],.cells [slv zI q0 .no,.mp 2 0,slv zM q3 .no,slv zM q4 .no],.cells [slv zI q1 .no,slv xX q2 .no],.cells [ai r.2.2.1,ai r.2.2.2]]) 0 [.blk 0,.seq (rgt (rgt (rgt (rgt (rgt (rgt (bod Tryz.f200)))))))]):=yW ⟨fun _ _ _ _ _ _ _ _ _ _ _=>cN,fun _ _ _ _ _ _ _ _ _ _ _=>cN,fun _ _ _ _ _ _ _ _ _ _ _ _ _=>cN,fun _ _ _ _ _ _ _ _ _ _ _ _ _ _ _=>lN,fun _ _ _ _ _ _ _ _ _ _ _=>cN,fun _ _ _ _ _ _ _ _ _ _ _ _=>lN⟩ fun qq ih=>⟨fun q0 q1 q2 q3 q4 q5 q6 q7 q8 p1 p2=>fw Tryz.func71<|rC 2 [0,1,2,3] zUw fun _=>rB 2 (rC 4 [0,1,2,3] (ih.2.1 _ _ _ _ _ _ _ _ _ _ _) fun _=>fE 0)<|fE 2,
 fun q0 q1 q2 q3 q4 q5 q6 q7 q8 p1 p2=>fw Tryz.func140<|rB 1 (rC 1 [0,1,2,3] zDc fun _=>rC 1 [0,1,2,3] zDc fun _=>rC 0 [0,1,2,3] (ih.1 _ _ _ _ _ _ _ _ _ _ _) fun _=>fE 0)<|rB 1 (rC 1 [0,1,2,3] zDc fun _=>rC 1 [0,1,2,3] zDc fun _=>rC 0 [0,1,2,3] (ih.1 _ _ _ _ _ _ _ _ _ _ _) fun _=>fE 0)<|rC 1 [0,1,2,3] zFb fun _=>rB 2 (rC 1 [0,1,2,3] zFb fun _=>rB 2 (rB 0 (fE 0)<|rA 3 (yY (o:=.no)) fun _=>rA 1 tR fun _=>rC 0 [0,1,2,3] (ih.2.2.1 _ _ _ _ _ _ _ _ _ _ _ _ _) fun _=>fE 0)<|rA 3 (yY (o:=.no)) fun _=>rA 1 tR fun _=>rC 0 [0,1,2,3] (ih.2.2.1 _ _ _ _ _ _ _ _ _ _ _ _ _) fun _=>fE 0)<|rC 1 [0,1,2,3] zFb fun _=>rB 2 (rA 3 (yY (o:=.no)) fun _=>rA 1 tR fun _=>rC 0 [0,1,2,3] (ih.2.2.1 _ _ _ _ _ _ _ _ _ _ _ _ _) fun _=>fE 0)<|rB 2 (fE 0)<|rB 1 (rA 1 (yM (o:=.no)) fun _=>rA 2 (yM (o:=.no)) fun _=>rK 1 [0,1,2,3] (ih.1 _ _ _ _ _ _ _ _ _ _ _) (fun _=>rA 2 (yM (o:=.no)) fun _=>rA 2 (yM (o:=.no)) fun _=>rC 1 [0,1,2,3] (ih.1 _ _ _ _ _ _ _ _ _ _ _) fun _=>fE 0) fun _=>fE 0)<|rB 1 (rC 3 [] zVM fun _=>fE 0)<|rC 2 [0,1,2,3] (ih.2.2.2.2.1 _ _ _ _ _ _ _ _ _ _ _) fun _=>fE 0,
 fun q0 q1 q2 q3 q4 q5 q6 q7 q8 p1 p2 p3 p4=>fw Tryz.func199<|rA 2 (yY (o:=.no)) fun _=>rA 1 (yY (o:=.no)) fun _=>fH 2 [] [0,1,2,3,4,5] [] [0,3,4,6,7,27,28] (ih.2.2.2.1 _ _ _ _ _ _ _ _ _ _ _ _ _ _ _),
 fun q0 q1 q2 q3 q4 q5 p1 p2 p3 p4 x3 v28 yE wJ wK=>lw fun _=>rB 0 (rC 1 [0,1,2,3] zUv fun _=>rC 1 [0,1,2,3] zUv fun _=>rK 0 [0,1,2,3] (ih.1 _ _ _ _ _ _ _ _ _ _ _) (fun _=>lH 2 [] [0,1,2,3,4,5] [] [0,3,4,6,7,27,28] (ih.2.2.2.1 _ _ _ _ _ _ _ _ _ _ _ _ _ _ _)) fun _=>lE 1)<|lE 0,
 fun q0 q1 q2 q3 q4 q5 q6 q7 q8 p1 p2=>fw Tryz.func200<|rC 1 [] E8 fun _=>rC 4 [] E8 fun _=>rB 5 (fE 0)<|rB 2 (fE 0)<|rB 2 (fE 0)<|rB 1 (rH fun _ h10=>rS (oA 1 (yM (o:=.no) h10))<|rH fun _ h12=>rS (oA 2 (yM (o:=.no) h12))<|rB 1 (fE 0)<|rB 1 (rS (oA 1 (yM (o:=.no) h10))<|rS (oA 2 (yM (o:=.no) h12))<|rK 1 [0,1,2,3] (ih.1 _ _ _ _ _ _ _ _ _ _ _) (fun _=>rA 1 (yM (o:=.no)) fun _=>rA 2 (yM (o:=.no)) fun _=>rK 1 [0,1,2,3] (ih.1 _ _ _ _ _ _ _ _ _ _ _) (fun _=>fH 2 [] [0,1,2,3] [] [0,8,10,88,89] (ih.2.2.2.2.2 _ _ _ _ _ _ _ _ _ _ _ _)) fun _=>fE 1) fun _=>fE 1)<|fH 1 [] [0,1,2,3] [] [0,8,10,88,89] (ih.2.2.2.2.2 _ _ _ _ _ _ _ _ _ _ _ _))<|rB 1 (rA 1 (yM (o:=.no)) fun _=>rA 2 (yM (o:=.no)) fun _=>rK 1 [0,1,2,3] (ih.1 _ _ _ _ _ _ _ _ _ _ _) (fun _=>rA 1 (yM (o:=.no)) fun _=>rA 2 (yM (o:=.no)) fun _=>rK 1 [0,1,2,3] (ih.1 _ _ _ _ _ _ _ _ _ _ _) (fun _=>fH 2 [] [0,1,2,3] [] [0,8,10,88,89] (ih.2.2.2.2.2 _ _ _ _ _ _ _ _ _ _ _ _)) fun _=>fE 1) fun _=>fE 1)<|fH 1 [] [0,1,2,3] [] [0,8,10,88,89] (ih.2.2.2.2.2 _ _ _ _ _ _ _ _ _ _ _ _),
 fun q0 q1 q2 q3 q4 q5 r1 r3 v89 yE wJ wK=>lw fun _=>rB 0 (rA 0 (yM (o:=.no)) fun _=>rA 1 (yM (o:=.no)) fun _=>rK 1 [0,1,2,3] (ih.1 _ _ _ _ _ _ _ _ _ _ _) (fun _=>lH 2 [] [0,1,2,3] [] [0,8,10,88,89] (ih.2.2.2.2.2 _ _ _ _ _ _ _ _ _ _ _ _)) fun _=>lE 1)<|lE 0⟩
theorem J3{qq q0 q1 q2 q3 q4 q5 q6 q7 q8 p1 p2}:Cz (wL qq q0 q1 q2 q3 q4 q5 q6 q7 q8 p1 p2) 71 [.cells [.mp 1 0,slv zI q5 .no,.mp 3 0,ai q8],.cells [slv zI q0 .no,.mp 2 0,slv zM q3 .no,slv zM q4 .no],.cells [slv zI q1 .no,slv xX q2 .no],.cells [ai q6,ai q7]] [.mp 0 0,tmA p1,tmA p2] (fun r=>ab r.1) (fun r=>[.cells [.mp 1 0,slv zI q5 .no,.mp 3 0,ai r.2.1],.cells [slv zI q0 .no,.mp 2 0,slv zM q3 .no,slv zM q4 .no],.cells [slv zI q1 .no,slv xX q2 .no],.cells [ai r.2.2.1,ai r.2.2.2]]) 0:=(yZ _).1 _ _ _ _ _ _ _ _ _ _ _
theorem T5{qq q0 q1 q2 q3 q4 q5 q6 q7 q8 p1 p2 p3 p4}:Cz (uN qq q0 q1 q2 q3 q4 q5 q6 q7 q8 p1 p2 p3 p4) 199 [.cells [.mp 1 0,slv zI q5 .no,.mp 3 0,ai q8],.cells [slv zI q0 .no,.mp 2 0,slv zM q3 .no,slv zM q4 .no],.cells [slv zI q1 .no,slv xX q2 .no],.cells [ai q6,ai q7]] [.mp 0 0,tmA p1,tmA p2,ai p3,slv zA p4 .no] (fun r=>ab r.1) (fun r=>[.cells [.mp 1 0,slv zI q5 .no,.mp 3 0,ai r.2.1],.cells [slv zI q0 .no,.mp 2 0,slv zM q3 .no,slv zM q4 .no],.cells [slv zI q1 .no,slv xX q2 .no],.cells [ai r.2.2.1,ai r.2.2.2]]) 0:=(yZ _).2.2.1 _ _ _ _ _ _ _ _ _ _ _ _ _
theorem zMg{qq q0 q1 q2 q3 q4 q5 q6 q7 q8 p1 p2}:Cz (lB qq q0 q1 q2 q3 q4 q5 q6 q7 q8 p1 p2) 200 [.cells [.mp 1 0,slv zI q5 .no,.mp 3 0,ai q8],.cells [slv zI q0 .no,.mp 2 0,slv zM q3 .no,slv zM q4 .no],.cells [slv zI q1 .no,slv xX q2 .no],.cells [ai q6,ai q7]] [.mp 0 0,tmA p1,tmA p2] (fun r=>ab r.1) (fun r=>[.cells [.mp 1 0,slv zI q5 .no,.mp 3 0,ai r.2.1],.cells [slv zI q0 .no,.mp 2 0,slv zM q3 .no,slv zM q4 .no],.cells [slv zI q1 .no,slv xX q2 .no],.cells [ai r.2.2.1,ai r.2.2.2]]) 0:=(yZ _).2.2.2.2.1 _ _ _ _ _ _ _ _ _ _ _
mutual
def bM:Nat->(List Ent)->(List Ent)->(List xN)->(List Int)->(List Int)->(List Ent)->Int->Int->Int->Tm->Tm->Option (Bool×Int×Int×Int)
 |0,_,_,_,_,_,_,_,_,_,_,_=>none
 |qq+1,q0,q1,q2,q3,q4,q5,q6,q7,q8,p1,p2=>
 if p1.k==4 then
 dV qq (xO.mk q0 q1 q2 q3 q4) q5 q6 q7 q8 p1>>=fun r2=>
 dV qq (xO.mk q0 q1 q2 q3 q4) q5 q6 q7 r2.2 p2>>=fun r4=>
 wL qq q0 q1 q2 q3 q4 q5 q6 q7 r4.2 r2.1 r4.1>>=fun r6=>
 some (r6.1,r6.2.1,r6.2.2.1,r6.2.2.2)
 else
 if p2.k==4 then
 dV qq (xO.mk q0 q1 q2 q3 q4) q5 q6 q7 q8 p1>>=fun r9=>
 dV qq (xO.mk q0 q1 q2 q3 q4) q5 q6 q7 r9.2 p2>>=fun r11=>
 wL qq q0 q1 q2 q3 q4 q5 q6 q7 r11.2 r9.1 r11.1>>=fun r13=>
 some (r13.1,r13.2.1,r13.2.2.1,r13.2.2.2)
 else
 Y0 qq (xO.mk q0 q1 q2 q3 q4) q5 q6 q7 q8 p1>>=fun r15=>
 if r15.2.2 then
 Y0 qq (xO.mk q0 q1 q2 q3 q4) q5 q6 q7 q8 p2>>=fun r18=>
 if r18.2.2 then
 if r15.1 != r18.1 then
 some (false,q8,q6,q7)
 else
 zL q5 r15.1>>=fun x22=>
 gsl r15.2.1 0 x22.pars>>=fun x24=>
 uN qq q0 q1 q2 q3 q4 q5 q6 q7 q8 p1 p2 r15.1 x24>>=fun r26=>
 some (r26.1,r26.2.1,r26.2.2.1,r26.2.2.2)
 else
 zL q5 r15.1>>=fun x28=>
 gsl r15.2.1 0 x28.pars>>=fun x30=>
 uN qq q0 q1 q2 q3 q4 q5 q6 q7 q8 p1 p2 r15.1 x30>>=fun r32=>
 some (r32.1,r32.2.1,r32.2.2.1,r32.2.2.2)
 else
 Y0 qq (xO.mk q0 q1 q2 q3 q4) q5 q6 q7 q8 p2>>=fun r34=>
 if r34.2.2 then
 zL q5 r34.1>>=fun x37=>
 gsl r34.2.1 0 x37.pars>>=fun x39=>
 uN qq q0 q1 q2 q3 q4 q5 q6 q7 q8 p1 p2 r34.1 x39>>=fun r41=>
 some (r41.1,r41.2.1,r41.2.2.1,r41.2.2.2)
 else
 if p1.k != p2.k then
 some (false,q8,q6,q7)
 else
 if p1.k==3 then
 zL p1.sub 0>>=fun x45=>
 zL p2.sub 0>>=fun x47=>
 wL qq q0 q1 q2 q3 q4 q5 q6 q7 q8 x45 x47>>=fun r49=>
 if r49.1 then
 zL p1.sub 1>>=fun x52=>
 zL p2.sub 1>>=fun x54=>
 pH qq q0 q1 q2 q3 q4 q5 r49.2.2.1 r49.2.2.2 r49.2.1 x52 x54>>=fun r56=>
 some (r56.1,r56.2.1,r56.2.2.1,r56.2.2.2)
 else
 some (false,r49.2.1,r49.2.2.1,r49.2.2.2)
 else
 if p1.k==2 then
 zRX qq p1.n p2.n>>=fun r59=>
 some (r59,q8,q6,q7)
 else
 lB qq q0 q1 q2 q3 q4 q5 q6 q7 q8 p1 p2>>=fun r61=>
 some (r61.1,r61.2.1,r61.2.2.1,r61.2.2.2)
def pH:Nat->(List Ent)->(List Ent)->(List xN)->(List Int)->(List Int)->(List Ent)->Int->Int->Int->Tm->Tm->Option (Bool×Int×Int×Int)
 |0,_,_,_,_,_,_,_,_,_,_,_=>none
 |qq+1,q0,q1,q2,q3,q4,q5,q6,q7,q8,p1,p2=>
 zFc qq (xO.mk q0 q1 q2 q3 q4) q5 q6 q7 q8 p1 p2>>=fun r1=>
 if r1.2.2.1 then
 bM qq q0 q1 q2 q3 q4 q5 r1.2.2.2.2.1 r1.2.2.2.2.2 r1.2.2.2.1 r1.1 r1.2.1>>=fun r4=>
 some (r4.1,r4.2.1,r4.2.2.1,r4.2.2.2)
 else
 some (false,r1.2.2.2.1,r1.2.2.2.2.1,r1.2.2.2.2.2)
end
theorem aY:∀qq:Nat,(∀q0 q1 q2 q3 q4 q5 q6 q7 q8 p1 p2,Cz (bM qq q0 q1 q2 q3 q4 q5 q6 q7 q8 p1 p2) 140 [.cells [.mp 1 0,slv zI q5 .no,.mp 3 0,ai q8],.cells [slv zI q0 .no,.mp 2 0,slv zM q3 .no,slv zM q4 .no],.cells [slv zI q1 .no,slv xX q2 .no],.cells [ai q6,ai q7]] [.mp 0 0,tmA p1,tmA p2,.agg [.clo 339 [] [],.clo 324 [.mp 0 0] []]] (fun r=>ab r.1) (fun r=>[.cells [.mp 1 0,slv zI q5 .no,.mp 3 0,ai r.2.1],.cells [slv zI q0 .no,.mp 2 0,slv zM q3 .no,slv zM q4 .no],.cells [slv zI q1 .no,slv xX q2 .no],.cells [ai r.2.2.1,ai r.2.2.2]]) 0)∧(∀q0 q1 q2 q3 q4 q5 q6 q7 q8 p1 p2,Cz (pH qq q0 q1 q2 q3 q4 q5 q6 q7 q8 p1 p2) 324 [.cells [.mp 1 0,slv zI q5 .no,.mp 3 0,ai q8],.cells [slv zI q0 .no,.mp 2 0,slv zM q3 .no,slv zM q4 .no],.cells [slv zI q1 .no,slv xX q2 .no],.cells [ai q6,ai q7]] [.mp 0 0,tmA p1,tmA p2] (fun r=>ab r.1) (fun r=>[.cells [.mp 1 0,slv zI q5 .no,.mp 3 0,ai r.2.1],.cells [slv zI q0 .no,.mp 2 0,slv zM q3 .no,slv zM q4 .no],.cells [slv zI q1 .no,slv xX q2 .no],.cells [ai r.2.2.1,ai r.2.2.2]]) 0):=yW ⟨fun _ _ _ _ _ _ _ _ _ _ _=>cN,fun _ _ _ _ _ _ _ _ _ _ _=>cN⟩ fun qq ih=>⟨fun q0 q1 q2 q3 q4 q5 q6 q7 q8 p1 p2=>fw Tryz.func140<|rB 1 (rC 1 [0,1,2,3] zDc fun _=>rC 1 [0,1,2,3] zDc fun _=>rC 0 [0,1,2,3] J3 fun _=>fE 0)<|rB 1 (rC 1 [0,1,2,3] zDc fun _=>rC 1 [0,1,2,3] zDc fun _=>rC 0 [0,1,2,3] J3 fun _=>fE 0)<|rC 1 [0,1,2,3] zFb fun _=>rB 2 (rC 1 [0,1,2,3] zFb fun _=>rB 2 (rB 0 (fE 0)<|rA 3 (yY (o:=.no)) fun _=>rA 1 tR fun _=>rC 0 [0,1,2,3] T5 fun _=>fE 0)<|rA 3 (yY (o:=.no)) fun _=>rA 1 tR fun _=>rC 0 [0,1,2,3] T5 fun _=>fE 0)<|rC 1 [0,1,2,3] zFb fun _=>rB 2 (rA 3 (yY (o:=.no)) fun _=>rA 1 tR fun _=>rC 0 [0,1,2,3] T5 fun _=>fE 0)<|rB 2 (fE 0)<|rB 1 (rA 1 (yM (o:=.no)) fun _=>rA 2 (yM (o:=.no)) fun _=>rK 1 [0,1,2,3] J3 (fun _=>rA 2 (yM (o:=.no)) fun _=>rA 2 (yM (o:=.no)) fun _=>rC 1 [0,1,2,3] (ih.2 _ _ _ _ _ _ _ _ _ _ _) fun _=>fE 0) fun _=>fE 0)<|rB 1 (rC 3 [] zVL fun _=>fE 0)<|rC 2 [0,1,2,3] zMg fun _=>fE 0,
 fun q0 q1 q2 q3 q4 q5 q6 q7 q8 p1 p2=>fw Tryz.func324<|rC 2 [0,1,2,3] zUw fun _=>rB 2 (rC 4 [0,1,2,3] (ih.1 _ _ _ _ _ _ _ _ _ _ _) fun _=>fE 0)<|fE 2⟩
theorem zMf{qq q0 q1 q2 q3 q4 q5 q6 q7 q8 p1 p2}:Cz (pH qq q0 q1 q2 q3 q4 q5 q6 q7 q8 p1 p2) 324 [.cells [.mp 1 0,slv zI q5 .no,.mp 3 0,ai q8],.cells [slv zI q0 .no,.mp 2 0,slv zM q3 .no,slv zM q4 .no],.cells [slv zI q1 .no,slv xX q2 .no],.cells [ai q6,ai q7]] [.mp 0 0,tmA p1,tmA p2] (fun r=>ab r.1) (fun r=>[.cells [.mp 1 0,slv zI q5 .no,.mp 3 0,ai r.2.1],.cells [slv zI q0 .no,.mp 2 0,slv zM q3 .no,slv zM q4 .no],.cells [slv zI q1 .no,slv xX q2 .no],.cells [ai r.2.2.1,ai r.2.2.2]]) 0:=(aY _).2 _ _ _ _ _ _ _ _ _ _ _
def zAS(r:Bool×Int×Int×Int):Int:=if r.1=true then 9 else r.2.1
theorem T6{r:Bool×Int×Int×Int}(h:zAS r=8):r.1=false∧r.2.1=8:=by
 unfold zAS at h
 split at h
 ·omega
 ·rename_i h1;exact⟨by simpa using h1,h⟩
def F6(l:List Ent)(m:Bool)(L U e:Int)(q:Nat)(x y:Tm):Option (Bool×Int×Int×Int):=match m with
 |false=>wL q l l (evA l l.length 0) (l.map xR) (l.map uJ) l L U e x y
 |true=>pH q l l (evA l l.length 0) (l.map xR) (l.map uJ) l L U e x y
def zIZ(l:List Ent)(m:Bool)(L U e:Int)(q:Nat)(x y:Tm):Option (Bool×Int×Int×Int):=match m with
 |false=>bL q l l (evA l l.length 0) (l.map xR) (l.map uJ) l L U e x y
 |true=>bM q l l (evA l l.length 0) (l.map xR) (l.map uJ) l L U e x y
def QX(X:Bool->Int->Prop)(R:Int->Int->Bool×Int×Int×Int)(k:Int):Prop:=∃b e,e≠8∧(e=0->X b k)∧(e≠0->b=false∧∀b k,¬X b k)∧R=fun L U=>(b,e,L,U)
def HX(g:Int->Int->Nat->Option (Bool×Int×Int×Int))(X:Bool->Int->Prop)(f:Int):Prop:=Ou g zAS (QX X) (∀b k,X b k->f<k) f
def HC(l:List Ent)(m:Bool)(x y:Tm)(f:Int):Prop:=HX (fun L U q=>F6 l m L U 0 q x y) (Cv l m x y) f
theorem nF{X:Bool->Int->Prop}{e k:Int}(h8:e≠8)(h0:e≠0)(h:∀b k,¬X b k):QX X (fun L U=>(false,e,L,U)) k:=⟨false,e,h8,fun h=>absurd h h0,fun _=>⟨rfl,h⟩,rfl⟩
theorem m6{X:Bool->Int->Prop}{b:Bool}{k:Int}(h:X b k):QX X (fun L U=>(b,0,L,U)) k:=⟨b,0,by decide,fun _=>h,fun h=>absurd rfl h,rfl⟩
theorem zDb(l:List Ent)(m:Bool)(x y:Tm)(e:Int)(he:e≠0)(L U:Int):Evt (fun q=>F6 l m L U e q x y) (false,e,L,U):=by
 have hp:Evt (fun q=>zFc q (xO.mk l l (evA l l.length 0) (l.map xR) (l.map uJ)) l L U e x y) (x,y,false,e,L,U):=by
  simp only[zFc]
  exact Evt.ifT (by simpa using he) Evt.ret
 cases m with
 |false=>
  refine Evt.succ ?_
  simp only[F6,wL]
  exact hp.bind (Evt.ifF rfl Evt.ret)
 |true=>
  refine Evt.succ ?_
  simp only[F6,pH]
  exact hp.bind (Evt.ifF rfl Evt.ret)
theorem vM.one{C:Tm->Tm->Bool->Int->Prop}{p:PE}{b:Bool}{k:Int}:vM C [p] b k↔p.1.2=0∧p.2.2=0∧C p.1.1 p.2.1 b k:=by
 constructor
 ·rintro ⟨h1,h2,b1,k1,h3,⟨rfl,rfl,rfl⟩|⟨rfl,k2,⟨rfl,rfl⟩,rfl⟩⟩
  ·exact⟨h1,h2,h3⟩
  ·exact⟨h1,h2,by rwa[Int.add_zero]⟩
 ·rintro ⟨h1,h2,h3⟩
  refine⟨h1,h2,b,k,h3,?_⟩
  cases b with
  |false=>exact .inl ⟨rfl,rfl,rfl⟩
  |true=>exact .inr ⟨rfl,0,⟨rfl,rfl⟩,by omega⟩
theorem bN{l:List Ent}{p:PE}{r:List PE}{f:Int}{g:Int->Int->Nat->Option (Bool×Int×Int×Int)}{c:Int->Int->Int->Nat->Option (Bool×Int×Int×Int)}
  (h1:HX g (vM (Cv l false) [p]) f) (hc:∀k,0≤k->k≤f->HX (fun L U q=>c 0 L U q) (vM (Cv l false) r) (f-k)) :
  HX (fun L U q=>g L U q>>=fun r30=>if r30.1=true then c r30.2.1 r30.2.2.1 r30.2.2.2 q else some (false,r30.2.1,r30.2.2.1,r30.2.2.2)) (vM (Cv l false) (p::r)) f:=by
 refine Ou.bind h1 (fun h b k ha=>?_) (fun r hr=>?_) ?_
 ·obtain⟨a1,a2,b1,k1,a3,a4⟩:=ha
  have:=h b1 k1 (vM.one.2 ⟨a1,a2,a3⟩)
  rcases a4 with⟨-,-,a4⟩|⟨-,k2,a4,a5⟩
  ·omega
  ·have:=vM.nn (fun _ _ _ _ h=>Cv.nn h) a4;omega
 ·have:=T6 hr
  refine⟨_,Evt.ifF this.1 Evt.ret,?_⟩
  unfold zAS
  rw[if_neg (by simp)];exact this.2
 ·rintro R k k0 k1 ⟨b1,e1,h8,h0,hn,rfl⟩
  dsimp only
  by_cases e0:e1=0
  ·subst e0
   obtain⟨a1,a2,a3⟩:=vM.one.1 (h0 rfl)
   cases b1 with
   |false=>exact Ou.ifF rfl (Ou.ret (by omega) (m6 ⟨a1,a2,false,k,a3,.inl ⟨rfl,rfl,by omega⟩⟩))
   |true=>
    refine Ou.ifT rfl ((hc k k0 k1).mono ?_ fun h b k' ha=>?_)
    ·rintro R n _ _ ⟨b,e,g8,g0,gn,rfl⟩
     refine⟨b,e,g8,fun he=>⟨a1,a2,true,k,a3,.inr ⟨rfl,n,g0 he,rfl⟩⟩,fun he=>⟨(gn he).1,fun b' k' ha=>?_⟩,rfl⟩
     obtain⟨-,-,b1,k1,a4,a5⟩:=ha
     obtain⟨rfl,rfl⟩:=a3.det a4
     rcases a5 with⟨a5,-⟩|⟨-,k2,a5,-⟩
     ·cases a5
     ·exact(gn he).2 _ _ a5
    ·obtain⟨-,-,b1,k1,a4,a5⟩:=ha
     obtain⟨rfl,rfl⟩:=a3.det a4
     rcases a5 with⟨a5,-⟩|⟨-,k2,a5,a6⟩
     ·cases a5
     ·have:=h _ _ a5;omega
  ·obtain⟨rfl,hno⟩:=hn e0
   refine Ou.ifF rfl (Ou.ret (by omega) (nF h8 e0 fun b k ha=>?_))
   obtain⟨a1,a2,b1,k1,a3,-⟩:=ha
   exact hno b1 k1 (vM.one.2 ⟨a1,a2,a3⟩)
theorem zAT{l:List Ent}{p q:Tm×Int}{f:Int}(hf:0≤f)(h8:p.2≠8∧q.2≠8)(h:p.2=0->q.2=0->HC l false p.1 q.1 f):HX (fun L U n=>F6 l false L U (if p.2=0 then q.2 else p.2) n p.1 q.1) (vM (Cv l false) [(p,q)]) f:=by
 by_cases h1:p.2=0
 ·rw[if_pos h1]
  by_cases h2:q.2=0
  ·rw[h2]
   refine(h h1 h2).mono ?_ fun hs b k ha=>hs b k (vM.one.1 ha).2.2
   rintro R n _ _ ⟨b,e,g8,g0,gn,rfl⟩
   exact⟨b,e,g8,fun he=>vM.one.2 ⟨h1,h2,g0 he⟩,fun he=>⟨(gn he).1,fun b k ha=>(gn he).2 b k (vM.one.1 ha).2.2⟩,rfl⟩
  ·exact Ou.evt0 (fun L U=>zDb l false p.1 q.1 q.2 h2 L U) hf (nF h8.2 h2 fun b k ha=>h2 (vM.one.1 ha).2.1)
 ·rw[if_neg h1]
  exact Ou.evt0 (fun L U=>zDb l false p.1 q.1 p.2 h1 L U) hf (nF h8.1 h1 fun b k ha=>h1 (vM.one.1 ha).1)
theorem aZ{l:List Ent}{a b:Tm}{f:Int}(h:HC l false a b f):HX (fun L U n=>F6 l false L U 0 n a b) (vM (Cv l false) [((a,0),(b,0))]) f:=by
 refine h.mono ?_ fun hs b k ha=>hs b k (vM.one.1 ha).2.2
 rintro R n _ _ ⟨b,e,g8,g0,gn,rfl⟩
 exact⟨b,e,g8,fun he=>vM.one.2 ⟨rfl,rfl,g0 he⟩,fun he=>⟨(gn he).1,fun b k ha=>(gn he).2 b k (vM.one.1 ha).2.2⟩,rfl⟩
theorem zHv{l:List Ent}{f:Int}(hf:0≤f):HX (fun L U _=>some (true,0,L,U)) (vM (Cv l false) []) f:=Ou.ret hf (m6 ⟨rfl,rfl⟩)
theorem J4(t:Tm):(uR t).2≠8:=by
 unfold uR
 split
 ·simp
 ·dsimp only
  split
  ·split<;>simp
  ·exact R8 t 1 0
theorem J5{t:Tm}(hs:zG t=true):(uR t).1.Ok:=by
 unfold uR
 split
 ·rename_i h
  obtain⟨a,b,hab,-,hb⟩:=vT (zK hs).2.2 (.inr (.inl h))
  rw[hab];exact wF b hb
 ·exact sB (jZ t 1 0 (yG hs)) (yS _ _)
theorem zUu{t:Tm}(h:t.k=4):uR t=(nth t.sub 1,0):=if_pos h
theorem zUt{t:Tm}(h:t.k≠4):uR t=(.mk 5 0 [(vE t 1 0).1,.mk 1 0 []],if (vE t 1 0).2=0 then(if zG (.mk 5 0 [(vE t 1 0).1,.mk 1 0 []])=true then 0 else 2)else(vE t 1 0).2):=if_neg h
theorem fO(M:xO)(l:List Ent)(t:Tm)(hs:zG t=true)(L U e:Int):Evt (fun q=>dV q M l L U e t) ((uR t).1,if e=0 then(uR t).2 else e):=by
 simp only[dV]
 by_cases h4:t.k=4
 ·obtain⟨a,b,hab,-,-⟩:=vT (zK hs).2.2 (.inr (.inl h4))
  refine Evt.ifT (by simp[h4]) (Evt.pure (uB (by omega) (by rw[hab];simp)) (Evt.ret.eq ?_))
  rw[zUu h4]
  by_cases he:e=0
  ·simp[he]
  ·simp[he]
 ·rw[zUt h4]
  refine Evt.ifF (by simp[h4]) ((zCc t 1 (yG hs)).bind ((qL 0).bind ((pM _ _).bind ?_)))
  dsimp only
  by_cases h1:(vE t 1 0).2=0
  ·refine Evt.ifT (by simp[h1]) ((xB _ (sB (jZ t 1 0 (yG hs)) (yS _ _))).bind ?_)
   by_cases h2:zG (.mk 5 0 [(vE t 1 0).1,.mk 1 0 []])=true
   ·refine Evt.ifT h2 ?_
    by_cases he:e=0
    ·exact Evt.ifT (by simp[he]) (Evt.ret.eq (by simp[h1,h2,he]))
    ·exact Evt.ifF (by simp[he]) (Evt.ret.eq (by simp[he]))
   ·refine Evt.ifF (by simpa using h2) ?_
    by_cases he:e=0
    ·exact Evt.ifT (by simp[he]) (Evt.ret.eq (by simp[h1,h2,he]))
    ·exact Evt.ifF (by simp[he]) (Evt.ret.eq (by simp[he]))
  ·refine Evt.ifF (by simp[h1]) ?_
   by_cases he:e=0
   ·exact Evt.ifT (by simp[he]) (Evt.ret.eq (by simp[h1,he]))
   ·exact Evt.ifF (by simp[he]) (Evt.ret.eq (by simp[he]))
def jB(l:List Ent)(t:Tm):Int×List Tm×Bool:=if vB l t then((hdT t).n,arT t,true)else(0,[],false)
theorem zRZ(l:List Ent)(t:Tm)(hs:zG t=true):Evt (fun q=>zPl q (xV l) t) (zAL l t):=by
 simp only[zPl]
 refine(xB t (yG hs)).bind (Evt.ifT hs (((pW t (yG hs)).eq (by unfold mT;rw[if_pos hs])).bind ((zAM l t hs).bind Evt.ret)))
theorem qN{N:ByteArray->Bool}(l:List Ent)(hE:vK N l)(t:Tm)(hs:zG t=true)(L U e:Int):Evt (fun q=>Y0 q (xV l) l L U e t) (jB l t):=by
 simp only[Y0]
 refine(zRZ l t hs).bind ?_
 by_cases h:iG l t
 ·have hcs:=sC hs h
  obtain⟨A,z,a1,-,-,a4,a5,a6,a7,f0,f1,-⟩:=tN hE hcs.1 hcs.2.1 hcs.2.2.1
  have c:zAL l t=((hdT t).n,arT t,true):=if_pos h
  rw[c]
  refine Evt.ifT rfl (Evt.pure (yF hcs.1 hcs.2.1) (Evt.pure (yF f0 (show (ent l (hdT t).n).fam<_ by omega)) ?_))
  by_cases h2:xW l (hdT t).n=[]
  ·have r:jB l t=(0,[],false):=if_neg (fun h=>h.2 h2)
   rw[r]
   have h3:(ent l (ent l (hdT t).n).fam).fields=[]:=h2
   exact Evt.ifT (by rw[h3];rfl) Evt.ret
  ·have r:jB l t=((hdT t).n,arT t,true):=if_pos ⟨h,h2⟩
   rw[r]
   have h3:(ent l (ent l (hdT t).n).fam).fields≠[]:=h2
   have:=List.length_pos_iff.2 h3
   exact Evt.ifF (by simp;omega) Evt.ret
 ·have c:zAL l t=(0,[],false):=if_neg h
  have r:jB l t=(0,[],false):=if_neg (fun h'=>h h'.1)
  rw[c,r]
  exact Evt.ifF rfl Evt.ret
theorem qO{N:ByteArray->Bool}{l:List Ent}{c:Int}(hE:vK N l)(h0:0≤c)(h1:c<l.length)(hk:(ent l c).kind=2)(hf:xW l c≠[]) :
  (uD (ent l c).type:Int)=(ent l c).pars+(xW l c).length∧0≤(ent l c).pars∧0≤(ent l c).fam∧(ent l c).fam<l.length∧∀n∈xW l c,isT l n 4=true:=by
 obtain⟨A,z,a1,-,-,a4,a5,a6,a7,f0,f1,fk,fp,fi,fs,-,q0,q1⟩:=tN hE h0 h1 hk
 have hft:=(xQ (hE.2 _ f0 (by omega))).2.1 fk
 have hcn:=(xQ (hE.2 c h0 h1)).2.2.1 hk
 unfold qU at hft
 simp only[Bool.and_eq_true,Bool.or_eq_true,decide_eq_true_eq]at hft
 have hne:(ent l (ent l c).fam).fields.length≠0:=fun h=>hf (List.length_eq_zero_iff.1 h)
 have hD:=hft.2.resolve_left hne
 have hC:=hft.1.2
 unfold zRh at hD
 unfold zAB at hC
 simp only[Bool.and_eq_true,beq_iff_eq,decide_eq_true_eq]at hD hC
 obtain⟨⟨⟨⟨⟨d1,d2⟩,d3⟩,d4⟩,d5⟩,d6⟩:=hD
 unfold zFx nD zLL at hcn
 simp only[Bool.and_eq_true,decide_eq_true_eq,beq_iff_eq]at hcn
 have hown:R6 l (ent l c)=(ent l (ent l c).fam).cons:=by unfold R6;rw[if_neg (by omega)]
 have hpl:=hcn.1.2
 rw[hown]at hpl
 obtain⟨w,hw⟩:∃w,(ent l (ent l c).fam).cons=[w]:=by
  rcases hc:(ent l (ent l c).fam).cons with _|⟨w,_|⟨v,r⟩⟩<;>rw[hc]at d2<;>simp at d2
  exact⟨w,rfl⟩
 rw[hw]at hC hpl
 have hwc:w=c:=by
  have h3:=hpl.2
  have h4:(ent l c).place.toNat=0:=by have:=hpl.1.2;simp at this;omega
  rw[h4]at h3
  simpa using h3
 have hrun:=hC.1.2
 rw[X6]at hrun
 simp only[Bool.and_eq_true,beq_iff_eq]at hrun
 have hc1:c=(ent l c).fam+1:=by omega
 rw[←hc1,a1]at d6
 refine⟨?_,a6,f0,by omega,?_⟩
 ·rw[←a4,fp];exact d6
 ·have key:∀(r:List Int) (k:Int),aR l (ent l c).fam 4 r k=true->∀n∈r,isT l n 4=true:=by
   intro r
   induction r with
   |nil=>intro k _ n hn;cases hn
   |cons a r ih=>
    intro k h n hn
    rw[aR]at h
    simp only[Bool.and_eq_true]at h
    rcases List.mem_cons.1 hn with rfl|hn
    ·exact h.1.1.1
    ·exact ih _ h.2 n hn
  exact key _ 0 d4
theorem zPk{l:List Ent}{c:Int}{i:Nat}(h:i<(xW l c).length):zL (ent l (ent l c).fam).fields (i:Int)=some (((xW l c)[i]?).getD (-1)):=by
 unfold zL
 rw[if_pos (by omega),show (i:Int).toNat=i by omega]
 show (xW l c)[i]? = _
 rw[List.getElem?_eq_getElem h];rfl
theorem zDa(l:List Ent)(t:Tm)(c:Int)(i:Nat)(pars:List Tm):(uC l t c i pars).2≠8:=by
 unfold uC
 split
 ·simp
 ·dsimp only;split<;>simp
theorem zDA{l:List Ent}{t:Tm}(hs:zG t=true){c:Int}{i:Nat}{pars:List Tm}(hp:OkA pars):(uC l t c i pars).1.Ok:=by
 unfold uC
 split
 ·exact zPt (Q:=Tm.Ok) (fun a ha=>yG (xP hs ha)) C7
 ·exact sB (uQ _ _ (yS _ _) hp) (yG hs)
theorem zHu{N:ByteArray->Bool}(l:List Ent)(hE:vK N l)(t:Tm)(hs:zG t=true)(L U e c:Int)(i:Nat)(pars:List Tm)(h0:0≤c)(h1:c<l.length)(hk:(ent l c).kind=2)(hi:i<(xW l c).length)(hp:(pars.length:Int)=(ent l c).pars)(hop:OkA pars) :
  Evt (fun q=>zMh q (xV l) l L U e t c (i:Int) pars) ((uC l t c i pars).1,if e=0 then(uC l t c i pars).2 else e):=by
 have hf:xW l c≠[]:=fun h=>by rw[h]at hi;simp at hi
 obtain⟨r1,r2,r3,r4,-⟩:=qO hE h0 h1 hk hf
 have hpl:(ent l c).pars≤24∧uD (ent l c).type≤24:=by
  obtain⟨A,z,a1,-,-,a4,a5,a6,a7,-⟩:=tN hE h0 h1 hk
  omega
 have tail:Evt (fun q=>zL l c>>=fun x7=>zL l x7.fam>>=fun x9=>zL x9.fields (i:Int)>>=fun x11=>X9 q x11>>=fun r13=>nI q r13 pars>>=fun r15=>kY q r15 t>>=fun r17=>if (e==0)=true then tV q r17>>=fun r20=>if r20=true then some (r17,e)else some (r17,2)else some (r17,e))
   (.mk 5 0 [apT (.mk 6 (((xW l c)[i]?).getD (-1)) []) pars,t],if e=0 then(if zG (.mk 5 0 [apT (.mk 6 (((xW l c)[i]?).getD (-1)) []) pars,t])=true then 0 else 2)else e):=by
  refine Evt.pure (yF h0 h1) (Evt.pure (yF r3 r4) (Evt.pure (zPk hi) (Evt.bind (a:=.mk 6 (((xW l c)[i]?).getD (-1)) []) (Evt.mk fun _=>rfl) ((vA _ pars (by omega)).bind ((pM _ t).bind ?_)))))
  by_cases he:e=0
  ·refine Evt.ifT (by simp[he]) ((xB _ (sB (uQ _ _ (yS _ _) hop) (yG hs))).bind ?_)
   by_cases h2:zG (.mk 5 0 [apT (.mk 6 (((xW l c)[i]?).getD (-1)) []) pars,t])=true
   ·exact Evt.ifT h2 (Evt.ret.eq (by simp[h2,he]))
   ·exact Evt.ifF (by simpa using h2) (Evt.ret.eq (by simp[h2,he]))
  ·exact Evt.ifF (by simp[he]) (Evt.ret.eq (by simp[he]))
 simp only[zMh]
 refine(qN l hE t hs L U e).bind ?_
 by_cases h:vB l t
 ·have r:jB l t=((hdT t).n,arT t,true):=if_pos h
  rw[r]
  refine Evt.ifT rfl ?_
  by_cases h2:(hdT t).n=c
  ·have hpc:uC l t c i pars=(nth (arT t) ((pars.length+i:Nat):Int),0):=if_pos ⟨h,h2⟩
   rw[hpc]
   have hal:(arT t).length=uD (ent l c).type:=by rw[←h2];exact h.1.2
   refine Evt.ifT (by simp[h2]) ?_
   rw[zV (x:=(pars.length:Int)+i) (by omega) (by omega),show (pars.length:Int)+(i:Int)=((pars.length+i:Nat):Int) by omega]
   refine Evt.pure (uB (by omega) (by show _<((arT t).length:Int);omega)) (Evt.ret.eq ?_)
   by_cases he:e=0
   ·simp[he]
   ·simp[he]
  ·have hpc:uC l t c i pars=(.mk 5 0 [apT (.mk 6 (((xW l c)[i]?).getD (-1)) []) pars,t],if zG (.mk 5 0 [apT (.mk 6 (((xW l c)[i]?).getD (-1)) []) pars,t])=true then 0 else 2):=if_neg (fun h'=>h2 h'.2)
   rw[hpc]
   exact Evt.ifF (by simpa using h2) tail
 ·have r:jB l t=(0,[],false):=if_neg h
  have hpc:uC l t c i pars=(.mk 5 0 [apT (.mk 6 (((xW l c)[i]?).getD (-1)) []) pars,t],if zG (.mk 5 0 [apT (.mk 6 (((xW l c)[i]?).getD (-1)) []) pars,t])=true then 0 else 2):=if_neg (fun h'=>h h'.1)
  rw[r,hpc]
  exact Evt.ifF rfl tail
def er6(r:Tm×Tm×Bool×Int×Int×Int):Int:=if r.2.2.1=true then 9 else r.2.2.2.1
theorem zQD{r:Tm×Tm×Bool×Int×Int×Int}(h:er6 r=8):r.2.2.1=false∧r.2.2.2.1=8:=by
 unfold er6 at h
 split at h
 ·omega
 ·rename_i h1;exact⟨by simpa using h1,h⟩
def QP(l:List Ent)(x y:Tm)(R:Int->Int->Tm×Tm×Bool×Int×Int×Int)(k:Int):Prop:=
 (∃x' k1 y' k2,xF l x∧xF l y∧Br l x x' 0 k1∧Br l y y' 0 k2∧k=k1+k2∧R=fun L U=>(x',y',true,0,L,U)) ∨
 (∃a b e,e≠0∧e≠8∧(∀m b k,¬Cv l m x y b k)∧R=fun L U=>(a,b,false,e,L,U))
theorem T7{N:ByteArray->Bool}(l:List Ent)(hE:vK N l)(he:∀e∈l,EOk e)(x:Tm)(ho:x.Ok)(f:Int)(hf:0≤f):Ou (fun L U q=>zMi q (xV l) l L U 0 x) er4 (QBR l x) (xF l x∧∀y e k,Br l x y e k->f<k) f:=by
 simp only[zMi]
 refine Ou.bind (m4 l hE he x ho f hf) id (fun r hr=>⟨_,Evt.ifT rfl Evt.ret,hr⟩) ?_
 rintro R k k0 k1 hQ
 have hQ':=hQ
 rcases hQ with⟨hR,rfl,rfl⟩|⟨hR,y,e,hbr,rfl⟩
 ·exact Ou.ifT rfl (Ou.ret (by omega) (by rw[Int.add_zero];exact hQ'))
 ·exact Ou.ifT rfl (Ou.ret (by omega) (by rw[Int.add_zero];exact hQ'))
theorem zDB{N:ByteArray->Bool}(l:List Ent)(hE:vK N l)(he:∀e∈l,EOk e)(x y:Tm)(hx:x.Ok)(hy:y.Ok)(f:Int)(hf:0≤f):Ou (fun L U q=>zFc q (xV l) l L U 0 x y) er6 (QP l x y) (∀m b k,Cv l m x y b k->f<k) f:=by
 simp only[zFc]
 refine Ou.ifF rfl (Ou.bind (T7 l hE he x hx f hf) (fun h m b k hc=>?_) (fun r hr=>?_) ?_)
 ·obtain⟨-,-,x',k1,y',k2,k3,h1,h2,h3,rfl⟩:=hc.inv
  have:=h.2 _ _ _ h1
  have:=h2.nn
  have:=h3.nn (fun _ _ _ _ _ h=>Cv.nn h)
  omega
 ·refine⟨_,Evt.ifT (by show (r.2.1 != 0)=true;rw[show r.2.1=8 from hr];decide) Evt.ret,?_⟩
  unfold er6
  rw[if_neg (by simp)];exact hr
 ·rintro R k k0 k1 (⟨hR,rfl,rfl⟩|⟨hR,x',e,hbr,rfl⟩)
  ·exact Ou.ifT rfl (Ou.ret (by omega) (.inr ⟨_,_,5,by decide,by decide,fun m b k hc=>hR hc.inv.1,rfl⟩))
  ·dsimp only
   by_cases e0:e=0
   ·subst e0
    rw[if_pos rfl]
    refine Ou.ifF rfl (Ou.bind (T7 l hE he y hy (f-k) (by omega)) (fun h m b k' hc=>?_) (fun r hr=>⟨_,Evt.ret,?_⟩) ?_)
    ·obtain⟨-,-,x1,k1,y',k2,k3,h1,h2,h3,rfl⟩:=hc.inv
     obtain⟨-,-,rfl⟩:=hbr.det h1
     have:=h.2 _ _ _ h2
     have:=h3.nn (fun _ _ _ _ _ h=>Cv.nn h)
     omega
    ·have hr':r.2.1=8:=hr
     unfold er6
     dsimp only
     rw[hr',if_neg (by decide)]
    ·rintro R n n0 n1 (⟨hR2,rfl,rfl⟩|⟨hR2,y',e,hbr2,rfl⟩)
     ·exact Ou.ret (by omega) (.inr ⟨x',zT,5,by decide,by decide,fun m b k hc=>hR2 hc.inv.2.1,rfl⟩)
     ·by_cases e1:e=0
      ·subst e1
       exact Ou.ret (by omega) (.inl ⟨x',k,y',n,hR,hR2,hbr,hbr2,by omega,by funext L U;simp⟩)
      ·refine Ou.ret (by omega) (.inr ⟨x',zT,e,e1,hbr2.e8 hE hR2.shaped,fun m b k' hc=>?_,by simp[e1,show (e==0)=false by simpa using e1]⟩)
       obtain⟨-,-,x1,k1,y1,k2,k3,h1,h2,h3,-⟩:=hc.inv
       exact e1 (hbr2.det h2).2.1.symm
   ·rw[if_neg e0]
    refine Ou.ifT (by simpa using e0) (Ou.ret (by omega) (.inr ⟨zT,y,e,e0,hbr.e8 hE hR.shaped,fun m b k' hc=>?_,rfl⟩))
    obtain⟨-,-,x1,k1,y1,k2,k3,h1,-⟩:=hc.inv
    exact e0 (hbr.det h1).2.1.symm
def BC(l:List Ent)(f:Int)(W:Nat):Prop:=∀m p q,p.Ok->q.Ok->wtT l p+wtT l q<W->∀g,0≤g->g≤f->HC l m p q g
theorem BC.le{l:List Ent}{f g:Int}{W:Nat}(h:BC l f W)(hg:g≤f):BC l g W:=fun m p q a b c d e k=>h m p q a b c d e (by omega)
theorem HX.imp{g g':Int->Int->Nat->Option (Bool×Int×Int×Int)}{X:Bool->Int->Prop}{f:Int}(h:HX g X f)(k:∀L U r,Evt (g L U) r->Evt (g' L U) r):HX g' X f:=Ou.imp h k
theorem HX.same{g:Int->Int->Nat->Option (Bool×Int×Int×Int)}{X:Bool->Int->Prop}{f:Int}(h:HX g X f):HX (fun L U q=>g L U q>>=fun r=>some (r.1,r.2.1,r.2.2.1,r.2.2.2)) X f:=h.imp fun L U r h=>h.bind Evt.ret
theorem zHt(l:List Ent)(x y:Tm×List Tm)(W:Nat)(hl:x.2.length≤8192)(hxy:y.2.length=x.2.length)(hox:OkA x.2)(hoy:OkA y.2)(hw:∀a∈x.2,∀b∈y.2,wtT l a+wtT l b<W):∀(r s:List Tm) (v:Nat) (f:Int),x.2.drop v=r->y.2.drop v=s->0≤f->BC l f W ->
  HX (fun L U q=>wE q l l (evA l l.length 0) (l.map xR) (l.map uJ) l x y (v:Int) 0 L U) (vM (Cv l false) (zDd r s)) f
 | [],s,v,f,hd,hs,hf,hB=>by
  refine Ou.succ ?_
  simp only[wE]
  have e:zDd [] s=[]:=by cases s<;>rfl
  rw[e]
  exact Ou.ifF (zX hd) (zHv hf)
 |a::r,[],v,f,hd,hs,hf,hB=>by
  have hlt:=yC hd
  have:y.2.length≤v:=List.drop_eq_nil_iff.1 hs
  omega
 |a::r,b::s,v,f,hd,hs,hf,hB=>by
  have hlt:=yC hd
  have hma:a∈x.2:=by
   have:a∈x.2.drop v:=by rw[hd];simp
   exact List.mem_of_mem_drop this
  have hmb:b∈y.2:=by
   have:b∈y.2.drop v:=by rw[hs];simp
   exact List.mem_of_mem_drop this
  refine Ou.succ ?_
  simp only[wE]
  refine Ou.ifT (zW hd) (Ou.pure (zS hd) (Ou.pure (zS hs) ?_))
  rw[zU v (by omega)]
  exact bN (c:=fun e L U q=>wE q l l (evA l l.length 0) (l.map xR) (l.map uJ) l x y ((v+1:Nat):Int) e L U) (aZ (hB false a b (hox a hma) (hoy b hmb) (hw a hma b hmb) f hf (Int.le_refl f)))
   fun k k0 k1=>zHt l x y W hl hxy hox hoy hw r s (v+1) (f-k) (zQ hd) (zQ hs) (by omega) (hB.le (by omega))
theorem qW{l:List Ent}{m b:Bool}{f:Int}(hf:0≤f):HX (fun L U _=>some (b,0,L,U)) (HdR (Cv l) m (.ans b)) f:=Ou.ret hf (m6 ⟨rfl,rfl⟩)
theorem T8(l:List Ent)(m:Bool)(x y:Tm)(hsx:zG x=true)(hsy:zG y=true)(f:Int)(hf:0≤f)(hB:BC l f (wtT l x+wtT l y)):HX (fun L U q=>lB q l l (evA l l.length 0) (l.map xR) (l.map uJ) l L U 0 x y) (HdR (Cv l) m (jA x y)) f:=by
 have hgx:=(zK hsx).2.2
 have hgy:=(zK hsy).2.2
 have hgh:=(zK (sL hsx)).2.2
 have hgk:=(zK (sL hsy)).2.2
 have hox:OkA (arT x):=fun a ha=>yG (xP hsx ha)
 have hoy:OkA (arT y):=fun a ha=>yG (xP hsy ha)
 have hlx:(arT x).length≤8192:=by
  have h:=zK hsx
  have:=sA _ h.2.2
  omega
 have hwx:=T4 l x hgx
 have hwy:=T4 l y hgy
 have hph:=zAO l (hdT x)
 have hpk:=zAO l (hdT y)
 have hw:∀a∈arT x,∀b∈arT y,wtT l a+wtT l b<wtT l x+wtT l y:=fun a ha b hb=>by
  have:=zAP l ha
  have:=zAP l hb
  omega
 refine Ou.succ ?_
 simp only[lB]
 refine Ou.evt (rJ x hsx) (Ou.evt (rJ y hsy) ?_)
 dsimp only
 by_cases c1:(hdT x).k=(hdT y).k
 ·refine Ou.ifF (by simp[c1]) ?_
  by_cases c2:(hdT x).n=(hdT y).n
  ·refine Ou.ifF (by simp[c2]) ?_
   by_cases c3:(arT x).length=(arT y).length
   ·refine Ou.ifF (by simp[c3]) ?_
    have loop:∀g,0≤g->g≤f->HX (fun L U q=>wE q l l (evA l l.length 0) (l.map xR) (l.map uJ) l (hdT x,arT x) (hdT y,arT y) 0 0 L U) (vM (Cv l false) (zDd (arT x) (arT y))) g:=fun g g0 g1=>zHt l (hdT x,arT x) (hdT y,arT y) _ hlx c3.symm hox hoy hw (arT x) (arT y) 0 g rfl rfl g0 (hB.le g1)
    by_cases c4:(hdT x).k=7
    ·obtain⟨s,hs⟩:∃s,(hdT x).sub=[s]:=by
      revert hgh c4
      generalize hdT x=w
      intro hg h7
      obtain⟨kk,nn,ss⟩:=w
      obtain⟨s,hs,-⟩:=(sI (wQ hg).1).2.2.2.2.2.2.1 h7
      exact⟨s,hs⟩
     obtain⟨s',hs'⟩:∃s,(hdT y).sub=[s]:=by
      have c4':(hdT y).k=7:=by omega
      revert hgk c4'
      generalize hdT y=w
      intro hg h7
      obtain⟨kk,nn,ss⟩:=w
      obtain⟨s,hs,-⟩:=(sI (wQ hg).1).2.2.2.2.2.2.1 h7
      exact⟨s,hs⟩
     refine Ou.ifT (by simp[c4]) (Ou.pure (uB (by omega) (by rw[hs];simp)) (Ou.pure (uB (by omega) (by rw[hs'];simp)) ?_))
     by_cases c5:(nth (hdT x).sub 0).n=(nth (hdT y).sub 0).n
     ·refine Ou.ifF (by simp[c5]) (Ou.ifF (by simp[c4]) ?_)
      have e:jA x y = .all (zDd (arT x) (arT y)):=by
       unfold jA zPm
       rw[if_neg (by omega),if_neg (by omega),List.nil_append]
      rw[e]
      exact loop f hf (Int.le_refl f)
     ·refine Ou.ifT (by simpa using c5) ?_
      have e:jA x y = .ans false:=by unfold jA;rw[if_pos (.inr (.inr (.inr ⟨c4,c5⟩)))]
      rw[e];exact qW hf
    ·refine Ou.ifF (by simpa using c4) ?_
     by_cases c5:(hdT x).k=3
     ·have c5':(hdT y).k=3:=by omega
      obtain⟨a,b,hab,hga,hgb⟩:=vT hgh (.inl c5)
      obtain⟨a',b',hab',hga',hgb'⟩:=vT hgk (.inl c5')
      have ea:nth (hdT x).sub 0=a:=by rw[hab];rfl
      have eb:nth (hdT x).sub 1=b:=by rw[hab];rfl
      have ea':nth (hdT y).sub 0=a':=by rw[hab'];rfl
      have eb':nth (hdT y).sub 1=b':=by rw[hab'];rfl
      have e:jA x y = .all (((a,0),(a',0))::((b,0),(b',0))::zDd (arT x) (arT y)):=by
       unfold jA zPm
       rw[if_neg (by omega),if_pos c5,ea,eb,ea',eb'];rfl
      have w1:=iK l (hdT x)
      have w2:=iK l (hdT y)
      rw[hab,wtL,wtL,wtL]at w1
      rw[hab',wtL,wtL,wtL]at w2
      have v1:=(iJ l (hdT x).k (hdT x).n).1
      have v2:=(iJ l (hdT y).k (hdT y).n).1
      rw[e]
      refine Ou.ifT (by simp[c5]) (Ou.pure (a:=a) (by rw[hab];rfl) (Ou.pure (a:=a') (by rw[hab'];rfl) ?_))
      refine bN (c:=fun e L U q=>zL (hdT x).sub 1>>=fun x33=>zL (hdT y).sub 1>>=fun x35=>wL q l l (evA l l.length 0) (l.map xR) (l.map uJ) l L U e x33 x35>>=fun r37=>if r37.1=true then wE q l l (evA l l.length 0) (l.map xR) (l.map uJ) l (hdT x,arT x) (hdT y,arT y) 0 r37.2.1 r37.2.2.1 r37.2.2.2 else some (false,r37.2.1,r37.2.2.1,r37.2.2.2)) (aZ (hB false a a' (wF a hga) (wF a' hga') (by omega) f hf (Int.le_refl f))) fun k k0 k1=>?_
      refine Ou.pure (a:=b) (by rw[hab];rfl) (Ou.pure (a:=b') (by rw[hab'];rfl) ?_)
      exact bN (c:=fun e L U q=>wE q l l (evA l l.length 0) (l.map xR) (l.map uJ) l (hdT x,arT x) (hdT y,arT y) 0 e L U) (aZ (hB false b b' (wF b hgb) (wF b' hgb') (by omega) (f-k) (by omega) (by omega))) fun k' k0' k1'=>loop (f-k-k') (by omega) (by omega)
     ·refine Ou.ifF (by simpa using c5) ?_
      have e:jA x y = .all (zDd (arT x) (arT y)):=by
       unfold jA zPm
       rw[if_neg (by omega),if_neg c5,List.nil_append]
      rw[e]
      exact loop f hf (Int.le_refl f)
   ·refine Ou.ifT (by simp;omega) ?_
    have e:jA x y = .ans false:=by unfold jA;rw[if_pos (.inr (.inr (.inl c3)))]
    rw[e];exact qW hf
  ·refine Ou.ifT (by simpa using c2) ?_
   have e:jA x y = .ans false:=by unfold jA;rw[if_pos (.inr (.inl c2))]
   rw[e];exact qW hf
 ·refine Ou.ifT (by simpa using c1) ?_
  have e:jA x y = .ans false:=by unfold jA;rw[if_pos (.inl c1)]
  rw[e];exact qW hf
theorem T9{N:ByteArray->Bool}(l:List Ent)(hE:vK N l)(x y:Tm)(c:Int)(pars:List Tm)(W:Nat)(hsx:zG x=true)(hsy:zG y=true)(h0:0≤c)(h1:c<l.length)(hk:(ent l c).kind=2)(hp:(pars.length:Int)=(ent l c).pars)(hop:OkA pars)
  (hw:∀i,i<(xW l c).length->wtT l (uC l x c i pars).1+wtT l (uC l y c i pars).1<W):∀(m i:Nat) (f:Int),i+m=(xW l c).length->0≤f->BC l f W ->
  HX (fun L U q=>uF q l l (evA l l.length 0) (l.map xR) (l.map uJ) l x y c pars (ent l (ent l c).fam) (i:Int) 0 L U) (vM (Cv l false) (F5 l x y c pars m i)) f
 |0,i,f,hm,hf,hB=>by
  refine Ou.succ ?_
  simp only[uF]
  have hm':i=(ent l (ent l c).fam).fields.length:=hm
  exact Ou.ifF (decide_eq_false (by omega)) (zHv hf)
 |m+1,i,f,hm,hf,hB=>by
  have hi:i<(xW l c).length:=by omega
  have hne:xW l c≠[]:=fun h=>by rw[h]at hi;simp at hi
  have hlen:(xW l c).length≤24:=by
   have r:=qO hE h0 h1 hk hne
   obtain⟨A,z,a1,-,-,a4,a5,a6,a7,-⟩:=tN hE h0 h1 hk
   omega
  refine Ou.succ ?_
  simp only[uF]
  refine Ou.ifT (decide_eq_true (by show (i:Int)<((xW l c).length:Int);omega)) ?_
  have e1:=fun L U=>zHu l hE x hsx L U 0 c i pars h0 h1 hk hi hp hop
  have e2:=fun L U=>zHu l hE y hsy L U (uC l x c i pars).2 c i pars h0 h1 hk hi hp hop
  refine HX.imp (g:=fun L U q=>F6 l false L U (if (uC l x c i pars).2=0 then(uC l y c i pars).2 else(uC l x c i pars).2) q (uC l x c i pars).1 (uC l y c i pars).1>>=fun r10=>if r10.1=true then uF q l l (evA l l.length 0) (l.map xR) (l.map uJ) l x y c pars (ent l (ent l c).fam) ((i+1:Nat):Int) r10.2.1 r10.2.2.1 r10.2.2.2 else some (false,r10.2.1,r10.2.2.1,r10.2.2.2)) ?_ fun L U r h=>?_
  ·exact bN (c:=fun e L U q=>uF q l l (evA l l.length 0) (l.map xR) (l.map uJ) l x y c pars (ent l (ent l c).fam) ((i+1:Nat):Int) e L U)
    (zAT (p:=uC l x c i pars) (q:=uC l y c i pars) hf ⟨zDa _ _ _ _ _,zDa _ _ _ _ _⟩ fun _ _=>hB false _ _ (zDA hsx hop) (zDA hsy hop) (hw i hi) f hf (Int.le_refl f))
    fun k k0 k1=>T9 l hE x y c pars W hsx hsy h0 h1 hk hp hop hw m (i+1) (f-k) (by omega) (by omega) (hB.le (by omega))
  ·have a1:=e1 L U
   rw[if_pos rfl]at a1
   rw[zU i (by omega)]
   exact a1.bind ((e2 L U).bind h)
theorem zMe{l:List Ent}{m:Bool}{a a' c1 c1':Tm}{f:Int}{g:Int->Int->Nat->Option (Bool×Int×Int×Int)}{c:Int->Int->Int->Nat->Option (Bool×Int×Int×Int)}
  (h1:HX g (Cv l false a a') f) (hc:∀k,0≤k->k≤f->HX (fun L U q=>c 0 L U q) (Cv l m c1 c1') (f-k)) :
  HX (fun L U q=>g L U q>>=fun r30=>if r30.1=true then c r30.2.1 r30.2.2.1 r30.2.2.2 q else some (false,r30.2.1,r30.2.2.1,r30.2.2.2)) (HdR (Cv l) m (.pi a a' c1 c1')) f:=by
 refine Ou.bind h1 (fun h b k ha=>?_) (fun r hr=>?_) ?_
 ·obtain⟨b1,k1,a3,a4⟩:=ha
  have:=h b1 k1 a3
  rcases a4 with⟨-,-,a4⟩|⟨-,k2,a4,a5⟩
  ·omega
  ·have:=a4.nn;omega
 ·have:=T6 hr
  refine⟨_,Evt.ifF this.1 Evt.ret,?_⟩
  unfold zAS
  rw[if_neg (by simp)];exact this.2
 ·rintro R k k0 k1 ⟨b1,e1,h8,h0,hn,rfl⟩
  dsimp only
  by_cases e0:e1=0
  ·subst e0
   have a3:=h0 rfl
   cases b1 with
   |false=>exact Ou.ifF rfl (Ou.ret (by omega) (m6 ⟨false,k,a3,.inl ⟨rfl,rfl,by omega⟩⟩))
   |true=>
    refine Ou.ifT rfl ((hc k k0 k1).mono ?_ fun h b k' ha=>?_)
    ·rintro R n _ _ ⟨b,e,g8,g0,gn,rfl⟩
     refine⟨b,e,g8,fun he=>⟨true,k,a3,.inr ⟨rfl,n,g0 he,rfl⟩⟩,fun he=>⟨(gn he).1,fun b' k' ha=>?_⟩,rfl⟩
     obtain⟨b1,k1,a4,a5⟩:=ha
     obtain⟨rfl,rfl⟩:=a3.det a4
     rcases a5 with⟨a5,-⟩|⟨-,k2,a5,-⟩
     ·cases a5
     ·exact(gn he).2 _ _ a5
    ·obtain⟨b1,k1,a4,a5⟩:=ha
     obtain⟨rfl,rfl⟩:=a3.det a4
     rcases a5 with⟨a5,-⟩|⟨-,k2,a5,a6⟩
     ·cases a5
     ·have:=h _ _ a5;omega
  ·obtain⟨rfl,hno⟩:=hn e0
   refine Ou.ifF rfl (Ou.ret (by omega) (nF h8 e0 fun b k ha=>?_))
   obtain⟨b1,k1,a3,-⟩:=ha
   exact hno b1 k1 a3
theorem zMd(l:List Ent){x y:Tm}(hgx:xS x=true)(hgy:xS y=true)(hp:(uR x).2=0)(hq:(uR y).2=0)(h:x.k=4∨y.k=4):wtT l (uR x).1+wtT l (uR y).1<wtT l x+wtT l y:=by
 have lam:∀t:Tm,xS t=true->t.k=4->wtT l (uR t).1+4≤wtT l t:=fun t hg h4=>by
  obtain⟨a,b,hab,-,-⟩:=vT hg (.inr (.inl h4))
  rw[zUu h4,hab]
  have w:=iK l t
  rw[hab,wtL,wtL,wtL]at w
  have e:nwT l t.k t.n=3:=by unfold nwT;rw[if_pos h4]
  have:=zAO l a
  show wtT l b+4≤_
  omega
 have oth:∀t:Tm,(uR t).2=0->t.k≠4->wtT l (uR t).1≤wtT l t+2:=fun t h0 h4=>by
  rw[zUt h4]at h0 ⊢
  have h1:(vE t 1 0).2=0:=by
   by_cases h1:(vE t 1 0).2=0
   ·exact h1
   ·rw[if_neg h1]at h0;exact h0
  rw[(bG h1).2.2.2.2,wtT,wtL,wtL,wtL,wtT,wtL]
  have e1:nwT l 5 0=1:=by unfold nwT;simp
  have e2:nwT l 1 0=1:=by unfold nwT;simp
  have:=zQB l t 0 0 1
  omega
 by_cases h1:x.k=4
 ·have a:=lam x hgx h1
  by_cases h2:y.k=4
  ·have b:=lam y hgy h2;omega
  ·have b:=oth y hq h2;omega
 ·have a:=oth x hp h1
  have b:=lam y hgy (h.resolve_left h1)
  omega
theorem zMc{N:ByteArray->Bool}{l:List Ent}(hE:vK N l){x y:Tm}(hsx:zG x=true)(hsy:zG y=true){c:Int}{pars:List Tm}(h0:0≤c)(h1:c<l.length)(hk:(ent l c).kind=2){i:Nat}(hi:i<(xW l c).length)
  (h:(vB l x∧(hdT x).n=c∧pars=rT l x∧(vB l y->(hdT y).n=c))∨(¬vB l x∧vB l y∧(hdT y).n=c∧pars=rT l y)):wtT l (uC l x c i pars).1+wtT l (uC l y c i pars).1<wtT l x+wtT l y:=by
 have hne:xW l c≠[]:=fun h=>by rw[h]at hi;simp at hi
 obtain⟨r1,r2,r3,r4,r5⟩:=qO hE h0 h1 hk hne
 have con:∀t:Tm,zG t=true->vB l t->(hdT t).n=c->pars.length=(ent l c).pars.toNat->wtT l (uC l t c i pars).1+wtL l (rT l t)+(ent l c).pars.toNat+3≤wtT l t:=fun t hs hr hn hl=>by
  have e:uC l t c i pars=(nth (arT t) ((pars.length+i:Nat):Int),0):=if_pos ⟨hr,hn⟩
  rw[e]
  show wtT l (nth (arT t) ((pars.length+i:Nat):Int))+wtL l (rT l t)+(ent l c).pars.toNat+3≤wtT l t
  have hlen:(arT t).length=uD (ent l c).type:=by rw[←hn];exact hr.1.2
  have hk6:=(tC hr.1.1 (by decide)).1
  have hw:=T4 l t (zK hs).2.2
  have hh:=iK l (hdT t)
  have e2:nwT l (hdT t).k (hdT t).n=2:=by unfold nwT;rw[if_neg (by omega),if_pos ⟨hk6,by rw[hn];exact hk⟩]
  have hsplit:arT t=(arT t).take (ent l c).pars.toNat++(arT t).drop (ent l c).pars.toNat:=(List.take_append_drop _ _).symm
  have hwl:wtL l (arT t)=wtL l (rT l t)+wtL l ((arT t).drop (ent l c).pars.toNat):=by
   have:rT l t=(arT t).take (ent l c).pars.toNat:=by unfold rT;rw[hn]
   rw[this,←zAQ,List.take_append_drop]
  have hm:nth (arT t) ((pars.length+i:Nat):Int)∈(arT t).drop (ent l c).pars.toNat:=by
   unfold nth
   have hlt:pars.length+i<(arT t).length:=by omega
   rw[show (((pars.length+i:Nat):Int)).toNat=pars.length+i by omega,List.getElem?_eq_getElem hlt]
   show (arT t)[pars.length+i]∈_
   have:(arT t)[pars.length+i]=((arT t).drop (ent l c).pars.toNat)[i]'(by simp;omega):=by
    rw[List.getElem_drop]
    congr 1
    omega
   rw[this]
   exact List.getElem_mem _
  have:=zAP l hm
  have:(arT t).length≥(ent l c).pars.toNat+1:=by omega
  have hnn:0≤wtL l (hdT t).sub:=Nat.zero_le _
  omega
 have oth:∀t:Tm,¬(vB l t∧(hdT t).n=c)->wtT l (uC l t c i pars).1=2+wtL l pars+pars.length+wtT l t:=fun t hr=>by
  have e:uC l t c i pars=(.mk 5 0 [apT (.mk 6 (((xW l c)[i]?).getD (-1)) []) pars,t],if zG (.mk 5 0 [apT (.mk 6 (((xW l c)[i]?).getD (-1)) []) pars,t])=true then 0 else 2):=if_neg hr
  rw[e]
  have hfk:(ent l (((xW l c)[i]?).getD (-1))).kind=4:=by
   rw[List.getElem?_eq_getElem hi]
   exact(wU (r5 _ (List.getElem_mem hi))).2.2
  have e1:nwT l 5 0=1:=by unfold nwT;simp
  have e2:nwT l 6 (((xW l c)[i]?).getD (-1))=1:=by unfold nwT;rw[if_neg (by decide),if_neg (by omega)]
  show wtT l (.mk 5 0 [apT (.mk 6 (((xW l c)[i]?).getD (-1)) []) pars,t])=_
  rw[wtT,wtL,wtL,wtL,zQC,wtT,wtL,e1,e2]
  omega
 have plen:∀t:Tm,zG t=true->vB l t->(hdT t).n=c->(rT l t).length=(ent l c).pars.toNat:=fun t hs hr hn=>by
  have hlen:(arT t).length=uD (ent l c).type:=by rw[←hn];exact hr.1.2
  unfold rT
  rw[hn,List.length_take]
  omega
 rcases h with⟨hx,hn,hp,hy⟩|⟨hx,hy,hn,hp⟩
 ·have hl:=plen x hsx hx hn
  rw[←hp]at hl
  have a:=con x hsx hx hn hl
  rw[←hp]at a
  by_cases ry:vB l y
  ·have b:=con y hsy ry (hy ry) hl
   omega
  ·have b:=oth y (fun h=>ry h.1)
   omega
 ·have hl:=plen y hsy hy hn
  rw[←hp]at hl
  have a:=con y hsy hy hn hl
  rw[←hp]at a
  have b:=oth x (fun h=>hx h.1)
  omega
theorem zFa{N:ByteArray->Bool}(l:List Ent)(hE:vK N l)(x y:Tm)(hsx:zG x=true)(hsy:zG y=true)(f:Int)(hf:0≤f)(hB:BC l f (wtT l x+wtT l y)):HX (fun L U q=>zIZ l false L U 0 q x y) (HdR (Cv l) false (wC l false x y)) f:=by
 have hgx:=(zK hsx).2.2
 have hgy:=(zK hsy).2.2
 refine Ou.succ ?_
 simp only[zIZ,bL]
 have lamC:x.k=4∨y.k=4->HX (fun L U q=>dV q (xO.mk l l (evA l l.length 0) (l.map xR) (l.map uJ)) l L U 0 x>>=fun r2=>dV q (xO.mk l l (evA l l.length 0) (l.map xR) (l.map uJ)) l L U r2.2 y>>=fun r4=>wL q l l (evA l l.length 0) (l.map xR) (l.map uJ) l L U r4.2 r2.1 r4.1>>=fun r6=>some (r6.1,r6.2.1,r6.2.2.1,r6.2.2.2)) (HdR (Cv l) false (wC l false x y)) f:=fun h=>by
  have e:wC l false x y = .all [(uR x,uR y)]:=if_pos h
  rw[e]
  refine HX.imp (g:=fun L U q=>F6 l false L U (if (uR x).2=0 then(uR y).2 else(uR x).2) q (uR x).1 (uR y).1>>=fun r6=>some (r6.1,r6.2.1,r6.2.2.1,r6.2.2.2)) ?_ fun L U r h=>?_
  ·refine HX.same (zAT (p:=uR x) (q:=uR y) hf ⟨J4 x,J4 y⟩ fun hp hq=>hB false _ _ (J5 hsx) (J5 hsy) ?_ f hf (Int.le_refl f))
   exact zMd l hgx hgy hp hq h
  ·have a1:=fO (xV l) l x hsx L U 0
   have a2:=fO (xV l) l y hsy L U (uR x).2
   rw[if_pos rfl]at a1
   exact a1.bind (a2.bind h)
 refine Ou.ite (fun h=>lamC (.inl (by simpa using h))) fun h4=>Ou.ite (fun h=>lamC (.inr (by simpa using h))) fun h4'=>?_
 have n4:¬(x.k=4∨y.k=4):=by
  have a:x.k≠4:=by simpa using h4
  have b:y.k≠4:=by simpa using h4'
  omega
 have flds:∀(c:Int) (pars:List Tm),(vB l x∧(hdT x).n=c∧pars=rT l x∧(vB l y->(hdT y).n=c))∨(¬vB l x∧vB l y∧(hdT y).n=c∧pars=rT l y)->∀cs:List Tm,gsl cs 0 (ent l c).pars=some pars ->
   HX (fun L U q=>zL l c>>=fun x22=>gsl cs 0 x22.pars>>=fun x24=>uN q l l (evA l l.length 0) (l.map xR) (l.map uJ) l L U 0 x y c x24>>=fun r26=>some (r26.1,r26.2.1,r26.2.2.1,r26.2.2.2)) (vM (Cv l false) (F5 l x y c pars (xW l c).length 0)) f:=fun c pars h cs hcs=>by
  have hc:∃t,(t=x∨t=y)∧zG t=true∧vB l t∧(hdT t).n=c∧pars=rT l t:=by
   rcases h with h|h
   ·exact⟨x,.inl rfl,hsx,h.1,h.2.1,h.2.2.1⟩
   ·exact⟨y,.inr rfl,hsy,h.2.1,h.2.2.1,h.2.2.2⟩
  obtain⟨t,-,hst,hrt,hnt,hpt⟩:=hc
  have hcs':=sC hst hrt.1
  rw[hnt]at hcs'
  have hf0:=hrt.2
  rw[hnt]at hf0
  have rf:=qO hE hcs'.1 hcs'.2.1 hcs'.2.2.1 hf0
  have hop:OkA pars:=by rw[hpt];exact OkA.take (fun a ha=>yG (xP hst ha)) _
  have hpl:(pars.length:Int)=(ent l c).pars:=by
   rw[hpt];unfold rT
   rw[hnt,List.length_take]
   omega
  refine Ou.pure (yF hcs'.1 hcs'.2.1) (Ou.pure hcs (HX.same (Ou.succ ?_)))
  simp only[uN]
  refine Ou.pure (yF hcs'.1 hcs'.2.1) (Ou.pure (yF rf.2.2.1 rf.2.2.2.1) ?_)
  exact T9 l hE x y c pars _ hsx hsy hcs'.1 hcs'.2.1 hcs'.2.2.1 hpl hop (fun i hi=>zMc hE hsx hsy hcs'.1 hcs'.2.1 hcs'.2.2.1 hi h) (xW l c).length 0 f (by omega) hf hB
 have par_sl:∀t,zG t=true->vB l t->gsl (arT t) 0 (ent l (hdT t).n).pars=some (rT l t):=fun t hst hrt=>by
  have hcs':=sC hst hrt.1
  have rf:=qO hE hcs'.1 hcs'.2.1 hcs'.2.2.1 hrt.2
  rw[fM (by omega) rf.2.1 (by omega)]
  unfold rT;simp
 refine Ou.evt (qN l hE x hsx 0 0 0) ?_
 by_cases rx:vB l x
 ·have ex:jB l x=((hdT x).n,arT x,true):=if_pos rx
  rw[ex]
  refine Ou.ifT rfl (Ou.evt (qN l hE y hsy 0 0 0) ?_)
  by_cases ry:vB l y
  ·have ey:jB l y=((hdT y).n,arT y,true):=if_pos ry
   rw[ey]
   refine Ou.ifT rfl ?_
   by_cases hn:(hdT x).n=(hdT y).n
   ·have e:wC l false x y = .all (F5 l x y (hdT x).n (rT l x) (xW l (hdT x).n).length 0):=by
     unfold wC;rw[if_neg n4,if_pos rx,if_neg (fun h=>h.2 hn)]
    rw[e]
    exact Ou.ifF (by simp[hn]) (flds _ _ (.inl ⟨rx,rfl,rfl,fun _=>hn.symm⟩) (arT x) (par_sl x hsx rx))
   ·have e:wC l false x y = .ans false:=by
     unfold wC;rw[if_neg n4,if_pos rx,if_pos ⟨ry,hn⟩]
    rw[e]
    exact Ou.ifT (by simpa using hn) (qW hf)
  ·have ey:jB l y=(0,[],false):=if_neg ry
   have e:wC l false x y = .all (F5 l x y (hdT x).n (rT l x) (xW l (hdT x).n).length 0):=by
    unfold wC;rw[if_neg n4,if_pos rx,if_neg (fun h=>ry h.1)]
   rw[ey,e]
   exact Ou.ifF rfl (flds _ _ (.inl ⟨rx,rfl,rfl,fun h=>absurd h ry⟩) (arT x) (par_sl x hsx rx))
 ·have ex:jB l x=(0,[],false):=if_neg rx
  rw[ex]
  refine Ou.ifF rfl (Ou.evt (qN l hE y hsy 0 0 0) ?_)
  by_cases ry:vB l y
  ·have ey:jB l y=((hdT y).n,arT y,true):=if_pos ry
   have e:wC l false x y = .all (F5 l x y (hdT y).n (rT l y) (xW l (hdT y).n).length 0):=by
    unfold wC;rw[if_neg n4,if_neg rx,if_pos ry]
   rw[ey,e]
   exact Ou.ifT rfl (flds _ _ (.inr ⟨rx,ry,rfl,rfl⟩) (arT y) (par_sl y hsy ry))
  ·have ey:jB l y=(0,[],false):=if_neg ry
   rw[ey]
   refine Ou.ifF rfl ?_
   by_cases hk:x.k=y.k
   ·refine Ou.ifF (by simp[hk]) ?_
    by_cases k3:x.k=3
    ·have e:wC l false x y = .pi (nth x.sub 0) (nth y.sub 0) (nth x.sub 1) (nth y.sub 1):=by
      unfold wC;rw[if_neg n4,if_neg rx,if_neg ry,if_neg (by simpa using hk),if_pos k3]
     obtain⟨a,b,hab,hga,hgb⟩:=vT hgx (.inl k3)
     obtain⟨a',b',hab',hga',hgb'⟩:=vT hgy (.inl (by omega))
     have ea:nth x.sub 0=a:=by rw[hab];rfl
     have eb:nth x.sub 1=b:=by rw[hab];rfl
     have ea':nth y.sub 0=a':=by rw[hab'];rfl
     have eb':nth y.sub 1=b':=by rw[hab'];rfl
     have w1:=iK l x
     have w2:=iK l y
     rw[hab,wtL,wtL,wtL]at w1
     rw[hab',wtL,wtL,wtL]at w2
     have v1:=(iJ l x.k x.n).1
     have v2:=(iJ l y.k y.n).1
     rw[e,ea,eb,ea',eb']
     refine Ou.ifT (by simp[k3]) (Ou.pure (a:=a) (by rw[hab];rfl) (Ou.pure (a:=a') (by rw[hab'];rfl) ?_))
     refine zMe (c:=fun e L U q=>zL x.sub 1>>=fun x52=>zL y.sub 1>>=fun x54=>wL q l l (evA l l.length 0) (l.map xR) (l.map uJ) l L U e x52 x54>>=fun r56=>some (r56.1,r56.2.1,r56.2.2.1,r56.2.2.2)) (hB false a a' (wF a hga) (wF a' hga') (by omega) f hf (Int.le_refl f)) fun k k0 k1=>?_
     exact Ou.pure (a:=b) (by rw[hab];rfl) (Ou.pure (a:=b') (by rw[hab'];rfl) (HX.same (hB false b b' (wF b hgb) (wF b' hgb') (by omega) (f-k) (by omega) (by omega))))
    ·refine Ou.ifF (by simpa using k3) ?_
     by_cases k2:x.k=2
     ·have e:wC l false x y = .ans (if false=true then decide (x.n≤y.n)else x.n==y.n):=by
       unfold wC;rw[if_neg n4,if_neg rx,if_neg ry,if_neg (by simpa using hk),if_neg k3,if_pos k2]
      rw[e]
      refine Ou.ifT (by simp[k2]) (Ou.evt (a:=if false=true then decide (x.n≤y.n)else x.n==y.n) (Evt.mk fun q=>?_) (qW hf))
      simp[zRY]
     ·have e:wC l false x y=jA x y:=by
       unfold wC;rw[if_neg n4,if_neg rx,if_neg ry,if_neg (by simpa using hk),if_neg k3,if_neg k2]
      rw[e]
      exact Ou.ifF (by simpa using k2) (HX.same (T8 l false x y hsx hsy f hf hB))
   ·have e:wC l false x y = .ans false:=by
     unfold wC;rw[if_neg n4,if_neg rx,if_neg ry,if_pos hk]
    rw[e]
    exact Ou.ifT (by simpa using hk) (qW hf)
theorem zFA{N:ByteArray->Bool}(l:List Ent)(hE:vK N l)(x y:Tm)(hsx:zG x=true)(hsy:zG y=true)(f:Int)(hf:0≤f)(hB:BC l f (wtT l x+wtT l y)):HX (fun L U q=>zIZ l true L U 0 q x y) (HdR (Cv l) true (wC l true x y)) f:=by
 have hgx:=(zK hsx).2.2
 have hgy:=(zK hsy).2.2
 refine Ou.succ ?_
 simp only[zIZ,bM]
 have lamC:x.k=4∨y.k=4->HX (fun L U q=>dV q (xO.mk l l (evA l l.length 0) (l.map xR) (l.map uJ)) l L U 0 x>>=fun r2=>dV q (xO.mk l l (evA l l.length 0) (l.map xR) (l.map uJ)) l L U r2.2 y>>=fun r4=>wL q l l (evA l l.length 0) (l.map xR) (l.map uJ) l L U r4.2 r2.1 r4.1>>=fun r6=>some (r6.1,r6.2.1,r6.2.2.1,r6.2.2.2)) (HdR (Cv l) true (wC l true x y)) f:=fun h=>by
  have e:wC l true x y = .all [(uR x,uR y)]:=if_pos h
  rw[e]
  refine HX.imp (g:=fun L U q=>F6 l false L U (if (uR x).2=0 then(uR y).2 else(uR x).2) q (uR x).1 (uR y).1>>=fun r6=>some (r6.1,r6.2.1,r6.2.2.1,r6.2.2.2)) ?_ fun L U r h=>?_
  ·refine HX.same (zAT (p:=uR x) (q:=uR y) hf ⟨J4 x,J4 y⟩ fun hp hq=>hB false _ _ (J5 hsx) (J5 hsy) ?_ f hf (Int.le_refl f))
   exact zMd l hgx hgy hp hq h
  ·have a1:=fO (xV l) l x hsx L U 0
   have a2:=fO (xV l) l y hsy L U (uR x).2
   rw[if_pos rfl]at a1
   exact a1.bind (a2.bind h)
 refine Ou.ite (fun h=>lamC (.inl (by simpa using h))) fun h4=>Ou.ite (fun h=>lamC (.inr (by simpa using h))) fun h4'=>?_
 have n4:¬(x.k=4∨y.k=4):=by
  have a:x.k≠4:=by simpa using h4
  have b:y.k≠4:=by simpa using h4'
  omega
 have flds:∀(c:Int) (pars:List Tm),(vB l x∧(hdT x).n=c∧pars=rT l x∧(vB l y->(hdT y).n=c))∨(¬vB l x∧vB l y∧(hdT y).n=c∧pars=rT l y)->∀cs:List Tm,gsl cs 0 (ent l c).pars=some pars ->
   HX (fun L U q=>zL l c>>=fun x22=>gsl cs 0 x22.pars>>=fun x24=>uN q l l (evA l l.length 0) (l.map xR) (l.map uJ) l L U 0 x y c x24>>=fun r26=>some (r26.1,r26.2.1,r26.2.2.1,r26.2.2.2)) (vM (Cv l false) (F5 l x y c pars (xW l c).length 0)) f:=fun c pars h cs hcs=>by
  have hc:∃t,(t=x∨t=y)∧zG t=true∧vB l t∧(hdT t).n=c∧pars=rT l t:=by
   rcases h with h|h
   ·exact⟨x,.inl rfl,hsx,h.1,h.2.1,h.2.2.1⟩
   ·exact⟨y,.inr rfl,hsy,h.2.1,h.2.2.1,h.2.2.2⟩
  obtain⟨t,-,hst,hrt,hnt,hpt⟩:=hc
  have hcs':=sC hst hrt.1
  rw[hnt]at hcs'
  have hf0:=hrt.2
  rw[hnt]at hf0
  have rf:=qO hE hcs'.1 hcs'.2.1 hcs'.2.2.1 hf0
  have hop:OkA pars:=by rw[hpt];exact OkA.take (fun a ha=>yG (xP hst ha)) _
  have hpl:(pars.length:Int)=(ent l c).pars:=by
   rw[hpt];unfold rT
   rw[hnt,List.length_take]
   omega
  refine Ou.pure (yF hcs'.1 hcs'.2.1) (Ou.pure hcs (HX.same (Ou.succ ?_)))
  simp only[uN]
  refine Ou.pure (yF hcs'.1 hcs'.2.1) (Ou.pure (yF rf.2.2.1 rf.2.2.2.1) ?_)
  exact T9 l hE x y c pars _ hsx hsy hcs'.1 hcs'.2.1 hcs'.2.2.1 hpl hop (fun i hi=>zMc hE hsx hsy hcs'.1 hcs'.2.1 hcs'.2.2.1 hi h) (xW l c).length 0 f (by omega) hf hB
 have par_sl:∀t,zG t=true->vB l t->gsl (arT t) 0 (ent l (hdT t).n).pars=some (rT l t):=fun t hst hrt=>by
  have hcs':=sC hst hrt.1
  have rf:=qO hE hcs'.1 hcs'.2.1 hcs'.2.2.1 hrt.2
  rw[fM (by omega) rf.2.1 (by omega)]
  unfold rT;simp
 refine Ou.evt (qN l hE x hsx 0 0 0) ?_
 by_cases rx:vB l x
 ·have ex:jB l x=((hdT x).n,arT x,true):=if_pos rx
  rw[ex]
  refine Ou.ifT rfl (Ou.evt (qN l hE y hsy 0 0 0) ?_)
  by_cases ry:vB l y
  ·have ey:jB l y=((hdT y).n,arT y,true):=if_pos ry
   rw[ey]
   refine Ou.ifT rfl ?_
   by_cases hn:(hdT x).n=(hdT y).n
   ·have e:wC l true x y = .all (F5 l x y (hdT x).n (rT l x) (xW l (hdT x).n).length 0):=by
     unfold wC;rw[if_neg n4,if_pos rx,if_neg (fun h=>h.2 hn)]
    rw[e]
    exact Ou.ifF (by simp[hn]) (flds _ _ (.inl ⟨rx,rfl,rfl,fun _=>hn.symm⟩) (arT x) (par_sl x hsx rx))
   ·have e:wC l true x y = .ans false:=by
     unfold wC;rw[if_neg n4,if_pos rx,if_pos ⟨ry,hn⟩]
    rw[e]
    exact Ou.ifT (by simpa using hn) (qW hf)
  ·have ey:jB l y=(0,[],false):=if_neg ry
   have e:wC l true x y = .all (F5 l x y (hdT x).n (rT l x) (xW l (hdT x).n).length 0):=by
    unfold wC;rw[if_neg n4,if_pos rx,if_neg (fun h=>ry h.1)]
   rw[ey,e]
   exact Ou.ifF rfl (flds _ _ (.inl ⟨rx,rfl,rfl,fun h=>absurd h ry⟩) (arT x) (par_sl x hsx rx))
 ·have ex:jB l x=(0,[],false):=if_neg rx
  rw[ex]
  refine Ou.ifF rfl (Ou.evt (qN l hE y hsy 0 0 0) ?_)
  by_cases ry:vB l y
  ·have ey:jB l y=((hdT y).n,arT y,true):=if_pos ry
   have e:wC l true x y = .all (F5 l x y (hdT y).n (rT l y) (xW l (hdT y).n).length 0):=by
    unfold wC;rw[if_neg n4,if_neg rx,if_pos ry]
   rw[ey,e]
   exact Ou.ifT rfl (flds _ _ (.inr ⟨rx,ry,rfl,rfl⟩) (arT y) (par_sl y hsy ry))
  ·have ey:jB l y=(0,[],false):=if_neg ry
   rw[ey]
   refine Ou.ifF rfl ?_
   by_cases hk:x.k=y.k
   ·refine Ou.ifF (by simp[hk]) ?_
    by_cases k3:x.k=3
    ·have e:wC l true x y = .pi (nth x.sub 0) (nth y.sub 0) (nth x.sub 1) (nth y.sub 1):=by
      unfold wC;rw[if_neg n4,if_neg rx,if_neg ry,if_neg (by simpa using hk),if_pos k3]
     obtain⟨a,b,hab,hga,hgb⟩:=vT hgx (.inl k3)
     obtain⟨a',b',hab',hga',hgb'⟩:=vT hgy (.inl (by omega))
     have ea:nth x.sub 0=a:=by rw[hab];rfl
     have eb:nth x.sub 1=b:=by rw[hab];rfl
     have ea':nth y.sub 0=a':=by rw[hab'];rfl
     have eb':nth y.sub 1=b':=by rw[hab'];rfl
     have w1:=iK l x
     have w2:=iK l y
     rw[hab,wtL,wtL,wtL]at w1
     rw[hab',wtL,wtL,wtL]at w2
     have v1:=(iJ l x.k x.n).1
     have v2:=(iJ l y.k y.n).1
     rw[e,ea,eb,ea',eb']
     refine Ou.ifT (by simp[k3]) (Ou.pure (a:=a) (by rw[hab];rfl) (Ou.pure (a:=a') (by rw[hab'];rfl) ?_))
     refine zMe (c:=fun e L U q=>zL x.sub 1>>=fun x52=>zL y.sub 1>>=fun x54=>pH q l l (evA l l.length 0) (l.map xR) (l.map uJ) l L U e x52 x54>>=fun r56=>some (r56.1,r56.2.1,r56.2.2.1,r56.2.2.2)) (hB false a a' (wF a hga) (wF a' hga') (by omega) f hf (Int.le_refl f)) fun k k0 k1=>?_
     exact Ou.pure (a:=b) (by rw[hab];rfl) (Ou.pure (a:=b') (by rw[hab'];rfl) (HX.same (hB true b b' (wF b hgb) (wF b' hgb') (by omega) (f-k) (by omega) (by omega))))
    ·refine Ou.ifF (by simpa using k3) ?_
     by_cases k2:x.k=2
     ·have e:wC l true x y = .ans (if true=true then decide (x.n≤y.n)else x.n==y.n):=by
       unfold wC;rw[if_neg n4,if_neg rx,if_neg ry,if_neg (by simpa using hk),if_neg k3,if_pos k2]
      rw[e]
      refine Ou.ifT (by simp[k2]) (Ou.evt (a:=if true=true then decide (x.n≤y.n)else x.n==y.n) (Evt.mk fun q=>?_) (qW hf))
      simp[zRX]
     ·have e:wC l true x y=jA x y:=by
       unfold wC;rw[if_neg n4,if_neg rx,if_neg ry,if_neg (by simpa using hk),if_neg k3,if_neg k2]
      rw[e]
      exact Ou.ifF (by simpa using k2) (HX.same (T8 l true x y hsx hsy f hf hB))
   ·have e:wC l true x y = .ans false:=by
     unfold wC;rw[if_neg n4,if_neg rx,if_neg ry,if_pos hk]
    rw[e]
    exact Ou.ifT (by simpa using hk) (qW hf)
theorem zJz{N:ByteArray->Bool}(l:List Ent)(hE:vK N l)(m:Bool)(x y:Tm)(hsx:zG x=true)(hsy:zG y=true)(f:Int)(hf:0≤f)(hB:BC l f (wtT l x+wtT l y)):HX (fun L U q=>zIZ l m L U 0 q x y) (HdR (Cv l) m (wC l m x y)) f:=by
 cases m with
 |false=>exact zFa l hE x y hsx hsy f hf hB
 |true=>exact zFA l hE x y hsx hsy f hf hB
def zFB(qq:Nat)(M:xO):Option (Int):=
 some (List.length M.l:Int)
theorem zMb{qq M}:Cz (zFB qq M) 137 [mB M 1,mR M] [.mp 0 0] (fun r=>ai r) (fun _=>[mB M 1,mR M]) 0:=fw Tryz.func137<|fE 3
def zFC(qq:Nat)(M:xO):Option (List Ent):=
 e51 qq M.l>>=fun r1=>
 some r1
theorem zSz{qq M}:Cz (zFC qq M) 138 [mB M 1,mR M] [.mp 0 0] (fun r=>.sl (zD zI r) (List.length r) .no) (fun _=>[mB M 1,mR M]) 0:=fw Tryz.func138<|rC 2 [] c51 fun _=>fE 0
def U0(qq:Nat)(q0 q1:List Ent)(q2:List xN)(q3 q4:List Int)(q5:List Ent)(q6 q7 q8 q9 q10:Int)(q11:List Tm)(q12 q13:Int)(q14:List Tm):Option (Bool×Int×Int×Int):=
 pH qq q0 q1 q2 q3 q4 q5 q6 q7 q8 (Tm.mk q9 q10 q11) (Tm.mk q12 q13 q14)>>=fun r1=>
 some (r1.1,r1.2.1,r1.2.2.1,r1.2.2.2)
theorem zMa{qq q0 q1 q2 q3 q4 q5 q6 q7 q8 q9 q10 q11 q12 q13 q14}:Cz (U0 qq q0 q1 q2 q3 q4 q5 q6 q7 q8 q9 q10 q11 q12 q13 q14) 323 [.cells [.mp 1 0,slv zI q5 .no,.mp 3 0,ai q8],.cells [slv zI q0 .no,.mp 2 0,slv zM q3 .no,slv zM q4 .no],.cells [slv zI q1 .no,slv xX q2 .no],.cells [ai q6,ai q7],.cells [ai q9,ai q10,slv zA q11 .no],.cells [ai q12,ai q13,slv zA q14 .no]] [.mp 0 0,.mp 4 0,.mp 5 0] (fun r=>ab r.1) (fun r=>[.cells [.mp 1 0,slv zI q5 .no,.mp 3 0,ai r.2.1],.cells [slv zI q0 .no,.mp 2 0,slv zM q3 .no,slv zM q4 .no],.cells [slv zI q1 .no,slv xX q2 .no],.cells [ai r.2.2.1,ai r.2.2.2],.cells [ai q9,ai q10,slv zA q11 .no],.cells [ai q12,ai q13,slv zA q14 .no]]) 0:=fw Tryz.func323<|rC 2 [0,1,2,3] zMf fun _=>fE 0
def zAU(qq:Nat)(q0 q1:List Ent)(q2:List xN)(q3 q4:List Int)(p1 p2:Tm)(q7 q8 q9 q10:Int)(q11:List Tm)(q12 q13:Int)(q14:List Tm):Option (Bool×Int×Int×Int):=
 zFB qq (xO.mk q0 q1 q2 q3 q4)>>=fun r1=>
 O8 qq p1 1048577 r1>>=fun r3=>
 if r3 then
 zFB qq (xO.mk q0 q1 q2 q3 q4)>>=fun r6=>
 O8 qq p2 1048577 r6>>=fun r8=>
 if r8 then
 zFC qq (xO.mk q0 q1 q2 q3 q4)>>=fun r11=>
 U0 qq q0 q1 q2 q3 q4 r11 q7 q8 0 q9 q10 q11 q12 q13 q14>>=fun r13=>
 if r13.1 then
 some ((r13.2.1==0),r13.2.1,r13.2.2.1,r13.2.2.2)
 else
 some (false,r13.2.1,r13.2.2.1,r13.2.2.2)
 else
 some (false,5,q7,q8)
 else
 some (false,5,q7,q8)
theorem zPj{qq q0 q1 q2 q3 q4 p1 p2 q7 q8 q9 q10 q11 q12 q13 q14}:Cz (zAU qq q0 q1 q2 q3 q4 p1 p2 q7 q8 q9 q10 q11 q12 q13 q14) 69 [.cells [slv zI q0 .no,.mp 1 0,slv zM q3 .no,slv zM q4 .no],.cells [slv zI q1 .no,slv xX q2 .no],.cells [ai q7,ai q8],.cells [ai q9,ai q10,slv zA q11 .no],.cells [ai q12,ai q13,slv zA q14 .no]] [.mp 0 0,tmA p1,tmA p2,.mp 2 0,.clo 323 [] [.mp 3 0,.mp 4 0]] (fun r=>.tup [ab r.1,ai r.2.1]) (fun r=>[.cells [slv zI q0 .no,.mp 1 0,slv zM q3 .no,slv zM q4 .no],.cells [slv zI q1 .no,slv xX q2 .no],.cells [ai r.2.2.1,ai r.2.2.2],.cells [ai q9,ai q10,slv zA q11 .no],.cells [ai q12,ai q13,slv zA q14 .no]]) 0:=fw Tryz.func69<|rC 2 [0,1] zMb fun _=>rK 0 [] zEH (fun _=>rC 2 [0,1] zMb fun _=>rK 0 [] zEH (fun _=>rC 1 [0,1] zSz fun _=>rK 0 [7,0,1,2,3,4] zMa (fun _=>fE 3) fun _=>fE 1) fun _=>fE 1) fun _=>fE 1
def zJy(qq:Nat)(M:xO)(p1 p2:Tm)(fl fu:Int):Option (Bool×Int×Int×Int):=
 zAU qq M.l M.rl M.parts M.args M.own p1 p2 fl fu p1.k p1.n p1.sub p2.k p2.n p2.sub>>=fun r1=>
 some (r1.1,r1.2.1,r1.2.2.1,r1.2.2.2)
theorem zUs{qq M p1 p2 fl fu}:Cz (zJy qq M p1 p2 fl fu) 307 [mB M 1,mR M,.cells [ai fl,ai fu]] [.mp 0 0,tmA p1,tmA p2,.mp 2 0] (fun r=>.tup [ab r.1,ai r.2.1]) (fun r=>[mB M 1,mR M,.cells [ai r.2.2.1,ai r.2.2.2]]) 0:=fw Tryz.func307<|rC 2 [0,1,2,3,4] zPj fun _=>fE 2
def zAV(qq:Nat)(q0 q1:List Ent)(q2:List xN)(q3 q4:List Int)(q5:List Ent)(q6 q7 q8 q9 q10:Int)(q11:List Tm)(q12 q13:Int)(q14:List Tm):Option (Bool×Int×Int×Int):=
 wL qq q0 q1 q2 q3 q4 q5 q6 q7 q8 (Tm.mk q9 q10 q11) (Tm.mk q12 q13 q14)>>=fun r1=>
 some (r1.1,r1.2.1,r1.2.2.1,r1.2.2.2)
theorem zPi{qq q0 q1 q2 q3 q4 q5 q6 q7 q8 q9 q10 q11 q12 q13 q14}:Cz (zAV qq q0 q1 q2 q3 q4 q5 q6 q7 q8 q9 q10 q11 q12 q13 q14) 70 [.cells [.mp 1 0,slv zI q5 .no,.mp 3 0,ai q8],.cells [slv zI q0 .no,.mp 2 0,slv zM q3 .no,slv zM q4 .no],.cells [slv zI q1 .no,slv xX q2 .no],.cells [ai q6,ai q7],.cells [ai q9,ai q10,slv zA q11 .no],.cells [ai q12,ai q13,slv zA q14 .no]] [.mp 0 0,.mp 4 0,.mp 5 0] (fun r=>ab r.1) (fun r=>[.cells [.mp 1 0,slv zI q5 .no,.mp 3 0,ai r.2.1],.cells [slv zI q0 .no,.mp 2 0,slv zM q3 .no,slv zM q4 .no],.cells [slv zI q1 .no,slv xX q2 .no],.cells [ai r.2.2.1,ai r.2.2.2],.cells [ai q9,ai q10,slv zA q11 .no],.cells [ai q12,ai q13,slv zA q14 .no]]) 0:=fw Tryz.func70<|rC 2 [0,1,2,3] J3 fun _=>fE 0
def zAW(qq:Nat)(q0 q1:List Ent)(q2:List xN)(q3 q4:List Int)(p1 p2:Tm)(q7 q8 q9 q10:Int)(q11:List Tm)(q12 q13:Int)(q14:List Tm):Option (Bool×Int×Int×Int):=
 zFB qq (xO.mk q0 q1 q2 q3 q4)>>=fun r1=>
 O8 qq p1 1048577 r1>>=fun r3=>
 if r3 then
 zFB qq (xO.mk q0 q1 q2 q3 q4)>>=fun r6=>
 O8 qq p2 1048577 r6>>=fun r8=>
 if r8 then
 zFC qq (xO.mk q0 q1 q2 q3 q4)>>=fun r11=>
 zAV qq q0 q1 q2 q3 q4 r11 q7 q8 0 q9 q10 q11 q12 q13 q14>>=fun r13=>
 if r13.1 then
 some ((r13.2.1==0),r13.2.1,r13.2.2.1,r13.2.2.2)
 else
 some (false,r13.2.1,r13.2.2.1,r13.2.2.2)
 else
 some (false,5,q7,q8)
 else
 some (false,5,q7,q8)
theorem zPh{qq q0 q1 q2 q3 q4 p1 p2 q7 q8 q9 q10 q11 q12 q13 q14}:Cz (zAW qq q0 q1 q2 q3 q4 p1 p2 q7 q8 q9 q10 q11 q12 q13 q14) 69 [.cells [slv zI q0 .no,.mp 1 0,slv zM q3 .no,slv zM q4 .no],.cells [slv zI q1 .no,slv xX q2 .no],.cells [ai q7,ai q8],.cells [ai q9,ai q10,slv zA q11 .no],.cells [ai q12,ai q13,slv zA q14 .no]] [.mp 0 0,tmA p1,tmA p2,.mp 2 0,.clo 70 [] [.mp 3 0,.mp 4 0]] (fun r=>.tup [ab r.1,ai r.2.1]) (fun r=>[.cells [slv zI q0 .no,.mp 1 0,slv zM q3 .no,slv zM q4 .no],.cells [slv zI q1 .no,slv xX q2 .no],.cells [ai r.2.2.1,ai r.2.2.2],.cells [ai q9,ai q10,slv zA q11 .no],.cells [ai q12,ai q13,slv zA q14 .no]]) 0:=fw Tryz.func69<|rC 2 [0,1] zMb fun _=>rK 0 [] zEH (fun _=>rC 2 [0,1] zMb fun _=>rK 0 [] zEH (fun _=>rC 1 [0,1] zSz fun _=>rK 0 [7,0,1,2,3,4] zPi (fun _=>fE 3) fun _=>fE 1) fun _=>fE 1) fun _=>fE 1
def e40(qq:Nat)(M:xO)(p1 p2:Tm)(fl fu:Int):Option (Bool×Int×Int×Int):=
 zAW qq M.l M.rl M.parts M.args M.own p1 p2 fl fu p1.k p1.n p1.sub p2.k p2.n p2.sub>>=fun r1=>
 some (r1.1,r1.2.1,r1.2.2.1,r1.2.2.2)
theorem c40{qq M p1 p2 fl fu}:Cz (e40 qq M p1 p2 fl fu) 40 [mB M 1,mR M,.cells [ai fl,ai fu]] [.mp 0 0,tmA p1,tmA p2,.mp 2 0] (fun r=>.tup [ab r.1,ai r.2.1]) (fun r=>[mB M 1,mR M,.cells [ai r.2.2.1,ai r.2.2.2]]) 0:=fw Tryz.func40<|rC 2 [0,1,2,3,4] zPh fun _=>fE 2
theorem zMA{N:ByteArray->Bool}(l:List Ent)(hE:vK N l)(he:∀e∈l,EOk e):∀(F n:Nat) (m:Bool) (x y:Tm),x.Ok->y.Ok->wtT l x+wtT l y≤n->HC l m x y (F:Int):=by
 intro F
 induction F using Nat.strongRecOn with
 |ind F IH=>
  intro n
  induction n with
  |zero=>intro m x y _ _ h;have:=zAO l x;omega
  |succ n ih=>
   intro m x y hx hy hn
   have fin:∀(m:Bool) (k:Int) (x' y':Tm) (j1 j2:Int),xF l x->xF l y->Br l x x' 0 j1->Br l y y' 0 j2->k=j1+j2->k≤F->Ou (fun L U q=>zIZ l m L U 0 q x' y'>>=fun r4=>some (r4.1,r4.2.1,r4.2.2.1,r4.2.2.2)) zAS (fun R n=>QX (Cv l m x y) R (k+n)) (∀b k,Cv l m x y b k->(F:Int)<k) ((F:Int)-k):=fun m k x' y' j1 j2 hR1 hR2 hb1 hb2 hk k1=>by
    have n1:=hb1.nn
    have n2:=hb2.nn
    have hB:BC l ((F:Int)-k) (wtT l x'+wtT l y'):=fun m p q hp hq hw g g0 g1=>by
     by_cases hk0:k≤0
     ·have e1:=hb1.zero rfl (by omega)
      have e2:=hb2.zero rfl (by omega)
      subst e1;subst e2
      by_cases hg:g=F
      ·subst hg
       exact ih m p q hp hq (by omega)
      ·have:=IH g.toNat (by omega) (wtT l p+wtT l q) m p q hp hq (Nat.le_refl _)
       rwa[show ((g.toNat:Nat):Int)=g by omega]at this
     ·have:=IH g.toNat (by omega) (wtT l p+wtT l q) m p q hp hq (Nat.le_refl _)
      rwa[show ((g.toNat:Nat):Int)=g by omega]at this
    have h:=HX.same (zJz l hE m x' y' (hb1.shaped hR1.shaped rfl) (hb2.shaped hR2.shaped rfl) ((F:Int)-k) (by omega) hB)
    refine Ou.mono h ?_ fun hs b k' hc=>?_
    ·rintro R n _ _ ⟨b,e,h8,h0,hn',rfl⟩
     refine⟨b,e,h8,fun he=>?_,fun he=>⟨(hn' he).1,fun b' k' hc=>?_⟩,rfl⟩
     ·have:=Cv.mk hR1 hR2 hb1 hb2 (h0 he)
      rwa[hk]
     ·obtain⟨-,-,x1,i1,y1,i2,i3,h1,h2,h3,-⟩:=hc.inv
      obtain⟨rfl,-,-⟩:=hb1.det h1
      obtain⟨rfl,-,-⟩:=hb2.det h2
      exact(hn' he).2 _ _ h3
    ·obtain⟨-,-,x1,i1,y1,i2,i3,h1,h2,h3,rfl⟩:=hc.inv
     obtain⟨rfl,-,rfl⟩:=hb1.det h1
     obtain⟨rfl,-,rfl⟩:=hb2.det h2
     have:=hs _ _ h3
     omega
   cases m
   ·refine Ou.succ ?_
    simp only[F6,wL]
    refine Ou.bind (zDB l hE he x y hx hy F (by omega)) (fun h b k hc=>h _ _ _ hc) (fun r hr=>?_) ?_
    ·have:=zQD hr
     refine⟨_,Evt.ifF this.1 Evt.ret,?_⟩
     unfold zAS
     rw[if_neg (by simp)];exact this.2
    ·rintro R k k0 k1 (⟨x',j1,y',j2,hR1,hR2,hb1,hb2,rfl,rfl⟩|⟨a,b,e,e0,e8,hno,rfl⟩)
     ·exact Ou.ifT rfl (fin false (j1+j2) x' y' j1 j2 hR1 hR2 hb1 hb2 rfl k1)
     ·exact Ou.ifF rfl (Ou.ret (by omega) (nF e8 e0 fun b k=>hno _ b k))
   ·refine Ou.succ ?_
    simp only[F6,pH]
    refine Ou.bind (zDB l hE he x y hx hy F (by omega)) (fun h b k hc=>h _ _ _ hc) (fun r hr=>?_) ?_
    ·have:=zQD hr
     refine⟨_,Evt.ifF this.1 Evt.ret,?_⟩
     unfold zAS
     rw[if_neg (by simp)];exact this.2
    ·rintro R k k0 k1 (⟨x',j1,y',j2,hR1,hR2,hb1,hb2,rfl,rfl⟩|⟨a,b,e,e0,e8,hno,rfl⟩)
     ·exact Ou.ifT rfl (fin true (j1+j2) x' y' j1 j2 hR1 hR2 hb1 hb2 rfl k1)
     ·exact Ou.ifF rfl (Ou.ret (by omega) (nF e8 e0 fun b k=>hno _ b k))
def zSy(l:List Ent)(m:Bool)(L U:Int)(q:Nat)(x y:Tm):Option (Bool×Int×Int×Int):=match m with
 |false=>e40 q (xV l) x y L U
 |true=>zJy q (xV l) x y L U
theorem zHs{N:ByteArray->Bool}(l:List Ent)(hE:vK N l)(he:∀e∈l,EOk e)(hl:l.length≤65535)(hc:∀e∈l,ECl e)(m:Bool)(x y:Tm)(hx:x.Ok)(hy:y.Ok)(f:Int)(hf:0≤f):HX (fun L U q=>zSy l m L U q x y) (Cv l m x y) f:=by
 have hC:=zMA l hE he f.toNat (wtT l x+wtT l y) m x y hx hy (Nat.le_refl _)
 rw[show ((f.toNat:Nat):Int)=f by omega]at hC
 have hLen:Evt (fun q=>zFB q (xV l)) (l.length:Int):=Evt.mk fun _=>rfl
 have hEnt:Evt (fun q=>zFC q (xV l)) l:=by
  simp only[zFC]
  exact((bE l hl he hc).eq (mZ hE)).bind Evt.ret
 have post:HX (fun L U q=>(F6 l m L U 0 q x y>>=fun r1=>some (r1.1,r1.2.1,r1.2.2.1,r1.2.2.2))>>=fun r13=>if r13.1=true then some ((r13.2.1==0),r13.2.1,r13.2.2.1,r13.2.2.2)else some (false,r13.2.1,r13.2.2.1,r13.2.2.2)) (Cv l m x y) f:=by
  refine Ou.bind (HX.same hC) id (fun r hr=>?_) ?_
  ·have:=T6 hr
   refine⟨_,Evt.ifF this.1 Evt.ret,?_⟩
   unfold zAS
   rw[if_neg (by simp)];exact this.2
  ·rintro R k k0 k1 ⟨b,e,h8,h0,hn,rfl⟩
   dsimp only
   by_cases e0:e=0
   ·subst e0
    have hX:=h0 rfl
    cases b with
    |true=>exact Ou.ifT rfl (Ou.ret (by omega) (m6 (b:=true) (by rwa[Int.add_zero])))
    |false=>exact Ou.ifF rfl (Ou.ret (by omega) (m6 (by rwa[Int.add_zero])))
   ·obtain⟨rfl,hno⟩:=hn e0
    exact Ou.ifF rfl (Ou.ret (by omega) (nF h8 e0 hno))
 have bad1:¬xF l x->∀b k,¬Cv l m x y b k:=fun h b k hc=>h hc.inv.1
 have bad2:¬xF l y->∀b k,¬Cv l m x y b k:=fun h b k hc=>h hc.inv.2.1
 cases m with
 |false=>
  simp only[zSy,e40,zAW]
  refine HX.same ?_
  refine Ou.evt hLen (Ou.evt (oV x 1048577 l.length hx) (Ou.ite (fun h1=>?_) fun h1=>?_))
  ·refine Ou.evt hLen (Ou.evt (oV y 1048577 l.length hy) (Ou.ite (fun h2=>?_) fun h2=>?_))
   ·refine Ou.evt hEnt ?_
    simp only[zAV,uI]
    exact post
   ·exact Ou.ret hf (nF (by decide) (by decide) (bad2 (by unfold xF;rw[h2];simp)))
  ·exact Ou.ret hf (nF (by decide) (by decide) (bad1 (by unfold xF;rw[h1];simp)))
 |true=>
  simp only[zSy,zJy,zAU]
  refine HX.same ?_
  refine Ou.evt hLen (Ou.evt (oV x 1048577 l.length hx) (Ou.ite (fun h1=>?_) fun h1=>?_))
  ·refine Ou.evt hLen (Ou.evt (oV y 1048577 l.length hy) (Ou.ite (fun h2=>?_) fun h2=>?_))
   ·refine Ou.evt hEnt ?_
    simp only[U0,uI]
    exact post
   ·exact Ou.ret hf (nF (by decide) (by decide) (bad2 (by unfold xF;rw[h2];simp)))
  ·exact Ou.ret hf (nF (by decide) (by decide) (bad1 (by unfold xF;rw[h1];simp)))
def zDC(qq:Nat)(p0 p1:Tm):Option (Tm):=
 zCh qq 3 0 [p0,p1]>>=fun r1=>
 some r1
theorem zPg{qq p0 p1}:Cz (zDC qq p0 p1) 187 [] [tmA p0,tmA p1] (fun r=>tmA r) (fun _=>[]) 0:=fw Tryz.func187<|rS (oS 2 (yV xH [p0,p1]))<|rC 0 [] zEK fun _=>fE 1
def sS:Nat->(List Tm)->Int->Int->Int->(List Tm)->Option (Tm×Int)
 |0,_,_,_,_,_=>none
 |qq+1,p0,v32,zR,yA,zN=>
 if decide (v32<(List.length p0:Int))then
 zL p0 (w64 ((w64 ((List.length p0:Int)-1))-v32))>>=fun x12=>
 zDC qq x12 (Tm.mk zR yA zN)>>=fun r14=>
 sS qq p0 (w64 (v32+1)) r14.k r14.n r14.sub
 else
 tV qq (Tm.mk zR yA zN)>>=fun r16=>
 if r16 then
 e96 qq (Tm.mk zR yA zN)>>=fun r19=>
 some (r19,0)
 else
 some ((Tm.mk 0 0 []),2)
def sT:Nat->(List Tm)->Tm->Int->Option (Tm×Int)
 |0,_,_,_=>none
 |qq+1,p0,p1,v17=>
 if decide (v17<(List.length p0:Int))then
 zL p0 v17>>=fun x3=>
 tV qq x3>>=fun r5=>
 if r5 then
 sT qq p0 p1 (w64 (v17+1))
 else
 some ((Tm.mk 0 0 []),5)
 else
 tV qq p1>>=fun r8=>
 if r8 then
 sS qq p0 0 p1.k p1.n p1.sub
 else
 some ((Tm.mk 0 0 []),5)
def U1(qq:Nat)(p0:List Tm)(p1:Tm):Option (Tm×Int):=
 if decide ((List.length p0:Int)>24)then
 some ((Tm.mk 0 0 []),2)
 else
 sT qq p0 p1 0
theorem zDD:∀qq:Nat,∀p0 v32 zR yA zN,Lz (sS qq p0 v32 zR yA zN) 0 Tryz.f186 (inn (inn (rgt (lft (rgt (rgt (rgt (rgt (bod Tryz.f186))))))))) (fun j=>sp j 53 0 [(0,slv zA p0 .no),(2,.clo 187 [] []),(4,.mp 0 0),(6,.mp 1 0),(31,ai (List.length p0:Int)),(32,ai v32)]) ⟨[(0,.cells [ai zR,ai yA,slv zA zN .no]),(1,.cells [ai 0,ai 0,slv zA ([]:List Tm) .nl])],2,[],0,[]⟩ (fun r=>.tup [tmA r.1,ai r.2]) (fun _=>[]) 0 [.blk 2,.seq (rgt (rgt (rgt (rgt (rgt (bod Tryz.f186))))))]:=yW (fun _ _ _ _ _=>lN) fun qq ih=>fun p0 v32 zR yA zN=>lw fun _=>rB 0 (rA 3 (yM (o:=.no)) fun _=>rC 2 [] zPg fun _=>lH 2 [] [0,1] [] [0,2,4,6,31,32] (ih _ _ _ _ _))<|rK 1 [] sW (fun _=>rC 2 [] c96 fun _=>lE 1) fun _=>lE 2
theorem zDE:∀qq:Nat,∀p0 p1 v17,Lz (sT qq p0 p1 v17) 0 Tryz.f186 (inn (inn (rgt (lft (rgt (rgt (bod Tryz.f186))))))) (fun j=>sp j 53 0 [(0,slv zA p0 .no),(2,.clo 187 [] []),(4,.mp 0 0),(6,.mp 1 0),(15,slv zA p0 .no),(16,ai (List.length p0:Int)),(17,ai v17)]) ⟨[(0,.cells [ai p1.k,ai p1.n,slv zA p1.sub .no]),(1,.cells [ai 0,ai 0,slv zA ([]:List Tm) .nl])],2,[],0,[]⟩ (fun r=>.tup [tmA r.1,ai r.2]) (fun _=>[]) 0 [.blk 0,.seq (rgt (rgt (rgt (bod Tryz.f186))))]:=yW (fun _ _ _=>lN) fun qq ih=>fun p0 p1 v17=>lw fun _=>rB 0 (rA 0 (yM (o:=.no)) fun _=>rK 3 [] sW (fun _=>lH 2 [] [0,1] [] [0,2,4,6,15,16,17] (ih _ _ _)) fun _=>lE 2)<|rK 1 [] sW (fun _=>lH 2 [] [0,1] [] [0,2,4,6,31,32] (zDD _ _ _ _ _ _)) fun _=>lE 2
theorem zMB{qq p0 p1}:Cz (U1 qq p0 p1) 186 [] [slv zA p0 .no,tmA p1,.clo 187 [] []] (fun r=>.tup [tmA r.1,ai r.2]) (fun _=>[]) 0:=fw Tryz.func186<|rB 1 (fE 1)<|fH 1 [] [0,1] [] [0,2,4,6,15,16,17] (zDE _ _ _ _)
def A0(qq:Nat)(p0:List Tm)(p1:Tm):Option (Tm×Int):=
 U1 qq p0 p1>>=fun r1=>
 some (r1.1,r1.2)
theorem A1{qq p0 p1}:Cz (A0 qq p0 p1) 128 [] [slv zA p0 .no,tmA p1] (fun r=>.tup [tmA r.1,ai r.2]) (fun _=>[]) 0:=fw Tryz.func128<|rC 1 [] zMB fun _=>fE 3
def zSx(qq:Nat)(p0:List Ent)(p1 p2:Int):Option (Int):=
 e47 qq p0>>=fun r1=>
 if r1 then
 zFm qq p0 p1 1>>=fun r4=>
 if r4 then
 if decide (p2<0)then
 some 16
 else
 if decide (p2>7)then
 some 16
 else
 some 0
 else
 some 16
 else
 some 5
theorem zVN{qq p0 p1 p2}:Cz (zSx qq p0 p1 p2) 260 [] [slv zI p0 .no,ai p1,ai p2] (fun r=>ai r) (fun _=>[]) 0:=fw Tryz.func260<|rK 0 [] c47 (fun _=>rK 1 [] zOV (fun _=>rB 1 (fE 0)<|rB 0 (fE 0)<|fE 0) fun _=>fE 1) fun _=>fE 1
def e48(qq:Nat)(p0:List Ent)(p1:Int):Option (List Tm×List Tm×Int):=
 e47 qq p0>>=fun r1=>
 if r1 then
 e90 qq p0 p1 1>>=fun r4=>
 if r4 then
 zL p0 p1>>=fun x7=>
 e91 qq x7.type (w64 (x7.pars+x7.inds))>>=fun r9=>
 gsl r9.1 0 x7.pars>>=fun x11=>
 gsl r9.1 x7.pars (List.length r9.1:Int)>>=fun x13=>
 some (x11,x13,0)
 else
 some ([],[],16)
 else
 some ([],[],5)
theorem c48{qq p0 p1}:Cz (e48 qq p0 p1) 48 [] [slv zI p0 .no,ai p1] (fun r=>.tup [.sl (zD zA r.1) (List.length r.1) .no,.sl (zD zA r.2.1) (List.length r.2.1) .no,ai r.2.2]) (fun _=>[]) 0:=fw Tryz.func48<|rK 0 [] c47 (fun _=>rK 1 [] c90 (fun _=>rH fun _ h8=>rS (oA 1 (yY (o:=.no) h8))<|rS (oA 1 (yY (o:=.no) h8))<|rS (oA 1 (yY (o:=.no) h8))<|rC 2 [] c91 fun _=>rS (oA 4 (yY (o:=.no) h8))<|rS (oA 1 (yY (o:=.no) h8))<|rA 1 (jW (o:=.no)) fun _=>rS (oA 0 (yY (o:=.no) h8))<|rA 1 uX fun _=>fE 0) fun _=>fE 1) fun _=>fE 1
def zPf(qq:Nat)(q0_e:Int)(p1:List Ent)(p2 p3:Int)(p4:List Tm):Option (Tm×Int):=
 e48 qq p1 p2>>=fun r1=>
 X9 qq p2>>=fun r3=>
 F3 qq q0_e p4 (List.length r1.2.1:Int)>>=fun r5=>
 nI qq r3 r5.1>>=fun r7=>
 X7 qq (List.length r1.2.1:Int)>>=fun r9=>
 nI qq r7 r9>>=fun r11=>
 zDo qq r5.2 r1.2.1 p4>>=fun r13=>
 yR 40 r13.1 [r11]>>=fun l15=>
 P2 qq p3>>=fun r17=>
 A0 qq l15 r17>>=fun r19=>
 S1 qq r13.2 r19.1 r19.2>>=fun r21=>
 some (r21.1,r21.2)
theorem zUr{qq q0_e p1 p2 p3 p4}:Cz (zPf qq q0_e p1 p2 p3 p4) 261 [.cells [ai q0_e]] [.mp 0 0,slv zI p1 .no,ai p2,ai p3,slv zA p4 .no] (fun r=>tmA r.1) (fun r=>[.cells [ai r.2]]) 0:=fw Tryz.func261<|rC 0 [] c48 fun _=>rC 4 [] zAR fun _=>rC 0 [0] S0 fun _=>rC 0 [] pV fun _=>rC 0 [] bH fun _=>rC 0 [] pV fun r11=>rC 1 [0] zIO fun _=>rS (oS 1 (yV xH [r11]))<|rW (fun h16=>oP 0 (xU h16 (by simp))) fun _=>rC 0 [] zCf fun _=>rC 0 [] A1 fun _=>rC 2 [0] X8 fun _=>fE 1
def zPe(qq:Nat)(p0:List Ent)(p1:Int):Option (xN × Int):=
 e47 qq p0>>=fun r1=>
 if r1 then
 e90 qq p0 p1 2>>=fun r4=>
 if r4 then
 zLS qq p0 p1>>=fun r7=>
 some (r7,0)
 else
 some ((xN.mk [] [] []),16)
 else
 some ((xN.mk [] [] []),5)
theorem zVO{qq p0 p1}:Cz (zPe qq p0 p1) 299 [] [slv zI p0 .no,ai p1] (fun r=>.tup [zQR r.1,ai r.2]) (fun _=>[]) 0:=fw Tryz.func299<|rK 0 [] c47 (fun _=>rK 1 [] c90 (fun _=>rC 1 [] zTU fun _=>fE 1) fun _=>fE 2) fun _=>fE 2
def kH:Nat->uS->Int->Int->Int->(List Tm)->Int->Int->Int->Int->(List Tm)->Option (Tm×Int)
 |0,_,_,_,_,_,_,_,_,_,_=>none
 |qq+1,p3,p4,p5,p6,v17,v64,zR,wJ,wK,tB=>
 if decide (v64<(List.length p3.at':Int))then
 zL p3.at' v64>>=fun x14=>
 zFn qq zR x14 (List.length p3.around:Int) v17>>=fun r16=>
 kY qq (Tm.mk wJ wK tB) r16.1>>=fun r18=>
 kH qq p3 p4 p5 p6 v17 (w64 (v64+1)) r16.2 r18.k r18.n r18.sub
 else
 dL qq (w64 ((w64 ((w64 ((w64 (p5-p4))+p6))-1))+(List.length p3.around:Int)))>>=fun r20=>
 X7 qq (List.length p3.around:Int)>>=fun r22=>
 nI qq r20 r22>>=fun r24=>
 kY qq (Tm.mk wJ wK tB) r24>>=fun r26=>
 zDo qq zR p3.around v17>>=fun r28=>
 A0 qq r28.1 r26>>=fun r30=>
 S1 qq r28.2 r30.1 r30.2>>=fun r32=>
 some (r32.1,r32.2)
def kI:Nat->Tm->uS->Int->Int->Int->(List Tm×Int)->(List Tm)->Int->Option (Tm×Int)
 |0,_,_,_,_,_,_,_,_=>none
 |qq+1,p2,p3,p4,p5,p6,r1,v17,v39=>
 if decide (v39<p4)then
 dL qq (w64 ((w64 ((w64 (p5-1))-v39))+p6))>>=fun r7=>
 yR 40 v17 [r7]>>=fun l9=>
 kI qq p2 p3 p4 p5 p6 r1 l9 (w64 (v39+1))
 else
 zIP qq r1.2 p2 (w64 ((w64 (p5+p6))+(List.length p3.around:Int)))>>=fun r11=>
 kH qq p3 p4 p5 p6 v17 0 r11.2 r11.1.k r11.1.n r11.1.sub
def zPd(qq:Nat)(q0_e:Int)(p1:List Tm)(p2:Tm)(p3:uS)(p4 p5 p6:Int):Option (Tm×Int):=
 F3 qq q0_e p1 (w64 (p5+p6))>>=fun r1=>
 yR 40 ([]:List Tm) r1.1>>=fun l3=>
 kI qq p2 p3 p4 p5 p6 r1 l3 0
theorem zHr:∀qq:Nat,∀p3 p4 p5 p6 v17 v64 zR wJ wK tB,Lz (kH qq p3 p4 p5 p6 v17 v64 zR wJ wK tB) 1 Tryz.f300 (inn (inn (rgt (lft (rgt (rgt (rgt (rgt (rgt (rgt (rgt (bod Tryz.f300)))))))))))) (fun j=>sp j 97 0 [(0,.mp 0 0),(10,.mp 1 0),(14,.mp 2 0),(15,ai (w64 ((w64 (p5-p4))+p6))),(16,ai (List.length p3.around:Int)),(17,slv zA v17 (.st 0 3)),(19,.mp 3 0),(62,slv zA p3.at' .no),(63,ai (List.length p3.at':Int)),(64,ai v64)]) ⟨[(0,.cells [ai zR]),(1,.cells [ab p3.is,slv zA p3.around .no,slv zA p3.at' .no]),(2,.cells [ai 0,ai 0,slv zA ([]:List Tm) .nl]),(3,.cells [ai wJ,ai wK,slv zA tB .no])],4,[0],1,[]⟩ (fun r=>tmA r.1) (fun r=>[.cells [ai r.2]]) 0 [.blk 2,.seq (rgt (rgt (rgt (rgt (rgt (rgt (rgt (rgt (bod Tryz.f300)))))))))]∧Lz (kH qq p3 p4 p5 p6 v17 v64 zR wJ wK tB) 1 Tryz.f300 (inn (inn (rgt (lft (rgt (rgt (rgt (rgt (rgt (rgt (rgt (bod Tryz.f300)))))))))))) (fun j=>sp j 97 0 [(0,.mp 0 0),(10,.mp 1 0),(14,.mp 2 0),(15,ai (w64 ((w64 (p5-p4))+p6))),(16,ai (List.length p3.around:Int)),(17,slv zA v17 .nl),(19,.mp 3 0),(62,slv zA p3.at' .no),(63,ai (List.length p3.at':Int)),(64,ai v64)]) ⟨[(0,.cells [ai zR]),(1,.cells [ab p3.is,slv zA p3.around .no,slv zA p3.at' .no]),(2,.cells [ai 0,ai 0,slv zA ([]:List Tm) .nl]),(3,.cells [ai wJ,ai wK,slv zA tB .no])],4,[],0,[]⟩ (fun r=>tmA r.1) (fun r=>[.cells [ai r.2]]) 0 [.blk 2,.seq (rgt (rgt (rgt (rgt (rgt (rgt (rgt (rgt (bod Tryz.f300)))))))))]:=yW (fun _ _ _ _ _ _ _ _ _ _=>⟨lN,lN⟩) fun qq ih=>fun p3 p4 p5 p6 v17 v64 zR wJ wK tB=>⟨lw fun _=>rB 0 (rA 0 (yM (o:=.no)) fun _=>rC 4 [0] zIN fun _=>rC 0 [] nH fun _=>lH 2 [] [0,1,2,3] [0] [0,10,14,15,16,17,19,62,63,64] ((ih _ _ _ _ _ _ _ _ _ _).1))<|rC 3 [] jY fun _=>rC 0 [] bH fun _=>rC 0 [] pV fun _=>rC 0 [] nH fun _=>rC 2 [0] zIO fun _=>rC 1 [] A1 fun _=>rC 2 [0] X8 fun _=>lE 1,lw fun _=>rB 0 (rA 0 (yM (o:=.no)) fun _=>rC 4 [0] zIN fun _=>rC 0 [] nH fun _=>lH 2 [] [0,1,2,3] [] [0,10,14,15,16,17,19,62,63,64] ((ih _ _ _ _ _ _ _ _ _ _).2))<|rC 3 [] jY fun _=>rC 0 [] bH fun _=>rC 0 [] pV fun _=>rC 0 [] nH fun _=>rC 2 [0] zIO fun _=>rC 1 [] A1 fun _=>rC 2 [0] X8 fun _=>lE 1⟩
theorem zHq:∀qq:Nat,∀p2 p3 p4 p5 p6 r1 v17 v39,Lz (kI qq p2 p3 p4 p5 p6 r1 v17 v39) 1 Tryz.f300 (inn (inn (rgt (lft (rgt (rgt (rgt (rgt (rgt (bod Tryz.f300)))))))))) (fun j=>sp j 97 0 [(0,.mp 0 0),(5,ai p5),(6,ai p6),(9,.mp 1 0),(10,.mp 2 0),(14,.mp 3 0),(15,ai (w64 ((w64 (p5-p4))+p6))),(16,ai (List.length p3.around:Int)),(17,slv zA v17 .nl),(38,ai p4),(39,ai v39)]) ⟨[(0,.cells [ai r1.2]),(1,.cells [ai p2.k,ai p2.n,slv zA p2.sub .no]),(2,.cells [ab p3.is,slv zA p3.around .no,slv zA p3.at' .no]),(3,.cells [ai 0,ai 0,slv zA ([]:List Tm) .nl])],4,[],0,[]⟩ (fun r=>tmA r.1) (fun r=>[.cells [ai r.2]]) 0 [.blk 0,.seq (rgt (rgt (rgt (rgt (rgt (rgt (bod Tryz.f300)))))))]∧Lz (kI qq p2 p3 p4 p5 p6 r1 v17 v39) 1 Tryz.f300 (inn (inn (rgt (lft (rgt (rgt (rgt (rgt (rgt (bod Tryz.f300)))))))))) (fun j=>sp j 97 0 [(0,.mp 0 0),(5,ai p5),(6,ai p6),(9,.mp 1 0),(10,.mp 2 0),(14,.mp 3 0),(15,ai (w64 ((w64 (p5-p4))+p6))),(16,ai (List.length p3.around:Int)),(17,slv zA v17 (.st 0 3)),(38,ai p4),(39,ai v39)]) ⟨[(0,.cells [ai r1.2]),(1,.cells [ai p2.k,ai p2.n,slv zA p2.sub .no]),(2,.cells [ab p3.is,slv zA p3.around .no,slv zA p3.at' .no]),(3,.cells [ai 0,ai 0,slv zA ([]:List Tm) .nl])],4,[0],1,[]⟩ (fun r=>tmA r.1) (fun r=>[.cells [ai r.2]]) 0 [.blk 0,.seq (rgt (rgt (rgt (rgt (rgt (rgt (bod Tryz.f300)))))))]:=yW (fun _ _ _ _ _ _ _ _=>⟨lN,lN⟩) fun qq ih=>fun p2 p3 p4 p5 p6 r1 v17 v39=>⟨lw fun _=>rB 0 (rC 3 [] jY fun r7=>rS (oS 0 (yV xH [r7]))<|rW (fun h10=>oP 0 (xU h10 (by simp))) fun _=>lH 1 [] [0,1,2,3] [0] [0,5,6,9,10,14,15,16,17,38,39] ((ih _ _ _ _ _ _ _ _).2))<|rC 3 [0] zFl fun _=>lH 3 [] [0,2,3,4] [] [0,10,14,15,16,17,19,62,63,64] ((zHr _ _ _ _ _ _ _ _ _ _ _).2),lw fun _=>rB 0 (rC 3 [] jY fun r7=>rS (oS 0 (yV xH [r7]))<|rW (fun h10=>oP 0 (xU h10 (by simp))) fun _=>lH 1 [] [0,1,2,3] [1] [0,5,6,9,10,14,15,16,17,38,39] ((ih _ _ _ _ _ _ _ _).2))<|rC 3 [0] zFl fun _=>lH 3 [] [0,2,3,4] [0] [0,10,14,15,16,17,19,62,63,64] ((zHr _ _ _ _ _ _ _ _ _ _ _).1)⟩
theorem zVP{qq q0_e p1 p2 p3 p4 p5 p6}:Cz (zPd qq q0_e p1 p2 p3 p4 p5 p6) 300 [.cells [ai q0_e]] [.mp 0 0,slv zA p1 .no,tmA p2,zQQ p3,ai p4,ai p5,ai p6] (fun r=>tmA r.1) (fun r=>[.cells [ai r.2]]) 0:=fw Tryz.func300<|rC 5 [0] S0 fun r1=>rH fun _ h4=>rZ (List.length r1.1=0) (fun h5=>rS (oP 0 (sJ h4 h5))<|fH 0 [] [0,1,2,3] [] [0,5,6,9,10,14,15,16,17,38,39] ((zHq _ _ _ _ _ _ _ _ _).1)) fun h5=>rS (oP 0 (xU h4 h5))<|fH 0 [] [0,1,2,3] [0] [0,5,6,9,10,14,15,16,17,38,39] ((zHq _ _ _ _ _ _ _ _ _).2)
def kJ:Nat->Int->(xN × Int)->(List Tm)->(List Tm)->(List Tm×Int)->(List Tm)->Int->Int->Int->Int->(List Tm)->Option (Tm×Int)
 |0,_,_,_,_,_,_,_,_,_,_,_=>none
 |qq+1,p2,r1,v14,v18,r18,l23,v98,zR,xA,xY,xK=>
 if decide (v98<(List.length r1.1.inds:Int))then
 zL r1.1.inds v98>>=fun x29=>
 zFn qq zR x29 0 l23>>=fun r31=>
 kY qq (Tm.mk xA xY xK) r31.1>>=fun r33=>
 kJ qq p2 r1 v14 v18 r18 l23 (w64 (v98+1)) r31.2 r33.k r33.n r33.sub
 else
 X9 qq p2>>=fun r35=>
 nI qq r35 r18.1>>=fun r37=>
 nI qq r37 v18>>=fun r39=>
 kY qq (Tm.mk xA xY xK) r39>>=fun r41=>
 A0 qq v14 r41>>=fun r43=>
 S1 qq zR r43.1 r43.2>>=fun r45=>
 some (r45.1,r45.2)
def fP:Nat->Int->(List Tm)->Tm->(xN × Int)->(List Tm)->Int->Int->(List Tm)->Int->Option (Tm×Int)
 |0,_,_,_,_,_,_,_,_,_=>none
 |qq+1,p2,p3,p4,r1,v14,v15,zR,v18,v64=>
 if decide (v64<(List.length r1.1.args:Int))then
 dL qq (w64 ((w64 ((w64 ((List.length r1.1.args:Int)-1))-v64))+v15))>>=fun r14=>
 yR 40 v18 [r14]>>=fun l16=>
 fP qq p2 p3 p4 r1 v14 v15 zR l16 (w64 (v64+1))
 else
 F3 qq zR p3 (w64 ((List.length r1.1.args:Int)+v15))>>=fun r18=>
 yR 40 ([]:List Tm) r18.1>>=fun l20=>
 yR 40 l20 v18>>=fun l23=>
 zIP qq r18.2 p4 (w64 ((List.length r1.1.args:Int)+v15))>>=fun r26=>
 kJ qq p2 r1 v14 v18 r18 l23 0 r26.2 r26.1.k r26.1.n r26.1.sub
def kK:Nat->Int->(List Tm)->Tm->(xN × Int)->(List Tm)->Int->Int->Int->Option (Tm×Int)
 |0,_,_,_,_,_,_,_,_=>none
 |qq+1,p2,p3,p4,r1,v14,v15,v42,zR=>
 if decide (v42<(List.length r1.1.recs:Int))then
 zL r1.1.recs v42>>=fun x6=>
 if x6.is then
 zPd qq zR p3 p4 x6 v42 (List.length r1.1.args:Int) v15>>=fun r9=>
 yR 40 v14 [r9.1]>>=fun l11=>
 kK qq p2 p3 p4 r1 l11 (w64 (v15+1)) (w64 (v42+1)) r9.2
 else
 kK qq p2 p3 p4 r1 v14 v15 (w64 (v42+1)) zR
 else
 fP qq p2 p3 p4 r1 v14 v15 zR [] 0
def zPc(qq:Nat)(q0_e:Int)(p1:List Ent)(p2:Int)(p3:List Tm)(p4:Tm):Option (Tm×Int):=
 zPe qq p1 p2>>=fun r1=>
 zDo qq q0_e r1.1.args p3>>=fun r3=>
 kK qq p2 p3 p4 r1 r3.1 0 0 r3.2
theorem J6:∀qq:Nat,∀p2 r1 v14 v18 r18 l23 v98 zR xA xY xK,Lz (kJ qq p2 r1 v14 v18 r18 l23 v98 zR xA xY xK) 1 Tryz.f262 (inn (inn (rgt (lft (rgt (rgt (rgt (rgt (rgt (rgt (rgt (rgt (rgt (rgt (rgt (bod Tryz.f262)))))))))))))))) (fun j=>sp j 124 0 [(0,.mp 0 0),(2,ai p2),(10,.mp 1 0),(14,slv zA v14 (.st 0 3)),(18,slv zA v18 (.st 1 3)),(20,slv zA r18.1 .no),(21,slv zA l23 .full),(22,.mp 2 0),(96,slv zA r1.1.inds .no),(97,ai (List.length r1.1.inds:Int)),(98,ai v98)]) ⟨[(0,.cells [ai zR]),(1,.cells [ai 0,ai 0,slv zA ([]:List Tm) .nl]),(2,.cells [ai xA,ai xY,slv zA xK .no])],3,[0,1],2,[]⟩ (fun r=>tmA r.1) (fun r=>[.cells [ai r.2]]) 0 [.blk 4,.seq (rgt (rgt (rgt (rgt (rgt (rgt (rgt (rgt (rgt (rgt (rgt (rgt (bod Tryz.f262)))))))))))))]∧Lz (kJ qq p2 r1 v14 v18 r18 l23 v98 zR xA xY xK) 1 Tryz.f262 (inn (inn (rgt (lft (rgt (rgt (rgt (rgt (rgt (rgt (rgt (rgt (rgt (rgt (rgt (bod Tryz.f262)))))))))))))))) (fun j=>sp j 124 0 [(0,.mp 0 0),(2,ai p2),(10,.mp 1 0),(14,slv zA v14 (.st 0 3)),(18,slv zA v18 (.st 1 3)),(20,slv zA r18.1 .no),(21,slv zA l23 (.st 2 3)),(22,.mp 2 0),(96,slv zA r1.1.inds .no),(97,ai (List.length r1.1.inds:Int)),(98,ai v98)]) ⟨[(0,.cells [ai zR]),(1,.cells [ai 0,ai 0,slv zA ([]:List Tm) .nl]),(2,.cells [ai xA,ai xY,slv zA xK .no])],3,[0,1,2],3,[]⟩ (fun r=>tmA r.1) (fun r=>[.cells [ai r.2]]) 0 [.blk 4,.seq (rgt (rgt (rgt (rgt (rgt (rgt (rgt (rgt (rgt (rgt (rgt (rgt (bod Tryz.f262)))))))))))))]:=yW (fun _ _ _ _ _ _ _ _ _ _ _=>⟨lN,lN⟩) fun qq ih=>fun p2 r1 v14 v18 r18 l23 v98 zR xA xY xK=>⟨lw fun _=>rB 0 (rA 0 (yM (o:=.no)) fun _=>rC 4 [0] zIN fun _=>rC 0 [] nH fun _=>lH 2 [] [0,1,2] [0,1] [0,2,10,14,18,20,21,22,96,97,98] ((ih _ _ _ _ _ _ _ _ _ _ _).1))<|rC 1 [] zAR fun _=>rC 0 [] pV fun _=>rC 0 [] pV fun _=>rC 0 [] nH fun _=>rC 2 [] A1 fun _=>rC 2 [0] X8 fun _=>lE 1,lw fun _=>rB 0 (rA 0 (yM (o:=.no)) fun _=>rC 4 [0] zIN fun _=>rC 0 [] nH fun _=>lH 2 [] [0,1,2] [0,1,2] [0,2,10,14,18,20,21,22,96,97,98] ((ih _ _ _ _ _ _ _ _ _ _ _).2))<|rC 1 [] zAR fun _=>rC 0 [] pV fun _=>rC 0 [] pV fun _=>rC 0 [] nH fun _=>rC 2 [] A1 fun _=>rC 2 [0] X8 fun _=>lE 1⟩
theorem zPb:∀qq:Nat,∀p2 p3 p4 r1 v14 v15 zR v18 v64,Lz (fP qq p2 p3 p4 r1 v14 v15 zR v18 v64) 1 Tryz.f262 (inn (inn (rgt (lft (rgt (rgt (rgt (rgt (rgt (rgt (rgt (bod Tryz.f262)))))))))))) (fun j=>sp j 124 0 [(0,.mp 0 0),(2,ai p2),(3,slv zA p3 .no),(9,.mp 1 0),(10,.mp 2 0),(11,.mp 3 0),(13,ai (List.length r1.1.args:Int)),(14,slv zA v14 (.st 0 3)),(15,ai v15),(18,slv zA v18 (.st 1 3)),(63,ai (List.length r1.1.args:Int)),(64,ai v64)]) ⟨[(0,.cells [ai zR]),(1,.cells [ai p4.k,ai p4.n,slv zA p4.sub .no]),(2,.cells [ai 0,ai 0,slv zA ([]:List Tm) .nl]),(3,.cells [slv zA r1.1.args .no,slv zA r1.1.inds .no,slv kX r1.1.recs .no])],4,[0,1],2,[]⟩ (fun r=>tmA r.1) (fun r=>[.cells [ai r.2]]) 0 [.blk 2,.seq (rgt (rgt (rgt (rgt (rgt (rgt (rgt (rgt (bod Tryz.f262)))))))))]:=yW (fun _ _ _ _ _ _ _ _ _=>lN) fun qq ih=>fun p2 p3 p4 r1 v14 v15 zR v18 v64=>lw fun _=>rB 0 (rC 3 [] jY fun r14=>rS (oS 0 (yV xH [r14]))<|rW (fun h17=>oP 0 (xU h17 (by simp))) fun _=>lH 1 [] [0,1,2,3] [0,2] [0,2,3,9,10,11,13,14,15,18,63,64] (ih _ _ _ _ _ _ _ _ _))<|rC 1 [0] S0 fun r18=>rH fun _ h21=>rZ (List.length r18.1=0) (fun h22=>rS (oP 1 (sJ h21 h22))<|rH fun _ h24=>rZ (List.length v18=0) (fun h25=>rS (oP 0 (sJ h24 h25))<|rC 2 [0] zFl fun _=>lH 3 [] [0,2,4] [0,1] [0,2,10,14,18,20,21,22,96,97,98] ((J6 _ _ _ _ _ _ _ _ _ _ _ _).1)) fun h25=>rS (oP 0 (xU h24 h25))<|rC 2 [0] zFl fun _=>lH 3 [] [0,2,4] [0,1,2] [0,2,10,14,18,20,21,22,96,97,98] ((J6 _ _ _ _ _ _ _ _ _ _ _ _).2)) fun h22=>rS (oP 1 (xU h21 h22))<|rH fun _ h24=>rZ (List.length v18=0) (fun h25=>rS (oP 0 (sJ h24 h25))<|rC 2 [0] zFl fun _=>lH 3 [] [0,2,4] [0,1,2] [0,2,10,14,18,20,21,22,96,97,98] ((J6 _ _ _ _ _ _ _ _ _ _ _ _).2)) fun h25=>rS (oP 0 (xU h24 h25))<|rC 2 [0] zFl fun _=>lH 3 [] [0,2,4] [0,1,3] [0,2,10,14,18,20,21,22,96,97,98] ((J6 _ _ _ _ _ _ _ _ _ _ _ _).2)
theorem zPa:∀qq:Nat,∀p2 p3 p4 r1 v14 v15 v42 zR,Lz (kK qq p2 p3 p4 r1 v14 v15 v42 zR) 1 Tryz.f262 (inn (inn (rgt (lft (rgt (rgt (rgt (rgt (rgt (bod Tryz.f262)))))))))) (fun j=>sp j 124 0 [(0,.mp 0 0),(2,ai p2),(3,slv zA p3 .no),(9,.mp 1 0),(10,.mp 2 0),(11,.mp 3 0),(13,ai (List.length r1.1.args:Int)),(14,slv zA v14 (.st 0 3)),(15,ai v15),(40,slv kX r1.1.recs .no),(41,ai (List.length r1.1.recs:Int)),(42,ai v42)]) ⟨[(0,.cells [ai zR]),(1,.cells [ai p4.k,ai p4.n,slv zA p4.sub .no]),(2,.cells [ai 0,ai 0,slv zA ([]:List Tm) .nl]),(3,.cells [slv zA r1.1.args .no,slv zA r1.1.inds .no,slv kX r1.1.recs .no])],4,[0],1,[]⟩ (fun r=>tmA r.1) (fun r=>[.cells [ai r.2]]) 0 [.blk 0,.seq (rgt (rgt (rgt (rgt (rgt (rgt (bod Tryz.f262)))))))]:=yW (fun _ _ _ _ _ _ _ _=>lN) fun qq ih=>fun p2 p3 p4 r1 v14 v15 v42 zR=>lw fun _=>rB 0 (rA 0 (zQc (o:=.no)) fun _=>rB 2 (rC 2 [0] zVP fun r9=>rS (oS 0 (yV xH [r9.1]))<|rW (fun h12=>oP 0 (xU h12 (by simp))) fun _=>lH 2 [] [0,1,2,3] [1] [0,2,3,9,10,11,13,14,15,40,41,42] (ih _ _ _ _ _ _ _ _))<|lH 1 [] [0,1,2,3] [0] [0,2,3,9,10,11,13,14,15,40,41,42] (ih _ _ _ _ _ _ _ _))<|lH 0 [(none,18,3)] [0,1,2,3] [0,1] [0,2,3,9,10,11,13,14,15,18,63,64] (zPb _ _ _ _ _ _ _ _ _ _)
theorem zVQ{qq q0_e p1 p2 p3 p4}:Cz (zPc qq q0_e p1 p2 p3 p4) 262 [.cells [ai q0_e]] [.mp 0 0,slv zI p1 .no,ai p2,slv zA p3 .no,tmA p4] (fun r=>tmA r.1) (fun r=>[.cells [ai r.2]]) 0:=fw Tryz.func262<|rC 0 [] zVO fun _=>rC 6 [0] zIO fun _=>fH 2 [] [0,1,2,3] [0] [0,2,3,9,10,11,13,14,15,40,41,42] (zPa _ _ _ _ _ _ _ _ _)
def fQ:Nat->(List Ent)->Int->(List Tm×List Tm×Int)->Ent->(List Tm)->Int->Int->Option (Tm×Int)
 |0,_,_,_,_,_,_,_=>none
 |qq+1,p0,p1,r4,x15,v14,v59,yL=>
 if decide (v59<(List.length x15.cons:Int))then
 zL x15.cons v59>>=fun x18=>
 X7 qq (List.length r4.1:Int)>>=fun r20=>
 F3 qq yL r20 (w64 (v59+1))>>=fun r22=>
 dL qq v59>>=fun r24=>
 zPc qq r22.2 p0 x18 r22.1 r24>>=fun r26=>
 yR 40 v14 [r26.1]>>=fun l28=>
 fQ qq p0 p1 r4 x15 l28 (w64 (v59+1)) r26.2
 else
 zL p0 p1>>=fun x30=>
 X7 qq (List.length r4.1:Int)>>=fun r32=>
 F3 qq yL r32 (w64 ((List.length x30.cons:Int)+1))>>=fun r34=>
 zDo qq r34.2 r4.2.1 r34.1>>=fun r36=>
 yR 40 v14 r36.1>>=fun l38=>
 X9 qq p1>>=fun r41=>
 F3 qq r36.2 r32 (w64 ((w64 ((List.length x30.cons:Int)+1))+(List.length r4.2.1:Int)))>>=fun r43=>
 nI qq r41 r43.1>>=fun r45=>
 X7 qq (List.length r4.2.1:Int)>>=fun r47=>
 nI qq r45 r47>>=fun r49=>
 yR 40 l38 [r49]>>=fun l51=>
 dL qq (w64 ((w64 ((List.length x30.cons:Int)+(List.length r4.2.1:Int)))+1))>>=fun r53=>
 F3 qq r43.2 r47 1>>=fun r55=>
 nI qq r53 r55.1>>=fun r57=>
 dL qq 0>>=fun r59=>
 kY qq r57 r59>>=fun r61=>
 A0 qq l51 r61>>=fun r63=>
 S1 qq r55.2 r63.1 r63.2>>=fun r65=>
 zMz qq r65.2 r65.1>>=fun r67=>
 some (r67.1,r67.2.1)
def zPA(qq:Nat)(p0:List Ent)(p1 p2:Int):Option (Tm×Int):=
 zSx qq p0 p1 p2>>=fun r1=>
 if r1 != 0 then
 some ((Tm.mk 0 0 []),r1)
 else
 e48 qq p0 p1>>=fun r4=>
 yR 40 ([]:List Tm) r4.1>>=fun l6=>
 X7 qq (List.length r4.1:Int)>>=fun r9=>
 zPf qq 0 p0 p1 p2 r9>>=fun r11=>
 yR 40 l6 [r11.1]>>=fun l13=>
 zL p0 p1>>=fun x15=>
 fQ qq p0 p1 r4 x15 l13 0 r11.2
theorem zHp:∀qq:Nat,∀p0 p1 r4 x15 v14 v59 yL,Lz (fQ qq p0 p1 r4 x15 v14 v59 yL) 0 Tryz.f214 (inn (inn (rgt (lft (rgt (rgt (rgt (rgt (rgt (rgt (rgt (bod Tryz.f214)))))))))))) (fun j=>sp j 140 0 [(0,slv zI p0 .no),(1,ai p1),(6,.mp 0 0),(9,.mp 1 0),(11,slv zA r4.2.1 .no),(13,ai (List.length r4.1:Int)),(14,slv zA v14 (.st 0 3)),(57,slv zM x15.cons .no),(58,ai (List.length x15.cons:Int)),(59,ai v59)]) ⟨[(0,.cells [ai 0,ai 0,slv zA ([]:List Tm) .nl]),(1,.cells [ai yL])],2,[0],1,[]⟩ (fun r=>.tup [tmA r.1,ai r.2]) (fun _=>[]) 0 [.blk 0,.seq (rgt (rgt (rgt (rgt (rgt (rgt (rgt (rgt (bod Tryz.f214)))))))))]:=yW (fun _ _ _ _ _ _ _=>lN) fun qq ih=>fun p0 p1 r4 x15 v14 v59 yL=>lw fun _=>rB 0 (rA 0 (pL (o:=.no)) fun _=>rC 1 [] bH fun _=>rC 1 [1] S0 fun _=>rC 0 [] jY fun _=>rC 0 [1] zVQ fun r26=>rS (oS 0 (yV xH [r26.1]))<|rW (fun h29=>oP 0 (xU h29 (by simp))) fun _=>lH 1 [] [0,1] [1] [0,1,6,9,11,13,14,57,58,59] (ih _ _ _ _ _ _ _))<|rA 0 (yY (o:=.no)) fun _=>rH fun _ h33=>rS (oC 2 [] (bH _ h33))<|rC 1 [1] S0 fun _=>rC 0 [1] zIO fun r36=>rH fun _ h39=>rZ (List.length r36.1=0) (fun h40=>rS (oP 0 (sJ h39 h40))<|rC 1 [] zAR fun _=>rS (oC 0 [] (bH _ h33))<|rC 2 [1] S0 fun _=>rC 0 [] pV fun _=>rH fun _ h48=>rS (oC 0 [] (bH _ h48))<|rC 0 [] pV fun r49=>rS (oS 2 (yV xH [r49]))<|rW (fun h52=>oP 0 (xU h52 (by simp))) fun _=>rC 2 [] jY fun _=>rS (oC 0 [] (bH _ h48))<|rC 0 [1] S0 fun _=>rC 0 [] pV fun _=>rC 2 [] jY fun _=>rC 0 [] nH fun _=>rC 0 [] A1 fun _=>rC 2 [1] X8 fun _=>rC 0 [1] zRL fun _=>lE 3) fun h40=>rS (oP 0 (xU h39 h40))<|rC 1 [] zAR fun _=>rS (oC 0 [] (bH _ h33))<|rC 2 [1] S0 fun _=>rC 0 [] pV fun _=>rH fun _ h48=>rS (oC 0 [] (bH _ h48))<|rC 0 [] pV fun r49=>rS (oS 2 (yV xH [r49]))<|rW (fun h52=>oP 0 (xU h52 (by simp))) fun _=>rC 2 [] jY fun _=>rS (oC 0 [] (bH _ h48))<|rC 0 [1] S0 fun _=>rC 0 [] pV fun _=>rC 2 [] jY fun _=>rC 0 [] nH fun _=>rC 0 [] A1 fun _=>rC 2 [1] X8 fun _=>rC 0 [1] zRL fun _=>lE 3
theorem zVR{qq p0 p1 p2}:Cz (zPA qq p0 p1 p2) 214 [] [slv zI p0 .no,ai p1,ai p2] (fun r=>.tup [tmA r.1,ai r.2]) (fun _=>[]) 0:=fw Tryz.func214<|rC 0 [] zVN fun _=>rB 0 (fE 1)<|rC 0 [] c48 fun r4=>rH fun _ h7=>rZ (List.length r4.1=0) (fun h8=>rS (oP 5 (sJ h7 h8))<|rC 0 [] bH fun _=>rC 0 [1] zUr fun r11=>rS (oS 0 (yV xH [r11.1]))<|rW (fun h14=>oP 0 (xU h14 (by simp))) fun _=>rA 0 (yY (o:=.no)) fun _=>fH 2 [] [0,1] [0] [0,1,6,9,11,13,14,57,58,59] (zHp _ _ _ _ _ _ _ _)) fun h8=>rS (oP 5 (xU h7 h8))<|rC 0 [] bH fun _=>rC 0 [1] zUr fun r11=>rS (oS 0 (yV xH [r11.1]))<|rW (fun h14=>oP 0 (xU h14 (by simp))) fun _=>rA 0 (yY (o:=.no)) fun _=>fH 2 [] [0,1] [1] [0,1,6,9,11,13,14,57,58,59] (zHp _ _ _ _ _ _ _ _)
def piI(l:List Tm)(t:Tm):Tm:=l.foldr (fun a x=>.mk 3 0 [a,x]) t
theorem zPB(l:List Tm)(hl:l.length≤24)(ho:OkA l):∀(m v:Nat) (t:Tm),v+m=l.length->t.Ok->Tot (fun q=>sS q l (v:Int) t.k t.n t.sub) (MT 0 (piI (l.take m) t)):=by
 intro m
 induction m with
 |zero=>
  intro v t hm ht
  refine Tot.succ ?_
  simp only[sS,uI]
  refine Tot.ite (fun h=>?_) fun _=>?_
  ·have:=of_decide_eq_true h
   omega
  ·refine Tot.bind (P:=fun b=>b=zG t) ((xB t ht).tot rfl) fun r hr=>Tot.ite (fun h=>?_) fun _=>Tot.ret ⟨yS 0 0,by simp,by simp⟩
   refine Tot.bind (P:=fun x=>x=mT t) ((pW t ht).tot rfl) fun x hx=>Tot.ret ?_
   subst hx
   have e:mT t=t:=by unfold mT;rw[if_pos (by rw[←hr];exact h)]
   rw[e]
   exact⟨ht,by simp,fun _=>⟨rfl,by simp[piI]⟩⟩
 |succ m ih=>
  intro v t hm ht
  refine Tot.succ ?_
  simp only[sS,uI]
  refine Tot.ite (fun _=>?_) fun h=>?_
  ·have hlt:m<l.length:=by omega
   rw[zV (x:=(l.length:Int)-1) (by omega) (by omega),zV (x:=(l.length:Int)-1-v) (by omega) (by omega)]
   have hx:zL l ((l.length:Int)-1-v)=some l[m]:=by
    unfold zL
    rw[if_pos (by omega),show ((l.length:Int)-1-v).toNat=m by omega,List.getElem?_eq_getElem hlt]
   refine Tot.pure hx (Tot.bind (P:=fun r=>r=Tm.mk 3 0 [l[m],t]) (Evt.tot (Evt.mk fun _=>rfl) rfl) fun r hr=>?_)
   subst hr
   rw[zU v (by omega)]
   refine(ih (v+1) _ (by omega) (sB (ho _ (List.getElem_mem hlt)) ht)).mono fun x hx=>?_
   have e:l.take (m+1)=l.take m++[l[m]]:=by rw[List.take_add_one,List.getElem?_eq_getElem hlt];rfl
   rw[e]
   unfold piI at hx ⊢
   rw[List.foldr_append]
   exact hx
  ·have:=of_decide_eq_false h
   omega
theorem zHo(t:Tm)(ht:t.Ok):∀(r l:List Tm) (v:Nat),l.drop v=r->l.length≤24->OkA l->Tot (fun q=>sT q l t (v:Int)) (MT 0 (piI l t))
 | [],l,v,hd,hl,ho=>by
  refine Tot.succ ?_
  simp only[sT]
  refine Tot.ite (fun h=>?_) fun _=>?_
  ·rw[zX hd]at h;cases h
  ·refine Tot.bind (P:=fun _=>True) ((xB t ht).tot trivial) fun r _=>Tot.ite (fun _=>?_) fun _=>Tot.ret ⟨yS 0 0,by simp,by simp⟩
   have:=zPB l hl ho l.length 0 t (by omega) ht
   rwa[List.take_length]at this
 |x::r,l,v,hd,hl,ho=>by
  have hlt:=yC hd
  refine Tot.succ ?_
  simp only[sT]
  refine Tot.ite (fun _=>?_) fun h=>?_
  ·refine Tot.pure (zS hd) (Tot.bind (P:=fun _=>True) ((xB x (ho.at hd)).tot trivial) fun _ _=>Tot.ite (fun _=>?_) fun _=>Tot.ret ⟨yS 0 0,by simp,by simp⟩)
   rw[zU v (by omega)]
   exact zHo t ht r l (v+1) (zQ hd) hl ho
  ·rw[zW hd]at h;cases h
theorem fR(l:List Tm)(t:Tm)(ho:OkA l)(ht:t.Ok):Tot (fun q=>A0 q l t) (MT 0 (piI l t)):=by
 simp only[A0]
 refine Tot.bind (P:=MT 0 (piI l t)) ?_ fun x hx=>Tot.ret hx
 simp only[U1]
 refine Tot.ite (fun _=>Tot.ret ⟨yS 0 0,by simp,by simp⟩) fun h=>?_
 have:=of_decide_eq_false h
 exact zHo t ht l l 0 rfl (by omega) ho
def MO(e:Int)(x:Tm×Int):Prop:=x.1.Ok∧(e≠8->x.2≠8)
theorem MT.mo{e:Int}{v:Tm}{x:Tm×Int}(h:MT e v x):MO e x:=⟨h.1,h.2.1⟩
theorem bO(e:Int)(t:Tm)(p:Int)(ht:t.Ok)(hp:p≠8):Tot (fun q=>S1 q e t p) (MO e):=by
 refine(J1 e t p).mono fun x hx=>⟨by rw[hx.1];exact ht,fun he=>?_⟩
 rw[hx.2];split
 ·exact hp
 ·exact he
theorem zDF(p3:uS)(p4 p5 p6:Int)(h3:bI p3)(outer:List Tm)(ho:OkA outer)(hl:outer.length≤1073741824):∀(r:List Tm) (v:Nat) (e:Int) (t:Tm),p3.at'.drop v=r->t.Ok->Tot (fun q=>kH q p3 p4 p5 p6 outer (v:Int) e t.k t.n t.sub) (MO e)
 | [],v,e,t,hd,ht=>by
  refine Tot.succ ?_
  simp only[kH,uI]
  refine Tot.ite (fun h=>?_) fun _=>?_
  ·rw[zX hd]at h;cases h
  ·have:=h3.2.2.1
   refine Tot.bind (P:=fun x=>x.Ok) ((qL _).tot (yS _ _)) fun r20 h20=>Tot.bind (P:=fun x=>x=kZ p3.around.length) ((kF _ this).tot rfl) fun r22 h22=>?_
   subst h22
   refine Tot.bind (P:=fun x=>x.Ok) ((vA r20 _ (by rw[vS];omega)).tot (uQ _ _ h20 (qV _))) fun r24 h24=>?_
   refine Tot.bind (P:=fun x=>x.Ok) ((pM t r24).tot (sB ht h24)) fun r26 h26=>?_
   refine(rR e p3.around outer ho hl (by omega) h3.1).bind fun r28 h28=>(fR r28.1 r26 h28.1.1 h26).bind fun r30 h30=>(bO r28.2 r30.1 r30.2 h30.1 (h30.2.1 (by decide))).bind fun r32 h32=>Tot.ret ⟨h32.1,fun he=>h32.2 (h28.1.2.1 he)⟩
 |x::r,v,e,t,hd,ht=>by
  have hlt:=yC hd
  have:=h3.2.2.1
  have:=h3.2.2.2
  refine Tot.succ ?_
  simp only[kH,uI]
  refine Tot.ite (fun _=>?_) fun h=>?_
  ·refine Tot.pure (zS hd) ((nU e x _ outer (h3.2.1.at hd) (by omega) ho hl).bind fun r16 h16=>?_)
   refine Tot.bind (P:=fun x=>x=Tm.mk 5 0 [t,r16.1]) ((pM t r16.1).tot rfl) fun r18 h18=>?_
   subst h18
   rw[zU v (by omega)]
   exact(zDF p3 p4 p5 p6 h3 outer ho hl r (v+1) r16.2 (.mk 5 0 [t,r16.1]) (zQ hd) (sB ht h16.1)).mono fun y hy=>⟨hy.1,fun he=>hy.2 (h16.2.1 he)⟩
  ·rw[zW hd]at h;cases h
theorem zMC(p2:Tm)(p3:uS)(p4:Nat)(p5 p6:Int)(h2:p2.Ok)(h3:bI p3)(r1:List Tm×Int)(h4:p4≤65535):∀(m v:Nat) (acc:List Tm),v+m=p4->acc.length≤1048576+v->OkA acc->Tot (fun q=>kI q p2 p3 (p4:Int) p5 p6 r1 acc (v:Int)) (MO r1.2):=by
 intro m
 induction m with
 |zero=>
  intro v acc hm ha ho
  refine Tot.succ ?_
  simp only[kI]
  refine Tot.ite (fun h=>?_) fun _=>(zFj r1.2 p2 _ h2).bind fun r11 h11=>?_
  ·have:=of_decide_eq_true h
   omega
  ·exact(zDF p3 p4 p5 p6 h3 acc ho (by omega) p3.at' 0 r11.2 r11.1 rfl h11.1).mono fun y hy=>⟨hy.1,fun he=>hy.2 (h11.2.1 he)⟩
 |succ m ih=>
  intro v acc hm ha ho
  refine Tot.succ ?_
  simp only[kI]
  refine Tot.ite (fun _=>?_) fun h=>?_
  ·refine Tot.bind (P:=fun x=>x.Ok) ((qL _).tot (yS _ _)) fun r7 h7=>Tot.pure (zZ (by simp<;>omega)) ?_
   rw[zU v (by omega)]
   exact ih (v+1) _ (by omega) (by simp<;>omega) (ho.app (OkA.one h7))
  ·have:=of_decide_eq_false h
   omega
theorem zDG(e:Int)(p1:List Tm)(p2:Tm)(p3:uS)(p4:Nat)(p5 p6:Int)(h1:OkA p1)(hl1:p1.length≤1048576)(h2:p2.Ok)(h3:bI p3)(h4:p4≤65535):Tot (fun q=>zPd q e p1 p2 p3 (p4:Int) p5 p6) (MO e):=by
 simp only[zPd]
 refine(pY e p1 _ (by omega) h1).bind fun r1 hr1=>Tot.pure (zZ (by simp;omega)) ?_
 rw[List.nil_append]
 exact(zMC p2 p3 p4 p5 p6 h2 h3 r1 h4 p4 0 r1.1 (by omega) (by omega) hr1.1.1).mono fun y hy=>⟨hy.1,fun he=>hy.2 (hr1.1.2.1 he)⟩
def zAX(p:xN):Prop:=OkA p.args∧OkA p.inds∧p.args.length≤24∧p.inds.length≤8192∧p.recs.length≤24∧∀r∈p.recs,bI r
theorem zDH(p2:Int)(r1:xN × Int)(hp:zAX r1.1)(v14 v18 l23:List Tm)(r18:List Tm×Int)(h14:OkA v14)(h18:OkA v18)(hl18:v18.length≤65535)(h23:OkA l23)(hl23:l23.length≤1073741824)(hr18:OkA r18.1)(hlr:r18.1.length≤1048576):∀(r:List Tm) (v:Nat) (e:Int) (t:Tm),r1.1.inds.drop v=r->t.Ok->Tot (fun q=>kJ q p2 r1 v14 v18 r18 l23 (v:Int) e t.k t.n t.sub) (MO e)
 | [],v,e,t,hd,ht=>by
  refine Tot.succ ?_
  simp only[kJ,uI]
  refine Tot.ite (fun h=>?_) fun _=>?_
  ·rw[zX hd]at h;cases h
  ·refine Tot.bind (P:=fun x=>x=Tm.mk 6 p2 []) (Evt.tot (Evt.mk fun _=>rfl) rfl) fun r35 h35=>?_
   subst h35
   refine Tot.bind (P:=fun x=>x.Ok) ((vA _ r18.1 (by omega)).tot (uQ _ _ (yS _ _) hr18)) fun r37 h37=>?_
   refine Tot.bind (P:=fun x=>x.Ok) ((vA r37 v18 (by omega)).tot (uQ _ _ h37 h18)) fun r39 h39=>?_
   refine Tot.bind (P:=fun x=>x.Ok) ((pM t r39).tot (sB ht h39)) fun r41 h41=>?_
   exact(fR v14 r41 h14 h41).bind fun r43 h43=>(bO e r43.1 r43.2 h43.1 (h43.2.1 (by decide))).bind fun r45 h45=>Tot.ret h45
 |x::r,v,e,t,hd,ht=>by
  have hlt:=yC hd
  have:=hp.2.2.2.1
  refine Tot.succ ?_
  simp only[kJ,uI]
  refine Tot.ite (fun _=>?_) fun h=>?_
  ·refine Tot.pure (zS hd) ((nU e x 0 l23 (hp.2.1.at hd) (by omega) h23 hl23).bind fun r31 h31=>?_)
   refine Tot.bind (P:=fun x=>x=Tm.mk 5 0 [t,r31.1]) ((pM t r31.1).tot rfl) fun r33 h33=>?_
   subst h33
   rw[zU v (by omega)]
   exact(zDH p2 r1 hp v14 v18 l23 r18 h14 h18 hl18 h23 hl23 hr18 hlr r (v+1) r31.2 (.mk 5 0 [t,r31.1]) (zQ hd) (sB ht h31.1)).mono fun y hy=>⟨hy.1,fun he=>hy.2 (h31.2.1 he)⟩
  ·rw[zW hd]at h;cases h
theorem zMD(p2:Int)(p3:List Tm)(p4:Tm)(r1:xN × Int)(hp:zAX r1.1)(h3:OkA p3)(hl3:p3.length≤1048576)(h4:p4.Ok)(v14:List Tm)(v15 e:Int)(h14:OkA v14):∀(m v:Nat) (acc:List Tm),v+m=r1.1.args.length->acc.length≤v->OkA acc->Tot (fun q=>fP q p2 p3 p4 r1 v14 v15 e acc (v:Int)) (MO e):=by
 intro m
 have:=hp.2.2.1
 induction m with
 |zero=>
  intro v acc hm ha ho
  refine Tot.succ ?_
  simp only[fP]
  refine Tot.ite (fun h=>?_) fun _=>(pY e p3 _ (by omega) h3).bind fun r18 h18=>?_
  ·have:=of_decide_eq_true h
   omega
  ·refine Tot.pure (zZ (by simp;omega)) (Tot.pure (zZ (by simp;omega)) ?_)
   rw[List.nil_append]
   refine(zFj r18.2 p4 _ h4).bind fun r26 h26=>?_
   exact(zDH p2 r1 hp v14 acc (r18.1++acc) r18 h14 ho (by omega) (h18.1.1.app ho) (by simp;omega) h18.1.1 (by omega) r1.1.inds 0 r26.2 r26.1 rfl h26.1).mono fun y hy=>⟨hy.1,fun he=>hy.2 (h26.2.1 (h18.1.2.1 he))⟩
 |succ m ih=>
  intro v acc hm ha ho
  refine Tot.succ ?_
  simp only[fP]
  refine Tot.ite (fun _=>?_) fun h=>?_
  ·refine Tot.bind (P:=fun x=>x.Ok) ((qL _).tot (yS _ _)) fun r14 h14=>Tot.pure (zZ (by simp<;>omega)) ?_
   rw[zU v (by omega)]
   exact ih (v+1) _ (by omega) (by simp<;>omega) (ho.app (OkA.one h14))
  ·have:=of_decide_eq_false h
   omega
theorem U2(p2:Int)(p3:List Tm)(p4:Tm)(r1:xN × Int)(hp:zAX r1.1)(h3:OkA p3)(hl3:p3.length≤1048576)(h4:p4.Ok):∀(r:List uS) (v:Nat) (acc:List Tm) (seen e:Int),r1.1.recs.drop v=r->v≤24->acc.length≤24+v->OkA acc->Tot (fun q=>kK q p2 p3 p4 r1 acc seen (v:Int) e) (MO e)
 | [],v,acc,seen,e,hd,hv,ha,ho=>by
  refine Tot.succ ?_
  simp only[kK]
  refine Tot.ite (fun h=>?_) fun _=>?_
  ·rw[zX hd]at h;cases h
  ·exact zMD p2 p3 p4 r1 hp h3 hl3 h4 acc seen e ho r1.1.args.length 0 [] (by omega) (by simp) OkA.nil
 |x::r,v,acc,seen,e,hd,hv,ha,ho=>by
  have hlt:=yC hd
  have h5:=hp.2.2.2.2.1
  have hx:x∈r1.1.recs:=by
   have:x∈r1.1.recs.drop v:=by rw[hd];simp
   exact List.mem_of_mem_drop this
  refine Tot.succ ?_
  simp only[kK]
  refine Tot.ite (fun _=>?_) fun h=>?_
  ·refine Tot.pure (zS hd) (Tot.ite (fun _=>?_) fun _=>?_)
   ·refine(zDG e p3 p4 x v _ seen h3 hl3 h4 (hp.2.2.2.2.2 x hx) (by omega)).bind fun r9 h9=>Tot.pure (zZ (by simp<;>omega)) ?_
    rw[zU v (by omega)]
    exact(U2 p2 p3 p4 r1 hp h3 hl3 h4 r (v+1) _ _ r9.2 (zQ hd) (by omega) (by simp<;>omega) (ho.app (OkA.one h9.1))).mono fun y hy=>⟨hy.1,fun he=>hy.2 (h9.2 he)⟩
   ·rw[zU v (by omega)]
    exact U2 p2 p3 p4 r1 hp h3 hl3 h4 r (v+1) acc seen e (zQ hd) (by omega) (by omega) ho
  ·rw[zW hd]at h;cases h
theorem zME{N:ByteArray->Bool}{l:List Ent}{i:Int}(hE:vK N l)(h0:0≤i)(h1:i<l.length)(hk:(ent l i).kind=2):zAX (vO l i):=by
 obtain⟨A,y,hw,hy,hA,hAp,hA24,p0,p1,-⟩:=tN hE h0 h1 hk
 have hal:=sA _ (zK hy).2.2
 have hn:=(zK hy).1
 unfold vO
 rw[hw]
 refine⟨fun x hx=>yG (hA x (List.mem_of_mem_drop hx)),fun x hx=>yG (xP hy (List.mem_of_mem_drop hx)),?_,?_,?_,zAI l _ _ _⟩
 ·show (A.drop _).length≤24
  rw[List.length_drop];omega
 ·show ((arT y).drop _).length≤8192
  rw[List.length_drop];omega
 ·show (D4 l _ (A.drop _) _).length≤24
  rw[aV,List.length_drop];omega
theorem zMF{N:ByteArray->Bool}(l:List Ent)(i:Int)(hF:Evt (fun q=>e47 q l) true)(hE:vK N l)(he:∀e∈l,EOk e)(h:isT l i 2=true):Evt (fun q=>zPe q l i) (vO l i,0):=by
 have hi:=wU h
 simp only[zPe]
 exact hF.bind (Evt.ifT rfl (((zGT l i 2).eq h).bind (Evt.ifT rfl ((zDs l i hE hi.1 hi.2.1 hi.2.2 he).bind Evt.ret))))
theorem zFD{N:ByteArray->Bool}(l:List Ent)(c:Int)(hF:Evt (fun q=>e47 q l) true)(hE:vK N l)(he:∀e∈l,EOk e)(hc:isT l c 2=true)(e:Int)(p3:List Tm)(p4:Tm)(h3:OkA p3)(hl3:p3.length≤1048576)(h4:p4.Ok):Tot (fun q=>zPc q e l c p3 p4) (MO e):=by
 have hi:=wU hc
 have hp:=zME hE hi.1 hi.2.1 hi.2.2
 simp only[zPc]
 refine Tot.bind (P:=fun r=>r=(vO l c,0)) ((zMF l c hF hE he hc).tot rfl) fun r1 hr1=>?_
 subst hr1
 refine(rR e (vO l c).args p3 h3 (by omega) (by have:=hp.2.2.1;omega) hp.1).bind fun r3 h3'=>?_
 have:=hp.2.2.1
 exact(U2 c p3 p4 (vO l c,0) hp h3 hl3 h4 (vO l c).recs 0 r3.1 0 r3.2 rfl (by omega) (by have:=h3'.2;omega) h3'.1.1).mono fun y hy=>⟨hy.1,fun he=>hy.2 (h3'.1.2.1 he)⟩
def vX(l:List Ent)(d:Int):List Tm×List Tm:=
 ((wG (ent l d).type ((ent l d).pars+(ent l d).inds)).1.take (ent l d).pars.toNat,(wG (ent l d).type ((ent l d).pars+(ent l d).inds)).1.drop (ent l d).pars.toNat)
theorem kL{N:ByteArray->Bool}{l:List Ent}{d:Int}(hE:vK N l)(h:isT l d 1=true):(wG (ent l d).type ((ent l d).pars+(ent l d).inds)).2.2=0∧((wG (ent l d).type ((ent l d).pars+(ent l d).inds)).1.length:Int)=(ent l d).pars+(ent l d).inds∧(∀x∈(wG (ent l d).type ((ent l d).pars+(ent l d).inds)).1,zG x=true)∧0≤(ent l d).pars∧0≤(ent l d).inds∧(ent l d).pars+(ent l d).inds≤24∧(ent l d).cons.length≤16∧∀c∈(ent l d).cons,isT l c 2=true:=by
 have hi:=wU h
 have hft:=(xQ (hE.2 d hi.1 hi.2.1)).2.1 hi.2.2
 have hs:=wI hft
 unfold qU zFy zAB at hft
 simp only[Bool.and_eq_true,beq_iff_eq]at hft
 have hb:=hft.1.1.2.1.1
 have hsp:=aL (t:=(ent l d).type) (n:=(ent l d).pars+(ent l d).inds) (l:=(wG (ent l d).type ((ent l d).pars+(ent l d).inds)).1) (y:=(wG (ent l d).type ((ent l d).pars+(ent l d).inds)).2.1) (by rw[←hb])
 have key:∀(r:List Int) (k:Int),aR l d 2 r k=true->∀n∈r,isT l n 2=true:=by
  intro r
  induction r with
  |nil=>intro k _ n hn;cases hn
  |cons a r ih=>
   intro k h n hn
   rw[aR]at h
   simp only[Bool.and_eq_true]at h
   rcases List.mem_cons.1 hn with rfl|hn
   ·exact h.1.1.1
   ·exact ih _ h.2 n hn
 exact⟨hb,hsp.2.2.2.1,hsp.2.2.2.2.2.2,hs.1,hs.2.1,hs.2.2.1,hs.2.2.2,key _ 0 hft.1.2.2⟩
theorem zHn{N:ByteArray->Bool}(l:List Ent)(d:Int)(hF:Evt (fun q=>e47 q l) true)(hE:vK N l)(he:∀e∈l,EOk e)(h:isT l d 1=true):Evt (fun q=>e48 q l d) ((vX l d).1,(vX l d).2,0):=by
 have hi:=wU h
 obtain⟨h0,h1,h2,h3,h4,h5,-,-⟩:=kL hE h
 simp only[e48]
 refine hF.bind (Evt.ifT rfl (((zGT l d 1).eq h).bind (Evt.ifT rfl (Evt.pure (yF hi.1 hi.2.1) ?_))))
 rw[zV (x:=(ent l d).pars+(ent l d).inds) (by omega) (by omega)]
 refine(iB _ _ (he _ (tY hi.1 hi.2.1)).1).bind (Evt.pure (a:=(vX l d).1) ?_ (Evt.pure (uZ h3 (by omega)) Evt.ret))
 rw[fM (by omega) h3 (by omega)]
 unfold vX;simp
theorem J7{N:ByteArray->Bool}{l:List Ent}{d:Int}(hE:vK N l)(h:isT l d 1=true):OkA (vX l d).1∧OkA (vX l d).2∧(vX l d).1.length≤24∧(vX l d).2.length≤24:=by
 obtain⟨h0,h1,h2,h3,h4,h5,-,-⟩:=kL hE h
 refine⟨fun x hx=>yG (h2 x (List.mem_of_mem_take hx)),fun x hx=>yG (h2 x (List.mem_of_mem_drop hx)),?_,?_⟩
 ·unfold vX;rw[List.length_take];omega
 ·unfold vX;rw[List.length_drop];omega
theorem zFE{N:ByteArray->Bool}(l:List Ent)(d lev:Int)(hF:Evt (fun q=>e47 q l) true)(hE:vK N l)(he:∀e∈l,EOk e)(h:isT l d 1=true)(e:Int)(p4:List Tm)(h4:OkA p4)(hl4:p4.length≤1048576):Tot (fun q=>zPf q e l d lev p4) (MO e):=by
 obtain⟨o1,o2,l1,l2⟩:=J7 hE h
 simp only[zPf]
 refine Tot.bind (P:=fun r=>r=((vX l d).1,(vX l d).2,0)) ((zHn l d hF hE he h).tot rfl) fun r1 hr1=>?_
 subst hr1
 refine Tot.bind (P:=fun x=>x=Tm.mk 6 d []) (Evt.tot (Evt.mk fun _=>rfl) rfl) fun r3 h3=>?_
 subst h3
 refine(pY e p4 _ (by omega) h4).bind fun r5 h5=>?_
 refine Tot.bind (P:=fun x=>x.Ok) ((vA _ r5.1 (by omega)).tot (uQ _ _ (yS _ _) h5.1.1)) fun r7 h7=>?_
 refine Tot.bind (P:=fun x=>x=kZ (vX l d).2.length) ((kF (vX l d).2.length (by omega)).tot rfl) fun r9 h9=>?_
 subst h9
 refine Tot.bind (P:=fun x=>x.Ok) ((vA r7 _ (by rw[vS];omega)).tot (uQ _ _ h7 (qV _))) fun r11 h11=>?_
 refine(rR r5.2 (vX l d).2 p4 h4 (by omega) (by omega) o2).bind fun r13 h13=>Tot.pure (zZ (by simp;have:=h13.2;omega)) ?_
 refine Tot.bind (P:=fun x=>x.Ok) ((lY lev).tot (yS _ _)) fun r17 h17=>?_
 exact(fR (r13.1++[r11]) r17 (h13.1.1.app (OkA.one h11)) h17).bind fun r19 h19=>(bO r13.2 r19.1 r19.2 h19.1 (h19.2.1 (by decide))).bind fun r21 h21=>Tot.ret ⟨h21.1,fun he=>h21.2 (h13.1.2.1 (h5.1.2.1 he))⟩
theorem zDI{N:ByteArray->Bool}(l:List Ent)(d:Int)(hF:Evt (fun q=>e47 q l) true)(hE:vK N l)(he:∀e∈l,EOk e)(h:isT l d 1=true):∀(r:List Int) (v:Nat) (acc:List Tm) (e:Int),(ent l d).cons.drop v=r->v≤16->acc.length≤32+v->OkA acc->Tot (fun q=>fQ q l d ((vX l d).1,(vX l d).2,0) (ent l d) acc (v:Int) e) (MO e)
 | [],v,acc,e,hd,hv,ha,ho=>by
  have hi:=wU h
  obtain⟨o1,o2,l1,l2⟩:=J7 hE h
  obtain⟨-,-,-,-,-,-,hcl,-⟩:=kL hE h
  refine Tot.succ ?_
  simp only[fQ]
  refine Tot.ite (fun h=>?_) fun _=>?_
  ·rw[zX hd]at h;cases h
  ·refine Tot.pure (yF hi.1 hi.2.1) (Tot.bind (P:=fun x=>x=kZ (vX l d).1.length) ((kF (vX l d).1.length (by omega)).tot rfl) fun r32 h32=>?_)
   subst h32
   refine(pY e _ _ (by rw[vS];omega) (qV _)).bind fun r34 h34=>?_
   have hl34:=h34.2
   rw[vS]at hl34
   refine(rR r34.2 (vX l d).2 r34.1 h34.1.1 (by omega) (by omega) o2).bind fun r36 h36=>Tot.pure (zZ (by have:=h36.2;omega)) ?_
   refine Tot.bind (P:=fun x=>x=Tm.mk 6 d []) (Evt.tot (Evt.mk fun _=>rfl) rfl) fun r41 h41=>?_
   subst h41
   refine(pY r36.2 _ _ (by rw[vS];omega) (qV _)).bind fun r43 h43=>?_
   have hl43:=h43.2
   rw[vS]at hl43
   refine Tot.bind (P:=fun x=>x.Ok) ((vA _ r43.1 (by omega)).tot (uQ _ _ (yS _ _) h43.1.1)) fun r45 h45=>?_
   refine Tot.bind (P:=fun x=>x=kZ (vX l d).2.length) ((kF (vX l d).2.length (by omega)).tot rfl) fun r47 h47=>?_
   subst h47
   refine Tot.bind (P:=fun x=>x.Ok) ((vA r45 _ (by rw[vS];omega)).tot (uQ _ _ h45 (qV _))) fun r49 h49=>?_
   refine Tot.pure (zZ (by simp;have:=h36.2;omega)) ?_
   refine Tot.bind (P:=fun x=>x.Ok) ((qL _).tot (yS _ _)) fun r53 h53=>?_
   refine(pY r43.2 _ _ (by rw[vS];omega) (qV _)).bind fun r55 h55=>?_
   have hl55:=h55.2
   rw[vS]at hl55
   refine Tot.bind (P:=fun x=>x.Ok) ((vA r53 r55.1 (by omega)).tot (uQ _ _ h53 h55.1.1)) fun r57 h57=>?_
   refine Tot.bind (P:=fun x=>x.Ok) ((qL _).tot (yS _ _)) fun r59 h59=>?_
   refine Tot.bind (P:=fun x=>x.Ok) ((pM r57 r59).tot (sB h57 h59)) fun r61 h61=>?_
   refine(fR _ r61 ((ho.app h36.1.1).app (OkA.one h49)) h61).bind fun r63 h63=>(bO r55.2 r63.1 r63.2 h63.1 (h63.2.1 (by decide))).bind fun r65 h65=>(zDj r65.2 r65.1 h65.1).bind fun r67 h67=>Tot.ret ⟨h67.1,fun he=>h67.2.1 (h65.2 (h55.1.2.1 (h43.1.2.1 (h36.1.2.1 (h34.1.2.1 he)))))⟩
 |c::r,v,acc,e,hd,hv,ha,ho=>by
  have hlt:=yC hd
  obtain⟨o1,o2,l1,l2⟩:=J7 hE h
  obtain⟨-,-,-,-,-,-,hcl,hcons⟩:=kL hE h
  have hc:c∈(ent l d).cons:=by
   have:c∈(ent l d).cons.drop v:=by rw[hd];simp
   exact List.mem_of_mem_drop this
  refine Tot.succ ?_
  simp only[fQ]
  refine Tot.ite (fun _=>?_) fun h=>?_
  ·refine Tot.pure (zS hd) (Tot.bind (P:=fun x=>x=kZ (vX l d).1.length) ((kF (vX l d).1.length (by omega)).tot rfl) fun r20 h20=>?_)
   subst h20
   refine(pY e _ _ (by rw[vS];omega) (qV _)).bind fun r22 h22=>?_
   have hl22:=h22.2
   rw[vS]at hl22
   refine Tot.bind (P:=fun x=>x.Ok) ((qL _).tot (yS _ _)) fun r24 h24=>?_
   refine(zFD l c hF hE he (hcons c hc) r22.2 r22.1 r24 h22.1.1 (by omega) h24).bind fun r26 h26=>Tot.pure (zZ (by simp<;>omega)) ?_
   rw[zU v (by omega)]
   exact(zDI l d hF hE he h r (v+1) _ r26.2 (zQ hd) (by omega) (by simp<;>omega) (ho.app (OkA.one h26.1))).mono fun y hy=>⟨hy.1,fun he=>hy.2 (h26.2 (h22.1.2.1 he))⟩
  ·rw[zW hd]at h;cases h
theorem zJx{N:ByteArray->Bool}(l:List Ent)(d lev:Int)(hF:Evt (fun q=>e47 q l) true)(hE:vK N l)(he:∀e∈l,EOk e):Tot (fun q=>zPA q l d lev) (MO 0):=by
 have bad:∀e:Int,e≠8->MO 0 (.mk 0 0 [],e):=fun e h=>⟨yS 0 0,fun _=>h⟩
 simp only[zPA,zSx]
 refine Tot.bind (P:=fun r=>r≠8∧(r=0->isT l d 1=true)) ?_ fun r1 hr1=>Tot.ite (fun _=>Tot.ret (bad _ hr1.1)) fun h=>?_
 ·refine Tot.bind (P:=fun b=>b=true) (hF.tot rfl) fun b hb=>Tot.ite (fun _=>?_) fun h=>by rw[hb]at h;cases h
  refine Tot.bind (P:=fun b=>b=isT l d 1) ((zAH l d 1).tot rfl) fun b2 hb2=>Tot.ite (fun h2=>?_) fun _=>Tot.ret ⟨by decide,fun h=>by cases h⟩
  exact Tot.ite (fun _=>Tot.ret ⟨by decide,fun h=>by cases h⟩) fun _=>Tot.ite (fun _=>Tot.ret ⟨by decide,fun h=>by cases h⟩) fun _=>Tot.ret ⟨by decide,fun _=>by rw[←hb2];exact h2⟩
 ·have h0:r1=0:=by simpa using h
  have hd:=hr1.2 h0
  have hi:=wU hd
  obtain⟨o1,o2,l1,l2⟩:=J7 hE hd
  refine Tot.bind (P:=fun r=>r=((vX l d).1,(vX l d).2,0)) ((zHn l d hF hE he hd).tot rfl) fun r4 hr4=>?_
  subst hr4
  refine Tot.pure (zZ (by simp;omega)) (Tot.bind (P:=fun x=>x=kZ (vX l d).1.length) ((kF (vX l d).1.length (by omega)).tot rfl) fun r9 h9=>?_)
  subst h9
  refine(zFE l d lev hF hE he hd 0 _ (qV _) (by rw[vS];omega)).bind fun r11 h11=>Tot.pure (zZ (by simp;omega)) (Tot.pure (yF hi.1 hi.2.1) ?_)
  exact(zDI l d hF hE he hd (ent l d).cons 0 _ r11.2 rfl (by omega) (by simp;omega) ((OkA.nil.app o1).app (OkA.one h11.1))).mono fun y hy=>⟨hy.1,fun he=>hy.2 (h11.2 he)⟩
def zPC(qq:Nat)(M:xO)(fl fu:Int)(q0_World_Context:List Tm)(q0_World_Names:List Int)(q0_World_Types:List Tm)(q0_l:List Ent)(p1:Int):Option (Tm×Int):=
 if decide (p1≥(List.length q0_World_Context:Int))then
 some ((Tm.mk 0 0 []),3)
 else
 zL q0_World_Context (w64 ((w64 ((List.length q0_World_Context:Int)-1))-p1))>>=fun x2=>
 zCe qq x2 (w64 (p1+1))>>=fun r4=>
 some (r4.1,r4.2)
theorem zVS{qq M fl fu q0_World_Context q0_World_Names q0_World_Types q0_l p1}:Cz (zPC qq M fl fu q0_World_Context q0_World_Names q0_World_Types q0_l p1) 212 [.cells [.mp 1 0,.mp 3 0,slv zA q0_World_Context .no,slv zM q0_World_Names .no,slv zA q0_World_Types .no,slv zI q0_l .no],mB M 2,mR M,.cells [ai fl,ai fu]] [.mp 0 0,ai p1] (fun r=>.tup [tmA r.1,ai r.2]) (fun _=>[.cells [.mp 1 0,.mp 3 0,slv zA q0_World_Context .no,slv zM q0_World_Names .no,slv zA q0_World_Types .no,slv zI q0_l .no],mB M 2,mR M,.cells [ai fl,ai fu]]) 0:=fw Tryz.func212<|rB 2 (fE 1)<|rA 5 (yM (o:=.no)) fun _=>rC 2 [] zKO fun _=>fE 3
def kM:Nat->xO->Int->Int->(List Tm)->(List Int)->(List Tm)->(List Ent)->Int->Int->Option (Tm×Int)
 |0,_,_,_,_,_,_,_,_,_=>none
 |qq+1,M,fl,fu,q0_World_Context,q0_World_Names,q0_World_Types,q0_l,p1,v6=>
 if decide (v6≥0)then
 zL q0_World_Names v6>>=fun x2=>
 if x2==p1 then
 zL q0_World_Types v6>>=fun x5=>
 zCe qq x5 (List.length q0_World_Context:Int)>>=fun r7=>
 some (r7.1,r7.2)
 else
 kM qq M fl fu q0_World_Context q0_World_Names q0_World_Types q0_l p1 (w64 (v6-1))
 else
 some ((Tm.mk 0 0 []),3)
def zPD(qq:Nat)(M:xO)(fl fu:Int)(q0_World_Context:List Tm)(q0_World_Names:List Int)(q0_World_Types:List Tm)(q0_l:List Ent)(p1:Int):Option (Tm×Int):=
 kM qq M fl fu q0_World_Context q0_World_Names q0_World_Types q0_l p1 (w64 ((List.length q0_World_Names:Int)-1))
theorem zPE:∀qq:Nat,∀M fl fu q0_World_Context q0_World_Names q0_World_Types q0_l p1 v6,Lz (kM qq M fl fu q0_World_Context q0_World_Names q0_World_Types q0_l p1 v6) 4 Tryz.f213 (inn (inn (rgt (lft (rgt (bod Tryz.f213)))))) (fun j=>sp j 46 0 [(0,.mp 0 0),(1,ai p1),(4,.mp 4 0),(6,ai v6)]) ⟨[(0,.cells [.mp 1 0,.mp 3 0,slv zA q0_World_Context .no,slv zM q0_World_Names .no,slv zA q0_World_Types .no,slv zI q0_l .no]),(1,mB M 2),(2,mR M),(3,.cells [ai fl,ai fu]),(4,.cells [ai 0,ai 0,slv zA ([]:List Tm) .nl])],5,[],0,[]⟩ (fun r=>.tup [tmA r.1,ai r.2]) (fun _=>[.cells [.mp 1 0,.mp 3 0,slv zA q0_World_Context .no,slv zM q0_World_Names .no,slv zA q0_World_Types .no,slv zI q0_l .no],mB M 2,mR M,.cells [ai fl,ai fu]]) 0 [.blk 0,.seq (rgt (rgt (bod Tryz.f213)))]:=yW (fun _ _ _ _ _ _ _ _ _=>lN) fun qq ih=>fun M fl fu q0_World_Context q0_World_Names q0_World_Types q0_l p1 v6=>lw fun _=>rB 0 (rA 1 (pL (o:=.no)) fun _=>rB 1 (rA 1 (yM (o:=.no)) fun _=>rC 3 [] zKO fun _=>lE 3)<|lH 1 [] [0,1,2,3,4] [] [0,1,4,6] (ih _ _ _ _ _ _ _ _ _))<|lE 1
theorem zVT{qq M fl fu q0_World_Context q0_World_Names q0_World_Types q0_l p1}:Cz (zPD qq M fl fu q0_World_Context q0_World_Names q0_World_Types q0_l p1) 213 [.cells [.mp 1 0,.mp 3 0,slv zA q0_World_Context .no,slv zM q0_World_Names .no,slv zA q0_World_Types .no,slv zI q0_l .no],mB M 2,mR M,.cells [ai fl,ai fu]] [.mp 0 0,ai p1] (fun r=>.tup [tmA r.1,ai r.2]) (fun _=>[.cells [.mp 1 0,.mp 3 0,slv zA q0_World_Context .no,slv zM q0_World_Names .no,slv zA q0_World_Types .no,slv zI q0_l .no],mB M 2,mR M,.cells [ai fl,ai fu]]) 0:=fw Tryz.func213<|fH 3 [] [0,1,2,3,4] [] [0,1,4,6] (zPE _ _ _ _ _ _ _ _ _ _)
def zPF(qq:Nat)(p0:Tm):Option (Tm×Int):=
 tV qq p0>>=fun r1=>
 if r1 then
 some (p0,0)
 else
 some ((Tm.mk 0 0 []),2)
theorem zVU{qq p0}:Cz (zPF qq p0) 267 [] [tmA p0] (fun r=>.tup [tmA r.1,ai r.2]) (fun _=>[]) 0:=fw Tryz.func267<|rK 1 [] sW (fun _=>fE 3) fun _=>fE 2
def e95(qq:Nat)(M:xO)(fl fu:Int)(q0_World_Context:List Tm)(q0_World_Names:List Int)(q0_World_Types:List Tm)(q0_l:List Ent)(p1:Tm):Option (List Tm×List Int×List Tm×List Ent):=
 gsl q0_World_Context 0 (List.length q0_World_Context:Int)>>=fun x1=>
 yR 40 x1 [p1]>>=fun l3=>
 some (l3,q0_World_Names,q0_World_Types,q0_l)
theorem c95{qq M fl fu q0_World_Context q0_World_Names q0_World_Types q0_l p1}:Cz (e95 qq M fl fu q0_World_Context q0_World_Names q0_World_Types q0_l p1) 95 [.cells [.mp 1 0,.mp 3 0,slv zA q0_World_Context .no,slv zM q0_World_Names .no,slv zA q0_World_Types .no,slv zI q0_l .no],mB M 2,mR M,.cells [ai fl,ai fu]] [.mp 0 0,tmA p1] (fun _=>.mp 4 0) (fun r=>[.cells [.mp 1 0,.mp 3 0,slv zA q0_World_Context .no,slv zM q0_World_Names .no,slv zA q0_World_Types .no,slv zI q0_l .no],mB M 2,mR M,.cells [ai fl,ai fu],.cells [.mp 1 0,.mp 3 0,slv zA r.1 .no,slv zM r.2.1 .no,slv zA r.2.2.1 .no,slv zI r.2.2.2 .no]]) 0:=fw Tryz.func95<|rA 7 (jW (o:=.no)) fun _=>rS (oS 1 (yV xH [p1]))<|rW (fun h4=>oP 0 (xU h4 (by simp))) fun _=>fF 1 [0,1,2,3,5]
mutual
def e94:Nat->xO->Int->Int->(List Tm)->(List Int)->(List Tm)->(List Ent)->Tm->Option (Int×Int×Int×Int)
 |0,_,_,_,_,_,_,_,_=>none
 |qq+1,M,fl,fu,q0_World_Context,q0_World_Names,q0_World_Types,q0_l,p1=>
 Y1 qq M fl fu q0_World_Context q0_World_Names q0_World_Types q0_l p1>>=fun r1=>
 if r1.2.1 != 0 then
 some (0,r1.2.1,r1.2.2.1,r1.2.2.2)
 else
 zDf qq M r1.1 r1.2.2.1 r1.2.2.2>>=fun r4=>
 if r4.2.1 != 0 then
 some (0,r4.2.1,r4.2.2.1,r4.2.2.2)
 else
 if r4.1.k != 2 then
 some (0,6,r4.2.2.1,r4.2.2.2)
 else
 some (r4.1.n,0,r4.2.2.1,r4.2.2.2)
def Y1:Nat->xO->Int->Int->(List Tm)->(List Int)->(List Tm)->(List Ent)->Tm->Option (Tm×Int×Int×Int)
 |0,_,_,_,_,_,_,_,_=>none
 |qq+1,M,fl,fu,q0_World_Context,q0_World_Names,q0_World_Types,q0_l,p1=>
 if p1.k==1 then
 zPC qq M fl fu q0_World_Context q0_World_Names q0_World_Types q0_l p1.n>>=fun r2=>
 some (r2.1,r2.2,fl,fu)
 else
 if p1.k==8 then
 zPD qq M fl fu q0_World_Context q0_World_Names q0_World_Types q0_l p1.n>>=fun r5=>
 some (r5.1,r5.2,fl,fu)
 else
 if p1.k==6 then
 zL q0_l p1.n>>=fun x8=>
 some (x8.type,0,fl,fu)
 else
 if p1.k==7 then
 zL p1.sub 0>>=fun x11=>
 zPA qq q0_l p1.n x11.n>>=fun r13=>
 some (r13.1,r13.2,fl,fu)
 else
 if p1.k==2 then
 if decide (p1.n≥7)then
 some ((Tm.mk 0 0 []),7,fl,fu)
 else
 P2 qq (w64 (p1.n+1))>>=fun r17=>
 some (r17,0,fl,fu)
 else
 if p1.k==3 then
 zSw qq M fl fu q0_World_Context q0_World_Names q0_World_Types q0_l p1>>=fun r20=>
 some (r20.1,r20.2.1,r20.2.2.1,r20.2.2.2)
 else
 if p1.k==4 then
 zSv qq M fl fu q0_World_Context q0_World_Names q0_World_Types q0_l p1>>=fun r23=>
 some (r23.1,r23.2.1,r23.2.2.1,r23.2.2.2)
 else
 zSu qq M fl fu q0_World_Context q0_World_Names q0_World_Types q0_l p1>>=fun r25=>
 some (r25.1,r25.2.1,r25.2.2.1,r25.2.2.2)
def zSw:Nat->xO->Int->Int->(List Tm)->(List Int)->(List Tm)->(List Ent)->Tm->Option (Tm×Int×Int×Int)
 |0,_,_,_,_,_,_,_,_=>none
 |qq+1,M,fl,fu,q0_World_Context,q0_World_Names,q0_World_Types,q0_l,p1=>
 zL p1.sub 0>>=fun x1=>
 e94 qq M fl fu q0_World_Context q0_World_Names q0_World_Types q0_l x1>>=fun r3=>
 if r3.2.1 != 0 then
 some ((Tm.mk 0 0 []),r3.2.1,r3.2.2.1,r3.2.2.2)
 else
 e95 qq M r3.2.2.1 r3.2.2.2 q0_World_Context q0_World_Names q0_World_Types q0_l x1>>=fun r6=>
 zL p1.sub 1>>=fun x8=>
 e94 qq M r3.2.2.1 r3.2.2.2 r6.1 r6.2.1 r6.2.2.1 r6.2.2.2 x8>>=fun r10=>
 if r10.2.1 != 0 then
 some ((Tm.mk 0 0 []),r10.2.1,r10.2.2.1,r10.2.2.2)
 else
 P2 qq (mA r3.1 r10.1)>>=fun r13=>
 some (r13,0,r10.2.2.1,r10.2.2.2)
def zSv:Nat->xO->Int->Int->(List Tm)->(List Int)->(List Tm)->(List Ent)->Tm->Option (Tm×Int×Int×Int)
 |0,_,_,_,_,_,_,_,_=>none
 |qq+1,M,fl,fu,q0_World_Context,q0_World_Names,q0_World_Types,q0_l,p1=>
 zL p1.sub 0>>=fun x1=>
 e94 qq M fl fu q0_World_Context q0_World_Names q0_World_Types q0_l x1>>=fun r3=>
 if r3.2.1 != 0 then
 some ((Tm.mk 0 0 []),r3.2.1,r3.2.2.1,r3.2.2.2)
 else
 e95 qq M r3.2.2.1 r3.2.2.2 q0_World_Context q0_World_Names q0_World_Types q0_l x1>>=fun r6=>
 zL p1.sub 1>>=fun x8=>
 Y1 qq M r3.2.2.1 r3.2.2.2 r6.1 r6.2.1 r6.2.2.1 r6.2.2.2 x8>>=fun r10=>
 if r10.2.1 != 0 then
 some ((Tm.mk 0 0 []),r10.2.1,r10.2.2.1,r10.2.2.2)
 else
 zDC qq x1 r10.1>>=fun r13=>
 zPF qq r13>>=fun r15=>
 some (r15.1,r15.2,r10.2.2.1,r10.2.2.2)
def zSu:Nat->xO->Int->Int->(List Tm)->(List Int)->(List Tm)->(List Ent)->Tm->Option (Tm×Int×Int×Int)
 |0,_,_,_,_,_,_,_,_=>none
 |qq+1,M,fl,fu,q0_World_Context,q0_World_Names,q0_World_Types,q0_l,p1=>
 bJ qq fl fu>>=fun r1=>
 if r1.1 != 0 then
 some ((Tm.mk 0 0 []),r1.1,r1.2.1,r1.2.2)
 else
 zL p1.sub 0>>=fun x4=>
 Y1 qq M r1.2.1 r1.2.2 q0_World_Context q0_World_Names q0_World_Types q0_l x4>>=fun r6=>
 if r6.2.1 != 0 then
 some ((Tm.mk 0 0 []),r6.2.1,r6.2.2.1,r6.2.2.2)
 else
 zDf qq M r6.1 r6.2.2.1 r6.2.2.2>>=fun r9=>
 if r9.2.1 != 0 then
 some ((Tm.mk 0 0 []),r9.2.1,r9.2.2.1,r9.2.2.2)
 else
 if r9.1.k != 3 then
 some ((Tm.mk 0 0 []),6,r9.2.2.1,r9.2.2.2)
 else
 zL p1.sub 1>>=fun x13=>
 zL r9.1.sub 0>>=fun x15=>
 zJw qq M r9.2.2.1 r9.2.2.2 q0_World_Context q0_World_Names q0_World_Types q0_l x13 x15>>=fun r17=>
 if r17.1 != 0 then
 some ((Tm.mk 0 0 []),r17.1,r17.2.1,r17.2.2)
 else
 zL r9.1.sub 1>>=fun x20=>
 zKX qq x20 x13>>=fun r22=>
 some (r22.1,r22.2,r17.2.1,r17.2.2)
def zJw:Nat->xO->Int->Int->(List Tm)->(List Int)->(List Tm)->(List Ent)->Tm->Tm->Option (Int×Int×Int)
 |0,_,_,_,_,_,_,_,_,_=>none
 |qq+1,M,fl,fu,q0_World_Context,q0_World_Names,q0_World_Types,q0_l,p1,p2=>
 if p1.k==4 then
 zDf qq M p2 fl fu>>=fun r2=>
 if r2.2.1 != 0 then
 some (r2.2.1,r2.2.2.1,r2.2.2.2)
 else
 if r2.1.k==3 then
 zSt qq M r2.2.2.1 r2.2.2.2 q0_World_Context q0_World_Names q0_World_Types q0_l p1 r2.1>>=fun r6=>
 some (r6.1,r6.2.1,r6.2.2)
 else
 Y1 qq M r2.2.2.1 r2.2.2.2 q0_World_Context q0_World_Names q0_World_Types q0_l p1>>=fun r8=>
 if r8.2.1 != 0 then
 some (r8.2.1,r8.2.2.1,r8.2.2.2)
 else
 zJy qq M r8.1 p2 r8.2.2.1 r8.2.2.2>>=fun r11=>
 if r11.1 then
 if r11.2.1==0 then
 some (r11.2.1,r11.2.2.1,r11.2.2.2)
 else
 some (r11.2.1,r11.2.2.1,r11.2.2.2)
 else
 if r11.2.1==0 then
 some (6,r11.2.2.1,r11.2.2.2)
 else
 some (r11.2.1,r11.2.2.1,r11.2.2.2)
 else
 Y1 qq M fl fu q0_World_Context q0_World_Names q0_World_Types q0_l p1>>=fun r16=>
 if r16.2.1 != 0 then
 some (r16.2.1,r16.2.2.1,r16.2.2.2)
 else
 zJy qq M r16.1 p2 r16.2.2.1 r16.2.2.2>>=fun r19=>
 if r19.1 then
 if r19.2.1==0 then
 some (r19.2.1,r19.2.2.1,r19.2.2.2)
 else
 some (r19.2.1,r19.2.2.1,r19.2.2.2)
 else
 if r19.2.1==0 then
 some (6,r19.2.2.1,r19.2.2.2)
 else
 some (r19.2.1,r19.2.2.1,r19.2.2.2)
def zSt:Nat->xO->Int->Int->(List Tm)->(List Int)->(List Tm)->(List Ent)->Tm->Tm->Option (Int×Int×Int)
 |0,_,_,_,_,_,_,_,_,_=>none
 |qq+1,M,fl,fu,q0_World_Context,q0_World_Names,q0_World_Types,q0_l,p1,p2=>
 zL p1.sub 0>>=fun x1=>
 e94 qq M fl fu q0_World_Context q0_World_Names q0_World_Types q0_l x1>>=fun r3=>
 if r3.2.1 != 0 then
 some (r3.2.1,r3.2.2.1,r3.2.2.2)
 else
 zL p2.sub 0>>=fun x6=>
 e40 qq M x1 x6 r3.2.2.1 r3.2.2.2>>=fun r8=>
 if r8.1 then
 if r8.2.1 != 0 then
 some (r8.2.1,r8.2.2.1,r8.2.2.2)
 else
 e95 qq M r8.2.2.1 r8.2.2.2 q0_World_Context q0_World_Names q0_World_Types q0_l x6>>=fun r12=>
 zL p1.sub 1>>=fun x14=>
 zL p2.sub 1>>=fun x16=>
 zJw qq M r8.2.2.1 r8.2.2.2 r12.1 r12.2.1 r12.2.2.1 r12.2.2.2 x14 x16>>=fun r18=>
 some (r18.1,r18.2.1,r18.2.2)
 else
 if r8.2.1 != 0 then
 some (r8.2.1,r8.2.2.1,r8.2.2.2)
 else
 some (6,r8.2.2.1,r8.2.2.2)
end
theorem pZ:∀qq:Nat,(∀M fl fu q0_World_Context q0_World_Names q0_World_Types q0_l p1,Cz (e94 qq M fl fu q0_World_Context q0_World_Names q0_World_Types q0_l p1) 94 [.cells [.mp 1 0,.mp 3 0,slv zA q0_World_Context .no,slv zM q0_World_Names .no,slv zA q0_World_Types .no,slv zI q0_l .no],mB M 2,mR M,.cells [ai fl,ai fu]] [.mp 0 0,tmA p1] (fun r=>.tup [ai r.1,ai r.2.1]) (fun r=>[.cells [.mp 1 0,.mp 3 0,slv zA q0_World_Context .no,slv zM q0_World_Names .no,slv zA q0_World_Types .no,slv zI q0_l .no],mB M 2,mR M,.cells [ai r.2.2.1,ai r.2.2.2]]) 0)∧(∀M fl fu q0_World_Context q0_World_Names q0_World_Types q0_l p1,Cz (Y1 qq M fl fu q0_World_Context q0_World_Names q0_World_Types q0_l p1) 160 [.cells [.mp 1 0,.mp 3 0,slv zA q0_World_Context .no,slv zM q0_World_Names .no,slv zA q0_World_Types .no,slv zI q0_l .no],mB M 2,mR M,.cells [ai fl,ai fu]] [.mp 0 0,tmA p1] (fun r=>.tup [tmA r.1,ai r.2.1]) (fun r=>[.cells [.mp 1 0,.mp 3 0,slv zA q0_World_Context .no,slv zM q0_World_Names .no,slv zA q0_World_Types .no,slv zI q0_l .no],mB M 2,mR M,.cells [ai r.2.2.1,ai r.2.2.2]]) 0)∧(∀M fl fu q0_World_Context q0_World_Names q0_World_Types q0_l p1,Cz (zSw qq M fl fu q0_World_Context q0_World_Names q0_World_Types q0_l p1) 215 [.cells [.mp 1 0,.mp 3 0,slv zA q0_World_Context .no,slv zM q0_World_Names .no,slv zA q0_World_Types .no,slv zI q0_l .no],mB M 2,mR M,.cells [ai fl,ai fu]] [.mp 0 0,tmA p1] (fun r=>.tup [tmA r.1,ai r.2.1]) (fun r=>[.cells [.mp 1 0,.mp 3 0,slv zA q0_World_Context .no,slv zM q0_World_Names .no,slv zA q0_World_Types .no,slv zI q0_l .no],mB M 2,mR M,.cells [ai r.2.2.1,ai r.2.2.2]]) 0)∧(∀M fl fu q0_World_Context q0_World_Names q0_World_Types q0_l p1,Cz (zSv qq M fl fu q0_World_Context q0_World_Names q0_World_Types q0_l p1) 216 [.cells [.mp 1 0,.mp 3 0,slv zA q0_World_Context .no,slv zM q0_World_Names .no,slv zA q0_World_Types .no,slv zI q0_l .no],mB M 2,mR M,.cells [ai fl,ai fu]] [.mp 0 0,tmA p1] (fun r=>.tup [tmA r.1,ai r.2.1]) (fun r=>[.cells [.mp 1 0,.mp 3 0,slv zA q0_World_Context .no,slv zM q0_World_Names .no,slv zA q0_World_Types .no,slv zI q0_l .no],mB M 2,mR M,.cells [ai r.2.2.1,ai r.2.2.2]]) 0)∧(∀M fl fu q0_World_Context q0_World_Names q0_World_Types q0_l p1,Cz (zSu qq M fl fu q0_World_Context q0_World_Names q0_World_Types q0_l p1) 217 [.cells [.mp 1 0,.mp 3 0,slv zA q0_World_Context .no,slv zM q0_World_Names .no,slv zA q0_World_Types .no,slv zI q0_l .no],mB M 2,mR M,.cells [ai fl,ai fu]] [.mp 0 0,tmA p1] (fun r=>.tup [tmA r.1,ai r.2.1]) (fun r=>[.cells [.mp 1 0,.mp 3 0,slv zA q0_World_Context .no,slv zM q0_World_Names .no,slv zA q0_World_Types .no,slv zI q0_l .no],mB M 2,mR M,.cells [ai r.2.2.1,ai r.2.2.2]]) 0)∧(∀M fl fu q0_World_Context q0_World_Names q0_World_Types q0_l p1 p2,Cz (zJw qq M fl fu q0_World_Context q0_World_Names q0_World_Types q0_l p1 p2) 269 [.cells [.mp 1 0,.mp 3 0,slv zA q0_World_Context .no,slv zM q0_World_Names .no,slv zA q0_World_Types .no,slv zI q0_l .no],mB M 2,mR M,.cells [ai fl,ai fu]] [.mp 0 0,tmA p1,tmA p2] (fun r=>ai r.1) (fun r=>[.cells [.mp 1 0,.mp 3 0,slv zA q0_World_Context .no,slv zM q0_World_Names .no,slv zA q0_World_Types .no,slv zI q0_l .no],mB M 2,mR M,.cells [ai r.2.1,ai r.2.2]]) 0)∧(∀M fl fu q0_World_Context q0_World_Names q0_World_Types q0_l p1 p2,Cz (zSt qq M fl fu q0_World_Context q0_World_Names q0_World_Types q0_l p1 p2) 306 [.cells [.mp 1 0,.mp 3 0,slv zA q0_World_Context .no,slv zM q0_World_Names .no,slv zA q0_World_Types .no,slv zI q0_l .no],mB M 2,mR M,.cells [ai fl,ai fu]] [.mp 0 0,tmA p1,tmA p2] (fun r=>ai r.1) (fun r=>[.cells [.mp 1 0,.mp 3 0,slv zA q0_World_Context .no,slv zM q0_World_Names .no,slv zA q0_World_Types .no,slv zI q0_l .no],mB M 2,mR M,.cells [ai r.2.1,ai r.2.2]]) 0):=yW ⟨fun _ _ _ _ _ _ _ _=>cN,fun _ _ _ _ _ _ _ _=>cN,fun _ _ _ _ _ _ _ _=>cN,fun _ _ _ _ _ _ _ _=>cN,fun _ _ _ _ _ _ _ _=>cN,fun _ _ _ _ _ _ _ _ _=>cN,fun _ _ _ _ _ _ _ _ _=>cN⟩ fun qq ih=>⟨fun M fl fu q0_World_Context q0_World_Names q0_World_Types q0_l p1=>fw Tryz.func94<|rC 1 [0,1,2,3] (ih.2.1 _ _ _ _ _ _ _ _) fun _=>rB 3 (fE 0)<|rC 3 [1,2,3] zPp fun _=>rB 3 (fE 0)<|rB 1 (fE 0)<|fE 1,
 fun M fl fu q0_World_Context q0_World_Names q0_World_Types q0_l p1=>fw Tryz.func160<|rB 1 (rC 1 [0,1,2,3] zVS fun _=>fE 3)<|rB 0 (rC 1 [0,1,2,3] zVT fun _=>fE 3)<|rB 0 (rA 2 (yY (o:=.no)) fun _=>fE 2)<|rB 0 (rA 3 (yM (o:=.no)) fun _=>rC 1 [] zVR fun _=>fE 3)<|rB 0 (rB 1 (fE 1)<|rC 2 [] zCf fun _=>fE 1)<|rB 0 (rC 1 [0,1,2,3] (ih.2.2.1 _ _ _ _ _ _ _ _) fun _=>fE 3)<|rB 0 (rC 1 [0,1,2,3] (ih.2.2.2.1 _ _ _ _ _ _ _ _) fun _=>fE 3)<|rC 1 [0,1,2,3] (ih.2.2.2.2.1 _ _ _ _ _ _ _ _) fun _=>fE 3,
 fun M fl fu q0_World_Context q0_World_Names q0_World_Types q0_l p1=>fw Tryz.func215<|rH fun _ h2=>rS (oA 1 (yM (o:=.no) h2))<|rC 1 [0,1,2,3] (ih.1 _ _ _ _ _ _ _ _) fun _=>rB 2 (fE 1)<|rS (oA 1 (yM (o:=.no) h2))<|rC 1 [0,1,2,3] c95 fun _=>rS (oCl 0)<|rA 0 (yM (o:=.no)) fun _=>rC 1 [6,1,2,3] (ih.1 _ _ _ _ _ _ _ _) fun _=>rB 2 (fE 1)<|rC 1 [] zCf fun _=>fE 1,
 fun M fl fu q0_World_Context q0_World_Names q0_World_Types q0_l p1=>fw Tryz.func216<|rH fun _ h2=>rS (oA 1 (yM (o:=.no) h2))<|rC 1 [0,1,2,3] (ih.1 _ _ _ _ _ _ _ _) fun _=>rB 2 (fE 1)<|rS (oA 1 (yM (o:=.no) h2))<|rC 1 [0,1,2,3] c95 fun _=>rS (oCl 0)<|rA 0 (yM (o:=.no)) fun _=>rC 1 [6,1,2,3] (ih.2.1 _ _ _ _ _ _ _ _) fun _=>rB 3 (fE 1)<|rS (oA 1 (yM (o:=.no) h2))<|rC 2 [] zPg fun _=>rC 0 [] zVU fun _=>fE 3,
 fun M fl fu q0_World_Context q0_World_Names q0_World_Types q0_l p1=>fw Tryz.func217<|rC 1 [3] zDi fun _=>rB 0 (fE 1)<|rA 1 (yM (o:=.no)) fun _=>rC 1 [0,1,2,3] (ih.2.1 _ _ _ _ _ _ _ _) fun _=>rB 3 (fE 1)<|rC 3 [1,2,3] zPp fun _=>rB 3 (fE 1)<|rB 1 (fE 1)<|rH fun _ h14=>rS (oA 1 (yM (o:=.no) h14))<|rA 2 (yM (o:=.no)) fun _=>rC 1 [0,1,2,3] (ih.2.2.2.2.2.1 _ _ _ _ _ _ _ _ _) fun _=>rB 0 (fE 1)<|rA 1 (yM (o:=.no)) fun _=>rS (oA 2 (yM (o:=.no) h14))<|rC 1 [] zTj fun _=>fE 3,
 fun M fl fu q0_World_Context q0_World_Names q0_World_Types q0_l p1 p2=>fw Tryz.func269<|rB 1 (rC 3 [1,2,3] zPp fun _=>rB 3 (fE 0)<|rB 1 (rC 2 [0,1,2,3] (ih.2.2.2.2.2.2 _ _ _ _ _ _ _ _ _) fun _=>fE 0)<|rC 1 [0,1,2,3] (ih.2.1 _ _ _ _ _ _ _ _) fun _=>rB 3 (fE 0)<|rC 4 [1,2,3] zUs fun _=>rB 0 (rB 1 (fE 1)<|fE 0)<|rB 1 (fE 1)<|fE 0)<|rC 1 [0,1,2,3] (ih.2.1 _ _ _ _ _ _ _ _) fun _=>rB 3 (fE 0)<|rC 4 [1,2,3] zUs fun _=>rB 0 (rB 1 (fE 1)<|fE 0)<|rB 1 (fE 1)<|fE 0,
 fun M fl fu q0_World_Context q0_World_Names q0_World_Types q0_l p1 p2=>fw Tryz.func306<|rH fun _ h2=>rS (oA 1 (yM (o:=.no) h2))<|rC 1 [0,1,2,3] (ih.1 _ _ _ _ _ _ _ _) fun _=>rB 2 (fE 0)<|rS (oA 2 (yM (o:=.no) h2))<|rH fun _ h7=>rS (oA 2 (yM (o:=.no) h7))<|rC 2 [1,2,3] c40 fun _=>rB 0 (rB 1 (fE 0)<|rS (oA 2 (yM (o:=.no) h7))<|rC 1 [0,1,2,3] c95 fun _=>rS (oCl 0)<|rA 0 (yM (o:=.no)) fun _=>rS (oCl 1)<|rA 0 (yM (o:=.no)) fun _=>rC 1 [6,1,2,3] (ih.2.2.2.2.2.1 _ _ _ _ _ _ _ _ _) fun _=>fE 0)<|rB 1 (fE 0)<|fE 1⟩
theorem c94{qq M fl fu q0_World_Context q0_World_Names q0_World_Types q0_l p1}:Cz (e94 qq M fl fu q0_World_Context q0_World_Names q0_World_Types q0_l p1) 94 [.cells [.mp 1 0,.mp 3 0,slv zA q0_World_Context .no,slv zM q0_World_Names .no,slv zA q0_World_Types .no,slv zI q0_l .no],mB M 2,mR M,.cells [ai fl,ai fu]] [.mp 0 0,tmA p1] (fun r=>.tup [ai r.1,ai r.2.1]) (fun r=>[.cells [.mp 1 0,.mp 3 0,slv zA q0_World_Context .no,slv zM q0_World_Names .no,slv zA q0_World_Types .no,slv zI q0_l .no],mB M 2,mR M,.cells [ai r.2.2.1,ai r.2.2.2]]) 0:=(pZ _).1 _ _ _ _ _ _ _ _
set_option linter.unusedSectionVars false
theorem kN{l:List Ent}{t x:Tm}(h:xF l t)(hx:x∈t.sub):xF l x:=by
 have hr:=dS.1 h
 refine dS.2 ⟨dU hr.1 hx,?_⟩
 obtain⟨k,n,s⟩:=t
 have h2:=hr.2
 rw[zFo,n6]at h2
 exact h2.2 x hx
abbrev er3 (r:Int×Int×Int):Int:=r.1
abbrev zSs (r:Int×Int×Int×Int):Int:=r.2.1
def QI(R:Int->Int->Tm×Int×Int×Int)(_:Int):Prop:=∃a e,a.Ok∧e≠8∧R=fun L U=>(a,e,L,U)
def QU(R:Int->Int->Int×Int×Int×Int)(_:Int):Prop:=∃a e,e≠8∧R=fun L U=>(a,e,L,U)
def QK(R:Int->Int->Int×Int×Int)(_:Int):Prop:=∃e,e≠8∧R=fun L U=>(e,L,U)
def HI(l:List Ent)(ns:List Int)(ts:List Tm)(t:Tm):Prop:=∀(ctx:List Tm) (f:Int),OkA ctx->ctx.length+t.nodes≤100000->0≤f->Ou (fun L U q=>Y1 q (xV l) L U ctx ns ts l t) er4 QI True f
def HU(l:List Ent)(ns:List Int)(ts:List Tm)(t:Tm):Prop:=∀(ctx:List Tm) (f:Int),OkA ctx->ctx.length+t.nodes≤100000->0≤f->Ou (fun L U q=>e94 q (xV l) L U ctx ns ts l t) zSs QU True f
def HK(l:List Ent)(ns:List Int)(ts:List Tm)(t:Tm):Prop:=∀(ctx:List Tm) (a:Tm) (f:Int),OkA ctx->a.Ok->ctx.length+t.nodes≤100000->0≤f->Ou (fun L U q=>zJw q (xV l) L U ctx ns ts l t a) er3 QK True f
theorem dW{N:ByteArray->Bool}(l:List Ent)(hE:vK N l)(he:∀e∈l,EOk e)(x:Tm)(ho:x.Ok)(f:Int)(hf:0≤f):Ou (fun L U q=>zDf q (xV l) x L U) er4 (fun R _=>∃y e,y.Ok∧e≠8∧(e=0->zG y=true)∧R=fun L U=>(y,e,L,U)) True f:=by
 refine(m4 l hE he x ho f hf).mono ?_ fun _=>trivial
 rintro R k _ _ (⟨-,-,rfl⟩|⟨hR,y,e,hbr,rfl⟩)
 ·exact⟨zT,5,C7,by decide,fun h=>absurd h (by decide),rfl⟩
 ·by_cases e0:e=0
  ·subst e0
   exact⟨y,0,yG (hbr.shaped hR.shaped rfl),by decide,fun _=>hbr.shaped hR.shaped rfl,by simp⟩
  ·exact⟨zT,e,C7,hbr.e8 hE hR.shaped,fun h=>absurd h e0,by simp[e0]⟩
theorem ne8{e:Int}(h:e=8):(e != 0)=true:=by rw[h];decide
theorem zAY(l:List Ent)(ns:List Int)(ctx ts:List Tm)(n:Int)(hn:0≤n∧n≤1048576)(ho:OkA ctx)(hl:ctx.length≤100000)(L U:Int):Tot (fun q=>zPC q (xV l) L U ctx ns ts l n) (MO 0):=by
 simp only[zPC]
 refine Tot.ite (fun _=>Tot.ret ⟨yS 0 0,fun _=>by decide⟩) fun h=>?_
 have:=of_decide_eq_false h
 rw[zV (x:=(ctx.length:Int)-1) (by omega) (by omega),zV (x:=(ctx.length:Int)-1-n) (by omega) (by omega)]
 obtain⟨x,hx,hm⟩:=zAF (l:=ctx) (i:=(ctx.length:Int)-1-n) (by omega) (by omega)
 exact Tot.pure hx (Tot.bind (P:=MT 0 (lfT x 0 0 (w64 (n+1)))) ((zCc x _ (ho x hm)).tot (zAG x _ 0 (ho x hm))) fun r hr=>Tot.ret hr.mo)
theorem zJv(l:List Ent)(ns:List Int)(ctx ts:List Tm)(n:Int)(ho:OkA ts)(hl:ns.length=ts.length)(hl2:ns.length≤100000):∃r,MO 0 r∧∀L U,Evt (fun q=>zPD q (xV l) L U ctx ns ts l n) r:=by
 simp only[zPD]
 have key:∀m:Nat,m≤ns.length->∃r,MO 0 r∧∀L U,Evt (fun q=>kM q (xV l) L U ctx ns ts l n ((m:Int)-1)) r:=by
  intro m
  induction m with
  |zero=>
   intro _
   refine⟨(zT,3),⟨C7,fun _=>by decide⟩,fun L U=>Evt.succ ?_⟩
   simp only[kM]
   exact Evt.ifF (decide_eq_false (by omega)) Evt.ret
  |succ m ih=>
   intro hm
   obtain⟨x,hx,-⟩:=zAF (l:=ns) (i:=((m+1:Nat):Int)-1) (by omega) (by omega)
   by_cases e:x=n
   ·obtain⟨y,hy,hym⟩:=zAF (l:=ts) (i:=((m+1:Nat):Int)-1) (by omega) (by omega)
    refine⟨vE y (ctx.length:Int) 0,(zAG y _ 0 (ho y hym)).mo,fun L U=>Evt.succ ?_⟩
    simp only[kM]
    exact Evt.ifT (decide_eq_true (by omega)) (Evt.pure hx (Evt.ifT (by simpa using e) (Evt.pure hy ((zCc y _ (ho y hym)).bind Evt.ret))))
   ·obtain⟨r,h1,h2⟩:=ih (by omega)
    refine⟨r,h1,fun L U=>Evt.succ ?_⟩
    simp only[kM]
    refine Evt.ifT (decide_eq_true (by omega)) (Evt.pure hx (Evt.ifF (by simpa using e) ?_))
    rw[zV (by omega) (by omega),show ((m+1:Nat):Int)-1-1=(m:Int)-1 by omega]
    exact h2 L U
 rw[zV (by omega) (by omega)]
 exact key ns.length (Nat.le_refl _)
theorem A2(l:List Ent)(ns:List Int)(ctx ts:List Tm)(a:Tm)(hl:ctx.length≤100000)(L U:Int):Evt (fun q=>e95 q (xV l) L U ctx ns ts l a) (ctx++[a],ns,ts,l):=by
 simp only[e95]
 exact Evt.pure (a:=ctx) (by rw[uZ (by omega) (by omega)];simp) (Evt.pure (zZ (by simp<;>omega)) Evt.ret)
section
variable {N:ByteArray->Bool} (l:List Ent) (hE:vK N l) (he:∀e∈l,EOk e) (hl:l.length≤65535) (hc:∀e∈l,ECl e) (hF:Evt (fun q=>e47 q l) true) (ns:List Int) (ts:List Tm) (hts:OkA ts) (hns:ns.length=ts.length) (hnl:ns.length≤100000)
include hE he hl hc hF hts hns hnl
theorem zMG(t:Tm)(hi:HI l ns ts t):HU l ns ts t:=by
 intro ctx f ho hn hf
 refine Ou.succ ?_
 simp only[e94]
 refine Ou.bind (hi ctx f ho hn hf) id (fun r hr=>⟨_,Evt.ifT (ne8 hr) Evt.ret,hr⟩) ?_
 rintro R k k0 k1 ⟨a,e,ha,h8,rfl⟩
 dsimp only
 refine Ou.ite (fun h=>Ou.ret (by omega) ⟨0,e,h8,rfl⟩) fun _=>?_
 refine Ou.bind (dW l hE he a ha (f-k) (by omega)) id (fun r hr=>⟨_,Evt.ifT (ne8 hr) Evt.ret,hr⟩) ?_
 rintro R n n0 n1 ⟨y,e,hy,h8,-,rfl⟩
 dsimp only
 exact Ou.ite (fun h=>Ou.ret (by omega) ⟨0,e,h8,rfl⟩) fun _=>Ou.ite (fun _=>Ou.ret (by omega) ⟨0,6,by decide,rfl⟩) fun _=>Ou.ret (by omega) ⟨y.n,0,by decide,rfl⟩
theorem zJu(n:Nat)(ih:∀t,xF l t->t.nodes≤n->HI l ns ts t∧HU l ns ts t∧HK l ns ts t)(t:Tm)(hR:xF l t)(hn:t.nodes≤n+1):HI l ns ts t:=by
 intro ctx f ho hcl hf
 have hs:=hR.shaped
 have hg:=(zK hs).2.2
 have hn0:=dP hg
 have hnm:t.n≤1048576:=by
  obtain⟨k,n,ls⟩:=t
  exact(lX (wQ hg).1).2.1
 have sub2':t.k=3∨t.k=4∨t.k=5->∃a b,t.sub=[a,b]∧xF l a∧xF l b∧a.nodes+b.nodes+1≤t.nodes:=fun h=>by
  obtain⟨a,b,hab,-,-⟩:=vT hg h
  have hns:=fN t
  rw[hab,yN,yN,yN]at hns
  exact⟨a,b,hab,kN hR (by rw[hab];simp),kN hR (by rw[hab];simp),by omega⟩
 refine Ou.succ ?_
 simp only[Y1]
 refine Ou.ite (fun h=>?_) fun h1=>?_
 ·obtain⟨r,hr,h⟩:=zAY l ns ctx ts t.n ⟨hn0,hnm⟩ ho (by omega) 0 0
  refine Ou.imp (f:=fun L U q=>some (r.1,r.2,L,U)) (Ou.ret hf ⟨r.1,r.2,h.1,h.2 (by decide),rfl⟩) fun L U x hx=>Evt.bind (a:=r) ?_ hx
  obtain⟨m,hm⟩:=hr
  exact⟨m,hm⟩
 refine Ou.ite (fun h=>?_) fun h8=>?_
 ·obtain⟨r,h,hr⟩:=zJv l ns ctx ts t.n hts hns hnl
  exact Ou.imp (f:=fun L U q=>some (r.1,r.2,L,U)) (Ou.ret hf ⟨r.1,r.2,h.1,h.2 (by decide),rfl⟩) fun L U x hx=>Evt.bind (a:=r) (hr L U) hx
 refine Ou.ite (fun h=>?_) fun h6=>?_
 ·have h6:t.k=6:=by simpa using h
  have hlt:t.n<l.length:=by
   have hr:=(dS.1 hR).2
   obtain⟨k,n,s⟩:=t
   rw[zFo]at hr
   have h6':k=6:=h6
   exact(hr.1.resolve_left (by omega)) (.inl h6')
  exact Ou.pure (yF hn0 hlt) (Ou.ret hf ⟨_,0,(he _ (tY hn0 hlt)).1,by decide,rfl⟩)
 refine Ou.ite (fun h=>?_) fun h7=>?_
 ·have h7:t.k=7:=by simpa using h
  obtain⟨s,hsb⟩:∃s,t.sub=[s]:=by
   obtain⟨kk,nn,ss⟩:=t
   obtain⟨s,hs,-⟩:=(sI (wQ hg).1).2.2.2.2.2.2.1 h7
   exact⟨s,hs⟩
  exact Ou.pure (a:=s) (by rw[hsb];rfl) (Ou.tot (zJx l t.n s.n hF hE he) fun r hr=>Ou.ret hf ⟨r.1,r.2,hr.1,hr.2 (by decide),rfl⟩)
 refine Ou.ite (fun h=>?_) fun h2=>?_
 ·exact Ou.ite (fun _=>Ou.ret hf ⟨_,7,yS 0 0,by decide,rfl⟩) fun _=>Ou.evt (lY _) (Ou.ret hf ⟨_,0,yS _ _,by decide,rfl⟩)
 refine Ou.ite (fun h=>?_) fun h3=>?_
 ·have h3:t.k=3:=by simpa using h
  obtain⟨a,b,hab,hRa,hRb,hnn⟩:=sub2' (.inl h3)
  have pa:=xZ a
  have pb:=xZ b
  refine Ou.bind (er:=er4) (Q:=QI) (S:=True) (Ou.succ ?_) id (fun r hr=>⟨_,Evt.ret,hr⟩) (fun R k k0 k1 hQ=>by
   obtain⟨a,e,h1,h2,rfl⟩:=hQ
   exact Ou.ret (by omega) ⟨a,e,h1,h2,rfl⟩)
  simp only[zSw]
  refine Ou.pure (a:=a) (by rw[hab];rfl) (Ou.bind ((ih a hRa (by omega)).2.1 ctx f ho (by omega) hf) id (fun r hr=>⟨_,Evt.ifT (ne8 hr) Evt.ret,hr⟩) ?_)
  rintro R k k0 k1 ⟨i,e,h8,rfl⟩
  dsimp only
  refine Ou.ite (fun h=>Ou.ret (by omega) ⟨_,e,yS 0 0,h8,rfl⟩) fun _=>?_
  refine Ou.imp (f:=fun L U q=>e94 q (xV l) L U (ctx++[a]) ns ts l b>>=fun r10=>if (r10.2.1 != 0)=true then some ((Tm.mk 0 0 []),r10.2.1,r10.2.2.1,r10.2.2.2)else P2 q (mA i r10.1)>>=fun r13=>some (r13,0,r10.2.2.1,r10.2.2.2)) ?_ fun L U r h=>(A2 l ns ctx ts a (by omega) L U).bind (Evt.pure (a:=b) (by rw[hab];rfl) h)
  refine Ou.bind ((ih b hRb (by omega)).2.1 (ctx++[a]) (f-k) (ho.app (OkA.one (yG hRa.shaped))) (by simp;omega) (by omega)) id (fun r hr=>⟨_,Evt.ifT (ne8 hr) Evt.ret,hr⟩) ?_
  rintro R n n0 n1 ⟨j,e,h8,rfl⟩
  dsimp only
  exact Ou.ite (fun h=>Ou.ret (by omega) ⟨_,e,yS 0 0,h8,rfl⟩) fun _=>Ou.evt (lY _) (Ou.ret (by omega) ⟨_,0,yS _ _,by decide,rfl⟩)
 refine Ou.ite (fun h=>?_) fun h4=>?_
 ·have h4:t.k=4:=by simpa using h
  obtain⟨a,b,hab,hRa,hRb,hnn⟩:=sub2' (.inr (.inl h4))
  have pa:=xZ a
  have pb:=xZ b
  refine Ou.bind (er:=er4) (Q:=QI) (S:=True) (Ou.succ ?_) id (fun r hr=>⟨_,Evt.ret,hr⟩) (fun R k k0 k1 hQ=>by
   obtain⟨a,e,h1,h2,rfl⟩:=hQ
   exact Ou.ret (by omega) ⟨a,e,h1,h2,rfl⟩)
  simp only[zSv]
  refine Ou.pure (a:=a) (by rw[hab];rfl) (Ou.bind ((ih a hRa (by omega)).2.1 ctx f ho (by omega) hf) id (fun r hr=>⟨_,Evt.ifT (ne8 hr) Evt.ret,hr⟩) ?_)
  rintro R k k0 k1 ⟨i,e,h8,rfl⟩
  dsimp only
  refine Ou.ite (fun h=>Ou.ret (by omega) ⟨_,e,yS 0 0,h8,rfl⟩) fun _=>?_
  refine Ou.imp (f:=fun L U q=>Y1 q (xV l) L U (ctx++[a]) ns ts l b>>=fun r10=>if (r10.2.1 != 0)=true then some ((Tm.mk 0 0 []),r10.2.1,r10.2.2.1,r10.2.2.2)else zDC q a r10.1>>=fun r13=>zPF q r13>>=fun r15=>some (r15.1,r15.2,r10.2.2.1,r10.2.2.2)) ?_ fun L U r h=>(A2 l ns ctx ts a (by omega) L U).bind (Evt.pure (a:=b) (by rw[hab];rfl) h)
  refine Ou.bind ((ih b hRb (by omega)).1 (ctx++[a]) (f-k) (ho.app (OkA.one (yG hRa.shaped))) (by simp;omega) (by omega)) id (fun r hr=>⟨_,Evt.ifT (ne8 hr) Evt.ret,hr⟩) ?_
  rintro R n n0 n1 ⟨c,e,hc,h8,rfl⟩
  dsimp only
  refine Ou.ite (fun h=>Ou.ret (by omega) ⟨_,e,yS 0 0,h8,rfl⟩) fun _=>Ou.evt (a:=Tm.mk 3 0 [a,c]) (Evt.mk fun _=>rfl) ?_
  have ok:(Tm.mk 3 0 [a,c]).Ok:=sB (yG hRa.shaped) hc
  refine Ou.evt (a:=zFe (Tm.mk 3 0 [a,c])) ?_ (Ou.ret (by omega) ⟨_,_,?_,?_,rfl⟩)
  ·simp only[zPF]
   refine(xB _ ok).bind ?_
   unfold zFe
   by_cases h:zG (Tm.mk 3 0 [a,c])=true
   ·rw[if_pos h,if_pos h];exact Evt.ret
   ·rw[if_neg h,if_neg h];exact Evt.ret
  ·unfold zFe
   split
   ·exact ok
   ·exact C7
  ·unfold zFe;split<;>simp
 have h5:t.k=5:=by
  have a1:t.k≠1:=by simpa using h1
  have a2:t.k≠2:=by simpa using h2
  have a3:t.k≠3:=by simpa using h3
  have a4:t.k≠4:=by simpa using h4
  have a6:t.k≠6:=by simpa using h6
  have a7:t.k≠7:=by simpa using h7
  have a8:t.k≠8:=by simpa using h8
  have b:1≤t.k∧t.k≤8:=by
   obtain⟨k,n,ls⟩:=t
   have:=lX (wQ hg).1
   exact⟨this.2.2.1,this.2.2.2.1⟩
  omega
 obtain⟨a,b,hab,hRa,hRb,hnn⟩:=sub2' (.inr (.inr h5))
 have pa:=xZ a
 have pb:=xZ b
 refine Ou.bind (er:=er4) (Q:=QI) (S:=True) (Ou.succ ?_) id (fun r hr=>⟨_,Evt.ret,hr⟩) (fun R k k0 k1 hQ=>by
  obtain⟨a,e,h1,h2,rfl⟩:=hQ
  exact Ou.ret (by omega) ⟨a,e,h1,h2,rfl⟩)
 simp only[zSu]
 refine Ou.bind (zGZ f hf) (fun _=>trivial) (fun r hr=>⟨_,Evt.ifT (ne8 hr) Evt.ret,hr⟩) ?_
 rintro R k k0 k1 ⟨rfl,rfl⟩
 dsimp only
 refine Ou.ifF rfl (Ou.pure (a:=a) (by rw[hab];rfl) (Ou.bind ((ih a hRa (by omega)).1 ctx (f-1) ho (by omega) (by omega)) id (fun r hr=>⟨_,Evt.ifT (ne8 hr) Evt.ret,hr⟩) ?_))
 rintro R k j0 j1 ⟨ft,e,hft,h8,rfl⟩
 dsimp only
 refine Ou.ite (fun h=>Ou.ret (by omega) ⟨_,e,yS 0 0,h8,rfl⟩) fun _=>?_
 refine Ou.bind (dW l hE he ft hft (f-1-k) (by omega)) id (fun r hr=>⟨_,Evt.ifT (ne8 hr) Evt.ret,hr⟩) ?_
 rintro R n n0 n1 ⟨p,e,hp,h8,hps,rfl⟩
 dsimp only
 refine Ou.ite (fun h=>Ou.ret (by omega) ⟨_,e,yS 0 0,h8,rfl⟩) fun he0=>Ou.ite (fun _=>Ou.ret (by omega) ⟨_,6,yS 0 0,by decide,rfl⟩) fun hp3=>?_
 have he0':e=0:=by simpa using he0
 have hp3':p.k=3:=by simpa using hp3
 obtain⟨c,d,hcd,hgc,hgd⟩:=vT (zK (hps he0')).2.2 (.inl hp3')
 refine Ou.pure (a:=b) (by rw[hab];rfl) (Ou.pure (a:=c) (by rw[hcd];rfl) (Ou.bind ((ih b hRb (by omega)).2.2 ctx c (f-1-k-n) ho (wF c hgc) (by omega) (by omega)) id (fun r hr=>⟨_,Evt.ifT (ne8 hr) Evt.ret,hr⟩) ?_))
 rintro R i i0 i1 ⟨e,h8,rfl⟩
 dsimp only
 refine Ou.ite (fun h=>Ou.ret (by omega) ⟨_,e,yS 0 0,h8,rfl⟩) fun _=>Ou.pure (a:=d) (by rw[hcd];rfl) (Ou.evt (zLz d b (wF d hgd) (yG hRb.shaped)) (Ou.ret (by omega) ⟨_,_,zAf _ _ (wF d hgd) (OkA.one (yG hRb.shaped)),zAE _ _,rfl⟩))
theorem zJt(n:Nat)(ih:∀t,xF l t->t.nodes≤n->HI l ns ts t∧HU l ns ts t∧HK l ns ts t)(t:Tm)(hR:xF l t)(hn:t.nodes≤n+1)(hi:HI l ns ts t):HK l ns ts t:=by
 intro ctx a f ho ha hcl hf
 have hs:=hR.shaped
 have hg:=(zK hs).2.2
 have plain:∀g,0≤g->Ou (fun L U q=>Y1 q (xV l) L U ctx ns ts l t>>=fun r16=>if (r16.2.1 != 0)=true then some (r16.2.1,r16.2.2.1,r16.2.2.2)else zJy q (xV l) r16.1 a r16.2.2.1 r16.2.2.2>>=fun r19=>if r19.1=true then(if (r19.2.1==0)=true then some (r19.2.1,r19.2.2.1,r19.2.2.2)else some (r19.2.1,r19.2.2.1,r19.2.2.2))else(if (r19.2.1==0)=true then some (6,r19.2.2.1,r19.2.2.2)else some (r19.2.1,r19.2.2.1,r19.2.2.2))) er3 QK True g:=fun g g0=>by
  refine Ou.bind (hi ctx g ho hcl g0) id (fun r hr=>⟨_,Evt.ifT (ne8 hr) Evt.ret,hr⟩) ?_
  rintro R k k0 k1 ⟨b,e,hb,h8,rfl⟩
  dsimp only
  refine Ou.ite (fun h=>Ou.ret (by omega) ⟨e,h8,rfl⟩) fun _=>?_
  refine Ou.bind (zHs l hE he hl hc true b a hb ha (g-k) (by omega)) (fun _=>trivial) (fun r hr=>?_) ?_
  ·have:=T6 hr
   exact⟨_,Evt.ifF this.1 (Evt.ifF (by rw[this.2];decide) Evt.ret),this.2⟩
  ·rintro R n n0 n1 ⟨b',e,h8,-,-,rfl⟩
   dsimp only
   exact Ou.ite (fun _=>Ou.ite (fun _=>Ou.ret (by omega) ⟨e,h8,rfl⟩) fun _=>Ou.ret (by omega) ⟨e,h8,rfl⟩) fun _=>Ou.ite (fun _=>Ou.ret (by omega) ⟨6,by decide,rfl⟩) fun _=>Ou.ret (by omega) ⟨e,h8,rfl⟩
 refine Ou.succ ?_
 simp only[zJw]
 refine Ou.ite (fun h=>?_) fun _=>plain f hf
 have h4:t.k=4:=by simpa using h
 obtain⟨u,v,huv,-,-⟩:=vT hg (.inr (.inl h4))
 have hRu:=kN hR (x:=u) (by rw[huv];simp)
 have hRv:=kN hR (x:=v) (by rw[huv];simp)
 have hnn:=fN t
 rw[huv,yN,yN,yN]at hnn
 have pu:=xZ u
 have pv:=xZ v
 refine Ou.bind (dW l hE he a ha f hf) id (fun r hr=>⟨_,Evt.ifT (ne8 hr) Evt.ret,hr⟩) ?_
 rintro R k k0 k1 ⟨p,e,hp,h8,hps,rfl⟩
 dsimp only
 refine Ou.ite (fun h=>Ou.ret (by omega) ⟨e,h8,rfl⟩) fun he0=>Ou.ite (fun hp3=>?_) fun _=>plain (f-k) (by omega)
 have he0':e=0:=by simpa using he0
 have hp3':p.k=3:=by simpa using hp3
 obtain⟨c,d,hcd,hgc,hgd⟩:=vT (zK (hps he0')).2.2 (.inl hp3')
 refine Ou.bind (er:=er3) (Q:=QK) (S:=True) (Ou.succ ?_) id (fun r hr=>⟨_,Evt.ret,hr⟩) (fun R k k0 k1 hQ=>by
  obtain⟨e,h2,rfl⟩:=hQ
  exact Ou.ret (by omega) ⟨e,h2,rfl⟩)
 simp only[zSt]
 refine Ou.pure (a:=u) (by rw[huv];rfl) (Ou.bind ((ih u hRu (by omega)).2.1 ctx (f-k) ho (by omega) (by omega)) id (fun r hr=>⟨_,Evt.ifT (ne8 hr) Evt.ret,hr⟩) ?_)
 rintro R j j0 j1 ⟨i,e,h8,rfl⟩
 dsimp only
 refine Ou.ite (fun h=>Ou.ret (by omega) ⟨e,h8,rfl⟩) fun _=>Ou.pure (a:=c) (by rw[hcd];rfl) ?_
 refine Ou.bind (zHs l hE he hl hc false u c (yG hRu.shaped) (wF c hgc) (f-k-j) (by omega)) (fun _=>trivial) (fun r hr=>?_) ?_
 ·have:=T6 hr
  exact⟨_,Evt.ifF this.1 (Evt.ifT (ne8 this.2) Evt.ret),this.2⟩
 ·rintro R n n0 n1 ⟨b',e,h8,-,-,rfl⟩
  dsimp only
  refine Ou.ite (fun _=>Ou.ite (fun _=>Ou.ret (by omega) ⟨e,h8,rfl⟩) fun _=>?_) fun _=>Ou.ite (fun _=>Ou.ret (by omega) ⟨e,h8,rfl⟩) fun _=>Ou.ret (by omega) ⟨6,by decide,rfl⟩
  refine Ou.imp (f:=fun L U q=>zJw q (xV l) L U (ctx++[c]) ns ts l v d>>=fun r18=>some (r18.1,r18.2.1,r18.2.2)) ?_ fun L U r h=>(A2 l ns ctx ts c (by omega) L U).bind (Evt.pure (a:=v) (by rw[huv];rfl) (Evt.pure (a:=d) (by rw[hcd];rfl) h))
  refine Ou.bind ((ih v hRv (by omega)).2.2 (ctx++[c]) d (f-k-j-n) (ho.app (OkA.one (wF c hgc))) (wF d hgd) (by simp;omega) (by omega)) id (fun r hr=>⟨_,Evt.ret,hr⟩) ?_
  rintro R m m0 m1 ⟨e,h8,rfl⟩
  exact Ou.ret (by omega) ⟨e,h8,rfl⟩
theorem zDJ:∀(n:Nat) (t:Tm),xF l t->t.nodes≤n->HI l ns ts t∧HU l ns ts t∧HK l ns ts t
 |0,t,_,h=>by have:=xZ t;omega
 |n+1,t,hR,hn=>by
  have ih:=zDJ n
  have hi:=zJu l hE he hl hc hF ns ts hts hns hnl n ih t hR hn
  exact⟨hi,zMG l hE he hl hc hF ns ts hts hns hnl t hi,zJt l hE he hl hc hF ns ts hts hns hnl n ih t hR hn hi⟩
end
def kO:Nat->(List ByteArray)->Int->Option (Bool)
 |0,_,_=>none
 |qq+1,p0,v7=>
 if decide (v7<(List.length p0:Int))then
 zL p0 v7>>=fun x2=>
 if !(x2.toList==(⟨#[95]⟩:ByteArray).toList)then
 iC qq x2>>=fun r5=>
 if r5 then
 kO qq p0 (w64 (v7+1))
 else
 some false
 else
 kO qq p0 (w64 (v7+1))
 else
 some true
def zSr(qq:Nat)(p0:List ByteArray):Option (Bool):=
 kO qq p0 0
theorem zPG:∀qq:Nat,∀p0 v7,Lz (kO qq p0 v7) 0 Tryz.f242 (inn (inn (rgt (lft (rgt (bod Tryz.f242)))))) (fun j=>sp j 19 0 [(5,slv yU p0 .no),(6,ai (List.length p0:Int)),(7,ai v7)]) ⟨[],0,[],0,[]⟩ (fun r=>ab r) (fun _=>[]) 0 [.blk 0,.seq (rgt (rgt (bod Tryz.f242)))]:=yW (fun _ _=>lN) fun qq ih=>fun p0 v7=>lw fun _=>rB 0 (rA 0 (zKc (o:=.no)) fun _=>rB 1 (rK 0 [] aM (fun _=>lH 2 [] [] [] [5,6,7] (ih _ _)) fun _=>lE 1)<|lH 1 [] [] [] [5,6,7] (ih _ _))<|lE 0
theorem zVV{qq p0}:Cz (zSr qq p0) 242 [] [slv yU p0 .no] (fun r=>ab r) (fun _=>[]) 0:=fw Tryz.func242<|fH 1 [] [] [] [5,6,7] (zPG _ _ _)
def zMH(qq:Nat)(p0:List Ent)(p1:List ByteArray):Option (Int):=
 zSr qq p1>>=fun r1=>
 if r1 then
 e47 qq p0>>=fun r4=>
 if r4 then
 if decide ((List.length p1:Int)>24)then
 some 2
 else
 some 0
 else
 some 5
 else
 some 5
theorem zUq{qq p0 p1}:Cz (zMH qq p0 p1) 184 [] [slv zI p0 .no,slv yU p1 .no] (fun r=>ai r) (fun _=>[]) 0:=fw Tryz.func184<|rK 0 [] zVV (fun _=>rK 1 [] c47 (fun _=>rB 2 (fE 0)<|fE 0) fun _=>fE 1) fun _=>fE 1
def fS:Nat->(List Ent)->ByteArray->Int->Option (Int×Int)
 |0,_,_,_=>none
 |qq+1,p0,p1,v10=>
 if decide (v10<(List.length p0:Int))then
 zL p0 v10>>=fun x2=>
 if x2.name.toList==p1.toList then
 some (v10,0)
 else
 fS qq p0 p1 (w64 (v10+1))
 else
 some (0,16)
def zSq(qq:Nat)(p0:List Ent)(p1:ByteArray):Option (Int×Int):=
 fS qq p0 p1 0
theorem zPH:∀qq:Nat,∀p0 p1 v10,Lz (fS qq p0 p1 v10) 0 Tryz.f285 (inn (inn (rgt (lft (rgt (bod Tryz.f285)))))) (fun j=>sp j 21 0 [(1,at' p1),(8,slv zI p0 .no),(9,ai (List.length p0:Int)),(10,ai v10)]) ⟨[],0,[],0,[]⟩ (fun r=>.tup [ai r.1,ai r.2]) (fun _=>[]) 0 [.blk 0,.seq (rgt (rgt (bod Tryz.f285)))]:=yW (fun _ _ _=>lN) fun qq ih=>fun p0 p1 v10=>lw fun _=>rB 0 (rA 0 (yY (o:=.no)) fun _=>rB 3 (lE 0)<|lH 1 [] [] [] [1,8,9,10] (ih _ _ _))<|lE 0
theorem zVW{qq p0 p1}:Cz (zSq qq p0 p1) 285 [] [slv zI p0 .no,at' p1] (fun r=>.tup [ai r.1,ai r.2]) (fun _=>[]) 0:=fw Tryz.func285<|fH 1 [] [] [] [1,8,9,10] (zPH _ _ _ _)
def zPI(qq:Nat)(q0_l:List Ent)(q0_e q0_at p1 p2:Int):Option (Int×Int):=
 if q0_e==0 then
 some (p1,p2)
 else
 some (q0_e,q0_at)
theorem zVX{qq q0_l q0_e q0_at p1 p2}:Cz (zPI qq q0_l q0_e q0_at p1 p2) 286 [.cells [slv zI q0_l .no,ai q0_e,ai q0_at]] [.mp 0 0,ai p1,ai p2] (fun _=>.tup []) (fun r=>[.cells [slv zI q0_l .no,ai r.1,ai r.2]]) 0:=fw Tryz.func286<|rB 1 (fE 2)<|fE 0
def fU:Nat->(List Ent)->Int->Int->(List ByteArray)->zC->Int->Option (Tm×Int×Int)
 |0,_,_,_,_,_,_=>none
 |qq+1,q0_l,q0_e,q0_at,p1,p2,v7=>
 if decide (v7≥0)then
 zL p1 v7>>=fun x2=>
 if x2.toList==p2.name_.toList then
 dL qq (w64 ((w64 ((List.length p1:Int)-1))-v7))>>=fun r5=>
 some (r5,q0_e,q0_at)
 else
 fU qq q0_l q0_e q0_at p1 p2 (w64 (v7-1))
 else
 zSq qq q0_l p2.name_>>=fun r7=>
 if r7.2 != 0 then
 zPI qq q0_l q0_e q0_at 3 p2.at_>>=fun r10=>
 X9 qq r7.1>>=fun r12=>
 some (r12,r10.1,r10.2)
 else
 X9 qq r7.1>>=fun r14=>
 some (r14,q0_e,q0_at)
def zSp(qq:Nat)(q0_l:List Ent)(q0_e q0_at:Int)(p1:List ByteArray)(p2:zC):Option (Tm×Int×Int):=
 fU qq q0_l q0_e q0_at p1 p2 (w64 ((List.length p1:Int)-1))
theorem zPJ:∀qq:Nat,∀q0_l q0_e q0_at p1 p2 v7,Lz (fU qq q0_l q0_e q0_at p1 p2 v7) 1 Tryz.f243 (inn (inn (rgt (lft (rgt (bod Tryz.f243)))))) (fun j=>sp j 48 0 [(0,.mp 0 0),(1,slv yU p1 .no),(5,.mp 1 0),(6,.mp 2 0),(7,ai v7)]) ⟨[(0,.cells [slv zI q0_l .no,ai q0_e,ai q0_at]),(1,.cells [ai p2.kind_,ai p2.at_,at' p2.name_,ai p2.n_,slv zH p2.sub_ .no]),(2,.cells [ai 0,ai 0,slv zA ([]:List Tm) .nl])],3,[],0,[]⟩ (fun r=>tmA r.1) (fun r=>[.cells [slv zI q0_l .no,ai r.2.1,ai r.2.2]]) 0 [.blk 0,.seq (rgt (rgt (bod Tryz.f243)))]:=yW (fun _ _ _ _ _ _=>lN) fun qq ih=>fun q0_l q0_e q0_at p1 p2 v7=>lw fun _=>rB 0 (rA 0 (zKc (o:=.no)) fun _=>rB 2 (rC 3 [] jY fun _=>lE 1)<|lH 1 [] [0,1,2] [] [0,1,5,6,7] (ih _ _ _ _ _ _))<|rC 2 [] zVW fun _=>rB 2 (rC 1 [0] zVX fun _=>rC 0 [] zAR fun _=>lE 1)<|rC 0 [] zAR fun _=>lE 1
theorem zVY{qq q0_l q0_e q0_at p1 p2}:Cz (zSp qq q0_l q0_e q0_at p1 p2) 243 [.cells [slv zI q0_l .no,ai q0_e,ai q0_at]] [.mp 0 0,slv yU p1 .no,yQ p2] (fun r=>tmA r.1) (fun r=>[.cells [slv zI q0_l .no,ai r.2.1,ai r.2.2]]) 0:=fw Tryz.func243<|fH 2 [] [0,1,2] [] [0,1,5,6,7] (zPJ _ _ _ _ _ _ _)
def Y2:Nat->(List Ent)->Int->Int->(List ByteArray)->zC->Option (Tm×Int×Int)
 |0,_,_,_,_,_=>none
 |qq+1,q0_l,q0_e,q0_at,p1,p2=>
 if p2.kind_==1 then
 zSp qq q0_l q0_e q0_at p1 p2>>=fun r2=>
 some (r2.1,r2.2.1,r2.2.2)
 else
 if p2.kind_==2 then
 P2 qq p2.n_>>=fun r5=>
 some (r5,q0_e,q0_at)
 else
 zL p2.sub_ 0>>=fun x7=>
 Y2 qq q0_l q0_e q0_at p1 x7>>=fun r9=>
 if p2.kind_ != 5 then
 gsl p1 0 (List.length p1:Int)>>=fun x12=>
 yR 16 x12 [p2.name_]>>=fun l14=>
 zL p2.sub_ 1>>=fun x16=>
 Y2 qq q0_l r9.2.1 r9.2.2 l14 x16>>=fun r18=>
 if p2.kind_==3 then
 zDC qq r9.1 r18.1>>=fun r21=>
 some (r21,r18.2.1,r18.2.2)
 else
 if p2.kind_==4 then
 zIM qq r9.1 r18.1>>=fun r24=>
 some (r24,r18.2.1,r18.2.2)
 else
 kY qq r9.1 r18.1>>=fun r26=>
 some (r26,r18.2.1,r18.2.2)
 else
 zL p2.sub_ 1>>=fun x28=>
 Y2 qq q0_l r9.2.1 r9.2.2 p1 x28>>=fun r30=>
 if p2.kind_==3 then
 zDC qq r9.1 r30.1>>=fun r33=>
 some (r33,r30.2.1,r30.2.2)
 else
 if p2.kind_==4 then
 zIM qq r9.1 r30.1>>=fun r36=>
 some (r36,r30.2.1,r30.2.2)
 else
 kY qq r9.1 r30.1>>=fun r38=>
 some (r38,r30.2.1,r30.2.2)
theorem zVZ:∀qq:Nat,∀q0_l q0_e q0_at p1 p2,Cz (Y2 qq q0_l q0_e q0_at p1 p2) 185 [.cells [slv zI q0_l .no,ai q0_e,ai q0_at]] [.mp 0 0,slv yU p1 .no,yQ p2] (fun r=>tmA r.1) (fun r=>[.cells [slv zI q0_l .no,ai r.2.1,ai r.2.2]]) 0:=yW (fun _ _ _ _ _=>cN) fun qq ih=>fun q0_l q0_e q0_at p1 p2=>fw Tryz.func185<|rB 1 (rC 1 [0] zVY fun _=>fE 1)<|rB 0 (rC 1 [] zCf fun _=>fE 1)<|rA 1 (zCx (o:=.no)) fun _=>rC 1 [0] (ih _ _ _ _ _) fun _=>rB 2 (rA 2 (zKB (o:=.no)) fun _=>rW (fun h15=>oP 2 (O7 h15 (by simp))) fun _=>rA 1 (zCx (o:=.no)) fun _=>rC 1 [0] (ih _ _ _ _ _) fun _=>rB 2 (rC 2 [] zPg fun _=>fE 1)<|rB 0 (rC 2 [] zRK fun _=>fE 1)<|rC 2 [] nH fun _=>fE 1)<|rA 1 (zCx (o:=.no)) fun _=>rC 1 [0] (ih _ _ _ _ _) fun _=>rB 2 (rC 2 [] zPg fun _=>fE 1)<|rB 0 (rC 2 [] zRK fun _=>fE 1)<|rC 2 [] nH fun _=>fE 1
theorem zWz{qq q0_l q0_e q0_at p1 p2}:Cz (Y2 qq q0_l q0_e q0_at p1 p2) 185 [.cells [slv zI q0_l .no,ai q0_e,ai q0_at]] [.mp 0 0,slv yU p1 .no,yQ p2] (fun r=>tmA r.1) (fun r=>[.cells [slv zI q0_l .no,ai r.2.1,ai r.2.2]]) 0:=zVZ _ _ _ _ _ _
def zFF(qq:Nat)(p0:List Ent)(p1:List ByteArray)(p2:zC):Option (Tm×Int×Int):=
 zEV qq p2>>=fun r1=>
 if r1 then
 zMH qq p0 p1>>=fun r4=>
 if r4 != 0 then
 some ((Tm.mk 0 0 []),0,r4)
 else
 Y2 qq p0 0 0 p1 p2>>=fun r7=>
 if r7.2.1 != 0 then
 some ((Tm.mk 0 0 []),r7.2.2,r7.2.1)
 else
 tV qq r7.1>>=fun r10=>
 if r10 then
 some (r7.1,0,0)
 else
 some ((Tm.mk 0 0 []),0,2)
 else
 some ((Tm.mk 0 0 []),0,5)
theorem zMI{qq p0 p1 p2}:Cz (zFF qq p0 p1 p2) 126 [] [slv zI p0 .no,slv yU p1 .no,yQ p2] (fun r=>.tup [tmA r.1,ai r.2.1,ai r.2.2]) (fun _=>[]) 0:=fw Tryz.func126<|rK 1 [] zOv (fun _=>rC 1 [] zUq fun _=>rB 0 (fE 1)<|rC 1 [2] zWz fun _=>rB 2 (fE 3)<|rK 1 [] sW (fun _=>fE 3) fun _=>fE 2) fun _=>fE 2
def kP:Nat->(List Ent)->(List zP)->(List Tm)->(List ByteArray)->Int->Option (List Tm×List ByteArray×Int×Int)
 |0,_,_,_,_,_=>none
 |qq+1,p0,p2,v11,v12,v35=>
 if decide (v35<(List.length p2:Int))then
 zL p2 v35>>=fun x9=>
 iC qq x9.name_>>=fun r11=>
 if r11 then
 zFF qq p0 v12 x9.type_>>=fun r14=>
 if r14.2.2 != 0 then
 some ([],[],r14.2.1,r14.2.2)
 else
 yR 40 v11 [r14.1]>>=fun l17=>
 yR 16 v12 [x9.name_]>>=fun l19=>
 kP qq p0 p2 l17 l19 (w64 (v35+1))
 else
 some ([],[],0,5)
 else
 some (v11,v12,0,0)
def zPK(qq:Nat)(p0:List Ent)(p1:List ByteArray)(p2:List zP):Option (List Tm×List ByteArray×Int×Int):=
 zMH qq p0 p1>>=fun r1=>
 if r1 != 0 then
 some ([],[],0,r1)
 else
 if decide ((List.length p2:Int)>(w64 (24-(List.length p1:Int))))then
 some ([],[],0,2)
 else
 yR 16 ([]:List ByteArray) p1>>=fun l5=>
 kP qq p0 p2 [] l5 0
theorem zHm:∀qq:Nat,∀p0 p2 v11 v12 v35,Lz (kP qq p0 p2 v11 v12 v35) 0 Tryz.f123 (inn (inn (rgt (lft (rgt (rgt (rgt (rgt (bod Tryz.f123))))))))) (fun j=>sp j 68 0 [(0,slv zI p0 .no),(11,slv zA v11 (.st 0 3)),(12,slv yU v12 .full),(33,slv zB p2 .no),(34,ai (List.length p2:Int)),(35,ai v35)]) ⟨[],0,[0],1,[]⟩ (fun r=>.tup [.sl (zD zA r.1) (List.length r.1) .no,.sl (zD yU r.2.1) (List.length r.2.1) .no,ai r.2.2.1,ai r.2.2.2]) (fun _=>[]) 0 [.blk 0,.seq (rgt (rgt (rgt (rgt (rgt (bod Tryz.f123))))))]∧Lz (kP qq p0 p2 v11 v12 v35) 0 Tryz.f123 (inn (inn (rgt (lft (rgt (rgt (rgt (rgt (bod Tryz.f123))))))))) (fun j=>sp j 68 0 [(0,slv zI p0 .no),(11,slv zA v11 (.st 0 3)),(12,slv yU v12 (.st 1 1)),(33,slv zB p2 .no),(34,ai (List.length p2:Int)),(35,ai v35)]) ⟨[],0,[0,1],2,[]⟩ (fun r=>.tup [.sl (zD zA r.1) (List.length r.1) .no,.sl (zD yU r.2.1) (List.length r.2.1) .no,ai r.2.2.1,ai r.2.2.2]) (fun _=>[]) 0 [.blk 0,.seq (rgt (rgt (rgt (rgt (rgt (bod Tryz.f123))))))]:=yW (fun _ _ _ _ _=>⟨lN,lN⟩) fun qq ih=>fun p0 p2 v11 v12 v35=>⟨lw fun _=>rB 0 (rA 0 (zCy (o:=.no)) fun _=>rK 3 [] aM (fun _=>rC 2 [] zMI fun r14=>rB 4 (lE 0)<|rS (oS 1 (yV xH [r14.1]))<|rW (fun h18=>oP 0 (xU h18 (by simp))) fun _=>rW (fun h20=>oP 2 (O7 h20 (by simp))) fun _=>lH 1 [] [] [1,2] [0,11,12,33,34,35] ((ih _ _ _ _ _).2)) fun _=>lE 1)<|lE 0,lw fun _=>rB 0 (rA 0 (zCy (o:=.no)) fun _=>rK 3 [] aM (fun _=>rC 2 [] zMI fun r14=>rB 4 (lE 0)<|rS (oS 1 (yV xH [r14.1]))<|rW (fun h18=>oP 0 (xU h18 (by simp))) fun _=>rW (fun h20=>oP 2 (O7 h20 (by simp))) fun _=>lH 1 [] [] [2,3] [0,11,12,33,34,35] ((ih _ _ _ _ _).2)) fun _=>lE 1)<|lE 0⟩
theorem zWy{qq p0 p1 p2}:Cz (zPK qq p0 p1 p2) 123 [] [slv zI p0 .no,slv yU p1 .no,slv zB p2 .no] (fun r=>.tup [.sl (zD zA r.1) (List.length r.1) .no,.sl (zD yU r.2.1) (List.length r.2.1) .no,ai r.2.2.1,ai r.2.2.2]) (fun _=>[]) 0:=fw Tryz.func123<|rC 0 [] zUq fun _=>rB 0 (fE 0)<|rB 3 (fE 0)<|rH fun _ h6=>rZ (List.length p1=0) (fun h7=>rS (oP 1 (zSW h6 h7))<|fH 1 [(none,11,3)] [] [0] [0,11,12,33,34,35] ((zHm _ _ _ _ _ _).1)) fun h7=>rS (oP 1 (O7 h6 h7))<|fH 1 [(none,11,3)] [] [1,0] [0,11,12,33,34,35] ((zHm _ _ _ _ _ _).2)
def zAZ(qq:Nat)(p1:Int):Option (List Ent×Nat):=
 if decide (p1<0)then
 none
 else
 if decide ((w64 (p1-0))>0)then
 gmk 192 (default:Ent) (w64 (p1-0))>>=fun x3=>
 zHX (List.length x3) 0 0>>=fun x5=>
 some (x3,x5.2)
 else
 none
theorem zPL{qq p1}:Cz (zAZ qq p1) 192 [] [slv zI ([]:List Ent) .nl,ai p1] (fun r=>.ms 0 0 r.2 (List.length r.1) 15) (fun r=>[.row (zD zI r.1)]) 0:=fw Tryz.func192<|rB 0 (rN)<|rI (fun h2=>rS (oB 4 h2)<|rW (fun h4=>oMz 2 (zNg (of_decide_eq_true h2) h4)) fun x3=>rA 1 (zNh (b:=0) (off:=0) (n:=List.length x3)) fun _=>fF 0 [0]) fun _=>rN
def zPM(qq:Nat)(p1:Int):Option Unit:=(zAZ qq p1)>>=fun r=>if decide (r.2=0)=true then some ()else none
theorem zUp{qq:Nat}{p1:Int}{r:Unit}(h:zPM qq p1=some r):CT Tryz.prog 192 [] [.sl (zD zI ([]:List Ent)) (List.length ([]:List Ent)) .nl,ai p1] (.sl (zD zI ([]:List Ent)) (List.length ([]:List Ent)) (.st 0 15)) [] 1:=by
 obtain⟨x,h1,h⟩:=oO h
 obtain⟨h2,h⟩:=spT h
 exact CT.freezeZ (zPL _ h1) (of_decide_eq_true h2)
theorem zWx{qq:Nat}{p1:Int}:Cz (zPM qq p1) 192 [] [.sl (zD zI ([]:List Ent)) (List.length ([]:List Ent)) .nl,ai p1] (fun _=>.sl (zD zI ([]:List Ent)) (List.length ([]:List Ent)) (.st 0 15)) (fun _=>[]) 1:=fun _ h=>zUp h
def fV:Nat->(List (List Ent))->Int->(List Ent)->Option (List Ent)
 |0,_,_,_=>none
 |qq+1,p0,v27,v6=>
 if decide (v27<(List.length p0:Int))then
 zL p0 v27>>=fun x8=>
 yR 192 v6 x8>>=fun l10=>
 fV qq p0 (w64 (v27+1)) l10
 else
 some v6
def fX:Nat->(List (List Ent))->Int->Int->Option (List Ent)
 |0,_,_,_=>none
 |qq+1,p0,v11,v3=>
 if decide (v11<(List.length p0:Int))then
 zL p0 v11>>=fun x2=>
 if decide ((w64 (v3+(List.length x2:Int)))<0)then
 none
 else
 fX qq p0 (w64 (v11+1)) (w64 (v3+(List.length x2:Int)))
 else
 zPM qq v3>>=fun r5=>
 fV qq p0 0 []
def zPN(qq:Nat)(p0:List (List Ent)):Option (List Ent):=
 fX qq p0 0 0
theorem zPO:∀qq:Nat,∀p0 v27 v6,Lz (fV qq p0 v27 v6) 0 Tryz.f134 (inn (inn (rgt (lft (rgt (rgt (rgt (rgt (bod Tryz.f134))))))))) (fun j=>sp j 36 0 [(6,slv zI v6 (.st 0 15)),(25,slv (slC zI) p0 .no),(26,ai (List.length p0:Int)),(27,ai v27)]) ⟨[],0,[0],1,[]⟩ (fun r=>.sl (zD zI r) (List.length r) .no) (fun _=>[]) 0 [.blk 2,.seq (rgt (rgt (rgt (rgt (rgt (bod Tryz.f134))))))]:=yW (fun _ _ _=>lN) fun qq ih=>fun p0 v27 v6=>lw fun _=>rB 0 (rA 0 (zQd (o:=.no)) fun x8=>rH fun _ h11=>rZ (List.length x8=0) (fun h12=>rS (oP 1 (O5 h11 h12))<|lH 1 [] [] [0] [6,25,26,27] (ih _ _ _)) fun h12=>rS (oP 1 (C4 h11 h12))<|lH 1 [] [] [1] [6,25,26,27] (ih _ _ _))<|lE 0
theorem zPP:∀qq:Nat,∀p0 v11 v3,Lz (fX qq p0 v11 v3) 0 Tryz.f134 (inn (inn (rgt (lft (rgt (rgt (bod Tryz.f134))))))) (fun j=>sp j 36 0 [(0,slv (slC zI) p0 .no),(3,ai v3),(9,slv (slC zI) p0 .no),(10,ai (List.length p0:Int)),(11,ai v11)]) ⟨[],0,[],0,[]⟩ (fun r=>.sl (zD zI r) (List.length r) .no) (fun _=>[]) 0 [.blk 0,.seq (rgt (rgt (rgt (bod Tryz.f134))))]:=yW (fun _ _ _=>lN) fun qq ih=>fun p0 v11 v3=>lw fun _=>rB 0 (rA 0 (zQd (o:=.no)) fun _=>rB 3 (rN)<|lH 1 [] [] [] [0,3,9,10,11] (ih _ _ _))<|rW (fun h6=>oCx 0 [] (zWx _ h6)) fun _=>lH 1 [] [] [0] [6,25,26,27] (zPO _ _ _ _)
theorem zWw{qq p0}:Cz (zPN qq p0) 134 [] [slv (slC zI) p0 .no] (fun r=>.sl (zD zI r) (List.length r) .no) (fun _=>[]) 0:=fw Tryz.func134<|fH 1 [] [] [] [0,3,9,10,11] (zPP _ _ _ _)
end Go.Proofs.YthncchbcdpbgaaaGreat
