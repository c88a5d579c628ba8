/- Parts of the proof that the law returns true: walks of the functions, plain laws. -/
import Derived.KernelRfl
import Derived.Test.YtfbkefchjcocmaaGreatAbB5
set_option linter.unusedVariables false
set_option linter.unusedSimpArgs false
set_option linter.unusedSectionVars false
namespace Go.Proofs.YtfbkefchjcocmaaGreat
open Go Go.Ab
theorem zMO(l:List Ent){c:Int}(h0:0≤c)(h1:c<l.length):Evt (fun q=>zSL q (xY l) c) (ent l c).fam:=by
 simp only[zSL,gW]
 exact Evt.ifF (decide_eq_false (by omega)) (Evt.ifF (decide_eq_false (by omega)) (Evt.pure (yK h0 h1) Evt.ret))
theorem zOX{N:ByteArray->Bool}{l:List Ent}(hE:wN N l)(he:∀e∈l,EOk e)(hl:l.length≤65535)(hc:∀e∈l,ECl e){a b:Tm}(hsa:zM a=true)(hsb:zM b=true)
  (q5 q6:Int) (q7:List zF) (q8:List zD) (q9 q10 q11:Nat) (q12:Bool) (q13:List zF) (q14:List zI) (q15 q16:Nat) (q17:List Int) (q18:Bool) (h5:0≤q5) (h6:0≤q6) (h56:q5+q6≤1099511627776)
  (h9:q10+q9≤q8.length) (h8:q8.length≤1048576000) (h17:q17.length≤1048576000) :
  Tot (fun q=>iW q l l (evA l l.length 0) (l.map xK) (l.map sF) q5 q6 q7 q8 q9 q10 q11 q12 q13 q14 q15 q16 q17 q18 0 (zD.mk a b)) fun x=>
   x = .inl (false,q8,q9,q10,q11,q17,q18,0,q5,q6) ∨
   (x = .inr (.inl (true,q8,q9,q10,q11,q17++[4],0,q5,q6))∧vR l a∧vR l b∧(hdT a).n≠(hdT b).n) ∨
   (vR l a∧vR l b∧(hdT a).n=(hdT b).n∧zXZ l a b q8 q9 q10 q11 q17 q18 q5 (q5+q6) x):=by
 simp only[iW,rP,iV]
 refine Tot.bind (P:=fun r=>r=kS l a) ((zBS l a hsa).tot rfl) fun r1 h1=>?_
 subst h1
 by_cases ca:vR l a
 ·have xa:kS l a=((hdT a).n,arT a,true):=if_pos ca
  have sa:=vI hsa ca
  rw[xa]
  refine Tot.ite (fun _=>Tot.bind (P:=fun r=>r=kS l b) ((zBS l b hsb).tot rfl) fun r4 h4=>?_) fun h=>(by cases h)
  subst h4
  by_cases cb:vR l b
  ·have xb:kS l b=((hdT b).n,arT b,true):=if_pos cb
   have sb:=vI hsb cb
   rw[xb]
   refine Tot.ite (fun _=>Tot.bind (P:=fun r=>r=(ent l (hdT a).n).fam) (((zMO l sa.1 sa.2.1).bind Evt.ret).tot rfl) fun r7 h7=>Tot.bind (P:=fun r=>r=(ent l (hdT b).n).fam) (((zMO l sb.1 sb.2.1).bind Evt.ret).tot rfl) fun r9 h9'=>Tot.ite (fun _=>Tot.ret (.inl rfl)) fun _=>Tot.ite (fun h10=>?_) fun h10=>?_) fun h=>(by cases h)
   ·exact Tot.bind (P:=fun s=>s=q17++[4]) (Tot.pure (yG (by simp;omega)) (Tot.ret rfl)) fun s hs=>Tot.ret (.inr (.inl ⟨by rw[hs],ca,cb,by simpa using h10⟩))
   ·have hn:(hdT a).n=(hdT b).n:=by simpa using h10
    exact(zAD hE he hl hc hsa hsb ca cb hn q7 q8 q9 q10 q11 q12 q13 q14 q15 q16 q17 q18 q5 (q5+q6) h56 h9 h8 h17 (arT a).length 0 q5 q6 [] (by omega) h5 (Int.le_refl _) h6 rfl (fun i hi=>absurd hi (Nat.not_lt_zero _)) (by simp)).mono fun x hx=>.inr (.inr ⟨ca,cb,hn,hx⟩)
  ·have xb:kS l b=(0,[],false):=if_neg cb
   rw[xb]
   exact Tot.ite (fun h=>by cases h) fun _=>Tot.ret (.inl rfl)
 ·have xa:kS l a=(0,[],false):=if_neg ca
  rw[xa]
  exact Tot.ite (fun h=>by cases h) fun _=>Tot.bind (P:=fun _=>True) ((zBS l b hsb).tot trivial) fun r15 _=>Tot.ite (fun _=>Tot.ret (.inl rfl)) fun _=>Tot.ret (.inl rfl)
def yBf(l:List Ent)(a b:Tm)(q8:List zD)(q9 q10 q11:Nat)(q17:List Int)(q18:Bool)(L U:Int)
  (x:(List zD×Nat×Nat×Nat×List Int×Bool×Int×Int×Int) ⊕ ((List zD×Nat×Nat×Nat×List Int×Int×Int×Int) ⊕ (List zD×List Int×Bool×Int×Int×Int))):Prop:=
 (∃e fl fu,e≠0∧x = .inl (q8,q9,q10,q11,q17,q18,e,fl,fu)) ∨
 (x = .inr (.inl (q8,q9,q10,q11,q17++[4],0,L,U))∧vR l a∧vR l b∧(hdT a).n≠(hdT b).n) ∨
 (∃fl fu,0≤fl∧fl≤L∧0≤fu∧fl+fu=L+U∧x = .inr (.inr (uK (rZ l a) (rZ l b)++(q8.drop q10).take q9,q17++[2],q18,0,fl,fu))∧vR l a∧vR l b∧(hdT a).n=(hdT b).n ∧
  ∀i:Nat,(i:Int)<(ent l (hdT a).n).pars->∃k,Cv l false (nth (arT a) i) (nth (arT b) i) true k)
theorem zLv{N:ByteArray->Bool}{l:List Ent}(hE:wN N l)(he:∀e∈l,EOk e)(hl:l.length≤65535)(hc:∀e∈l,ECl e){a b:Tm}(hsa:zM a=true)(hsb:zM b=true)
  (q5 q6:Int) (q7:List zF) (q8:List zD) (q9 q10 q11:Nat) (q12:Bool) (q13:List zF) (q14:List zI) (q15 q16:Nat) (q17:List Int) (q18:Bool) (h5:0≤q5) (h6:0≤q6) (h56:q5+q6≤1099511627776)
  (h9:q10+q9≤q8.length) (h8:q8.length≤1048576000) (h17:q17.length≤1048576000) :
  Tot (fun q=>iY q l l (evA l l.length 0) (l.map xK) (l.map sF) q5 q6 q7 q8 q9 q10 q11 q12 q13 q14 q15 q16 q17 q18 0 (zD.mk a b)) (yBf l a b q8 q9 q10 q11 q17 q18 q5 q6):=by
 simp only[iY]
 refine(zOX hE he hl hc hsa hsb q5 q6 q7 q8 q9 q10 q11 q12 q13 q14 q15 q16 q17 q18 h5 h6 h56 h9 h8 h17).bind fun x hx=>?_
 rcases hx with rfl|⟨rfl,ca,cb,hn⟩|⟨ca,cb,hn,⟨e,fl,fu,e0,rfl⟩|⟨fl,fu,f0,f1,f2,f3,rfl,hp⟩⟩
 ·refine Tot.ite (fun h=>by cases h) fun _=>(zFw hE he hl hc (zY hsa) (zY hsb) q5 q6 h5 h6 h56).bind fun r5 _=>Tot.ite (fun _=>Tot.ite (fun h=>Tot.ret (.inl ⟨_,_,_,by simpa using h,rfl⟩)) fun _=>Tot.ret (.inl ⟨12,_,_,by decide,rfl⟩)) fun _=>Tot.ite (fun h=>Tot.ret (.inl ⟨_,_,_,by simpa using h,rfl⟩)) fun _=>Tot.ret (.inl ⟨13,_,_,by decide,rfl⟩)
 ·exact Tot.ite (fun _=>Tot.ret (.inr (.inl ⟨rfl,ca,cb,hn⟩))) fun h=>by cases h
 ·exact Tot.ite (fun _=>Tot.ret (.inl ⟨e,fl,fu,e0,rfl⟩)) fun h=>by cases h
 ·exact Tot.ite (fun _=>Tot.ret (.inr (.inr ⟨fl,fu,f0,f1,f2,f3,rfl,ca,cb,hn,hp⟩))) fun h=>by cases h
def jF:Nat->List zF->Int->Int->Option (Tm×Int)
 |0,_,_,_=>none
 |qq+1,p0,p1,v10=>
 if decide (v10<(p0.length:Int))then
 zR p0 v10>>=fun x2=>
 if x2.n_==p1 then
 e53 qq x2.type_>>=fun r5=>
 some (r5,0)
 else
 jF qq p0 p1 (w64 (v10+1))
 else
 some ((Tm.mk 0 0 []),16)
def zVJ(qq:Nat)(p0:List zF)(p1:Int):Option (Tm×Int):=
 jF qq p0 p1 0
theorem zVK:∀qq:Nat,(∀p0 p1 v10 r,jF qq p0 p1 v10=some r->(∀j,dL 0 (inn (inn (rgt (lft (rgt (bod Tryz.f122)))))) (sp j 23 0 [(1,ai p1),(4,.mp 0 0),(8,slv zK p0 .no),(9,ai (p0.length:Int)),(10,ai v10)]) (⟨[(0,.cells [ai 0,ai 0,slv zH ([]:List Tm) .nl])],1,[],0,[]⟩) (fQ 0 (nQ 0 Tryz.f122 (.tup [tmA r.1,ai r.2]) [] 0) [.blk 0,.seq (rgt (rgt (bod Tryz.f122)))]))):=by
 intro qq
 induction qq with
 |zero=>
  exact fun _ _ _ _ h=>nn h
 |succ qq ih=>
  intro p0 p1 v10 r h
  rw[jF]at h
  obtain⟨h1,h⟩|⟨h1,h⟩:=spl h
  obtain⟨x2,h3,h⟩:=zC h
  have k:=oA 0 (zFJ (o:=.no) h3)<|oB 0 h1 o0
  obtain⟨h4,h⟩|⟨h4,h⟩:=spl h
  obtain⟨r5,h6,h⟩:=zC h
  cases h
  exact fun j=>lF 1 [] (oD (dT r5.sub)<|oC 1 [] (c53 h6)<|oB 3 h4 k)
  exact fun j=>lH 1 [] [0] [] [1,4,8,9,10] (oD (zG p0)<|oD (dT ([]:List Tm))<|oB 3 h4 k) (ih _ _ _ _ h)
  cases h
  exact fun j=>lF 1 [] (oD (dT ([]:List Tm))<|oB 0 h1 o0)
theorem yBe{qq p0 p1 r}(h:zVJ qq p0 p1=some r):Ct 122 [] [slv zK p0 .no,ai p1] (.tup [tmA r.1,ai r.2]) [] 0:=⟨by
 unfold zVJ at h
 exact tH ⟨Tryz.func122,rfl⟩ 1 [] [0] [] [1,4,8,9,10] (oD (zG p0)<|oD (dT ([]:List Tm)) o0) (zVK _ _ _ _ _ h),⟨⟨tv,zG _⟩,tv,tv⟩,zB,⟨⟨tv,tv,dT _,tv⟩,tv,tv⟩,zB⟩
def mX(qq:Nat)(q0 q1:List Ent)(q2:List yO)(q3 q4:List Int)(q5 q6:Int)(q7:List zF)(q8:List zD)(q9 q10 q11:Nat)(q12:Bool)(q13:List zF)(q14:List zI)(q15 q16:Nat)(q17:List Int)(q18:Bool)(q19:Int)(p1:Tm):Option Int:=
 if p1.k != 8 then
 some (-1)
 else
 zVJ qq q7 p1.n>>=fun r2=>
 if r2.2 != 0 then
 some (-1)
 else
 some p1.n
theorem zDI:Qf 101 Tryz.f101:=⟨Tryz.func101,rfl⟩
theorem zJu{qq q0 q1 q2 q3 q4 q5 q6 q7 q8 q9 q10 q11 q12 q13 q14 q15 q16 q17 q18 q19 p1 r}(h:mX qq q0 q1 q2 q3 q4 q5 q6 q7 q8 q9 q10 q11 q12 q13 q14 q15 q16 q17 q18 q19 p1=some r):Ct 101 [.cells [.mp 1 0,.mp 3 0,slv zK q7 .no,.ms 4 (q10*6) q9 q11 6,ab q12,.ms 5 0 q13.length q13.length 4,.ms 6 0 q15 q16 4,.ms 7 0 q17.length q17.length 1,ab q18,ai q19],qB q0 2 q3 q4,qR q1 q2,.cells [ai q5,ai q6],.row (zJ zO q8),.row (zJ zK q13),.row (zJ zP q14),.row (zJ zV q17)] [.mp 0 0,tmA p1] (ai r) [.cells [.mp 1 0,.mp 3 0,slv zK q7 .no,.ms 4 (q10*6) q9 q11 6,ab q12,.ms 5 0 q13.length q13.length 4,.ms 6 0 q15 q16 4,.ms 7 0 q17.length q17.length 1,ab q18,ai q19],qB q0 2 q3 q4,qR q1 q2,.cells [ai q5,ai q6],.row (zJ zO q8),.row (zJ zK q13),.row (zJ zP q14),.row (zJ zV q17)] 0:=⟨by
 unfold mX at h
 have z {os ob} (k:Oz os ob):=oD (dI q17)<|oD (zL q14)<|oD (zG q13)<|oD (zN q8)<|oDm q0 q1 q2 q3 q4<|oD (zG q7)<|k
 obtain⟨h1,h⟩|⟨h1,h⟩:=spl h
 obtain rfl:=sj h
 exact tF zDI 0 [0,1,2,3,4,5,6,7] (z<|oB 1 h1 o0)
 obtain⟨r2,h3,h⟩:=zC h
 have k:=oC 2 [] (yBe h3)<|oB 1 h1 o0
 obtain⟨h4,h⟩|⟨h4,h⟩:=spl h
 obtain rfl:=sj h
 exact tF zDI 0 [0,1,2,3,4,5,6,7] (z<|oB 3 h4 k)
 obtain rfl:=sj h
 exact tF zDI 1 [0,1,2,3,4,5,6,7] (z<|oB 3 h4 k),⟨(lz rfl),⟨tv,tv,⟨tv,dT _⟩,tv⟩,tv⟩,(zA ⟨(lz rfl),(lz rfl),⟨tv,zG _⟩,(lz rfl),tv,(lz rfl),(lz rfl),(lz rfl),tv,tv,tv⟩ (fMa (lz rfl) (zA ⟨tv,tv,tv⟩ (zA (zN _) (zA (zG _) (zA (zL _) (zA (dI _) zB))))))),tv,(zA ⟨(lz rfl),(lz rfl),zG _,(lz rfl),tv,(lz rfl),(lz rfl),(lz rfl),tv,tv,tv⟩ (fMf (lz rfl) (zA ⟨tv,tv,tv⟩ (zA (zN _) (zA (zG _) (zA (zL _) (zA (dI _) zB)))))))⟩
theorem zDJ{N:ByteArray->Bool}{l:List Ent}(hE:wN N l)(he:∀e∈l,EOk e){x:Tm}(hx:x.Ok)(L U:Int)(h0:0≤L)(h1:0≤U)(h2:L+U≤1099511627776) :
  Tot (fun q=>zID q (xY l) x L U) fun r=>r.2.1=0->∃k,0≤k∧k≤L∧Br l x r.1 0 k∧r.2.2.1=L-k∧r.2.2.2=U+k:=by
 refine Tot.mono (Ou.met (zEU l hE he x hx L h0) h1 h2) fun r hr a=>?_
 rcases hr with hr|⟨R,k,k0,k1,⟨-,-,rfl⟩|⟨-,y,e,hb,rfl⟩,rfl⟩
 ·have hr':r.2.1=8:=hr
  rw[hr']at a;cases a
 ·have a':(5:Int)=0:=a
  cases a'
 ·have a':e=0:=a
  subst a'
  exact⟨k,k0,k1,hb,rfl,rfl⟩
theorem zFv{c:List zF}(hl:c.length≤524288)(hs:∀v∈c,v.type_.Ok)(n:Int):∀(r:List zF) (v:Nat),c.drop v=r->Tot (fun q=>jF q c n (v:Int)) fun x=>x.2=0->n∈r.map (·.n_)
 | [],v,hd=>by
  refine Tot.succ ?_
  simp only[jF]
  refine Tot.ite (fun h=>?_) fun _=>Tot.ret fun h=>absurd h (by show ¬(16:Int)=0;decide)
  rw[yC hd]at h;cases h
 |x::r,v,hd=>by
  have hlt:=yE hd
  have hx:x∈c:=List.mem_of_mem_drop (by rw[hd];simp)
  refine Tot.succ ?_
  simp only[jF]
  refine Tot.ite (fun _=>Tot.pure (zX hd) (Tot.ite (fun e=>Tot.bind (P:=fun _=>True) ((rD x.type_ (hs x hx)).tot trivial) fun t _=>Tot.ret fun _=>?_) fun _=>?_)) fun h=>?_
  ·have e':x.n_=n:=by simpa using e
   simp[e']
  ·rw[zU v (by omega)]
   exact(zFv hl hs n r (v+1) (zS hd)).mono fun y hy h=>by rw[List.map_cons];exact List.mem_cons_of_mem _ (hy h)
  ·rw[yB hd]at h;cases h
theorem zJt(q0 q1:List Ent)(q2:List yO)(q3 q4:List Int)(q5 q6:Int){c:List zF}(hl:c.length≤524288)(hs:∀v∈c,v.type_.Ok)(q8:List zD)(q9 q10 q11:Nat)(q12:Bool)(q13:List zF)(q14:List zI)(q15 q16:Nat)(q17:List Int)(q18:Bool)(e:Int)(t:Tm) :
  Tot (fun q=>mX q q0 q1 q2 q3 q4 q5 q6 c q8 q9 q10 q11 q12 q13 q14 q15 q16 q17 q18 e t) fun k=>0≤k->t.k=8∧t.n=k∧k∈c.map (·.n_):=by
 simp only[mX,zVJ]
 refine Tot.ite (fun _=>Tot.ret fun h=>absurd h (by decide)) fun h8=>(zFv hl hs t.n c 0 rfl).bind fun x hx=>Tot.ite (fun _=>Tot.ret fun h=>absurd h (by decide)) fun h=>Tot.ret fun _=>⟨by simpa using h8,rfl,hx (by simpa using h)⟩
def aO(qq:Nat)(q0 q1:List Ent)(q2:List yO)(q3 q4:List Int)(q5 q6:Int)(q7:List zF)(q8:List zD)(q9 q10 q11:Nat)(q12:Bool)(q13:List zF)(q14:List zI)(q15 q16:Nat)(q17:List Int)(q18:Bool)(q19:Int):Option ((List zF×List zD×Nat×Nat×Nat×List zI×Nat×Nat×List Int×Bool×Int×Int×Int) ⊕ ((List zF×List zD×Nat×Nat×Nat×List zI×Nat×Nat×List Int×Int×Int×Int) ⊕ ((List zF×List zD×Nat×Nat×Nat×List zI×List Int×Bool×Int×Int×Int) ⊕ (List zF×List zD×List zI×Nat×Nat×List Int×Bool×Int×Int×Int×List zD)))):=
 lO q9 0>>=fun x1=>
 zR q8 ((q10+x1):Int)>>=fun x3=>
 nT q9 1 (q9:Int)>>=fun x5=>
 e98 qq q5 q6>>=fun r7=>
 if r7.1 != 0 then
 some (.inl (q7,q8,x5.2,(q10+x5.1),(q11-x5.1),q14,q15,q16,q17,q18,r7.1,r7.2.1,r7.2.2))
 else
 zID qq (xB.mk q0 q1 q2 q3 q4) x3.a_ r7.2.1 r7.2.2>>=fun r10=>
 pK qq q0 q1 q2 q3 q4 r10.2.2.1 r10.2.2.2 q7 q8 x5.2 (q10+x5.1) (q11-x5.1) q12 q13 q14 q15 q16 q17 q18 q19 r10.1 r10.2.1>>=fun r12=>
 if r12.2 != 0 then
 some (.inl (q7,q8,x5.2,(q10+x5.1),(q11-x5.1),q14,q15,q16,q17,q18,r12.2,r10.2.2.1,r10.2.2.2))
 else
 zID qq (xB.mk q0 q1 q2 q3 q4) x3.b_ r10.2.2.1 r10.2.2.2>>=fun r15=>
 pK qq q0 q1 q2 q3 q4 r15.2.2.1 r15.2.2.2 q7 q8 x5.2 (q10+x5.1) (q11-x5.1) q12 q13 q14 q15 q16 q17 q18 r12.2 r15.1 r15.2.1>>=fun r17=>
 if r17.2 != 0 then
 some (.inl (q7,q8,x5.2,(q10+x5.1),(q11-x5.1),q14,q15,q16,q17,q18,r17.2,r15.2.2.1,r15.2.2.2))
 else
 mX qq q0 q1 q2 q3 q4 r15.2.2.1 r15.2.2.2 q7 q8 x5.2 (q10+x5.1) (q11-x5.1) q12 q13 q14 q15 q16 q17 q18 r17.2 r12.1>>=fun r20=>
 mX qq q0 q1 q2 q3 q4 r15.2.2.1 r15.2.2.2 q7 q8 x5.2 (q10+x5.1) (q11-x5.1) q12 q13 q14 q15 q16 q17 q18 r17.2 r17.1>>=fun r22=>
 if decide (r20≥0)then
 if r20==r22 then
 some (.inl (q7,q8,x5.2,(q10+x5.1),(q11-x5.1),q14,q15,q16,q17,q18,12,r15.2.2.1,r15.2.2.2))
 else
 mT qq q0 q1 q2 q3 q4 r15.2.2.1 r15.2.2.2 q7 q8 x5.2 (q10+x5.1) (q11-x5.1) q12 q13 q14 q15 q16 q17 q18 r17.2 r20 r17.1>>=fun r26=>
 match r26 with
 | .inl y28=>
  some (.inr (.inl (y28.1,y28.2.2.2.2.2.2,x5.2,(q10+x5.1),(q11-x5.1),y28.2.1,y28.2.2.1,y28.2.2.2.1,y28.2.2.2.2.1,y28.2.2.2.2.2.1,r15.2.2.1,r15.2.2.2)))
 | .inr (.inl y29)=>
  some (.inl (y29.1,y29.2.2.2.2.2.2.2,x5.2,(q10+x5.1),(q11-x5.1),y29.2.1,y29.2.2.1,y29.2.2.2.1,y29.2.2.2.2.1,y29.2.2.2.2.2.1,y29.2.2.2.2.2.2.1,r15.2.2.1,r15.2.2.2))
 | .inr (.inr y30)=>
  some (.inr (.inr (.inl (y30.1,y30.2.2.2.2.2,x5.2,(q10+x5.1),(q11-x5.1),y30.2.1,y30.2.2.1,y30.2.2.2.1,y30.2.2.2.2.1,r15.2.2.1,r15.2.2.2))))
 else
 if decide (r22≥0)then
 mT qq q0 q1 q2 q3 q4 r15.2.2.1 r15.2.2.2 q7 q8 x5.2 (q10+x5.1) (q11-x5.1) q12 q13 q14 q15 q16 q17 q18 r17.2 r22 r12.1>>=fun r32=>
 match r32 with
 | .inl y34=>
  some (.inr (.inl (y34.1,y34.2.2.2.2.2.2,x5.2,(q10+x5.1),(q11-x5.1),y34.2.1,y34.2.2.1,y34.2.2.2.1,y34.2.2.2.2.1,y34.2.2.2.2.2.1,r15.2.2.1,r15.2.2.2)))
 | .inr (.inl y35)=>
  some (.inl (y35.1,y35.2.2.2.2.2.2.2,x5.2,(q10+x5.1),(q11-x5.1),y35.2.1,y35.2.2.1,y35.2.2.2.1,y35.2.2.2.2.1,y35.2.2.2.2.2.1,y35.2.2.2.2.2.2.1,r15.2.2.1,r15.2.2.2))
 | .inr (.inr y36)=>
  some (.inr (.inr (.inl (y36.1,y36.2.2.2.2.2,x5.2,(q10+x5.1),(q11-x5.1),y36.2.1,y36.2.2.1,y36.2.2.2.1,y36.2.2.2.2.1,r15.2.2.1,r15.2.2.2))))
 else
 iY qq q0 q1 q2 q3 q4 r15.2.2.1 r15.2.2.2 q7 q8 x5.2 (q10+x5.1) (q11-x5.1) q12 q13 q14 q15 q16 q17 q18 r17.2 (zD.mk r12.1 r17.1)>>=fun r37=>
 match r37 with
 | .inl y39=>
  some (.inl (q7,q8,y39.2.1,y39.2.2.1,y39.2.2.2.1,q14,q15,q16,y39.2.2.2.2.1,y39.2.2.2.2.2.1,y39.2.2.2.2.2.2.1,y39.2.2.2.2.2.2.2.1,y39.2.2.2.2.2.2.2.2))
 | .inr (.inl y40)=>
  some (.inr (.inl (q7,q8,y40.2.1,y40.2.2.1,y40.2.2.2.1,q14,q15,q16,y40.2.2.2.2.1,y40.2.2.2.2.2.1,y40.2.2.2.2.2.2.1,y40.2.2.2.2.2.2.2)))
 | .inr (.inr y41)=>
  some (.inr (.inr (.inr (q7,y41.1,q14,q15,q16,y41.2.1,y41.2.2.1,y41.2.2.2.1,y41.2.2.2.2.1,y41.2.2.2.2.2,q8))))
abbrev zAE (q0 q1:List Ent) (q2:List yO) (q3 q4:List Int) (q5 q6:Int) (q7:List zF) (q8:List zD) (q9 q10 q11:Nat) (q12:Bool) (q13:List zF) (q14:List zI) (q15 q16:Nat) (q17:List Int) (q18:Bool) (q19:Int) (r:List zF×List zD×Nat×Nat×Nat×List zI×Nat×Nat×List Int×Bool×Int×Int×Int) (C:Cf):Prop:=C 65 [.cells [.mp 1 0,.mp 3 0,slv zK q7 .no,.ms 4 (q10*6) q9 q11 6,ab q12,.ms 5 0 q13.length q13.length 4,.ms 6 0 q15 q16 4,.ms 7 0 q17.length q17.length 1,ab q18,ai q19],qB q0 2 q3 q4,qR q1 q2,.cells [ai q5,ai q6],.row (zJ zO q8),.row (zJ zK q13),.row (zJ zP q14),.row (zJ zV q17)] [.mp 0 0] (.tup []) [.cells [.mp 1 0,.mp 3 0,slv zK r.1 .no,.ms 4 (r.2.2.2.1*6) r.2.2.1 r.2.2.2.2.1 6,ab q12,.ms 5 0 q13.length q13.length 4,.ms 8 0 r.2.2.2.2.2.2.1 r.2.2.2.2.2.2.2.1 4,.ms 9 0 r.2.2.2.2.2.2.2.2.1.length r.2.2.2.2.2.2.2.2.1.length 1,ab r.2.2.2.2.2.2.2.2.2.1,ai r.2.2.2.2.2.2.2.2.2.2.1],qB q0 2 q3 q4,qR q1 q2,.cells [ai r.2.2.2.2.2.2.2.2.2.2.2.1,ai r.2.2.2.2.2.2.2.2.2.2.2.2],.row (zJ zO r.2.1),.row (zJ zK q13),.dead,.dead,.row (zJ zP r.2.2.2.2.2.1),.row (zJ zV r.2.2.2.2.2.2.2.2.1)] 0
abbrev zAF (q0 q1:List Ent) (q2:List yO) (q3 q4:List Int) (q5 q6:Int) (q7:List zF) (q8:List zD) (q9 q10 q11:Nat) (q12:Bool) (q13:List zF) (q14:List zI) (q15 q16:Nat) (q17:List Int) (q18:Bool) (q19:Int) (r:List zF×List zD×Nat×Nat×Nat×List zI×Nat×Nat×List Int×Int×Int×Int) (C:Cf):Prop:=C 65 [.cells [.mp 1 0,.mp 3 0,slv zK q7 .no,.ms 4 (q10*6) q9 q11 6,ab q12,.ms 5 0 q13.length q13.length 4,.ms 6 0 q15 q16 4,.ms 7 0 q17.length q17.length 1,ab q18,ai q19],qB q0 2 q3 q4,qR q1 q2,.cells [ai q5,ai q6],.row (zJ zO q8),.row (zJ zK q13),.row (zJ zP q14),.row (zJ zV q17)] [.mp 0 0] (.tup []) [.cells [.mp 1 0,.mp 3 0,slv zK r.1 .no,.ms 4 (r.2.2.2.1*6) r.2.2.1 r.2.2.2.2.1 6,ab q12,.ms 5 0 q13.length q13.length 4,.ms 8 0 r.2.2.2.2.2.2.1 r.2.2.2.2.2.2.2.1 4,.ms 9 0 r.2.2.2.2.2.2.2.2.1.length r.2.2.2.2.2.2.2.2.1.length 1,ab true,ai r.2.2.2.2.2.2.2.2.2.1],qB q0 2 q3 q4,qR q1 q2,.cells [ai r.2.2.2.2.2.2.2.2.2.2.1,ai r.2.2.2.2.2.2.2.2.2.2.2],.row (zJ zO r.2.1),.row (zJ zK q13),.dead,.dead,.row (zJ zP r.2.2.2.2.2.1),.row (zJ zV r.2.2.2.2.2.2.2.2.1)] 0
abbrev zAG (q0 q1:List Ent) (q2:List yO) (q3 q4:List Int) (q5 q6:Int) (q7:List zF) (q8:List zD) (q9 q10 q11:Nat) (q12:Bool) (q13:List zF) (q14:List zI) (q15 q16:Nat) (q17:List Int) (q18:Bool) (q19:Int) (r:List zF×List zD×Nat×Nat×Nat×List zI×List Int×Bool×Int×Int×Int) (C:Cf):Prop:=C 65 [.cells [.mp 1 0,.mp 3 0,slv zK q7 .no,.ms 4 (q10*6) q9 q11 6,ab q12,.ms 5 0 q13.length q13.length 4,.ms 6 0 q15 q16 4,.ms 7 0 q17.length q17.length 1,ab q18,ai q19],qB q0 2 q3 q4,qR q1 q2,.cells [ai q5,ai q6],.row (zJ zO q8),.row (zJ zK q13),.row (zJ zP q14),.row (zJ zV q17)] [.mp 0 0] (.tup []) [.cells [.mp 1 0,.mp 3 0,slv zK r.1 .no,.ms 4 (r.2.2.2.1*6) r.2.2.1 r.2.2.2.2.1 6,ab q12,.ms 5 0 q13.length q13.length 4,.ms 8 0 r.2.2.2.2.2.1.length r.2.2.2.2.2.1.length 4,.ms 9 0 r.2.2.2.2.2.2.1.length r.2.2.2.2.2.2.1.length 1,ab r.2.2.2.2.2.2.2.1,ai r.2.2.2.2.2.2.2.2.1],qB q0 2 q3 q4,qR q1 q2,.cells [ai r.2.2.2.2.2.2.2.2.2.1,ai r.2.2.2.2.2.2.2.2.2.2],.row (zJ zO r.2.1),.row (zJ zK q13),.dead,.dead,.row (zJ zP r.2.2.2.2.2.1),.row (zJ zV r.2.2.2.2.2.2.1)] 0
abbrev zAH (q0 q1:List Ent) (q2:List yO) (q3 q4:List Int) (q5 q6:Int) (q7:List zF) (q8:List zD) (q9 q10 q11:Nat) (q12:Bool) (q13:List zF) (q14:List zI) (q15 q16:Nat) (q17:List Int) (q18:Bool) (q19:Int) (r:List zF×List zD×List zI×Nat×Nat×List Int×Bool×Int×Int×Int×List zD) (C:Cf):Prop:=C 65 [.cells [.mp 1 0,.mp 3 0,slv zK q7 .no,.ms 4 (q10*6) q9 q11 6,ab q12,.ms 5 0 q13.length q13.length 4,.ms 6 0 q15 q16 4,.ms 7 0 q17.length q17.length 1,ab q18,ai q19],qB q0 2 q3 q4,qR q1 q2,.cells [ai q5,ai q6],.row (zJ zO q8),.row (zJ zK q13),.row (zJ zP q14),.row (zJ zV q17)] [.mp 0 0] (.tup []) [.cells [.mp 1 0,.mp 3 0,slv zK r.1 .no,.ms 8 0 r.2.1.length r.2.1.length 6,ab q12,.ms 5 0 q13.length q13.length 4,.ms 9 0 r.2.2.2.1 r.2.2.2.2.1 4,.ms 10 0 r.2.2.2.2.2.1.length r.2.2.2.2.2.1.length 1,ab r.2.2.2.2.2.2.1,ai r.2.2.2.2.2.2.2.1],qB q0 2 q3 q4,qR q1 q2,.cells [ai r.2.2.2.2.2.2.2.2.1,ai r.2.2.2.2.2.2.2.2.2.1],.row (zJ zO r.2.2.2.2.2.2.2.2.2.2),.row (zJ zK q13),.dead,.dead,.row (zJ zO r.2.1),.row (zJ zP r.2.2.1),.row (zJ zV r.2.2.2.2.2.1)] 0
theorem sG:Qf 65 Tryz.f65:=⟨Tryz.func65,rfl⟩
theorem qI{q0 q1 q2 q3 q4 q5 q6 q7 q8 q9 q10 q11 q12 q13 q14 q15 q16 q17 q18 q19 r}(h:zAE q0 q1 q2 q3 q4 q5 q6 q7 q8 q9 q10 q11 q12 q13 q14 q15 q16 q17 q18 q19 r Ci):zAE q0 q1 q2 q3 q4 q5 q6 q7 q8 q9 q10 q11 q12 q13 q14 q15 q16 q17 q18 q19 r Ct:=⟨h,⟨(lz rfl),tv⟩,(zA ⟨(lz rfl),(lz rfl),⟨tv,zG _⟩,(lz rfl),tv,(lz rfl),(lz rfl),(lz rfl),tv,tv,tv⟩ (fMa (lz rfl) (zA ⟨tv,tv,tv⟩ (zA (zN _) (zA (zG _) (zA (zL _) (zA (dI _) zB))))))),tv,(zA ⟨(lz rfl),(lz rfl),zG _,(lz rfl),tv,(lz rfl),(lz rfl),(lz rfl),tv,tv,tv⟩ (fMf (lz rfl) (zA ⟨tv,tv,tv⟩ (zA (zN _) (zA (zG _) (zA tv (zA tv (zA (zL _) (zA (dI _) zB)))))))))⟩
theorem zAI{q0 q1 q2 q3 q4 q5 q6 q7 q8 q9 q10 q11 q12 q13 q14 q15 q16 q17 q18 q19 r}(h:zAF q0 q1 q2 q3 q4 q5 q6 q7 q8 q9 q10 q11 q12 q13 q14 q15 q16 q17 q18 q19 r Ci):zAF q0 q1 q2 q3 q4 q5 q6 q7 q8 q9 q10 q11 q12 q13 q14 q15 q16 q17 q18 q19 r Ct:=⟨h,⟨(lz rfl),tv⟩,(zA ⟨(lz rfl),(lz rfl),⟨tv,zG _⟩,(lz rfl),tv,(lz rfl),(lz rfl),(lz rfl),tv,tv,tv⟩ (fMa (lz rfl) (zA ⟨tv,tv,tv⟩ (zA (zN _) (zA (zG _) (zA (zL _) (zA (dI _) zB))))))),tv,(zA ⟨(lz rfl),(lz rfl),zG _,(lz rfl),tv,(lz rfl),(lz rfl),(lz rfl),tv,tv,tv⟩ (fMf (lz rfl) (zA ⟨tv,tv,tv⟩ (zA (zN _) (zA (zG _) (zA tv (zA tv (zA (zL _) (zA (dI _) zB)))))))))⟩
theorem zFu{q0 q1 q2 q3 q4 q5 q6 q7 q8 q9 q10 q11 q12 q13 q14 q15 q16 q17 q18 q19 r}(h:zAG q0 q1 q2 q3 q4 q5 q6 q7 q8 q9 q10 q11 q12 q13 q14 q15 q16 q17 q18 q19 r Ci):zAG q0 q1 q2 q3 q4 q5 q6 q7 q8 q9 q10 q11 q12 q13 q14 q15 q16 q17 q18 q19 r Ct:=⟨h,⟨(lz rfl),tv⟩,(zA ⟨(lz rfl),(lz rfl),⟨tv,zG _⟩,(lz rfl),tv,(lz rfl),(lz rfl),(lz rfl),tv,tv,tv⟩ (fMa (lz rfl) (zA ⟨tv,tv,tv⟩ (zA (zN _) (zA (zG _) (zA (zL _) (zA (dI _) zB))))))),tv,(zA ⟨(lz rfl),(lz rfl),zG _,(lz rfl),tv,(lz rfl),(lz rfl),(lz rfl),tv,tv,tv⟩ (fMf (lz rfl) (zA ⟨tv,tv,tv⟩ (zA (zN _) (zA (zG _) (zA tv (zA tv (zA (zL _) (zA (dI _) zB)))))))))⟩
theorem zOY{q0 q1 q2 q3 q4 q5 q6 q7 q8 q9 q10 q11 q12 q13 q14 q15 q16 q17 q18 q19 r}(h:zAH q0 q1 q2 q3 q4 q5 q6 q7 q8 q9 q10 q11 q12 q13 q14 q15 q16 q17 q18 q19 r Ci):zAH q0 q1 q2 q3 q4 q5 q6 q7 q8 q9 q10 q11 q12 q13 q14 q15 q16 q17 q18 q19 r Ct:=⟨h,⟨(lz rfl),tv⟩,(zA ⟨(lz rfl),(lz rfl),⟨tv,zG _⟩,(lz rfl),tv,(lz rfl),(lz rfl),(lz rfl),tv,tv,tv⟩ (fMa (lz rfl) (zA ⟨tv,tv,tv⟩ (zA (zN _) (zA (zG _) (zA (zL _) (zA (dI _) zB))))))),tv,(zA ⟨(lz rfl),(lz rfl),zG _,(lz rfl),tv,(lz rfl),(lz rfl),(lz rfl),tv,tv,tv⟩ (fMf (lz rfl) (zA ⟨tv,tv,tv⟩ (zA (zN _) (zA (zG _) (zA tv (zA tv (zA (zN _) (zA (zL _) (zA (dI _) zB))))))))))⟩
theorem zBY{qq q0 q1 q2 q3 q4 q5 q6 q7 q8 q9 q10 q11 q12 q13 q14 q15 q16 q17 q18 q19 r}(h:aO qq q0 q1 q2 q3 q4 q5 q6 q7 q8 q9 q10 q11 q12 q13 q14 q15 q16 q17 q18 q19=some r):(match (generalizing:=false) r with | .inl x=>zAE q0 q1 q2 q3 q4 q5 q6 q7 q8 q9 q10 q11 q12 q13 q14 q15 q16 q17 q18 q19 x Ct | .inr (.inl x)=>zAF q0 q1 q2 q3 q4 q5 q6 q7 q8 q9 q10 q11 q12 q13 q14 q15 q16 q17 q18 q19 x Ct | .inr (.inr (.inl x))=>zAG q0 q1 q2 q3 q4 q5 q6 q7 q8 q9 q10 q11 q12 q13 q14 q15 q16 q17 q18 q19 x Ct | .inr (.inr (.inr x))=>zAH q0 q1 q2 q3 q4 q5 q6 q7 q8 q9 q10 q11 q12 q13 q14 q15 q16 q17 q18 q19 x Ct):=by
 unfold aO at h
 have z {os ob} (k:Oz os ob):=oD (zL q14)<|oD (zG q13)<|oD (zN q8)<|oDm q0 q1 q2 q3 q4<|oD (zG q7)<|k
 obtain⟨x1,h2,h⟩:=zC h
 obtain⟨x3,h4,h⟩:=zC h
 obtain⟨x5,h6,h⟩:=zC h
 obtain⟨r7,h8,h⟩:=zC h
 have k:=oC 2 [3] (c98 h8)<|oA 2 (zKz (b:=4) (o:=q10) (c:=q11) h6)<|oG (a:=(.agg [ai x3.a_.k,ai x3.a_.n,slv zH x3.a_.sub .no,ai x3.b_.k,ai x3.b_.n,slv zH x3.b_.sub .no])) 0 (ldE wQ h4 (true,6) (val:=.agg [ai x3.a_.k,ai x3.a_.n,slv zH x3.a_.sub .no,ai x3.b_.k,ai x3.b_.n,slv zH x3.b_.sub .no]) rfl)<|oA 1 (zJZ (b:=4) (o:=q10) (c:=q11) (z:=6) h2) o0
 obtain⟨h9,h⟩|⟨h9,h⟩:=spl h
 cases h
 exact qI (tG sG 1 [(some 6,0,0),(some 7,0,0)] [0,1,2,3,4,5,6,7,9,10] [] false (oD (dI q17)<|z<|oB 0 h9 k))
 obtain⟨r10,h11,h⟩:=zC h
 obtain⟨r12,h13,h⟩:=zC h
 have k:=oC 2 [0,1,2,3,4,5,6,7] (aL h13)<|oC 3 [1,2,3] (zXJ h11)<|oB 0 h9 k
 obtain⟨h14,h⟩|⟨h14,h⟩:=spl h
 cases h
 exact qI (tG sG 0 [(some 6,0,0),(some 7,0,0)] [0,1,2,3,4,5,6,7,9,10] [] false (oD (dI q17)<|z<|oB 2 h14 k))
 obtain⟨r15,h16,h⟩:=zC h
 obtain⟨r17,h18,h⟩:=zC h
 have k:=oC 2 [0,1,2,3,4,5,6,7] (aL h18)<|oC 3 [1,2,3] (zXJ h16)<|oB 2 h14 k
 obtain⟨h19,h⟩|⟨h19,h⟩:=spl h
 cases h
 exact qI (tG sG 0 [(some 6,0,0),(some 7,0,0)] [0,1,2,3,4,5,6,7,9,10] [] false (oD (dI q17)<|z<|oB 2 h19 k))
 obtain⟨r20,h21,h⟩:=zC h
 obtain⟨r22,h23,h⟩:=zC h
 have k:=oC 1 [0,1,2,3,4,5,6,7] (zJu h23)<|oC 1 [0,1,2,3,4,5,6,7] (zJu h21)<|oB 2 h19 k
 obtain⟨h24,h⟩|⟨h24,h⟩:=spl h
 have k:=oB 0 h24 k
 obtain⟨h25,h⟩|⟨h25,h⟩:=spl h
 cases h
 exact qI (tG sG 1 [(some 6,0,0),(some 7,0,0)] [0,1,2,3,4,5,6,7,9,10] [] false (oD (dI q17)<|z<|oB 0 h25 k))
 obtain⟨r26,h27,h⟩:=zC h
 have k:=oB 0 h24<|oB 0 h25 k
 rcases r26 with y28 | (y29|y30)
 dsimp only at h
 cases h
 exact zAI (tF sG 0 [0,1,2,3,4,5,6,7,9,10] (oD (dI y28.2.2.2.2.1)<|oD (zL y28.2.1)<|oD (zG q13)<|oD (zN y28.2.2.2.2.2.2)<|oDm q0 q1 q2 q3 q4<|oD (zG y28.1)<|oC 1 [0,1,2,3,4,5,6,7] (mU h27) k))
 dsimp only at h
 cases h
 exact qI (tF sG 0 [0,1,2,3,4,5,6,7,9,10] (oD (dI y29.2.2.2.2.1)<|oD (zL y29.2.1)<|oD (zG q13)<|oD (zN y29.2.2.2.2.2.2.2)<|oDm q0 q1 q2 q3 q4<|oD (zG y29.1)<|oC 1 [0,1,2,3,4,5,6,7] (mU h27) k))
 dsimp only at h
 cases h
 exact zFu (tF sG 0 [0,1,2,3,4,5,6,7,9,10] (oD (dI y30.2.2.1)<|oD (zL y30.2.1)<|oD (zG q13)<|oD (zN y30.2.2.2.2.2)<|oDm q0 q1 q2 q3 q4<|oD (zG y30.1)<|oC 1 [0,1,2,3,4,5,6,7] (mU h27) k))
 have k:=oB 0 h24<|oB 0 h24 k
 obtain⟨h31,h⟩|⟨h31,h⟩:=spl h
 obtain⟨r32,h33,h⟩:=zC h
 have k:=oB 0 h31 k
 rcases r32 with y34 | (y35|y36)
 dsimp only at h
 cases h
 exact zAI (tF sG 0 [0,1,2,3,4,5,6,7,9,10] (oD (dI y34.2.2.2.2.1)<|oD (zL y34.2.1)<|oD (zG q13)<|oD (zN y34.2.2.2.2.2.2)<|oDm q0 q1 q2 q3 q4<|oD (zG y34.1)<|oC 1 [0,1,2,3,4,5,6,7] (mU h33) k))
 dsimp only at h
 cases h
 exact qI (tF sG 0 [0,1,2,3,4,5,6,7,9,10] (oD (dI y35.2.2.2.2.1)<|oD (zL y35.2.1)<|oD (zG q13)<|oD (zN y35.2.2.2.2.2.2.2)<|oDm q0 q1 q2 q3 q4<|oD (zG y35.1)<|oC 1 [0,1,2,3,4,5,6,7] (mU h33) k))
 dsimp only at h
 cases h
 exact zFu (tF sG 0 [0,1,2,3,4,5,6,7,9,10] (oD (dI y36.2.2.1)<|oD (zL y36.2.1)<|oD (zG q13)<|oD (zN y36.2.2.2.2.2)<|oDm q0 q1 q2 q3 q4<|oD (zG y36.1)<|oC 1 [0,1,2,3,4,5,6,7] (mU h33) k))
 obtain⟨r37,h38,h⟩:=zC h
 have k:=oB 0 h31 k
 rcases r37 with y39 | (y40|y41)
 dsimp only at h
 cases h
 exact qI (tG sG 0 [(some 6,0,0)] [0,1,2,3,4,5,6,7,10,9] [] false (oD (dI y39.2.2.2.2.1)<|z<|oC 1 [0,1,2,3,4,5,6,7] (zDH h38) k))
 dsimp only at h
 cases h
 exact zAI (tG sG 0 [(some 6,0,0)] [0,1,2,3,4,5,6,7,10,9] [] false (oD (dI y40.2.2.2.2.1)<|z<|oC 1 [0,1,2,3,4,5,6,7] (zDH h38) k))
 dsimp only at h
 cases h
 exact zOY (tG sG 0 [(some 6,0,0)] [0,1,2,3,4,5,6,7,9,11,10] [] false (oD (dI y41.2.1)<|oD (zL q14)<|oD (zN y41.1)<|oD (zG q13)<|oD (zN q8)<|oDm q0 q1 q2 q3 q4<|oD (zG q7)<|oC 1 [0,1,2,3,4,5,6,7] (zDH h38) k))
abbrev NxT:=(List zF×List zD×Nat×Nat×Nat×List zI×Nat×Nat×List Int×Bool×Int×Int×Int) ⊕ ((List zF×List zD×Nat×Nat×Nat×List zI×Nat×Nat×List Int×Int×Int×Int) ⊕ ((List zF×List zD×Nat×Nat×Nat×List zI×List Int×Bool×Int×Int×Int) ⊕ (List zF×List zD×List zI×Nat×Nat×List Int×Bool×Int×Int×Int×List zD)))
inductive NxR (l:List Ent) (c:List zF) (q8:List zD) (q9 q10:Nat) (so:List zI) (q15 q16:Nat) (q17:List Int) (q18:Bool) (L U:Int):NxT->Prop
 |err {c' q8' n o k so' a b s no e fl fu}:e≠0->NxR l c q8 q9 q10 so q15 q16 q17 q18 L U (.inl (c',q8',n,o,k,so',a,b,s,no,e,fl,fu))
 |no {c' q8' n o k so' a b s fl fu}:s.length=q17.length+1->0≤fl∧0≤fu∧fl+fu=L+U->Un l c ((q8.drop q10).take q9) so none->NxR l c q8 q9 q10 so q15 q16 q17 q18 L U (.inr (.inl (c',q8',n,o,k,so',a,b,s,0,fl,fu)))
 |sol {d row k so' n t s e fl fu}:s.length=q17.length+1->0≤fl->fl<L->0≤fu->fl+fu=L+U->row.length=q8.length->(∀x∈row,x.a_.Ok∧x.b_.Ok)->so'.length=so.length->(∀x∈so',x.t_.Ok)->zIL c n t d->t.Ok ->
   (e=0->(∀x∈(row.drop (q10+1)).take (q9-1),zM x.a_=true∧zM x.b_=true)∧∀r,Un l d ((row.drop (q10+1)).take (q9-1)) (so'++[⟨n,t⟩]) r->Un l c ((q8.drop q10).take q9) so r)->NxR l c q8 q9 q10 so q15 q16 q17 q18 L U (.inr (.inr (.inl (d,row,q9-1,q10+1,k,so'++[⟨n,t⟩],s,q18,e,fl,fu))))
 |inj {td s fl fu}:s.length=q17.length+1->0≤fl->fl<L->0≤fu->fl+fu=L+U->td.length≤q9+8192->(∀x∈td,zM x.a_=true∧zM x.b_=true) ->
   (∀r,Un l c td so r->Un l c ((q8.drop q10).take q9) so r)->NxR l c q8 q9 q10 so q15 q16 q17 q18 L U (.inr (.inr (.inr (c,td,so,q15,q16,s,q18,0,fl,fu,q8))))
theorem zOZ{N:ByteArray->Bool}{l:List Ent}(hE:wN N l)(he:∀e∈l,EOk e)(hl:l.length≤65535)(hc:∀e∈l,ECl e)(L U:Int)(c:List zF)(q8:List zD)(q9 q10 q11:Nat)(q12:Bool)(q13:List zF)(so:List zI)(q15 q16:Nat)(q17:List Int)(q18:Bool)
  (h0:0≤L) (h1:0≤U) (h2:L+U≤1099511627776) (hpos:1≤q9) (hb:q10+q9≤q8.length) (h8:q8.length≤1048576000) (hok8:∀x∈q8,x.a_.Ok∧x.b_.Ok) (hok:∀x∈(q8.drop q10).take q9,zM x.a_=true∧zM x.b_=true) (hso:so.length=q15) (hso2:so.length≤1048576) (hsok:∀x∈so,x.t_.Ok) (hst:q17.length≤1048576) (hcl:c.length≤524288) (hco:∀v∈c,v.type_.Ok) :
  Tot (fun q=>aO q l l (evA l l.length 0) (l.map xK) (l.map sF) L U c q8 q9 q10 q11 q12 q13 so q15 q16 q17 q18 0) (NxR l c q8 q9 q10 so q15 q16 q17 q18 L U):=by
 obtain⟨eq,heq⟩:∃x,q8[q10]? = some x:=⟨_,List.getElem?_eq_getElem (by omega)⟩
 have htd:(q8.drop q10).take q9=eq::(q8.drop (q10+1)).take (q9-1):=by
  obtain⟨m,rfl⟩:∃m,q9=m+1:=⟨q9-1,by omega⟩
  obtain⟨g1,g2⟩:=List.getElem?_eq_some_iff.1 heq
  rw[List.drop_eq_getElem_cons g1,g2,List.take_succ_cons];rfl
 have hsh:=hok eq (by rw[htd];exact List.mem_cons_self ..)
 have hrest:∀x∈(q8.drop (q10+1)).take (q9-1),zM x.a_=true∧zM x.b_=true:=fun x hx=>hok x (by rw[htd];exact List.mem_cons_of_mem _ hx)
 simp only[aO]
 refine Tot.pure (a:=0) (oH (v:=0) hpos) (Tot.pure (a:=eq) (tP (i:=q10+0) heq) (Tot.pure (a:=(1,q9-1)) (iQ (a:=1) hpos (Nat.le_refl _)) (Tot.bind (P:=fun r=>r=if 1≤L then((0:Int),L-1,U+1)else(8,L,U)) ((bW L U h0 h1 h2).tot rfl) fun r7 h7=>?_)))
 by_cases hL:1≤L
 ·rw[if_pos hL]at h7
  subst h7
  refine Tot.ite (fun h=>by cases h) fun _=>(zDJ hE he (zY hsh.1) (L-1) (U+1) (by omega) (by omega) (by omega)).bind fun r10 h10=>(iS l l _ _ _ _ _ c q8 _ _ _ q12 q13 so q15 q16 q17 q18 0 r10.1 r10.2.1).bind fun r12 h12=>?_
  have e12:=h12.2.2 rfl
  refine Tot.ite (fun h=>Tot.ret (.err (by simpa using h))) fun h=>?_
  have z12:r12.2=0:=by simpa using h
  obtain⟨k,k0,k1,hbr,hf1,hf2⟩:=h10 (by rw[←e12];exact z12)
  rw[z12,hf1,hf2,h12.1]
  have sa:=hbr.shaped hsh.1 rfl
  refine(zDJ hE he (zY hsh.2) (L-1-k) (U+1+k) (by omega) (by omega) (by omega)).bind fun r15 h15=>(iS l l _ _ _ _ _ c q8 _ _ _ q12 q13 so q15 q16 q17 q18 0 r15.1 r15.2.1).bind fun r17 h17=>?_
  have e17:=h17.2.2 rfl
  refine Tot.ite (fun h=>Tot.ret (.err (by simpa using h))) fun h=>?_
  have z17:r17.2=0:=by simpa using h
  obtain⟨j,j0,j1,hbs,hg1,hg2⟩:=h15 (by rw[←e17];exact z17)
  rw[z17,hg1,hg2,h17.1]
  have sb:=hbs.shaped hsh.2 rfl
  have fin:∀(n:Int) (t:Tm),zIM l c eq n t->zM t=true->∀x,zZU l c q8 (q9-1) (q10+1) so q15 q16 q17 q18 n t x->NxR l c q8 q9 q10 so q15 q16 q17 q18 L U (match x with
    | .inl y=>.inr (.inl (y.1,y.2.2.2.2.2.2,q9-1,q10+1,q11-1,y.2.1,y.2.2.1,y.2.2.2.1,y.2.2.2.2.1,y.2.2.2.2.2.1,L-1-k-j,U+1+k+j))
    | .inr (.inl y)=>.inl (y.1,y.2.2.2.2.2.2.2,q9-1,q10+1,q11-1,y.2.1,y.2.2.1,y.2.2.2.1,y.2.2.2.2.1,y.2.2.2.2.2.1,y.2.2.2.2.2.2.1,L-1-k-j,U+1+k+j)
    | .inr (.inr y)=>.inr (.inr (.inl (y.1,y.2.2.2.2.2,q9-1,q10+1,q11-1,y.2.1,y.2.2.1,y.2.2.2.1,y.2.2.2.2.1,L-1-k-j,U+1+k+j)))):=by
   intro n t hv hst' x hx
   rcases hx with⟨rfl,hB⟩|⟨e,e0,rfl⟩|⟨d,row,so',e,rfl,g1,g2,g3,g4,g5,g6,g7⟩
   ·exact .no (by simp) ⟨by show (0:Int)≤L-1-k-j;omega,by show (0:Int)≤U+1+k+j;omega,by show L-1-k-j+(U+1+k+j)=L+U;omega⟩ (by rw[htd];exact .cyc hv hB)
   ·exact .err e0
   ·refine .sol (by simp) (by omega) (by omega) (by omega) (by omega) g1 g2 g3 g4 g6 (zY hst') fun e0=>?_
    obtain⟨p1,p2,p3,p4⟩:=g7 e0
    refine⟨fun x hx=>?_,fun r hr=>?_⟩
    ·rw[p2]at hx
     obtain⟨z,hz,rfl⟩:=List.mem_map.1 hx
     exact p3 z hz
    rw[htd]
    exact .sol hv g5 g6 p3 p4 (by rw[←p2,←p1];exact hr)
  refine(zJt l l _ _ _ _ _ hcl hco q8 _ _ _ q12 q13 so q15 q16 q17 q18 0 r10.1).bind fun r20 h20=>(zJt l l _ _ _ _ _ hcl hco q8 _ _ _ q12 q13 so q15 q16 q17 q18 0 r15.1).bind fun r22 h22=>Tot.ite (fun hp=>Tot.ite (fun _=>Tot.ret (.err (by decide))) fun _=>?_) fun _=>Tot.ite (fun hp=>?_) fun _=>?_
  ·obtain⟨v1,v2,v3⟩:=h20 (of_decide_eq_true hp)
   refine(zDa hE (L-1-k-j) (U+1+k+j) c q8 (q9-1) (q10+1) (q11-1) q12 q13 so q15 q16 q17 q18 r20 r15.1 (by omega) (by omega) hok8 hso hso2 hsok (by omega) hcl hco sb).bind fun x hx=>?_
   have:=fin r20 r15.1 ⟨r10.1,r15.1,k,j,hbr,hbs,v3,.inl ⟨v1,v2,rfl⟩⟩ sb x hx
   rcases x with y|y|y<;>exact Tot.ret this
  ·obtain⟨v1,v2,v3⟩:=h22 (of_decide_eq_true hp)
   refine(zDa hE (L-1-k-j) (U+1+k+j) c q8 (q9-1) (q10+1) (q11-1) q12 q13 so q15 q16 q17 q18 r22 r10.1 (by omega) (by omega) hok8 hso hso2 hsok (by omega) hcl hco sa).bind fun x hx=>?_
   have:=fin r22 r10.1 ⟨r10.1,r15.1,k,j,hbr,hbs,v3,.inr ⟨v1,v2,rfl⟩⟩ sa x hx
   rcases x with y|y|y<;>exact Tot.ret this
  ·refine(zLv hE he hl hc sa sb (L-1-k-j) (U+1+k+j) c q8 (q9-1) (q10+1) (q11-1) q12 q13 so q15 q16 q17 q18 (by omega) (by omega) (by omega) (by omega) h8 (by omega)).bind fun x hx=>?_
   rcases hx with⟨e,fl,fu,e0,rfl⟩|⟨rfl,ca,cb,hn⟩|⟨fl,fu,f0,f1,f2,f3,rfl,ca,cb,hn,hp⟩
   ·exact Tot.ret (.err e0)
   ·exact Tot.ret (.no (by simp) ⟨by show (0:Int)≤L-1-k-j;omega,by show (0:Int)≤U+1+k+j;omega,by show L-1-k-j+(U+1+k+j)=L+U;omega⟩ (by rw[htd];exact .conf hbr hbs ca cb hn))
   ·refine Tot.ret (.inj (fl:=fl) (fu:=fu) (by simp) f0 (by omega) f2 (by omega) ?_ (fun x hx=>?_) fun r hr=>?_)
    ·have:=tM r10.1 (zQ sa).2.2
     have:=(zQ sa).1
     unfold uK rZ
     simp
     omega
    ·rcases List.mem_append.1 hx with hx|hx
     ·have hm:=zDo hx
      exact⟨yR sa (List.mem_of_mem_drop hm.1),yR sb (List.mem_of_mem_drop hm.2)⟩
     ·exact hrest x hx
    ·rw[htd]
     exact .inj hbr hbs ca cb hn hp hr
 ·rw[if_neg hL]at h7
  subst h7
  exact Tot.ite (fun _=>Tot.ret (.err (by show (8:Int)≠0;decide))) fun h=>by cases h
def e97(qq:Nat)(M:xB)(p1:Tm):Option Bool:=
 zLz qq M>>=fun r1=>
 zFL qq p1 0 r1>>=fun r3=>
 some r3
theorem c97{qq M p1 r}(h:e97 qq M p1=some r):Ct 97 [mB M 1,mR M] [.mp 0 0,tmA p1] (ab r) [mB M 1,mR M] 0:=⟨by
 unfold e97 at h
 obtain⟨r1,h2,h⟩:=zC h
 obtain⟨r3,h4,h⟩:=zC h
 obtain rfl:=sj h
 exact tF ⟨Tryz.func97,rfl⟩ 0 [0,1] (oDM M<|oC 0 [] (zHI h4)<|oC 1 [0,1] (zXW h2) o0),⟨(lz rfl),⟨tv,tv,⟨tv,dT _⟩,tv⟩,tv⟩,(fMa (lz rfl) zB),tv,(fMf (lz rfl) zB)⟩
def dP:Nat->xB->List zF->List Tm->List Tm->Int->Int->Int->List zD->Option ((Unit) ⊕ (List zF×List zD×List zF×List zI×List Int×Int))
 |0,_,_,_,_,_,_,_,_=>none
 |qq+1,M,p1,p2,p3,fl,fu,v49,wO=>
 if decide (v49<(p2.length:Int))then
 zR p2 v49>>=fun x12=>
 e97 qq M x12>>=fun r14=>
 if r14 then
 zR p3 v49>>=fun x17=>
 e97 qq M x17>>=fun r19=>
 if r19 then
 yT 80 wO [(zD.mk x12 x17)]>>=fun l22=>
 dP qq M p1 p2 p3 fl fu (w64 (v49+1)) l22
 else
 some (.inl ())
 else
 some (.inl ())
 else
 some (.inr (p1,wO,([]:List zF),([]:List zI),([]:List Int),0))
def dQ:Nat->xB->List zF->List Tm->List Tm->Int->Int->Int->Option ((Unit) ⊕ (List zF×List zD×List zF×List zI×List Int×Int))
 |0,_,_,_,_,_,_,_=>none
 |qq+1,M,p1,p2,p3,fl,fu,v32=>
 if decide (v32<(p1.length:Int))then
 zR p1 v32>>=fun x6=>
 e97 qq M x6.type_>>=fun r8=>
 if r8 then
 dQ qq M p1 p2 p3 fl fu (w64 (v32+1))
 else
 some (.inl ())
 else
 dP qq M p1 p2 p3 fl fu 0 ([]:List zD)
def e64(qq:Nat)(M:xB)(p1:List zF)(p2 p3:List Tm)(fl fu:Int):Option ((Unit) ⊕ (List zF×List zD×List zF×List zI×List Int×Int)):=
 e96 qq p1>>=fun r1=>
 if r1 then
 if (p2.length:Int) != (p3.length:Int)then
 some (.inl ())
 else
 dQ qq M p1 p2 p3 fl fu 0
 else
 some (.inl ())
abbrev zSM (M:xB) (p1:List zF) (p2 p3:List Tm) (fl fu:Int) (C:Cf):Prop:=C 64 [mB M 1,mR M,.cells [ai fl,ai fu]] [.mp 0 0,slv zK p1 .no,slv zH p2 .no,slv zH p3 .no,.mp 2 0] (.tup [.val (.pointer none),ab false]) [mB M 1,mR M,.cells [ai fl,ai fu]] 0
abbrev zSN (M:xB) (p1:List zF) (p2 p3:List Tm) (fl fu:Int) (r:List zF×List zD×List zF×List zI×List Int×Int) (C:Cf):Prop:=C 64 [mB M 1,mR M,.cells [ai fl,ai fu]] [.mp 0 0,slv zK p1 .no,slv zH p2 .no,slv zH p3 .no,.mp 2 0] (.tup [.mp 3 0,ab true]) [mB M 1,mR M,.cells [ai fl,ai fu],.cells [.mp 0 0,.mp 2 0,slv zK r.1 .no,.ms 4 0 r.2.1.length r.2.1.length 6,ab false,.ms 5 0 r.2.2.1.length r.2.2.1.length 4,.ms 6 0 r.2.2.2.1.length r.2.2.2.1.length 4,.ms 7 0 r.2.2.2.2.1.length r.2.2.2.2.1.length 1,ab false,ai r.2.2.2.2.2],.row (zJ zO r.2.1),.row (zJ zK r.2.2.1),.row (zJ zP r.2.2.2.1),.row (zJ zV r.2.2.2.2.1)] 0
theorem q64:Qf 64 Tryz.f64:=⟨Tryz.func64,rfl⟩
theorem zSO{M p1 p2 p3 fl fu}(h:zSM M p1 p2 p3 fl fu Ci):zSM M p1 p2 p3 fl fu Ct:=⟨h,⟨(lz rfl),⟨tv,zG _⟩,⟨tv,dT _⟩,⟨tv,dT _⟩,(lz rfl),tv⟩,(fMa (lz rfl) (zA ⟨tv,tv,tv⟩ zB)),⟨tv,tv,tv⟩,(fMf (lz rfl) (zA ⟨tv,tv,tv⟩ zB))⟩
theorem yAu{M p1 p2 p3 fl fu r}(h:zSN M p1 p2 p3 fl fu r Ci):zSN M p1 p2 p3 fl fu r Ct:=⟨h,⟨(lz rfl),⟨tv,zG _⟩,⟨tv,dT _⟩,⟨tv,dT _⟩,(lz rfl),tv⟩,(fMa (lz rfl) (zA ⟨tv,tv,tv⟩ zB)),⟨(lz rfl),tv,tv⟩,(fMf (lz rfl) (zA ⟨tv,tv,tv⟩ (zA ⟨(lz rfl),(lz rfl),zG _,(lz rfl),tv,(lz rfl),(lz rfl),(lz rfl),tv,tv,tv⟩ (zA (zN _) (zA (zG _) (zA (zL _) (zA (dI _) zB)))))))⟩
theorem zYz:∀qq:Nat,(∀M p1 p2 p3 fl fu v49 wO r,dP qq M p1 p2 p3 fl fu v49 wO=some r->(∀j,dL 3 (inn (inn (rgt (lft (rgt (rgt (rgt (rgt (bod Tryz.f64))))))))) (sp j 88 0 [(0,.mp 0 0),(2,slv zH p2 .no),(3,slv zH p3 .no),(14,.mp 3 0),(48,ai (p2.length:Int)),(49,ai v49)]) (⟨[(0,mB M 1),(1,mR M),(2,.cells [ai fl,ai fu]),(3,.cells [.mp 0 0,.mp 2 0,slv zK p1 .no,.ms 4 0 wO.length wO.length 6,ab false,.ms 5 0 (List.length ([]:List zF)) (List.length ([]:List zF)) 4,.ms 6 0 (List.length ([]:List zI)) (List.length ([]:List zI)) 4,.ms 7 0 (List.length ([]:List Int)) (List.length ([]:List Int)) 1,ab false,ai 0]),(4,.row (zJ zO wO)),(5,.row (zJ zK ([]:List zF))),(6,.row (zJ zP ([]:List zI))),(7,.row (zJ zV ([]:List Int)))],8,[],0,[]⟩) (fQ 3 ((match (generalizing:=false) r with | .inl x=>nQ 3 Tryz.f64 (.tup [.val (.pointer none),ab false]) [mB M 1,mR M,.cells [ai fl,ai fu]] 0 | .inr x=>nQ 3 Tryz.f64 (.tup [.mp 3 0,ab true]) [mB M 1,mR M,.cells [ai fl,ai fu],.cells [.mp 0 0,.mp 2 0,slv zK x.1 .no,.ms 4 0 x.2.1.length x.2.1.length 6,ab false,.ms 5 0 x.2.2.1.length x.2.2.1.length 4,.ms 6 0 x.2.2.2.1.length x.2.2.2.1.length 4,.ms 7 0 x.2.2.2.2.1.length x.2.2.2.2.1.length 1,ab false,ai x.2.2.2.2.2],.row (zJ zO x.2.1),.row (zJ zK x.2.2.1),.row (zJ zP x.2.2.2.1),.row (zJ zV x.2.2.2.2.1)] 0)) [.blk 2,.seq (rgt (rgt (rgt (rgt (rgt (bod Tryz.f64))))))]))):=by
 intro qq
 induction qq with
 |zero=>
  exact fun _ _ _ _ _ _ _ _ _ h=>nn h
 |succ qq ih=>
  intro M p1 p2 p3 fl fu v49 wO r h
  rw[dP]at h
  obtain⟨h11,h⟩|⟨h11,h⟩:=spl h
  obtain⟨x12,h13,h⟩:=zC h
  obtain⟨r14,h15,h⟩:=zC h
  have k:=oA 0 (xA (o:=.no) h13)<|oB 0 h11 o0
  obtain⟨h16,h⟩|⟨h16,h⟩:=spl h
  obtain⟨x17,h18,h⟩:=zC h
  obtain⟨r19,h20,h⟩:=zC h
  have k:=oA 1 (xA (o:=.no) h18)<|oK 1 [0,1] h16 (c97 h15) k
  obtain⟨h21,h⟩|⟨h21,h⟩:=spl h
  obtain⟨l22,h23,h⟩:=zC h
  exact fun j=>lH 2 [] [0,1,2,3,8,5,6,7] [] [0,2,3,14,48,49] (oD (dT p3)<|oD (dT p2)<|oD (dI ([]:List Int))<|oD (zL ([]:List zI))<|oD (zG ([]:List zF))<|oD (zN l22)<|oD (zG p1)<|oDM M<|oM 2 (zPW h23 (by simp))<|oA 1 (xA (o:=.no) h18)<|oA 2 (xA (o:=.no) h13)<|oK 1 [0,1] h21 (c97 h20) k) (ih _ _ _ _ _ _ _ _ _ h)
  cases h
  exact fun j=>lF 1 [0,1,2] (oDM M<|oK 1 [0,1] h21 (c97 h20) k)
  cases h
  exact fun j=>lF 1 [0,1,2] (oDM M<|oK 1 [0,1] h16 (c97 h15) k)
  cases h
  exact fun j=>lF 0 [0,1,2,3,4,5,6,7] (oD (dI ([]:List Int))<|oD (zL ([]:List zI))<|oD (zG ([]:List zF))<|oD (zN wO)<|oD (zG p1)<|oDM M<|oB 0 h11 o0)
theorem zSP:∀qq:Nat,(∀M p1 p2 p3 fl fu v32 r,dQ qq M p1 p2 p3 fl fu v32=some r->(∀j,dL 3 (inn (inn (rgt (lft (rgt (rgt (bod Tryz.f64))))))) (sp j 88 0 [(0,.mp 0 0),(1,slv zK p1 .no),(2,slv zH p2 .no),(3,slv zH p3 .no),(4,.mp 2 0),(30,slv zK p1 .no),(31,ai (p1.length:Int)),(32,ai v32)]) (⟨[(0,mB M 1),(1,mR M),(2,.cells [ai fl,ai fu])],3,[],0,[]⟩) (fQ 3 ((match (generalizing:=false) r with | .inl x=>nQ 3 Tryz.f64 (.tup [.val (.pointer none),ab false]) [mB M 1,mR M,.cells [ai fl,ai fu]] 0 | .inr x=>nQ 3 Tryz.f64 (.tup [.mp 3 0,ab true]) [mB M 1,mR M,.cells [ai fl,ai fu],.cells [.mp 0 0,.mp 2 0,slv zK x.1 .no,.ms 4 0 x.2.1.length x.2.1.length 6,ab false,.ms 5 0 x.2.2.1.length x.2.2.1.length 4,.ms 6 0 x.2.2.2.1.length x.2.2.2.1.length 4,.ms 7 0 x.2.2.2.2.1.length x.2.2.2.2.1.length 1,ab false,ai x.2.2.2.2.2],.row (zJ zO x.2.1),.row (zJ zK x.2.2.1),.row (zJ zP x.2.2.2.1),.row (zJ zV x.2.2.2.2.1)] 0)) [.blk 0,.seq (rgt (rgt (rgt (bod Tryz.f64))))]))):=by
 intro qq
 induction qq with
 |zero=>
  exact fun _ _ _ _ _ _ _ _ h=>nn h
 |succ qq ih=>
  intro M p1 p2 p3 fl fu v32 r h
  rw[dQ]at h
  obtain⟨h5,h⟩|⟨h5,h⟩:=spl h
  obtain⟨x6,h7,h⟩:=zC h
  obtain⟨r8,h9,h⟩:=zC h
  have k:=oA 0 (zFJ (o:=.no) h7)<|oB 0 h5 o0
  obtain⟨h10,h⟩|⟨h10,h⟩:=spl h
  exact fun j=>lH 2 [] [0,1,2] [] [0,1,2,3,4,30,31,32] (oD (zG p1)<|oD (dT p3)<|oD (dT p2)<|oD (zG p1)<|oDM M<|oK 3 [0,1] h10 (c97 h9) k) (ih _ _ _ _ _ _ _ _ h)
  cases h
  exact fun j=>lF 1 [0,1,2] (oDM M<|oK 3 [0,1] h10 (c97 h9) k)
  exact fun j=>lH 1 [(some 3,3,4102),(some 3,5,4100),(some 3,6,4100),(some 3,7,4097)] [0,1,2,3,4,5,6,7] [] [0,2,3,14,48,49] (oD (dT p3)<|oD (dT p2)<|oD (dI ([]:List Int))<|oD (zL ([]:List zI))<|oD (zG ([]:List zF))<|oD (zN ([]:List zD))<|oD (zG p1)<|oDM M<|oB 0 h5 o0) (zYz _ _ _ _ _ _ _ _ _ _ h)
theorem c64{qq M p1 p2 p3 fl fu r}(h:e64 qq M p1 p2 p3 fl fu=some r):(match (generalizing:=false) r with | .inl x=>zSM M p1 p2 p3 fl fu Ct | .inr x=>zSN M p1 p2 p3 fl fu x Ct):=by
 unfold e64 at h
 have z {os ob} (k:Oz os ob):=oD (zG p1)<|oD (dT p3)<|oD (dT p2)<|oD (zG p1)<|oDM M<|k
 obtain⟨r1,h2,h⟩:=zC h
 obtain⟨h3,h⟩|⟨h3,h⟩:=spl h
 have k:=oK 1 [] h3 (c96 h2) o0
 obtain⟨h4,h⟩|⟨h4,h⟩:=spl h
 cases h
 exact zSO (tF q64 0 [0,1,2] (oDM M<|oB 3 h4 k))
 rcases r with y0|y1
 exact zSO (tH q64 1 [] [0,1,2] [] [0,1,2,3,4,30,31,32] (z<|oB 3 h4 k) (zSP _ _ _ _ _ _ _ _ _ h))
 exact yAu (tH q64 1 [] [0,1,2] [] [0,1,2,3,4,30,31,32] (z<|oB 3 h4 k) (zSP _ _ _ _ _ _ _ _ _ h))
 cases h
 exact zSO (tF q64 1 [0,1,2] (oDM M<|oK 1 [] h3 (c96 h2) o0))
theorem zDK(l:List Ent)(t:Tm)(ht:t.Ok):Tot (fun q=>e97 q (xY l) t) fun b=>b=true->uB l t:=by
 simp only[e97]
 have hLen:Evt (fun q=>zLz q (xY l)) (l.length:Int):=Evt.mk fun _=>rfl
 refine Tot.bind (P:=fun k=>k=(l.length:Int)) (hLen.tot rfl) fun k hk=>?_
 subst hk
 exact Tot.bind (P:=fun b=>b=sN t 0 l.length) ((iC t _ _ ht).tot rfl) fun b hb=>Tot.ret fun h=>by
  rw[hb]at h;exact h
theorem zDL(l:List Ent)(c:List zF)(A B:List Tm)(hA:∀x∈A,x.Ok)(hB:∀x∈B,x.Ok)(hn:A.length=B.length)(hl:A.length≤1048576)(fl fu:Int):∀(k v:Nat) (td:List zD),v+k=A.length->td=(uK A B).take v->(∀e∈td,uB l e.a_∧uB l e.b_) ->
  Tot (fun q=>dP q (xY l) c A B fl fu (v:Int) td) fun x=>∀y,x = .inr y->y=(c,uK A B,[],[],[],0)∧∀e∈uK A B,uB l e.a_∧uB l e.b_
 |0,v,td,hv,ht,hm=>by
  have hz:(uK A B).length=A.length:=by unfold uK;rw[List.length_zipWith];omega
  have e:td=uK A B:=by rw[ht,List.take_of_length_le (by omega)]
  refine Tot.succ ?_
  simp only[dP]
  refine Tot.ite (fun h=>absurd (of_decide_eq_true h) (by omega)) fun _=>Tot.ret fun y hy=>?_
  cases hy
  exact⟨by rw[e],by rw[←e];exact hm⟩
 |k+1,v,td,hv,ht,hm=>by
  have hva:v<A.length:=by omega
  obtain⟨x,hx⟩:∃x,A[v]? = some x:=⟨_,List.getElem?_eq_getElem hva⟩
  obtain⟨y,hy⟩:∃y,B[v]? = some y:=⟨_,List.getElem?_eq_getElem (by omega)⟩
  have htl:td.length≤1048576:=by rw[ht,List.length_take];omega
  refine Tot.succ ?_
  simp only[dP]
  refine Tot.ite (fun _=>Tot.pure (tP hx) ((zDK l x (hA x (List.mem_of_getElem? hx))).bind fun b hb=>Tot.ite (fun h1=>Tot.pure (tP hy) ((zDK l y (hB y (List.mem_of_getElem? hy))).bind fun b2 hb2=>Tot.ite (fun h2=>Tot.pure (yG (by simp;omega)) ?_) fun _=>Tot.ret fun z hz=>by cases hz)) fun _=>Tot.ret fun z hz=>by cases hz)) fun h=>absurd (of_decide_eq_false h) (by omega)
  rw[zU v (by omega)]
  refine zDL l c A B hA hB hn hl fl fu k (v+1) _ (by omega) (by rw[zLw hx hy,ht]) fun e he=>?_
  rcases List.mem_append.1 he with he|he
  ·exact hm e he
  ·rw[List.mem_singleton.1 he];exact⟨hb h1,hb2 h2⟩
theorem zDM(l:List Ent)(c:List zF)(A B:List Tm)(hA:∀x∈A,x.Ok)(hB:∀x∈B,x.Ok)(hn:A.length=B.length)(hl:A.length≤1048576)(hcl:c.length≤1048576)(hco:∀v∈c,v.type_.Ok)(fl fu:Int):∀(r:List zF) (v:Nat),c.drop v=r->(∀w∈c.take v,uB l w.type_) ->
  Tot (fun q=>dQ q (xY l) c A B fl fu (v:Int)) fun x=>∀y,x = .inr y->(y=(c,uK A B,[],[],[],0)∧∀e∈uK A B,uB l e.a_∧uB l e.b_)∧∀w∈c,uB l w.type_
 | [],v,hd,hm=>by
  refine Tot.succ ?_
  simp only[dQ]
  refine Tot.ite (fun h=>?_) fun _=>(zDL l c A B hA hB hn hl fl fu A.length 0 [] (by omega) rfl (fun e he=>by simp at he)).mono fun x hx y hy=>⟨hx y hy,fun w hw=>hm w ?_⟩
  ·rw[yC hd]at h;cases h
  ·rwa[List.take_of_length_le (List.drop_eq_nil_iff.1 hd)]
 |x::r,v,hd,hm=>by
  have hlt:=yE hd
  have hx:x∈c:=List.mem_of_mem_drop (by rw[hd];simp)
  refine Tot.succ ?_
  simp only[dQ]
  refine Tot.ite (fun _=>Tot.pure (zX hd) ((zDK l x.type_ (hco x hx)).bind fun b hb=>Tot.ite (fun h1=>?_) fun _=>Tot.ret fun z hz=>by cases hz)) fun h=>?_
  ·rw[zU v (by omega)]
   refine zDM l c A B hA hB hn hl hcl hco fl fu r (v+1) (zS hd) fun w hw=>?_
   rw[qH hd]at hw
   rcases List.mem_append.1 hw with hw|hw
   ·exact hm w hw
   ·rw[List.mem_singleton.1 hw];exact hb h1
  ·rw[yB hd]at h;cases h
theorem zLu(l:List Ent)(c:List zF)(A B:List Tm)(hA:∀x∈A,x.Ok)(hB:∀x∈B,x.Ok)(hl:A.length≤1048576)(hcl:c.length≤1048576)(hco:∀v∈c,v.type_.Ok)(fl fu:Int) :
  Tot (fun q=>e64 q (xY l) c A B fl fu) fun x=>∀y,x = .inr y->zIK c∧A.length=B.length∧(y=(c,uK A B,[],[],[],0)∧∀e∈uK A B,uB l e.a_∧uB l e.b_)∧∀w∈c,uB l w.type_:=by
 simp only[e64]
 refine(fX (by omega) hco).bind fun b hb=>Tot.ite (fun h1=>Tot.ite (fun _=>Tot.ret fun z hz=>by cases hz) fun h2=>?_) fun _=>Tot.ret fun z hz=>by cases hz
 have hn:A.length=B.length:=by have:=(by simpa using h2:(A.length:Int)=B.length);omega
 exact(zDM l c A B hA hB hn hl hcl hco fl fu c 0 rfl (fun w hw=>by simp at hw)).mono fun x hx y hy=>⟨hb h1,hn,hx y hy⟩
def dU:Nat->xB->List Int->Int->Int->List zF->Nat->Nat->Nat->Nat->Nat->Bool->Int->List zD->List zF->Int->List zI->Option ((yA×Int×Int×Int) ⊕ ((List Int×List zF×List zI×Int×Int×Int) ⊕ (List zF×List zI×List Int×Nat×Int×Int×Int)))
 |0,_,_,_,_,_,_,_,_,_,_,_,_,_,_,_,_=>none
 |qq+1,M,xC,xI,wK,xH,vF,wX,vG,wB,xT,sC,uT,xW,vW,v109,aP=>
 if decide (v109<(xT:Int))then
 lO xT v109>>=fun x28=>
 zR aP (x28:Int)>>=fun x30=>
 e53 qq x30.t_>>=fun r32=>
 zR aP (x28:Int)>>=fun x34=>
 zAv aP x28 (zI.mk x34.n_ r32)>>=fun l36=>
 dU qq M xC xI wK xH vF wX vG wB xT sC uT xW vW (w64 (v109+1)) l36
 else
 gfz vW.length vW>>=fun l38=>
 gfz xT aP>>=fun l40=>
 gfz xC.length xC>>=fun l42=>
 some (.inr (.inr (l38,l40,l42,wB,0,xI,wK)))
def iZ:Nat->xB->List zI->List Int->Int->Int->List zF->Nat->Nat->Nat->Nat->Nat->Bool->Int->List zD->Int->List zF->Option ((yA×Int×Int×Int) ⊕ ((List Int×List zF×List zI×Int×Int×Int) ⊕ (List zF×List zI×List Int×Nat×Int×Int×Int)))
 |0,_,_,_,_,_,_,_,_,_,_,_,_,_,_,_,_=>none
 |qq+1,M,sD,xC,xI,wK,xH,vF,wX,vG,wB,xT,sC,uT,xW,v81,vW=>
 if decide (v81<(xH.length:Int))then
 zR xH v81>>=fun x21=>
 e53 qq x21.type_>>=fun r23=>
 yT 48 vW [(zF.mk x21.n_ r23)]>>=fun l25=>
 iZ qq M sD xC xI wK xH vF wX vG wB xT sC uT xW (w64 (v81+1)) l25
 else
 dU qq M xC xI wK xH vF wX vG wB xT sC uT xW vW 0 sD
def qJ:Nat->xB->(List zF×List zD×List zF×List zI×List Int×Int)->List zI->List Int->Int->Int->List zF->Nat->Nat->Nat->Nat->Nat->Bool->Int->List zD->Option ((yA×Int×Int×Int) ⊕ ((List Int×List zF×List zI×Int×Int×Int) ⊕ (List zF×List zI×List Int×Nat×Int×Int×Int)))
 |0,_,_,_,_,_,_,_,_,_,_,_,_,_,_,_=>none
 |qq+1,M,y3,sD,xC,xI,wK,xH,vF,wX,vG,wB,xT,sC,uT,xW=>
 if decide ((wX:Int)>0)then
 if uT==0 then
 if sC then
 if uT != 0 then
 some (.inl ((yA.mk false [] [] []),uT,xI,wK))
 else
 gfz xC.length xC>>=fun l8=>
 some (.inr (.inl (l8,[],[],0,xI,wK)))
 else
 aO qq M.l M.rl M.parts M.args M.own xI wK xH xW wX vG vF false y3.2.2.1 sD xT wB xC sC uT>>=fun r10=>
 match r10 with
 | .inl y12=>
  qJ qq M y3 y12.2.2.2.2.2.1 y12.2.2.2.2.2.2.2.2.1 y12.2.2.2.2.2.2.2.2.2.2.2.1 y12.2.2.2.2.2.2.2.2.2.2.2.2 y12.1 y12.2.2.2.2.1 y12.2.2.1 y12.2.2.2.1 y12.2.2.2.2.2.2.2.1 y12.2.2.2.2.2.2.1 y12.2.2.2.2.2.2.2.2.2.1 y12.2.2.2.2.2.2.2.2.2.2.1 y12.2.1
 | .inr (.inl y13)=>
  qJ qq M y3 y13.2.2.2.2.2.1 y13.2.2.2.2.2.2.2.2.1 y13.2.2.2.2.2.2.2.2.2.2.1 y13.2.2.2.2.2.2.2.2.2.2.2 y13.1 y13.2.2.2.2.1 y13.2.2.1 y13.2.2.2.1 y13.2.2.2.2.2.2.2.1 y13.2.2.2.2.2.2.1 true y13.2.2.2.2.2.2.2.2.2.1 y13.2.1
 | .inr (.inr (.inl y14))=>
  qJ qq M y3 y14.2.2.2.2.2.1 y14.2.2.2.2.2.2.1 y14.2.2.2.2.2.2.2.2.2.1 y14.2.2.2.2.2.2.2.2.2.2 y14.1 y14.2.2.2.2.1 y14.2.2.1 y14.2.2.2.1 y14.2.2.2.2.2.1.length y14.2.2.2.2.2.1.length y14.2.2.2.2.2.2.2.1 y14.2.2.2.2.2.2.2.2.1 y14.2.1
 | .inr (.inr (.inr y15))=>
  qJ qq M y3 y15.2.2.1 y15.2.2.2.2.2.1 y15.2.2.2.2.2.2.2.2.1 y15.2.2.2.2.2.2.2.2.2.1 y15.1 y15.2.1.length y15.2.1.length 0 y15.2.2.2.2.1 y15.2.2.2.1 y15.2.2.2.2.2.2.1 y15.2.2.2.2.2.2.2.1 y15.2.1
 else
 if uT != 0 then
 some (.inl ((yA.mk false [] [] []),uT,xI,wK))
 else
 if sC then
 gfz xC.length xC>>=fun l18=>
 some (.inr (.inl (l18,[],[],0,xI,wK)))
 else
 iZ qq M sD xC xI wK xH vF wX vG wB xT sC uT xW 0 y3.2.2.1
 else
 if uT != 0 then
 some (.inl ((yA.mk false [] [] []),uT,xI,wK))
 else
 if sC then
 gfz xC.length xC>>=fun l22=>
 some (.inr (.inl (l22,[],[],0,xI,wK)))
 else
 iZ qq M sD xC xI wK xH vF wX vG wB xT sC uT xW 0 y3.2.2.1
def e34(qq:Nat)(M:xB)(p1:List zF)(p2 p3:List Tm)(fl fu:Int):Option ((yA×Int×Int×Int) ⊕ ((List Int×List zF×List zI×Int×Int×Int) ⊕ (List zF×List zI×List Int×Nat×Int×Int×Int))):=
 e64 qq M p1 p2 p3 fl fu>>=fun r1=>
 match r1 with
 | .inl y4=>
  some (.inl ((yA.mk false [] [] []),5,fl,fu))
 | .inr y3=>
  qJ qq M y3 y3.2.2.2.1 y3.2.2.2.2.1 fl fu y3.1 y3.2.1.length y3.2.1.length 0 y3.2.2.2.1.length y3.2.2.2.1.length false y3.2.2.2.2.2 y3.2.1
abbrev zSQ (M:xB) (p1:List zF) (p2 p3:List Tm) (fl fu:Int) (r:yA×Int×Int×Int) (C:Cf):Prop:=C 34 [mB M 1,mR M,.cells [ai fl,ai fu]] [.mp 0 0,slv zK p1 .no,slv zH p2 .no,slv zH p3 .no,.mp 2 0] (.tup [wG r.1,ai r.2.1]) [mB M 1,mR M,.cells [ai r.2.2.1,ai r.2.2.2]] 0
abbrev zSR (M:xB) (p1:List zF) (p2 p3:List Tm) (fl fu:Int) (r:List Int×List zF×List zI×Int×Int×Int) (C:Cf):Prop:=C 34 [mB M 1,mR M,.cells [ai fl,ai fu]] [.mp 0 0,slv zK p1 .no,slv zH p2 .no,slv zH p3 .no,.mp 2 0] (.tup [.agg [ab false,slv zK r.2.1 .no,slv zP r.2.2.1 .no,.ms 3 0 r.1.length r.1.length 1],ai r.2.2.2.1]) [mB M 1,mR M,.cells [ai r.2.2.2.2.1,ai r.2.2.2.2.2],.row (zJ zV r.1)] 0
abbrev zSS (M:xB) (p1:List zF) (p2 p3:List Tm) (fl fu:Int) (r:List zF×List zI×List Int×Nat×Int×Int×Int) (C:Cf):Prop:=C 34 [mB M 1,mR M,.cells [ai fl,ai fu]] [.mp 0 0,slv zK p1 .no,slv zH p2 .no,slv zH p3 .no,.mp 2 0] (.tup [.agg [ab true,.ms 3 0 r.1.length r.1.length 4,.ms 4 0 r.2.1.length r.2.2.2.1 4,.ms 5 0 r.2.2.1.length r.2.2.1.length 1],ai r.2.2.2.2.1]) [mB M 1,mR M,.cells [ai r.2.2.2.2.2.1,ai r.2.2.2.2.2.2],.row (zJ zK r.1),.row (zJ zP r.2.1),.row (zJ zV r.2.2.1)] 0
theorem q34:Qf 34 Tryz.f34:=⟨Tryz.func34,rfl⟩
theorem zWj{M p1 p2 p3 fl fu r}(h:zSQ M p1 p2 p3 fl fu r Ci):zSQ M p1 p2 p3 fl fu r Ct:=⟨h,⟨(lz rfl),⟨tv,zG _⟩,⟨tv,dT _⟩,⟨tv,dT _⟩,(lz rfl),tv⟩,(fMa (lz rfl) (zA ⟨tv,tv,tv⟩ zB)),⟨⟨tv,zG _,zL _,dI _,tv⟩,tv,tv⟩,(fMf (lz rfl) (zA ⟨tv,tv,tv⟩ zB))⟩
theorem yAt{M p1 p2 p3 fl fu r}(h:zSR M p1 p2 p3 fl fu r Ci):zSR M p1 p2 p3 fl fu r Ct:=⟨h,⟨(lz rfl),⟨tv,zG _⟩,⟨tv,dT _⟩,⟨tv,dT _⟩,(lz rfl),tv⟩,(fMa (lz rfl) (zA ⟨tv,tv,tv⟩ zB)),⟨⟨tv,zG _,zL _,(lz rfl),tv⟩,tv,tv⟩,(fMf (lz rfl) (zA ⟨tv,tv,tv⟩ (zA (dI _) zB)))⟩
theorem yAs{M p1 p2 p3 fl fu r}(h:zSS M p1 p2 p3 fl fu r Ci):zSS M p1 p2 p3 fl fu r Ct:=⟨h,⟨(lz rfl),⟨tv,zG _⟩,⟨tv,dT _⟩,⟨tv,dT _⟩,(lz rfl),tv⟩,(fMa (lz rfl) (zA ⟨tv,tv,tv⟩ zB)),⟨⟨tv,(lz rfl),(lz rfl),(lz rfl),tv⟩,tv,tv⟩,(fMf (lz rfl) (zA ⟨tv,tv,tv⟩ (zA (zG _) (zA (zL _) (zA (dI _) zB)))))⟩
theorem zYy:∀qq:Nat,(∀M xC xI wK xH vF wX vG wB xT sC uT xW vW v109 aP r,dU qq M xC xI wK xH vF wX vG wB xT sC uT xW vW v109 aP=some r->(∀j,dL 3 (inn (inn (rgt (lft (rgt (rgt (rgt (rgt (rgt (rgt (rgt (rgt (bod Tryz.f34))))))))))))) (sp j 130 0 [(10,.mp 3 0),(12,.mp 4 0),(107,.ms 5 0 xT wB 4),(108,ai (xT:Int)),(109,ai v109)]) (⟨[(0,mB M 1),(1,mR M),(2,.cells [ai xI,ai wK]),(3,.cells [ab false,.ms 6 0 (List.length ([]:List zF)) (List.length ([]:List zF)) 4,.ms 7 0 (List.length ([]:List zI)) (List.length ([]:List zI)) 4,.ms 8 0 (List.length ([]:List Int)) (List.length ([]:List Int)) 1]),(4,.cells [.mp 0 0,.mp 2 0,slv zK xH .no,.ms 9 (vG*6) wX vF 6,ab true,.ms 10 0 vW.length vW.length 4,.ms 5 0 xT wB 4,.ms 11 0 xC.length xC.length 1,ab sC,ai uT]),(5,.row (zJ zP aP)),(6,.row (zJ zK ([]:List zF))),(7,.row (zJ zP ([]:List zI))),(8,.row (zJ zV ([]:List Int))),(9,.row (zJ zO xW)),(10,.row (zJ zK vW)),(11,.row (zJ zV xC))],12,[],0,[]⟩) (fQ 3 ((match (generalizing:=false) r with | .inl x=>nQ 3 Tryz.f34 (.tup [wG x.1,ai x.2.1]) [mB M 1,mR M,.cells [ai x.2.2.1,ai x.2.2.2]] 0 | .inr (.inl x)=>nQ 3 Tryz.f34 (.tup [.agg [ab false,slv zK x.2.1 .no,slv zP x.2.2.1 .no,.ms 3 0 x.1.length x.1.length 1],ai x.2.2.2.1]) [mB M 1,mR M,.cells [ai x.2.2.2.2.1,ai x.2.2.2.2.2],.row (zJ zV x.1)] 0 | .inr (.inr x)=>nQ 3 Tryz.f34 (.tup [.agg [ab true,.ms 3 0 x.1.length x.1.length 4,.ms 4 0 x.2.1.length x.2.2.2.1 4,.ms 5 0 x.2.2.1.length x.2.2.1.length 1],ai x.2.2.2.2.1]) [mB M 1,mR M,.cells [ai x.2.2.2.2.2.1,ai x.2.2.2.2.2.2],.row (zJ zK x.1),.row (zJ zP x.2.1),.row (zJ zV x.2.2.1)] 0)) [.blk 4,.seq (rgt (rgt (rgt (rgt (rgt (rgt (rgt (rgt (rgt (bod Tryz.f34))))))))))]))):=by
 intro qq
 induction qq with
 |zero=>
  exact fun _ _ _ _ _ _ _ _ _ _ _ _ _ _ _ _ _ h=>nn h
 |succ qq ih=>
  intro M xC xI wK xH vF wX vG wB xT sC uT xW vW v109 aP r h
  rw[dU]at h
  obtain⟨h27,h⟩|⟨h27,h⟩:=spl h
  obtain⟨x28,h29,h⟩:=zC h
  obtain⟨x30,h31,h⟩:=zC h
  obtain⟨r32,h33,h⟩:=zC h
  obtain⟨x34,h35,h⟩:=zC h
  obtain⟨l36,h37,h⟩:=zC h
  exact fun j=>lH 1 [] [0,1,2,3,4,5,6,7,8,9,10,11] [] [10,12,107,108,109] (oD (dI xC)<|oD (zG vW)<|oD (zN xW)<|oD (dI ([]:List Int))<|oD (zL ([]:List zI))<|oD (zG ([]:List zF))<|oD (zL l36)<|oD (zG xH)<|oDM M<|oW 0 (wtF (x':=(zI.mk x34.n_ r32)) wP h35 h37 1 3 (.agg [ai r32.k,ai r32.n,slv zH r32.sub .no]) rfl rfl (by decide) rfl)<|oA 0 (zLJ (b:=5) (c:=wB) (z:=4) h29)<|oC 1 [] (c53 h33)<|oCl 1<|oG (a:=(.agg [ai x30.n_,ai x30.t_.k,ai x30.t_.n,slv zH x30.t_.sub .no])) 0 (ldE wP h31 (true,4) (val:=.agg [ai x30.n_,ai x30.t_.k,ai x30.t_.n,slv zH x30.t_.sub .no]) rfl)<|oA 0 (zLJ (b:=5) (c:=wB) (z:=4) h29)<|oB 0 h27 o0) (ih _ _ _ _ _ _ _ _ _ _ _ _ _ _ _ _ _ h)
  obtain⟨l38,h39,h⟩:=zC h
  obtain⟨h39a,h39b⟩:=qS h39
  obtain⟨l40,h41,h⟩:=zC h
  obtain⟨h41a,h41b⟩:=qS h41
  obtain⟨l42,h43,h⟩:=zC h
  obtain⟨h43a,h43b⟩:=qS h43
  cases h
  obtain rfl:=h39a.symm
  obtain rfl:=h41a.symm
  obtain rfl:=h43a.symm
  dsimp only
  rw[←h39b,←h41b,←h43b]
  exact fun j=>lF 2 [0,1,2,10,5,11] (oD (dI xC)<|oD (zL aP)<|oD (zG vW)<|oDM M<|oB 0 h27 o0)
theorem zST:∀qq:Nat,(∀M sD xC xI wK xH vF wX vG wB xT sC uT xW v81 vW r,iZ qq M sD xC xI wK xH vF wX vG wB xT sC uT xW v81 vW=some r->(∀j,dL 3 (inn (inn (rgt (lft (rgt (rgt (rgt (rgt (rgt (rgt (rgt (bod Tryz.f34)))))))))))) (sp j 130 0 [(10,.mp 3 0),(12,.mp 4 0),(79,slv zK xH .no),(80,ai (xH.length:Int)),(81,ai v81)]) (⟨[(0,mB M 1),(1,mR M),(2,.cells [ai xI,ai wK]),(3,.cells [ab false,.ms 5 0 (List.length ([]:List zF)) (List.length ([]:List zF)) 4,.ms 6 0 (List.length ([]:List zI)) (List.length ([]:List zI)) 4,.ms 7 0 (List.length ([]:List Int)) (List.length ([]:List Int)) 1]),(4,.cells [.mp 0 0,.mp 2 0,slv zK xH .no,.ms 8 (vG*6) wX vF 6,ab true,.ms 9 0 vW.length vW.length 4,.ms 10 0 xT wB 4,.ms 11 0 xC.length xC.length 1,ab sC,ai uT]),(5,.row (zJ zK ([]:List zF))),(6,.row (zJ zP ([]:List zI))),(7,.row (zJ zV ([]:List Int))),(8,.row (zJ zO xW)),(9,.row (zJ zK vW)),(10,.row (zJ zP sD)),(11,.row (zJ zV xC))],12,[],0,[]⟩) (fQ 3 ((match (generalizing:=false) r with | .inl x=>nQ 3 Tryz.f34 (.tup [wG x.1,ai x.2.1]) [mB M 1,mR M,.cells [ai x.2.2.1,ai x.2.2.2]] 0 | .inr (.inl x)=>nQ 3 Tryz.f34 (.tup [.agg [ab false,slv zK x.2.1 .no,slv zP x.2.2.1 .no,.ms 3 0 x.1.length x.1.length 1],ai x.2.2.2.1]) [mB M 1,mR M,.cells [ai x.2.2.2.2.1,ai x.2.2.2.2.2],.row (zJ zV x.1)] 0 | .inr (.inr x)=>nQ 3 Tryz.f34 (.tup [.agg [ab true,.ms 3 0 x.1.length x.1.length 4,.ms 4 0 x.2.1.length x.2.2.2.1 4,.ms 5 0 x.2.2.1.length x.2.2.1.length 1],ai x.2.2.2.2.1]) [mB M 1,mR M,.cells [ai x.2.2.2.2.2.1,ai x.2.2.2.2.2.2],.row (zJ zK x.1),.row (zJ zP x.2.1),.row (zJ zV x.2.2.1)] 0)) [.blk 2,.seq (rgt (rgt (rgt (rgt (rgt (rgt (rgt (rgt (bod Tryz.f34)))))))))]))):=by
 intro qq
 induction qq with
 |zero=>
  exact fun _ _ _ _ _ _ _ _ _ _ _ _ _ _ _ _ _ h=>nn h
 |succ qq ih=>
  intro M sD xC xI wK xH vF wX vG wB xT sC uT xW v81 vW r h
  rw[iZ]at h
  obtain⟨h20,h⟩|⟨h20,h⟩:=spl h
  obtain⟨x21,h22,h⟩:=zC h
  obtain⟨r23,h24,h⟩:=zC h
  obtain⟨l25,h26,h⟩:=zC h
  exact fun j=>lH 2 [] [0,1,2,3,4,5,6,7,8,13,10,11] [] [10,12,79,80,81] (oD (zG xH)<|oD (dI xC)<|oD (zL sD)<|oD (zG l25)<|oD (zN xW)<|oD (dI ([]:List Int))<|oD (zL ([]:List zI))<|oD (zG ([]:List zF))<|oD (zG xH)<|oDM M<|oM 1 (zYD h26 (by simp))<|oC 1 [] (c53 h24)<|oCl 0<|oCl 2<|oA 0 (zFJ (o:=.no) h22)<|oB 0 h20 o0) (ih _ _ _ _ _ _ _ _ _ _ _ _ _ _ _ _ _ h)
  exact fun j=>lH 2 [] [0,1,2,3,4,10,5,6,7,8,9,11] [] [10,12,107,108,109] (oD (dI xC)<|oD (zG vW)<|oD (zN xW)<|oD (dI ([]:List Int))<|oD (zL ([]:List zI))<|oD (zG ([]:List zF))<|oD (zL sD)<|oD (zG xH)<|oDM M<|oB 0 h20 o0) (zYy _ _ _ _ _ _ _ _ _ _ _ _ _ _ _ _ _ _ h)
theorem zLt:∀qq:Nat,(∀M y3 sD xC xI wK xH vF wX vG wB xT sC uT xW r,qJ qq M y3 sD xC xI wK xH vF wX vG wB xT sC uT xW=some r->(∀j,dL 3 (inn (inn (lft (rgt (rgt (rgt (bod Tryz.f34))))))) (sp j 130 0 [(10,.mp 3 0),(12,.mp 4 0)]) (⟨[(0,mB M 1),(1,mR M),(2,.cells [ai xI,ai wK]),(3,.cells [ab false,.ms 5 0 (List.length ([]:List zF)) (List.length ([]:List zF)) 4,.ms 6 0 (List.length ([]:List zI)) (List.length ([]:List zI)) 4,.ms 7 0 (List.length ([]:List Int)) (List.length ([]:List Int)) 1]),(4,.cells [.mp 0 0,.mp 2 0,slv zK xH .no,.ms 8 (vG*6) wX vF 6,ab false,.ms 9 0 y3.2.2.1.length y3.2.2.1.length 4,.ms 10 0 xT wB 4,.ms 11 0 xC.length xC.length 1,ab sC,ai uT]),(5,.row (zJ zK ([]:List zF))),(6,.row (zJ zP ([]:List zI))),(7,.row (zJ zV ([]:List Int))),(8,.row (zJ zO xW)),(9,.row (zJ zK y3.2.2.1)),(10,.row (zJ zP sD)),(11,.row (zJ zV xC))],12,[],0,[]⟩) (fQ 3 ((match (generalizing:=false) r with | .inl x=>nQ 3 Tryz.f34 (.tup [wG x.1,ai x.2.1]) [mB M 1,mR M,.cells [ai x.2.2.1,ai x.2.2.2]] 0 | .inr (.inl x)=>nQ 3 Tryz.f34 (.tup [.agg [ab false,slv zK x.2.1 .no,slv zP x.2.2.1 .no,.ms 3 0 x.1.length x.1.length 1],ai x.2.2.2.1]) [mB M 1,mR M,.cells [ai x.2.2.2.2.1,ai x.2.2.2.2.2],.row (zJ zV x.1)] 0 | .inr (.inr x)=>nQ 3 Tryz.f34 (.tup [.agg [ab true,.ms 3 0 x.1.length x.1.length 4,.ms 4 0 x.2.1.length x.2.2.2.1 4,.ms 5 0 x.2.2.1.length x.2.2.1.length 1],ai x.2.2.2.2.1]) [mB M 1,mR M,.cells [ai x.2.2.2.2.2.1,ai x.2.2.2.2.2.2],.row (zJ zK x.1),.row (zJ zP x.2.1),.row (zJ zV x.2.2.1)] 0)) [.blk 0,.seq (rgt (rgt (rgt (rgt (bod Tryz.f34)))))]))):=by
 intro qq
 induction qq with
 |zero=>
  exact fun _ _ _ _ _ _ _ _ _ _ _ _ _ _ _ _ h=>nn h
 |succ qq ih=>
  intro M y3 sD xC xI wK xH vF wX vG wB xT sC uT xW r h
  rw[qJ]at h
  have z {os ob} (k:Oz os ob):=oD (zG xH)<|oD (dI xC)<|oD (zL sD)<|oD (zG y3.2.2.1)<|oD (zN xW)<|oD (dI ([]:List Int))<|oD (zL ([]:List zI))<|oD (zG ([]:List zF))<|oD (zG xH)<|oDM M<|k
  have z1 {os ob} (k:Oz os ob):=oD (dI ([]:List Int))<|oD (zL ([]:List zI))<|oD (zG ([]:List zF))<|oDM M<|k
  have z2 {os ob} (k:Oz os ob):=oD (zL ([]:List zI))<|oD (zG ([]:List zF))<|oD (dI xC)<|oDM M<|k
  obtain⟨h4,h⟩|⟨h4,h⟩:=spl h
  have k:=oB 2 h4 o0
  obtain⟨h5,h⟩|⟨h5,h⟩:=spl h
  have k:=oB 1 h5 k
  obtain⟨h6,h⟩|⟨h6,h⟩:=spl h
  have k:=oB 0 h6 k
  obtain⟨h7,h⟩|⟨h7,h⟩:=spl h
  cases h
  exact fun j=>lF 2 [0,1,2] (z1<|oB 2 h7 k)
  obtain⟨l8,h9,h⟩:=zC h
  obtain⟨h9a,h9b⟩:=qS h9
  cases h
  obtain rfl:=h9a.symm
  dsimp only
  rw[←h9b]
  exact fun j=>lF 2 [0,1,2,11] (z2<|oB 0 h6<|oB 2 h7 k)
  obtain⟨r10,h11,h⟩:=zC h
  have k:=oB 0 h6 k
  rcases r10 with y12 | (y13 | (y14|y15))
  dsimp only at h
  exact fun j=>lH 0 [] [0,1,2,3,4,5,6,7,8,9,12,13] [] [10,12] (oD (dI y12.2.2.2.2.2.2.2.2.1)<|oD (zL y12.2.2.2.2.2.1)<|oD (zG y3.2.2.1)<|oD (zN y12.2.1)<|oD (dI ([]:List Int))<|oD (zL ([]:List zI))<|oD (zG ([]:List zF))<|oD (zG y12.1)<|oDM M<|oC 1 [4,0,1,2,8,9,10,11] (zBY h11) k) (ih _ _ _ _ _ _ _ _ _ _ _ _ _ _ _ _ h)
  dsimp only at h
  exact fun j=>lH 0 [] [0,1,2,3,4,5,6,7,8,9,12,13] [] [10,12] (oD (dI y13.2.2.2.2.2.2.2.2.1)<|oD (zL y13.2.2.2.2.2.1)<|oD (zG y3.2.2.1)<|oD (zN y13.2.1)<|oD (dI ([]:List Int))<|oD (zL ([]:List zI))<|oD (zG ([]:List zF))<|oD (zG y13.1)<|oDM M<|oC 1 [4,0,1,2,8,9,10,11] (zBY h11) k) (ih _ _ _ _ _ _ _ _ _ _ _ _ _ _ _ _ h)
  dsimp only at h
  exact fun j=>lH 0 [] [0,1,2,3,4,5,6,7,8,9,12,13] [] [10,12] (oD (dI y14.2.2.2.2.2.2.1)<|oD (zL y14.2.2.2.2.2.1)<|oD (zG y3.2.2.1)<|oD (zN y14.2.1)<|oD (dI ([]:List Int))<|oD (zL ([]:List zI))<|oD (zG ([]:List zF))<|oD (zG y14.1)<|oDM M<|oC 1 [4,0,1,2,8,9,10,11] (zBY h11) k) (ih _ _ _ _ _ _ _ _ _ _ _ _ _ _ _ _ h)
  dsimp only at h
  exact fun j=>lH 0 [] [0,1,2,3,4,5,6,7,12,9,13,14] [] [10,12] (oD (dI y15.2.2.2.2.2.1)<|oD (zL y15.2.2.1)<|oD (zG y3.2.2.1)<|oD (zN y15.2.1)<|oD (dI ([]:List Int))<|oD (zL ([]:List zI))<|oD (zG ([]:List zF))<|oD (zG y15.1)<|oDM M<|oC 1 [4,0,1,2,8,9,10,11] (zBY h11) k) (ih _ _ _ _ _ _ _ _ _ _ _ _ _ _ _ _ h)
  have k:=oB 1 h5 k
  obtain⟨h16,h⟩|⟨h16,h⟩:=spl h
  cases h
  exact fun j=>lF 2 [0,1,2] (z1<|oB 1 h16 k)
  have k:=oB 1 h16 k
  obtain⟨h17,h⟩|⟨h17,h⟩:=spl h
  obtain⟨l18,h19,h⟩:=zC h
  obtain⟨h19a,h19b⟩:=qS h19
  cases h
  obtain rfl:=h19a.symm
  dsimp only
  rw[←h19b]
  exact fun j=>lF 2 [0,1,2,11] (z2<|oB 0 h17 k)
  exact fun j=>lH 3 [] [0,1,2,3,4,5,6,7,8,9,10,11] [] [10,12,79,80,81] (z<|oB 0 h17 k) (zST _ _ _ _ _ _ _ _ _ _ _ _ _ _ _ _ _ _ h)
  have k:=oB 2 h4 o0
  obtain⟨h20,h⟩|⟨h20,h⟩:=spl h
  cases h
  exact fun j=>lF 2 [0,1,2] (z1<|oB 1 h20 k)
  have k:=oB 1 h20 k
  obtain⟨h21,h⟩|⟨h21,h⟩:=spl h
  obtain⟨l22,h23,h⟩:=zC h
  obtain⟨h23a,h23b⟩:=qS h23
  cases h
  obtain rfl:=h23a.symm
  dsimp only
  rw[←h23b]
  exact fun j=>lF 2 [0,1,2,11] (z2<|oB 0 h21 k)
  exact fun j=>lH 3 [] [0,1,2,3,4,5,6,7,8,9,10,11] [] [10,12,79,80,81] (z<|oB 0 h21 k) (zST _ _ _ _ _ _ _ _ _ _ _ _ _ _ _ _ _ _ h)
theorem yBd{qq M p1 p2 p3 fl fu r}(h:e34 qq M p1 p2 p3 fl fu=some r):(match (generalizing:=false) r with | .inl x=>zSQ M p1 p2 p3 fl fu x Ct | .inr (.inl x)=>zSR M p1 p2 p3 fl fu x Ct | .inr (.inr x)=>zSS M p1 p2 p3 fl fu x Ct):=by
 unfold e34 at h
 obtain⟨r1,h2,h⟩:=zC h
 rcases r1 with y4|y3
 dsimp only at h
 cases h
 exact zWj (tF q34 4 [0,1,2] (oD (dI ([]:List Int))<|oD (zL ([]:List zI))<|oD (zG ([]:List zF))<|oDM M<|oC 0 [0,1,2] (c64 h2) o0))
 dsimp only at h
 rcases r with y0 | (y1|y2)
 exact zWj (tH q34 3 [(some 3,1,4100),(some 3,2,4100),(some 3,3,4097)] [0,1,2,3,4,9,10,11,5,6,7,8] [] [10,12] (oD (dI y3.2.2.2.2.1)<|oD (zL y3.2.2.2.1)<|oD (zG y3.2.2.1)<|oD (zN y3.2.1)<|oD (dI ([]:List Int))<|oD (zL ([]:List zI))<|oD (zG ([]:List zF))<|oD (zG y3.1)<|oDM M<|oC 0 [0,1,2] (c64 h2) o0) (zLt _ _ _ _ _ _ _ _ _ _ _ _ _ _ _ _ _ h))
 exact yAt (tH q34 3 [(some 3,1,4100),(some 3,2,4100),(some 3,3,4097)] [0,1,2,3,4,9,10,11,5,6,7,8] [] [10,12] (oD (dI y3.2.2.2.2.1)<|oD (zL y3.2.2.2.1)<|oD (zG y3.2.2.1)<|oD (zN y3.2.1)<|oD (dI ([]:List Int))<|oD (zL ([]:List zI))<|oD (zG ([]:List zF))<|oD (zG y3.1)<|oDM M<|oC 0 [0,1,2] (c64 h2) o0) (zLt _ _ _ _ _ _ _ _ _ _ _ _ _ _ _ _ _ h))
 exact yAs (tH q34 3 [(some 3,1,4100),(some 3,2,4100),(some 3,3,4097)] [0,1,2,3,4,9,10,11,5,6,7,8] [] [10,12] (oD (dI y3.2.2.2.2.1)<|oD (zL y3.2.2.2.1)<|oD (zG y3.2.2.1)<|oD (zN y3.2.1)<|oD (dI ([]:List Int))<|oD (zL ([]:List zI))<|oD (zG ([]:List zF))<|oD (zG y3.1)<|oDM M<|oC 0 [0,1,2] (c64 h2) o0) (zLt _ _ _ _ _ _ _ _ _ _ _ _ _ _ _ _ _ h))
theorem c34{qq M p1 p2 p3 fl fu r}(h:e34 qq M p1 p2 p3 fl fu=some r):(match (generalizing:=false) r with | .inl x=>CT Tryz.prog 34 [mB M 1,mR M,.cells [ai fl,ai fu]] [.mp 0 0,slv zK p1 .no,slv zH p2 .no,slv zH p3 .no,.mp 2 0] (.tup [wG x.1,ai x.2.1]) [mB M 1,mR M,.cells [ai x.2.2.1,ai x.2.2.2]] 0 | .inr (.inl x)=>CT Tryz.prog 34 [mB M 1,mR M,.cells [ai fl,ai fu]] [.mp 0 0,slv zK p1 .no,slv zH p2 .no,slv zH p3 .no,.mp 2 0] (.tup [wG (yA.mk false x.2.1 x.2.2.1 x.1),ai x.2.2.2.1]) [mB M 1,mR M,.cells [ai x.2.2.2.2.1,ai x.2.2.2.2.2]] 0 | .inr (.inr x)=>CT Tryz.prog 34 [mB M 1,mR M,.cells [ai fl,ai fu]] [.mp 0 0,slv zK p1 .no,slv zH p2 .no,slv zH p3 .no,.mp 2 0] (.tup [wG (yA.mk true x.1 x.2.1 x.2.2.1),ai x.2.2.2.2.1]) [mB M 1,mR M,.cells [ai x.2.2.2.2.2.1,ai x.2.2.2.2.2.2]] 0):=by
 have k:=yBd h
 rcases r with y0 | (y1|y2)
 ·exact k
 ·exact CT.freeze (H1:=[mB M 1,mR M,.cells [ai y1.2.2.2.2.1,ai y1.2.2.2.2.2]]) (cs:=zJ zV y1.1) (res':=(.tup [wG (yA.mk false y1.2.1 y1.2.2.1 y1.1),ai y1.2.2.2.1])) k (Nat.le_of_ble_eq_true rfl) (fMf (lz rfl) (zA ⟨tv,tv,tv⟩ zB)) (dI _) ⟨⟨trivial,zG _,zL _,(.inl ⟨rfl,rfl⟩),tv⟩,trivial,tv⟩ (by rfl) rfl
 ·replace k:=CT.freeze (H1:=[mB M 1,mR M,.cells [ai y2.2.2.2.2.2.1,ai y2.2.2.2.2.2.2],.row (zJ zK y2.1),.row (zJ zP y2.2.1)]) (cs:=zJ zV y2.2.2.1) (res':=(.tup [.agg [ab true,.ms 3 0 y2.1.length y2.1.length 4,.ms 4 0 y2.2.1.length y2.2.2.2.1 4,slv zV y2.2.2.1 .no],ai y2.2.2.2.2.1])) k (Nat.le_of_ble_eq_true rfl) (fMf (lz rfl) (zA ⟨tv,tv,tv⟩ (zA (zG _) (zA (zL _) zB)))) (dI _) ⟨⟨trivial,(.inr (show 3<5 by decide)),(.inr (show 4<5 by decide)),(.inl ⟨rfl,rfl⟩),tv⟩,trivial,tv⟩ (by rfl) rfl;replace k:=CT.freeze (H1:=[mB M 1,mR M,.cells [ai y2.2.2.2.2.2.1,ai y2.2.2.2.2.2.2],.row (zJ zK y2.1)]) (cs:=zJ zP y2.2.1) (res':=(.tup [.agg [ab true,.ms 3 0 y2.1.length y2.1.length 4,slv zP y2.2.1 .no,slv zV y2.2.2.1 .no],ai y2.2.2.2.2.1])) k (Nat.le_of_ble_eq_true rfl) (fMf (lz rfl) (zA ⟨tv,tv,tv⟩ (zA (zG _) zB))) (zL _) ⟨⟨trivial,(.inr (show 3<4 by decide)),(.inl ⟨rfl,rfl⟩),dI _,tv⟩,trivial,tv⟩ (by rfl) rfl;exact CT.freeze (H1:=[mB M 1,mR M,.cells [ai y2.2.2.2.2.2.1,ai y2.2.2.2.2.2.2]]) (cs:=zJ zK y2.1) (res':=(.tup [wG (yA.mk true y2.1 y2.2.1 y2.2.2.1),ai y2.2.2.2.2.1])) k (Nat.le_of_ble_eq_true rfl) (fMf (lz rfl) (zA ⟨tv,tv,tv⟩ zB)) (zG _) ⟨⟨trivial,(.inl ⟨rfl,rfl⟩),zL _,dI _,tv⟩,trivial,tv⟩ (by rfl) rfl
abbrev SvT:=(yA×Int×Int×Int) ⊕ ((List Int×List zF×List zI×Int×Int×Int) ⊕ (List zF×List zI×List Int×Nat×Int×Int×Int))
inductive SvR (l:List Ent) (c:List zF) (td:List zD) (so:List zI) (T:Int):SvT->Prop
 |err {a e fl fu}:e≠0->SvR l c td so T (.inl (a,e,fl,fu))
 |no {s fl fu}:0≤fl∧0≤fu∧fl+fu=T->Un l c td so none->SvR l c td so T (.inr (.inl (s,[],[],0,fl,fu)))
 |yes {c' so' s k fl fu}:0≤fl∧0≤fu∧fl+fu=T->Un l c td so (some (c',so'))->SvR l c td so T (.inr (.inr (c',so',s,k,0,fl,fu)))
theorem zMP(M:xB)(st:List Int)(L U:Int)(c:List zF)(a1 a2 a3 a4:Nat)(no:Bool)(e:Int)(q8:List zD)(vs:List zF)(so:List zI)(hl:so.length≤1048576)(hs:∀s∈so,zM s.t_=true):∀(k v:Nat),v+k=so.length->Tot (fun q=>dU q M st L U c a1 a2 a3 a4 so.length no e q8 vs (v:Int) so) fun x=>x = .inr (.inr (vs,so,st,a4,0,L,U))
 |0,v,hv=>by
  refine Tot.succ ?_
  simp only[dU]
  refine Tot.ite (fun h=>absurd (of_decide_eq_true h) (by omega)) fun _=>Tot.pure (a:=vs) (by unfold gfz;rw[if_pos rfl]) (Tot.pure (a:=so) (by unfold gfz;rw[if_pos rfl]) (Tot.pure (a:=st) (by unfold gfz;rw[if_pos rfl]) (Tot.ret rfl)))
 |k+1,v,hv=>by
  have hlt:v<so.length:=by omega
  obtain⟨x,hx⟩:∃x,so[v]? = some x:=⟨_,List.getElem?_eq_getElem hlt⟩
  have hsx:=hs x (List.mem_of_getElem? hx)
  refine Tot.succ ?_
  simp only[dU]
  refine Tot.ite (fun _=>Tot.pure (oH hlt) (Tot.pure (tP hx) (Tot.bind (P:=fun t=>t=x.t_) ((rD x.t_ (zY hsx)).tot (by unfold nU;rw[if_pos hsx])) fun t ht=>Tot.pure (tP hx) (Tot.pure (a:=so) ?_ ?_)))) fun h=>absurd (of_decide_eq_false h) (by omega)
  ·subst ht
   obtain⟨h1,h2⟩:=List.getElem?_eq_some_iff.1 hx
   have:(zI.mk x.n_ x.t_)=so[v]:=by rw[h2]
   unfold zAv
   rw[if_pos hlt,this,List.set_getElem_self]
  ·rw[zU v (by omega)]
   exact zMP M st L U c a1 a2 a3 a4 no e q8 vs so hl hs k (v+1) (by omega)
theorem zMQ(M:xB)(st:List Int)(L U:Int)(c:List zF)(a1 a2 a3 a4:Nat)(no:Bool)(e:Int)(q8:List zD)(so:List zI)(hl:so.length≤1048576)(hs:∀s∈so,zM s.t_=true)(hcl:c.length≤524288)(hc:∀v∈c,zM v.type_=true):∀(r:List zF) (v:Nat) (vs:List zF),c.drop v=r->vs=c.take v->Tot (fun q=>iZ q M so st L U c a1 a2 a3 a4 so.length no e q8 (v:Int) vs) fun x=>x = .inr (.inr (c,so,st,a4,0,L,U))
 | [],v,vs,hd,hv=>by
  refine Tot.succ ?_
  simp only[iZ]
  refine Tot.ite (fun h=>?_) fun _=>?_
  ·rw[yC hd]at h;cases h
  ·rw[hv,List.take_of_length_le (List.drop_eq_nil_iff.1 hd)]
   exact zMP M st L U c a1 a2 a3 a4 no e q8 c so hl hs so.length 0 (by omega)
 |x::r,v,vs,hd,hv=>by
  have hlt:=yE hd
  have hsx:=hc x (List.mem_of_mem_drop (by rw[hd];simp))
  refine Tot.succ ?_
  simp only[iZ]
  refine Tot.ite (fun _=>Tot.pure (zX hd) (Tot.bind (P:=fun t=>t=x.type_) ((rD x.type_ (zY hsx)).tot (by unfold nU;rw[if_pos hsx])) fun t ht=>Tot.pure (yG (by rw[hv];simp;omega)) ?_)) fun h=>?_
  ·rw[zU v (by omega),ht,zSD]
   exact zMQ M st L U c a1 a2 a3 a4 no e q8 so hl hs hcl hc r (v+1) _ (zS hd) (by rw[qH hd,hv])
  ·rw[yB hd]at h;cases h
theorem zMR{l:List Ent}{c0 td0 so0}{T:Int}(M:xB)(st:List Int)(L U:Int)(c:List zF)(a1 a2 a3 a4 a5:Nat)(no:Bool)(e:Int)(he:e≠0)(q8:List zD)(so:List zI)(y3:List zF×List zD×List zF×List zI×List Int×Int) :
  Tot (fun q=>qJ q M y3 so st L U c a1 a2 a3 a4 a5 no e q8) (SvR l c0 td0 so0 T):=by
 refine Tot.succ ?_
 simp only[qJ]
 exact Tot.ite (fun _=>Tot.ite (fun h=>absurd (by simpa using h) he) fun _=>Tot.ite (fun _=>Tot.ret (.err he)) fun h=>absurd (by simpa using h) he) fun _=>Tot.ite (fun _=>Tot.ret (.err he)) fun h=>absurd (by simpa using h) he
theorem zVL{l:List Ent}{c0 td0 so0}{T:Int}(M:xB)(st:List Int)(L U:Int)(c:List zF)(a1 a2 a3 a4 a5:Nat)(q8:List zD)(so:List zI)(y3:List zF×List zD×List zF×List zI×List Int×Int)(hU:Un l c0 td0 so0 none)(hF:0≤L∧0≤U∧L+U=T)(no:Bool)(hno:no=true) :
  Tot (fun q=>qJ q M y3 so st L U c a1 a2 a3 a4 a5 no 0 q8) (SvR l c0 td0 so0 T):=by
 refine Tot.succ ?_
 simp only[qJ]
 refine Tot.ite (fun _=>Tot.ite (fun _=>Tot.ite (fun _=>Tot.ite (fun h=>by cases h) fun _=>?_) fun h=>by rw[hno]at h;cases h) fun h=>by cases h) fun _=>Tot.ite (fun h=>by cases h) fun _=>Tot.ite (fun _=>?_) fun h=>by rw[hno]at h;cases h
 ·exact Tot.pure (a:=st) (by unfold gfz;rw[if_pos rfl]) (Tot.ret (.no hF hU))
 ·exact Tot.pure (a:=st) (by unfold gfz;rw[if_pos rfl]) (Tot.ret (.no hF hU))
theorem zGc{N:ByteArray->Bool}{l:List Ent}(hE:wN N l)(he:∀e∈l,EOk e)(hl:l.length≤65535)(hc:∀e∈l,ECl e){c0:List zF}{td0:List zD}{so0:List zI}{T0:Int}(I:∀c' so',Un l c0 td0 so0 (some (c',so'))->(∀v∈c',zM v.type_=true)∧∀s∈so',zM s.t_=true)
  (y3:List zF×List zD×List zF×List zI×List Int×Int) (hy:y3.2.2.1=[]) (no:Bool) (hno:no=false):∀(m:Nat) (L U:Int) (c:List zF) (q8:List zD) (n o k k6 n6:Nat) (so:List zI) (st:List Int),L.toNat<m->0≤L->0≤U->L+U=T0->T0≤1099511627776->o+n≤q8.length->(q8.length:Int)+8192*L≤1048576000->(∀x∈q8,x.a_.Ok∧x.b_.Ok)->(∀x∈(q8.drop o).take n,zM x.a_=true∧zM x.b_=true) ->
   so.length=n6->(so.length:Int)+L≤1048576->(∀x∈so,x.t_.Ok)->(st.length:Int)+L≤1048576->c.length≤524288->(∀v∈c,v.type_.Ok)->(∀r,Un l c ((q8.drop o).take n) so r->Un l c0 td0 so0 r) ->
   Tot (fun q=>qJ q (xY l) y3 so st L U c k n o k6 n6 no 0 q8) (SvR l c0 td0 so0 T0)
 |0,L,U,c,q8,n,o,k,k6,n6,so,st,hm,_,_,_,_,_,_,_,_,_,_,_,_,_,_,_=>absurd hm (Nat.not_lt_zero _)
 |m+1,L,U,c,q8,n,o,k,k6,n6,so,st,hm,h0,h1,hT,h2,hb,h8,hok8,hok,hn6,hso,hsok,hst,hcl,hco,T=>by
  refine Tot.succ ?_
  simp only[qJ]
  refine Tot.ite (fun hp=>Tot.ite (fun _=>Tot.ite (fun h=>by rw[hno]at h;cases h) fun _=>?_) fun h=>by cases h) fun hp=>Tot.ite (fun h=>by cases h) fun _=>Tot.ite (fun h=>by rw[hno]at h;cases h) fun _=>?_
  ·have hpos:1≤n:=by have:=of_decide_eq_true hp;omega
   refine(zOZ hE he hl hc L U c q8 n o k false y3.2.2.1 so n6 k6 st no h0 h1 (by omega) hpos hb (by omega) hok8 hok hn6 (by omega) hsok (by omega) hcl hco).bind fun x hx=>?_
   cases hx with
   |err e0=>exact zMR _ _ _ _ _ _ _ _ _ _ _ _ e0 _ _ _
   |no _ hF hU=>exact zVL _ _ _ _ _ _ _ _ _ _ _ _ _ (T _ hU) ⟨hF.1,hF.2.1,by omega⟩ _ rfl
   | @sol d row k' so' n' t s e fl fu g1 g2 g3 g4 g5 g6 g7 g8 g9 g10 g11 g12=>
    by_cases e0:e=0
    ·subst e0
     obtain⟨p1,p2⟩:=g12 rfl
     refine zGc hE he hl hc I y3 hy no hno m fl fu d row (n-1) (o+1) k' _ _ (so'++[⟨n',t⟩]) s (by omega) g2 g4 (by omega) h2 (by rw[g6];omega) (by rw[g6];omega) g7 p1 rfl (by simp;omega) (fun x hx=>?_) (by omega) (by have:=g10.right.len;omega) (fun v hv=>zY (g10.right.each v hv).2.2.1) fun r hr=>T r (p2 r hr)
     rcases List.mem_append.1 hx with hx|hx
     ·exact g9 x hx
     ·rw[List.mem_singleton.1 hx];exact g11
    ·exact zMR _ _ _ _ _ _ _ _ _ _ _ _ e0 _ _ _
   | @inj td s fl fu g1 g2 g3 g4 g5 g6 g7 g8=>
    refine zGc hE he hl hc I y3 hy no hno m fl fu c td td.length 0 td.length _ _ so s (by omega) g2 g4 (by omega) h2 (by omega) (by omega) (fun x hx=>⟨zY (g7 x hx).1,zY (g7 x hx).2⟩) (fun x hx=>g7 x (List.mem_of_mem_drop (List.mem_of_mem_take hx))) hn6 (by omega) hsok (by omega) hcl hco fun r hr=>T r (g8 r ?_)
    rwa[List.drop_zero,List.take_length]at hr
  ·have hn0:n=0:=by have:=of_decide_eq_false hp;omega
   subst hn0
   have hU:Un l c0 td0 so0 (some (c,so)):=T _ (by rw[List.take_zero];exact .done)
   obtain⟨i1,i2⟩:=I c so hU
   subst hn6
   rw[hy]
   exact(zMQ (xY l) st L U c _ _ _ _ no 0 q8 so (by omega) i2 hcl i1 c 0 [] rfl (by simp)).mono fun x hx=>by rw[hx];exact .yes ⟨h0,h1,hT⟩ hU
theorem fJ.start{l:List Ent}{c:List zF}{td:List zD}(hc:zIK c)(ht:∀w∈c,uB l w.type_)(hm:∀e∈td,uB l e.a_∧uB l e.b_):fJ l c td [] c.length:=
 ⟨hc,ht,hm,fun s h=>by simp at h,fun s h=>by simp at h,fun s h=>by simp at h,fun s h=>by simp at h,by simp,by simp⟩
def SlR(l:List Ent)(c:List zF)(A B:List Tm)(T:Int)(x:SvT):Prop:=
 (∃a e fl fu,e≠0∧x = .inl (a,e,fl,fu))∨(zIK c∧A.length=B.length∧(∀e∈uK A B,uB l e.a_∧uB l e.b_)∧(∀w∈c,uB l w.type_)∧SvR l c (uK A B) [] T x)
theorem zLs{N:ByteArray->Bool}{l:List Ent}(hE:wN N l)(he:∀e∈l,EOk e)(hl:l.length≤65535)(hc:∀e∈l,ECl e)(c:List zF)(A B:List Tm)(hA:∀x∈A,x.Ok)(hB:∀x∈B,x.Ok)(hal:A.length≤1048576)(hcl:c.length≤524288)(hco:∀v∈c,v.type_.Ok)(L U:Int)(h0:0≤L)(hL:L≤100000)(h1:0≤U)(h2:L+U≤1099511627776) :
  Tot (fun q=>e34 q (xY l) c A B L U) (SlR l c A B (L+U)):=by
 simp only[e34]
 refine(zLu l c A B hA hB hal (by omega) hco L U).bind fun x hx=>?_
 rcases x with y|y
 ·exact Tot.ret (.inl ⟨_,5,L,U,by decide,rfl⟩)
 ·obtain⟨hC,hn,⟨rfl,hm⟩,ht⟩:=hx y rfl
  have hz:(uK A B).length=A.length:=by unfold uK;rw[List.length_zipWith];omega
  have hI:=fJ.start hC ht hm
  have hsh:∀e∈uK A B,zM e.a_=true∧zM e.b_=true:=fun e h=>⟨(zBh.1 (hm e h).1).1,(zBh.1 (hm e h).2).1⟩
  refine Tot.mono (zGc hE he hl hc (c0:=c) (td0:=uK A B) (so0:=[]) (fun c' so' h=>?_) (c,uK A B,[],[],[],0) rfl false rfl (L.toNat+1) L U c (uK A B) (uK A B).length 0 (uK A B).length 0 0 [] [] (by omega) h0 h1 rfl h2 (by omega) (by omega) (fun x hx=>⟨zY (hsh x hx).1,zY (hsh x hx).2⟩) (fun x hx=>hsh x (List.mem_of_mem_drop (List.mem_of_mem_take hx))) rfl (by simp;omega) (fun x hx=>by simp at hx) (by simp;omega) hcl hco (fun r hr=>by rwa[List.drop_zero,List.take_length]at hr)) fun x hx=>.inr ⟨hC,hn,hm,ht,hx⟩
  have:=h.inv hE hI c' so' rfl
  exact⟨fun v hv=>(zBh.1 (this.typ v hv)).1,fun s hs=>(zBh.1 (this.sol s hs)).1⟩
mutual
def e11:Nat->Tm->Int->Option Bool
 |0,_,_=>none
 |qq+1,p0,p1=>
 if p0.k==8 then
 some (p0.n==p1)
 else
 dV qq p0 p1 0
def dV:Nat->Tm->Int->Int->Option Bool
 |0,_,_,_=>none
 |qq+1,p0,p1,v5=>
 if decide (v5<(p0.sub.length:Int))then
 zR p0.sub v5>>=fun x3=>
 e11 qq x3 p1>>=fun r5=>
 if r5 then
 some true
 else
 dV qq p0 p1 (w64 (v5+1))
 else
 some false
end
abbrev K11 (p0:Tm) (p1:Int) (r:Bool) (C:Cf):Prop:=C 11 [] [tmA p0,ai p1] (ab r) [] 0
theorem q11:Qf 11 Tryz.f11:=⟨Tryz.func11,rfl⟩
theorem k11{p0 p1 r}(h:K11 p0 p1 r Ci):K11 p0 p1 r Ct:=⟨h,⟨⟨tv,tv,⟨tv,dT _⟩,tv⟩,tv,tv⟩,zB,tv,zB⟩
theorem zPz:∀qq:Nat,(∀p0 p1 r,e11 qq p0 p1=some r->K11 p0 p1 r Ct)∧(∀p0 p1 v5 r,dV qq p0 p1 v5=some r->(∀j,dL 0 (inn (inn (rgt (lft (rgt (rgt (bod Tryz.f11))))))) (sp j 27 0 [(1,ai p1),(2,.mp 0 0),(5,ai v5)]) (⟨[(0,.cells [ai p0.k,ai p0.n,slv zH p0.sub .no])],1,[],0,[]⟩) (fQ 0 (nQ 0 Tryz.f11 (ab r) [] 0) [.blk 0,.seq (rgt (rgt (rgt (bod Tryz.f11))))]))):=by
 intro qq
 induction qq with
 |zero=>
  exact⟨fun _ _ _ h=>nn h,fun _ _ _ _ h=>nn h⟩
 |succ qq ih=>
  obtain⟨yAr,zMS⟩:=ih
  refine⟨?_,?_⟩
  intro p0 p1 r h
  rw[e11]at h
  obtain⟨h1,h⟩|⟨h1,h⟩:=spl h
  cases h
  exact k11 (tF q11 2 [] (oB 1 h1 o0))
  exact k11 (tH q11 0 [] [0] [] [1,2,5] (oD (dT p0.sub)<|oB 1 h1 o0) (zMS _ _ _ _ h))
  intro p0 p1 v5 r h
  rw[dV]at h
  obtain⟨h2,h⟩|⟨h2,h⟩:=spl h
  obtain⟨x3,h4,h⟩:=zC h
  obtain⟨r5,h6,h⟩:=zC h
  have k:=oA 1 (xA (o:=.no) h4)<|oB 2 h2 o0
  obtain⟨h7,h⟩|⟨h7,h⟩:=spl h
  cases h
  exact fun j=>lF 0 [] (oK 1 [] h7 (yAr _ _ _ h6) k)
  exact fun j=>lH 1 [] [0] [] [1,2,5] (oD (dT p0.sub)<|oK 1 [] h7 (yAr _ _ _ h6) k) (zMS _ _ _ _ h)
  cases h
  exact fun j=>lF 0 [] (oB 2 h2 o0)
theorem c11{qq p0 p1 r}(h:e11 qq p0 p1=some r):K11 p0 p1 r Ct:=(zPz _).1 _ _ _ h
mutual
theorem zSU(n:Int):∀t:Tm,t.Ok->yP (fun k i=>k=8->i≠n) t->Evt (fun q=>e11 q t n) false
 | .mk k i l,ho,h=>by
  rw[yP]at h
  rw[Tm.Ok]at ho
  refine Evt.succ ?_
  simp only[e11]
  by_cases h8:k=8
  ·exact Evt.ifT (by show (k==8)=true;simpa using h8) (Evt.ret.eq (by show (i==n)=false;have:=h.1.resolve_left (by omega) h8;simpa using this))
  ·exact Evt.ifF (by show (k==8)=false;simpa using h8) (zMT n l (.mk k i l) 0 rfl ho.1 ho.2 h.2)
theorem zMT(n:Int):∀(r:List Tm) (p:Tm) (v:Nat),p.sub.drop v=r->p.sub.length<9223372036854775808->OkL r->xV (fun k i=>k=8->i≠n) r->Evt (fun q=>dV q p n (v:Int)) false
 | [],p,v,hd,hl,ho,h=>by
  refine Evt.succ ?_
  simp only[dV]
  exact Evt.ifF (yC hd) Evt.ret
 |x::r,p,v,hd,hl,ho,h=>by
  have hlt:=yE hd
  rw[xV]at h
  rw[OkL]at ho
  refine Evt.succ ?_
  simp only[dV]
  refine Evt.ifT (yB hd) (Evt.pure (zX hd) ((zSU n x ho.1 h.1).bind (Evt.ifF rfl ?_)))
  rw[zU v (by omega)]
  exact zMT n r p (v+1) (zS hd) hl ho.2 h.2
end
theorem dW{t:Tm}{n:Int}(hs:zM t=true)(h:¬n∈frT t):Evt (fun q=>e11 q t n) false:=
 zSU n t (zY hs) (iN.1 fun x hx e=>h (e▸hx))
def dX:Nat->List zF->List yU->Int->Option (List yU)
 |0,_,_,_=>none
 |qq+1,p0,v3,v4=>
 if decide (v4<(p0.length:Int))then
 zR p0 v4>>=fun x2=>
 yT 48 v3 [(yU.mk x2.n_ x2.type_)]>>=fun l4=>
 dX qq p0 l4 (w64 (v4+1))
 else
 some v3
def e10(qq:Nat)(p0:List zF):Option (List yU):=
 dX qq p0 [] 0
theorem zYx:∀qq:Nat,(∀p0 v3 v4 r,dX qq p0 v3 v4=some r->(∀j,dL 0 (inn (inn (rgt (lft (rgt (rgt (bod Tryz.f10))))))) (sp j 27 0 [(0,slv zK p0 .no),(3,slv xQ v3 (.st 0 4)),(4,ai v4)]) (⟨[],0,[0],1,[]⟩) (fQ 0 (nQ 0 Tryz.f10 (.sl (zJ xQ r) r.length .no) [] 0) [.blk 0,.seq (rgt (rgt (rgt (bod Tryz.f10))))]))):=by
 intro qq
 induction qq with
 |zero=>
  exact fun _ _ _ _ h=>nn h
 |succ qq ih=>
  intro p0 v3 v4 r h
  rw[dX]at h
  obtain⟨h1,h⟩|⟨h1,h⟩:=spl h
  obtain⟨x2,h3,h⟩:=zC h
  obtain⟨l4,h5,h⟩:=zC h
  exact fun j=>lH 1 [] [] [1] [0,3,4] (oD (xR l4)<|oD (zG p0)<|oP 2 (zYF h5 (by simp))<|oA 1 (zFJ (o:=.no) h3)<|oA 0 (zFJ (o:=.no) h3)<|oB 1 h1 o0) (ih _ _ _ _ h)
  obtain rfl:=sj h
  exact fun j=>lF 0 [] (oD (xR v3)<|oB 1 h1 o0)
theorem c10{qq p0 r}(h:e10 qq p0=some r):Ct 10 [] [slv zK p0 .no] (.sl (zJ xQ r) r.length .no) [] 0:=⟨by
 unfold e10 at h
 exact tH ⟨Tryz.func10,rfl⟩ 1 [(none,3,4)] [] [0] [0,3,4] (oD (xR ([]:List yU))<|oD (zG p0) o0) (zYx _ _ _ _ _ h),⟨⟨tv,zG _⟩,tv⟩,zB,xR _,zB⟩
def ofV(c:List zF):List yU:=c.map fun v=>yU.mk v.n_ v.type_
theorem zMU(c:List zF)(hl:c.length≤1048576):∀(r:List zF) (v:Nat) (acc:List yU),c.drop v=r->v≤c.length->acc=(c.take v).map (fun v=>yU.mk v.n_ v.type_)->Evt (fun q=>dX q c acc (v:Int)) (ofV c)
 | [],v,acc,hd,hv,ha=>by
  refine Evt.succ ?_
  simp only[dX]
  refine Evt.ifF (yC hd) (Evt.ret.eq ?_)
  rw[ha,List.take_of_length_le (List.drop_eq_nil_iff.1 hd)];rfl
 |x::r,v,acc,hd,hv,ha=>by
  have hlt:=yE hd
  refine Evt.succ ?_
  simp only[dX]
  refine Evt.ifT (yB hd) (Evt.pure (zX hd) (Evt.pure (yG (by rw[ha];simp;omega)) ?_))
  rw[zU v (by omega)]
  exact zMU c hl r (v+1) _ (zS hd) hlt (by rw[qH hd,List.map_append,ha];rfl)
theorem zSV(c:List zF)(hl:c.length≤1048576):Evt (fun q=>e10 q c) (ofV c):=by
 simp only[e10]
 exact zMU c hl c 0 [] rfl (Nat.zero_le _) rfl
mutual
def zLr:Nat->Tm->Option Bool
 |0,_=>none
 |qq+1,p0=>
 if p0.k==1 then
 if (p0.sub.length:Int) != 0 then
 some false
 else
 if decide (p0.n<0)then
 some false
 else
 if decide (p0.n>1048576)then
 some false
 else
 if p0.k==7 then
 zR p0.sub 0>>=fun x6=>
 if x6.k != 2 then
 some false
 else
 wL qq p0 0 0
 else
 wL qq p0 0 0
 else
 if p0.k==6 then
 if (p0.sub.length:Int) != 0 then
 some false
 else
 if decide (p0.n<0)then
 some false
 else
 if decide (p0.n>1048576)then
 some false
 else
 if p0.k==7 then
 zR p0.sub 0>>=fun x14=>
 if x14.k != 2 then
 some false
 else
 wL qq p0 0 0
 else
 wL qq p0 0 0
 else
 if p0.k==8 then
 if (p0.sub.length:Int) != 0 then
 some false
 else
 if decide (p0.n<0)then
 some false
 else
 if decide (p0.n>1048576)then
 some false
 else
 if p0.k==7 then
 zR p0.sub 0>>=fun x22=>
 if x22.k != 2 then
 some false
 else
 wL qq p0 0 0
 else
 wL qq p0 0 0
 else
 if p0.k==2 then
 if (p0.sub.length:Int) != 0 then
 some false
 else
 if decide (p0.n<0)then
 some false
 else
 if decide (p0.n>7)then
 some false
 else
 if p0.k==7 then
 zR p0.sub 0>>=fun x30=>
 if x30.k != 2 then
 some false
 else
 wL qq p0 0 0
 else
 wL qq p0 0 0
 else
 if p0.k==3 then
 if (p0.sub.length:Int) != 2 then
 some false
 else
 if decide (p0.n<0)then
 some false
 else
 if decide (p0.n>0)then
 some false
 else
 if p0.k==7 then
 zR p0.sub 0>>=fun x38=>
 if x38.k != 2 then
 some false
 else
 wL qq p0 2 0
 else
 wL qq p0 2 0
 else
 if p0.k==4 then
 if (p0.sub.length:Int) != 2 then
 some false
 else
 if decide (p0.n<0)then
 some false
 else
 if decide (p0.n>0)then
 some false
 else
 if p0.k==7 then
 zR p0.sub 0>>=fun x46=>
 if x46.k != 2 then
 some false
 else
 wL qq p0 2 0
 else
 wL qq p0 2 0
 else
 if p0.k==5 then
 if (p0.sub.length:Int) != 2 then
 some false
 else
 if decide (p0.n<0)then
 some false
 else
 if decide (p0.n>0)then
 some false
 else
 if p0.k==7 then
 zR p0.sub 0>>=fun x54=>
 if x54.k != 2 then
 some false
 else
 wL qq p0 2 0
 else
 wL qq p0 2 0
 else
 if p0.k==7 then
 if (p0.sub.length:Int) != 1 then
 some false
 else
 if decide (p0.n<0)then
 some false
 else
 if decide (p0.n>1048576)then
 some false
 else
 zR p0.sub 0>>=fun x61=>
 if x61.k != 2 then
 some false
 else
 wL qq p0 1 0
 else
 some false
def wL:Nat->Tm->Int->Int->Option Bool
 |0,_,_,_=>none
 |qq+1,p0,v3,v5=>
 if decide (v5<v3)then
 zR p0.sub v5>>=fun x10=>
 zLr qq x10>>=fun r12=>
 if r12 then
 wL qq p0 v3 (w64 (v5+1))
 else
 some false
 else
 some true
end
abbrev zVM (p0:Tm) (r:Bool) (C:Cf):Prop:=C 105 [] [tmA p0] (ab r) [] 0
theorem vS:Qf 105 Tryz.f105:=⟨Tryz.func105,rfl⟩
theorem vT{p0 r}(h:zVM p0 r Ci):zVM p0 r Ct:=⟨h,⟨⟨tv,tv,⟨tv,dT _⟩,tv⟩,tv⟩,zB,tv,zB⟩
theorem zJs:∀qq:Nat,(∀p0 r,zLr qq p0=some r->zVM p0 r Ct)∧(∀p0 v3 v5 r,wL qq p0 v3 v5=some r->(∀j,dL 0 (inn (inn (rgt (lft (rgt (rgt (rgt (rgt (rgt (bod Tryz.f105)))))))))) (sp j 61 0 [(1,.mp 0 0),(3,ai v3),(5,ai v5)]) (⟨[(0,.cells [ai p0.k,ai p0.n,slv zH p0.sub .no])],1,[],0,[]⟩) (fQ 0 (nQ 0 Tryz.f105 (ab r) [] 0) [.blk 1,.seq (rgt (rgt (rgt (rgt (rgt (rgt (bod Tryz.f105)))))))]))):=by
 intro qq
 induction qq with
 |zero=>
  exact⟨fun _ _ h=>nn h,fun _ _ _ _ h=>nn h⟩
 |succ qq ih=>
  obtain⟨zWi,vK⟩:=ih
  refine⟨?_,?_⟩
  intro p0 r h
  rw[zLr]at h
  obtain⟨h1,h⟩|⟨h1,h⟩:=spl h
  have k:=oB 1 h1 o0
  obtain⟨h2,h⟩|⟨h2,h⟩:=spl h
  cases h
  exact vT (tF vS 0 [] (oB 2 h2 k))
  have k:=oB 2 h2 k
  obtain⟨h3,h⟩|⟨h3,h⟩:=spl h
  cases h
  exact vT (tF vS 0 [] (oB 1 h3 k))
  have k:=oB 1 h3 k
  obtain⟨h4,h⟩|⟨h4,h⟩:=spl h
  cases h
  exact vT (tF vS 0 [] (oB 1 h4 k))
  have k:=oB 1 h4 k
  obtain⟨h5,h⟩|⟨h5,h⟩:=spl h
  obtain⟨x6,h7,h⟩:=zC h
  have k:=oA 1 (xA (o:=.no) h7)<|oB 1 h5 k
  obtain⟨h8,h⟩|⟨h8,h⟩:=spl h
  cases h
  exact vT (tF vS 0 [] (oB 1 h8 k))
  exact vT (tH vS 0 [] [0] [] [1,3,5] (oD (dT p0.sub)<|oB 1 h8 k) (vK _ _ _ _ h))
  exact vT (tH vS 0 [] [0] [] [1,3,5] (oD (dT p0.sub)<|oB 1 h5 k) (vK _ _ _ _ h))
  have k:=oB 1 h1 o0
  obtain⟨h9,h⟩|⟨h9,h⟩:=spl h
  have k:=oB 0 h9 k
  obtain⟨h10,h⟩|⟨h10,h⟩:=spl h
  cases h
  exact vT (tF vS 0 [] (oB 2 h10 k))
  have k:=oB 2 h10 k
  obtain⟨h11,h⟩|⟨h11,h⟩:=spl h
  cases h
  exact vT (tF vS 0 [] (oB 1 h11 k))
  have k:=oB 1 h11 k
  obtain⟨h12,h⟩|⟨h12,h⟩:=spl h
  cases h
  exact vT (tF vS 0 [] (oB 1 h12 k))
  have k:=oB 1 h12 k
  obtain⟨h13,h⟩|⟨h13,h⟩:=spl h
  obtain⟨x14,h15,h⟩:=zC h
  have k:=oA 1 (xA (o:=.no) h15)<|oB 1 h13 k
  obtain⟨h16,h⟩|⟨h16,h⟩:=spl h
  cases h
  exact vT (tF vS 0 [] (oB 1 h16 k))
  exact vT (tH vS 0 [] [0] [] [1,3,5] (oD (dT p0.sub)<|oB 1 h16 k) (vK _ _ _ _ h))
  exact vT (tH vS 0 [] [0] [] [1,3,5] (oD (dT p0.sub)<|oB 1 h13 k) (vK _ _ _ _ h))
  have k:=oB 0 h9 k
  obtain⟨h17,h⟩|⟨h17,h⟩:=spl h
  have k:=oB 0 h17 k
  obtain⟨h18,h⟩|⟨h18,h⟩:=spl h
  cases h
  exact vT (tF vS 0 [] (oB 2 h18 k))
  have k:=oB 2 h18 k
  obtain⟨h19,h⟩|⟨h19,h⟩:=spl h
  cases h
  exact vT (tF vS 0 [] (oB 1 h19 k))
  have k:=oB 1 h19 k
  obtain⟨h20,h⟩|⟨h20,h⟩:=spl h
  cases h
  exact vT (tF vS 0 [] (oB 1 h20 k))
  have k:=oB 1 h20 k
  obtain⟨h21,h⟩|⟨h21,h⟩:=spl h
  obtain⟨x22,h23,h⟩:=zC h
  have k:=oA 1 (xA (o:=.no) h23)<|oB 1 h21 k
  obtain⟨h24,h⟩|⟨h24,h⟩:=spl h
  cases h
  exact vT (tF vS 0 [] (oB 1 h24 k))
  exact vT (tH vS 0 [] [0] [] [1,3,5] (oD (dT p0.sub)<|oB 1 h24 k) (vK _ _ _ _ h))
  exact vT (tH vS 0 [] [0] [] [1,3,5] (oD (dT p0.sub)<|oB 1 h21 k) (vK _ _ _ _ h))
  have k:=oB 0 h17 k
  obtain⟨h25,h⟩|⟨h25,h⟩:=spl h
  have k:=oB 0 h25 k
  obtain⟨h26,h⟩|⟨h26,h⟩:=spl h
  cases h
  exact vT (tF vS 0 [] (oB 2 h26 k))
  have k:=oB 2 h26 k
  obtain⟨h27,h⟩|⟨h27,h⟩:=spl h
  cases h
  exact vT (tF vS 0 [] (oB 1 h27 k))
  have k:=oB 1 h27 k
  obtain⟨h28,h⟩|⟨h28,h⟩:=spl h
  cases h
  exact vT (tF vS 0 [] (oB 1 h28 k))
  have k:=oB 1 h28 k
  obtain⟨h29,h⟩|⟨h29,h⟩:=spl h
  obtain⟨x30,h31,h⟩:=zC h
  have k:=oA 1 (xA (o:=.no) h31)<|oB 1 h29 k
  obtain⟨h32,h⟩|⟨h32,h⟩:=spl h
  cases h
  exact vT (tF vS 0 [] (oB 1 h32 k))
  exact vT (tH vS 0 [] [0] [] [1,3,5] (oD (dT p0.sub)<|oB 1 h32 k) (vK _ _ _ _ h))
  exact vT (tH vS 0 [] [0] [] [1,3,5] (oD (dT p0.sub)<|oB 1 h29 k) (vK _ _ _ _ h))
  have k:=oB 0 h25 k
  obtain⟨h33,h⟩|⟨h33,h⟩:=spl h
  have k:=oB 0 h33 k
  obtain⟨h34,h⟩|⟨h34,h⟩:=spl h
  cases h
  exact vT (tF vS 0 [] (oB 2 h34 k))
  have k:=oB 2 h34 k
  obtain⟨h35,h⟩|⟨h35,h⟩:=spl h
  cases h
  exact vT (tF vS 0 [] (oB 1 h35 k))
  have k:=oB 1 h35 k
  obtain⟨h36,h⟩|⟨h36,h⟩:=spl h
  cases h
  exact vT (tF vS 0 [] (oB 1 h36 k))
  have k:=oB 1 h36 k
  obtain⟨h37,h⟩|⟨h37,h⟩:=spl h
  obtain⟨x38,h39,h⟩:=zC h
  have k:=oA 1 (xA (o:=.no) h39)<|oB 1 h37 k
  obtain⟨h40,h⟩|⟨h40,h⟩:=spl h
  cases h
  exact vT (tF vS 0 [] (oB 1 h40 k))
  exact vT (tH vS 0 [] [0] [] [1,3,5] (oD (dT p0.sub)<|oB 1 h40 k) (vK _ _ _ _ h))
  exact vT (tH vS 0 [] [0] [] [1,3,5] (oD (dT p0.sub)<|oB 1 h37 k) (vK _ _ _ _ h))
  have k:=oB 0 h33 k
  obtain⟨h41,h⟩|⟨h41,h⟩:=spl h
  have k:=oB 0 h41 k
  obtain⟨h42,h⟩|⟨h42,h⟩:=spl h
  cases h
  exact vT (tF vS 0 [] (oB 2 h42 k))
  have k:=oB 2 h42 k
  obtain⟨h43,h⟩|⟨h43,h⟩:=spl h
  cases h
  exact vT (tF vS 0 [] (oB 1 h43 k))
  have k:=oB 1 h43 k
  obtain⟨h44,h⟩|⟨h44,h⟩:=spl h
  cases h
  exact vT (tF vS 0 [] (oB 1 h44 k))
  have k:=oB 1 h44 k
  obtain⟨h45,h⟩|⟨h45,h⟩:=spl h
  obtain⟨x46,h47,h⟩:=zC h
  have k:=oA 1 (xA (o:=.no) h47)<|oB 1 h45 k
  obtain⟨h48,h⟩|⟨h48,h⟩:=spl h
  cases h
  exact vT (tF vS 0 [] (oB 1 h48 k))
  exact vT (tH vS 0 [] [0] [] [1,3,5] (oD (dT p0.sub)<|oB 1 h48 k) (vK _ _ _ _ h))
  exact vT (tH vS 0 [] [0] [] [1,3,5] (oD (dT p0.sub)<|oB 1 h45 k) (vK _ _ _ _ h))
  have k:=oB 0 h41 k
  obtain⟨h49,h⟩|⟨h49,h⟩:=spl h
  have k:=oB 0 h49 k
  obtain⟨h50,h⟩|⟨h50,h⟩:=spl h
  cases h
  exact vT (tF vS 0 [] (oB 2 h50 k))
  have k:=oB 2 h50 k
  obtain⟨h51,h⟩|⟨h51,h⟩:=spl h
  cases h
  exact vT (tF vS 0 [] (oB 1 h51 k))
  have k:=oB 1 h51 k
  obtain⟨h52,h⟩|⟨h52,h⟩:=spl h
  cases h
  exact vT (tF vS 0 [] (oB 1 h52 k))
  have k:=oB 1 h52 k
  obtain⟨h53,h⟩|⟨h53,h⟩:=spl h
  obtain⟨x54,h55,h⟩:=zC h
  have k:=oA 1 (xA (o:=.no) h55)<|oB 1 h53 k
  obtain⟨h56,h⟩|⟨h56,h⟩:=spl h
  cases h
  exact vT (tF vS 0 [] (oB 1 h56 k))
  exact vT (tH vS 0 [] [0] [] [1,3,5] (oD (dT p0.sub)<|oB 1 h56 k) (vK _ _ _ _ h))
  exact vT (tH vS 0 [] [0] [] [1,3,5] (oD (dT p0.sub)<|oB 1 h53 k) (vK _ _ _ _ h))
  have k:=oB 0 h49 k
  obtain⟨h57,h⟩|⟨h57,h⟩:=spl h
  have k:=oB 0 h57 k
  obtain⟨h58,h⟩|⟨h58,h⟩:=spl h
  cases h
  exact vT (tF vS 0 [] (oB 2 h58 k))
  have k:=oB 2 h58 k
  obtain⟨h59,h⟩|⟨h59,h⟩:=spl h
  cases h
  exact vT (tF vS 0 [] (oB 1 h59 k))
  have k:=oB 1 h59 k
  obtain⟨h60,h⟩|⟨h60,h⟩:=spl h
  cases h
  exact vT (tF vS 0 [] (oB 1 h60 k))
  obtain⟨x61,h62,h⟩:=zC h
  have k:=oA 1 (xA (o:=.no) h62)<|oB 1 h57<|oB 1 h60 k
  obtain⟨h63,h⟩|⟨h63,h⟩:=spl h
  cases h
  exact vT (tF vS 0 [] (oB 1 h63 k))
  exact vT (tH vS 0 [] [0] [] [1,3,5] (oD (dT p0.sub)<|oB 1 h63 k) (vK _ _ _ _ h))
  cases h
  exact vT (tF vS 0 [] (oB 0 h57 k))
  intro p0 v3 v5 r h
  rw[wL]at h
  obtain⟨h9,h⟩|⟨h9,h⟩:=spl h
  obtain⟨x10,h11,h⟩:=zC h
  obtain⟨r12,h13,h⟩:=zC h
  have k:=oA 1 (xA (o:=.no) h11)<|oB 0 h9 o0
  obtain⟨h14,h⟩|⟨h14,h⟩:=spl h
  exact fun j=>lH 2 [] [0] [] [1,3,5] (oD (dT p0.sub)<|oK 1 [] h14 (zWi _ _ h13) k) (vK _ _ _ _ h)
  cases h
  exact fun j=>lF 1 [] (oK 1 [] h14 (zWi _ _ h13) k)
  cases h
  exact fun j=>lF 0 [] (oB 0 h9 o0)
theorem yBc{qq p0 r}(h:zLr qq p0=some r):zVM p0 r Ct:=(zJs _).1 _ _ h
def e70(qq:Nat)(p0:Tm)(p1:Int):Option Int:=
 if p1==1 then
 if p0.k != 5 then
 some 1
 else
 some 0
 else
 some 0
theorem q70:Qf 70 Tryz.f70:=⟨Tryz.func70,rfl⟩
theorem c70{qq p0 p1 r}(h:e70 qq p0 p1=some r):Ct 70 [] [tmA p0,ai p1] (ai r) [] 0:=⟨by
 unfold e70 at h
 obtain⟨h1,h⟩|⟨h1,h⟩:=spl h
 have k:=oB 0 h1 o0
 obtain⟨h2,h⟩|⟨h2,h⟩:=spl h
 cases h
 exact tF q70 0 [] (oB 1 h2 k)
 cases h
 exact tF q70 0 [] (oB 1 h2 k)
 cases h
 exact tF q70 0 [] (oB 0 h1 o0),⟨⟨tv,tv,⟨tv,dT _⟩,tv⟩,tv,tv⟩,zB,tv,zB⟩
mutual
def e38:Nat->Tm->Int->Option Int
 |0,_,_=>none
 |qq+1,p0,p1=>
 if p0.k==1 then
 if decide (p0.n≥p1)then
 some (w64 ((w64 (p0.n-p1))+1))
 else
 jG qq p0 p1 0 0
 else
 jG qq p0 p1 0 0
def jG:Nat->Tm->Int->Int->Int->Option Int
 |0,_,_,_,_=>none
 |qq+1,p0,p1,v5,v6=>
 if decide (v6<(p0.sub.length:Int))then
 zR p0.sub v6>>=fun x4=>
 e70 qq p0 v6>>=fun r6=>
 e38 qq x4 (w64 (p1+r6))>>=fun r8=>
 jG qq p0 p1 (lI v5 r8) (w64 (v6+1))
 else
 some v5
end
abbrev K38 (p0:Tm) (p1 r:Int) (C:Cf):Prop:=C 38 [] [tmA p0,ai p1] (ai r) [] 0
theorem q38:Qf 38 Tryz.f38:=⟨Tryz.func38,rfl⟩
theorem k38{p0 p1 r}(h:K38 p0 p1 r Ci):K38 p0 p1 r Ct:=⟨h,⟨⟨tv,tv,⟨tv,dT _⟩,tv⟩,tv,tv⟩,zB,tv,zB⟩
theorem zPy:∀qq:Nat,(∀p0 p1 r,e38 qq p0 p1=some r->K38 p0 p1 r Ct)∧(∀p0 p1 v5 v6 r,jG qq p0 p1 v5 v6=some r->(∀j,dL 0 (inn (inn (rgt (lft (rgt (rgt (rgt (bod Tryz.f38)))))))) (sp j 42 0 [(1,ai p1),(2,.mp 0 0),(5,ai v5),(6,ai v6)]) (⟨[(0,.cells [ai p0.k,ai p0.n,slv zH p0.sub .no])],1,[],0,[]⟩) (fQ 0 (nQ 0 Tryz.f38 (ai r) [] 0) [.blk 0,.seq (rgt (rgt (rgt (rgt (bod Tryz.f38)))))]))):=by
 intro qq
 induction qq with
 |zero=>
  exact⟨fun _ _ _ h=>nn h,fun _ _ _ _ _ h=>nn h⟩
 |succ qq ih=>
  obtain⟨yBb,zGb⟩:=ih
  refine⟨?_,?_⟩
  intro p0 p1 r h
  rw[e38]at h
  obtain⟨h1,h⟩|⟨h1,h⟩:=spl h
  have k:=oB 1 h1 o0
  obtain⟨h2,h⟩|⟨h2,h⟩:=spl h
  obtain rfl:=sj h
  exact k38 (tF q38 3 [] (oB 1 h2 k))
  exact k38 (tH q38 0 [] [0] [] [1,2,5,6] (oD (dT p0.sub)<|oB 1 h2 k) (zGb _ _ _ _ _ h))
  exact k38 (tH q38 0 [] [0] [] [1,2,5,6] (oD (dT p0.sub)<|oB 1 h1 o0) (zGb _ _ _ _ _ h))
  intro p0 p1 v5 v6 r h
  rw[jG]at h
  obtain⟨h3,h⟩|⟨h3,h⟩:=spl h
  obtain⟨x4,h5,h⟩:=zC h
  obtain⟨r6,h7,h⟩:=zC h
  obtain⟨r8,h9,h⟩:=zC h
  exact fun j=>lH 2 [] [0] [] [1,2,5,6] (oD (dT p0.sub)<|oC 1 [] (yBb _ _ _ h9)<|oC 2 [] (c70 h7)<|oA 0 (xA (o:=.no) h5)<|oCl 0<|oB 2 h3 o0) (zGb _ _ _ _ _ h)
  obtain rfl:=sj h
  exact fun j=>lF 0 [] (oB 2 h3 o0)
theorem c38{qq p0 p1 r}(h:e38 qq p0 p1=some r):K38 p0 p1 r Ct:=(zPy _).1 _ _ _ h
def e68(qq:Nat)(p0:Tm):Option Bool:=
 zSk qq p0>>=fun r1=>
 if decide (r1≤128)then
 zLr qq p0>>=fun r4=>
 some r4
 else
 some false
theorem q68:Qf 68 Tryz.f68:=⟨Tryz.func68,rfl⟩
theorem c68{qq p0 r}(h:e68 qq p0=some r):Ct 68 [] [tmA p0] (ab r) [] 0:=⟨by
 unfold e68 at h
 obtain⟨r1,h2,h⟩:=zC h
 have k:=oC 1 [] (yBn h2) o0
 obtain⟨h3,h⟩|⟨h3,h⟩:=spl h
 obtain⟨r4,h5,h⟩:=zC h
 obtain rfl:=sj h
 exact tF q68 0 [] (oC 1 [] (yBc h5)<|oB 0 h3 k)
 obtain rfl:=sj h
 exact tF q68 0 [] (oB 0 h3 k),⟨⟨tv,tv,⟨tv,dT _⟩,tv⟩,tv⟩,zB,tv,zB⟩
theorem tK(k n:Int)(l:List Tm):yY (.mk k n l)=(tT (.mk k n l)&&wH l):=by rw[yY]
mutual
theorem zJr:∀(t:Tm),t.Ok->Evt (fun q=>zLr q t) (yY t)
 | .mk k n l,ho=>by
  refine Evt.succ ?_
  simp only[zLr]
  have hL:∀c:Nat,l.length=c->Evt (fun q=>wL q (.mk k n l) (c:Int) 0) (wH l):=fun c hc=>
   zFt l (.mk k n l) 0 c rfl (by simpa[Tm.sub]using hc) ho.1 ho.2
  by_cases h1:k=1
  ·subst h1
   refine Evt.ifT rfl ((aD (p:=.mk 1 n l) (c:=0) (m:=1048576) (r:=wH l) fun hc _ _=>Evt.ifF rfl (hL 0 hc)).eq ?_)
   rw[tK];simp[tT,Tm.k,Tm.n,Tm.sub]
   cases wH l<;>simp[Bool.and_comm,Bool.and_left_comm,Bool.and_assoc]
  refine Evt.ifF (by simpa[Tm.k]using h1) ?_
  by_cases h6:k=6
  ·subst h6
   refine Evt.ifT rfl ((aD (p:=.mk 6 n l) (c:=0) (m:=1048576) (r:=wH l) fun hc _ _=>Evt.ifF rfl (hL 0 hc)).eq ?_)
   rw[tK];simp[tT,Tm.k,Tm.n,Tm.sub]
   cases wH l<;>simp[Bool.and_comm,Bool.and_left_comm,Bool.and_assoc]
  refine Evt.ifF (by simpa[Tm.k]using h6) ?_
  by_cases h8:k=8
  ·subst h8
   refine Evt.ifT rfl ((aD (p:=.mk 8 n l) (c:=0) (m:=1048576) (r:=wH l) fun hc _ _=>Evt.ifF rfl (hL 0 hc)).eq ?_)
   rw[tK];simp[tT,Tm.k,Tm.n,Tm.sub]
   cases wH l<;>simp[Bool.and_comm,Bool.and_left_comm,Bool.and_assoc]
  refine Evt.ifF (by simpa[Tm.k]using h8) ?_
  by_cases h2:k=2
  ·subst h2
   refine Evt.ifT rfl ((aD (p:=.mk 2 n l) (c:=0) (m:=7) (r:=wH l) fun hc _ _=>Evt.ifF rfl (hL 0 hc)).eq ?_)
   rw[tK];simp[tT,Tm.k,Tm.n,Tm.sub]
   cases wH l<;>simp[Bool.and_comm,Bool.and_left_comm,Bool.and_assoc]
  refine Evt.ifF (by simpa[Tm.k]using h2) ?_
  by_cases h3:k=3
  ·subst h3
   refine Evt.ifT rfl ((aD (p:=.mk 3 n l) (c:=2) (m:=0) (r:=wH l) fun hc _ _=>Evt.ifF rfl (hL 2 hc)).eq ?_)
   rw[tK];simp[tT,Tm.k,Tm.n,Tm.sub]
   cases wH l<;>simp[Bool.and_comm,Bool.and_left_comm,Bool.and_assoc]
  refine Evt.ifF (by simpa[Tm.k]using h3) ?_
  by_cases h4:k=4
  ·subst h4
   refine Evt.ifT rfl ((aD (p:=.mk 4 n l) (c:=2) (m:=0) (r:=wH l) fun hc _ _=>Evt.ifF rfl (hL 2 hc)).eq ?_)
   rw[tK];simp[tT,Tm.k,Tm.n,Tm.sub]
   cases wH l<;>simp[Bool.and_comm,Bool.and_left_comm,Bool.and_assoc]
  refine Evt.ifF (by simpa[Tm.k]using h4) ?_
  by_cases h5:k=5
  ·subst h5
   refine Evt.ifT rfl ((aD (p:=.mk 5 n l) (c:=2) (m:=0) (r:=wH l) fun hc _ _=>Evt.ifF rfl (hL 2 hc)).eq ?_)
   rw[tK];simp[tT,Tm.k,Tm.n,Tm.sub]
   cases wH l<;>simp[Bool.and_comm,Bool.and_left_comm,Bool.and_assoc]
  refine Evt.ifF (by simpa[Tm.k]using h5) ?_
  by_cases h7:k=7
  ·subst h7
   refine Evt.ifT rfl ?_
   rcases l with _|⟨x,l⟩
   ·refine(aD (p:=.mk 7 n []) (c:=1) (m:=1048576) (r:=false) fun hc _ _=>by simp[Tm.sub]at hc).eq ?_
    rw[tK];simp[tT,Tm.k,Tm.n,Tm.sub]
   ·refine(aD (p:=.mk 7 n (x::l)) (c:=1) (m:=1048576) (r:=(x.k==2)&&wH (x::l)) fun hc _ _=>Evt.pure (a:=x) rfl ?_).eq ?_
    ·by_cases hx:x.k=2
     ·refine Evt.ifF (by simp[hx]) ((hL 1 (by simpa[Tm.sub]using hc)).eq (by simp[hx]))
     ·exact Evt.ifT (by simp[hx]) (Evt.ret.eq (by simp[hx]))
    ·rw[tK];simp[tT,Tm.k,Tm.n,Tm.sub]
     cases wH (x::l)<;>cases (x.k==2)<;>simp[Bool.and_comm,Bool.and_left_comm,Bool.and_assoc]
  refine Evt.ifF (by simpa[Tm.k]using h7) (Evt.ret.eq ?_)
  rw[tK]
  have:tT (.mk k n l)=false:=by
   simp only[tT,Tm.k]
   by_cases h9:1≤k∧k≤8
   ·omega
   ·by_cases h10:1≤k
    ·simp[show ¬k≤8 by omega]
    ·simp[h10]
  simp[this]
theorem zFt:∀(l:List Tm) (p:Tm) (v c:Nat),p.sub.drop v=l->p.sub.length=c->p.sub.length<9223372036854775808->OkL l->Evt (fun q=>wL q p (c:Int) (v:Int)) (wH l)
 | [],p,v,c,hd,hc,hl,ho=>by
  refine Evt.succ ?_
  simp only[wL]
  rw[wH,←hc]
  exact Evt.ifF (yC hd) Evt.ret
 |t::l,p,v,c,hd,hc,hl,ho=>by
  refine Evt.succ ?_
  simp only[wL]
  refine Evt.ifT (by rw[←hc];exact yB hd) (Evt.pure (zX hd) ((zJr t ho.1).bind ?_))
  rw[wH]
  cases yY t with
  |false=>exact Evt.ifF rfl Evt.ret
  |true=>
   refine Evt.ifT rfl ?_
   rw[zU v (by have:=yE hd;omega)]
   exact zFt l p (v+1) c (zS hd) hc hl ho.2
end
theorem zLq(t:Tm)(ho:t.Ok):Evt (fun q=>e68 q t) (zM t):=by
 simp only[e68]
 refine(zOI t).bind ?_
 unfold zM zSi
 by_cases h1:t.nodes≤8192
 ·rw[if_pos h1]
  by_cases h2:t.high≤128
  ·exact Evt.ifT (by simp<;>omega) (((zJr t ho).bind Evt.ret).eq (by simp[h1,h2]))
  ·exact Evt.ifF (by simp<;>omega) (Evt.ret.eq (by simp[h2]))
 ·rw[if_neg h1]
  exact Evt.ifF (by simp) (Evt.ret.eq (by simp[h1]))
def zVN(k:Int)(i:Nat):Int:=if i=1∧k≠5 then 1 else 0
theorem zJq(t:Tm)(i:Nat):Evt (fun q=>e70 q t (i:Int)) (zVN t.k i):=by
 refine Evt.mk fun q=>?_
 simp only[e70,zVN]
 by_cases h1:i=1
 ·subst h1;by_cases h5:t.k=5<;>simp[h5]
 ·have:¬((i:Int)=1):=by omega
  simp[h1,this]
theorem zVO{k n:Int}{l:List Tm}(h:tT (.mk k n l)=true){i:Nat}(hi:i<l.length):zVN k i=eN k i:=by
 unfold eN zVN
 by_cases h1:i=1
 ·subst h1
  have hs:=uP h
  simp only[Tm.k,Tm.n,Tm.sub]at hs
  have:k=3∨k=4∨k=5:=by
   by_cases h7:k=7
   ·obtain⟨x,hx,_⟩:=hs.2.2.2.2.2.2.1 h7
    rw[hx]at hi;simp at hi
   ·by_cases h3:k=1∨k=2∨k=6∨k=8
    ·rw[hs.2.2.2.2.2.2.2.1 h3]at hi;simp at hi
    ·omega
  rcases this with rfl|rfl|rfl<;>simp
 ·simp[h1]
mutual
theorem zFs:∀(t:Tm) (b:Int),yY t=true->0≤b->b+t.high≤4611686018427387904->Evt (fun q=>e38 q t b) (oZ t b)
 | .mk k n l,b,hg,h0,h1=>by
  refine Evt.succ ?_
  simp only[e38,Tm.k,Tm.n]
  have hh:=vB hg
  have hn:=lU hh.1
  have hl:Evt (fun q=>jG q (.mk k n l) b 0 0) (jL l k 0 b):=
   (zDN l (.mk k n l) 0 b 0 rfl hh.1 hh.2 h0 (by omega) (by rw[Tm.high]at h1;omega)).eq (by have:=zFO l k 0 b;simp only[Tm.k];omega)
  rw[Tm.high]at h1
  rw[oZ]
  by_cases hk:k=1
  ·rw[if_pos hk]
   refine Evt.ifT (by simpa using hk) ?_
   by_cases hb:n≥b
   ·refine Evt.ifT (by simpa using hb) (Evt.ret.eq ?_)
    rw[yI (x:=n-b) (by omega) (by omega),yI (by omega) (by omega)];omega
   ·refine Evt.ifF (by simpa using hb) (hl.eq ?_)
    have:l=[]:=by
     have:=hh.1
     subst hk
     simp[tT,Tm.k,Tm.n,Tm.sub]at this
     exact this.2.1
    subst this
    rw[jL];omega
  ·rw[if_neg hk]
   exact Evt.ifF (by simpa using hk) hl
theorem zDN:∀(l:List Tm) (p:Tm) (v:Nat) (b m:Int),p.sub.drop v=l->tT p=true->wH l=true->0≤b->0≤m->b+1+wT l≤4611686018427387904->Evt (fun q=>jG q p b m (v:Int)) (max m (jL l p.k v b))
 | [],p,v,b,m,hd,hp,ho,h0,hm,h1=>by
  refine Evt.succ ?_
  simp only[jG]
  rw[jL]
  exact Evt.ifF (yC hd) (Evt.ret.eq (by omega))
 |t::l,p,v,b,m,hd,hp,ho,h0,hm,h1=>by
  refine Evt.succ ?_
  simp only[jG]
  have hg:=xX ho
  have hu:=zLQ p.k v
  have hlt:=yE hd
  obtain⟨k,n,ls⟩:=p
  have hls:=(lU hp).2.2.2.2
  simp only[Tm.sub]at hlt hd
  have he:=zVO hp hlt
  rw[wT]at h1
  refine Evt.ifT (yB hd) (Evt.pure (zX hd) ((zJq (.mk k n ls) v).bind ?_))
  simp only[Tm.k]at hu ⊢
  rw[he,yI (x:=b+eN k v) (by omega) (by omega)]
  refine(zFs t (b+eN k v) hg.1 (by omega) (by omega)).bind ?_
  rw[zU v (by omega),zFN]
  refine(zDN l (.mk k n ls) (v+1) b _ (zS hd) hp hg.2 h0 (by omega) (by omega)).eq ?_
  simp only[Tm.k]
  rw[jL];omega
end
def e67(qq:Nat)(p0:Int):Option Bool:=
 if decide (p0≥0)then
 some (decide (p0≤1048576))
 else
 some false
theorem q67:Qf 67 Tryz.f67:=⟨Tryz.func67,rfl⟩
theorem c67{qq p0 r}(h:e67 qq p0=some r):Ct 67 [] [ai p0] (ab r) [] 0:=⟨by
 unfold e67 at h
 obtain⟨h1,h⟩|⟨h1,h⟩:=spl h
 cases h
 exact tF q67 1 [] (oB 0 h1 o0)
 cases h
 exact tF q67 0 [] (oB 0 h1 o0),⟨tv,tv⟩,zB,tv,zB⟩
def dY:Nat->List yU->Int->Option Bool
 |0,_,_=>none
 |qq+1,p0,v3=>
 if decide (v3<(p0.length:Int))then
 zR p0 v3>>=fun x2=>
 e67 qq x2.n_>>=fun r4=>
 if r4 then
 e68 qq x2.type_>>=fun r7=>
 if r7 then
 dY qq p0 (w64 (v3+1))
 else
 some false
 else
 some false
 else
 some (decide ((p0.length:Int)≤256))
def e36(qq:Nat)(p0:List yU):Option Bool:=
 dY qq p0 0
theorem zYw:∀qq:Nat,(∀p0 v3 r,dY qq p0 v3=some r->(∀j,dL 0 (inn (inn (rgt (lft (rgt (bod Tryz.f36)))))) (sp j 29 0 [(0,slv xQ p0 .no),(3,ai v3)]) (⟨[],0,[],0,[]⟩) (fQ 0 (nQ 0 Tryz.f36 (ab r) [] 0) [.blk 0,.seq (rgt (rgt (bod Tryz.f36)))]))):=by
 intro qq
 induction qq with
 |zero=>
  exact fun _ _ _ h=>nn h
 |succ qq ih=>
  intro p0 v3 r h
  rw[dY]at h
  obtain⟨h1,h⟩|⟨h1,h⟩:=spl h
  obtain⟨x2,h3,h⟩:=zC h
  obtain⟨r4,h5,h⟩:=zC h
  have k:=oA 0 (zDX (o:=.no) h3)<|oB 1 h1 o0
  obtain⟨h6,h⟩|⟨h6,h⟩:=spl h
  obtain⟨r7,h8,h⟩:=zC h
  have k:=oA 1 (zDX (o:=.no) h3)<|oK 1 [] h6 (c67 h5) k
  obtain⟨h9,h⟩|⟨h9,h⟩:=spl h
  exact fun j=>lH 2 [] [] [] [0,3] (oD (xR p0)<|oK 1 [] h9 (c68 h8) k) (ih _ _ _ h)
  cases h
  exact fun j=>lF 1 [] (oK 1 [] h9 (c68 h8) k)
  cases h
  exact fun j=>lF 1 [] (oK 1 [] h6 (c67 h5) k)
  cases h
  exact fun j=>lF 2 [] (oB 1 h1 o0)
theorem c36{qq p0 r}(h:e36 qq p0=some r):Ct 36 [] [slv xQ p0 .no] (ab r) [] 0:=⟨by
 unfold e36 at h
 exact tH ⟨Tryz.func36,rfl⟩ 0 [] [] [] [0,3] (oD (xR p0) o0) (zYw _ _ _ _ h),⟨⟨tv,xR _⟩,tv⟩,zB,tv,zB⟩
def dZ:Nat->List yU->Int->Int->Option Int
 |0,_,_,_=>none
 |qq+1,p0,p1,v5=>
 if decide (v5<(p0.length:Int))then
 zR p0 v5>>=fun x2=>
 if x2.n_==p1 then
 some v5
 else
 dZ qq p0 p1 (w64 (v5+1))
 else
 some (-1)
def e69(qq:Nat)(p0:List yU)(p1:Int):Option Int:=
 dZ qq p0 p1 0
theorem zYv:∀qq:Nat,(∀p0 p1 v5 r,dZ qq p0 p1 v5=some r->(∀j,dL 0 (inn (inn (rgt (lft (rgt (bod Tryz.f69)))))) (sp j 20 0 [(0,slv xQ p0 .no),(1,ai p1),(5,ai v5)]) (⟨[],0,[],0,[]⟩) (fQ 0 (nQ 0 Tryz.f69 (ai r) [] 0) [.blk 0,.seq (rgt (rgt (bod Tryz.f69)))]))):=by
 intro qq
 induction qq with
 |zero=>
  exact fun _ _ _ _ h=>nn h
 |succ qq ih=>
  intro p0 p1 v5 r h
  rw[dZ]at h
  obtain⟨h1,h⟩|⟨h1,h⟩:=spl h
  obtain⟨x2,h3,h⟩:=zC h
  have k:=oA 0 (zDX (o:=.no) h3)<|oB 1 h1 o0
  obtain⟨h4,h⟩|⟨h4,h⟩:=spl h
  obtain rfl:=sj h
  exact fun j=>lF 0 [] (oB 1 h4 k)
  exact fun j=>lH 1 [] [] [] [0,1,5] (oD (xR p0)<|oB 1 h4 k) (ih _ _ _ _ h)
  obtain rfl:=sj h
  exact fun j=>lF 0 [] (oB 1 h1 o0)
theorem c69{qq p0 p1 r}(h:e69 qq p0 p1=some r):Ct 69 [] [slv xQ p0 .no,ai p1] (ai r) [] 0:=⟨by
 unfold e69 at h
 exact tH ⟨Tryz.func69,rfl⟩ 0 [] [] [] [0,1,5] (oD (xR p0) o0) (zYv _ _ _ _ _ h),⟨⟨tv,xR _⟩,tv,tv⟩,zB,tv,zB⟩
def cA:Nat->List yU->Int->Option Bool
 |0,_,_=>none
 |qq+1,p0,v3=>
 if decide (v3<(p0.length:Int))then
 zR p0 v3>>=fun x2=>
 e69 qq p0 x2.n_>>=fun r4=>
 if r4 != v3 then
 some false
 else
 cA qq p0 (w64 (v3+1))
 else
 some true
def e37(qq:Nat)(p0:List yU):Option Bool:=
 cA qq p0 0
theorem zYu:∀qq:Nat,(∀p0 v3 r,cA qq p0 v3=some r->(∀j,dL 0 (inn (inn (rgt (lft (rgt (bod Tryz.f37)))))) (sp j 19 0 [(0,slv xQ p0 .no),(3,ai v3)]) (⟨[],0,[],0,[]⟩) (fQ 0 (nQ 0 Tryz.f37 (ab r) [] 0) [.blk 0,.seq (rgt (rgt (bod Tryz.f37)))]))):=by
 intro qq
 induction qq with
 |zero=>
  exact fun _ _ _ h=>nn h
 |succ qq ih=>
  intro p0 v3 r h
  rw[cA]at h
  obtain⟨h1,h⟩|⟨h1,h⟩:=spl h
  obtain⟨x2,h3,h⟩:=zC h
  obtain⟨r4,h5,h⟩:=zC h
  have k:=oC 1 [] (c69 h5)<|oA 0 (zDX (o:=.no) h3)<|oB 1 h1 o0
  obtain⟨h6,h⟩|⟨h6,h⟩:=spl h
  cases h
  exact fun j=>lF 0 [] (oB 0 h6 k)
  exact fun j=>lH 1 [] [] [] [0,3] (oD (xR p0)<|oB 0 h6 k) (ih _ _ _ h)
  cases h
  exact fun j=>lF 0 [] (oB 1 h1 o0)
theorem c37{qq p0 r}(h:e37 qq p0=some r):Ct 37 [] [slv xQ p0 .no] (ab r) [] 0:=⟨by
 unfold e37 at h
 exact tH ⟨Tryz.func37,rfl⟩ 0 [] [] [] [0,3] (oD (xR p0) o0) (zYu _ _ _ _ h),⟨⟨tv,xR _⟩,tv⟩,zB,tv,zB⟩
mutual
def gA:Nat->List yU->Int->Option Bool
 |0,_,_=>none
 |qq+1,p0,v3=>
 if decide (v3<(p0.length:Int))then
 zR p0 v3>>=fun x8=>
 e38 qq x8.type_ 0>>=fun r10=>
 if decide (r10>0)then
 some false
 else
 cB qq p0 v3 v3
 else
 some true
def cB:Nat->List yU->Int->Int->Option Bool
 |0,_,_,_=>none
 |qq+1,p0,v3,v4=>
 if decide (v4<(p0.length:Int))then
 zR p0 v3>>=fun x14=>
 zR p0 v4>>=fun x16=>
 e11 qq x14.type_ x16.n_>>=fun r18=>
 if r18 then
 some false
 else
 cB qq p0 v3 (w64 (v4+1))
 else
 gA qq p0 (w64 (v3+1))
end
def e12(qq:Nat)(p0:List yU):Option Bool:=
 e36 qq p0>>=fun r1=>
 if r1 then
 e37 qq p0>>=fun r4=>
 if r4 then
 gA qq p0 0
 else
 some false
 else
 some false
theorem q12:Qf 12 Tryz.f12:=⟨Tryz.func12,rfl⟩
theorem zGa:∀qq:Nat,(∀p0 v3 r,gA qq p0 v3=some r->(∀j,dL 0 (inn (inn (rgt (lft (rgt (rgt (bod Tryz.f12))))))) (sp j 44 0 [(0,slv xQ p0 .no),(3,ai v3)]) (⟨[],0,[],0,[]⟩) (fQ 0 (nQ 0 Tryz.f12 (ab r) [] 0) [.blk 0,.seq (rgt (rgt (rgt (bod Tryz.f12))))])))∧(∀p0 v3 v4 r,cB qq p0 v3 v4=some r->(∀j,dL 0 (inn (inn (rgt (rgt (inn (lft (rgt (inn (inn (rgt (lft (rgt (rgt (bod Tryz.f12)))))))))))))) (sp j 44 0 [(0,slv xQ p0 .no),(3,ai v3),(4,ai v4)]) (⟨[],0,[],0,[]⟩) (fQ 0 (nQ 0 Tryz.f12 (ab r) [] 0) [.blk 2,.blk 1,.seq (rgt (rgt (inn (inn (rgt (lft (rgt (rgt (bod Tryz.f12))))))))),.loop (inn (inn (rgt (lft (rgt (rgt (bod Tryz.f12))))))),.blk 0,.seq (rgt (rgt (rgt (bod Tryz.f12))))]))):=by
 intro qq
 induction qq with
 |zero=>
  exact⟨fun _ _ _ h=>nn h,fun _ _ _ _ h=>nn h⟩
 |succ qq ih=>
  obtain⟨zVP,zMV⟩:=ih
  refine⟨?_,?_⟩
  intro p0 v3 r h
  rw[gA]at h
  obtain⟨h7,h⟩|⟨h7,h⟩:=spl h
  obtain⟨x8,h9,h⟩:=zC h
  obtain⟨r10,h11,h⟩:=zC h
  have k:=oC 1 [] (c38 h11)<|oA 0 (zDX (o:=.no) h9)<|oB 1 h7 o0
  obtain⟨h12,h⟩|⟨h12,h⟩:=spl h
  cases h
  exact fun j=>lF 0 [] (oB 0 h12 k)
  exact fun j=>lH 0 [] [] [] [0,3,4] (oD (xR p0)<|oB 0 h12 k) (zMV _ _ _ _ h)
  cases h
  exact fun j=>lF 0 [] (oB 1 h7 o0)
  intro p0 v3 v4 r h
  rw[cB]at h
  obtain⟨h13,h⟩|⟨h13,h⟩:=spl h
  obtain⟨x14,h15,h⟩:=zC h
  obtain⟨x16,h17,h⟩:=zC h
  obtain⟨r18,h19,h⟩:=zC h
  have k:=oA 1 (zDX (o:=.no) h17)<|oA 0 (zDX (o:=.no) h15)<|oB 1 h13 o0
  obtain⟨h20,h⟩|⟨h20,h⟩:=spl h
  cases h
  exact fun j=>lF 0 [] (oK 1 [] h20 (c11 h19) k)
  exact fun j=>lH 1 [] [] [] [0,3,4] (oD (xR p0)<|oK 1 [] h20 (c11 h19) k) (zMV _ _ _ _ h)
  exact fun j=>lH 1 [] [] [] [0,3] (oD (xR p0)<|oB 1 h13 o0) (zVP _ _ _ h)
theorem c12{qq p0 r}(h:e12 qq p0=some r):Ct 12 [] [slv xQ p0 .no] (ab r) [] 0:=⟨by
 unfold e12 at h
 obtain⟨r1,h2,h⟩:=zC h
 obtain⟨h3,h⟩|⟨h3,h⟩:=spl h
 obtain⟨r4,h5,h⟩:=zC h
 have k:=oK 0 [] h3 (c36 h2) o0
 obtain⟨h6,h⟩|⟨h6,h⟩:=spl h
 exact tH q12 1 [] [] [] [0,3] (oD (xR p0)<|oK 1 [] h6 (c37 h5) k) (((zGa _).1) _ _ _ h)
 cases h
 exact tF q12 1 [] (oK 1 [] h6 (c37 h5) k)
 cases h
 exact tF q12 1 [] (oK 0 [] h3 (c36 h2) o0),⟨⟨tv,xR _⟩,tv⟩,zB,tv,zB⟩
theorem zPx{l:List Ent}{t:Tm}(h:uB l t):oZ t 0≤0:=by
 unfold uB sN at h
 simp only[Bool.and_eq_true,decide_eq_true_eq]at h
 exact h.1.2
theorem zLp{n:Int}(h0:0≤n)(h1:n≤1048576):Evt (fun q=>e67 q n) true:=by
 simp only[e67]
 exact Evt.ifT (decide_eq_true h0) (Evt.ret.eq (decide_eq_true h1))
theorem fY(D:List yU)(hl:D.length≤256):∀(r:List yU) (v:Nat),D.drop v=r->(∀x∈r,0≤x.n_∧x.n_≤1048576∧zM x.type_=true)->Evt (fun q=>dY q D (v:Int)) true
 | [],v,hd,h=>by
  refine Evt.succ ?_
  simp only[dY]
  exact Evt.ifF (yC hd) (Evt.ret.eq (decide_eq_true (by omega)))
 |x::r,v,hd,h=>by
  have hlt:=yE hd
  obtain⟨h0,h1,h2⟩:=h x (by simp)
  refine Evt.succ ?_
  simp only[dY]
  refine Evt.ifT (yB hd) (Evt.pure (zX hd) ((zLp h0 h1).bind (Evt.ifT rfl (((zLq x.type_ (zY h2)).eq h2).bind (Evt.ifT rfl ?_)))))
  rw[zU v (by omega)]
  exact fY D hl r (v+1) (zS hd) fun y hy=>h y (by simp[hy])
theorem zBn(D:List yU)(n:Int)(hl:D.length≤256)(v:Nat)(x:yU)(hx:D[v]? = some x)(hn:x.n_=n)(hb:∀(k:Nat) (y:yU),k<v->D[k]? = some y->y.n_≠n):∀(m k:Nat),k+m=v->Evt (fun q=>dZ q D n (k:Int)) (v:Int)
 |0,k,hk=>by
  have hv:=(List.getElem?_eq_some_iff.1 hx).1
  obtain rfl:k=v:=by omega
  refine Evt.succ ?_
  simp only[dZ]
  exact Evt.ifT (decide_eq_true (by omega)) (Evt.pure (tP hx) (Evt.ifT (by simp[hn]) Evt.ret))
 |m+1,k,hk=>by
  have hv:=(List.getElem?_eq_some_iff.1 hx).1
  obtain⟨y,hy⟩:∃y,D[k]? = some y:=⟨_,List.getElem?_eq_getElem (by omega)⟩
  refine Evt.succ ?_
  simp only[dZ]
  refine Evt.ifT (decide_eq_true (by omega)) (Evt.pure (tP hy) (Evt.ifF (by simpa using hb k y (by omega) hy) ?_))
  rw[zU k (by omega)]
  exact zBn D n hl v x hx hn hb m (k+1) (by omega)
theorem zBm(D:List yU)(hl:D.length≤256)(hnd:(D.map (·.n_)).Nodup):∀(r:List yU) (v:Nat),D.drop v=r->Evt (fun q=>cA q D (v:Int)) true
 | [],v,hd=>by
  refine Evt.succ ?_
  simp only[cA]
  exact Evt.ifF (yC hd) Evt.ret
 |x::r,v,hd=>by
  have hlt:=yE hd
  have hx:D[v]? = some x:=by rw[←List.head?_drop,hd];rfl
  have hp:Evt (fun q=>e69 q D x.n_) (v:Int):=by
   simp only[e69]
   refine zBn D x.n_ hl v x hx rfl (fun k y hk hy e=>?_) v 0 (by omega)
   have:=(List.pairwise_iff_getElem.1 hnd) k v (by simp;omega) (by simp;omega) hk
   rw[List.getElem_map,List.getElem_map]at this
   obtain⟨a1,a2⟩:=List.getElem?_eq_some_iff.1 hx
   obtain⟨b1,b2⟩:=List.getElem?_eq_some_iff.1 hy
   rw[a2,b2]at this
   exact this e
  refine Evt.succ ?_
  simp only[cA]
  refine Evt.ifT (yB hd) (Evt.pure (zX hd) (hp.bind (Evt.ifF (by simp) ?_)))
  rw[zU v (by omega)]
  exact zBm D hl hnd r (v+1) (zS hd)
theorem aQ(D:List yU)(hl:D.length≤256)(x:yU)(v:Nat)(hx:zR D (v:Int)=some x)(hs:zM x.type_=true)(K:Evt (fun q=>gA q D (w64 ((v:Int)+1))) true):∀(r:List yU) (k:Nat),D.drop k=r->(∀y∈r,¬y.n_∈frT x.type_)->Evt (fun q=>cB q D (v:Int) (k:Int)) true
 | [],k,hd,h=>by
  refine Evt.succ ?_
  simp only[cB]
  exact Evt.ifF (yC hd) K
 |y::r,k,hd,h=>by
  have hlt:=yE hd
  refine Evt.succ ?_
  simp only[cB]
  refine Evt.ifT (yB hd) (Evt.pure hx (Evt.pure (zX hd) ((dW hs (h y (by simp))).bind (Evt.ifF rfl ?_))))
  rw[zU k (by omega)]
  exact aQ D hl x v hx hs K r (k+1) (zS hd) fun z hz=>h z (by simp[hz])
theorem aR(D:List yU)(hl:D.length≤256):∀(r:List yU) (v:Nat),D.drop v=r->(∀x∈r,zM x.type_=true∧oZ x.type_ 0≤0∧¬x.n_∈frT x.type_)->(r.Pairwise fun v w=>¬w.n_∈frT v.type_)->Evt (fun q=>gA q D (v:Int)) true
 | [],v,hd,h,hp=>by
  refine Evt.succ ?_
  simp only[gA]
  exact Evt.ifF (yC hd) Evt.ret
 |x::r,v,hd,h,hp=>by
  have hlt:=yE hd
  obtain⟨h0,h1,h2⟩:=h x (by simp)
  have hh:=zQ h0
  have hp':=List.pairwise_cons.1 hp
  refine Evt.succ ?_
  simp only[gA]
  refine Evt.ifT (yB hd) (Evt.pure (zX hd) ((zFs x.type_ 0 hh.2.2 (by omega) (by omega)).bind (Evt.ifF (decide_eq_false (by omega)) ?_)))
  refine aQ D hl x v (zX hd) h0 ?_ (x::r) v hd fun y hy=>?_
  ·rw[zU v (by omega)]
   exact aR D hl r (v+1) (zS hd) (fun y hy=>h y (by simp[hy])) hp'.2
  ·rcases List.mem_cons.1 hy with rfl|hy
   ·exact h2
   ·exact hp'.1 y hy
theorem zJp{c:List zF}(h:zIK c)(hm:∀v∈c,oZ v.type_ 0≤0):Evt (fun q=>e12 q (ofV c)) true:=by
 have hl:(ofV c).length≤256:=by unfold ofV;rw[List.length_map];exact h.len
 have hmem:∀x∈ofV c,∃v∈c,x=yU.mk v.n_ v.type_:=fun x hx=>by
  obtain⟨v,hv,rfl⟩:=List.mem_map.1 hx
  exact⟨v,hv,rfl⟩
 simp only[e12,e36,e37]
 refine(fY (ofV c) hl _ 0 rfl fun x hx=>?_).bind (Evt.ifT rfl ((zBm (ofV c) hl ?_ _ 0 rfl).bind (Evt.ifT rfl (aR (ofV c) hl _ 0 rfl (fun x hx=>?_) ?_))))
 ·obtain⟨v,hv,rfl⟩:=hmem x hx
  exact⟨(h.each v hv).1,(h.each v hv).2.1,(h.each v hv).2.2.1⟩
 ·unfold ofV;rw[List.map_map];exact h.nd
 ·obtain⟨v,hv,rfl⟩:=hmem x hx
  exact⟨(h.each v hv).2.2.1,hm v hv,h.self v hv⟩
 ·unfold ofV;rw[List.drop_zero,List.pairwise_map];exact h.ord
def cC:Nat->List yU->List Tm->Int->Option (List Tm)
 |0,_,_,_=>none
 |qq+1,p0,v3,v4=>
 if decide (v4<(p0.length:Int))then
 zR p0 v4>>=fun x2=>
 yT 40 v3 [x2.type_]>>=fun l4=>
 cC qq p0 l4 (w64 (v4+1))
 else
 some v3
def e31(qq:Nat)(p0:List yU):Option (List Tm):=
 cC qq p0 [] 0
theorem zYt:∀qq:Nat,(∀p0 v3 v4 r,cC qq p0 v3 v4=some r->(∀j,dL 0 (inn (inn (rgt (lft (rgt (rgt (bod Tryz.f31))))))) (sp j 21 0 [(0,slv xQ p0 .no),(3,slv zH v3 (.st 0 3)),(4,ai v4)]) (⟨[],0,[0],1,[]⟩) (fQ 0 (nQ 0 Tryz.f31 (slv zH r (.st 0 3)) [] 1) [.blk 0,.seq (rgt (rgt (rgt (bod Tryz.f31))))]))):=by
 intro qq
 induction qq with
 |zero=>
  exact fun _ _ _ _ h=>nn h
 |succ qq ih=>
  intro p0 v3 v4 r h
  rw[cC]at h
  obtain⟨h1,h⟩|⟨h1,h⟩:=spl h
  obtain⟨x2,h3,h⟩:=zC h
  obtain⟨l4,h5,h⟩:=zC h
  exact fun j=>lH 1 [] [] [1] [0,3,4] (oD (dT l4)<|oD (xR p0)<|oP 0 (vA h5 (by simp))<|oS 1 (yW xE [x2.type_])<|oA 0 (zDX (o:=.no) h3)<|oB 1 h1 o0) (ih _ _ _ _ h)
  obtain rfl:=sj h
  exact fun j=>lG 0 [] [] [0] true (oD (dT v3)<|oB 1 h1 o0)
theorem c31{qq p0 r}(h:e31 qq p0=some r):Ct 31 [] [slv xQ p0 .no] (slv zH r (.st 0 3)) [] 1:=⟨by
 unfold e31 at h
 exact tH ⟨Tryz.func31,rfl⟩ 1 [(none,3,3)] [] [0] [0,3,4] (oD (dT ([]:List Tm))<|oD (xR p0) o0) (zYt _ _ _ _ _ h),⟨⟨tv,xR _⟩,tv⟩,zB,dT _,zB⟩
def zBZ(qq:Nat)(p1:List zF)(p2 p3:List Tm)(q3 q4:Int):Option Unit:=
 some ()
theorem zVQ{qq p1 p2 p3 q3 q4 r}(h:zBZ qq p1 p2 p3 q3 q4=some r):Ct 64 [.cells [ai q3,ai q4]] [.val (.pointer none),slv zK p1 .no,slv zH p2 .no,slv zH p3 .no,.mp 0 0] (.tup [.val (.pointer none),ab false]) [.cells [ai q3,ai q4]] 0:=⟨by
 unfold zBZ at h
 cases h
 exact tF ⟨Tryz.func64,rfl⟩ 1 [0] (o0),⟨tv,⟨tv,zG _⟩,⟨tv,dT _⟩,⟨tv,dT _⟩,(lz rfl),tv⟩,(zA ⟨tv,tv,tv⟩ zB),⟨tv,tv,tv⟩,(zA ⟨tv,tv,tv⟩ zB)⟩
def gZ(qq:Nat)(p1:List zF)(p2 p3:List Tm)(q3 q4:Int):Option (yA×Int):=
 zBZ qq p1 p2 p3 q3 q4>>=fun r1=>
 some ((yA.mk false [] [] []),5)
theorem zMW{qq p1 p2 p3 q3 q4 r}(h:gZ qq p1 p2 p3 q3 q4=some r):Ct 34 [.cells [ai q3,ai q4]] [.val (.pointer none),slv zK p1 .no,slv zH p2 .no,slv zH p3 .no,.mp 0 0] (.tup [wG r.1,ai r.2]) [.cells [ai q3,ai q4]] 0:=⟨by
 unfold gZ at h
 obtain⟨r1,h2,h⟩:=zC h
 cases h
 exact tF ⟨Tryz.func34,rfl⟩ 4 [0] (oD (dI ([]:List Int))<|oD (zL ([]:List zI))<|oD (zG ([]:List zF))<|oC 0 [0] (zVQ h2) o0),⟨tv,⟨tv,zG _⟩,⟨tv,dT _⟩,⟨tv,dT _⟩,(lz rfl),tv⟩,(zA ⟨tv,tv,tv⟩ zB),⟨⟨tv,zG _,zL _,dI _,tv⟩,tv,tv⟩,(zA ⟨tv,tv,tv⟩ zB)⟩
def zDO:Nat->List Tm->Int->Option Bool
 |0,_,_=>none
 |qq+1,l16,v4=>
 if decide (v4<(l16.length:Int))then
 zR l16 v4>>=fun x20=>
 e15 qq x20>>=fun r22=>
 if decide (r22>150)then
 some false
 else
 zDO qq l16 (w64 (v4+1))
 else
 some true
def e7(qq:Nat)(p0:wV):Option Bool:=
 if decide ((p0.c_.length:Int)>12)then
 some false
 else
 if decide ((p0.a_.length:Int)>8)then
 some false
 else
 if decide ((p0.b_.length:Int)>8)then
 some false
 else
 if decide (p0.fuel_<0)then
 some false
 else
 if decide (p0.fuel_>400)then
 some false
 else
 e10 qq p0.c_>>=fun r6=>
 e31 qq r6>>=fun r8=>
 yT 40 ([]:List Tm) r8>>=fun l10=>
 yT 40 l10 p0.a_>>=fun l13=>
 yT 40 l13 p0.b_>>=fun l16=>
 zDO qq l16 0
theorem q7:Qf 7 Tryz.f7:=⟨Tryz.func7,rfl⟩
theorem zBl:∀qq:Nat,(∀l16 v4 r,zDO qq l16 v4=some r->(∀j,dL 0 (inn (inn (rgt (lft (rgt (rgt (rgt (bod Tryz.f7)))))))) (sp j 55 0 [(3,slv zH l16 .full),(4,ai v4)]) (⟨[],0,[],0,[]⟩) (fQ 0 (nQ 0 Tryz.f7 (ab r) [] 0) [.blk 0,.seq (rgt (rgt (rgt (rgt (bod Tryz.f7)))))]))∧(∀j,dL 0 (inn (inn (rgt (lft (rgt (rgt (rgt (bod Tryz.f7)))))))) (sp j 55 0 [(3,slv zH l16 (.st 0 3)),(4,ai v4)]) (⟨[],0,[0],1,[]⟩) (fQ 0 (nQ 0 Tryz.f7 (ab r) [] 0) [.blk 0,.seq (rgt (rgt (rgt (rgt (bod Tryz.f7)))))]))):=by
 intro qq
 induction qq with
 |zero=>
  exact fun _ _ _ h=>nn h
 |succ qq ih=>
  intro l16 v4 r h
  rw[zDO]at h
  refine⟨?_,?_⟩
  obtain⟨h19,h⟩|⟨h19,h⟩:=spl h
  obtain⟨x20,h21,h⟩:=zC h
  obtain⟨r22,h23,h⟩:=zC h
  have k:=oC 1 [] (c15 h23)<|oA 0 (xA (o:=.full) h21)<|oB 1 h19 o0
  obtain⟨h24,h⟩|⟨h24,h⟩:=spl h
  cases h
  exact fun j=>lF 0 [] (oB 0 h24 k)
  exact fun j=>lH 1 [] [] [] [3,4] (oD (dT l16)<|oB 0 h24 k) ((ih _ _ _ h).1)
  cases h
  exact fun j=>lF 0 [] (oB 1 h19 o0)
  obtain⟨h19,h⟩|⟨h19,h⟩:=spl h
  obtain⟨x20,h21,h⟩:=zC h
  obtain⟨r22,h23,h⟩:=zC h
  have k:=oC 1 [] (c15 h23)<|oA 0 (xA (o:=(.st 0 3)) h21)<|oB 1 h19 o0
  obtain⟨h24,h⟩|⟨h24,h⟩:=spl h
  cases h
  exact fun j=>lF 0 [] (oB 0 h24 k)
  exact fun j=>lH 1 [] [] [0] [3,4] (oD (dT l16)<|oB 0 h24 k) ((ih _ _ _ h).2)
  cases h
  exact fun j=>lF 0 [] (oB 1 h19 o0)
theorem c7{qq p0 r}(h:e7 qq p0=some r):Ct 7 [] [zCD p0] (ab r) [] 0:=⟨by
 unfold e7 at h
 obtain⟨h1,h⟩|⟨h1,h⟩:=spl h
 cases h
 exact tF q7 0 [] (oB 2 h1 o0)
 have k:=oB 2 h1 o0
 obtain⟨h2,h⟩|⟨h2,h⟩:=spl h
 cases h
 exact tF q7 0 [] (oB 2 h2 k)
 have k:=oB 2 h2 k
 obtain⟨h3,h⟩|⟨h3,h⟩:=spl h
 cases h
 exact tF q7 0 [] (oB 2 h3 k)
 have k:=oB 2 h3 k
 obtain⟨h4,h⟩|⟨h4,h⟩:=spl h
 cases h
 exact tF q7 0 [] (oB 1 h4 k)
 have k:=oB 1 h4 k
 obtain⟨h5,h⟩|⟨h5,h⟩:=spl h
 cases h
 exact tF q7 0 [] (oB 1 h5 k)
 obtain⟨r6,h7,h⟩:=zC h
 obtain⟨r8,h9,h⟩:=zC h
 obtain⟨l10,h11,h⟩:=zC h
 have k:=oC 0 [] (c31 h9)<|oC 2 [] (c10 h7)<|oB 1 h5 k
 by_cases h12:List.length r8=0
 obtain⟨l13,h14,h⟩:=zC h
 have k:=oCl 0<|oP 0 (rV h11 h12) k
 by_cases h15:List.length p0.a_=0
 obtain⟨l16,h17,h⟩:=zC h
 have k:=oCl 0<|oP 0 (rV h14 h15) k
 by_cases h18:List.length p0.b_=0
 exact tH q7 0 [] [] [] [3,4] (oD (dT l16)<|oP 0 (rV h17 h18) k) ((zBl _ _ _ _ h).1)
 exact tH q7 0 [] [] [1] [3,4] (oD (dT l16)<|oP 0 (vA h17 h18) k) ((zBl _ _ _ _ h).2)
 obtain⟨l16,h17,h⟩:=zC h
 have k:=oCl 0<|oP 0 (vA h14 h15) k
 by_cases h18:List.length p0.b_=0
 exact tH q7 0 [] [] [1] [3,4] (oD (dT l16)<|oP 0 (rV h17 h18) k) ((zBl _ _ _ _ h).2)
 exact tH q7 0 [] [] [2] [3,4] (oD (dT l16)<|oP 0 (vA h17 h18) k) ((zBl _ _ _ _ h).2)
 obtain⟨l13,h14,h⟩:=zC h
 have k:=oCl 0<|oP 0 (vA h11 h12) k
 by_cases h15:List.length p0.a_=0
 obtain⟨l16,h17,h⟩:=zC h
 have k:=oCl 0<|oP 0 (rV h14 h15) k
 by_cases h18:List.length p0.b_=0
 exact tH q7 0 [] [] [1] [3,4] (oD (dT l16)<|oP 0 (rV h17 h18) k) ((zBl _ _ _ _ h).2)
 exact tH q7 0 [] [] [2] [3,4] (oD (dT l16)<|oP 0 (vA h17 h18) k) ((zBl _ _ _ _ h).2)
 obtain⟨l16,h17,h⟩:=zC h
 have k:=oCl 0<|oP 0 (vA h14 h15) k
 by_cases h18:List.length p0.b_=0
 exact tH q7 0 [] [] [2] [3,4] (oD (dT l16)<|oP 0 (rV h17 h18) k) ((zBl _ _ _ _ h).2)
 exact tH q7 0 [] [] [3] [3,4] (oD (dT l16)<|oP 0 (vA h17 h18) k) ((zBl _ _ _ _ h).2),⟨⟨⟨tv,zG _⟩,⟨tv,dT _⟩,⟨tv,dT _⟩,tv,tv⟩,tv⟩,zB,tv,zB⟩
def e21(qq:Nat)(p0:Int):Option Tm:=
 some (Tm.mk 8 p0 [])
theorem c21{qq p0 r}(h:e21 qq p0=some r):Ct 21 [] [ai p0] (tmA r) [] 0:=⟨by
 unfold e21 at h
 cases h
 exact tF ⟨Tryz.func21,rfl⟩ 1 [] (oD (dT ([]:List Tm)) o0),⟨tv,tv⟩,zB,⟨tv,tv,dT _,tv⟩,zB⟩
def e63(qq:Nat)(p0 p1:Int):Option Tm:=
 some (Tm.mk p0 p1 [])
theorem c63{qq p0 p1 r}(h:e63 qq p0 p1=some r):Ct 63 [] [ai p0,ai p1] (tmA r) [] 0:=⟨by
 unfold e63 at h
 cases h
 exact tF ⟨Tryz.func63,rfl⟩ 1 [] (oD (dT ([]:List Tm)) o0),⟨tv,tv,tv⟩,zB,⟨tv,tv,dT _,tv⟩,zB⟩
def e33(qq:Nat)(p0:Int):Option Tm:=
 e63 qq 6 p0>>=fun r1=>
 some r1
theorem c33{qq p0 r}(h:e33 qq p0=some r):Ct 33 [] [ai p0] (tmA r) [] 0:=⟨by
 unfold e33 at h
 obtain⟨r1,h2,h⟩:=zC h
 obtain rfl:=sj h
 exact tF ⟨Tryz.func33,rfl⟩ 1 [] (oD (dT r1.sub)<|oC 0 [] (c63 h2) o0),⟨tv,tv⟩,zB,⟨tv,tv,dT _,tv⟩,zB⟩
def e71(qq:Nat)(p0:Int)(p1 p2:Tm):Option Tm:=
 some (Tm.mk p0 0 [p1,p2])
theorem c71{qq p0 p1 p2 r}(h:e71 qq p0 p1 p2=some r):Ct 71 [] [ai p0,tmA p1,tmA p2] (tmA r) [] 0:=⟨by
 unfold e71 at h
 cases h
 exact tF ⟨Tryz.func71,rfl⟩ 1 [] (oD (dT [p1,p2])<|oS 2 (yW xE [p1,p2]) o0),⟨tv,⟨tv,tv,⟨tv,dT _⟩,tv⟩,⟨tv,tv,⟨tv,dT _⟩,tv⟩,tv⟩,zB,⟨tv,tv,dT _,tv⟩,zB⟩
def zGA:Nat->List Tm->Int->Int->Int->List Tm->Option Tm
 |0,_,_,_,_,_=>none
 |qq+1,p1,v5,zW,wI,xU=>
 if decide (v5<(p1.length:Int))then
 zR p1 v5>>=fun x2=>
 e71 qq 5 (Tm.mk zW wI xU) x2>>=fun r4=>
 zGA qq p1 (w64 (v5+1)) r4.k r4.n r4.sub
 else
 some (Tm.mk zW wI xU)
def e66(qq:Nat)(p0:Tm)(p1:List Tm):Option Tm:=
 zGA qq p1 0 p0.k p0.n p0.sub
theorem zYs:∀qq:Nat,(∀p1 v5 zW wI xU r,zGA qq p1 v5 zW wI xU=some r->(∀j,dL 0 (inn (inn (rgt (lft (rgt (bod Tryz.f66)))))) (sp j 19 0 [(1,slv zH p1 .no),(2,.mp 0 0),(4,.mp 1 0),(5,ai v5)]) (⟨[(0,.cells [ai zW,ai wI,slv zH xU .no]),(1,.cells [ai 0,ai 0,slv zH ([]:List Tm) .nl])],2,[],0,[]⟩) (fQ 0 (nQ 0 Tryz.f66 (tmA r) [] 0) [.blk 0,.seq (rgt (rgt (bod Tryz.f66)))]))):=by
 intro qq
 induction qq with
 |zero=>
  exact fun _ _ _ _ _ _ h=>nn h
 |succ qq ih=>
  intro p1 v5 zW wI xU r h
  rw[zGA]at h
  obtain⟨h1,h⟩|⟨h1,h⟩:=spl h
  obtain⟨x2,h3,h⟩:=zC h
  obtain⟨r4,h5,h⟩:=zC h
  exact fun j=>lH 2 [] [0,1] [] [1,2,4,5] (oD (dT p1)<|oD (dT ([]:List Tm))<|oD (dT r4.sub)<|oC 1 [] (c71 h5)<|oA 1 (xA (o:=.no) h3)<|oB 1 h1 o0) (ih _ _ _ _ _ _ h)
  cases h
  exact fun j=>lF 2 [] (oD (dT xU)<|oB 1 h1 o0)
theorem c66{qq p0 p1 r}(h:e66 qq p0 p1=some r):Ct 66 [] [tmA p0,slv zH p1 .no] (tmA r) [] 0:=⟨by
 unfold e66 at h
 exact tH ⟨Tryz.func66,rfl⟩ 0 [] [0,1] [] [1,2,4,5] (oD (dT p1)<|oD (dT ([]:List Tm))<|oD (dT p0.sub) o0) (zYs _ _ _ _ _ _ _ h),⟨⟨tv,tv,⟨tv,dT _⟩,tv⟩,⟨tv,dT _⟩,tv⟩,zB,⟨tv,tv,dT _,tv⟩,zB⟩
def e35(qq:Nat)(p0:Tm)(p1:List Tm):Option Tm:=
 e66 qq p0 p1>>=fun r1=>
 some r1
theorem c35{qq p0 p1 r}(h:e35 qq p0 p1=some r):Ct 35 [] [tmA p0,slv zH p1 .no] (tmA r) [] 0:=⟨by
 unfold e35 at h
 obtain⟨r1,h2,h⟩:=zC h
 obtain rfl:=sj h
 exact tF ⟨Tryz.func35,rfl⟩ 1 [] (oD (dT r1.sub)<|oC 1 [] (c66 h2) o0),⟨⟨tv,tv,⟨tv,dT _⟩,tv⟩,⟨tv,dT _⟩,tv⟩,zB,⟨tv,tv,dT _,tv⟩,zB⟩
def e39(qq:Nat)(p0:ByteArray)(p1:Tm)(p2 p3:Int)(p4:List Int):Option Ent:=
 some (Ent.mk 1 p0 p1 (Tm.mk 0 0 []) 0 0 p2 p3 0 p4 [])
theorem c39{qq p0 p1 p2 p3 p4 r}(h:e39 qq p0 p1 p2 p3 p4=some r):Ct 39 [] [at' p0,tmA p1,ai p2,ai p3,slv zV p4 .no] (zWB r) [] 0:=⟨by
 unfold e39 at h
 cases h
 exact tF ⟨Tryz.func39,rfl⟩ 2 [] (oD (dI ([]:List Int))<|oD (dI p4)<|oD (dT ([]:List Tm))<|oD (dT p1.sub) o0),⟨tv,⟨tv,tv,⟨tv,dT _⟩,tv⟩,tv,tv,⟨tv,dI _⟩,tv⟩,zB,⟨tv,tv,tv,tv,dT _,tv,tv,dT _,tv,tv,tv,tv,tv,dI _,dI _,tv⟩,zB⟩
def e40(qq:Nat)(p0 p1:Tm):Option Tm:=
 e71 qq 3 p0 p1>>=fun r1=>
 some r1
theorem c40{qq p0 p1 r}(h:e40 qq p0 p1=some r):Ct 40 [] [tmA p0,tmA p1] (tmA r) [] 0:=⟨by
 unfold e40 at h
 obtain⟨r1,h2,h⟩:=zC h
 obtain rfl:=sj h
 exact tF ⟨Tryz.func40,rfl⟩ 1 [] (oD (dT r1.sub)<|oC 2 [] (c71 h2) o0),⟨⟨tv,tv,⟨tv,dT _⟩,tv⟩,⟨tv,tv,⟨tv,dT _⟩,tv⟩,tv⟩,zB,⟨tv,tv,dT _,tv⟩,zB⟩
def e41(qq:Nat)(p0:Int):Option Tm:=
 e63 qq 2 p0>>=fun r1=>
 some r1
theorem c41{qq p0 r}(h:e41 qq p0=some r):Ct 41 [] [ai p0] (tmA r) [] 0:=⟨by
 unfold e41 at h
 obtain⟨r1,h2,h⟩:=zC h
 obtain rfl:=sj h
 exact tF ⟨Tryz.func41,rfl⟩ 1 [] (oD (dT r1.sub)<|oC 0 [] (c63 h2) o0),⟨tv,tv⟩,zB,⟨tv,tv,dT _,tv⟩,zB⟩
def e42(qq:Nat)(p0:Int):Option Tm:=
 e63 qq 1 p0>>=fun r1=>
 some r1
theorem c42{qq p0 r}(h:e42 qq p0=some r):Ct 42 [] [ai p0] (tmA r) [] 0:=⟨by
 unfold e42 at h
 obtain⟨r1,h2,h⟩:=zC h
 obtain rfl:=sj h
 exact tF ⟨Tryz.func42,rfl⟩ 1 [] (oD (dT r1.sub)<|oC 0 [] (c63 h2) o0),⟨tv,tv⟩,zB,⟨tv,tv,dT _,tv⟩,zB⟩
def e43(qq:Nat)(p0 p1:Tm):Option Tm:=
 e71 qq 4 p0 p1>>=fun r1=>
 some r1
theorem c43{qq p0 p1 r}(h:e43 qq p0 p1=some r):Ct 43 [] [tmA p0,tmA p1] (tmA r) [] 0:=⟨by
 unfold e43 at h
 obtain⟨r1,h2,h⟩:=zC h
 obtain rfl:=sj h
 exact tF ⟨Tryz.func43,rfl⟩ 1 [] (oD (dT r1.sub)<|oC 2 [] (c71 h2) o0),⟨⟨tv,tv,⟨tv,dT _⟩,tv⟩,⟨tv,tv,⟨tv,dT _⟩,tv⟩,tv⟩,zB,⟨tv,tv,dT _,tv⟩,zB⟩
def e72(qq:Nat)(p0 p1:Int)(p2:List Tm):Option Tm:=
 some (Tm.mk p0 p1 p2)
theorem c72{qq p0 p1 p2 r}(h:e72 qq p0 p1 p2=some r):Ct 72 [] [ai p0,ai p1,slv zH p2 .no] (tmA r) [] 0:=⟨by
 unfold e72 at h
 cases h
 exact tF ⟨Tryz.func72,rfl⟩ 1 [] (oD (dT p2) o0),⟨tv,tv,⟨tv,dT _⟩,tv⟩,zB,⟨tv,tv,dT _,tv⟩,zB⟩
def e44(qq:Nat)(p0 p1:Int):Option Tm:=
 e41 qq p1>>=fun r1=>
 e72 qq 7 p0 [r1]>>=fun r3=>
 some r3
theorem c44{qq p0 p1 r}(h:e44 qq p0 p1=some r):Ct 44 [] [ai p0,ai p1] (tmA r) [] 0:=⟨by
 unfold e44 at h
 obtain⟨r1,h2,h⟩:=zC h
 obtain⟨r3,h4,h⟩:=zC h
 obtain rfl:=sj h
 exact tF ⟨Tryz.func44,rfl⟩ 1 [] (oD (dT r3.sub)<|oC 0 [] (c72 h4)<|oS 0 (yW xE [r1])<|oC 0 [] (c41 h2) o0),⟨tv,tv,tv⟩,zB,⟨tv,tv,dT _,tv⟩,zB⟩
def e45(qq:Nat)(p0:ByteArray)(p1:Tm)(p2 p3 p4:Int):Option Ent:=
 some (Ent.mk 2 p0 p1 (Tm.mk 0 0 []) p2 p3 p4 0 0 [] [])
theorem c45{qq p0 p1 p2 p3 p4 r}(h:e45 qq p0 p1 p2 p3 p4=some r):Ct 45 [] [at' p0,tmA p1,ai p2,ai p3,ai p4] (zWB r) [] 0:=⟨by
 unfold e45 at h
 cases h
 exact tF ⟨Tryz.func45,rfl⟩ 2 [] (oD (dI ([]:List Int))<|oD (dI ([]:List Int))<|oD (dT ([]:List Tm))<|oD (dT p1.sub) o0),⟨tv,⟨tv,tv,⟨tv,dT _⟩,tv⟩,tv,tv,tv,tv⟩,zB,⟨tv,tv,tv,tv,dT _,tv,tv,dT _,tv,tv,tv,tv,tv,dI _,dI _,tv⟩,zB⟩
def e46(qq:Nat)(p0:ByteArray)(p1:Tm)(p2:Int):Option Ent:=
 some (Ent.mk 4 p0 p1 (Tm.mk 0 0 []) 14 p2 2 0 0 [] [])
theorem c46{qq p0 p1 p2 r}(h:e46 qq p0 p1 p2=some r):Ct 46 [] [at' p0,tmA p1,ai p2] (zWB r) [] 0:=⟨by
 unfold e46 at h
 cases h
 exact tF ⟨Tryz.func46,rfl⟩ 2 [] (oD (dI ([]:List Int))<|oD (dI ([]:List Int))<|oD (dT ([]:List Tm))<|oD (dT p1.sub) o0),⟨tv,⟨tv,tv,⟨tv,dT _⟩,tv⟩,tv,tv⟩,zB,⟨tv,tv,tv,tv,dT _,tv,tv,dT _,tv,tv,tv,tv,tv,dI _,dI _,tv⟩,zB⟩
def e13(qq:Nat)  : Option (List Ent):=
 e33 qq 0>>=fun r1=>
 e41 qq 0>>=fun r3=>
 e40 qq r3 r3>>=fun r5=>
 e40 qq r3 r5>>=fun r7=>
 e39 qq (⟨#[80,97,105,114]⟩:ByteArray) r7 2 0 [15]>>=fun r9=>
 e33 qq 14>>=fun r11=>
 e42 qq 1>>=fun r13=>
 e42 qq 0>>=fun r15=>
 e35 qq r11 [r13,r15]>>=fun r17=>
 e44 qq 0 0>>=fun r19=>
 e43 qq r1 r1>>=fun r21=>
 e33 qq 2>>=fun r23=>
 e35 qq r23 [r15]>>=fun r25=>
 e43 qq r1 r25>>=fun r27=>
 e43 qq r1 r27>>=fun r29=>
 e35 qq r19 [r21,r15,r29,r13]>>=fun r31=>
 e43 qq r1 r31>>=fun r33=>
 e43 qq r1 r33>>=fun r35=>
 e39 qq (⟨#[78,97,116]⟩:ByteArray) r3 0 0 [1,2]>>=fun r37=>
 e45 qq (⟨#[122,101,114,111]⟩:ByteArray) r1 0 0 0>>=fun r39=>
 e40 qq r1 r1>>=fun r41=>
 e45 qq (⟨#[115,117,99]⟩:ByteArray) r41 0 1 0>>=fun r43=>
 e39 qq (⟨#[66,111,111,108]⟩:ByteArray) r3 0 0 [4,5]>>=fun r45=>
 e33 qq 3>>=fun r47=>
 e45 qq (⟨#[116,114,117,101]⟩:ByteArray) r47 3 0 0>>=fun r49=>
 e45 qq (⟨#[102,97,108,115,101]⟩:ByteArray) r47 3 1 0>>=fun r51=>
 e39 qq (⟨#[76,105,115,116]⟩:ByteArray) r5 1 0 [7,8]>>=fun r53=>
 e33 qq 6>>=fun r55=>
 e35 qq r55 [r15]>>=fun r57=>
 e40 qq r3 r57>>=fun r59=>
 e45 qq (⟨#[110,105,108]⟩:ByteArray) r59 6 0 1>>=fun r61=>
 e35 qq r55 [r13]>>=fun r63=>
 e42 qq 2>>=fun r65=>
 e35 qq r55 [r65]>>=fun r67=>
 e40 qq r63 r67>>=fun r69=>
 e40 qq r15 r69>>=fun r71=>
 e40 qq r3 r71>>=fun r73=>
 e45 qq (⟨#[99,111,110,115]⟩:ByteArray) r73 6 1 1>>=fun r75=>
 e40 qq r1 r3>>=fun r77=>
 e40 qq r3 r77>>=fun r79=>
 e39 qq (⟨#[86,101,99]⟩:ByteArray) r79 1 1 [10,11]>>=fun r81=>
 e33 qq 9>>=fun r83=>
 e33 qq 1>>=fun r85=>
 e35 qq r83 [r15,r85]>>=fun r87=>
 e40 qq r3 r87>>=fun r89=>
 e45 qq (⟨#[118,110,105,108]⟩:ByteArray) r89 9 0 1>>=fun r91=>
 e35 qq r83 [r65,r13]>>=fun r93=>
 e42 qq 3>>=fun r95=>
 e35 qq r23 [r65]>>=fun r97=>
 e35 qq r83 [r95,r97]>>=fun r99=>
 e40 qq r93 r99>>=fun r101=>
 e40 qq r13 r101>>=fun r103=>
 e40 qq r1 r103>>=fun r105=>
 e40 qq r3 r105>>=fun r107=>
 e45 qq (⟨#[118,99,111,110,115]⟩:ByteArray) r107 9 1 1>>=fun r109=>
 e40 qq r13 r3>>=fun r111=>
 e40 qq r15 r111>>=fun r113=>
 e40 qq r3 r113>>=fun r115=>
 e39 qq (⟨#[69,113]⟩:ByteArray) r115 2 1 [13]>>=fun r117=>
 e33 qq 12>>=fun r119=>
 e35 qq r119 [r13,r15,r15]>>=fun r121=>
 e40 qq r15 r121>>=fun r123=>
 e40 qq r3 r123>>=fun r125=>
 e45 qq (⟨#[114,101,102,108]⟩:ByteArray) r125 12 0 2>>=fun r127=>
 e35 qq r11 [r95,r65]>>=fun r129=>
 e40 qq r13 r129>>=fun r131=>
 e40 qq r13 r131>>=fun r133=>
 e40 qq r3 r133>>=fun r135=>
 e40 qq r3 r135>>=fun r137=>
 e45 qq (⟨#[112,97,105,114]⟩:ByteArray) r137 14 0 2>>=fun r139=>
 e40 qq r17 r65>>=fun r141=>
 e40 qq r3 r141>>=fun r143=>
 e40 qq r3 r143>>=fun r145=>
 e46 qq (⟨#[102,115,116]⟩:ByteArray) r145 0>>=fun r147=>
 e40 qq r17 r13>>=fun r149=>
 e40 qq r3 r149>>=fun r151=>
 e40 qq r3 r151>>=fun r153=>
 e46 qq (⟨#[115,110,100]⟩:ByteArray) r153 1>>=fun r155=>
 e39 qq (⟨#[84,114,101,101]⟩:ByteArray) r3 0 0 [19,20]>>=fun r157=>
 e33 qq 18>>=fun r159=>
 e45 qq (⟨#[108,101,97,102]⟩:ByteArray) r159 18 0 0>>=fun r161=>
 e40 qq r1 r159>>=fun r163=>
 e40 qq r163 r159>>=fun r165=>
 e45 qq (⟨#[110,111,100,101]⟩:ByteArray) r165 18 1 0>>=fun r167=>
 e40 qq r1 r41>>=fun r169=>
 e40 qq r15 r13>>=fun r171=>
 e40 qq r3 r171>>=fun r173=>
 e43 qq r15 r15>>=fun r175=>
 e43 qq r3 r175>>=fun r177=>
 some [r37,r39,r43,r45,r49,r51,r53,r61,r75,r81,r91,r109,r117,r127,(Ent.mk r9.kind r9.name r9.type r9.body r9.fam r9.place r9.pars r9.inds r9.level r9.cons [16,17]),r139,r147,r155,r157,r161,r167,(Ent.mk 3 (⟨#[112,108,117,115]⟩:ByteArray) r169 r35 0 0 0 0 0 [] []),(Ent.mk 3 (⟨#[105,100]⟩:ByteArray) r173 r177 0 0 0 0 0 [] [])]
theorem c13{qq r}(h:e13 qq  = some r):Ct 13 [] [] (.sl (zJ yN r) r.length .no) [] 0:=⟨by
 unfold e13 at h
 obtain⟨r1,h2,h⟩:=zC h
 obtain⟨r3,h4,h⟩:=zC h
 obtain⟨r5,h6,h⟩:=zC h
 obtain⟨r7,h8,h⟩:=zC h
 obtain⟨r9,h10,h⟩:=zC h
 obtain⟨r11,h12,h⟩:=zC h
 obtain⟨r13,h14,h⟩:=zC h
 obtain⟨r15,h16,h⟩:=zC h
 obtain⟨r17,h18,h⟩:=zC h
 obtain⟨r19,h20,h⟩:=zC h
 obtain⟨r21,h22,h⟩:=zC h
 obtain⟨r23,h24,h⟩:=zC h
 obtain⟨r25,h26,h⟩:=zC h
 obtain⟨r27,h28,h⟩:=zC h
 obtain⟨r29,h30,h⟩:=zC h
 obtain⟨r31,h32,h⟩:=zC h
 obtain⟨r33,h34,h⟩:=zC h
 obtain⟨r35,h36,h⟩:=zC h
 obtain⟨r37,h38,h⟩:=zC h
 obtain⟨r39,h40,h⟩:=zC h
 obtain⟨r41,h42,h⟩:=zC h
 obtain⟨r43,h44,h⟩:=zC h
 obtain⟨r45,h46,h⟩:=zC h
 obtain⟨r47,h48,h⟩:=zC h
 obtain⟨r49,h50,h⟩:=zC h
 obtain⟨r51,h52,h⟩:=zC h
 obtain⟨r53,h54,h⟩:=zC h
 obtain⟨r55,h56,h⟩:=zC h
 obtain⟨r57,h58,h⟩:=zC h
 obtain⟨r59,h60,h⟩:=zC h
 obtain⟨r61,h62,h⟩:=zC h
 obtain⟨r63,h64,h⟩:=zC h
 obtain⟨r65,h66,h⟩:=zC h
 obtain⟨r67,h68,h⟩:=zC h
 obtain⟨r69,h70,h⟩:=zC h
 obtain⟨r71,h72,h⟩:=zC h
 obtain⟨r73,h74,h⟩:=zC h
 obtain⟨r75,h76,h⟩:=zC h
 obtain⟨r77,h78,h⟩:=zC h
 obtain⟨r79,h80,h⟩:=zC h
 obtain⟨r81,h82,h⟩:=zC h
 obtain⟨r83,h84,h⟩:=zC h
 obtain⟨r85,h86,h⟩:=zC h
 obtain⟨r87,h88,h⟩:=zC h
 obtain⟨r89,h90,h⟩:=zC h
 obtain⟨r91,h92,h⟩:=zC h
 obtain⟨r93,h94,h⟩:=zC h
 obtain⟨r95,h96,h⟩:=zC h
 obtain⟨r97,h98,h⟩:=zC h
 obtain⟨r99,h100,h⟩:=zC h
 obtain⟨r101,h102,h⟩:=zC h
 obtain⟨r103,h104,h⟩:=zC h
 obtain⟨r105,h106,h⟩:=zC h
 obtain⟨r107,h108,h⟩:=zC h
 obtain⟨r109,h110,h⟩:=zC h
 obtain⟨r111,h112,h⟩:=zC h
 obtain⟨r113,h114,h⟩:=zC h
 obtain⟨r115,h116,h⟩:=zC h
 obtain⟨r117,h118,h⟩:=zC h
 obtain⟨r119,h120,h⟩:=zC h
 obtain⟨r121,h122,h⟩:=zC h
 obtain⟨r123,h124,h⟩:=zC h
 obtain⟨r125,h126,h⟩:=zC h
 obtain⟨r127,h128,h⟩:=zC h
 obtain⟨r129,h130,h⟩:=zC h
 obtain⟨r131,h132,h⟩:=zC h
 obtain⟨r133,h134,h⟩:=zC h
 obtain⟨r135,h136,h⟩:=zC h
 obtain⟨r137,h138,h⟩:=zC h
 obtain⟨r139,h140,h⟩:=zC h
 obtain⟨r141,h142,h⟩:=zC h
 obtain⟨r143,h144,h⟩:=zC h
 obtain⟨r145,h146,h⟩:=zC h
 obtain⟨r147,h148,h⟩:=zC h
 obtain⟨r149,h150,h⟩:=zC h
 obtain⟨r151,h152,h⟩:=zC h
 obtain⟨r153,h154,h⟩:=zC h
 obtain⟨r155,h156,h⟩:=zC h
 obtain⟨r157,h158,h⟩:=zC h
 obtain⟨r159,h160,h⟩:=zC h
 obtain⟨r161,h162,h⟩:=zC h
 obtain⟨r163,h164,h⟩:=zC h
 obtain⟨r165,h166,h⟩:=zC h
 obtain⟨r167,h168,h⟩:=zC h
 obtain⟨r169,h170,h⟩:=zC h
 obtain⟨r171,h172,h⟩:=zC h
 obtain⟨r173,h174,h⟩:=zC h
 obtain⟨r175,h176,h⟩:=zC h
 obtain⟨r177,h178,h⟩:=zC h
 cases h
 exact tF ⟨Tryz.func13,rfl⟩ 1 [] (oD (dE [r37,r39,r43,r45,r49,r51,r53,r61,r75,r81,r91,r109,r117,r127,(Ent.mk r9.kind r9.name r9.type r9.body r9.fam r9.place r9.pars r9.inds r9.level r9.cons [16,17]),r139,r147,r155,r157,r161,r167,(Ent.mk 3 (⟨#[112,108,117,115]⟩:ByteArray) r169 r35 0 0 0 0 0 [] []),(Ent.mk 3 (⟨#[105,100]⟩:ByteArray) r173 r177 0 0 0 0 0 [] [])])<|oC 0 [] (c43 h178)<|oC 0 [] (c43 h176)<|oC 0 [] (c42 h16)<|oC 0 [] (c42 h16)<|oC 0 [] (c41 h4)<|oC 0 [] (c40 h174)<|oC 0 [] (c40 h172)<|oC 0 [] (c42 h14)<|oC 0 [] (c42 h16)<|oC 1 [] (c41 h4)<|oC 0 [] (c40 h170)<|oC 3 [] (c40 h42)<|oC 0 [] (c45 h168)<|oC 0 [] (c40 h166)<|oC 0 [] (c33 h160)<|oC 0 [] (c40 h164)<|oC 1 [] (c33 h160)<|oC 0 [] (c45 h162)<|oC 0 [] (c33 h160)<|oC 1 [] (c39 h158)<|oC 0 [] (c41 h4)<|oC 0 [] (c46 h156)<|oC 0 [] (c40 h154)<|oC 0 [] (c40 h152)<|oC 0 [] (c40 h150)<|oC 1 [] (c42 h14)<|oC 0 [] (c41 h4)<|oC 0 [] (c41 h4)<|oC 0 [] (c46 h148)<|oC 0 [] (c40 h146)<|oC 0 [] (c40 h144)<|oC 0 [] (c40 h142)<|oC 1 [] (c42 h66)<|oC 0 [] (c41 h4)<|oC 0 [] (c41 h4)<|oC 0 [] (c45 h140)<|oC 0 [] (c40 h138)<|oC 0 [] (c40 h136)<|oC 0 [] (c40 h134)<|oC 0 [] (c40 h132)<|oC 0 [] (c35 h130)<|oS 0 (yW xE [r95,r65])<|oC 0 [] (c42 h66)<|oC 0 [] (c42 h96)<|oC 0 [] (c33 h12)<|oC 0 [] (c42 h14)<|oC 0 [] (c42 h14)<|oC 0 [] (c41 h4)<|oC 1 [] (c41 h4)<|oC 0 [] (c45 h128)<|oC 0 [] (c40 h126)<|oC 0 [] (c40 h124)<|oC 0 [] (c35 h122)<|oS 0 (yW xE [r13,r15,r15])<|oC 0 [] (c42 h16)<|oC 0 [] (c42 h16)<|oC 0 [] (c42 h14)<|oC 0 [] (c33 h120)<|oC 0 [] (c42 h16)<|oC 0 [] (c41 h4)<|oC 1 [] (c39 h118)<|oC 0 [] (c40 h116)<|oC 0 [] (c40 h114)<|oC 0 [] (c40 h112)<|oC 0 [] (c41 h4)<|oC 0 [] (c42 h14)<|oC 0 [] (c42 h16)<|oC 0 [] (c41 h4)<|oC 0 [] (c45 h110)<|oC 0 [] (c40 h108)<|oC 0 [] (c40 h106)<|oC 0 [] (c40 h104)<|oC 0 [] (c40 h102)<|oC 0 [] (c35 h100)<|oS 0 (yW xE [r95,r97])<|oC 0 [] (c35 h98)<|oS 0 (yW xE [r65])<|oC 0 [] (c42 h66)<|oC 0 [] (c33 h24)<|oC 0 [] (c42 h96)<|oC 0 [] (c33 h84)<|oC 0 [] (c35 h94)<|oS 0 (yW xE [r65,r13])<|oC 0 [] (c42 h14)<|oC 0 [] (c42 h66)<|oC 0 [] (c33 h84)<|oC 1 [] (c42 h14)<|oC 0 [] (c41 h4)<|oC 0 [] (c45 h92)<|oC 0 [] (c40 h90)<|oC 0 [] (c35 h88)<|oS 0 (yW xE [r15,r85])<|oC 0 [] (c33 h86)<|oC 0 [] (c42 h16)<|oC 0 [] (c33 h84)<|oC 0 [] (c41 h4)<|oC 1 [] (c39 h82)<|oC 0 [] (c40 h80)<|oC 0 [] (c40 h78)<|oC 1 [] (c41 h4)<|oC 0 [] (c41 h4)<|oC 0 [] (c45 h76)<|oC 0 [] (c40 h74)<|oC 0 [] (c40 h72)<|oC 0 [] (c40 h70)<|oC 0 [] (c35 h68)<|oS 0 (yW xE [r65])<|oC 0 [] (c42 h66)<|oC 0 [] (c33 h56)<|oC 0 [] (c35 h64)<|oS 0 (yW xE [r13])<|oC 0 [] (c42 h14)<|oC 0 [] (c33 h56)<|oC 0 [] (c42 h16)<|oC 0 [] (c41 h4)<|oC 0 [] (c45 h62)<|oC 0 [] (c40 h60)<|oC 0 [] (c35 h58)<|oS 0 (yW xE [r15])<|oC 0 [] (c42 h16)<|oC 0 [] (c33 h56)<|oC 0 [] (c41 h4)<|oC 1 [] (c39 h54)<|oC 0 [] (c40 h6)<|oC 0 [] (c41 h4)<|oC 0 [] (c41 h4)<|oC 0 [] (c45 h52)<|oC 0 [] (c33 h48)<|oC 0 [] (c45 h50)<|oC 0 [] (c33 h48)<|oC 1 [] (c39 h46)<|oC 0 [] (c41 h4)<|oC 0 [] (c45 h44)<|oC 2 [] (c40 h42)<|oC 1 [] (c45 h40)<|oC 1 [] (c39 h38)<|oC 1 [] (c41 h4)<|oC 0 [] (c43 h36)<|oC 0 [] (c43 h34)<|oC 0 [] (c35 h32)<|oS 0 (yW xE [r21,r15,r29,r13])<|oC 0 [] (c42 h14)<|oC 0 [] (c43 h30)<|oC 0 [] (c43 h28)<|oC 0 [] (c35 h26)<|oS 0 (yW xE [r15])<|oC 0 [] (c42 h16)<|oC 2 [] (c33 h24)<|oC 0 [] (c42 h16)<|oC 2 [] (c43 h22)<|oC 3 [] (c44 h20)<|oC 0 [] (c35 h18)<|oS 0 (yW xE [r13,r15])<|oC 0 [] (c42 h16)<|oC 0 [] (c42 h14)<|oC 3 [] (c33 h12)<|oC 1 [] (c39 h10)<|oC 0 [] (c40 h8)<|oC 0 [] (c40 h6)<|oC 0 [] (c41 h4)<|oC 0 [] (c41 h4)<|oC 1 [] (c41 h4)<|oC 0 [] (c33 h2) o0),tv,zB,dE _,zB⟩
def e32(qq:Nat)(p0:Int):Option ((List Ent×List Int×List Int×Int×Int×List Ent×List yO) ⊕ ((List Ent×List Int×List Int×List Ent×List yO) ⊕ ((Int×Int) ⊕ (Unit)))):=
 e13 qq>>=fun r1=>
 e27 qq r1>>=fun r3=>
 match r3 with
 | .inl y10=>
  e28 qq p0>>=fun r11=>
  match r11 with
  | .inl y14=>
   some (.inr (.inr (.inr ())))
  | .inr y13=>
   some (.inr (.inr (.inl (y13.2.1,y13.2.2))))
 | .inr y5=>
  e28 qq p0>>=fun r6=>
  match r6 with
  | .inl y9=>
   some (.inr (.inl (y5.2.1,y5.2.2.1,y5.2.2.2.1,y5.2.2.2.2.1,y5.2.2.2.2.2)))
  | .inr y8=>
   some (.inl (y5.2.1,y5.2.2.1,y5.2.2.2.1,y8.2.1,y8.2.2,y5.2.2.2.2.1,y5.2.2.2.2.2))
abbrev zSW (p0:Int) (r:List Ent×List Int×List Int×Int×Int×List Ent×List yO) (C:Cf):Prop:=C 32 [] [ai p0] (.tup [.mp 0 0,.mp 1 0]) [.cells [slv yN r.1 .no,.mp 2 0,slv zV r.2.1 .no,slv zV r.2.2.1 .no],.cells [ai r.2.2.2.1,ai r.2.2.2.2.1],.cells [slv yN r.2.2.2.2.2.1 .no,slv rT r.2.2.2.2.2.2 .no]] 0
abbrev zSX (p0:Int) (r:List Ent×List Int×List Int×List Ent×List yO) (C:Cf):Prop:=C 32 [] [ai p0] (.tup [.mp 0 0,.val (.pointer none)]) [.cells [slv yN r.1 .no,.mp 1 0,slv zV r.2.1 .no,slv zV r.2.2.1 .no],.cells [slv yN r.2.2.2.1 .no,slv rT r.2.2.2.2 .no]] 0
abbrev zSY (p0:Int) (r:Int×Int) (C:Cf):Prop:=C 32 [] [ai p0] (.tup [.val (.pointer none),.mp 0 0]) [.cells [ai r.1,ai r.2]] 0
abbrev zSZ (p0:Int) (C:Cf):Prop:=C 32 [] [ai p0] (.tup [.val (.pointer none),.val (.pointer none)]) [] 0
theorem q32:Qf 32 Tryz.f32:=⟨Tryz.func32,rfl⟩
theorem yAq{p0 r}(h:zSW p0 r Ci):zSW p0 r Ct:=⟨h,⟨tv,tv⟩,zB,⟨(lz rfl),(lz rfl),tv⟩,(zA ⟨dE _,(lz rfl),dI _,dI _,tv⟩ (zA ⟨tv,tv,tv⟩ (zA ⟨dE _,dC _,tv⟩ zB)))⟩
theorem yAp{p0 r}(h:zSX p0 r Ci):zSX p0 r Ct:=⟨h,⟨tv,tv⟩,zB,⟨(lz rfl),tv,tv⟩,(fMf (lz rfl) zB)⟩
theorem yAo{p0 r}(h:zSY p0 r Ci):zSY p0 r Ct:=⟨h,⟨tv,tv⟩,zB,⟨tv,(lz rfl),tv⟩,(zA ⟨tv,tv,tv⟩ zB)⟩
theorem yAn{p0}(h:zSZ p0 Ci):zSZ p0 Ct:=⟨h,⟨tv,tv⟩,zB,⟨tv,tv,tv⟩,zB⟩
theorem c32{qq p0 r}(h:e32 qq p0=some r):(match (generalizing:=false) r with | .inl x=>zSW p0 x Ct | .inr (.inl x)=>zSX p0 x Ct | .inr (.inr (.inl x))=>zSY p0 x Ct | .inr (.inr (.inr x))=>zSZ p0 Ct):=by
 unfold e32 at h
 obtain⟨r1,h2,h⟩:=zC h
 obtain⟨r3,h4,h⟩:=zC h
 have k:=oC 0 [] (c13 h2) o0
 rcases r3 with y10|y5
 dsimp only at h
 obtain⟨r11,h12,h⟩:=zC h
 have k:=oC 0 [] (c27 h4) k
 rcases r11 with y14|y13
 dsimp only at h
 cases h
 exact yAn (tF q32 2 [] (oC 2 [] (c28 h12) k))
 dsimp only at h
 cases h
 exact yAo (tF q32 2 [0] (oC 2 [] (c28 h12) k))
 dsimp only at h
 obtain⟨r6,h7,h⟩:=zC h
 have k:=oC 0 [] (c27 h4) k
 rcases r6 with y9|y8
 dsimp only at h
 cases h
 exact yAp (tF q32 2 [0,1] (oD (dC y5.2.2.2.2.2)<|oD (dE y5.2.2.2.2.1)<|oD (dI y5.2.2.2.1)<|oD (dI y5.2.2.1)<|oD (dE y5.2.1)<|oC 2 [] (c28 h7) k))
 dsimp only at h
 cases h
 exact yAq (tF q32 2 [0,2,1] (oD (dC y5.2.2.2.2.2)<|oD (dE y5.2.2.2.2.1)<|oD (dI y5.2.2.2.1)<|oD (dI y5.2.2.1)<|oD (dE y5.2.1)<|oC 2 [] (c28 h7) k))
def e8(qq:Nat)  : Option Bool:=
 e32 qq 50>>=fun r1=>
 match r1 with
 | .inl y3=>
  e33 qq 0>>=fun r4=>
  e33 qq 2>>=fun r6=>
  e21 qq 1>>=fun r8=>
  e35 qq r6 [r8]>>=fun r10=>
  e33 qq 1>>=fun r12=>
  e35 qq r6 [r12]>>=fun r14=>
  e34 qq (xB.mk y3.1 y3.2.2.2.2.2.1 y3.2.2.2.2.2.2 y3.2.1 y3.2.2.1) [(zF.mk 1 r4)] [r10] [r14] y3.2.2.2.1 y3.2.2.2.2.1>>=fun r16=>
  match r16 with
  | .inl y18=>
   if y18.2.1==0 then
   if y18.1.yes_ then
   if (y18.1.solved_.length:Int)==1 then
   zR y18.1.solved_ 0>>=fun x22=>
   if x22.n_==1 then
   some ((y18.1.steps_.length:Int)==2)
   else
   some false
   else
   some false
   else
   some false
   else
   some false
  | .inr (.inl y25)=>
   if y25.2.2.2.1==0 then
   some false
   else
   some false
  | .inr (.inr y27)=>
   if y27.2.2.2.2.1==0 then
   if (y27.2.1.length:Int)==1 then
   zR y27.2.1 0>>=fun x30=>
   if x30.n_==1 then
   some ((y27.2.2.1.length:Int)==2)
   else
   some false
   else
   some false
   else
   some false
 | .inr (.inl y33)=>
  none
 | .inr (.inr (.inl y63))=>
  e33 qq 0>>=fun r64=>
  e33 qq 2>>=fun r66=>
  e21 qq 1>>=fun r68=>
  e35 qq r66 [r68]>>=fun r70=>
  e33 qq 1>>=fun r72=>
  e35 qq r66 [r72]>>=fun r74=>
  gZ qq [(zF.mk 1 r64)] [r70] [r74] y63.1 y63.2>>=fun r76=>
  if r76.2==0 then
  if r76.1.yes_ then
  if (r76.1.solved_.length:Int)==1 then
  zR r76.1.solved_ 0>>=fun x81=>
  if x81.n_==1 then
  some ((r76.1.steps_.length:Int)==2)
  else
  some false
  else
  some false
  else
  some false
  else
  some false
 | .inr (.inr (.inr y84))=>
  none
theorem q8:Qf 8 Tryz.f8:=⟨Tryz.func8,rfl⟩
theorem c8{qq r}(h:e8 qq  = some r):Ct 8 [] [] (ab r) [] 0:=⟨(by
 unfold e8 at h
 obtain⟨r1,h2,h⟩:=zC h
 rcases r1 with y3 | (y33 | (y63|y84))
 dsimp only at h
 obtain⟨r4,h5,h⟩:=zC h
 obtain⟨r6,h7,h⟩:=zC h
 obtain⟨r8,h9,h⟩:=zC h
 obtain⟨r10,h11,h⟩:=zC h
 obtain⟨r12,h13,h⟩:=zC h
 obtain⟨r14,h15,h⟩:=zC h
 obtain⟨r16,h17,h⟩:=zC h
 have k:=oS 0 (yW xE [r14])<|oC 0 [] (c35 h15)<|oS 0 (yW xE [r12])<|oC 0 [] (c33 h13)<|oC 0 [] (c33 h7)<|oS 0 (yW xE [r10])<|oC 0 [] (c35 h11)<|oS 0 (yW xE [r8])<|oC 0 [] (c21 h9)<|oC 3 [] (c33 h7)<|oC 2 [] (c33 h5)<|oC 0 [] (c32 h2) o0
 rcases r16 with y18 | (y25|y27)
 dsimp only at h
 have k:=oC 0 [0,2,1] (c34 h17) k
 obtain⟨h19,h⟩|⟨h19,h⟩:=spl h
 have k:=oB 3 h19 k
 obtain⟨h20,h⟩|⟨h20,h⟩:=spl h
 have k:=oB 0 h20 k
 obtain⟨h21,h⟩|⟨h21,h⟩:=spl h
 obtain⟨x22,h23,h⟩:=zC h
 have k:=oA 1 (zNI (o:=.no) h23)<|oB 2 h21 k
 obtain⟨h24,h⟩|⟨h24,h⟩:=spl h
 cases h
 exact tF q8 3 [] (oB 1 h24 k)
 cases h
 exact tF q8 0 [] (oB 1 h24 k)
 cases h
 exact tF q8 0 [] (oB 2 h21 k)
 cases h
 exact tF q8 0 [] (oB 0 h20 k)
 cases h
 exact tF q8 0 [] (oB 3 h19 k)
 dsimp only at h
 have k:=oC 0 [0,2,1] (c34 h17) k
 obtain⟨h26,h⟩|⟨h26,h⟩:=spl h
 cases h
 exact tF q8 1 [] (oB 3 h26 k)
 cases h
 exact tF q8 0 [] (oB 3 h26 k)
 dsimp only at h
 have k:=oC 0 [0,2,1] (c34 h17) k
 obtain⟨h28,h⟩|⟨h28,h⟩:=spl h
 have k:=oB 3 h28 k
 obtain⟨h29,h⟩|⟨h29,h⟩:=spl h
 obtain⟨x30,h31,h⟩:=zC h
 have k:=oA 1 (zNI (o:=.no) h31)<|oB 3 h29 k
 obtain⟨h32,h⟩|⟨h32,h⟩:=spl h
 cases h
 exact tF q8 3 [] (oB 1 h32 k)
 cases h
 exact tF q8 0 [] (oB 1 h32 k)
 cases h
 exact tF q8 0 [] (oB 3 h29 k)
 cases h
 exact tF q8 0 [] (oB 3 h28 k)
 cases h
 dsimp only at h
 obtain⟨r64,h65,h⟩:=zC h
 obtain⟨r66,h67,h⟩:=zC h
 obtain⟨r68,h69,h⟩:=zC h
 obtain⟨r70,h71,h⟩:=zC h
 obtain⟨r72,h73,h⟩:=zC h
 obtain⟨r74,h75,h⟩:=zC h
 obtain⟨r76,h77,h⟩:=zC h
 have k:=oC 0 [0] (zMW h77)<|oS 0 (yW xE [r74])<|oC 0 [] (c35 h75)<|oS 0 (yW xE [r72])<|oC 0 [] (c33 h73)<|oC 0 [] (c33 h67)<|oS 0 (yW xE [r70])<|oC 0 [] (c35 h71)<|oS 0 (yW xE [r68])<|oC 0 [] (c21 h69)<|oC 3 [] (c33 h67)<|oC 2 [] (c33 h65)<|oC 0 [] (c32 h2) o0
 obtain⟨h78,h⟩|⟨h78,h⟩:=spl h
 have k:=oB 3 h78 k
 obtain⟨h79,h⟩|⟨h79,h⟩:=spl h
 have k:=oB 0 h79 k
 obtain⟨h80,h⟩|⟨h80,h⟩:=spl h
 obtain⟨x81,h82,h⟩:=zC h
 have k:=oA 1 (zNI (o:=.no) h82)<|oB 2 h80 k
 obtain⟨h83,h⟩|⟨h83,h⟩:=spl h
 cases h
 exact tF q8 3 [] (oB 1 h83 k)
 cases h
 exact tF q8 0 [] (oB 1 h83 k)
 cases h
 exact tF q8 0 [] (oB 2 h80 k)
 cases h
 exact tF q8 0 [] (oB 0 h79 k)
 cases h
 exact tF q8 0 [] (oB 3 h78 k)
 cases h),tv,zB,tv,zB⟩
def e9(qq:Nat)(p0:List Ent)(p1:wV):Option (yA×Int):=
 e27 qq p0>>=fun r1=>
 match r1 with
 | .inl y18=>
  e28 qq p1.fuel_>>=fun r19=>
  match r19 with
  | .inl y24=>
   none
  | .inr y21=>
   gZ qq p1.c_ p1.a_ p1.b_ y21.2.1 y21.2.2>>=fun r22=>
   some (r22.1,r22.2)
 | .inr y3=>
  e28 qq p1.fuel_>>=fun r4=>
  match r4 with
  | .inl y12=>
   none
  | .inr y6=>
   e34 qq (xB.mk y3.2.1 y3.2.2.2.2.1 y3.2.2.2.2.2 y3.2.2.1 y3.2.2.2.1) p1.c_ p1.a_ p1.b_ y6.2.1 y6.2.2>>=fun r7=>
   match r7 with
   | .inl y9=>
    some (y9.1,y9.2.1)
   | .inr (.inl y10)=>
    some ((yA.mk false y10.2.1 y10.2.2.1 y10.1),y10.2.2.2.1)
   | .inr (.inr y11)=>
    some ((yA.mk true y11.1 y11.2.1 y11.2.2.1),y11.2.2.2.2.1)
theorem q9:Qf 9 Tryz.f9:=⟨Tryz.func9,rfl⟩
theorem c9{qq p0 p1 r}(h:e9 qq p0 p1=some r):Ct 9 [] [slv yN p0 .no,zCD p1] (.tup [wG r.1,ai r.2]) [] 0:=⟨by
 unfold e9 at h
 obtain⟨r1,h2,h⟩:=zC h
 rcases r1 with y18|y3
 dsimp only at h
 obtain⟨r19,h20,h⟩:=zC h
 have k:=oC 0 [] (c27 h2) o0
 rcases r19 with y24|y21
 cases h
 dsimp only at h
 obtain⟨r22,h23,h⟩:=zC h
 cases h
 exact tF q9 3 [] (oD (dI r22.1.steps_)<|oD (zL r22.1.solved_)<|oD (zG r22.1.vars_)<|oC 5 [2] (zMW h23)<|oC 3 [] (c28 h20) k)
 dsimp only at h
 obtain⟨r4,h5,h⟩:=zC h
 have k:=oC 0 [] (c27 h2) o0
 rcases r4 with y12|y6
 cases h
 dsimp only at h
 obtain⟨r7,h8,h⟩:=zC h
 have k:=oC 3 [] (c28 h5) k
 rcases r7 with y9 | (y10|y11)
 dsimp only at h
 cases h
 exact tF q9 3 [] (oD (dI y9.1.steps_)<|oD (zL y9.1.solved_)<|oD (zG y9.1.vars_)<|oC 5 [2,3,4] (c34 h8) k)
 dsimp only at h
 cases h
 exact tF q9 3 [] (oD (dI y10.1)<|oD (zL y10.2.2.1)<|oD (zG y10.2.1)<|oC 5 [2,3,4] (c34 h8) k)
 dsimp only at h
 cases h
 exact tF q9 3 [] (oD (dI y11.2.2.1)<|oD (zL y11.2.1)<|oD (zG y11.1)<|oC 5 [2,3,4] (c34 h8) k),⟨⟨tv,dE _⟩,⟨⟨tv,zG _⟩,⟨tv,dT _⟩,⟨tv,dT _⟩,tv,tv⟩,tv⟩,zB,⟨⟨tv,zG _,zL _,dI _,tv⟩,tv,tv⟩,zB⟩
theorem zVR(q:Nat):e8 (q+400)=some true:=by kernel_rfl
theorem zLo:Evt (fun q=>e8 q) true:=⟨400,fun q hq=>by
 obtain⟨k,rfl⟩:∃k,q=k+400:=⟨q-400,by omega⟩
 exact zVR k⟩
theorem zFr(D:List yU)(hl:D.length≤1048576):∀(r:List yU) (v:Nat) (acc:List Tm),D.drop v=r->v≤D.length->acc=(D.take v).map (·.type_)->Evt (fun q=>cC q D acc (v:Int)) (D.map (·.type_))
 | [],v,acc,hd,hv,ha=>by
  refine Evt.succ ?_
  simp only[cC]
  refine Evt.ifF (yC hd) (Evt.ret.eq ?_)
  rw[ha,List.take_of_length_le (List.drop_eq_nil_iff.1 hd)]
 |x::r,v,acc,hd,hv,ha=>by
  have hlt:=yE hd
  refine Evt.succ ?_
  simp only[cC]
  refine Evt.ifT (yB hd) (Evt.pure (zX hd) (Evt.pure (yG (by rw[ha];simp;omega)) ?_))
  rw[zU v (by omega)]
  exact zFr D hl r (v+1) _ (zS hd) hlt (by rw[qH hd,List.map_append,ha];rfl)
theorem aS(L:List Tm)(hl:L.length≤1048576):∀(r:List Tm) (v:Nat),L.drop v=r->Tot (fun q=>zDO q L (v:Int)) fun _=>True
 | [],v,hd=>by
  refine Tot.succ ?_
  simp only[zDO]
  refine Tot.ite (fun h=>?_) fun _=>Tot.ret trivial
  rw[yC hd]at h;cases h
 |x::r,v,hd=>by
  have hlt:=yE hd
  refine Tot.succ ?_
  simp only[zDO]
  refine Tot.ite (fun _=>Tot.pure (zX hd) (Tot.bind (P:=fun _=>True) ((zIH x).tot trivial) fun s _=>Tot.ite (fun _=>Tot.ret trivial) fun _=>?_)) fun h=>?_
  ·rw[zU v (by omega)]
   exact aS L hl r (v+1) (zS hd)
  ·rw[yB hd]at h;cases h
structure zTz (x:wV):Prop where
 c:x.c_.length≤12
 a:x.a_.length≤8
 b:x.b_.length≤8
 f0:0≤x.fuel_
 f1:x.fuel_≤400
theorem zJo(x:wV):Tot (fun q=>e7 q x) fun b=>b=true->zTz x:=by
 simp only[e7]
 refine Tot.ite (fun _=>Tot.ret fun h=>by cases h) fun h1=>Tot.ite (fun _=>Tot.ret fun h=>by cases h) fun h2=>Tot.ite (fun _=>Tot.ret fun h=>by cases h) fun h3=>Tot.ite (fun _=>Tot.ret fun h=>by cases h) fun h4=>Tot.ite (fun _=>Tot.ret fun h=>by cases h) fun h5=>?_
 have h1:=of_decide_eq_false h1
 have h2:=of_decide_eq_false h2
 have h3:=of_decide_eq_false h3
 have h4:=of_decide_eq_false h4
 have h5:=of_decide_eq_false h5
 have hL:zTz x:=⟨by omega,by omega,by omega,by omega,by omega⟩
 have hof:(ofV x.c_).length=x.c_.length:=by unfold ofV;rw[List.length_map]
 have ht:Evt (fun q=>e31 q (ofV x.c_)) ((ofV x.c_).map (·.type_)):=by
  simp only[e31]
  exact zFr (ofV x.c_) (by omega) _ 0 [] rfl (Nat.zero_le _) rfl
 have hm:((ofV x.c_).map (fun v:yU=>v.type_)).length≤12:=by rw[List.length_map];omega
 refine Tot.bind (P:=fun r=>r=ofV x.c_) ((zSV x.c_ (by omega)).tot rfl) fun r6 h6=>?_
 subst h6
 refine Tot.bind (P:=fun r=>r=(ofV x.c_).map (·.type_)) (ht.tot rfl) fun r8 h8=>?_
 subst h8
 refine Tot.pure (yG (by simp only[List.length_nil];omega)) (Tot.pure (yG (by simp only[List.nil_append];omega)) (Tot.pure (yG (by simp only[List.nil_append,List.length_append];omega)) ?_))
 refine(aS _ ?_ _ 0 rfl).mono fun b _ _=>hL
 simp only[List.nil_append,List.length_append]
 omega
def yBa(l:List Ent)(x:wV)(r:yA×Int):Prop:=
 r.2≠0∨((∃N,wN N l)∧zIK x.c_∧x.a_.length=x.b_.length∧(∀e∈uK x.a_ x.b_,uB l e.a_∧uB l e.b_)∧(∀w∈x.c_,uB l w.type_) ∧
  ((∃s,Un l x.c_ (uK x.a_ x.b_) [] none∧r=(yA.mk false [] [] s,0))∨∃c' so' s,Un l x.c_ (uK x.a_ x.b_) [] (some (c',so'))∧r=(yA.mk true c' so' s,0)))
structure zPw (x:wV):Prop where
 c:∀v∈x.c_,v.type_.Ok
 a:∀t∈x.a_,t.Ok
 b:∀t∈x.b_,t.Ok
theorem zJn(l:List Ent)(x:wV)(hl:l.length≤60)(he:∀e∈l,EOk e)(hc:∀e∈l,ECl e)(hL:zTz x)(ho:zPw x):Tot (fun q=>e9 q l x) (yBa l x):=by
 have l1:=hL.c
 have l2:=hL.a
 have l3:=hL.f0
 have l4:=hL.f1
 simp only[e9]
 rcases zKP l hl he hc with hn|⟨N,hE,hn⟩
 ·refine Tot.bind (P:=fun r=>r = .inl 5) ((hn.eq (show zKA l false = .inl 5 from rfl)).tot rfl) fun r1 h1=>?_
  subst h1
  refine Tot.bind (P:=fun r=>r = .inr (0,x.fuel_,0)) ((zMc x.fuel_ l3 (by omega)).tot rfl) fun r2 h2=>?_
  subst h2
  have hz:Evt (fun q=>gZ q x.c_ x.a_ x.b_ x.fuel_ 0) (yA.mk false [] [] [],5):=by
   simp only[gZ,zBZ]
   exact Evt.pure (a:=()) rfl Evt.ret
  exact Tot.bind (P:=fun r=>r=(yA.mk false [] [] [],5)) (hz.tot rfl) fun r h=>Tot.ret (.inl (by rw[h];show (5:Int)≠0;decide))
 ·refine Tot.bind (P:=fun r=>r=zKA l true) (hn.tot rfl) fun r1 h1=>?_
  subst h1
  simp only[zKA,if_true]
  refine Tot.bind (P:=fun r=>r = .inr (0,x.fuel_,0)) ((zMc x.fuel_ l3 (by omega)).tot rfl) fun r2 h2=>?_
  subst h2
  refine(zLs hE he (by omega) hc x.c_ x.a_ x.b_ ho.a ho.b (by omega) (by omega) ho.c x.fuel_ 0 l3 (by omega) (Int.le_refl 0) (by omega)).bind fun r h=>?_
  rcases h with⟨a,e,fl,fu,e0,rfl⟩|⟨h1,h2,h3,h4,h5⟩
  ·exact Tot.ret (.inl e0)
  ·cases h5 with
   |err e0=>exact Tot.ret (.inl e0)
   |no _ hU=>exact Tot.ret (.inr ⟨⟨N,hE⟩,h1,h2,h3,h4,.inl ⟨_,hU,rfl⟩⟩)
   |yes _ hU=>exact Tot.ret (.inr ⟨⟨N,hE⟩,h1,h2,h3,h4,.inr ⟨_,_,_,hU,rfl⟩⟩)
open Go.RowKit Go.Proofs
theorem zTy:∀ {l:List Tm},(∀t∈l,t.Ok)->OkL l
 | [],_=>trivial
 |t::l,h=>⟨h t (by simp),zTy fun u hu=>h u (by simp[hu])⟩
theorem zGB:∀ {l:List Tm},OkL l->∀x∈l,x.Ok
 | [],_,_,h=>nomatch h
 |a::l,⟨h1,h2⟩,x,hx=>by
  rcases List.mem_cons.1 hx with rfl|hx
  ·exact h1
  ·exact zGB h2 x hx
theorem zFq{H:Type}{enc:TypeId×Value->H}{W:World}{n:Nat}{c2:Value}{x:DataW H×List MemPlace}(f2:DataW.trod enc Tryz.prog W 0 (fun _=>true) true n 24 [c2]=some x)(hw:Wt Tryz.prog 24 x.1) :
  ∃l:List Tm,V (rdG W) W (.sl (zJ zH l) l.length .no) c2∧OkL l∧l.length≤17592186044416:=by
 obtain⟨l,h1,h3,h2⟩:=gL zH 3 qA.len (by omega) (Q:=Tm.Ok) Tryz.underlying24 (by kernel_rfl) (fun m _ cs x h _=>by
  obtain⟨t,a,b⟩:=zBF m cs x h
  exact⟨t,by rw[xE];exact a,b⟩) f2 hw
 refine⟨l,h1,zTy h3,?_⟩
 have:Tryz.prog.bytesOf 39=40:=by kernel_rfl
 rw[this]at h2
 have:reachBytes=140737488351232:=rfl
 omega
theorem zTx{α:Type}(l:List α)(h:l.length=4):∃c0 c1 c2 c3,l=[c0,c1,c2,c3]:=by
 rcases l with _|⟨c0,_|⟨c1,_|⟨c2,_|⟨c3,_|⟨zz,zs⟩⟩⟩⟩⟩<;>simp only[List.length_nil,List.length_cons]at h<;>first|exact⟨c0,c1,c2,c3,rfl⟩|omega
theorem yAm{α:Type}(l:List α)(h:l.length=2):∃c0 c1,l=[c0,c1]:=by
 rcases l with _|⟨c0,_|⟨c1,_|⟨zz,zs⟩⟩⟩<;>simp only[List.length_nil,List.length_cons]at h<;>first|exact⟨c0,c1,rfl⟩|omega
theorem zJm{H:Type}{enc:TypeId×Value->H}{W:World}(fuel:Nat):∀(cs:List Value) (x:DataW H×List MemPlace),DataW.trod enc Tryz.prog W 0 (fun _=>true) true fuel 77 cs=some x->Wt Tryz.prog 77 x.1->∃e:zF,VL (rdG W) W (zK e) cs∧(fun v=>v.type_.Ok) e:=by
 intro cs x h hw
 obtain⟨xs,n,hn,hx,hlen,hxs,hf⟩:=DataW.trod_struct Tryz.underlying77 h
 rw[hx]at hw
 have cc:Tryz.prog.cellsOf 77=4:=by kernel_rfl
 obtain⟨c0,c1,c2,c3,rfl⟩:=zTx cs (hlen.trans cc)
 obtain⟨y0,y1,rfl⟩:=yAm xs hxs
 have k3:Tryz.prog.cellsOf 3=1:=by kernel_rfl
 have k39:Tryz.prog.cellsOf 39=3:=by kernel_rfl
 have f0:DataW.trod enc Tryz.prog W 0 (fun _=>true) true n 3 ((List.drop 0 [c0,c1,c2,c3]).take (Tryz.prog.cellsOf 3))=some y0:=hf 0 _ rfl
 rw[k3]at f0
 replace f0:DataW.trod enc Tryz.prog W 0 (fun _=>true) true n 3 [c0]=some y0:=f0
 have w0:Wt Tryz.prog 3 y0.1:=qT Tryz.underlying77 hw (i:=0) rfl rfl
 have f1:DataW.trod enc Tryz.prog W 0 (fun _=>true) true n 39 ((List.drop 1 [c0,c1,c2,c3]).take (Tryz.prog.cellsOf 39))=some y1:=hf 1 _ rfl
 rw[k39]at f1
 replace f1:DataW.trod enc Tryz.prog W 0 (fun _=>true) true n 39 [c1,c2,c3]=some y1:=f1
 have w1:Wt Tryz.prog 39 y1.1:=qT Tryz.underlying77 hw (i:=1) rfl rfl
 obtain⟨n0,e0,-,-⟩:=DataW.trod_int Tryz.underlying3 f0
 cases e0
 obtain⟨l1,v1,o1⟩:=zBF n _ _ f1
 simp only[tmL,VL]at v1
 refine⟨zF.mk n0 l1,?_,o1⟩
 simp only[zK]
 simp only[VL]
 exact⟨by simp only[V],v1.1,v1.2.1,v1.2.2.1,trivial⟩
theorem zJl{H:Type}{enc:TypeId×Value->H}{W:World}(fuel:Nat):∀(cs:List Value) (x:DataW H×List MemPlace),DataW.trod enc Tryz.prog W 0 (fun _=>true) true fuel 26 cs=some x->Wt Tryz.prog 26 x.1->∃e:wV,VL (rdG W) W (mH e) cs∧zPw e:=by
 intro cs x h hw
 obtain⟨xs,n,hn,hx,hlen,hxs,hf⟩:=DataW.trod_struct Tryz.underlying26 h
 rw[hx]at hw
 have cc:Tryz.prog.cellsOf 26=4:=by kernel_rfl
 obtain⟨c0,c1,c2,c3,rfl⟩:=zTx cs (hlen.trans cc)
 obtain⟨y0,y1,y2,y3,rfl⟩:=zTx xs hxs
 have k3:Tryz.prog.cellsOf 3=1:=by kernel_rfl
 have k23:Tryz.prog.cellsOf 23=1:=by kernel_rfl
 have k24:Tryz.prog.cellsOf 24=1:=by kernel_rfl
 have f0:DataW.trod enc Tryz.prog W 0 (fun _=>true) true n 23 ((List.drop 0 [c0,c1,c2,c3]).take (Tryz.prog.cellsOf 23))=some y0:=hf 0 _ rfl
 rw[k23]at f0
 replace f0:DataW.trod enc Tryz.prog W 0 (fun _=>true) true n 23 [c0]=some y0:=f0
 have w0:Wt Tryz.prog 23 y0.1:=qT Tryz.underlying26 hw (i:=0) rfl rfl
 have f1:DataW.trod enc Tryz.prog W 0 (fun _=>true) true n 24 ((List.drop 1 [c0,c1,c2,c3]).take (Tryz.prog.cellsOf 24))=some y1:=hf 1 _ rfl
 rw[k24]at f1
 replace f1:DataW.trod enc Tryz.prog W 0 (fun _=>true) true n 24 [c1]=some y1:=f1
 have w1:Wt Tryz.prog 24 y1.1:=qT Tryz.underlying26 hw (i:=1) rfl rfl
 have f2:DataW.trod enc Tryz.prog W 0 (fun _=>true) true n 24 ((List.drop 2 [c0,c1,c2,c3]).take (Tryz.prog.cellsOf 24))=some y2:=hf 2 _ rfl
 rw[k24]at f2
 replace f2:DataW.trod enc Tryz.prog W 0 (fun _=>true) true n 24 [c2]=some y2:=f2
 have w2:Wt Tryz.prog 24 y2.1:=qT Tryz.underlying26 hw (i:=2) rfl rfl
 have f3:DataW.trod enc Tryz.prog W 0 (fun _=>true) true n 3 ((List.drop 3 [c0,c1,c2,c3]).take (Tryz.prog.cellsOf 3))=some y3:=hf 3 _ rfl
 rw[k3]at f3
 replace f3:DataW.trod enc Tryz.prog W 0 (fun _=>true) true n 3 [c3]=some y3:=f3
 have w3:Wt Tryz.prog 3 y3.1:=qT Tryz.underlying26 hw (i:=3) rfl rfl
 obtain⟨l0,v0,o0,b0⟩:=gL zK 4 xJ.len (by omega) (Q:=(fun v=>v.type_.Ok)) Tryz.underlying23 (by kernel_rfl) (fun m _ cs x h hw=>zJm m cs x h hw) (n:=n) f0 w0
 have b0:l0.length≤17592186044416:=by
  have hb:Tryz.prog.bytesOf 77=48:=by kernel_rfl
  rw[hb]at b0
  have:reachBytes=140737488351232:=rfl
  omega
 obtain⟨l1,v1,o1,b1⟩:=zFq f1 w1
 obtain⟨l2,v2,o2,b2⟩:=zFq f2 w2
 obtain⟨n3,e3,-,-⟩:=DataW.trod_int Tryz.underlying3 f3
 cases e3
 refine⟨wV.mk l0 l1 l2 n3,?_,⟨o0,zGB o1,zGB o2⟩⟩
 simp only[mH]
 simp only[VL]
 exact⟨v0,v1,v2,by simp only[V],trivial⟩
theorem zJk{H:Type}{enc:TypeId×Value->H}{W:World}{v:Value}{d:DataW H}{p:List MemPlace}(h:DataW.Trod enc Tryz.prog W 0 (fun _=>true) true 26 v d p)(hw:Wt Tryz.prog 26 d):∃e:wV,V (rdG W) W (.agg (mH e)) v∧zPw e:=by
 obtain⟨fuel,hf⟩:=h
 have hlen:v.cells.toList.length=4:=by
  obtain⟨xs,n,hn,hx,hlen,hxs,-⟩:=DataW.trod_struct Tryz.underlying26 hf
  exact hlen.trans (by kernel_rfl)
 obtain⟨e,he,hr⟩:=zJl fuel _ _ hf hw
 refine⟨e,?_,hr⟩
 cases v with
 |agg cs=>simp only[V];exact⟨_,rfl,by simpa[Value.cells]using he⟩
 |_=>simp[Value.cells]at hlen
mutual
def aT:Nat->wV->(yA×Int)->List yU->Int->Option Bool
 |0,_,_,_,_=>none
 |qq+1,p1,r7,r12,v8=>
 if decide (v8<(r7.1.solved_.length:Int))then
 zR r7.1.solved_ v8>>=fun x15=>
 zDP qq p1 r7 r12 v8 x15 0
 else
 if r7.1.yes_ then
 e12 qq r12>>=fun r18=>
 if r18 then
 if (w64 ((r12.length:Int)+(r7.1.solved_.length:Int)))==(p1.c_.length:Int)then
 e8 qq>>=fun r22=>
 some r22
 else
 some false
 else
 some false
 else
 if (w64 ((r12.length:Int)+(r7.1.solved_.length:Int)))==0 then
 e8 qq>>=fun r25=>
 some r25
 else
 some false
def zDP:Nat->wV->(yA×Int)->List yU->Int->zI->Int->Option Bool
 |0,_,_,_,_,_,_=>none
 |qq+1,p1,r7,r12,v8,x15,v10=>
 if decide (v10<(r12.length:Int))then
 zR r12 v10>>=fun x18=>
 if x18.n_==x15.n_ then
 some false
 else
 e11 qq x18.type_ x15.n_>>=fun r21=>
 if r21 then
 some false
 else
 zDP qq p1 r7 r12 v8 x15 (w64 (v10+1))
 else
 fZ qq p1 r7 r12 v8 x15 0
def fZ:Nat->wV->(yA×Int)->List yU->Int->zI->Int->Option Bool
 |0,_,_,_,_,_,_=>none
 |qq+1,p1,r7,r12,v8,x15,v11=>
 if decide (v11<(r7.1.solved_.length:Int))then
 zR r7.1.solved_ v11>>=fun x25=>
 e11 qq x25.t_ x15.n_>>=fun r27=>
 if r27 then
 some false
 else
 if v11 != v8 then
 if x25.n_==x15.n_ then
 some false
 else
 fZ qq p1 r7 r12 v8 x15 (w64 (v11+1))
 else
 fZ qq p1 r7 r12 v8 x15 (w64 (v11+1))
 else
 aT qq p1 r7 r12 (w64 (v8+1))
end
def e3(qq:Nat)(p0:List Ent)(p1:wV):Option Bool:=
 if decide ((p0.length:Int)>60)then
 e8 qq>>=fun r2=>
 some r2
 else
 e7 qq p1>>=fun r4=>
 if r4 then
 e9 qq p0 p1>>=fun r7=>
 if r7.2 != 0 then
 e8 qq>>=fun r10=>
 some r10
 else
 e10 qq r7.1.vars_>>=fun r12=>
 aT qq p1 r7 r12 0
 else
 e8 qq>>=fun r14=>
 some r14
theorem q3:Qf 3 Tryz.f3:=⟨Tryz.func3,rfl⟩
theorem zBe:∀qq:Nat,(∀p1 r7 r12 v8 r,aT qq p1 r7 r12 v8=some r->(∀j,dL 0 (inn (inn (rgt (lft (rgt (rgt (rgt (rgt (rgt (bod Tryz.f3)))))))))) (sp j 128 0 [(3,.mp 0 0),(5,.mp 1 0),(7,slv xQ r12 .no),(8,ai v8)]) (⟨[(0,.cells [slv zK p1.c_ .no,slv zH p1.a_ .no,slv zH p1.b_ .no,ai p1.fuel_]),(1,.cells [ab r7.1.yes_,slv zK r7.1.vars_ .no,slv zP r7.1.solved_ .no,slv zV r7.1.steps_ .no])],2,[],0,[]⟩) (fQ 0 (nQ 0 Tryz.f3 (ab r) [] 0) [.blk 0,.seq (rgt (rgt (rgt (rgt (rgt (rgt (bod Tryz.f3)))))))])))∧(∀p1 r7 r12 v8 x15 v10 r,zDP qq p1 r7 r12 v8 x15 v10=some r->(∀j,dL 0 (inn (inn (rgt (lft (rgt (inn (lft (rgt (inn (inn (rgt (lft (rgt (rgt (rgt (rgt (rgt (bod Tryz.f3)))))))))))))))))) (sp j 128 0 [(3,.mp 0 0),(5,.mp 1 0),(7,slv xQ r12 .no),(8,ai v8),(9,ai x15.n_),(10,ai v10)]) (⟨[(0,.cells [slv zK p1.c_ .no,slv zH p1.a_ .no,slv zH p1.b_ .no,ai p1.fuel_]),(1,.cells [ab r7.1.yes_,slv zK r7.1.vars_ .no,slv zP r7.1.solved_ .no,slv zV r7.1.steps_ .no])],2,[],0,[]⟩) (fQ 0 (nQ 0 Tryz.f3 (ab r) [] 0) [.blk 2,.seq (rgt (rgt (inn (lft (rgt (inn (inn (rgt (lft (rgt (rgt (rgt (rgt (rgt (bod Tryz.f3))))))))))))))),.blk 1,.seq (rgt (rgt (inn (inn (rgt (lft (rgt (rgt (rgt (rgt (rgt (bod Tryz.f3)))))))))))),.loop (inn (inn (rgt (lft (rgt (rgt (rgt (rgt (rgt (bod Tryz.f3)))))))))),.blk 0,.seq (rgt (rgt (rgt (rgt (rgt (rgt (bod Tryz.f3)))))))])))∧(∀p1 r7 r12 v8 x15 v11 r,fZ qq p1 r7 r12 v8 x15 v11=some r->(∀j,dL 0 (inn (inn (rgt (rgt (rgt (inn (lft (rgt (inn (inn (rgt (lft (rgt (rgt (rgt (rgt (rgt (bod Tryz.f3)))))))))))))))))) (sp j 128 0 [(3,.mp 0 0),(5,.mp 1 0),(7,slv xQ r12 .no),(8,ai v8),(9,ai x15.n_),(11,ai v11)]) (⟨[(0,.cells [slv zK p1.c_ .no,slv zH p1.a_ .no,slv zH p1.b_ .no,ai p1.fuel_]),(1,.cells [ab r7.1.yes_,slv zK r7.1.vars_ .no,slv zP r7.1.solved_ .no,slv zV r7.1.steps_ .no])],2,[],0,[]⟩) (fQ 0 (nQ 0 Tryz.f3 (ab r) [] 0) [.blk 4,.blk 1,.seq (rgt (rgt (inn (inn (rgt (lft (rgt (rgt (rgt (rgt (rgt (bod Tryz.f3)))))))))))),.loop (inn (inn (rgt (lft (rgt (rgt (rgt (rgt (rgt (bod Tryz.f3)))))))))),.blk 0,.seq (rgt (rgt (rgt (rgt (rgt (rgt (bod Tryz.f3)))))))]))):=by
 intro qq
 induction qq with
 |zero=>
  exact⟨fun _ _ _ _ _ h=>nn h,fun _ _ _ _ _ _ _ h=>nn h,fun _ _ _ _ _ _ _ h=>nn h⟩
 |succ qq ih=>
  obtain⟨zYr,zTw,zLn⟩:=ih
  refine⟨?_,?_,?_⟩
  intro p1 r7 r12 v8 r h
  rw[aT]at h
  obtain⟨h14,h⟩|⟨h14,h⟩:=spl h
  obtain⟨x15,h16,h⟩:=zC h
  exact fun j=>lH 1 [] [0,1] [] [3,5,7,8,9,10] (oD (xR r12)<|oD (dI r7.1.steps_)<|oD (zL r7.1.solved_)<|oD (zG r7.1.vars_)<|oD (dT p1.b_)<|oD (dT p1.a_)<|oD (zG p1.c_)<|oA 1 (zNI (o:=.no) h16)<|oB 2 h14 o0) (zTw _ _ _ _ _ _ _ h)
  have k:=oB 2 h14 o0
  obtain⟨h17,h⟩|⟨h17,h⟩:=spl h
  obtain⟨r18,h19,h⟩:=zC h
  have k:=oB 0 h17 k
  obtain⟨h20,h⟩|⟨h20,h⟩:=spl h
  have k:=oK 1 [] h20 (c12 h19) k
  obtain⟨h21,h⟩|⟨h21,h⟩:=spl h
  obtain⟨r22,h23,h⟩:=zC h
  obtain rfl:=sj h
  exact fun j=>lF 0 [] (oC 0 [] (c8 h23)<|oB 6 h21 k)
  obtain rfl:=sj h
  exact fun j=>lF 0 [] (oB 6 h21 k)
  obtain rfl:=sj h
  exact fun j=>lF 0 [] (oK 1 [] h20 (c12 h19) k)
  have k:=oB 0 h17 k
  obtain⟨h24,h⟩|⟨h24,h⟩:=spl h
  obtain⟨r25,h26,h⟩:=zC h
  obtain rfl:=sj h
  exact fun j=>lF 0 [] (oC 0 [] (c8 h26)<|oB 5 h24 k)
  obtain rfl:=sj h
  exact fun j=>lF 0 [] (oB 5 h24 k)
  intro p1 r7 r12 v8 x15 v10 r h
  rw[zDP]at h
  have z {os ob} (k:Oz os ob):=oD (xR r12)<|oD (dI r7.1.steps_)<|oD (zL r7.1.solved_)<|oD (zG r7.1.vars_)<|oD (dT p1.b_)<|oD (dT p1.a_)<|oD (zG p1.c_)<|k
  obtain⟨h17,h⟩|⟨h17,h⟩:=spl h
  obtain⟨x18,h19,h⟩:=zC h
  have k:=oA 0 (zDX (o:=.no) h19)<|oB 1 h17 o0
  obtain⟨h20,h⟩|⟨h20,h⟩:=spl h
  obtain rfl:=sj h
  exact fun j=>lF 0 [] (oB 1 h20 k)
  obtain⟨r21,h22,h⟩:=zC h
  have k:=oA 0 (zDX (o:=.no) h19)<|oB 1 h20 k
  obtain⟨h23,h⟩|⟨h23,h⟩:=spl h
  obtain rfl:=sj h
  exact fun j=>lF 0 [] (oK 1 [] h23 (c11 h22) k)
  exact fun j=>lH 1 [] [0,1] [] [3,5,7,8,9,10] (z<|oK 1 [] h23 (c11 h22) k) (zTw _ _ _ _ _ _ _ h)
  exact fun j=>lH 0 [] [0,1] [] [3,5,7,8,9,11] (z<|oB 1 h17 o0) (zLn _ _ _ _ _ _ _ h)
  intro p1 r7 r12 v8 x15 v11 r h
  rw[fZ]at h
  have z {os ob} (k:Oz os ob):=oD (xR r12)<|oD (dI r7.1.steps_)<|oD (zL r7.1.solved_)<|oD (zG r7.1.vars_)<|oD (dT p1.b_)<|oD (dT p1.a_)<|oD (zG p1.c_)<|k
  obtain⟨h24,h⟩|⟨h24,h⟩:=spl h
  obtain⟨x25,h26,h⟩:=zC h
  obtain⟨r27,h28,h⟩:=zC h
  have k:=oA 1 (zNI (o:=.no) h26)<|oB 2 h24 o0
  obtain⟨h29,h⟩|⟨h29,h⟩:=spl h
  obtain rfl:=sj h
  exact fun j=>lF 0 [] (oK 1 [] h29 (c11 h28) k)
  have k:=oK 1 [] h29 (c11 h28) k
  obtain⟨h30,h⟩|⟨h30,h⟩:=spl h
  have k:=oA 1 (zNI (o:=.no) h26)<|oB 0 h30 k
  obtain⟨h31,h⟩|⟨h31,h⟩:=spl h
  obtain rfl:=sj h
  exact fun j=>lF 0 [] (oB 1 h31 k)
  exact fun j=>lH 1 [] [0,1] [] [3,5,7,8,9,11] (z<|oB 1 h31 k) (zLn _ _ _ _ _ _ _ h)
  exact fun j=>lH 1 [] [0,1] [] [3,5,7,8,9,11] (z<|oB 0 h30 k) (zLn _ _ _ _ _ _ _ h)
  exact fun j=>lH 1 [] [0,1] [] [3,5,7,8] (z<|oB 2 h24 o0) (zYr _ _ _ _ _ h)
theorem c3{qq p0 p1 r}(h:e3 qq p0 p1=some r):Ct 3 [] [slv yN p0 .no,zCD p1] (ab r) [] 0:=⟨by
 unfold e3 at h
 obtain⟨h1,h⟩|⟨h1,h⟩:=spl h
 obtain⟨r2,h3,h⟩:=zC h
 obtain rfl:=sj h
 exact tF q3 0 [] (oC 0 [] (c8 h3)<|oB 1 h1 o0)
 obtain⟨r4,h5,h⟩:=zC h
 have k:=oB 1 h1 o0
 obtain⟨h6,h⟩|⟨h6,h⟩:=spl h
 obtain⟨r7,h8,h⟩:=zC h
 have k:=oC 2 [] (c9 h8)<|oK 1 [] h6 (c7 h5) k
 obtain⟨h9,h⟩|⟨h9,h⟩:=spl h
 obtain⟨r10,h11,h⟩:=zC h
 obtain rfl:=sj h
 exact tF q3 0 [] (oC 0 [] (c8 h11)<|oB 3 h9 k)
 obtain⟨r12,h13,h⟩:=zC h
 exact tH q3 0 [] [0,1] [] [3,5,7,8] (oD (xR r12)<|oD (dI r7.1.steps_)<|oD (zL r7.1.solved_)<|oD (zG r7.1.vars_)<|oD (dT p1.b_)<|oD (dT p1.a_)<|oD (zG p1.c_)<|oC 1 [] (c10 h13)<|oB 3 h9 k) (((zBe _).1) _ _ _ _ _ h)
 obtain⟨r14,h15,h⟩:=zC h
 obtain rfl:=sj h
 exact tF q3 0 [] (oC 1 [] (c8 h15)<|oK 1 [] h6 (c7 h5) k),⟨⟨tv,dE _⟩,⟨⟨tv,zG _⟩,⟨tv,dT _⟩,⟨tv,dT _⟩,tv,tv⟩,tv⟩,zB,tv,zB⟩
theorem zTv:Evt (fun q=>e8 q>>=fun r=>some r) true:=zLo.bind Evt.ret
section
variable {l:List Ent} {x:wV} {c':List zF} {so':List zI} {st:List Int}
theorem zTu(s:zI)(i:Nat)(hi:so'[i]? = some s)(hl:so'.length≤1048576)(os:∀r∈so',zM r.t_=true∧¬s.n_∈frT r.t_)(nd:(so'.map (·.n_)).Nodup)(K:Evt (fun q=>aT q x (yA.mk true c' so' st,0) (ofV c') (w64 ((i:Int)+1))) true) :
  ∀(r:List zI) (v:Nat),so'.drop v=r->Evt (fun q=>fZ q x (yA.mk true c' so' st,0) (ofV c') (i:Int) s (v:Int)) true
 | [],v,hd=>by
  refine Evt.succ ?_
  simp only[fZ]
  exact Evt.ifF (yC hd) K
 |y::r,v,hd=>by
  have hlt:=yE hd
  have hy:y∈so':=List.mem_of_mem_drop (by rw[hd];simp)
  have hyv:so'[v]? = some y:=by rw[←List.head?_drop,hd];rfl
  have next:Evt (fun q=>fZ q x (yA.mk true c' so' st,0) (ofV c') (i:Int) s (w64 ((v:Int)+1))) true:=by
   rw[zU v (by omega)]
   exact zTu s i hi hl os nd K r (v+1) (zS hd)
  refine Evt.succ ?_
  simp only[fZ]
  refine Evt.ifT (yB hd) (Evt.pure (zX hd) ((dW (os y hy).1 (os y hy).2).bind (Evt.ifF rfl ?_)))
  by_cases e:(v:Int)=i
  ·exact Evt.ifF (by simp[e]) next
  ·refine Evt.ifT (by simpa using e) (Evt.ifF ?_ next)
   have hne:v≠i:=by omega
   obtain⟨a1,a2⟩:=List.getElem?_eq_some_iff.1 hyv
   obtain⟨b1,b2⟩:=List.getElem?_eq_some_iff.1 hi
   have hp:=List.pairwise_iff_getElem.1 nd
   have:y.n_≠s.n_:=by
    rcases Nat.lt_or_gt_of_ne hne with h|h
    ·have:=hp v i (by simpa using a1) (by simpa using b1) h
     rw[List.getElem_map,List.getElem_map,a2,b2]at this
     exact this
    ·have:=hp i v (by simpa using b1) (by simpa using a1) h
     rw[List.getElem_map,List.getElem_map,a2,b2]at this
     exact this.symm
   simpa using this
theorem zTt(s:zI)(i:Nat)(hl:(ofV c').length≤1048576)(oc:∀v∈ofV c',v.n_≠s.n_∧zM v.type_=true∧¬s.n_∈frT v.type_)(K:Evt (fun q=>fZ q x (yA.mk true c' so' st,0) (ofV c') (i:Int) s 0) true) :
  ∀(r:List yU) (v:Nat),(ofV c').drop v=r->Evt (fun q=>zDP q x (yA.mk true c' so' st,0) (ofV c') (i:Int) s (v:Int)) true
 | [],v,hd=>by
  refine Evt.succ ?_
  simp only[zDP]
  exact Evt.ifF (yC hd) K
 |y::r,v,hd=>by
  have hlt:=yE hd
  obtain⟨h1,h2,h3⟩:=oc y (List.mem_of_mem_drop (by rw[hd];simp))
  refine Evt.succ ?_
  simp only[zDP]
  refine Evt.ifT (yB hd) (Evt.pure (zX hd) (Evt.ifF (by simpa using h1) ((dW h2 h3).bind (Evt.ifF rfl ?_))))
  rw[zU v (by omega)]
  exact zTt s i hl oc K r (v+1) (zS hd)
theorem zTs(hI:fJ l c' [] so' x.c_.length)(hx:x.c_.length≤12):∀(r:List zI) (v:Nat),so'.drop v=r->Evt (fun q=>aT q x (yA.mk true c' so' st,0) (ofV c') (v:Int)) true
 | [],v,hd=>by
  have hlen:=hI.len
  have hof:(ofV c').length=c'.length:=by unfold ofV;rw[List.length_map]
  refine Evt.succ ?_
  simp only[aT,if_true]
  refine Evt.ifF (yC hd) ((zJp hI.ctx fun v hv=>zPx (hI.typ v hv)).bind (Evt.ifT rfl (Evt.ifT ?_ zTv)))
  rw[hof,yI (by omega) (by omega)]
  simp;omega
 |s::r,v,hd=>by
  have hlen:=hI.len
  have hlt:=yE hd
  have hs:s∈so':=List.mem_of_mem_drop (by rw[hd];simp)
  have hof:(ofV c').length=c'.length:=by unfold ofV;rw[List.length_map]
  refine Evt.succ ?_
  simp only[aT]
  refine Evt.ifT (yB hd) (Evt.pure (zX hd) (zTt s v (by omega) (fun w hw=>?_) (zTu s v (by rw[←List.head?_drop,hd];rfl) (by omega) (fun r hr=>⟨(zBh.1 (hI.sol r hr)).1,hI.os s hs r hr⟩) hI.nd ?_ _ 0 rfl) _ 0 rfl))
  ·obtain⟨u,hu,rfl⟩:=List.mem_map.1 hw
   exact⟨(hI.oc s hs u hu).1,(hI.ctx.each u hu).2.2.1,(hI.oc s hs u hu).2⟩
  ·rw[zU v (by omega)]
   exact zTs hI hx r (v+1) (zS hd)
end
theorem zGC(l:List Ent)(x:wV)(he:∀e∈l,EOk e)(hc:∀e∈l,ECl e)(ho:zPw x):Evt (fun q=>e3 q l x) true:=by
 simp only[e3]
 refine Evt.iff (fun _=>zTv) fun h60=>?_
 have hl:=of_decide_eq_false h60
 obtain⟨g,hg,hg'⟩:=zJo x
 refine hg.bind ?_
 cases g with
 |false=>exact Evt.ifF rfl zTv
 |true=>
  have hL:=hg' rfl
  refine Evt.ifT rfl ?_
  obtain⟨r,hr,hS⟩:=zJn l x (by omega) he hc hL ho
  refine hr.bind ?_
  rcases hS with h|⟨⟨N,hE⟩,h1,h2,h3,h4,⟨s,hU,rfl⟩|⟨c',so',s,hU,rfl⟩⟩
  ·exact Evt.ifT (by simpa using h) zTv
  ·refine Evt.ifF rfl ((zSV [] (by simp)).bind (Evt.succ ?_))
   simp only[aT]
   exact Evt.ifF rfl (Evt.ifF rfl (Evt.ifT rfl zTv))
  ·have hI:=hU.inv hE (fJ.start h1 h4 h3) c' so' rfl
   have:=hI.ctx.len
   refine Evt.ifF rfl ((zSV c' (by omega)).bind ?_)
   exact zTs hI hL.c _ 0 rfl
theorem zYq{l:List Ent}(h:∀e∈l,RdE e):∀e∈l,EOk e:=fun e he=>⟨(h e he).1,(h e he).2.1,Nat.le_trans (h e he).2.2.1 (by decide),Nat.le_trans (h e he).2.2.2 (by decide)⟩
theorem zYp{l:List Ent}(h:∀e∈l,RdE e):∀e∈l,ECl e:=fun e he=>⟨(h e he).2.2.1,(h e he).2.2.2⟩
theorem zGD(l:List Ent)(x:wV)(w0:∀e∈l,RdE e)(w1:zPw x):CT Tryz.prog 3 [] [.sl (zJ yN l) l.length .no,.agg (mH x)] (ab true) [] 0:=by
 obtain⟨q,hq⟩:=(zGC l x (zYq w0) (zYp w0) w1).at
 exact c3 hq
end Go.Proofs.YtfbkefchjcocmaaGreat
