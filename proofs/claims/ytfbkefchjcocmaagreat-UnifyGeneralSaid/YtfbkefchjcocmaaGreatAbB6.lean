/- Parts of the proof that the law returns true: walks of the functions, plain laws. -/
import Derived.KernelRfl
import Derived.Test.YtfbkefchjcocmaaGreatAbB5
set_option linter.unusedVariables false
set_option linter.unusedSimpArgs false
set_option linter.unusedSectionVars false
namespace Go.Proofs.YtfbkefchjcocmaaGreat
open Go Go.Ab
theorem zNT(l:List Ent){c:Int}(h0:0≤c)(h1:c<l.length):Evt (fun q=>zUz q (wC l) c) (ent l c).fam:=by
 simp only[zUz,fN]
 exact Evt.ifF (decide_eq_false (by omega)) (Evt.ifF (decide_eq_false (by omega)) (Evt.pure (yI h0 h1) Evt.ret))
theorem zQu{N:ByteArray->Bool}{l:List Ent}(hE:wI N l)(he:∀e∈l,EOk e)(hl:l.length≤65535)(hc:∀e∈l,ECl e){a b:Tm}(hsa:zL a=true)(hsb:zL b=true)
  (q5 q6:Int) (q7:List zG) (q8:List zD) (q9 q10 q11:Nat) (q12:Bool) (q13:List zG) (q14:List zI) (q15 q16:Nat) (q17:List Int) (q18:Bool) (h5:0≤q5) (h6:0≤q6) (h56:q5+q6≤1099511627776)
  (h9:q10+q9≤q8.length) (h8:q8.length≤1048576000) (h17:q17.length≤1048576000) :
  Tot (fun q=>gP q l l (evA l l.length 0) (l.map xR) (l.map sK) q5 q6 q7 q8 q9 q10 q11 q12 q13 q14 q15 q16 q17 q18 0 (zD.mk a b)) fun x=>
   x = .inl (false,q8,q9,q10,q11,q17,q18,0,q5,q6) ∨
   (x = .inr (.inl (true,q8,q9,q10,q11,q17++[4],0,q5,q6))∧xZ l a∧xZ l b∧(hdT a).n≠(hdT b).n) ∨
   (xZ l a∧xZ l b∧(hdT a).n=(hdT b).n∧zZc l a b q8 q9 q10 q11 q17 q18 q5 (q5+q6) x):=by
 simp only[gP,rX,gO]
 refine Tot.bind (P:=fun r=>r=jK l a) ((zCj l a hsa).tot rfl) fun r1 h1=>?_
 subst h1
 by_cases ca:xZ l a
 ·have xa:jK l a=((hdT a).n,arT a,true):=if_pos ca
  have sa:=wY hsa ca
  rw[xa]
  refine Tot.ite (fun _=>Tot.bind (P:=fun r=>r=jK l b) ((zCj l b hsb).tot rfl) fun r4 h4=>?_) fun h=>(by cases h)
  subst h4
  by_cases cb:xZ l b
  ·have xb:jK l b=((hdT b).n,arT b,true):=if_pos cb
   have sb:=wY hsb cb
   rw[xb]
   refine Tot.ite (fun _=>Tot.bind (P:=fun r=>r=(ent l (hdT a).n).fam) (((zNT l sa.1 sa.2.1).bind Evt.ret).tot rfl) fun r7 h7=>Tot.bind (P:=fun r=>r=(ent l (hdT b).n).fam) (((zNT l sb.1 sb.2.1).bind Evt.ret).tot rfl) fun r9 h9'=>Tot.ite (fun _=>Tot.ret (.inl rfl)) fun _=>Tot.ite (fun h10=>?_) fun h10=>?_) fun h=>(by cases h)
   ·exact Tot.bind (P:=fun s=>s=q17++[4]) (Tot.pure (yD (by simp;omega)) (Tot.ret rfl)) fun s hs=>Tot.ret (.inr (.inl ⟨by rw[hs],ca,cb,by simpa using h10⟩))
   ·have hn:(hdT a).n=(hdT b).n:=by simpa using h10
    exact(zBD hE he hl hc hsa hsb ca cb hn q7 q8 q9 q10 q11 q12 q13 q14 q15 q16 q17 q18 q5 (q5+q6) h56 h9 h8 h17 (arT a).length 0 q5 q6 [] (by omega) h5 (Int.le_refl _) h6 rfl (fun i hi=>absurd hi (Nat.not_lt_zero _)) (by simp)).mono fun x hx=>.inr (.inr ⟨ca,cb,hn,hx⟩)
  ·have xb:jK l b=(0,[],false):=if_neg cb
   rw[xb]
   exact Tot.ite (fun h=>by cases h) fun _=>Tot.ret (.inl rfl)
 ·have xa:jK l a=(0,[],false):=if_neg ca
  rw[xa]
  exact Tot.ite (fun h=>by cases h) fun _=>Tot.bind (P:=fun _=>True) ((zCj l b hsb).tot trivial) fun r15 _=>Tot.ite (fun _=>Tot.ret (.inl rfl)) fun _=>Tot.ret (.inl rfl)
def yDu(l:List Ent)(a b:Tm)(q8:List zD)(q9 q10 q11:Nat)(q17:List Int)(q18:Bool)(L U:Int)
  (x:(List zD×Nat×Nat×Nat×List Int×Bool×Int×Int×Int) ⊕ ((List zD×Nat×Nat×Nat×List Int×Int×Int×Int) ⊕ (List zD×List Int×Bool×Int×Int×Int))):Prop:=
 (∃e fl fu,e≠0∧x = .inl (q8,q9,q10,q11,q17,q18,e,fl,fu)) ∨
 (x = .inr (.inl (q8,q9,q10,q11,q17++[4],0,L,U))∧xZ l a∧xZ l b∧(hdT a).n≠(hdT b).n) ∨
 (∃fl fu,0≤fl∧fl≤L∧0≤fu∧fl+fu=L+U∧x = .inr (.inr (vU (sI l a) (sI l b)++(q8.drop q10).take q9,q17++[2],q18,0,fl,fu))∧xZ l a∧xZ l b∧(hdT a).n=(hdT b).n ∧
  ∀i:Nat,(i:Int)<(ent l (hdT a).n).pars->∃k,Cv l false (nth (arT a) i) (nth (arT b) i) true k)
theorem zMs{N:ByteArray->Bool}{l:List Ent}(hE:wI N l)(he:∀e∈l,EOk e)(hl:l.length≤65535)(hc:∀e∈l,ECl e){a b:Tm}(hsa:zL a=true)(hsb:zL b=true)
  (q5 q6:Int) (q7:List zG) (q8:List zD) (q9 q10 q11:Nat) (q12:Bool) (q13:List zG) (q14:List zI) (q15 q16:Nat) (q17:List Int) (q18:Bool) (h5:0≤q5) (h6:0≤q6) (h56:q5+q6≤1099511627776)
  (h9:q10+q9≤q8.length) (h8:q8.length≤1048576000) (h17:q17.length≤1048576000) :
  Tot (fun q=>gR q l l (evA l l.length 0) (l.map xR) (l.map sK) q5 q6 q7 q8 q9 q10 q11 q12 q13 q14 q15 q16 q17 q18 0 (zD.mk a b)) (yDu l a b q8 q9 q10 q11 q17 q18 q5 q6):=by
 simp only[gR]
 refine(zQu hE he hl hc hsa hsb q5 q6 q7 q8 q9 q10 q11 q12 q13 q14 q15 q16 q17 q18 h5 h6 h56 h9 h8 h17).bind fun x hx=>?_
 rcases hx with rfl|⟨rfl,ca,cb,hn⟩|⟨ca,cb,hn,⟨e,fl,fu,e0,rfl⟩|⟨fl,fu,f0,f1,f2,f3,rfl,hp⟩⟩
 ·refine Tot.ite (fun h=>by cases h) fun _=>(zFL hE he hl hc (yA hsa) (yA hsb) q5 q6 h5 h6 h56).bind fun r5 _=>Tot.ite (fun _=>Tot.ite (fun h=>Tot.ret (.inl ⟨_,_,_,by simpa using h,rfl⟩)) fun _=>Tot.ret (.inl ⟨12,_,_,by decide,rfl⟩)) fun _=>Tot.ite (fun h=>Tot.ret (.inl ⟨_,_,_,by simpa using h,rfl⟩)) fun _=>Tot.ret (.inl ⟨13,_,_,by decide,rfl⟩)
 ·exact Tot.ite (fun _=>Tot.ret (.inr (.inl ⟨rfl,ca,cb,hn⟩))) fun h=>by cases h
 ·exact Tot.ite (fun _=>Tot.ret (.inl ⟨e,fl,fu,e0,rfl⟩)) fun h=>by cases h
 ·exact Tot.ite (fun _=>Tot.ret (.inr (.inr ⟨fl,fu,f0,f1,f2,f3,rfl,ca,cb,hn,hp⟩))) fun h=>by cases h
def jX:Nat->List zG->Int->Int->Option (Tm×Int)
 |0,_,_,_=>none
 |qq+1,p0,p1,v10=>
 if decide (v10<(p0.length:Int))then
 zR p0 v10>>=fun x2=>
 if x2.n_==p1 then
 e53 qq x2.type_>>=fun r5=>
 some (r5,0)
 else
 jX qq p0 p1 (w64 (v10+1))
 else
 some ((Tm.mk 0 0 []),16)
def zXz(qq:Nat)(p0:List zG)(p1:Int):Option (Tm×Int):=
 jX qq p0 p1 0
theorem zXy:∀qq:Nat,(∀p0 p1 v10 r,jX qq p0 p1 v10=some r->(∀j,dL 0 (inn (inn (rgt (lft (rgt (bod Tryz.f122)))))) (sp j 23 0 [(1,ai p1),(4,.mp 0 0),(8,slv zK p0 .no),(9,ai (p0.length:Int)),(10,ai v10)]) (⟨[(0,.cells [ai 0,ai 0,slv zF ([]:List Tm) .nl])],1,[],0,[]⟩) (fQ 0 (nQ 0 Tryz.f122 (.tup [tmA r.1,ai r.2]) [] 0) [.blk 0,.seq (rgt (rgt (bod Tryz.f122)))]))):=by
 intro qq
 induction qq with
 |zero=>
  exact fun _ _ _ _ h=>nn h
 |succ qq ih=>
  intro p0 p1 v10 r h
  rw[jX]at h
  obtain⟨h1,h⟩|⟨h1,h⟩:=spl h
  obtain⟨x2,h3,h⟩:=zC h
  have k:=oA 0 (zGg (o:=.no) h3)<|oB 0 h1 o0
  obtain⟨h4,h⟩|⟨h4,h⟩:=spl h
  obtain⟨r5,h6,h⟩:=zC h
  cases h
  exact fun j=>lF 1 [] (oD (dT r5.sub)<|oC 1 [] (c53 h6)<|oB 3 h4 k)
  exact fun j=>lH 1 [] [0] [] [1,4,8,9,10] (oD (zH p0)<|oD (dT ([]:List Tm))<|oB 3 h4 k) (ih _ _ _ _ h)
  cases h
  exact fun j=>lF 1 [] (oD (dT ([]:List Tm))<|oB 0 h1 o0)
theorem yDt{qq p0 p1 r}(h:zXz qq p0 p1=some r):Ct 122 [] [slv zK p0 .no,ai p1] (.tup [tmA r.1,ai r.2]) [] 0:=⟨by
 unfold zXz at h
 exact tH ⟨Tryz.func122,rfl⟩ 1 [] [0] [] [1,4,8,9,10] (oD (zH p0)<|oD (dT ([]:List Tm)) o0) (zXy _ _ _ _ _ h),⟨⟨tv,zH _⟩,tv,tv⟩,zB,⟨⟨tv,tv,dT _,tv⟩,tv,tv⟩,zB⟩
def lP(qq:Nat)(q0 q1:List Ent)(q2:List yS)(q3 q4:List Int)(q5 q6:Int)(q7:List zG)(q8:List zD)(q9 q10 q11:Nat)(q12:Bool)(q13:List zG)(q14:List zI)(q15 q16:Nat)(q17:List Int)(q18:Bool)(q19:Int)(p1:Tm):Option Int:=
 if p1.k != 8 then
 some (-1)
 else
 zXz qq q7 p1.n>>=fun r2=>
 if r2.2 != 0 then
 some (-1)
 else
 some p1.n
theorem zEr:Qf 101 Tryz.f101:=⟨Tryz.func101,rfl⟩
theorem zJZ{qq q0 q1 q2 q3 q4 q5 q6 q7 q8 q9 q10 q11 q12 q13 q14 q15 q16 q17 q18 q19 p1 r}(h:lP qq q0 q1 q2 q3 q4 q5 q6 q7 q8 q9 q10 q11 q12 q13 q14 q15 q16 q17 q18 q19 p1=some r):Ct 101 [.cells [.mp 1 0,.mp 3 0,slv zK q7 .no,.ms 4 (q10*6) q9 q11 6,ab q12,.ms 5 0 q13.length q13.length 4,.ms 6 0 q15 q16 4,.ms 7 0 q17.length q17.length 1,ab q18,ai q19],qB q0 2 q3 q4,qR q1 q2,.cells [ai q5,ai q6],.row (zJ zP q8),.row (zJ zK q13),.row (zJ zQ q14),.row (zJ zW q17)] [.mp 0 0,tmA p1] (ai r) [.cells [.mp 1 0,.mp 3 0,slv zK q7 .no,.ms 4 (q10*6) q9 q11 6,ab q12,.ms 5 0 q13.length q13.length 4,.ms 6 0 q15 q16 4,.ms 7 0 q17.length q17.length 1,ab q18,ai q19],qB q0 2 q3 q4,qR q1 q2,.cells [ai q5,ai q6],.row (zJ zP q8),.row (zJ zK q13),.row (zJ zQ q14),.row (zJ zW q17)] 0:=⟨by
 unfold lP at h
 have z {os ob} (k:Oz os ob):=oD (dI q17)<|oD (zM q14)<|oD (zH q13)<|oD (zN q8)<|oDm q0 q1 q2 q3 q4<|oD (zH q7)<|k
 obtain⟨h1,h⟩|⟨h1,h⟩:=spl h
 obtain rfl:=sj h
 exact tF zEr 0 [0,1,2,3,4,5,6,7] (z<|oB 1 h1 o0)
 obtain⟨r2,h3,h⟩:=zC h
 have k:=oC 2 [] (yDt h3)<|oB 1 h1 o0
 obtain⟨h4,h⟩|⟨h4,h⟩:=spl h
 obtain rfl:=sj h
 exact tF zEr 0 [0,1,2,3,4,5,6,7] (z<|oB 3 h4 k)
 obtain rfl:=sj h
 exact tF zEr 1 [0,1,2,3,4,5,6,7] (z<|oB 3 h4 k),⟨(lz rfl),⟨tv,tv,⟨tv,dT _⟩,tv⟩,tv⟩,(zA ⟨(lz rfl),(lz rfl),⟨tv,zH _⟩,(lz rfl),tv,(lz rfl),(lz rfl),(lz rfl),tv,tv,tv⟩ (fMa (lz rfl) (zA ⟨tv,tv,tv⟩ (zA (zN _) (zA (zH _) (zA (zM _) (zA (dI _) zB))))))),tv,(zA ⟨(lz rfl),(lz rfl),zH _,(lz rfl),tv,(lz rfl),(lz rfl),(lz rfl),tv,tv,tv⟩ (fMf (lz rfl) (zA ⟨tv,tv,tv⟩ (zA (zN _) (zA (zH _) (zA (zM _) (zA (dI _) zB)))))))⟩
theorem zEq{N:ByteArray->Bool}{l:List Ent}(hE:wI N l)(he:∀e∈l,EOk e){x:Tm}(hx:x.Ok)(L U:Int)(h0:0≤L)(h1:0≤U)(h2:L+U≤1099511627776) :
  Tot (fun q=>zJa q (wC l) x L U) fun r=>r.2.1=0->∃k,0≤k∧k≤L∧Br l x r.1 0 k∧r.2.2.1=L-k∧r.2.2.2=U+k:=by
 refine Tot.mono (Ou.met (zFC l hE he x hx L h0) h1 h2) fun r hr a=>?_
 rcases hr with hr|⟨R,k,k0,k1,⟨-,-,rfl⟩|⟨-,y,e,hb,rfl⟩,rfl⟩
 ·have hr':r.2.1=8:=hr
  rw[hr']at a;cases a
 ·have a':(5:Int)=0:=a
  cases a'
 ·have a':e=0:=a
  subst a'
  exact⟨k,k0,k1,hb,rfl,rfl⟩
theorem zFM{c:List zG}(hl:c.length≤524288)(hs:∀v∈c,v.type_.Ok)(n:Int):∀(r:List zG) (v:Nat),c.drop v=r->Tot (fun q=>jX q c n (v:Int)) fun x=>x.2=0->n∈r.map (·.n_)
 | [],v,hd=>by
  refine Tot.succ ?_
  simp only[jX]
  refine Tot.ite (fun h=>?_) fun _=>Tot.ret fun h=>absurd h (by show ¬(16:Int)=0;decide)
  rw[zZ hd]at h;cases h
 |x::r,v,hd=>by
  have hlt:=yC hd
  have hx:x∈c:=List.mem_of_mem_drop (by rw[hd];simp)
  refine Tot.succ ?_
  simp only[jX]
  refine Tot.ite (fun _=>Tot.pure (zV hd) (Tot.ite (fun e=>Tot.bind (P:=fun _=>True) ((rJ x.type_ (hs x hx)).tot trivial) fun t _=>Tot.ret fun _=>?_) fun _=>?_)) fun h=>?_
  ·have e':x.n_=n:=by simpa using e
   simp[e']
  ·rw[zU v (by omega)]
   exact(zFM hl hs n r (v+1) (zS hd)).mono fun y hy h=>by rw[List.map_cons];exact List.mem_cons_of_mem _ (hy h)
  ·rw[zY hd]at h;cases h
theorem zKz(q0 q1:List Ent)(q2:List yS)(q3 q4:List Int)(q5 q6:Int){c:List zG}(hl:c.length≤524288)(hs:∀v∈c,v.type_.Ok)(q8:List zD)(q9 q10 q11:Nat)(q12:Bool)(q13:List zG)(q14:List zI)(q15 q16:Nat)(q17:List Int)(q18:Bool)(e:Int)(t:Tm) :
  Tot (fun q=>lP q q0 q1 q2 q3 q4 q5 q6 c q8 q9 q10 q11 q12 q13 q14 q15 q16 q17 q18 e t) fun k=>0≤k->t.k=8∧t.n=k∧k∈c.map (·.n_):=by
 simp only[lP,zXz]
 refine Tot.ite (fun _=>Tot.ret fun h=>absurd h (by decide)) fun h8=>(zFM hl hs t.n c 0 rfl).bind fun x hx=>Tot.ite (fun _=>Tot.ret fun h=>absurd h (by decide)) fun h=>Tot.ret fun _=>⟨by simpa using h8,rfl,hx (by simpa using h)⟩
def zAM(qq:Nat)(q0 q1:List Ent)(q2:List yS)(q3 q4:List Int)(q5 q6:Int)(q7:List zG)(q8:List zD)(q9 q10 q11:Nat)(q12:Bool)(q13:List zG)(q14:List zI)(q15 q16:Nat)(q17:List Int)(q18:Bool)(q19:Int):Option ((List zG×List zD×Nat×Nat×Nat×List zI×Nat×Nat×List Int×Bool×Int×Int×Int) ⊕ ((List zG×List zD×Nat×Nat×Nat×List zI×Nat×Nat×List Int×Int×Int×Int) ⊕ ((List zG×List zD×Nat×Nat×Nat×List zI×List Int×Bool×Int×Int×Int) ⊕ (List zG×List zD×List zI×Nat×Nat×List Int×Bool×Int×Int×Int×List zD)))):=
 kE q9 0>>=fun x1=>
 zR q8 ((q10+x1):Int)>>=fun x3=>
 mF q9 1 (q9:Int)>>=fun x5=>
 e98 qq q5 q6>>=fun r7=>
 if r7.1 != 0 then
 some (.inl (q7,q8,x5.2,(q10+x5.1),(q11-x5.1),q14,q15,q16,q17,q18,r7.1,r7.2.1,r7.2.2))
 else
 zJa qq (xE.mk q0 q1 q2 q3 q4) x3.a_ r7.2.1 r7.2.2>>=fun r10=>
 pT qq q0 q1 q2 q3 q4 r10.2.2.1 r10.2.2.2 q7 q8 x5.2 (q10+x5.1) (q11-x5.1) q12 q13 q14 q15 q16 q17 q18 q19 r10.1 r10.2.1>>=fun r12=>
 if r12.2 != 0 then
 some (.inl (q7,q8,x5.2,(q10+x5.1),(q11-x5.1),q14,q15,q16,q17,q18,r12.2,r10.2.2.1,r10.2.2.2))
 else
 zJa qq (xE.mk q0 q1 q2 q3 q4) x3.b_ r10.2.2.1 r10.2.2.2>>=fun r15=>
 pT qq q0 q1 q2 q3 q4 r15.2.2.1 r15.2.2.2 q7 q8 x5.2 (q10+x5.1) (q11-x5.1) q12 q13 q14 q15 q16 q17 q18 r12.2 r15.1 r15.2.1>>=fun r17=>
 if r17.2 != 0 then
 some (.inl (q7,q8,x5.2,(q10+x5.1),(q11-x5.1),q14,q15,q16,q17,q18,r17.2,r15.2.2.1,r15.2.2.2))
 else
 lP qq q0 q1 q2 q3 q4 r15.2.2.1 r15.2.2.2 q7 q8 x5.2 (q10+x5.1) (q11-x5.1) q12 q13 q14 q15 q16 q17 q18 r17.2 r12.1>>=fun r20=>
 lP qq q0 q1 q2 q3 q4 r15.2.2.1 r15.2.2.2 q7 q8 x5.2 (q10+x5.1) (q11-x5.1) q12 q13 q14 q15 q16 q17 q18 r17.2 r17.1>>=fun r22=>
 if decide (r20≥0)then
 if r20==r22 then
 some (.inl (q7,q8,x5.2,(q10+x5.1),(q11-x5.1),q14,q15,q16,q17,q18,12,r15.2.2.1,r15.2.2.2))
 else
 lL qq q0 q1 q2 q3 q4 r15.2.2.1 r15.2.2.2 q7 q8 x5.2 (q10+x5.1) (q11-x5.1) q12 q13 q14 q15 q16 q17 q18 r17.2 r20 r17.1>>=fun r26=>
 match r26 with
 | .inl y28=>
  some (.inr (.inl (y28.1,y28.2.2.2.2.2.2,x5.2,(q10+x5.1),(q11-x5.1),y28.2.1,y28.2.2.1,y28.2.2.2.1,y28.2.2.2.2.1,y28.2.2.2.2.2.1,r15.2.2.1,r15.2.2.2)))
 | .inr (.inl y29)=>
  some (.inl (y29.1,y29.2.2.2.2.2.2.2,x5.2,(q10+x5.1),(q11-x5.1),y29.2.1,y29.2.2.1,y29.2.2.2.1,y29.2.2.2.2.1,y29.2.2.2.2.2.1,y29.2.2.2.2.2.2.1,r15.2.2.1,r15.2.2.2))
 | .inr (.inr y30)=>
  some (.inr (.inr (.inl (y30.1,y30.2.2.2.2.2,x5.2,(q10+x5.1),(q11-x5.1),y30.2.1,y30.2.2.1,y30.2.2.2.1,y30.2.2.2.2.1,r15.2.2.1,r15.2.2.2))))
 else
 if decide (r22≥0)then
 lL qq q0 q1 q2 q3 q4 r15.2.2.1 r15.2.2.2 q7 q8 x5.2 (q10+x5.1) (q11-x5.1) q12 q13 q14 q15 q16 q17 q18 r17.2 r22 r12.1>>=fun r32=>
 match r32 with
 | .inl y34=>
  some (.inr (.inl (y34.1,y34.2.2.2.2.2.2,x5.2,(q10+x5.1),(q11-x5.1),y34.2.1,y34.2.2.1,y34.2.2.2.1,y34.2.2.2.2.1,y34.2.2.2.2.2.1,r15.2.2.1,r15.2.2.2)))
 | .inr (.inl y35)=>
  some (.inl (y35.1,y35.2.2.2.2.2.2.2,x5.2,(q10+x5.1),(q11-x5.1),y35.2.1,y35.2.2.1,y35.2.2.2.1,y35.2.2.2.2.1,y35.2.2.2.2.2.1,y35.2.2.2.2.2.2.1,r15.2.2.1,r15.2.2.2))
 | .inr (.inr y36)=>
  some (.inr (.inr (.inl (y36.1,y36.2.2.2.2.2,x5.2,(q10+x5.1),(q11-x5.1),y36.2.1,y36.2.2.1,y36.2.2.2.1,y36.2.2.2.2.1,r15.2.2.1,r15.2.2.2))))
 else
 gR qq q0 q1 q2 q3 q4 r15.2.2.1 r15.2.2.2 q7 q8 x5.2 (q10+x5.1) (q11-x5.1) q12 q13 q14 q15 q16 q17 q18 r17.2 (zD.mk r12.1 r17.1)>>=fun r37=>
 match r37 with
 | .inl y39=>
  some (.inl (q7,q8,y39.2.1,y39.2.2.1,y39.2.2.2.1,q14,q15,q16,y39.2.2.2.2.1,y39.2.2.2.2.2.1,y39.2.2.2.2.2.2.1,y39.2.2.2.2.2.2.2.1,y39.2.2.2.2.2.2.2.2))
 | .inr (.inl y40)=>
  some (.inr (.inl (q7,q8,y40.2.1,y40.2.2.1,y40.2.2.2.1,q14,q15,q16,y40.2.2.2.2.1,y40.2.2.2.2.2.1,y40.2.2.2.2.2.2.1,y40.2.2.2.2.2.2.2)))
 | .inr (.inr y41)=>
  some (.inr (.inr (.inr (q7,y41.1,q14,q15,q16,y41.2.1,y41.2.2.1,y41.2.2.2.1,y41.2.2.2.2.1,y41.2.2.2.2.2,q8))))
abbrev zBE (q0 q1:List Ent) (q2:List yS) (q3 q4:List Int) (q5 q6:Int) (q7:List zG) (q8:List zD) (q9 q10 q11:Nat) (q12:Bool) (q13:List zG) (q14:List zI) (q15 q16:Nat) (q17:List Int) (q18:Bool) (q19:Int) (r:List zG×List zD×Nat×Nat×Nat×List zI×Nat×Nat×List Int×Bool×Int×Int×Int) (C:Cf):Prop:=C 65 [.cells [.mp 1 0,.mp 3 0,slv zK q7 .no,.ms 4 (q10*6) q9 q11 6,ab q12,.ms 5 0 q13.length q13.length 4,.ms 6 0 q15 q16 4,.ms 7 0 q17.length q17.length 1,ab q18,ai q19],qB q0 2 q3 q4,qR q1 q2,.cells [ai q5,ai q6],.row (zJ zP q8),.row (zJ zK q13),.row (zJ zQ q14),.row (zJ zW q17)] [.mp 0 0] (.tup []) [.cells [.mp 1 0,.mp 3 0,slv zK r.1 .no,.ms 4 (r.2.2.2.1*6) r.2.2.1 r.2.2.2.2.1 6,ab q12,.ms 5 0 q13.length q13.length 4,.ms 8 0 r.2.2.2.2.2.2.1 r.2.2.2.2.2.2.2.1 4,.ms 9 0 r.2.2.2.2.2.2.2.2.1.length r.2.2.2.2.2.2.2.2.1.length 1,ab r.2.2.2.2.2.2.2.2.2.1,ai r.2.2.2.2.2.2.2.2.2.2.1],qB q0 2 q3 q4,qR q1 q2,.cells [ai r.2.2.2.2.2.2.2.2.2.2.2.1,ai r.2.2.2.2.2.2.2.2.2.2.2.2],.row (zJ zP r.2.1),.row (zJ zK q13),.dead,.dead,.row (zJ zQ r.2.2.2.2.2.1),.row (zJ zW r.2.2.2.2.2.2.2.2.1)] 0
abbrev zBF (q0 q1:List Ent) (q2:List yS) (q3 q4:List Int) (q5 q6:Int) (q7:List zG) (q8:List zD) (q9 q10 q11:Nat) (q12:Bool) (q13:List zG) (q14:List zI) (q15 q16:Nat) (q17:List Int) (q18:Bool) (q19:Int) (r:List zG×List zD×Nat×Nat×Nat×List zI×Nat×Nat×List Int×Int×Int×Int) (C:Cf):Prop:=C 65 [.cells [.mp 1 0,.mp 3 0,slv zK q7 .no,.ms 4 (q10*6) q9 q11 6,ab q12,.ms 5 0 q13.length q13.length 4,.ms 6 0 q15 q16 4,.ms 7 0 q17.length q17.length 1,ab q18,ai q19],qB q0 2 q3 q4,qR q1 q2,.cells [ai q5,ai q6],.row (zJ zP q8),.row (zJ zK q13),.row (zJ zQ q14),.row (zJ zW q17)] [.mp 0 0] (.tup []) [.cells [.mp 1 0,.mp 3 0,slv zK r.1 .no,.ms 4 (r.2.2.2.1*6) r.2.2.1 r.2.2.2.2.1 6,ab q12,.ms 5 0 q13.length q13.length 4,.ms 8 0 r.2.2.2.2.2.2.1 r.2.2.2.2.2.2.2.1 4,.ms 9 0 r.2.2.2.2.2.2.2.2.1.length r.2.2.2.2.2.2.2.2.1.length 1,ab true,ai r.2.2.2.2.2.2.2.2.2.1],qB q0 2 q3 q4,qR q1 q2,.cells [ai r.2.2.2.2.2.2.2.2.2.2.1,ai r.2.2.2.2.2.2.2.2.2.2.2],.row (zJ zP r.2.1),.row (zJ zK q13),.dead,.dead,.row (zJ zQ r.2.2.2.2.2.1),.row (zJ zW r.2.2.2.2.2.2.2.2.1)] 0
abbrev zBG (q0 q1:List Ent) (q2:List yS) (q3 q4:List Int) (q5 q6:Int) (q7:List zG) (q8:List zD) (q9 q10 q11:Nat) (q12:Bool) (q13:List zG) (q14:List zI) (q15 q16:Nat) (q17:List Int) (q18:Bool) (q19:Int) (r:List zG×List zD×Nat×Nat×Nat×List zI×List Int×Bool×Int×Int×Int) (C:Cf):Prop:=C 65 [.cells [.mp 1 0,.mp 3 0,slv zK q7 .no,.ms 4 (q10*6) q9 q11 6,ab q12,.ms 5 0 q13.length q13.length 4,.ms 6 0 q15 q16 4,.ms 7 0 q17.length q17.length 1,ab q18,ai q19],qB q0 2 q3 q4,qR q1 q2,.cells [ai q5,ai q6],.row (zJ zP q8),.row (zJ zK q13),.row (zJ zQ q14),.row (zJ zW q17)] [.mp 0 0] (.tup []) [.cells [.mp 1 0,.mp 3 0,slv zK r.1 .no,.ms 4 (r.2.2.2.1*6) r.2.2.1 r.2.2.2.2.1 6,ab q12,.ms 5 0 q13.length q13.length 4,.ms 8 0 r.2.2.2.2.2.1.length r.2.2.2.2.2.1.length 4,.ms 9 0 r.2.2.2.2.2.2.1.length r.2.2.2.2.2.2.1.length 1,ab r.2.2.2.2.2.2.2.1,ai r.2.2.2.2.2.2.2.2.1],qB q0 2 q3 q4,qR q1 q2,.cells [ai r.2.2.2.2.2.2.2.2.2.1,ai r.2.2.2.2.2.2.2.2.2.2],.row (zJ zP r.2.1),.row (zJ zK q13),.dead,.dead,.row (zJ zQ r.2.2.2.2.2.1),.row (zJ zW r.2.2.2.2.2.2.1)] 0
abbrev zBH (q0 q1:List Ent) (q2:List yS) (q3 q4:List Int) (q5 q6:Int) (q7:List zG) (q8:List zD) (q9 q10 q11:Nat) (q12:Bool) (q13:List zG) (q14:List zI) (q15 q16:Nat) (q17:List Int) (q18:Bool) (q19:Int) (r:List zG×List zD×List zI×Nat×Nat×List Int×Bool×Int×Int×Int×List zD) (C:Cf):Prop:=C 65 [.cells [.mp 1 0,.mp 3 0,slv zK q7 .no,.ms 4 (q10*6) q9 q11 6,ab q12,.ms 5 0 q13.length q13.length 4,.ms 6 0 q15 q16 4,.ms 7 0 q17.length q17.length 1,ab q18,ai q19],qB q0 2 q3 q4,qR q1 q2,.cells [ai q5,ai q6],.row (zJ zP q8),.row (zJ zK q13),.row (zJ zQ q14),.row (zJ zW q17)] [.mp 0 0] (.tup []) [.cells [.mp 1 0,.mp 3 0,slv zK r.1 .no,.ms 8 0 r.2.1.length r.2.1.length 6,ab q12,.ms 5 0 q13.length q13.length 4,.ms 9 0 r.2.2.2.1 r.2.2.2.2.1 4,.ms 10 0 r.2.2.2.2.2.1.length r.2.2.2.2.2.1.length 1,ab r.2.2.2.2.2.2.1,ai r.2.2.2.2.2.2.2.1],qB q0 2 q3 q4,qR q1 q2,.cells [ai r.2.2.2.2.2.2.2.2.1,ai r.2.2.2.2.2.2.2.2.2.1],.row (zJ zP r.2.2.2.2.2.2.2.2.2.2),.row (zJ zK q13),.dead,.dead,.row (zJ zP r.2.1),.row (zJ zQ r.2.2.1),.row (zJ zW r.2.2.2.2.2.1)] 0
theorem sL:Qf 65 Tryz.f65:=⟨Tryz.func65,rfl⟩
theorem qP{q0 q1 q2 q3 q4 q5 q6 q7 q8 q9 q10 q11 q12 q13 q14 q15 q16 q17 q18 q19 r}(h:zBE q0 q1 q2 q3 q4 q5 q6 q7 q8 q9 q10 q11 q12 q13 q14 q15 q16 q17 q18 q19 r Ci):zBE q0 q1 q2 q3 q4 q5 q6 q7 q8 q9 q10 q11 q12 q13 q14 q15 q16 q17 q18 q19 r Ct:=⟨h,⟨(lz rfl),tv⟩,(zA ⟨(lz rfl),(lz rfl),⟨tv,zH _⟩,(lz rfl),tv,(lz rfl),(lz rfl),(lz rfl),tv,tv,tv⟩ (fMa (lz rfl) (zA ⟨tv,tv,tv⟩ (zA (zN _) (zA (zH _) (zA (zM _) (zA (dI _) zB))))))),tv,(zA ⟨(lz rfl),(lz rfl),zH _,(lz rfl),tv,(lz rfl),(lz rfl),(lz rfl),tv,tv,tv⟩ (fMf (lz rfl) (zA ⟨tv,tv,tv⟩ (zA (zN _) (zA (zH _) (zA tv (zA tv (zA (zM _) (zA (dI _) zB)))))))))⟩
theorem zBI{q0 q1 q2 q3 q4 q5 q6 q7 q8 q9 q10 q11 q12 q13 q14 q15 q16 q17 q18 q19 r}(h:zBF q0 q1 q2 q3 q4 q5 q6 q7 q8 q9 q10 q11 q12 q13 q14 q15 q16 q17 q18 q19 r Ci):zBF q0 q1 q2 q3 q4 q5 q6 q7 q8 q9 q10 q11 q12 q13 q14 q15 q16 q17 q18 q19 r Ct:=⟨h,⟨(lz rfl),tv⟩,(zA ⟨(lz rfl),(lz rfl),⟨tv,zH _⟩,(lz rfl),tv,(lz rfl),(lz rfl),(lz rfl),tv,tv,tv⟩ (fMa (lz rfl) (zA ⟨tv,tv,tv⟩ (zA (zN _) (zA (zH _) (zA (zM _) (zA (dI _) zB))))))),tv,(zA ⟨(lz rfl),(lz rfl),zH _,(lz rfl),tv,(lz rfl),(lz rfl),(lz rfl),tv,tv,tv⟩ (fMf (lz rfl) (zA ⟨tv,tv,tv⟩ (zA (zN _) (zA (zH _) (zA tv (zA tv (zA (zM _) (zA (dI _) zB)))))))))⟩
theorem zFN{q0 q1 q2 q3 q4 q5 q6 q7 q8 q9 q10 q11 q12 q13 q14 q15 q16 q17 q18 q19 r}(h:zBG q0 q1 q2 q3 q4 q5 q6 q7 q8 q9 q10 q11 q12 q13 q14 q15 q16 q17 q18 q19 r Ci):zBG q0 q1 q2 q3 q4 q5 q6 q7 q8 q9 q10 q11 q12 q13 q14 q15 q16 q17 q18 q19 r Ct:=⟨h,⟨(lz rfl),tv⟩,(zA ⟨(lz rfl),(lz rfl),⟨tv,zH _⟩,(lz rfl),tv,(lz rfl),(lz rfl),(lz rfl),tv,tv,tv⟩ (fMa (lz rfl) (zA ⟨tv,tv,tv⟩ (zA (zN _) (zA (zH _) (zA (zM _) (zA (dI _) zB))))))),tv,(zA ⟨(lz rfl),(lz rfl),zH _,(lz rfl),tv,(lz rfl),(lz rfl),(lz rfl),tv,tv,tv⟩ (fMf (lz rfl) (zA ⟨tv,tv,tv⟩ (zA (zN _) (zA (zH _) (zA tv (zA tv (zA (zM _) (zA (dI _) zB)))))))))⟩
theorem zQt{q0 q1 q2 q3 q4 q5 q6 q7 q8 q9 q10 q11 q12 q13 q14 q15 q16 q17 q18 q19 r}(h:zBH q0 q1 q2 q3 q4 q5 q6 q7 q8 q9 q10 q11 q12 q13 q14 q15 q16 q17 q18 q19 r Ci):zBH q0 q1 q2 q3 q4 q5 q6 q7 q8 q9 q10 q11 q12 q13 q14 q15 q16 q17 q18 q19 r Ct:=⟨h,⟨(lz rfl),tv⟩,(zA ⟨(lz rfl),(lz rfl),⟨tv,zH _⟩,(lz rfl),tv,(lz rfl),(lz rfl),(lz rfl),tv,tv,tv⟩ (fMa (lz rfl) (zA ⟨tv,tv,tv⟩ (zA (zN _) (zA (zH _) (zA (zM _) (zA (dI _) zB))))))),tv,(zA ⟨(lz rfl),(lz rfl),zH _,(lz rfl),tv,(lz rfl),(lz rfl),(lz rfl),tv,tv,tv⟩ (fMf (lz rfl) (zA ⟨tv,tv,tv⟩ (zA (zN _) (zA (zH _) (zA tv (zA tv (zA (zN _) (zA (zM _) (zA (dI _) zB))))))))))⟩
theorem zCd{qq q0 q1 q2 q3 q4 q5 q6 q7 q8 q9 q10 q11 q12 q13 q14 q15 q16 q17 q18 q19 r}(h:zAM qq q0 q1 q2 q3 q4 q5 q6 q7 q8 q9 q10 q11 q12 q13 q14 q15 q16 q17 q18 q19=some r):(match (generalizing:=false) r with | .inl x=>zBE q0 q1 q2 q3 q4 q5 q6 q7 q8 q9 q10 q11 q12 q13 q14 q15 q16 q17 q18 q19 x Ct | .inr (.inl x)=>zBF q0 q1 q2 q3 q4 q5 q6 q7 q8 q9 q10 q11 q12 q13 q14 q15 q16 q17 q18 q19 x Ct | .inr (.inr (.inl x))=>zBG q0 q1 q2 q3 q4 q5 q6 q7 q8 q9 q10 q11 q12 q13 q14 q15 q16 q17 q18 q19 x Ct | .inr (.inr (.inr x))=>zBH q0 q1 q2 q3 q4 q5 q6 q7 q8 q9 q10 q11 q12 q13 q14 q15 q16 q17 q18 q19 x Ct):=by
 unfold zAM at h
 have z {os ob} (k:Oz os ob):=oD (zM q14)<|oD (zH q13)<|oD (zN q8)<|oDm q0 q1 q2 q3 q4<|oD (zH q7)<|k
 obtain⟨x1,h2,h⟩:=zC h
 obtain⟨x3,h4,h⟩:=zC h
 obtain⟨x5,h6,h⟩:=zC h
 obtain⟨r7,h8,h⟩:=zC h
 have k:=oC 2 [3] (c98 h8)<|oA 2 (zLt (b:=4) (o:=q10) (c:=q11) h6)<|oG (a:=(.agg [ai x3.a_.k,ai x3.a_.n,slv zF x3.a_.sub .no,ai x3.b_.k,ai x3.b_.n,slv zF x3.b_.sub .no])) 0 (ldE wW h4 (true,6) (val:=.agg [ai x3.a_.k,ai x3.a_.n,slv zF x3.a_.sub .no,ai x3.b_.k,ai x3.b_.n,slv zF x3.b_.sub .no]) rfl)<|oA 1 (zLu (b:=4) (o:=q10) (c:=q11) (z:=6) h2) o0
 obtain⟨h9,h⟩|⟨h9,h⟩:=spl h
 cases h
 exact qP (tG sL 1 [(some 6,0,0),(some 7,0,0)] [0,1,2,3,4,5,6,7,9,10] [] false (oD (dI q17)<|z<|oB 0 h9 k))
 obtain⟨r10,h11,h⟩:=zC h
 obtain⟨r12,h13,h⟩:=zC h
 have k:=oC 2 [0,1,2,3,4,5,6,7] (zAJ h13)<|oC 3 [1,2,3] (zZs h11)<|oB 0 h9 k
 obtain⟨h14,h⟩|⟨h14,h⟩:=spl h
 cases h
 exact qP (tG sL 0 [(some 6,0,0),(some 7,0,0)] [0,1,2,3,4,5,6,7,9,10] [] false (oD (dI q17)<|z<|oB 2 h14 k))
 obtain⟨r15,h16,h⟩:=zC h
 obtain⟨r17,h18,h⟩:=zC h
 have k:=oC 2 [0,1,2,3,4,5,6,7] (zAJ h18)<|oC 3 [1,2,3] (zZs h16)<|oB 2 h14 k
 obtain⟨h19,h⟩|⟨h19,h⟩:=spl h
 cases h
 exact qP (tG sL 0 [(some 6,0,0),(some 7,0,0)] [0,1,2,3,4,5,6,7,9,10] [] false (oD (dI q17)<|z<|oB 2 h19 k))
 obtain⟨r20,h21,h⟩:=zC h
 obtain⟨r22,h23,h⟩:=zC h
 have k:=oC 1 [0,1,2,3,4,5,6,7] (zJZ h23)<|oC 1 [0,1,2,3,4,5,6,7] (zJZ h21)<|oB 2 h19 k
 obtain⟨h24,h⟩|⟨h24,h⟩:=spl h
 have k:=oB 0 h24 k
 obtain⟨h25,h⟩|⟨h25,h⟩:=spl h
 cases h
 exact qP (tG sL 1 [(some 6,0,0),(some 7,0,0)] [0,1,2,3,4,5,6,7,9,10] [] false (oD (dI q17)<|z<|oB 0 h25 k))
 obtain⟨r26,h27,h⟩:=zC h
 have k:=oB 0 h24<|oB 0 h25 k
 rcases r26 with y28 | (y29|y30)
 dsimp only at h
 cases h
 exact zBI (tF sL 0 [0,1,2,3,4,5,6,7,9,10] (oD (dI y28.2.2.2.2.1)<|oD (zM y28.2.1)<|oD (zH q13)<|oD (zN y28.2.2.2.2.2.2)<|oDm q0 q1 q2 q3 q4<|oD (zH y28.1)<|oC 1 [0,1,2,3,4,5,6,7] (lM h27) k))
 dsimp only at h
 cases h
 exact qP (tF sL 0 [0,1,2,3,4,5,6,7,9,10] (oD (dI y29.2.2.2.2.1)<|oD (zM y29.2.1)<|oD (zH q13)<|oD (zN y29.2.2.2.2.2.2.2)<|oDm q0 q1 q2 q3 q4<|oD (zH y29.1)<|oC 1 [0,1,2,3,4,5,6,7] (lM h27) k))
 dsimp only at h
 cases h
 exact zFN (tF sL 0 [0,1,2,3,4,5,6,7,9,10] (oD (dI y30.2.2.1)<|oD (zM y30.2.1)<|oD (zH q13)<|oD (zN y30.2.2.2.2.2)<|oDm q0 q1 q2 q3 q4<|oD (zH y30.1)<|oC 1 [0,1,2,3,4,5,6,7] (lM h27) k))
 have k:=oB 0 h24<|oB 0 h24 k
 obtain⟨h31,h⟩|⟨h31,h⟩:=spl h
 obtain⟨r32,h33,h⟩:=zC h
 have k:=oB 0 h31 k
 rcases r32 with y34 | (y35|y36)
 dsimp only at h
 cases h
 exact zBI (tF sL 0 [0,1,2,3,4,5,6,7,9,10] (oD (dI y34.2.2.2.2.1)<|oD (zM y34.2.1)<|oD (zH q13)<|oD (zN y34.2.2.2.2.2.2)<|oDm q0 q1 q2 q3 q4<|oD (zH y34.1)<|oC 1 [0,1,2,3,4,5,6,7] (lM h33) k))
 dsimp only at h
 cases h
 exact qP (tF sL 0 [0,1,2,3,4,5,6,7,9,10] (oD (dI y35.2.2.2.2.1)<|oD (zM y35.2.1)<|oD (zH q13)<|oD (zN y35.2.2.2.2.2.2.2)<|oDm q0 q1 q2 q3 q4<|oD (zH y35.1)<|oC 1 [0,1,2,3,4,5,6,7] (lM h33) k))
 dsimp only at h
 cases h
 exact zFN (tF sL 0 [0,1,2,3,4,5,6,7,9,10] (oD (dI y36.2.2.1)<|oD (zM y36.2.1)<|oD (zH q13)<|oD (zN y36.2.2.2.2.2)<|oDm q0 q1 q2 q3 q4<|oD (zH y36.1)<|oC 1 [0,1,2,3,4,5,6,7] (lM h33) k))
 obtain⟨r37,h38,h⟩:=zC h
 have k:=oB 0 h31 k
 rcases r37 with y39 | (y40|y41)
 dsimp only at h
 cases h
 exact qP (tG sL 0 [(some 6,0,0)] [0,1,2,3,4,5,6,7,10,9] [] false (oD (dI y39.2.2.2.2.1)<|z<|oC 1 [0,1,2,3,4,5,6,7] (zEs h38) k))
 dsimp only at h
 cases h
 exact zBI (tG sL 0 [(some 6,0,0)] [0,1,2,3,4,5,6,7,10,9] [] false (oD (dI y40.2.2.2.2.1)<|z<|oC 1 [0,1,2,3,4,5,6,7] (zEs h38) k))
 dsimp only at h
 cases h
 exact zQt (tG sL 0 [(some 6,0,0)] [0,1,2,3,4,5,6,7,9,11,10] [] false (oD (dI y41.2.1)<|oD (zM q14)<|oD (zN y41.1)<|oD (zH q13)<|oD (zN q8)<|oDm q0 q1 q2 q3 q4<|oD (zH q7)<|oC 1 [0,1,2,3,4,5,6,7] (zEs h38) k))
abbrev NxT:=(List zG×List zD×Nat×Nat×Nat×List zI×Nat×Nat×List Int×Bool×Int×Int×Int) ⊕ ((List zG×List zD×Nat×Nat×Nat×List zI×Nat×Nat×List Int×Int×Int×Int) ⊕ ((List zG×List zD×Nat×Nat×Nat×List zI×List Int×Bool×Int×Int×Int) ⊕ (List zG×List zD×List zI×Nat×Nat×List Int×Bool×Int×Int×Int×List zD)))
inductive NxR (l:List Ent) (c:List zG) (q8:List zD) (q9 q10:Nat) (so:List zI) (q15 q16:Nat) (q17:List Int) (q18:Bool) (L U:Int):NxT->Prop
 |err {c' q8' n o k so' a b s no e fl fu}:e≠0->NxR l c q8 q9 q10 so q15 q16 q17 q18 L U (.inl (c',q8',n,o,k,so',a,b,s,no,e,fl,fu))
 |no {c' q8' n o k so' a b s fl fu}:s.length=q17.length+1->0≤fl∧0≤fu∧fl+fu=L+U->Un l c ((q8.drop q10).take q9) so none->NxR l c q8 q9 q10 so q15 q16 q17 q18 L U (.inr (.inl (c',q8',n,o,k,so',a,b,s,0,fl,fu)))
 |sol {d row k so' n t s e fl fu}:s.length=q17.length+1->0≤fl->fl<L->0≤fu->fl+fu=L+U->row.length=q8.length->(∀x∈row,x.a_.Ok∧x.b_.Ok)->so'.length=so.length->(∀x∈so',x.t_.Ok)->zJG c n t d->t.Ok ->
   (e=0->(∀x∈(row.drop (q10+1)).take (q9-1),zL x.a_=true∧zL x.b_=true)∧∀r,Un l d ((row.drop (q10+1)).take (q9-1)) (so'++[⟨n,t⟩]) r->Un l c ((q8.drop q10).take q9) so r)->NxR l c q8 q9 q10 so q15 q16 q17 q18 L U (.inr (.inr (.inl (d,row,q9-1,q10+1,k,so'++[⟨n,t⟩],s,q18,e,fl,fu))))
 |inj {td s fl fu}:s.length=q17.length+1->0≤fl->fl<L->0≤fu->fl+fu=L+U->td.length≤q9+8192->(∀x∈td,zL x.a_=true∧zL x.b_=true) ->
   (∀r,Un l c td so r->Un l c ((q8.drop q10).take q9) so r)->NxR l c q8 q9 q10 so q15 q16 q17 q18 L U (.inr (.inr (.inr (c,td,so,q15,q16,s,q18,0,fl,fu,q8))))
theorem zQs{N:ByteArray->Bool}{l:List Ent}(hE:wI N l)(he:∀e∈l,EOk e)(hl:l.length≤65535)(hc:∀e∈l,ECl e)(L U:Int)(c:List zG)(q8:List zD)(q9 q10 q11:Nat)(q12:Bool)(q13:List zG)(so:List zI)(q15 q16:Nat)(q17:List Int)(q18:Bool)
  (h0:0≤L) (h1:0≤U) (h2:L+U≤1099511627776) (hpos:1≤q9) (hb:q10+q9≤q8.length) (h8:q8.length≤1048576000) (hok8:∀x∈q8,x.a_.Ok∧x.b_.Ok) (hok:∀x∈(q8.drop q10).take q9,zL x.a_=true∧zL x.b_=true) (hso:so.length=q15) (hso2:so.length≤1048576) (hsok:∀x∈so,x.t_.Ok) (hst:q17.length≤1048576) (hcl:c.length≤524288) (hco:∀v∈c,v.type_.Ok) :
  Tot (fun q=>zAM q l l (evA l l.length 0) (l.map xR) (l.map sK) L U c q8 q9 q10 q11 q12 q13 so q15 q16 q17 q18 0) (NxR l c q8 q9 q10 so q15 q16 q17 q18 L U):=by
 obtain⟨eq,heq⟩:∃x,q8[q10]? = some x:=⟨_,List.getElem?_eq_getElem (by omega)⟩
 have htd:(q8.drop q10).take q9=eq::(q8.drop (q10+1)).take (q9-1):=by
  obtain⟨m,rfl⟩:∃m,q9=m+1:=⟨q9-1,by omega⟩
  obtain⟨g1,g2⟩:=List.getElem?_eq_some_iff.1 heq
  rw[List.drop_eq_getElem_cons g1,g2,List.take_succ_cons];rfl
 have hsh:=hok eq (by rw[htd];exact List.mem_cons_self ..)
 have hrest:∀x∈(q8.drop (q10+1)).take (q9-1),zL x.a_=true∧zL x.b_=true:=fun x hx=>hok x (by rw[htd];exact List.mem_cons_of_mem _ hx)
 simp only[zAM]
 refine Tot.pure (a:=0) (nC (v:=0) hpos) (Tot.pure (a:=eq) (uS (i:=q10+0) heq) (Tot.pure (a:=(1,q9-1)) (gJ (a:=1) hpos (Nat.le_refl _)) (Tot.bind (P:=fun r=>r=if 1≤L then((0:Int),L-1,U+1)else(8,L,U)) ((zAg L U h0 h1 h2).tot rfl) fun r7 h7=>?_)))
 by_cases hL:1≤L
 ·rw[if_pos hL]at h7
  subst h7
  refine Tot.ite (fun h=>by cases h) fun _=>(zEq hE he (yA hsh.1) (L-1) (U+1) (by omega) (by omega) (by omega)).bind fun r10 h10=>(gL l l _ _ _ _ _ c q8 _ _ _ q12 q13 so q15 q16 q17 q18 0 r10.1 r10.2.1).bind fun r12 h12=>?_
  have e12:=h12.2.2 rfl
  refine Tot.ite (fun h=>Tot.ret (.err (by simpa using h))) fun h=>?_
  have z12:r12.2=0:=by simpa using h
  obtain⟨k,k0,k1,hbr,hf1,hf2⟩:=h10 (by rw[←e12];exact z12)
  rw[z12,hf1,hf2,h12.1]
  have sa:=hbr.shaped hsh.1 rfl
  refine(zEq hE he (yA hsh.2) (L-1-k) (U+1+k) (by omega) (by omega) (by omega)).bind fun r15 h15=>(gL l l _ _ _ _ _ c q8 _ _ _ q12 q13 so q15 q16 q17 q18 0 r15.1 r15.2.1).bind fun r17 h17=>?_
  have e17:=h17.2.2 rfl
  refine Tot.ite (fun h=>Tot.ret (.err (by simpa using h))) fun h=>?_
  have z17:r17.2=0:=by simpa using h
  obtain⟨j,j0,j1,hbs,hg1,hg2⟩:=h15 (by rw[←e17];exact z17)
  rw[z17,hg1,hg2,h17.1]
  have sb:=hbs.shaped hsh.2 rfl
  have fin:∀(n:Int) (t:Tm),zDL l c eq n t->zL t=true->∀x,yBA l c q8 (q9-1) (q10+1) so q15 q16 q17 q18 n t x->NxR l c q8 q9 q10 so q15 q16 q17 q18 L U (match x with
    | .inl y=>.inr (.inl (y.1,y.2.2.2.2.2.2,q9-1,q10+1,q11-1,y.2.1,y.2.2.1,y.2.2.2.1,y.2.2.2.2.1,y.2.2.2.2.2.1,L-1-k-j,U+1+k+j))
    | .inr (.inl y)=>.inl (y.1,y.2.2.2.2.2.2.2,q9-1,q10+1,q11-1,y.2.1,y.2.2.1,y.2.2.2.1,y.2.2.2.2.1,y.2.2.2.2.2.1,y.2.2.2.2.2.2.1,L-1-k-j,U+1+k+j)
    | .inr (.inr y)=>.inr (.inr (.inl (y.1,y.2.2.2.2.2,q9-1,q10+1,q11-1,y.2.1,y.2.2.1,y.2.2.2.1,y.2.2.2.2.1,L-1-k-j,U+1+k+j)))):=by
   intro n t hv hst' x hx
   rcases hx with⟨rfl,hB⟩|⟨e,e0,rfl⟩|⟨d,row,so',e,rfl,g1,g2,g3,g4,g5,g6,g7⟩
   ·exact .no (by simp) ⟨by show (0:Int)≤L-1-k-j;omega,by show (0:Int)≤U+1+k+j;omega,by show L-1-k-j+(U+1+k+j)=L+U;omega⟩ (by rw[htd];exact .cyc hv hB)
   ·exact .err e0
   ·refine .sol (by simp) (by omega) (by omega) (by omega) (by omega) g1 g2 g3 g4 g6 (yA hst') fun e0=>?_
    obtain⟨p1,p2,p3,p4⟩:=g7 e0
    refine⟨fun x hx=>?_,fun r hr=>?_⟩
    ·rw[p2]at hx
     obtain⟨z,hz,rfl⟩:=List.mem_map.1 hx
     exact p3 z hz
    rw[htd]
    exact .sol hv g5 g6 p3 p4 (by rw[←p2,←p1];exact hr)
  refine(zKz l l _ _ _ _ _ hcl hco q8 _ _ _ q12 q13 so q15 q16 q17 q18 0 r10.1).bind fun r20 h20=>(zKz l l _ _ _ _ _ hcl hco q8 _ _ _ q12 q13 so q15 q16 q17 q18 0 r15.1).bind fun r22 h22=>Tot.ite (fun hp=>Tot.ite (fun _=>Tot.ret (.err (by decide))) fun _=>?_) fun _=>Tot.ite (fun hp=>?_) fun _=>?_
  ·obtain⟨v1,v2,v3⟩:=h20 (of_decide_eq_true hp)
   refine(zDZ hE (L-1-k-j) (U+1+k+j) c q8 (q9-1) (q10+1) (q11-1) q12 q13 so q15 q16 q17 q18 r20 r15.1 (by omega) (by omega) hok8 hso hso2 hsok (by omega) hcl hco sb).bind fun x hx=>?_
   have:=fin r20 r15.1 ⟨r10.1,r15.1,k,j,hbr,hbs,v3,.inl ⟨v1,v2,rfl⟩⟩ sb x hx
   rcases x with y|y|y<;>exact Tot.ret this
  ·obtain⟨v1,v2,v3⟩:=h22 (of_decide_eq_true hp)
   refine(zDZ hE (L-1-k-j) (U+1+k+j) c q8 (q9-1) (q10+1) (q11-1) q12 q13 so q15 q16 q17 q18 r22 r10.1 (by omega) (by omega) hok8 hso hso2 hsok (by omega) hcl hco sa).bind fun x hx=>?_
   have:=fin r22 r10.1 ⟨r10.1,r15.1,k,j,hbr,hbs,v3,.inr ⟨v1,v2,rfl⟩⟩ sa x hx
   rcases x with y|y|y<;>exact Tot.ret this
  ·refine(zMs hE he hl hc sa sb (L-1-k-j) (U+1+k+j) c q8 (q9-1) (q10+1) (q11-1) q12 q13 so q15 q16 q17 q18 (by omega) (by omega) (by omega) (by omega) h8 (by omega)).bind fun x hx=>?_
   rcases hx with⟨e,fl,fu,e0,rfl⟩|⟨rfl,ca,cb,hn⟩|⟨fl,fu,f0,f1,f2,f3,rfl,ca,cb,hn,hp⟩
   ·exact Tot.ret (.err e0)
   ·exact Tot.ret (.no (by simp) ⟨by show (0:Int)≤L-1-k-j;omega,by show (0:Int)≤U+1+k+j;omega,by show L-1-k-j+(U+1+k+j)=L+U;omega⟩ (by rw[htd];exact .conf hbr hbs ca cb hn))
   ·refine Tot.ret (.inj (fl:=fl) (fu:=fu) (by simp) f0 (by omega) f2 (by omega) ?_ (fun x hx=>?_) fun r hr=>?_)
    ·have:=tO r10.1 (zO sa).2.2
     have:=(zO sa).1
     unfold vU sI
     simp
     omega
    ·rcases List.mem_append.1 hx with hx|hx
     ·have hm:=zAB hx
      exact⟨yO sa (List.mem_of_mem_drop hm.1),yO sb (List.mem_of_mem_drop hm.2)⟩
     ·exact hrest x hx
    ·rw[htd]
     exact .inj hbr hbs ca cb hn hp hr
 ·rw[if_neg hL]at h7
  subst h7
  exact Tot.ite (fun _=>Tot.ret (.err (by show (8:Int)≠0;decide))) fun h=>by cases h
def e97(qq:Nat)(M:xE)(p1:Tm):Option Bool:=
 zMv qq M>>=fun r1=>
 zGc qq p1 0 r1>>=fun r3=>
 some r3
theorem c97{qq M p1 r}(h:e97 qq M p1=some r):Ct 97 [mB M 1,mR M] [.mp 0 0,tmA p1] (ab r) [mB M 1,mR M] 0:=⟨by
 unfold e97 at h
 obtain⟨r1,h2,h⟩:=zC h
 obtain⟨r3,h4,h⟩:=zC h
 obtain rfl:=sj h
 exact tF ⟨Tryz.func97,rfl⟩ 0 [0,1] (oDM M<|oC 0 [] (zIC h4)<|oC 1 [0,1] (zZf h2) o0),⟨(lz rfl),⟨tv,tv,⟨tv,dT _⟩,tv⟩,tv⟩,(fMa (lz rfl) zB),tv,(fMf (lz rfl) zB)⟩
def bG:Nat->xE->List zG->List Tm->List Tm->Int->Int->Int->List zD->Option ((Unit) ⊕ (List zG×List zD×List zG×List zI×List Int×Int))
 |0,_,_,_,_,_,_,_,_=>none
 |qq+1,M,p1,p2,p3,fl,fu,v49,wU=>
 if decide (v49<(p2.length:Int))then
 zR p2 v49>>=fun x12=>
 e97 qq M x12>>=fun r14=>
 if r14 then
 zR p3 v49>>=fun x17=>
 e97 qq M x17>>=fun r19=>
 if r19 then
 yP 80 wU [(zD.mk x12 x17)]>>=fun l22=>
 bG qq M p1 p2 p3 fl fu (w64 (v49+1)) l22
 else
 some (.inl ())
 else
 some (.inl ())
 else
 some (.inr (p1,wU,([]:List zG),([]:List zI),([]:List Int),0))
def bH:Nat->xE->List zG->List Tm->List Tm->Int->Int->Int->Option ((Unit) ⊕ (List zG×List zD×List zG×List zI×List Int×Int))
 |0,_,_,_,_,_,_,_=>none
 |qq+1,M,p1,p2,p3,fl,fu,v32=>
 if decide (v32<(p1.length:Int))then
 zR p1 v32>>=fun x6=>
 e97 qq M x6.type_>>=fun r8=>
 if r8 then
 bH qq M p1 p2 p3 fl fu (w64 (v32+1))
 else
 some (.inl ())
 else
 bG qq M p1 p2 p3 fl fu 0 ([]:List zD)
def e64(qq:Nat)(M:xE)(p1:List zG)(p2 p3:List Tm)(fl fu:Int):Option ((Unit) ⊕ (List zG×List zD×List zG×List zI×List Int×Int)):=
 e96 qq p1>>=fun r1=>
 if r1 then
 if (p2.length:Int) != (p3.length:Int)then
 some (.inl ())
 else
 bH qq M p1 p2 p3 fl fu 0
 else
 some (.inl ())
abbrev zUy (M:xE) (p1:List zG) (p2 p3:List Tm) (fl fu:Int) (C:Cf):Prop:=C 64 [mB M 1,mR M,.cells [ai fl,ai fu]] [.mp 0 0,slv zK p1 .no,slv zF p2 .no,slv zF p3 .no,.mp 2 0] (.tup [.val (.pointer none),ab false]) [mB M 1,mR M,.cells [ai fl,ai fu]] 0
abbrev zUx (M:xE) (p1:List zG) (p2 p3:List Tm) (fl fu:Int) (r:List zG×List zD×List zG×List zI×List Int×Int) (C:Cf):Prop:=C 64 [mB M 1,mR M,.cells [ai fl,ai fu]] [.mp 0 0,slv zK p1 .no,slv zF p2 .no,slv zF p3 .no,.mp 2 0] (.tup [.mp 3 0,ab true]) [mB M 1,mR M,.cells [ai fl,ai fu],.cells [.mp 0 0,.mp 2 0,slv zK r.1 .no,.ms 4 0 r.2.1.length r.2.1.length 6,ab false,.ms 5 0 r.2.2.1.length r.2.2.1.length 4,.ms 6 0 r.2.2.2.1.length r.2.2.2.1.length 4,.ms 7 0 r.2.2.2.2.1.length r.2.2.2.2.1.length 1,ab false,ai r.2.2.2.2.2],.row (zJ zP r.2.1),.row (zJ zK r.2.2.1),.row (zJ zQ r.2.2.2.1),.row (zJ zW r.2.2.2.2.1)] 0
theorem q64:Qf 64 Tryz.f64:=⟨Tryz.func64,rfl⟩
theorem zUw{M p1 p2 p3 fl fu}(h:zUy M p1 p2 p3 fl fu Ci):zUy M p1 p2 p3 fl fu Ct:=⟨h,⟨(lz rfl),⟨tv,zH _⟩,⟨tv,dT _⟩,⟨tv,dT _⟩,(lz rfl),tv⟩,(fMa (lz rfl) (zA ⟨tv,tv,tv⟩ zB)),⟨tv,tv,tv⟩,(fMf (lz rfl) (zA ⟨tv,tv,tv⟩ zB))⟩
theorem yBL{M p1 p2 p3 fl fu r}(h:zUx M p1 p2 p3 fl fu r Ci):zUx M p1 p2 p3 fl fu r Ct:=⟨h,⟨(lz rfl),⟨tv,zH _⟩,⟨tv,dT _⟩,⟨tv,dT _⟩,(lz rfl),tv⟩,(fMa (lz rfl) (zA ⟨tv,tv,tv⟩ zB)),⟨(lz rfl),tv,tv⟩,(fMf (lz rfl) (zA ⟨tv,tv,tv⟩ (zA ⟨(lz rfl),(lz rfl),zH _,(lz rfl),tv,(lz rfl),(lz rfl),(lz rfl),tv,tv,tv⟩ (zA (zN _) (zA (zH _) (zA (zM _) (zA (dI _) zB)))))))⟩
theorem zZb:∀qq:Nat,(∀M p1 p2 p3 fl fu v49 wU r,bG qq M p1 p2 p3 fl fu v49 wU=some r->(∀j,dL 3 (inn (inn (rgt (lft (rgt (rgt (rgt (rgt (bod Tryz.f64))))))))) (sp j 88 0 [(0,.mp 0 0),(2,slv zF p2 .no),(3,slv zF p3 .no),(14,.mp 3 0),(48,ai (p2.length:Int)),(49,ai v49)]) (⟨[(0,mB M 1),(1,mR M),(2,.cells [ai fl,ai fu]),(3,.cells [.mp 0 0,.mp 2 0,slv zK p1 .no,.ms 4 0 wU.length wU.length 6,ab false,.ms 5 0 (List.length ([]:List zG)) (List.length ([]:List zG)) 4,.ms 6 0 (List.length ([]:List zI)) (List.length ([]:List zI)) 4,.ms 7 0 (List.length ([]:List Int)) (List.length ([]:List Int)) 1,ab false,ai 0]),(4,.row (zJ zP wU)),(5,.row (zJ zK ([]:List zG))),(6,.row (zJ zQ ([]:List zI))),(7,.row (zJ zW ([]:List Int)))],8,[],0,[]⟩) (fQ 3 ((match (generalizing:=false) r with | .inl x=>nQ 3 Tryz.f64 (.tup [.val (.pointer none),ab false]) [mB M 1,mR M,.cells [ai fl,ai fu]] 0 | .inr x=>nQ 3 Tryz.f64 (.tup [.mp 3 0,ab true]) [mB M 1,mR M,.cells [ai fl,ai fu],.cells [.mp 0 0,.mp 2 0,slv zK x.1 .no,.ms 4 0 x.2.1.length x.2.1.length 6,ab false,.ms 5 0 x.2.2.1.length x.2.2.1.length 4,.ms 6 0 x.2.2.2.1.length x.2.2.2.1.length 4,.ms 7 0 x.2.2.2.2.1.length x.2.2.2.2.1.length 1,ab false,ai x.2.2.2.2.2],.row (zJ zP x.2.1),.row (zJ zK x.2.2.1),.row (zJ zQ x.2.2.2.1),.row (zJ zW x.2.2.2.2.1)] 0)) [.blk 2,.seq (rgt (rgt (rgt (rgt (rgt (bod Tryz.f64))))))]))):=by
 intro qq
 induction qq with
 |zero=>
  exact fun _ _ _ _ _ _ _ _ _ h=>nn h
 |succ qq ih=>
  intro M p1 p2 p3 fl fu v49 wU r h
  rw[bG]at h
  obtain⟨h11,h⟩|⟨h11,h⟩:=spl h
  obtain⟨x12,h13,h⟩:=zC h
  obtain⟨r14,h15,h⟩:=zC h
  have k:=oA 0 (yN (o:=.no) h13)<|oB 0 h11 o0
  obtain⟨h16,h⟩|⟨h16,h⟩:=spl h
  obtain⟨x17,h18,h⟩:=zC h
  obtain⟨r19,h20,h⟩:=zC h
  have k:=oA 1 (yN (o:=.no) h18)<|oK 1 [0,1] h16 (c97 h15) k
  obtain⟨h21,h⟩|⟨h21,h⟩:=spl h
  obtain⟨l22,h23,h⟩:=zC h
  exact fun j=>lH 2 [] [0,1,2,3,8,5,6,7] [] [0,2,3,14,48,49] (oD (dT p3)<|oD (dT p2)<|oD (dI ([]:List Int))<|oD (zM ([]:List zI))<|oD (zH ([]:List zG))<|oD (zN l22)<|oD (zH p1)<|oDM M<|oM 2 (zRp h23 (by simp))<|oA 1 (yN (o:=.no) h18)<|oA 2 (yN (o:=.no) h13)<|oK 1 [0,1] h21 (c97 h20) k) (ih _ _ _ _ _ _ _ _ _ h)
  cases h
  exact fun j=>lF 1 [0,1,2] (oDM M<|oK 1 [0,1] h21 (c97 h20) k)
  cases h
  exact fun j=>lF 1 [0,1,2] (oDM M<|oK 1 [0,1] h16 (c97 h15) k)
  cases h
  exact fun j=>lF 0 [0,1,2,3,4,5,6,7] (oD (dI ([]:List Int))<|oD (zM ([]:List zI))<|oD (zH ([]:List zG))<|oD (zN wU)<|oD (zH p1)<|oDM M<|oB 0 h11 o0)
theorem zUv:∀qq:Nat,(∀M p1 p2 p3 fl fu v32 r,bH qq M p1 p2 p3 fl fu v32=some r->(∀j,dL 3 (inn (inn (rgt (lft (rgt (rgt (bod Tryz.f64))))))) (sp j 88 0 [(0,.mp 0 0),(1,slv zK p1 .no),(2,slv zF p2 .no),(3,slv zF p3 .no),(4,.mp 2 0),(30,slv zK p1 .no),(31,ai (p1.length:Int)),(32,ai v32)]) (⟨[(0,mB M 1),(1,mR M),(2,.cells [ai fl,ai fu])],3,[],0,[]⟩) (fQ 3 ((match (generalizing:=false) r with | .inl x=>nQ 3 Tryz.f64 (.tup [.val (.pointer none),ab false]) [mB M 1,mR M,.cells [ai fl,ai fu]] 0 | .inr x=>nQ 3 Tryz.f64 (.tup [.mp 3 0,ab true]) [mB M 1,mR M,.cells [ai fl,ai fu],.cells [.mp 0 0,.mp 2 0,slv zK x.1 .no,.ms 4 0 x.2.1.length x.2.1.length 6,ab false,.ms 5 0 x.2.2.1.length x.2.2.1.length 4,.ms 6 0 x.2.2.2.1.length x.2.2.2.1.length 4,.ms 7 0 x.2.2.2.2.1.length x.2.2.2.2.1.length 1,ab false,ai x.2.2.2.2.2],.row (zJ zP x.2.1),.row (zJ zK x.2.2.1),.row (zJ zQ x.2.2.2.1),.row (zJ zW x.2.2.2.2.1)] 0)) [.blk 0,.seq (rgt (rgt (rgt (bod Tryz.f64))))]))):=by
 intro qq
 induction qq with
 |zero=>
  exact fun _ _ _ _ _ _ _ _ h=>nn h
 |succ qq ih=>
  intro M p1 p2 p3 fl fu v32 r h
  rw[bH]at h
  obtain⟨h5,h⟩|⟨h5,h⟩:=spl h
  obtain⟨x6,h7,h⟩:=zC h
  obtain⟨r8,h9,h⟩:=zC h
  have k:=oA 0 (zGg (o:=.no) h7)<|oB 0 h5 o0
  obtain⟨h10,h⟩|⟨h10,h⟩:=spl h
  exact fun j=>lH 2 [] [0,1,2] [] [0,1,2,3,4,30,31,32] (oD (zH p1)<|oD (dT p3)<|oD (dT p2)<|oD (zH p1)<|oDM M<|oK 3 [0,1] h10 (c97 h9) k) (ih _ _ _ _ _ _ _ _ h)
  cases h
  exact fun j=>lF 1 [0,1,2] (oDM M<|oK 3 [0,1] h10 (c97 h9) k)
  exact fun j=>lH 1 [(some 3,3,4102),(some 3,5,4100),(some 3,6,4100),(some 3,7,4097)] [0,1,2,3,4,5,6,7] [] [0,2,3,14,48,49] (oD (dT p3)<|oD (dT p2)<|oD (dI ([]:List Int))<|oD (zM ([]:List zI))<|oD (zH ([]:List zG))<|oD (zN ([]:List zD))<|oD (zH p1)<|oDM M<|oB 0 h5 o0) (zZb _ _ _ _ _ _ _ _ _ _ h)
theorem c64{qq M p1 p2 p3 fl fu r}(h:e64 qq M p1 p2 p3 fl fu=some r):(match (generalizing:=false) r with | .inl x=>zUy M p1 p2 p3 fl fu Ct | .inr x=>zUx M p1 p2 p3 fl fu x Ct):=by
 unfold e64 at h
 have z {os ob} (k:Oz os ob):=oD (zH p1)<|oD (dT p3)<|oD (dT p2)<|oD (zH p1)<|oDM M<|k
 obtain⟨r1,h2,h⟩:=zC h
 obtain⟨h3,h⟩|⟨h3,h⟩:=spl h
 have k:=oK 1 [] h3 (c96 h2) o0
 obtain⟨h4,h⟩|⟨h4,h⟩:=spl h
 cases h
 exact zUw (tF q64 0 [0,1,2] (oDM M<|oB 3 h4 k))
 rcases r with y0|y1
 exact zUw (tH q64 1 [] [0,1,2] [] [0,1,2,3,4,30,31,32] (z<|oB 3 h4 k) (zUv _ _ _ _ _ _ _ _ _ h))
 exact yBL (tH q64 1 [] [0,1,2] [] [0,1,2,3,4,30,31,32] (z<|oB 3 h4 k) (zUv _ _ _ _ _ _ _ _ _ h))
 cases h
 exact zUw (tF q64 1 [0,1,2] (oDM M<|oK 1 [] h3 (c96 h2) o0))
theorem zEp(l:List Ent)(t:Tm)(ht:t.Ok):Tot (fun q=>e97 q (wC l) t) fun b=>b=true->wZ l t:=by
 simp only[e97]
 have hLen:Evt (fun q=>zMv q (wC l)) (l.length:Int):=Evt.mk fun _=>rfl
 refine Tot.bind (P:=fun k=>k=(l.length:Int)) (hLen.tot rfl) fun k hk=>?_
 subst hk
 exact Tot.bind (P:=fun b=>b=tV t 0 l.length) ((iV t _ _ ht).tot rfl) fun b hb=>Tot.ret fun h=>by
  rw[hb]at h;exact h
theorem zEo(l:List Ent)(c:List zG)(A B:List Tm)(hA:∀x∈A,x.Ok)(hB:∀x∈B,x.Ok)(hn:A.length=B.length)(hl:A.length≤1048576)(fl fu:Int):∀(k v:Nat) (td:List zD),v+k=A.length->td=(vU A B).take v->(∀e∈td,wZ l e.a_∧wZ l e.b_) ->
  Tot (fun q=>bG q (wC l) c A B fl fu (v:Int) td) fun x=>∀y,x = .inr y->y=(c,vU A B,[],[],[],0)∧∀e∈vU A B,wZ l e.a_∧wZ l e.b_
 |0,v,td,hv,ht,hm=>by
  have hz:(vU A B).length=A.length:=by unfold vU;rw[List.length_zipWith];omega
  have e:td=vU A B:=by rw[ht,List.take_of_length_le (by omega)]
  refine Tot.succ ?_
  simp only[bG]
  refine Tot.ite (fun h=>absurd (of_decide_eq_true h) (by omega)) fun _=>Tot.ret fun y hy=>?_
  cases hy
  exact⟨by rw[e],by rw[←e];exact hm⟩
 |k+1,v,td,hv,ht,hm=>by
  have hva:v<A.length:=by omega
  obtain⟨x,hx⟩:∃x,A[v]? = some x:=⟨_,List.getElem?_eq_getElem hva⟩
  obtain⟨y,hy⟩:∃y,B[v]? = some y:=⟨_,List.getElem?_eq_getElem (by omega)⟩
  have htl:td.length≤1048576:=by rw[ht,List.length_take];omega
  refine Tot.succ ?_
  simp only[bG]
  refine Tot.ite (fun _=>Tot.pure (uS hx) ((zEp l x (hA x (List.mem_of_getElem? hx))).bind fun b hb=>Tot.ite (fun h1=>Tot.pure (uS hy) ((zEp l y (hB y (List.mem_of_getElem? hy))).bind fun b2 hb2=>Tot.ite (fun h2=>Tot.pure (yD (by simp;omega)) ?_) fun _=>Tot.ret fun z hz=>by cases hz)) fun _=>Tot.ret fun z hz=>by cases hz)) fun h=>absurd (of_decide_eq_false h) (by omega)
  rw[zU v (by omega)]
  refine zEo l c A B hA hB hn hl fl fu k (v+1) _ (by omega) (by rw[zHn hx hy,ht]) fun e he=>?_
  rcases List.mem_append.1 he with he|he
  ·exact hm e he
  ·rw[List.mem_singleton.1 he];exact⟨hb h1,hb2 h2⟩
theorem zEn(l:List Ent)(c:List zG)(A B:List Tm)(hA:∀x∈A,x.Ok)(hB:∀x∈B,x.Ok)(hn:A.length=B.length)(hl:A.length≤1048576)(hcl:c.length≤1048576)(hco:∀v∈c,v.type_.Ok)(fl fu:Int):∀(r:List zG) (v:Nat),c.drop v=r->(∀w∈c.take v,wZ l w.type_) ->
  Tot (fun q=>bH q (wC l) c A B fl fu (v:Int)) fun x=>∀y,x = .inr y->(y=(c,vU A B,[],[],[],0)∧∀e∈vU A B,wZ l e.a_∧wZ l e.b_)∧∀w∈c,wZ l w.type_
 | [],v,hd,hm=>by
  refine Tot.succ ?_
  simp only[bH]
  refine Tot.ite (fun h=>?_) fun _=>(zEo l c A B hA hB hn hl fl fu A.length 0 [] (by omega) rfl (fun e he=>by simp at he)).mono fun x hx y hy=>⟨hx y hy,fun w hw=>hm w ?_⟩
  ·rw[zZ hd]at h;cases h
  ·rwa[List.take_of_length_le (List.drop_eq_nil_iff.1 hd)]
 |x::r,v,hd,hm=>by
  have hlt:=yC hd
  have hx:x∈c:=List.mem_of_mem_drop (by rw[hd];simp)
  refine Tot.succ ?_
  simp only[bH]
  refine Tot.ite (fun _=>Tot.pure (zV hd) ((zEp l x.type_ (hco x hx)).bind fun b hb=>Tot.ite (fun h1=>?_) fun _=>Tot.ret fun z hz=>by cases hz)) fun h=>?_
  ·rw[zU v (by omega)]
   refine zEn l c A B hA hB hn hl hcl hco fl fu r (v+1) (zS hd) fun w hw=>?_
   rw[qO hd]at hw
   rcases List.mem_append.1 hw with hw|hw
   ·exact hm w hw
   ·rw[List.mem_singleton.1 hw];exact hb h1
  ·rw[zY hd]at h;cases h
theorem zMr(l:List Ent)(c:List zG)(A B:List Tm)(hA:∀x∈A,x.Ok)(hB:∀x∈B,x.Ok)(hl:A.length≤1048576)(hcl:c.length≤1048576)(hco:∀v∈c,v.type_.Ok)(fl fu:Int) :
  Tot (fun q=>e64 q (wC l) c A B fl fu) fun x=>∀y,x = .inr y->zJF c∧A.length=B.length∧(y=(c,vU A B,[],[],[],0)∧∀e∈vU A B,wZ l e.a_∧wZ l e.b_)∧∀w∈c,wZ l w.type_:=by
 simp only[e64]
 refine(dO (by omega) hco).bind fun b hb=>Tot.ite (fun h1=>Tot.ite (fun _=>Tot.ret fun z hz=>by cases hz) fun h2=>?_) fun _=>Tot.ret fun z hz=>by cases hz
 have hn:A.length=B.length:=by have:=(by simpa using h2:(A.length:Int)=B.length);omega
 exact(zEn l c A B hA hB hn hl hcl hco fl fu c 0 rfl (fun w hw=>by simp at hw)).mono fun x hx y hy=>⟨hb h1,hn,hx y hy⟩
def bI:Nat->xE->List Int->Int->Int->List zG->Nat->Nat->Nat->Nat->Nat->Bool->Int->List zD->List zG->Int->List zI->Option ((yH×Int×Int×Int) ⊕ ((List Int×List zG×List zI×Int×Int×Int) ⊕ (List zG×List zI×List Int×Nat×Int×Int×Int)))
 |0,_,_,_,_,_,_,_,_,_,_,_,_,_,_,_,_=>none
 |qq+1,M,xF,xP,wQ,xO,vL,vE,vM,wF,xX,sG,uX,wA,uD,v109,zAN=>
 if decide (v109<(xX:Int))then
 kE xX v109>>=fun x28=>
 zR zAN (x28:Int)>>=fun x30=>
 e53 qq x30.t_>>=fun r32=>
 zR zAN (x28:Int)>>=fun x34=>
 zBw zAN x28 (zI.mk x34.n_ r32)>>=fun l36=>
 bI qq M xF xP wQ xO vL vE vM wF xX sG uX wA uD (w64 (v109+1)) l36
 else
 gfz uD.length uD>>=fun l38=>
 gfz xX zAN>>=fun l40=>
 gfz xF.length xF>>=fun l42=>
 some (.inr (.inr (l38,l40,l42,wF,0,xP,wQ)))
def gS:Nat->xE->List zI->List Int->Int->Int->List zG->Nat->Nat->Nat->Nat->Nat->Bool->Int->List zD->Int->List zG->Option ((yH×Int×Int×Int) ⊕ ((List Int×List zG×List zI×Int×Int×Int) ⊕ (List zG×List zI×List Int×Nat×Int×Int×Int)))
 |0,_,_,_,_,_,_,_,_,_,_,_,_,_,_,_,_=>none
 |qq+1,M,sH,xF,xP,wQ,xO,vL,vE,vM,wF,xX,sG,uX,wA,v81,uD=>
 if decide (v81<(xO.length:Int))then
 zR xO v81>>=fun x21=>
 e53 qq x21.type_>>=fun r23=>
 yP 48 uD [(zG.mk x21.n_ r23)]>>=fun l25=>
 gS qq M sH xF xP wQ xO vL vE vM wF xX sG uX wA (w64 (v81+1)) l25
 else
 bI qq M xF xP wQ xO vL vE vM wF xX sG uX wA uD 0 sH
def qQ:Nat->xE->(List zG×List zD×List zG×List zI×List Int×Int)->List zI->List Int->Int->Int->List zG->Nat->Nat->Nat->Nat->Nat->Bool->Int->List zD->Option ((yH×Int×Int×Int) ⊕ ((List Int×List zG×List zI×Int×Int×Int) ⊕ (List zG×List zI×List Int×Nat×Int×Int×Int)))
 |0,_,_,_,_,_,_,_,_,_,_,_,_,_,_,_=>none
 |qq+1,M,y3,sH,xF,xP,wQ,xO,vL,vE,vM,wF,xX,sG,uX,wA=>
 if decide ((vE:Int)>0)then
 if uX==0 then
 if sG then
 if uX != 0 then
 some (.inl ((yH.mk false [] [] []),uX,xP,wQ))
 else
 gfz xF.length xF>>=fun l8=>
 some (.inr (.inl (l8,[],[],0,xP,wQ)))
 else
 zAM qq M.l M.rl M.parts M.args M.own xP wQ xO wA vE vM vL false y3.2.2.1 sH xX wF xF sG uX>>=fun r10=>
 match r10 with
 | .inl y12=>
  qQ qq M y3 y12.2.2.2.2.2.1 y12.2.2.2.2.2.2.2.2.1 y12.2.2.2.2.2.2.2.2.2.2.2.1 y12.2.2.2.2.2.2.2.2.2.2.2.2 y12.1 y12.2.2.2.2.1 y12.2.2.1 y12.2.2.2.1 y12.2.2.2.2.2.2.2.1 y12.2.2.2.2.2.2.1 y12.2.2.2.2.2.2.2.2.2.1 y12.2.2.2.2.2.2.2.2.2.2.1 y12.2.1
 | .inr (.inl y13)=>
  qQ qq M y3 y13.2.2.2.2.2.1 y13.2.2.2.2.2.2.2.2.1 y13.2.2.2.2.2.2.2.2.2.2.1 y13.2.2.2.2.2.2.2.2.2.2.2 y13.1 y13.2.2.2.2.1 y13.2.2.1 y13.2.2.2.1 y13.2.2.2.2.2.2.2.1 y13.2.2.2.2.2.2.1 true y13.2.2.2.2.2.2.2.2.2.1 y13.2.1
 | .inr (.inr (.inl y14))=>
  qQ qq M y3 y14.2.2.2.2.2.1 y14.2.2.2.2.2.2.1 y14.2.2.2.2.2.2.2.2.2.1 y14.2.2.2.2.2.2.2.2.2.2 y14.1 y14.2.2.2.2.1 y14.2.2.1 y14.2.2.2.1 y14.2.2.2.2.2.1.length y14.2.2.2.2.2.1.length y14.2.2.2.2.2.2.2.1 y14.2.2.2.2.2.2.2.2.1 y14.2.1
 | .inr (.inr (.inr y15))=>
  qQ qq M y3 y15.2.2.1 y15.2.2.2.2.2.1 y15.2.2.2.2.2.2.2.2.1 y15.2.2.2.2.2.2.2.2.2.1 y15.1 y15.2.1.length y15.2.1.length 0 y15.2.2.2.2.1 y15.2.2.2.1 y15.2.2.2.2.2.2.1 y15.2.2.2.2.2.2.2.1 y15.2.1
 else
 if uX != 0 then
 some (.inl ((yH.mk false [] [] []),uX,xP,wQ))
 else
 if sG then
 gfz xF.length xF>>=fun l18=>
 some (.inr (.inl (l18,[],[],0,xP,wQ)))
 else
 gS qq M sH xF xP wQ xO vL vE vM wF xX sG uX wA 0 y3.2.2.1
 else
 if uX != 0 then
 some (.inl ((yH.mk false [] [] []),uX,xP,wQ))
 else
 if sG then
 gfz xF.length xF>>=fun l22=>
 some (.inr (.inl (l22,[],[],0,xP,wQ)))
 else
 gS qq M sH xF xP wQ xO vL vE vM wF xX sG uX wA 0 y3.2.2.1
def e34(qq:Nat)(M:xE)(p1:List zG)(p2 p3:List Tm)(fl fu:Int):Option ((yH×Int×Int×Int) ⊕ ((List Int×List zG×List zI×Int×Int×Int) ⊕ (List zG×List zI×List Int×Nat×Int×Int×Int))):=
 e64 qq M p1 p2 p3 fl fu>>=fun r1=>
 match r1 with
 | .inl y4=>
  some (.inl ((yH.mk false [] [] []),5,fl,fu))
 | .inr y3=>
  qQ qq M y3 y3.2.2.2.1 y3.2.2.2.2.1 fl fu y3.1 y3.2.1.length y3.2.1.length 0 y3.2.2.2.1.length y3.2.2.2.1.length false y3.2.2.2.2.2 y3.2.1
abbrev zUu (M:xE) (p1:List zG) (p2 p3:List Tm) (fl fu:Int) (r:yH×Int×Int×Int) (C:Cf):Prop:=C 34 [mB M 1,mR M,.cells [ai fl,ai fu]] [.mp 0 0,slv zK p1 .no,slv zF p2 .no,slv zF p3 .no,.mp 2 0] (.tup [wL r.1,ai r.2.1]) [mB M 1,mR M,.cells [ai r.2.2.1,ai r.2.2.2]] 0
abbrev zUt (M:xE) (p1:List zG) (p2 p3:List Tm) (fl fu:Int) (r:List Int×List zG×List zI×Int×Int×Int) (C:Cf):Prop:=C 34 [mB M 1,mR M,.cells [ai fl,ai fu]] [.mp 0 0,slv zK p1 .no,slv zF p2 .no,slv zF p3 .no,.mp 2 0] (.tup [.agg [ab false,slv zK r.2.1 .no,slv zQ r.2.2.1 .no,.ms 3 0 r.1.length r.1.length 1],ai r.2.2.2.1]) [mB M 1,mR M,.cells [ai r.2.2.2.2.1,ai r.2.2.2.2.2],.row (zJ zW r.1)] 0
abbrev zUs (M:xE) (p1:List zG) (p2 p3:List Tm) (fl fu:Int) (r:List zG×List zI×List Int×Nat×Int×Int×Int) (C:Cf):Prop:=C 34 [mB M 1,mR M,.cells [ai fl,ai fu]] [.mp 0 0,slv zK p1 .no,slv zF p2 .no,slv zF p3 .no,.mp 2 0] (.tup [.agg [ab true,.ms 3 0 r.1.length r.1.length 4,.ms 4 0 r.2.1.length r.2.2.2.1 4,.ms 5 0 r.2.2.1.length r.2.2.1.length 1],ai r.2.2.2.2.1]) [mB M 1,mR M,.cells [ai r.2.2.2.2.2.1,ai r.2.2.2.2.2.2],.row (zJ zK r.1),.row (zJ zQ r.2.1),.row (zJ zW r.2.2.1)] 0
theorem q34:Qf 34 Tryz.f34:=⟨Tryz.func34,rfl⟩
theorem zXL{M p1 p2 p3 fl fu r}(h:zUu M p1 p2 p3 fl fu r Ci):zUu M p1 p2 p3 fl fu r Ct:=⟨h,⟨(lz rfl),⟨tv,zH _⟩,⟨tv,dT _⟩,⟨tv,dT _⟩,(lz rfl),tv⟩,(fMa (lz rfl) (zA ⟨tv,tv,tv⟩ zB)),⟨⟨tv,zH _,zM _,dI _,tv⟩,tv,tv⟩,(fMf (lz rfl) (zA ⟨tv,tv,tv⟩ zB))⟩
theorem yBM{M p1 p2 p3 fl fu r}(h:zUt M p1 p2 p3 fl fu r Ci):zUt M p1 p2 p3 fl fu r Ct:=⟨h,⟨(lz rfl),⟨tv,zH _⟩,⟨tv,dT _⟩,⟨tv,dT _⟩,(lz rfl),tv⟩,(fMa (lz rfl) (zA ⟨tv,tv,tv⟩ zB)),⟨⟨tv,zH _,zM _,(lz rfl),tv⟩,tv,tv⟩,(fMf (lz rfl) (zA ⟨tv,tv,tv⟩ (zA (dI _) zB)))⟩
theorem yBN{M p1 p2 p3 fl fu r}(h:zUs M p1 p2 p3 fl fu r Ci):zUs M p1 p2 p3 fl fu r Ct:=⟨h,⟨(lz rfl),⟨tv,zH _⟩,⟨tv,dT _⟩,⟨tv,dT _⟩,(lz rfl),tv⟩,(fMa (lz rfl) (zA ⟨tv,tv,tv⟩ zB)),⟨⟨tv,(lz rfl),(lz rfl),(lz rfl),tv⟩,tv,tv⟩,(fMf (lz rfl) (zA ⟨tv,tv,tv⟩ (zA (zH _) (zA (zM _) (zA (dI _) zB)))))⟩
theorem zZa:∀qq:Nat,(∀M xF xP wQ xO vL vE vM wF xX sG uX wA uD v109 zAN r,bI qq M xF xP wQ xO vL vE vM wF xX sG uX wA uD v109 zAN=some r->(∀j,dL 3 (inn (inn (rgt (lft (rgt (rgt (rgt (rgt (rgt (rgt (rgt (rgt (bod Tryz.f34))))))))))))) (sp j 130 0 [(10,.mp 3 0),(12,.mp 4 0),(107,.ms 5 0 xX wF 4),(108,ai (xX:Int)),(109,ai v109)]) (⟨[(0,mB M 1),(1,mR M),(2,.cells [ai xP,ai wQ]),(3,.cells [ab false,.ms 6 0 (List.length ([]:List zG)) (List.length ([]:List zG)) 4,.ms 7 0 (List.length ([]:List zI)) (List.length ([]:List zI)) 4,.ms 8 0 (List.length ([]:List Int)) (List.length ([]:List Int)) 1]),(4,.cells [.mp 0 0,.mp 2 0,slv zK xO .no,.ms 9 (vM*6) vE vL 6,ab true,.ms 10 0 uD.length uD.length 4,.ms 5 0 xX wF 4,.ms 11 0 xF.length xF.length 1,ab sG,ai uX]),(5,.row (zJ zQ zAN)),(6,.row (zJ zK ([]:List zG))),(7,.row (zJ zQ ([]:List zI))),(8,.row (zJ zW ([]:List Int))),(9,.row (zJ zP wA)),(10,.row (zJ zK uD)),(11,.row (zJ zW xF))],12,[],0,[]⟩) (fQ 3 ((match (generalizing:=false) r with | .inl x=>nQ 3 Tryz.f34 (.tup [wL x.1,ai x.2.1]) [mB M 1,mR M,.cells [ai x.2.2.1,ai x.2.2.2]] 0 | .inr (.inl x)=>nQ 3 Tryz.f34 (.tup [.agg [ab false,slv zK x.2.1 .no,slv zQ x.2.2.1 .no,.ms 3 0 x.1.length x.1.length 1],ai x.2.2.2.1]) [mB M 1,mR M,.cells [ai x.2.2.2.2.1,ai x.2.2.2.2.2],.row (zJ zW x.1)] 0 | .inr (.inr x)=>nQ 3 Tryz.f34 (.tup [.agg [ab true,.ms 3 0 x.1.length x.1.length 4,.ms 4 0 x.2.1.length x.2.2.2.1 4,.ms 5 0 x.2.2.1.length x.2.2.1.length 1],ai x.2.2.2.2.1]) [mB M 1,mR M,.cells [ai x.2.2.2.2.2.1,ai x.2.2.2.2.2.2],.row (zJ zK x.1),.row (zJ zQ x.2.1),.row (zJ zW x.2.2.1)] 0)) [.blk 4,.seq (rgt (rgt (rgt (rgt (rgt (rgt (rgt (rgt (rgt (bod Tryz.f34))))))))))]))):=by
 intro qq
 induction qq with
 |zero=>
  exact fun _ _ _ _ _ _ _ _ _ _ _ _ _ _ _ _ _ h=>nn h
 |succ qq ih=>
  intro M xF xP wQ xO vL vE vM wF xX sG uX wA uD v109 zAN r h
  rw[bI]at h
  obtain⟨h27,h⟩|⟨h27,h⟩:=spl h
  obtain⟨x28,h29,h⟩:=zC h
  obtain⟨x30,h31,h⟩:=zC h
  obtain⟨r32,h33,h⟩:=zC h
  obtain⟨x34,h35,h⟩:=zC h
  obtain⟨l36,h37,h⟩:=zC h
  exact fun j=>lH 1 [] [0,1,2,3,4,5,6,7,8,9,10,11] [] [10,12,107,108,109] (oD (dI xF)<|oD (zH uD)<|oD (zN wA)<|oD (dI ([]:List Int))<|oD (zM ([]:List zI))<|oD (zH ([]:List zG))<|oD (zM l36)<|oD (zH xO)<|oDM M<|oW 0 (wtF (x':=(zI.mk x34.n_ r32)) wV h35 h37 1 3 (.agg [ai r32.k,ai r32.n,slv zF r32.sub .no]) rfl rfl (by decide) rfl)<|oA 0 (zMM (b:=5) (c:=wF) (z:=4) h29)<|oC 1 [] (c53 h33)<|oCl 1<|oG (a:=(.agg [ai x30.n_,ai x30.t_.k,ai x30.t_.n,slv zF x30.t_.sub .no])) 0 (ldE wV h31 (true,4) (val:=.agg [ai x30.n_,ai x30.t_.k,ai x30.t_.n,slv zF x30.t_.sub .no]) rfl)<|oA 0 (zMM (b:=5) (c:=wF) (z:=4) h29)<|oB 0 h27 o0) (ih _ _ _ _ _ _ _ _ _ _ _ _ _ _ _ _ _ h)
  obtain⟨l38,h39,h⟩:=zC h
  obtain⟨h39a,h39b⟩:=qZ h39
  obtain⟨l40,h41,h⟩:=zC h
  obtain⟨h41a,h41b⟩:=qZ h41
  obtain⟨l42,h43,h⟩:=zC h
  obtain⟨h43a,h43b⟩:=qZ h43
  cases h
  obtain rfl:=h39a.symm
  obtain rfl:=h41a.symm
  obtain rfl:=h43a.symm
  dsimp only
  rw[←h39b,←h41b,←h43b]
  exact fun j=>lF 2 [0,1,2,10,5,11] (oD (dI xF)<|oD (zM zAN)<|oD (zH uD)<|oDM M<|oB 0 h27 o0)
theorem zUr:∀qq:Nat,(∀M sH xF xP wQ xO vL vE vM wF xX sG uX wA v81 uD r,gS qq M sH xF xP wQ xO vL vE vM wF xX sG uX wA v81 uD=some r->(∀j,dL 3 (inn (inn (rgt (lft (rgt (rgt (rgt (rgt (rgt (rgt (rgt (bod Tryz.f34)))))))))))) (sp j 130 0 [(10,.mp 3 0),(12,.mp 4 0),(79,slv zK xO .no),(80,ai (xO.length:Int)),(81,ai v81)]) (⟨[(0,mB M 1),(1,mR M),(2,.cells [ai xP,ai wQ]),(3,.cells [ab false,.ms 5 0 (List.length ([]:List zG)) (List.length ([]:List zG)) 4,.ms 6 0 (List.length ([]:List zI)) (List.length ([]:List zI)) 4,.ms 7 0 (List.length ([]:List Int)) (List.length ([]:List Int)) 1]),(4,.cells [.mp 0 0,.mp 2 0,slv zK xO .no,.ms 8 (vM*6) vE vL 6,ab true,.ms 9 0 uD.length uD.length 4,.ms 10 0 xX wF 4,.ms 11 0 xF.length xF.length 1,ab sG,ai uX]),(5,.row (zJ zK ([]:List zG))),(6,.row (zJ zQ ([]:List zI))),(7,.row (zJ zW ([]:List Int))),(8,.row (zJ zP wA)),(9,.row (zJ zK uD)),(10,.row (zJ zQ sH)),(11,.row (zJ zW xF))],12,[],0,[]⟩) (fQ 3 ((match (generalizing:=false) r with | .inl x=>nQ 3 Tryz.f34 (.tup [wL x.1,ai x.2.1]) [mB M 1,mR M,.cells [ai x.2.2.1,ai x.2.2.2]] 0 | .inr (.inl x)=>nQ 3 Tryz.f34 (.tup [.agg [ab false,slv zK x.2.1 .no,slv zQ x.2.2.1 .no,.ms 3 0 x.1.length x.1.length 1],ai x.2.2.2.1]) [mB M 1,mR M,.cells [ai x.2.2.2.2.1,ai x.2.2.2.2.2],.row (zJ zW x.1)] 0 | .inr (.inr x)=>nQ 3 Tryz.f34 (.tup [.agg [ab true,.ms 3 0 x.1.length x.1.length 4,.ms 4 0 x.2.1.length x.2.2.2.1 4,.ms 5 0 x.2.2.1.length x.2.2.1.length 1],ai x.2.2.2.2.1]) [mB M 1,mR M,.cells [ai x.2.2.2.2.2.1,ai x.2.2.2.2.2.2],.row (zJ zK x.1),.row (zJ zQ x.2.1),.row (zJ zW x.2.2.1)] 0)) [.blk 2,.seq (rgt (rgt (rgt (rgt (rgt (rgt (rgt (rgt (bod Tryz.f34)))))))))]))):=by
 intro qq
 induction qq with
 |zero=>
  exact fun _ _ _ _ _ _ _ _ _ _ _ _ _ _ _ _ _ h=>nn h
 |succ qq ih=>
  intro M sH xF xP wQ xO vL vE vM wF xX sG uX wA v81 uD r h
  rw[gS]at h
  obtain⟨h20,h⟩|⟨h20,h⟩:=spl h
  obtain⟨x21,h22,h⟩:=zC h
  obtain⟨r23,h24,h⟩:=zC h
  obtain⟨l25,h26,h⟩:=zC h
  exact fun j=>lH 2 [] [0,1,2,3,4,5,6,7,8,13,10,11] [] [10,12,79,80,81] (oD (zH xO)<|oD (dI xF)<|oD (zM sH)<|oD (zH l25)<|oD (zN wA)<|oD (dI ([]:List Int))<|oD (zM ([]:List zI))<|oD (zH ([]:List zG))<|oD (zH xO)<|oDM M<|oM 1 (yAr h26 (by simp))<|oC 1 [] (c53 h24)<|oCl 0<|oCl 2<|oA 0 (zGg (o:=.no) h22)<|oB 0 h20 o0) (ih _ _ _ _ _ _ _ _ _ _ _ _ _ _ _ _ _ h)
  exact fun j=>lH 2 [] [0,1,2,3,4,10,5,6,7,8,9,11] [] [10,12,107,108,109] (oD (dI xF)<|oD (zH uD)<|oD (zN wA)<|oD (dI ([]:List Int))<|oD (zM ([]:List zI))<|oD (zH ([]:List zG))<|oD (zM sH)<|oD (zH xO)<|oDM M<|oB 0 h20 o0) (zZa _ _ _ _ _ _ _ _ _ _ _ _ _ _ _ _ _ _ h)
theorem zMq:∀qq:Nat,(∀M y3 sH xF xP wQ xO vL vE vM wF xX sG uX wA r,qQ qq M y3 sH xF xP wQ xO vL vE vM wF xX sG uX wA=some r->(∀j,dL 3 (inn (inn (lft (rgt (rgt (rgt (bod Tryz.f34))))))) (sp j 130 0 [(10,.mp 3 0),(12,.mp 4 0)]) (⟨[(0,mB M 1),(1,mR M),(2,.cells [ai xP,ai wQ]),(3,.cells [ab false,.ms 5 0 (List.length ([]:List zG)) (List.length ([]:List zG)) 4,.ms 6 0 (List.length ([]:List zI)) (List.length ([]:List zI)) 4,.ms 7 0 (List.length ([]:List Int)) (List.length ([]:List Int)) 1]),(4,.cells [.mp 0 0,.mp 2 0,slv zK xO .no,.ms 8 (vM*6) vE vL 6,ab false,.ms 9 0 y3.2.2.1.length y3.2.2.1.length 4,.ms 10 0 xX wF 4,.ms 11 0 xF.length xF.length 1,ab sG,ai uX]),(5,.row (zJ zK ([]:List zG))),(6,.row (zJ zQ ([]:List zI))),(7,.row (zJ zW ([]:List Int))),(8,.row (zJ zP wA)),(9,.row (zJ zK y3.2.2.1)),(10,.row (zJ zQ sH)),(11,.row (zJ zW xF))],12,[],0,[]⟩) (fQ 3 ((match (generalizing:=false) r with | .inl x=>nQ 3 Tryz.f34 (.tup [wL x.1,ai x.2.1]) [mB M 1,mR M,.cells [ai x.2.2.1,ai x.2.2.2]] 0 | .inr (.inl x)=>nQ 3 Tryz.f34 (.tup [.agg [ab false,slv zK x.2.1 .no,slv zQ x.2.2.1 .no,.ms 3 0 x.1.length x.1.length 1],ai x.2.2.2.1]) [mB M 1,mR M,.cells [ai x.2.2.2.2.1,ai x.2.2.2.2.2],.row (zJ zW x.1)] 0 | .inr (.inr x)=>nQ 3 Tryz.f34 (.tup [.agg [ab true,.ms 3 0 x.1.length x.1.length 4,.ms 4 0 x.2.1.length x.2.2.2.1 4,.ms 5 0 x.2.2.1.length x.2.2.1.length 1],ai x.2.2.2.2.1]) [mB M 1,mR M,.cells [ai x.2.2.2.2.2.1,ai x.2.2.2.2.2.2],.row (zJ zK x.1),.row (zJ zQ x.2.1),.row (zJ zW x.2.2.1)] 0)) [.blk 0,.seq (rgt (rgt (rgt (rgt (bod Tryz.f34)))))]))):=by
 intro qq
 induction qq with
 |zero=>
  exact fun _ _ _ _ _ _ _ _ _ _ _ _ _ _ _ _ h=>nn h
 |succ qq ih=>
  intro M y3 sH xF xP wQ xO vL vE vM wF xX sG uX wA r h
  rw[qQ]at h
  have z {os ob} (k:Oz os ob):=oD (zH xO)<|oD (dI xF)<|oD (zM sH)<|oD (zH y3.2.2.1)<|oD (zN wA)<|oD (dI ([]:List Int))<|oD (zM ([]:List zI))<|oD (zH ([]:List zG))<|oD (zH xO)<|oDM M<|k
  have z1 {os ob} (k:Oz os ob):=oD (dI ([]:List Int))<|oD (zM ([]:List zI))<|oD (zH ([]:List zG))<|oDM M<|k
  have z2 {os ob} (k:Oz os ob):=oD (zM ([]:List zI))<|oD (zH ([]:List zG))<|oD (dI xF)<|oDM M<|k
  obtain⟨h4,h⟩|⟨h4,h⟩:=spl h
  have k:=oB 2 h4 o0
  obtain⟨h5,h⟩|⟨h5,h⟩:=spl h
  have k:=oB 1 h5 k
  obtain⟨h6,h⟩|⟨h6,h⟩:=spl h
  have k:=oB 0 h6 k
  obtain⟨h7,h⟩|⟨h7,h⟩:=spl h
  cases h
  exact fun j=>lF 2 [0,1,2] (z1<|oB 2 h7 k)
  obtain⟨l8,h9,h⟩:=zC h
  obtain⟨h9a,h9b⟩:=qZ h9
  cases h
  obtain rfl:=h9a.symm
  dsimp only
  rw[←h9b]
  exact fun j=>lF 2 [0,1,2,11] (z2<|oB 0 h6<|oB 2 h7 k)
  obtain⟨r10,h11,h⟩:=zC h
  have k:=oB 0 h6 k
  rcases r10 with y12 | (y13 | (y14|y15))
  dsimp only at h
  exact fun j=>lH 0 [] [0,1,2,3,4,5,6,7,8,9,12,13] [] [10,12] (oD (dI y12.2.2.2.2.2.2.2.2.1)<|oD (zM y12.2.2.2.2.2.1)<|oD (zH y3.2.2.1)<|oD (zN y12.2.1)<|oD (dI ([]:List Int))<|oD (zM ([]:List zI))<|oD (zH ([]:List zG))<|oD (zH y12.1)<|oDM M<|oC 1 [4,0,1,2,8,9,10,11] (zCd h11) k) (ih _ _ _ _ _ _ _ _ _ _ _ _ _ _ _ _ h)
  dsimp only at h
  exact fun j=>lH 0 [] [0,1,2,3,4,5,6,7,8,9,12,13] [] [10,12] (oD (dI y13.2.2.2.2.2.2.2.2.1)<|oD (zM y13.2.2.2.2.2.1)<|oD (zH y3.2.2.1)<|oD (zN y13.2.1)<|oD (dI ([]:List Int))<|oD (zM ([]:List zI))<|oD (zH ([]:List zG))<|oD (zH y13.1)<|oDM M<|oC 1 [4,0,1,2,8,9,10,11] (zCd h11) k) (ih _ _ _ _ _ _ _ _ _ _ _ _ _ _ _ _ h)
  dsimp only at h
  exact fun j=>lH 0 [] [0,1,2,3,4,5,6,7,8,9,12,13] [] [10,12] (oD (dI y14.2.2.2.2.2.2.1)<|oD (zM y14.2.2.2.2.2.1)<|oD (zH y3.2.2.1)<|oD (zN y14.2.1)<|oD (dI ([]:List Int))<|oD (zM ([]:List zI))<|oD (zH ([]:List zG))<|oD (zH y14.1)<|oDM M<|oC 1 [4,0,1,2,8,9,10,11] (zCd h11) k) (ih _ _ _ _ _ _ _ _ _ _ _ _ _ _ _ _ h)
  dsimp only at h
  exact fun j=>lH 0 [] [0,1,2,3,4,5,6,7,12,9,13,14] [] [10,12] (oD (dI y15.2.2.2.2.2.1)<|oD (zM y15.2.2.1)<|oD (zH y3.2.2.1)<|oD (zN y15.2.1)<|oD (dI ([]:List Int))<|oD (zM ([]:List zI))<|oD (zH ([]:List zG))<|oD (zH y15.1)<|oDM M<|oC 1 [4,0,1,2,8,9,10,11] (zCd h11) k) (ih _ _ _ _ _ _ _ _ _ _ _ _ _ _ _ _ h)
  have k:=oB 1 h5 k
  obtain⟨h16,h⟩|⟨h16,h⟩:=spl h
  cases h
  exact fun j=>lF 2 [0,1,2] (z1<|oB 1 h16 k)
  have k:=oB 1 h16 k
  obtain⟨h17,h⟩|⟨h17,h⟩:=spl h
  obtain⟨l18,h19,h⟩:=zC h
  obtain⟨h19a,h19b⟩:=qZ h19
  cases h
  obtain rfl:=h19a.symm
  dsimp only
  rw[←h19b]
  exact fun j=>lF 2 [0,1,2,11] (z2<|oB 0 h17 k)
  exact fun j=>lH 3 [] [0,1,2,3,4,5,6,7,8,9,10,11] [] [10,12,79,80,81] (z<|oB 0 h17 k) (zUr _ _ _ _ _ _ _ _ _ _ _ _ _ _ _ _ _ _ h)
  have k:=oB 2 h4 o0
  obtain⟨h20,h⟩|⟨h20,h⟩:=spl h
  cases h
  exact fun j=>lF 2 [0,1,2] (z1<|oB 1 h20 k)
  have k:=oB 1 h20 k
  obtain⟨h21,h⟩|⟨h21,h⟩:=spl h
  obtain⟨l22,h23,h⟩:=zC h
  obtain⟨h23a,h23b⟩:=qZ h23
  cases h
  obtain rfl:=h23a.symm
  dsimp only
  rw[←h23b]
  exact fun j=>lF 2 [0,1,2,11] (z2<|oB 0 h21 k)
  exact fun j=>lH 3 [] [0,1,2,3,4,5,6,7,8,9,10,11] [] [10,12,79,80,81] (z<|oB 0 h21 k) (zUr _ _ _ _ _ _ _ _ _ _ _ _ _ _ _ _ _ _ h)
theorem yDs{qq M p1 p2 p3 fl fu r}(h:e34 qq M p1 p2 p3 fl fu=some r):(match (generalizing:=false) r with | .inl x=>zUu M p1 p2 p3 fl fu x Ct | .inr (.inl x)=>zUt M p1 p2 p3 fl fu x Ct | .inr (.inr x)=>zUs M p1 p2 p3 fl fu x Ct):=by
 unfold e34 at h
 obtain⟨r1,h2,h⟩:=zC h
 rcases r1 with y4|y3
 dsimp only at h
 cases h
 exact zXL (tF q34 4 [0,1,2] (oD (dI ([]:List Int))<|oD (zM ([]:List zI))<|oD (zH ([]:List zG))<|oDM M<|oC 0 [0,1,2] (c64 h2) o0))
 dsimp only at h
 rcases r with y0 | (y1|y2)
 exact zXL (tH q34 3 [(some 3,1,4100),(some 3,2,4100),(some 3,3,4097)] [0,1,2,3,4,9,10,11,5,6,7,8] [] [10,12] (oD (dI y3.2.2.2.2.1)<|oD (zM y3.2.2.2.1)<|oD (zH y3.2.2.1)<|oD (zN y3.2.1)<|oD (dI ([]:List Int))<|oD (zM ([]:List zI))<|oD (zH ([]:List zG))<|oD (zH y3.1)<|oDM M<|oC 0 [0,1,2] (c64 h2) o0) (zMq _ _ _ _ _ _ _ _ _ _ _ _ _ _ _ _ _ h))
 exact yBM (tH q34 3 [(some 3,1,4100),(some 3,2,4100),(some 3,3,4097)] [0,1,2,3,4,9,10,11,5,6,7,8] [] [10,12] (oD (dI y3.2.2.2.2.1)<|oD (zM y3.2.2.2.1)<|oD (zH y3.2.2.1)<|oD (zN y3.2.1)<|oD (dI ([]:List Int))<|oD (zM ([]:List zI))<|oD (zH ([]:List zG))<|oD (zH y3.1)<|oDM M<|oC 0 [0,1,2] (c64 h2) o0) (zMq _ _ _ _ _ _ _ _ _ _ _ _ _ _ _ _ _ h))
 exact yBN (tH q34 3 [(some 3,1,4100),(some 3,2,4100),(some 3,3,4097)] [0,1,2,3,4,9,10,11,5,6,7,8] [] [10,12] (oD (dI y3.2.2.2.2.1)<|oD (zM y3.2.2.2.1)<|oD (zH y3.2.2.1)<|oD (zN y3.2.1)<|oD (dI ([]:List Int))<|oD (zM ([]:List zI))<|oD (zH ([]:List zG))<|oD (zH y3.1)<|oDM M<|oC 0 [0,1,2] (c64 h2) o0) (zMq _ _ _ _ _ _ _ _ _ _ _ _ _ _ _ _ _ h))
theorem c34{qq M p1 p2 p3 fl fu r}(h:e34 qq M p1 p2 p3 fl fu=some r):(match (generalizing:=false) r with | .inl x=>CT Tryz.prog 34 [mB M 1,mR M,.cells [ai fl,ai fu]] [.mp 0 0,slv zK p1 .no,slv zF p2 .no,slv zF p3 .no,.mp 2 0] (.tup [wL x.1,ai x.2.1]) [mB M 1,mR M,.cells [ai x.2.2.1,ai x.2.2.2]] 0 | .inr (.inl x)=>CT Tryz.prog 34 [mB M 1,mR M,.cells [ai fl,ai fu]] [.mp 0 0,slv zK p1 .no,slv zF p2 .no,slv zF p3 .no,.mp 2 0] (.tup [wL (yH.mk false x.2.1 x.2.2.1 x.1),ai x.2.2.2.1]) [mB M 1,mR M,.cells [ai x.2.2.2.2.1,ai x.2.2.2.2.2]] 0 | .inr (.inr x)=>CT Tryz.prog 34 [mB M 1,mR M,.cells [ai fl,ai fu]] [.mp 0 0,slv zK p1 .no,slv zF p2 .no,slv zF p3 .no,.mp 2 0] (.tup [wL (yH.mk true x.1 x.2.1 x.2.2.1),ai x.2.2.2.2.1]) [mB M 1,mR M,.cells [ai x.2.2.2.2.2.1,ai x.2.2.2.2.2.2]] 0):=by
 have k:=yDs h
 rcases r with y0 | (y1|y2)
 ·exact k
 ·exact CT.freeze (H1:=[mB M 1,mR M,.cells [ai y1.2.2.2.2.1,ai y1.2.2.2.2.2]]) (cs:=zJ zW y1.1) (res':=(.tup [wL (yH.mk false y1.2.1 y1.2.2.1 y1.1),ai y1.2.2.2.1])) k (Nat.le_of_ble_eq_true rfl) (fMf (lz rfl) (zA ⟨tv,tv,tv⟩ zB)) (dI _) ⟨⟨trivial,zH _,zM _,(.inl ⟨rfl,rfl⟩),tv⟩,trivial,tv⟩ (by rfl) rfl
 ·replace k:=CT.freeze (H1:=[mB M 1,mR M,.cells [ai y2.2.2.2.2.2.1,ai y2.2.2.2.2.2.2],.row (zJ zK y2.1),.row (zJ zQ y2.2.1)]) (cs:=zJ zW y2.2.2.1) (res':=(.tup [.agg [ab true,.ms 3 0 y2.1.length y2.1.length 4,.ms 4 0 y2.2.1.length y2.2.2.2.1 4,slv zW y2.2.2.1 .no],ai y2.2.2.2.2.1])) k (Nat.le_of_ble_eq_true rfl) (fMf (lz rfl) (zA ⟨tv,tv,tv⟩ (zA (zH _) (zA (zM _) zB)))) (dI _) ⟨⟨trivial,(.inr (show 3<5 by decide)),(.inr (show 4<5 by decide)),(.inl ⟨rfl,rfl⟩),tv⟩,trivial,tv⟩ (by rfl) rfl;replace k:=CT.freeze (H1:=[mB M 1,mR M,.cells [ai y2.2.2.2.2.2.1,ai y2.2.2.2.2.2.2],.row (zJ zK y2.1)]) (cs:=zJ zQ y2.2.1) (res':=(.tup [.agg [ab true,.ms 3 0 y2.1.length y2.1.length 4,slv zQ y2.2.1 .no,slv zW y2.2.2.1 .no],ai y2.2.2.2.2.1])) k (Nat.le_of_ble_eq_true rfl) (fMf (lz rfl) (zA ⟨tv,tv,tv⟩ (zA (zH _) zB))) (zM _) ⟨⟨trivial,(.inr (show 3<4 by decide)),(.inl ⟨rfl,rfl⟩),dI _,tv⟩,trivial,tv⟩ (by rfl) rfl;exact CT.freeze (H1:=[mB M 1,mR M,.cells [ai y2.2.2.2.2.2.1,ai y2.2.2.2.2.2.2]]) (cs:=zJ zK y2.1) (res':=(.tup [wL (yH.mk true y2.1 y2.2.1 y2.2.2.1),ai y2.2.2.2.2.1])) k (Nat.le_of_ble_eq_true rfl) (fMf (lz rfl) (zA ⟨tv,tv,tv⟩ zB)) (zH _) ⟨⟨trivial,(.inl ⟨rfl,rfl⟩),zM _,dI _,tv⟩,trivial,tv⟩ (by rfl) rfl
abbrev SvT:=(yH×Int×Int×Int) ⊕ ((List Int×List zG×List zI×Int×Int×Int) ⊕ (List zG×List zI×List Int×Nat×Int×Int×Int))
inductive SvR (l:List Ent) (c:List zG) (td:List zD) (so:List zI) (T:Int):SvT->Prop
 |err {a e fl fu}:e≠0->SvR l c td so T (.inl (a,e,fl,fu))
 |no {s fl fu}:0≤fl∧0≤fu∧fl+fu=T->Un l c td so none->SvR l c td so T (.inr (.inl (s,[],[],0,fl,fu)))
 |yes {c' so' s k fl fu}:0≤fl∧0≤fu∧fl+fu=T->Un l c td so (some (c',so'))->SvR l c td so T (.inr (.inr (c',so',s,k,0,fl,fu)))
theorem zNU(M:xE)(st:List Int)(L U:Int)(c:List zG)(a1 a2 a3 a4:Nat)(no:Bool)(e:Int)(q8:List zD)(vs:List zG)(so:List zI)(hl:so.length≤1048576)(hs:∀s∈so,zL s.t_=true):∀(k v:Nat),v+k=so.length->Tot (fun q=>bI q M st L U c a1 a2 a3 a4 so.length no e q8 vs (v:Int) so) fun x=>x = .inr (.inr (vs,so,st,a4,0,L,U))
 |0,v,hv=>by
  refine Tot.succ ?_
  simp only[bI]
  refine Tot.ite (fun h=>absurd (of_decide_eq_true h) (by omega)) fun _=>Tot.pure (a:=vs) (by unfold gfz;rw[if_pos rfl]) (Tot.pure (a:=so) (by unfold gfz;rw[if_pos rfl]) (Tot.pure (a:=st) (by unfold gfz;rw[if_pos rfl]) (Tot.ret rfl)))
 |k+1,v,hv=>by
  have hlt:v<so.length:=by omega
  obtain⟨x,hx⟩:∃x,so[v]? = some x:=⟨_,List.getElem?_eq_getElem hlt⟩
  have hsx:=hs x (List.mem_of_getElem? hx)
  refine Tot.succ ?_
  simp only[bI]
  refine Tot.ite (fun _=>Tot.pure (nC hlt) (Tot.pure (uS hx) (Tot.bind (P:=fun t=>t=x.t_) ((rJ x.t_ (yA hsx)).tot (by unfold mI;rw[if_pos hsx])) fun t ht=>Tot.pure (uS hx) (Tot.pure (a:=so) ?_ ?_)))) fun h=>absurd (of_decide_eq_false h) (by omega)
  ·subst ht
   obtain⟨h1,h2⟩:=List.getElem?_eq_some_iff.1 hx
   have:(zI.mk x.n_ x.t_)=so[v]:=by rw[h2]
   unfold zBw
   rw[if_pos hlt,this,List.set_getElem_self]
  ·rw[zU v (by omega)]
   exact zNU M st L U c a1 a2 a3 a4 no e q8 vs so hl hs k (v+1) (by omega)
theorem zNV(M:xE)(st:List Int)(L U:Int)(c:List zG)(a1 a2 a3 a4:Nat)(no:Bool)(e:Int)(q8:List zD)(so:List zI)(hl:so.length≤1048576)(hs:∀s∈so,zL s.t_=true)(hcl:c.length≤524288)(hc:∀v∈c,zL v.type_=true):∀(r:List zG) (v:Nat) (vs:List zG),c.drop v=r->vs=c.take v->Tot (fun q=>gS q M so st L U c a1 a2 a3 a4 so.length no e q8 (v:Int) vs) fun x=>x = .inr (.inr (c,so,st,a4,0,L,U))
 | [],v,vs,hd,hv=>by
  refine Tot.succ ?_
  simp only[gS]
  refine Tot.ite (fun h=>?_) fun _=>?_
  ·rw[zZ hd]at h;cases h
  ·rw[hv,List.take_of_length_le (List.drop_eq_nil_iff.1 hd)]
   exact zNU M st L U c a1 a2 a3 a4 no e q8 c so hl hs so.length 0 (by omega)
 |x::r,v,vs,hd,hv=>by
  have hlt:=yC hd
  have hsx:=hc x (List.mem_of_mem_drop (by rw[hd];simp))
  refine Tot.succ ?_
  simp only[gS]
  refine Tot.ite (fun _=>Tot.pure (zV hd) (Tot.bind (P:=fun t=>t=x.type_) ((rJ x.type_ (yA hsx)).tot (by unfold mI;rw[if_pos hsx])) fun t ht=>Tot.pure (yD (by rw[hv];simp;omega)) ?_)) fun h=>?_
  ·rw[zU v (by omega),ht,zTS]
   exact zNV M st L U c a1 a2 a3 a4 no e q8 so hl hs hcl hc r (v+1) _ (zS hd) (by rw[qO hd,hv])
  ·rw[zY hd]at h;cases h
theorem zNW{l:List Ent}{c0 td0 so0}{T:Int}(M:xE)(st:List Int)(L U:Int)(c:List zG)(a1 a2 a3 a4 a5:Nat)(no:Bool)(e:Int)(he:e≠0)(q8:List zD)(so:List zI)(y3:List zG×List zD×List zG×List zI×List Int×Int) :
  Tot (fun q=>qQ q M y3 so st L U c a1 a2 a3 a4 a5 no e q8) (SvR l c0 td0 so0 T):=by
 refine Tot.succ ?_
 simp only[qQ]
 exact Tot.ite (fun _=>Tot.ite (fun h=>absurd (by simpa using h) he) fun _=>Tot.ite (fun _=>Tot.ret (.err he)) fun h=>absurd (by simpa using h) he) fun _=>Tot.ite (fun _=>Tot.ret (.err he)) fun h=>absurd (by simpa using h) he
theorem zXx{l:List Ent}{c0 td0 so0}{T:Int}(M:xE)(st:List Int)(L U:Int)(c:List zG)(a1 a2 a3 a4 a5:Nat)(q8:List zD)(so:List zI)(y3:List zG×List zD×List zG×List zI×List Int×Int)(hU:Un l c0 td0 so0 none)(hF:0≤L∧0≤U∧L+U=T)(no:Bool)(hno:no=true) :
  Tot (fun q=>qQ q M y3 so st L U c a1 a2 a3 a4 a5 no 0 q8) (SvR l c0 td0 so0 T):=by
 refine Tot.succ ?_
 simp only[qQ]
 refine Tot.ite (fun _=>Tot.ite (fun _=>Tot.ite (fun _=>Tot.ite (fun h=>by cases h) fun _=>?_) fun h=>by rw[hno]at h;cases h) fun h=>by cases h) fun _=>Tot.ite (fun h=>by cases h) fun _=>Tot.ite (fun _=>?_) fun h=>by rw[hno]at h;cases h
 ·exact Tot.pure (a:=st) (by unfold gfz;rw[if_pos rfl]) (Tot.ret (.no hF hU))
 ·exact Tot.pure (a:=st) (by unfold gfz;rw[if_pos rfl]) (Tot.ret (.no hF hU))
theorem zHm{N:ByteArray->Bool}{l:List Ent}(hE:wI N l)(he:∀e∈l,EOk e)(hl:l.length≤65535)(hc:∀e∈l,ECl e){c0:List zG}{td0:List zD}{so0:List zI}{T0:Int}(I:∀c' so',Un l c0 td0 so0 (some (c',so'))->(∀v∈c',zL v.type_=true)∧∀s∈so',zL s.t_=true)
  (y3:List zG×List zD×List zG×List zI×List Int×Int) (hy:y3.2.2.1=[]) (no:Bool) (hno:no=false):∀(m:Nat) (L U:Int) (c:List zG) (q8:List zD) (n o k k6 n6:Nat) (so:List zI) (st:List Int),L.toNat<m->0≤L->0≤U->L+U=T0->T0≤1099511627776->o+n≤q8.length->(q8.length:Int)+8192*L≤1048576000->(∀x∈q8,x.a_.Ok∧x.b_.Ok)->(∀x∈(q8.drop o).take n,zL x.a_=true∧zL x.b_=true) ->
   so.length=n6->(so.length:Int)+L≤1048576->(∀x∈so,x.t_.Ok)->(st.length:Int)+L≤1048576->c.length≤524288->(∀v∈c,v.type_.Ok)->(∀r,Un l c ((q8.drop o).take n) so r->Un l c0 td0 so0 r) ->
   Tot (fun q=>qQ q (wC l) y3 so st L U c k n o k6 n6 no 0 q8) (SvR l c0 td0 so0 T0)
 |0,L,U,c,q8,n,o,k,k6,n6,so,st,hm,_,_,_,_,_,_,_,_,_,_,_,_,_,_,_=>absurd hm (Nat.not_lt_zero _)
 |m+1,L,U,c,q8,n,o,k,k6,n6,so,st,hm,h0,h1,hT,h2,hb,h8,hok8,hok,hn6,hso,hsok,hst,hcl,hco,T=>by
  refine Tot.succ ?_
  simp only[qQ]
  refine Tot.ite (fun hp=>Tot.ite (fun _=>Tot.ite (fun h=>by rw[hno]at h;cases h) fun _=>?_) fun h=>by cases h) fun hp=>Tot.ite (fun h=>by cases h) fun _=>Tot.ite (fun h=>by rw[hno]at h;cases h) fun _=>?_
  ·have hpos:1≤n:=by have:=of_decide_eq_true hp;omega
   refine(zQs hE he hl hc L U c q8 n o k false y3.2.2.1 so n6 k6 st no h0 h1 (by omega) hpos hb (by omega) hok8 hok hn6 (by omega) hsok (by omega) hcl hco).bind fun x hx=>?_
   cases hx with
   |err e0=>exact zNW _ _ _ _ _ _ _ _ _ _ _ _ e0 _ _ _
   |no _ hF hU=>exact zXx _ _ _ _ _ _ _ _ _ _ _ _ _ (T _ hU) ⟨hF.1,hF.2.1,by omega⟩ _ rfl
   | @sol d row k' so' n' t s e fl fu g1 g2 g3 g4 g5 g6 g7 g8 g9 g10 g11 g12=>
    by_cases e0:e=0
    ·subst e0
     obtain⟨p1,p2⟩:=g12 rfl
     refine zHm hE he hl hc I y3 hy no hno m fl fu d row (n-1) (o+1) k' _ _ (so'++[⟨n',t⟩]) s (by omega) g2 g4 (by omega) h2 (by rw[g6];omega) (by rw[g6];omega) g7 p1 rfl (by simp;omega) (fun x hx=>?_) (by omega) (by have:=g10.right.len;omega) (fun v hv=>yA (g10.right.each v hv).2.2.1) fun r hr=>T r (p2 r hr)
     rcases List.mem_append.1 hx with hx|hx
     ·exact g9 x hx
     ·rw[List.mem_singleton.1 hx];exact g11
    ·exact zNW _ _ _ _ _ _ _ _ _ _ _ _ e0 _ _ _
   | @inj td s fl fu g1 g2 g3 g4 g5 g6 g7 g8=>
    refine zHm hE he hl hc I y3 hy no hno m fl fu c td td.length 0 td.length _ _ so s (by omega) g2 g4 (by omega) h2 (by omega) (by omega) (fun x hx=>⟨yA (g7 x hx).1,yA (g7 x hx).2⟩) (fun x hx=>g7 x (List.mem_of_mem_drop (List.mem_of_mem_take hx))) hn6 (by omega) hsok (by omega) hcl hco fun r hr=>T r (g8 r ?_)
    rwa[List.drop_zero,List.take_length]at hr
  ·have hn0:n=0:=by have:=of_decide_eq_false hp;omega
   subst hn0
   have hU:Un l c0 td0 so0 (some (c,so)):=T _ (by rw[List.take_zero];exact .done)
   obtain⟨i1,i2⟩:=I c so hU
   subst hn6
   rw[hy]
   exact(zNV (wC l) st L U c _ _ _ _ no 0 q8 so (by omega) i2 hcl i1 c 0 [] rfl (by simp)).mono fun x hx=>by rw[hx];exact .yes ⟨h0,h1,hT⟩ hU
theorem eE.start{l:List Ent}{c:List zG}{td:List zD}(hc:zJF c)(ht:∀w∈c,wZ l w.type_)(hm:∀e∈td,wZ l e.a_∧wZ l e.b_):eE l c td [] c.length:=
 ⟨hc,ht,hm,fun s h=>by simp at h,fun s h=>by simp at h,fun s h=>by simp at h,fun s h=>by simp at h,by simp,by simp⟩
def SlR(l:List Ent)(c:List zG)(A B:List Tm)(T:Int)(x:SvT):Prop:=
 (∃a e fl fu,e≠0∧x = .inl (a,e,fl,fu))∨(zJF c∧A.length=B.length∧(∀e∈vU A B,wZ l e.a_∧wZ l e.b_)∧(∀w∈c,wZ l w.type_)∧SvR l c (vU A B) [] T x)
theorem zMp{N:ByteArray->Bool}{l:List Ent}(hE:wI N l)(he:∀e∈l,EOk e)(hl:l.length≤65535)(hc:∀e∈l,ECl e)(c:List zG)(A B:List Tm)(hA:∀x∈A,x.Ok)(hB:∀x∈B,x.Ok)(hal:A.length≤1048576)(hcl:c.length≤524288)(hco:∀v∈c,v.type_.Ok)(L U:Int)(h0:0≤L)(hL:L≤100000)(h1:0≤U)(h2:L+U≤1099511627776) :
  Tot (fun q=>e34 q (wC l) c A B L U) (SlR l c A B (L+U)):=by
 simp only[e34]
 refine(zMr l c A B hA hB hal (by omega) hco L U).bind fun x hx=>?_
 rcases x with y|y
 ·exact Tot.ret (.inl ⟨_,5,L,U,by decide,rfl⟩)
 ·obtain⟨hC,hn,⟨rfl,hm⟩,ht⟩:=hx y rfl
  have hz:(vU A B).length=A.length:=by unfold vU;rw[List.length_zipWith];omega
  have hI:=eE.start hC ht hm
  have hsh:∀e∈vU A B,zL e.a_=true∧zL e.b_=true:=fun e h=>⟨(qM.1 (hm e h).1).1,(qM.1 (hm e h).2).1⟩
  refine Tot.mono (zHm hE he hl hc (c0:=c) (td0:=vU A B) (so0:=[]) (fun c' so' h=>?_) (c,vU A B,[],[],[],0) rfl false rfl (L.toNat+1) L U c (vU A B) (vU A B).length 0 (vU A B).length 0 0 [] [] (by omega) h0 h1 rfl h2 (by omega) (by omega) (fun x hx=>⟨yA (hsh x hx).1,yA (hsh x hx).2⟩) (fun x hx=>hsh x (List.mem_of_mem_drop (List.mem_of_mem_take hx))) rfl (by simp;omega) (fun x hx=>by simp at hx) (by simp;omega) hcl hco (fun r hr=>by rwa[List.drop_zero,List.take_length]at hr)) fun x hx=>.inr ⟨hC,hn,hm,ht,hx⟩
  have:=h.inv hE hI c' so' rfl
  exact⟨fun v hv=>(qM.1 (this.typ v hv)).1,fun s hs=>(qM.1 (this.sol s hs)).1⟩
mutual
def e11:Nat->Tm->Int->Option Bool
 |0,_,_=>none
 |qq+1,p0,p1=>
 if p0.k==8 then
 some (p0.n==p1)
 else
 bJ qq p0 p1 0
def bJ:Nat->Tm->Int->Int->Option Bool
 |0,_,_,_=>none
 |qq+1,p0,p1,v5=>
 if decide (v5<(p0.sub.length:Int))then
 zR p0.sub v5>>=fun x3=>
 e11 qq x3 p1>>=fun r5=>
 if r5 then
 some true
 else
 bJ qq p0 p1 (w64 (v5+1))
 else
 some false
end
abbrev K11 (p0:Tm) (p1:Int) (r:Bool) (C:Cf):Prop:=C 11 [] [tmA p0,ai p1] (ab r) [] 0
theorem q11:Qf 11 Tryz.f11:=⟨Tryz.func11,rfl⟩
theorem k11{p0 p1 r}(h:K11 p0 p1 r Ci):K11 p0 p1 r Ct:=⟨h,⟨⟨tv,tv,⟨tv,dT _⟩,tv⟩,tv,tv⟩,zB,tv,zB⟩
theorem zQr:∀qq:Nat,(∀p0 p1 r,e11 qq p0 p1=some r->K11 p0 p1 r Ct)∧(∀p0 p1 v5 r,bJ qq p0 p1 v5=some r->(∀j,dL 0 (inn (inn (rgt (lft (rgt (rgt (bod Tryz.f11))))))) (sp j 27 0 [(1,ai p1),(2,.mp 0 0),(5,ai v5)]) (⟨[(0,.cells [ai p0.k,ai p0.n,slv zF p0.sub .no])],1,[],0,[]⟩) (fQ 0 (nQ 0 Tryz.f11 (ab r) [] 0) [.blk 0,.seq (rgt (rgt (rgt (bod Tryz.f11))))]))):=by
 intro qq
 induction qq with
 |zero=>
  exact⟨fun _ _ _ h=>nn h,fun _ _ _ _ h=>nn h⟩
 |succ qq ih=>
  obtain⟨yBO,zNX⟩:=ih
  refine⟨?_,?_⟩
  intro p0 p1 r h
  rw[e11]at h
  obtain⟨h1,h⟩|⟨h1,h⟩:=spl h
  cases h
  exact k11 (tF q11 2 [] (oB 1 h1 o0))
  exact k11 (tH q11 0 [] [0] [] [1,2,5] (oD (dT p0.sub)<|oB 1 h1 o0) (zNX _ _ _ _ h))
  intro p0 p1 v5 r h
  rw[bJ]at h
  obtain⟨h2,h⟩|⟨h2,h⟩:=spl h
  obtain⟨x3,h4,h⟩:=zC h
  obtain⟨r5,h6,h⟩:=zC h
  have k:=oA 1 (yN (o:=.no) h4)<|oB 2 h2 o0
  obtain⟨h7,h⟩|⟨h7,h⟩:=spl h
  cases h
  exact fun j=>lF 0 [] (oK 1 [] h7 (yBO _ _ _ h6) k)
  exact fun j=>lH 1 [] [0] [] [1,2,5] (oD (dT p0.sub)<|oK 1 [] h7 (yBO _ _ _ h6) k) (zNX _ _ _ _ h)
  cases h
  exact fun j=>lF 0 [] (oB 2 h2 o0)
theorem c11{qq p0 p1 r}(h:e11 qq p0 p1=some r):K11 p0 p1 r Ct:=(zQr _).1 _ _ _ h
def bK:Nat->List zG->List yZ->Int->Option (List yZ)
 |0,_,_,_=>none
 |qq+1,p0,v3,v4=>
 if decide (v4<(p0.length:Int))then
 zR p0 v4>>=fun x2=>
 yP 48 v3 [(yZ.mk x2.n_ x2.type_)]>>=fun l4=>
 bK qq p0 l4 (w64 (v4+1))
 else
 some v3
def e10(qq:Nat)(p0:List zG):Option (List yZ):=
 bK qq p0 [] 0
theorem zZA:∀qq:Nat,(∀p0 v3 v4 r,bK qq p0 v3 v4=some r->(∀j,dL 0 (inn (inn (rgt (lft (rgt (rgt (bod Tryz.f10))))))) (sp j 27 0 [(0,slv zK p0 .no),(3,slv wM v3 (.st 0 4)),(4,ai v4)]) (⟨[],0,[0],1,[]⟩) (fQ 0 (nQ 0 Tryz.f10 (.sl (zJ wM r) r.length .no) [] 0) [.blk 0,.seq (rgt (rgt (rgt (bod Tryz.f10))))]))):=by
 intro qq
 induction qq with
 |zero=>
  exact fun _ _ _ _ h=>nn h
 |succ qq ih=>
  intro p0 v3 v4 r h
  rw[bK]at h
  obtain⟨h1,h⟩|⟨h1,h⟩:=spl h
  obtain⟨x2,h3,h⟩:=zC h
  obtain⟨l4,h5,h⟩:=zC h
  exact fun j=>lH 1 [] [] [1] [0,3,4] (oD (wR l4)<|oD (zH p0)<|oP 2 (yAp h5 (by simp))<|oA 1 (zGg (o:=.no) h3)<|oA 0 (zGg (o:=.no) h3)<|oB 1 h1 o0) (ih _ _ _ _ h)
  obtain rfl:=sj h
  exact fun j=>lF 0 [] (oD (wR v3)<|oB 1 h1 o0)
theorem c10{qq p0 r}(h:e10 qq p0=some r):Ct 10 [] [slv zK p0 .no] (.sl (zJ wM r) r.length .no) [] 0:=⟨by
 unfold e10 at h
 exact tH ⟨Tryz.func10,rfl⟩ 1 [(none,3,4)] [] [0] [0,3,4] (oD (wR ([]:List yZ))<|oD (zH p0) o0) (zZA _ _ _ _ _ h),⟨⟨tv,zH _⟩,tv⟩,zB,wR _,zB⟩
def ofV(c:List zG):List yZ:=c.map fun v=>yZ.mk v.n_ v.type_
theorem zNY(c:List zG)(hl:c.length≤1048576):∀(r:List zG) (v:Nat) (acc:List yZ),c.drop v=r->v≤c.length->acc=(c.take v).map (fun v=>yZ.mk v.n_ v.type_)->Evt (fun q=>bK q c acc (v:Int)) (ofV c)
 | [],v,acc,hd,hv,ha=>by
  refine Evt.succ ?_
  simp only[bK]
  refine Evt.ifF (zZ hd) (Evt.ret.eq ?_)
  rw[ha,List.take_of_length_le (List.drop_eq_nil_iff.1 hd)];rfl
 |x::r,v,acc,hd,hv,ha=>by
  have hlt:=yC hd
  refine Evt.succ ?_
  simp only[bK]
  refine Evt.ifT (zY hd) (Evt.pure (zV hd) (Evt.pure (yD (by rw[ha];simp;omega)) ?_))
  rw[zU v (by omega)]
  exact zNY c hl r (v+1) _ (zS hd) hlt (by rw[qO hd,List.map_append,ha];rfl)
theorem zXM(c:List zG)(hl:c.length≤1048576):Evt (fun q=>e10 q c) (ofV c):=by
 simp only[e10]
 exact zNY c hl c 0 [] rfl (Nat.zero_le _) rfl
mutual
def zMo:Nat->Tm->Option Bool
 |0,_=>none
 |qq+1,p0=>
 if p0.k==1 then
 if (p0.sub.length:Int) != 0 then
 some false
 else
 if decide (p0.n<0)then
 some false
 else
 if decide (p0.n>1048576)then
 some false
 else
 if p0.k==7 then
 zR p0.sub 0>>=fun x6=>
 if x6.k != 2 then
 some false
 else
 wS qq p0 0 0
 else
 wS qq p0 0 0
 else
 if p0.k==6 then
 if (p0.sub.length:Int) != 0 then
 some false
 else
 if decide (p0.n<0)then
 some false
 else
 if decide (p0.n>1048576)then
 some false
 else
 if p0.k==7 then
 zR p0.sub 0>>=fun x14=>
 if x14.k != 2 then
 some false
 else
 wS qq p0 0 0
 else
 wS qq p0 0 0
 else
 if p0.k==8 then
 if (p0.sub.length:Int) != 0 then
 some false
 else
 if decide (p0.n<0)then
 some false
 else
 if decide (p0.n>1048576)then
 some false
 else
 if p0.k==7 then
 zR p0.sub 0>>=fun x22=>
 if x22.k != 2 then
 some false
 else
 wS qq p0 0 0
 else
 wS qq p0 0 0
 else
 if p0.k==2 then
 if (p0.sub.length:Int) != 0 then
 some false
 else
 if decide (p0.n<0)then
 some false
 else
 if decide (p0.n>7)then
 some false
 else
 if p0.k==7 then
 zR p0.sub 0>>=fun x30=>
 if x30.k != 2 then
 some false
 else
 wS qq p0 0 0
 else
 wS qq p0 0 0
 else
 if p0.k==3 then
 if (p0.sub.length:Int) != 2 then
 some false
 else
 if decide (p0.n<0)then
 some false
 else
 if decide (p0.n>0)then
 some false
 else
 if p0.k==7 then
 zR p0.sub 0>>=fun x38=>
 if x38.k != 2 then
 some false
 else
 wS qq p0 2 0
 else
 wS qq p0 2 0
 else
 if p0.k==4 then
 if (p0.sub.length:Int) != 2 then
 some false
 else
 if decide (p0.n<0)then
 some false
 else
 if decide (p0.n>0)then
 some false
 else
 if p0.k==7 then
 zR p0.sub 0>>=fun x46=>
 if x46.k != 2 then
 some false
 else
 wS qq p0 2 0
 else
 wS qq p0 2 0
 else
 if p0.k==5 then
 if (p0.sub.length:Int) != 2 then
 some false
 else
 if decide (p0.n<0)then
 some false
 else
 if decide (p0.n>0)then
 some false
 else
 if p0.k==7 then
 zR p0.sub 0>>=fun x54=>
 if x54.k != 2 then
 some false
 else
 wS qq p0 2 0
 else
 wS qq p0 2 0
 else
 if p0.k==7 then
 if (p0.sub.length:Int) != 1 then
 some false
 else
 if decide (p0.n<0)then
 some false
 else
 if decide (p0.n>1048576)then
 some false
 else
 zR p0.sub 0>>=fun x61=>
 if x61.k != 2 then
 some false
 else
 wS qq p0 1 0
 else
 some false
def wS:Nat->Tm->Int->Int->Option Bool
 |0,_,_,_=>none
 |qq+1,p0,v3,v5=>
 if decide (v5<v3)then
 zR p0.sub v5>>=fun x10=>
 zMo qq x10>>=fun r12=>
 if r12 then
 wS qq p0 v3 (w64 (v5+1))
 else
 some false
 else
 some true
end
abbrev zXw (p0:Tm) (r:Bool) (C:Cf):Prop:=C 105 [] [tmA p0] (ab r) [] 0
theorem vZ:Qf 105 Tryz.f105:=⟨Tryz.func105,rfl⟩
theorem uA{p0 r}(h:zXw p0 r Ci):zXw p0 r Ct:=⟨h,⟨⟨tv,tv,⟨tv,dT _⟩,tv⟩,tv⟩,zB,tv,zB⟩
theorem zKy:∀qq:Nat,(∀p0 r,zMo qq p0=some r->zXw p0 r Ct)∧(∀p0 v3 v5 r,wS qq p0 v3 v5=some r->(∀j,dL 0 (inn (inn (rgt (lft (rgt (rgt (rgt (rgt (rgt (bod Tryz.f105)))))))))) (sp j 61 0 [(1,.mp 0 0),(3,ai v3),(5,ai v5)]) (⟨[(0,.cells [ai p0.k,ai p0.n,slv zF p0.sub .no])],1,[],0,[]⟩) (fQ 0 (nQ 0 Tryz.f105 (ab r) [] 0) [.blk 1,.seq (rgt (rgt (rgt (rgt (rgt (rgt (bod Tryz.f105)))))))]))):=by
 intro qq
 induction qq with
 |zero=>
  exact⟨fun _ _ h=>nn h,fun _ _ _ _ h=>nn h⟩
 |succ qq ih=>
  obtain⟨zXN,vQ⟩:=ih
  refine⟨?_,?_⟩
  intro p0 r h
  rw[zMo]at h
  obtain⟨h1,h⟩|⟨h1,h⟩:=spl h
  have k:=oB 1 h1 o0
  obtain⟨h2,h⟩|⟨h2,h⟩:=spl h
  cases h
  exact uA (tF vZ 0 [] (oB 2 h2 k))
  have k:=oB 2 h2 k
  obtain⟨h3,h⟩|⟨h3,h⟩:=spl h
  cases h
  exact uA (tF vZ 0 [] (oB 1 h3 k))
  have k:=oB 1 h3 k
  obtain⟨h4,h⟩|⟨h4,h⟩:=spl h
  cases h
  exact uA (tF vZ 0 [] (oB 1 h4 k))
  have k:=oB 1 h4 k
  obtain⟨h5,h⟩|⟨h5,h⟩:=spl h
  obtain⟨x6,h7,h⟩:=zC h
  have k:=oA 1 (yN (o:=.no) h7)<|oB 1 h5 k
  obtain⟨h8,h⟩|⟨h8,h⟩:=spl h
  cases h
  exact uA (tF vZ 0 [] (oB 1 h8 k))
  exact uA (tH vZ 0 [] [0] [] [1,3,5] (oD (dT p0.sub)<|oB 1 h8 k) (vQ _ _ _ _ h))
  exact uA (tH vZ 0 [] [0] [] [1,3,5] (oD (dT p0.sub)<|oB 1 h5 k) (vQ _ _ _ _ h))
  have k:=oB 1 h1 o0
  obtain⟨h9,h⟩|⟨h9,h⟩:=spl h
  have k:=oB 0 h9 k
  obtain⟨h10,h⟩|⟨h10,h⟩:=spl h
  cases h
  exact uA (tF vZ 0 [] (oB 2 h10 k))
  have k:=oB 2 h10 k
  obtain⟨h11,h⟩|⟨h11,h⟩:=spl h
  cases h
  exact uA (tF vZ 0 [] (oB 1 h11 k))
  have k:=oB 1 h11 k
  obtain⟨h12,h⟩|⟨h12,h⟩:=spl h
  cases h
  exact uA (tF vZ 0 [] (oB 1 h12 k))
  have k:=oB 1 h12 k
  obtain⟨h13,h⟩|⟨h13,h⟩:=spl h
  obtain⟨x14,h15,h⟩:=zC h
  have k:=oA 1 (yN (o:=.no) h15)<|oB 1 h13 k
  obtain⟨h16,h⟩|⟨h16,h⟩:=spl h
  cases h
  exact uA (tF vZ 0 [] (oB 1 h16 k))
  exact uA (tH vZ 0 [] [0] [] [1,3,5] (oD (dT p0.sub)<|oB 1 h16 k) (vQ _ _ _ _ h))
  exact uA (tH vZ 0 [] [0] [] [1,3,5] (oD (dT p0.sub)<|oB 1 h13 k) (vQ _ _ _ _ h))
  have k:=oB 0 h9 k
  obtain⟨h17,h⟩|⟨h17,h⟩:=spl h
  have k:=oB 0 h17 k
  obtain⟨h18,h⟩|⟨h18,h⟩:=spl h
  cases h
  exact uA (tF vZ 0 [] (oB 2 h18 k))
  have k:=oB 2 h18 k
  obtain⟨h19,h⟩|⟨h19,h⟩:=spl h
  cases h
  exact uA (tF vZ 0 [] (oB 1 h19 k))
  have k:=oB 1 h19 k
  obtain⟨h20,h⟩|⟨h20,h⟩:=spl h
  cases h
  exact uA (tF vZ 0 [] (oB 1 h20 k))
  have k:=oB 1 h20 k
  obtain⟨h21,h⟩|⟨h21,h⟩:=spl h
  obtain⟨x22,h23,h⟩:=zC h
  have k:=oA 1 (yN (o:=.no) h23)<|oB 1 h21 k
  obtain⟨h24,h⟩|⟨h24,h⟩:=spl h
  cases h
  exact uA (tF vZ 0 [] (oB 1 h24 k))
  exact uA (tH vZ 0 [] [0] [] [1,3,5] (oD (dT p0.sub)<|oB 1 h24 k) (vQ _ _ _ _ h))
  exact uA (tH vZ 0 [] [0] [] [1,3,5] (oD (dT p0.sub)<|oB 1 h21 k) (vQ _ _ _ _ h))
  have k:=oB 0 h17 k
  obtain⟨h25,h⟩|⟨h25,h⟩:=spl h
  have k:=oB 0 h25 k
  obtain⟨h26,h⟩|⟨h26,h⟩:=spl h
  cases h
  exact uA (tF vZ 0 [] (oB 2 h26 k))
  have k:=oB 2 h26 k
  obtain⟨h27,h⟩|⟨h27,h⟩:=spl h
  cases h
  exact uA (tF vZ 0 [] (oB 1 h27 k))
  have k:=oB 1 h27 k
  obtain⟨h28,h⟩|⟨h28,h⟩:=spl h
  cases h
  exact uA (tF vZ 0 [] (oB 1 h28 k))
  have k:=oB 1 h28 k
  obtain⟨h29,h⟩|⟨h29,h⟩:=spl h
  obtain⟨x30,h31,h⟩:=zC h
  have k:=oA 1 (yN (o:=.no) h31)<|oB 1 h29 k
  obtain⟨h32,h⟩|⟨h32,h⟩:=spl h
  cases h
  exact uA (tF vZ 0 [] (oB 1 h32 k))
  exact uA (tH vZ 0 [] [0] [] [1,3,5] (oD (dT p0.sub)<|oB 1 h32 k) (vQ _ _ _ _ h))
  exact uA (tH vZ 0 [] [0] [] [1,3,5] (oD (dT p0.sub)<|oB 1 h29 k) (vQ _ _ _ _ h))
  have k:=oB 0 h25 k
  obtain⟨h33,h⟩|⟨h33,h⟩:=spl h
  have k:=oB 0 h33 k
  obtain⟨h34,h⟩|⟨h34,h⟩:=spl h
  cases h
  exact uA (tF vZ 0 [] (oB 2 h34 k))
  have k:=oB 2 h34 k
  obtain⟨h35,h⟩|⟨h35,h⟩:=spl h
  cases h
  exact uA (tF vZ 0 [] (oB 1 h35 k))
  have k:=oB 1 h35 k
  obtain⟨h36,h⟩|⟨h36,h⟩:=spl h
  cases h
  exact uA (tF vZ 0 [] (oB 1 h36 k))
  have k:=oB 1 h36 k
  obtain⟨h37,h⟩|⟨h37,h⟩:=spl h
  obtain⟨x38,h39,h⟩:=zC h
  have k:=oA 1 (yN (o:=.no) h39)<|oB 1 h37 k
  obtain⟨h40,h⟩|⟨h40,h⟩:=spl h
  cases h
  exact uA (tF vZ 0 [] (oB 1 h40 k))
  exact uA (tH vZ 0 [] [0] [] [1,3,5] (oD (dT p0.sub)<|oB 1 h40 k) (vQ _ _ _ _ h))
  exact uA (tH vZ 0 [] [0] [] [1,3,5] (oD (dT p0.sub)<|oB 1 h37 k) (vQ _ _ _ _ h))
  have k:=oB 0 h33 k
  obtain⟨h41,h⟩|⟨h41,h⟩:=spl h
  have k:=oB 0 h41 k
  obtain⟨h42,h⟩|⟨h42,h⟩:=spl h
  cases h
  exact uA (tF vZ 0 [] (oB 2 h42 k))
  have k:=oB 2 h42 k
  obtain⟨h43,h⟩|⟨h43,h⟩:=spl h
  cases h
  exact uA (tF vZ 0 [] (oB 1 h43 k))
  have k:=oB 1 h43 k
  obtain⟨h44,h⟩|⟨h44,h⟩:=spl h
  cases h
  exact uA (tF vZ 0 [] (oB 1 h44 k))
  have k:=oB 1 h44 k
  obtain⟨h45,h⟩|⟨h45,h⟩:=spl h
  obtain⟨x46,h47,h⟩:=zC h
  have k:=oA 1 (yN (o:=.no) h47)<|oB 1 h45 k
  obtain⟨h48,h⟩|⟨h48,h⟩:=spl h
  cases h
  exact uA (tF vZ 0 [] (oB 1 h48 k))
  exact uA (tH vZ 0 [] [0] [] [1,3,5] (oD (dT p0.sub)<|oB 1 h48 k) (vQ _ _ _ _ h))
  exact uA (tH vZ 0 [] [0] [] [1,3,5] (oD (dT p0.sub)<|oB 1 h45 k) (vQ _ _ _ _ h))
  have k:=oB 0 h41 k
  obtain⟨h49,h⟩|⟨h49,h⟩:=spl h
  have k:=oB 0 h49 k
  obtain⟨h50,h⟩|⟨h50,h⟩:=spl h
  cases h
  exact uA (tF vZ 0 [] (oB 2 h50 k))
  have k:=oB 2 h50 k
  obtain⟨h51,h⟩|⟨h51,h⟩:=spl h
  cases h
  exact uA (tF vZ 0 [] (oB 1 h51 k))
  have k:=oB 1 h51 k
  obtain⟨h52,h⟩|⟨h52,h⟩:=spl h
  cases h
  exact uA (tF vZ 0 [] (oB 1 h52 k))
  have k:=oB 1 h52 k
  obtain⟨h53,h⟩|⟨h53,h⟩:=spl h
  obtain⟨x54,h55,h⟩:=zC h
  have k:=oA 1 (yN (o:=.no) h55)<|oB 1 h53 k
  obtain⟨h56,h⟩|⟨h56,h⟩:=spl h
  cases h
  exact uA (tF vZ 0 [] (oB 1 h56 k))
  exact uA (tH vZ 0 [] [0] [] [1,3,5] (oD (dT p0.sub)<|oB 1 h56 k) (vQ _ _ _ _ h))
  exact uA (tH vZ 0 [] [0] [] [1,3,5] (oD (dT p0.sub)<|oB 1 h53 k) (vQ _ _ _ _ h))
  have k:=oB 0 h49 k
  obtain⟨h57,h⟩|⟨h57,h⟩:=spl h
  have k:=oB 0 h57 k
  obtain⟨h58,h⟩|⟨h58,h⟩:=spl h
  cases h
  exact uA (tF vZ 0 [] (oB 2 h58 k))
  have k:=oB 2 h58 k
  obtain⟨h59,h⟩|⟨h59,h⟩:=spl h
  cases h
  exact uA (tF vZ 0 [] (oB 1 h59 k))
  have k:=oB 1 h59 k
  obtain⟨h60,h⟩|⟨h60,h⟩:=spl h
  cases h
  exact uA (tF vZ 0 [] (oB 1 h60 k))
  obtain⟨x61,h62,h⟩:=zC h
  have k:=oA 1 (yN (o:=.no) h62)<|oB 1 h57<|oB 1 h60 k
  obtain⟨h63,h⟩|⟨h63,h⟩:=spl h
  cases h
  exact uA (tF vZ 0 [] (oB 1 h63 k))
  exact uA (tH vZ 0 [] [0] [] [1,3,5] (oD (dT p0.sub)<|oB 1 h63 k) (vQ _ _ _ _ h))
  cases h
  exact uA (tF vZ 0 [] (oB 0 h57 k))
  intro p0 v3 v5 r h
  rw[wS]at h
  obtain⟨h9,h⟩|⟨h9,h⟩:=spl h
  obtain⟨x10,h11,h⟩:=zC h
  obtain⟨r12,h13,h⟩:=zC h
  have k:=oA 1 (yN (o:=.no) h11)<|oB 0 h9 o0
  obtain⟨h14,h⟩|⟨h14,h⟩:=spl h
  exact fun j=>lH 2 [] [0] [] [1,3,5] (oD (dT p0.sub)<|oK 1 [] h14 (zXN _ _ h13) k) (vQ _ _ _ _ h)
  cases h
  exact fun j=>lF 1 [] (oK 1 [] h14 (zXN _ _ h13) k)
  cases h
  exact fun j=>lF 0 [] (oB 0 h9 o0)
theorem yDr{qq p0 r}(h:zMo qq p0=some r):zXw p0 r Ct:=(zKy _).1 _ _ h
def e70(qq:Nat)(p0:Tm)(p1:Int):Option Int:=
 if p1==1 then
 if p0.k != 5 then
 some 1
 else
 some 0
 else
 some 0
theorem q70:Qf 70 Tryz.f70:=⟨Tryz.func70,rfl⟩
theorem c70{qq p0 p1 r}(h:e70 qq p0 p1=some r):Ct 70 [] [tmA p0,ai p1] (ai r) [] 0:=⟨by
 unfold e70 at h
 obtain⟨h1,h⟩|⟨h1,h⟩:=spl h
 have k:=oB 0 h1 o0
 obtain⟨h2,h⟩|⟨h2,h⟩:=spl h
 cases h
 exact tF q70 0 [] (oB 1 h2 k)
 cases h
 exact tF q70 0 [] (oB 1 h2 k)
 cases h
 exact tF q70 0 [] (oB 0 h1 o0),⟨⟨tv,tv,⟨tv,dT _⟩,tv⟩,tv,tv⟩,zB,tv,zB⟩
mutual
def e38:Nat->Tm->Int->Option Int
 |0,_,_=>none
 |qq+1,p0,p1=>
 if p0.k==1 then
 if decide (p0.n≥p1)then
 some (w64 ((w64 (p0.n-p1))+1))
 else
 jY qq p0 p1 0 0
 else
 jY qq p0 p1 0 0
def jY:Nat->Tm->Int->Int->Int->Option Int
 |0,_,_,_,_=>none
 |qq+1,p0,p1,v5,v6=>
 if decide (v6<(p0.sub.length:Int))then
 zR p0.sub v6>>=fun x4=>
 e70 qq p0 v6>>=fun r6=>
 e38 qq x4 (w64 (p1+r6))>>=fun r8=>
 jY qq p0 p1 (lY v5 r8) (w64 (v6+1))
 else
 some v5
end
abbrev K38 (p0:Tm) (p1 r:Int) (C:Cf):Prop:=C 38 [] [tmA p0,ai p1] (ai r) [] 0
theorem q38:Qf 38 Tryz.f38:=⟨Tryz.func38,rfl⟩
theorem k38{p0 p1 r}(h:K38 p0 p1 r Ci):K38 p0 p1 r Ct:=⟨h,⟨⟨tv,tv,⟨tv,dT _⟩,tv⟩,tv,tv⟩,zB,tv,zB⟩
theorem zQq:∀qq:Nat,(∀p0 p1 r,e38 qq p0 p1=some r->K38 p0 p1 r Ct)∧(∀p0 p1 v5 v6 r,jY qq p0 p1 v5 v6=some r->(∀j,dL 0 (inn (inn (rgt (lft (rgt (rgt (rgt (bod Tryz.f38)))))))) (sp j 42 0 [(1,ai p1),(2,.mp 0 0),(5,ai v5),(6,ai v6)]) (⟨[(0,.cells [ai p0.k,ai p0.n,slv zF p0.sub .no])],1,[],0,[]⟩) (fQ 0 (nQ 0 Tryz.f38 (ai r) [] 0) [.blk 0,.seq (rgt (rgt (rgt (rgt (bod Tryz.f38)))))]))):=by
 intro qq
 induction qq with
 |zero=>
  exact⟨fun _ _ _ h=>nn h,fun _ _ _ _ _ h=>nn h⟩
 |succ qq ih=>
  obtain⟨yDq,zHl⟩:=ih
  refine⟨?_,?_⟩
  intro p0 p1 r h
  rw[e38]at h
  obtain⟨h1,h⟩|⟨h1,h⟩:=spl h
  have k:=oB 1 h1 o0
  obtain⟨h2,h⟩|⟨h2,h⟩:=spl h
  obtain rfl:=sj h
  exact k38 (tF q38 3 [] (oB 1 h2 k))
  exact k38 (tH q38 0 [] [0] [] [1,2,5,6] (oD (dT p0.sub)<|oB 1 h2 k) (zHl _ _ _ _ _ h))
  exact k38 (tH q38 0 [] [0] [] [1,2,5,6] (oD (dT p0.sub)<|oB 1 h1 o0) (zHl _ _ _ _ _ h))
  intro p0 p1 v5 v6 r h
  rw[jY]at h
  obtain⟨h3,h⟩|⟨h3,h⟩:=spl h
  obtain⟨x4,h5,h⟩:=zC h
  obtain⟨r6,h7,h⟩:=zC h
  obtain⟨r8,h9,h⟩:=zC h
  exact fun j=>lH 2 [] [0] [] [1,2,5,6] (oD (dT p0.sub)<|oC 1 [] (yDq _ _ _ h9)<|oC 2 [] (c70 h7)<|oA 0 (yN (o:=.no) h5)<|oCl 0<|oB 2 h3 o0) (zHl _ _ _ _ _ h)
  obtain rfl:=sj h
  exact fun j=>lF 0 [] (oB 2 h3 o0)
theorem c38{qq p0 p1 r}(h:e38 qq p0 p1=some r):K38 p0 p1 r Ct:=(zQq _).1 _ _ _ h
def e68(qq:Nat)(p0:Tm):Option Bool:=
 zTE qq p0>>=fun r1=>
 if decide (r1≤128)then
 zMo qq p0>>=fun r4=>
 some r4
 else
 some false
theorem q68:Qf 68 Tryz.f68:=⟨Tryz.func68,rfl⟩
theorem c68{qq p0 r}(h:e68 qq p0=some r):Ct 68 [] [tmA p0] (ab r) [] 0:=⟨by
 unfold e68 at h
 obtain⟨r1,h2,h⟩:=zC h
 have k:=oC 1 [] (yCX h2) o0
 obtain⟨h3,h⟩|⟨h3,h⟩:=spl h
 obtain⟨r4,h5,h⟩:=zC h
 obtain rfl:=sj h
 exact tF q68 0 [] (oC 1 [] (yDr h5)<|oB 0 h3 k)
 obtain rfl:=sj h
 exact tF q68 0 [] (oB 0 h3 k),⟨⟨tv,tv,⟨tv,dT _⟩,tv⟩,tv⟩,zB,tv,zB⟩
theorem tM(k n:Int)(l:List Tm):yL (.mk k n l)=(tQ (.mk k n l)&&xV l):=by rw[yL]
mutual
theorem zKx:∀(t:Tm),t.Ok->Evt (fun q=>zMo q t) (yL t)
 | .mk k n l,ho=>by
  refine Evt.succ ?_
  simp only[zMo]
  have hL:∀c:Nat,l.length=c->Evt (fun q=>wS q (.mk k n l) (c:Int) 0) (xV l):=fun c hc=>
   zFO l (.mk k n l) 0 c rfl (by simpa[Tm.sub]using hc) ho.1 ho.2
  by_cases h1:k=1
  ·subst h1
   refine Evt.ifT rfl ((zAA (p:=.mk 1 n l) (c:=0) (m:=1048576) (r:=xV l) fun hc _ _=>Evt.ifF rfl (hL 0 hc)).eq ?_)
   rw[tM];simp[tQ,Tm.k,Tm.n,Tm.sub]
   cases xV l<;>simp[Bool.and_comm,Bool.and_left_comm,Bool.and_assoc]
  refine Evt.ifF (by simpa[Tm.k]using h1) ?_
  by_cases h6:k=6
  ·subst h6
   refine Evt.ifT rfl ((zAA (p:=.mk 6 n l) (c:=0) (m:=1048576) (r:=xV l) fun hc _ _=>Evt.ifF rfl (hL 0 hc)).eq ?_)
   rw[tM];simp[tQ,Tm.k,Tm.n,Tm.sub]
   cases xV l<;>simp[Bool.and_comm,Bool.and_left_comm,Bool.and_assoc]
  refine Evt.ifF (by simpa[Tm.k]using h6) ?_
  by_cases h8:k=8
  ·subst h8
   refine Evt.ifT rfl ((zAA (p:=.mk 8 n l) (c:=0) (m:=1048576) (r:=xV l) fun hc _ _=>Evt.ifF rfl (hL 0 hc)).eq ?_)
   rw[tM];simp[tQ,Tm.k,Tm.n,Tm.sub]
   cases xV l<;>simp[Bool.and_comm,Bool.and_left_comm,Bool.and_assoc]
  refine Evt.ifF (by simpa[Tm.k]using h8) ?_
  by_cases h2:k=2
  ·subst h2
   refine Evt.ifT rfl ((zAA (p:=.mk 2 n l) (c:=0) (m:=7) (r:=xV l) fun hc _ _=>Evt.ifF rfl (hL 0 hc)).eq ?_)
   rw[tM];simp[tQ,Tm.k,Tm.n,Tm.sub]
   cases xV l<;>simp[Bool.and_comm,Bool.and_left_comm,Bool.and_assoc]
  refine Evt.ifF (by simpa[Tm.k]using h2) ?_
  by_cases h3:k=3
  ·subst h3
   refine Evt.ifT rfl ((zAA (p:=.mk 3 n l) (c:=2) (m:=0) (r:=xV l) fun hc _ _=>Evt.ifF rfl (hL 2 hc)).eq ?_)
   rw[tM];simp[tQ,Tm.k,Tm.n,Tm.sub]
   cases xV l<;>simp[Bool.and_comm,Bool.and_left_comm,Bool.and_assoc]
  refine Evt.ifF (by simpa[Tm.k]using h3) ?_
  by_cases h4:k=4
  ·subst h4
   refine Evt.ifT rfl ((zAA (p:=.mk 4 n l) (c:=2) (m:=0) (r:=xV l) fun hc _ _=>Evt.ifF rfl (hL 2 hc)).eq ?_)
   rw[tM];simp[tQ,Tm.k,Tm.n,Tm.sub]
   cases xV l<;>simp[Bool.and_comm,Bool.and_left_comm,Bool.and_assoc]
  refine Evt.ifF (by simpa[Tm.k]using h4) ?_
  by_cases h5:k=5
  ·subst h5
   refine Evt.ifT rfl ((zAA (p:=.mk 5 n l) (c:=2) (m:=0) (r:=xV l) fun hc _ _=>Evt.ifF rfl (hL 2 hc)).eq ?_)
   rw[tM];simp[tQ,Tm.k,Tm.n,Tm.sub]
   cases xV l<;>simp[Bool.and_comm,Bool.and_left_comm,Bool.and_assoc]
  refine Evt.ifF (by simpa[Tm.k]using h5) ?_
  by_cases h7:k=7
  ·subst h7
   refine Evt.ifT rfl ?_
   rcases l with _|⟨x,l⟩
   ·refine(zAA (p:=.mk 7 n []) (c:=1) (m:=1048576) (r:=false) fun hc _ _=>by simp[Tm.sub]at hc).eq ?_
    rw[tM];simp[tQ,Tm.k,Tm.n,Tm.sub]
   ·refine(zAA (p:=.mk 7 n (x::l)) (c:=1) (m:=1048576) (r:=(x.k==2)&&xV (x::l)) fun hc _ _=>Evt.pure (a:=x) rfl ?_).eq ?_
    ·by_cases hx:x.k=2
     ·refine Evt.ifF (by simp[hx]) ((hL 1 (by simpa[Tm.sub]using hc)).eq (by simp[hx]))
     ·exact Evt.ifT (by simp[hx]) (Evt.ret.eq (by simp[hx]))
    ·rw[tM];simp[tQ,Tm.k,Tm.n,Tm.sub]
     cases xV (x::l)<;>cases (x.k==2)<;>simp[Bool.and_comm,Bool.and_left_comm,Bool.and_assoc]
  refine Evt.ifF (by simpa[Tm.k]using h7) (Evt.ret.eq ?_)
  rw[tM]
  have:tQ (.mk k n l)=false:=by
   simp only[tQ,Tm.k]
   by_cases h9:1≤k∧k≤8
   ·omega
   ·by_cases h10:1≤k
    ·simp[show ¬k≤8 by omega]
    ·simp[h10]
  simp[this]
theorem zFO:∀(l:List Tm) (p:Tm) (v c:Nat),p.sub.drop v=l->p.sub.length=c->p.sub.length<9223372036854775808->OkL l->Evt (fun q=>wS q p (c:Int) (v:Int)) (xV l)
 | [],p,v,c,hd,hc,hl,ho=>by
  refine Evt.succ ?_
  simp only[wS]
  rw[xV,←hc]
  exact Evt.ifF (zZ hd) Evt.ret
 |t::l,p,v,c,hd,hc,hl,ho=>by
  refine Evt.succ ?_
  simp only[wS]
  refine Evt.ifT (by rw[←hc];exact zY hd) (Evt.pure (zV hd) ((zKx t ho.1).bind ?_))
  rw[xV]
  cases yL t with
  |false=>exact Evt.ifF rfl Evt.ret
  |true=>
   refine Evt.ifT rfl ?_
   rw[zU v (by have:=yC hd;omega)]
   exact zFO l p (v+1) c (zS hd) hc hl ho.2
end
theorem zEm(t:Tm)(ho:t.Ok):Evt (fun q=>e68 q t) (zL t):=by
 simp only[e68]
 refine(zPP t).bind ?_
 unfold zL zTG
 by_cases h1:t.nodes≤8192
 ·rw[if_pos h1]
  by_cases h2:t.high≤128
  ·exact Evt.ifT (by simp<;>omega) (((zKx t ho).bind Evt.ret).eq (by simp[h1,h2]))
  ·exact Evt.ifF (by simp<;>omega) (Evt.ret.eq (by simp[h2]))
 ·rw[if_neg h1]
  exact Evt.ifF (by simp) (Evt.ret.eq (by simp[h1]))
def zXv(k:Int)(i:Nat):Int:=if i=1∧k≠5 then 1 else 0
theorem zKw(t:Tm)(i:Nat):Evt (fun q=>e70 q t (i:Int)) (zXv t.k i):=by
 refine Evt.mk fun q=>?_
 simp only[e70,zXv]
 by_cases h1:i=1
 ·subst h1;by_cases h5:t.k=5<;>simp[h5]
 ·have:¬((i:Int)=1):=by omega
  simp[h1,this]
theorem zXu{k n:Int}{l:List Tm}(h:tQ (.mk k n l)=true){i:Nat}(hi:i<l.length):zXv k i=cJ k i:=by
 unfold cJ zXv
 by_cases h1:i=1
 ·subst h1
  have hs:=xI h
  simp only[Tm.k,Tm.n,Tm.sub]at hs
  have:k=3∨k=4∨k=5:=by
   by_cases h7:k=7
   ·obtain⟨x,hx,_⟩:=hs.2.2.2.2.2.2.1 h7
    rw[hx]at hi;simp at hi
   ·by_cases h3:k=1∨k=2∨k=6∨k=8
    ·rw[hs.2.2.2.2.2.2.2.1 h3]at hi;simp at hi
    ·omega
  rcases this with rfl|rfl|rfl<;>simp
 ·simp[h1]
mutual
theorem zBJ:∀(t:Tm) (b:Int),yL t=true->0≤b->b+t.high≤4611686018427387904->Evt (fun q=>e38 q t b) (mG t b)
 | .mk k n l,b,hg,h0,h1=>by
  refine Evt.succ ?_
  simp only[e38,Tm.k,Tm.n]
  have hh:=xH hg
  have hn:=mH hh.1
  have hl:Evt (fun q=>jY q (.mk k n l) b 0 0) (iE l k 0 b):=
   (zEl l (.mk k n l) 0 b 0 rfl hh.1 hh.2 h0 (by omega) (by rw[Tm.high]at h1;omega)).eq (by have:=zGA l k 0 b;simp only[Tm.k];omega)
  rw[Tm.high]at h1
  rw[mG]
  by_cases hk:k=1
  ·rw[if_pos hk]
   refine Evt.ifT (by simpa using hk) ?_
   by_cases hb:n≥b
   ·refine Evt.ifT (by simpa using hb) (Evt.ret.eq ?_)
    rw[yK (x:=n-b) (by omega) (by omega),yK (by omega) (by omega)];omega
   ·refine Evt.ifF (by simpa using hb) (hl.eq ?_)
    have:l=[]:=by
     have:=hh.1
     subst hk
     simp[tQ,Tm.k,Tm.n,Tm.sub]at this
     exact this.2.1
    subst this
    rw[iE];omega
  ·rw[if_neg hk]
   exact Evt.ifF (by simpa using hk) hl
theorem zEl:∀(l:List Tm) (p:Tm) (v:Nat) (b m:Int),p.sub.drop v=l->tQ p=true->xV l=true->0≤b->0≤m->b+1+vB l≤4611686018427387904->Evt (fun q=>jY q p b m (v:Int)) (max m (iE l p.k v b))
 | [],p,v,b,m,hd,hp,ho,h0,hm,h1=>by
  refine Evt.succ ?_
  simp only[jY]
  rw[iE]
  exact Evt.ifF (zZ hd) (Evt.ret.eq (by omega))
 |t::l,p,v,b,m,hd,hp,ho,h0,hm,h1=>by
  refine Evt.succ ?_
  simp only[jY]
  have hg:=xD ho
  have hu:=zMT p.k v
  have hlt:=yC hd
  obtain⟨k,n,ls⟩:=p
  have hls:=(mH hp).2.2.2.2
  simp only[Tm.sub]at hlt hd
  have he:=zXu hp hlt
  rw[vB]at h1
  refine Evt.ifT (zY hd) (Evt.pure (zV hd) ((zKw (.mk k n ls) v).bind ?_))
  simp only[Tm.k]at hu ⊢
  rw[he,yK (x:=b+cJ k v) (by omega) (by omega)]
  refine(zBJ t (b+cJ k v) hg.1 (by omega) (by omega)).bind ?_
  rw[zU v (by omega),zGa]
  refine(zEl l (.mk k n ls) (v+1) b _ (zS hd) hp hg.2 h0 (by omega) (by omega)).eq ?_
  simp only[Tm.k]
  rw[iE];omega
end
def e67(qq:Nat)(p0:Int):Option Bool:=
 if decide (p0≥0)then
 some (decide (p0≤1048576))
 else
 some false
theorem q67:Qf 67 Tryz.f67:=⟨Tryz.func67,rfl⟩
theorem c67{qq p0 r}(h:e67 qq p0=some r):Ct 67 [] [ai p0] (ab r) [] 0:=⟨by
 unfold e67 at h
 obtain⟨h1,h⟩|⟨h1,h⟩:=spl h
 cases h
 exact tF q67 1 [] (oB 0 h1 o0)
 cases h
 exact tF q67 0 [] (oB 0 h1 o0),⟨tv,tv⟩,zB,tv,zB⟩
def bL:Nat->List yZ->Int->Option Bool
 |0,_,_=>none
 |qq+1,p0,v3=>
 if decide (v3<(p0.length:Int))then
 zR p0 v3>>=fun x2=>
 e67 qq x2.n_>>=fun r4=>
 if r4 then
 e68 qq x2.type_>>=fun r7=>
 if r7 then
 bL qq p0 (w64 (v3+1))
 else
 some false
 else
 some false
 else
 some (decide ((p0.length:Int)≤256))
def e36(qq:Nat)(p0:List yZ):Option Bool:=
 bL qq p0 0
theorem zZB:∀qq:Nat,(∀p0 v3 r,bL qq p0 v3=some r->(∀j,dL 0 (inn (inn (rgt (lft (rgt (bod Tryz.f36)))))) (sp j 29 0 [(0,slv wM p0 .no),(3,ai v3)]) (⟨[],0,[],0,[]⟩) (fQ 0 (nQ 0 Tryz.f36 (ab r) [] 0) [.blk 0,.seq (rgt (rgt (bod Tryz.f36)))]))):=by
 intro qq
 induction qq with
 |zero=>
  exact fun _ _ _ h=>nn h
 |succ qq ih=>
  intro p0 v3 r h
  rw[bL]at h
  obtain⟨h1,h⟩|⟨h1,h⟩:=spl h
  obtain⟨x2,h3,h⟩:=zC h
  obtain⟨r4,h5,h⟩:=zC h
  have k:=oA 0 (zIn (o:=.no) h3)<|oB 1 h1 o0
  obtain⟨h6,h⟩|⟨h6,h⟩:=spl h
  obtain⟨r7,h8,h⟩:=zC h
  have k:=oA 1 (zIn (o:=.no) h3)<|oK 1 [] h6 (c67 h5) k
  obtain⟨h9,h⟩|⟨h9,h⟩:=spl h
  exact fun j=>lH 2 [] [] [] [0,3] (oD (wR p0)<|oK 1 [] h9 (c68 h8) k) (ih _ _ _ h)
  cases h
  exact fun j=>lF 1 [] (oK 1 [] h9 (c68 h8) k)
  cases h
  exact fun j=>lF 1 [] (oK 1 [] h6 (c67 h5) k)
  cases h
  exact fun j=>lF 2 [] (oB 1 h1 o0)
theorem c36{qq p0 r}(h:e36 qq p0=some r):Ct 36 [] [slv wM p0 .no] (ab r) [] 0:=⟨by
 unfold e36 at h
 exact tH ⟨Tryz.func36,rfl⟩ 0 [] [] [] [0,3] (oD (wR p0) o0) (zZB _ _ _ _ h),⟨⟨tv,wR _⟩,tv⟩,zB,tv,zB⟩
def bM:Nat->List yZ->Int->Int->Option Int
 |0,_,_,_=>none
 |qq+1,p0,p1,v5=>
 if decide (v5<(p0.length:Int))then
 zR p0 v5>>=fun x2=>
 if x2.n_==p1 then
 some v5
 else
 bM qq p0 p1 (w64 (v5+1))
 else
 some (-1)
def e69(qq:Nat)(p0:List yZ)(p1:Int):Option Int:=
 bM qq p0 p1 0
theorem zZC:∀qq:Nat,(∀p0 p1 v5 r,bM qq p0 p1 v5=some r->(∀j,dL 0 (inn (inn (rgt (lft (rgt (bod Tryz.f69)))))) (sp j 20 0 [(0,slv wM p0 .no),(1,ai p1),(5,ai v5)]) (⟨[],0,[],0,[]⟩) (fQ 0 (nQ 0 Tryz.f69 (ai r) [] 0) [.blk 0,.seq (rgt (rgt (bod Tryz.f69)))]))):=by
 intro qq
 induction qq with
 |zero=>
  exact fun _ _ _ _ h=>nn h
 |succ qq ih=>
  intro p0 p1 v5 r h
  rw[bM]at h
  obtain⟨h1,h⟩|⟨h1,h⟩:=spl h
  obtain⟨x2,h3,h⟩:=zC h
  have k:=oA 0 (zIn (o:=.no) h3)<|oB 1 h1 o0
  obtain⟨h4,h⟩|⟨h4,h⟩:=spl h
  obtain rfl:=sj h
  exact fun j=>lF 0 [] (oB 1 h4 k)
  exact fun j=>lH 1 [] [] [] [0,1,5] (oD (wR p0)<|oB 1 h4 k) (ih _ _ _ _ h)
  obtain rfl:=sj h
  exact fun j=>lF 0 [] (oB 1 h1 o0)
theorem c69{qq p0 p1 r}(h:e69 qq p0 p1=some r):Ct 69 [] [slv wM p0 .no,ai p1] (ai r) [] 0:=⟨by
 unfold e69 at h
 exact tH ⟨Tryz.func69,rfl⟩ 0 [] [] [] [0,1,5] (oD (wR p0) o0) (zZC _ _ _ _ _ h),⟨⟨tv,wR _⟩,tv,tv⟩,zB,tv,zB⟩
def bN:Nat->List yZ->Int->Option Bool
 |0,_,_=>none
 |qq+1,p0,v3=>
 if decide (v3<(p0.length:Int))then
 zR p0 v3>>=fun x2=>
 e69 qq p0 x2.n_>>=fun r4=>
 if r4 != v3 then
 some false
 else
 bN qq p0 (w64 (v3+1))
 else
 some true
def e37(qq:Nat)(p0:List yZ):Option Bool:=
 bN qq p0 0
theorem zZD:∀qq:Nat,(∀p0 v3 r,bN qq p0 v3=some r->(∀j,dL 0 (inn (inn (rgt (lft (rgt (bod Tryz.f37)))))) (sp j 19 0 [(0,slv wM p0 .no),(3,ai v3)]) (⟨[],0,[],0,[]⟩) (fQ 0 (nQ 0 Tryz.f37 (ab r) [] 0) [.blk 0,.seq (rgt (rgt (bod Tryz.f37)))]))):=by
 intro qq
 induction qq with
 |zero=>
  exact fun _ _ _ h=>nn h
 |succ qq ih=>
  intro p0 v3 r h
  rw[bN]at h
  obtain⟨h1,h⟩|⟨h1,h⟩:=spl h
  obtain⟨x2,h3,h⟩:=zC h
  obtain⟨r4,h5,h⟩:=zC h
  have k:=oC 1 [] (c69 h5)<|oA 0 (zIn (o:=.no) h3)<|oB 1 h1 o0
  obtain⟨h6,h⟩|⟨h6,h⟩:=spl h
  cases h
  exact fun j=>lF 0 [] (oB 0 h6 k)
  exact fun j=>lH 1 [] [] [] [0,3] (oD (wR p0)<|oB 0 h6 k) (ih _ _ _ h)
  cases h
  exact fun j=>lF 0 [] (oB 1 h1 o0)
theorem c37{qq p0 r}(h:e37 qq p0=some r):Ct 37 [] [slv wM p0 .no] (ab r) [] 0:=⟨by
 unfold e37 at h
 exact tH ⟨Tryz.func37,rfl⟩ 0 [] [] [] [0,3] (oD (wR p0) o0) (zZD _ _ _ _ h),⟨⟨tv,wR _⟩,tv⟩,zB,tv,zB⟩
mutual
def gT:Nat->List yZ->Int->Option Bool
 |0,_,_=>none
 |qq+1,p0,v3=>
 if decide (v3<(p0.length:Int))then
 zR p0 v3>>=fun x8=>
 e38 qq x8.type_ 0>>=fun r10=>
 if decide (r10>0)then
 some false
 else
 bO qq p0 v3 v3
 else
 some true
def bO:Nat->List yZ->Int->Int->Option Bool
 |0,_,_,_=>none
 |qq+1,p0,v3,v4=>
 if decide (v4<(p0.length:Int))then
 zR p0 v3>>=fun x14=>
 zR p0 v4>>=fun x16=>
 e11 qq x14.type_ x16.n_>>=fun r18=>
 if r18 then
 some false
 else
 bO qq p0 v3 (w64 (v4+1))
 else
 gT qq p0 (w64 (v3+1))
end
def e12(qq:Nat)(p0:List yZ):Option Bool:=
 e36 qq p0>>=fun r1=>
 if r1 then
 e37 qq p0>>=fun r4=>
 if r4 then
 gT qq p0 0
 else
 some false
 else
 some false
theorem q12:Qf 12 Tryz.f12:=⟨Tryz.func12,rfl⟩
theorem zHk:∀qq:Nat,(∀p0 v3 r,gT qq p0 v3=some r->(∀j,dL 0 (inn (inn (rgt (lft (rgt (rgt (bod Tryz.f12))))))) (sp j 44 0 [(0,slv wM p0 .no),(3,ai v3)]) (⟨[],0,[],0,[]⟩) (fQ 0 (nQ 0 Tryz.f12 (ab r) [] 0) [.blk 0,.seq (rgt (rgt (rgt (bod Tryz.f12))))])))∧(∀p0 v3 v4 r,bO qq p0 v3 v4=some r->(∀j,dL 0 (inn (inn (rgt (rgt (inn (lft (rgt (inn (inn (rgt (lft (rgt (rgt (bod Tryz.f12)))))))))))))) (sp j 44 0 [(0,slv wM p0 .no),(3,ai v3),(4,ai v4)]) (⟨[],0,[],0,[]⟩) (fQ 0 (nQ 0 Tryz.f12 (ab r) [] 0) [.blk 2,.blk 1,.seq (rgt (rgt (inn (inn (rgt (lft (rgt (rgt (bod Tryz.f12))))))))),.loop (inn (inn (rgt (lft (rgt (rgt (bod Tryz.f12))))))),.blk 0,.seq (rgt (rgt (rgt (bod Tryz.f12))))]))):=by
 intro qq
 induction qq with
 |zero=>
  exact⟨fun _ _ _ h=>nn h,fun _ _ _ _ h=>nn h⟩
 |succ qq ih=>
  obtain⟨zXt,zNZ⟩:=ih
  refine⟨?_,?_⟩
  intro p0 v3 r h
  rw[gT]at h
  obtain⟨h7,h⟩|⟨h7,h⟩:=spl h
  obtain⟨x8,h9,h⟩:=zC h
  obtain⟨r10,h11,h⟩:=zC h
  have k:=oC 1 [] (c38 h11)<|oA 0 (zIn (o:=.no) h9)<|oB 1 h7 o0
  obtain⟨h12,h⟩|⟨h12,h⟩:=spl h
  cases h
  exact fun j=>lF 0 [] (oB 0 h12 k)
  exact fun j=>lH 0 [] [] [] [0,3,4] (oD (wR p0)<|oB 0 h12 k) (zNZ _ _ _ _ h)
  cases h
  exact fun j=>lF 0 [] (oB 1 h7 o0)
  intro p0 v3 v4 r h
  rw[bO]at h
  obtain⟨h13,h⟩|⟨h13,h⟩:=spl h
  obtain⟨x14,h15,h⟩:=zC h
  obtain⟨x16,h17,h⟩:=zC h
  obtain⟨r18,h19,h⟩:=zC h
  have k:=oA 1 (zIn (o:=.no) h17)<|oA 0 (zIn (o:=.no) h15)<|oB 1 h13 o0
  obtain⟨h20,h⟩|⟨h20,h⟩:=spl h
  cases h
  exact fun j=>lF 0 [] (oK 1 [] h20 (c11 h19) k)
  exact fun j=>lH 1 [] [] [] [0,3,4] (oD (wR p0)<|oK 1 [] h20 (c11 h19) k) (zNZ _ _ _ _ h)
  exact fun j=>lH 1 [] [] [] [0,3] (oD (wR p0)<|oB 1 h13 o0) (zXt _ _ _ h)
theorem c12{qq p0 r}(h:e12 qq p0=some r):Ct 12 [] [slv wM p0 .no] (ab r) [] 0:=⟨by
 unfold e12 at h
 obtain⟨r1,h2,h⟩:=zC h
 obtain⟨h3,h⟩|⟨h3,h⟩:=spl h
 obtain⟨r4,h5,h⟩:=zC h
 have k:=oK 0 [] h3 (c36 h2) o0
 obtain⟨h6,h⟩|⟨h6,h⟩:=spl h
 exact tH q12 1 [] [] [] [0,3] (oD (wR p0)<|oK 1 [] h6 (c37 h5) k) (((zHk _).1) _ _ _ h)
 cases h
 exact tF q12 1 [] (oK 1 [] h6 (c37 h5) k)
 cases h
 exact tF q12 1 [] (oK 0 [] h3 (c36 h2) o0),⟨⟨tv,wR _⟩,tv⟩,zB,tv,zB⟩
def bP:Nat->List yZ->List Tm->Int->Option (List Tm)
 |0,_,_,_=>none
 |qq+1,p0,v3,v4=>
 if decide (v4<(p0.length:Int))then
 zR p0 v4>>=fun x2=>
 yP 40 v3 [x2.type_]>>=fun l4=>
 bP qq p0 l4 (w64 (v4+1))
 else
 some v3
def e31(qq:Nat)(p0:List yZ):Option (List Tm):=
 bP qq p0 [] 0
theorem zZE:∀qq:Nat,(∀p0 v3 v4 r,bP qq p0 v3 v4=some r->(∀j,dL 0 (inn (inn (rgt (lft (rgt (rgt (bod Tryz.f31))))))) (sp j 21 0 [(0,slv wM p0 .no),(3,slv zF v3 (.st 0 3)),(4,ai v4)]) (⟨[],0,[0],1,[]⟩) (fQ 0 (nQ 0 Tryz.f31 (slv zF r (.st 0 3)) [] 1) [.blk 0,.seq (rgt (rgt (rgt (bod Tryz.f31))))]))):=by
 intro qq
 induction qq with
 |zero=>
  exact fun _ _ _ _ h=>nn h
 |succ qq ih=>
  intro p0 v3 v4 r h
  rw[bP]at h
  obtain⟨h1,h⟩|⟨h1,h⟩:=spl h
  obtain⟨x2,h3,h⟩:=zC h
  obtain⟨l4,h5,h⟩:=zC h
  exact fun j=>lH 1 [] [] [1] [0,3,4] (oD (dT l4)<|oD (wR p0)<|oP 0 (wB h5 (by simp))<|oS 1 (yT xC [x2.type_])<|oA 0 (zIn (o:=.no) h3)<|oB 1 h1 o0) (ih _ _ _ _ h)
  obtain rfl:=sj h
  exact fun j=>lG 0 [] [] [0] true (oD (dT v3)<|oB 1 h1 o0)
theorem c31{qq p0 r}(h:e31 qq p0=some r):Ct 31 [] [slv wM p0 .no] (slv zF r (.st 0 3)) [] 1:=⟨by
 unfold e31 at h
 exact tH ⟨Tryz.func31,rfl⟩ 1 [(none,3,3)] [] [0] [0,3,4] (oD (dT ([]:List Tm))<|oD (wR p0) o0) (zZE _ _ _ _ _ h),⟨⟨tv,wR _⟩,tv⟩,zB,dT _,zB⟩
def zCc(qq:Nat)(p1:List zG)(p2 p3:List Tm)(q3 q4:Int):Option Unit:=
 some ()
theorem zXs{qq p1 p2 p3 q3 q4 r}(h:zCc qq p1 p2 p3 q3 q4=some r):Ct 64 [.cells [ai q3,ai q4]] [.val (.pointer none),slv zK p1 .no,slv zF p2 .no,slv zF p3 .no,.mp 0 0] (.tup [.val (.pointer none),ab false]) [.cells [ai q3,ai q4]] 0:=⟨by
 unfold zCc at h
 cases h
 exact tF ⟨Tryz.func64,rfl⟩ 1 [0] (o0),⟨tv,⟨tv,zH _⟩,⟨tv,dT _⟩,⟨tv,dT _⟩,(lz rfl),tv⟩,(zA ⟨tv,tv,tv⟩ zB),⟨tv,tv,tv⟩,(zA ⟨tv,tv,tv⟩ zB)⟩
def fS(qq:Nat)(p1:List zG)(p2 p3:List Tm)(q3 q4:Int):Option (yH×Int):=
 zCc qq p1 p2 p3 q3 q4>>=fun r1=>
 some ((yH.mk false [] [] []),5)
theorem zOz{qq p1 p2 p3 q3 q4 r}(h:fS qq p1 p2 p3 q3 q4=some r):Ct 34 [.cells [ai q3,ai q4]] [.val (.pointer none),slv zK p1 .no,slv zF p2 .no,slv zF p3 .no,.mp 0 0] (.tup [wL r.1,ai r.2]) [.cells [ai q3,ai q4]] 0:=⟨by
 unfold fS at h
 obtain⟨r1,h2,h⟩:=zC h
 cases h
 exact tF ⟨Tryz.func34,rfl⟩ 4 [0] (oD (dI ([]:List Int))<|oD (zM ([]:List zI))<|oD (zH ([]:List zG))<|oC 0 [0] (zXs h2) o0),⟨tv,⟨tv,zH _⟩,⟨tv,dT _⟩,⟨tv,dT _⟩,(lz rfl),tv⟩,(zA ⟨tv,tv,tv⟩ zB),⟨⟨tv,zH _,zM _,dI _,tv⟩,tv,tv⟩,(zA ⟨tv,tv,tv⟩ zB)⟩
def zEk:Nat->List Tm->Int->Option Bool
 |0,_,_=>none
 |qq+1,l16,v4=>
 if decide (v4<(l16.length:Int))then
 zR l16 v4>>=fun x20=>
 e15 qq x20>>=fun r22=>
 if decide (r22>150)then
 some false
 else
 zEk qq l16 (w64 (v4+1))
 else
 some true
def e7(qq:Nat)(p0:vJ):Option Bool:=
 if decide ((p0.c_.length:Int)>12)then
 some false
 else
 if decide ((p0.a_.length:Int)>8)then
 some false
 else
 if decide ((p0.b_.length:Int)>8)then
 some false
 else
 if decide (p0.fuel_<0)then
 some false
 else
 if decide (p0.fuel_>400)then
 some false
 else
 e10 qq p0.c_>>=fun r6=>
 e31 qq r6>>=fun r8=>
 yP 40 ([]:List Tm) r8>>=fun l10=>
 yP 40 l10 p0.a_>>=fun l13=>
 yP 40 l13 p0.b_>>=fun l16=>
 zEk qq l16 0
theorem q7:Qf 7 Tryz.f7:=⟨Tryz.func7,rfl⟩
theorem zBX:∀qq:Nat,(∀l16 v4 r,zEk qq l16 v4=some r->(∀j,dL 0 (inn (inn (rgt (lft (rgt (rgt (rgt (bod Tryz.f7)))))))) (sp j 55 0 [(3,slv zF l16 .full),(4,ai v4)]) (⟨[],0,[],0,[]⟩) (fQ 0 (nQ 0 Tryz.f7 (ab r) [] 0) [.blk 0,.seq (rgt (rgt (rgt (rgt (bod Tryz.f7)))))]))∧(∀j,dL 0 (inn (inn (rgt (lft (rgt (rgt (rgt (bod Tryz.f7)))))))) (sp j 55 0 [(3,slv zF l16 (.st 0 3)),(4,ai v4)]) (⟨[],0,[0],1,[]⟩) (fQ 0 (nQ 0 Tryz.f7 (ab r) [] 0) [.blk 0,.seq (rgt (rgt (rgt (rgt (bod Tryz.f7)))))]))):=by
 intro qq
 induction qq with
 |zero=>
  exact fun _ _ _ h=>nn h
 |succ qq ih=>
  intro l16 v4 r h
  rw[zEk]at h
  refine⟨?_,?_⟩
  obtain⟨h19,h⟩|⟨h19,h⟩:=spl h
  obtain⟨x20,h21,h⟩:=zC h
  obtain⟨r22,h23,h⟩:=zC h
  have k:=oC 1 [] (c15 h23)<|oA 0 (yN (o:=.full) h21)<|oB 1 h19 o0
  obtain⟨h24,h⟩|⟨h24,h⟩:=spl h
  cases h
  exact fun j=>lF 0 [] (oB 0 h24 k)
  exact fun j=>lH 1 [] [] [] [3,4] (oD (dT l16)<|oB 0 h24 k) ((ih _ _ _ h).1)
  cases h
  exact fun j=>lF 0 [] (oB 1 h19 o0)
  obtain⟨h19,h⟩|⟨h19,h⟩:=spl h
  obtain⟨x20,h21,h⟩:=zC h
  obtain⟨r22,h23,h⟩:=zC h
  have k:=oC 1 [] (c15 h23)<|oA 0 (yN (o:=(.st 0 3)) h21)<|oB 1 h19 o0
  obtain⟨h24,h⟩|⟨h24,h⟩:=spl h
  cases h
  exact fun j=>lF 0 [] (oB 0 h24 k)
  exact fun j=>lH 1 [] [] [0] [3,4] (oD (dT l16)<|oB 0 h24 k) ((ih _ _ _ h).2)
  cases h
  exact fun j=>lF 0 [] (oB 1 h19 o0)
theorem c7{qq p0 r}(h:e7 qq p0=some r):Ct 7 [] [zDx p0] (ab r) [] 0:=⟨by
 unfold e7 at h
 obtain⟨h1,h⟩|⟨h1,h⟩:=spl h
 cases h
 exact tF q7 0 [] (oB 2 h1 o0)
 have k:=oB 2 h1 o0
 obtain⟨h2,h⟩|⟨h2,h⟩:=spl h
 cases h
 exact tF q7 0 [] (oB 2 h2 k)
 have k:=oB 2 h2 k
 obtain⟨h3,h⟩|⟨h3,h⟩:=spl h
 cases h
 exact tF q7 0 [] (oB 2 h3 k)
 have k:=oB 2 h3 k
 obtain⟨h4,h⟩|⟨h4,h⟩:=spl h
 cases h
 exact tF q7 0 [] (oB 1 h4 k)
 have k:=oB 1 h4 k
 obtain⟨h5,h⟩|⟨h5,h⟩:=spl h
 cases h
 exact tF q7 0 [] (oB 1 h5 k)
 obtain⟨r6,h7,h⟩:=zC h
 obtain⟨r8,h9,h⟩:=zC h
 obtain⟨l10,h11,h⟩:=zC h
 have k:=oC 0 [] (c31 h9)<|oC 2 [] (c10 h7)<|oB 1 h5 k
 by_cases h12:List.length r8=0
 obtain⟨l13,h14,h⟩:=zC h
 have k:=oCl 0<|oP 0 (sQ h11 h12) k
 by_cases h15:List.length p0.a_=0
 obtain⟨l16,h17,h⟩:=zC h
 have k:=oCl 0<|oP 0 (sQ h14 h15) k
 by_cases h18:List.length p0.b_=0
 exact tH q7 0 [] [] [] [3,4] (oD (dT l16)<|oP 0 (sQ h17 h18) k) ((zBX _ _ _ _ h).1)
 exact tH q7 0 [] [] [1] [3,4] (oD (dT l16)<|oP 0 (wB h17 h18) k) ((zBX _ _ _ _ h).2)
 obtain⟨l16,h17,h⟩:=zC h
 have k:=oCl 0<|oP 0 (wB h14 h15) k
 by_cases h18:List.length p0.b_=0
 exact tH q7 0 [] [] [1] [3,4] (oD (dT l16)<|oP 0 (sQ h17 h18) k) ((zBX _ _ _ _ h).2)
 exact tH q7 0 [] [] [2] [3,4] (oD (dT l16)<|oP 0 (wB h17 h18) k) ((zBX _ _ _ _ h).2)
 obtain⟨l13,h14,h⟩:=zC h
 have k:=oCl 0<|oP 0 (wB h11 h12) k
 by_cases h15:List.length p0.a_=0
 obtain⟨l16,h17,h⟩:=zC h
 have k:=oCl 0<|oP 0 (sQ h14 h15) k
 by_cases h18:List.length p0.b_=0
 exact tH q7 0 [] [] [1] [3,4] (oD (dT l16)<|oP 0 (sQ h17 h18) k) ((zBX _ _ _ _ h).2)
 exact tH q7 0 [] [] [2] [3,4] (oD (dT l16)<|oP 0 (wB h17 h18) k) ((zBX _ _ _ _ h).2)
 obtain⟨l16,h17,h⟩:=zC h
 have k:=oCl 0<|oP 0 (wB h14 h15) k
 by_cases h18:List.length p0.b_=0
 exact tH q7 0 [] [] [2] [3,4] (oD (dT l16)<|oP 0 (sQ h17 h18) k) ((zBX _ _ _ _ h).2)
 exact tH q7 0 [] [] [3] [3,4] (oD (dT l16)<|oP 0 (wB h17 h18) k) ((zBX _ _ _ _ h).2),⟨⟨⟨tv,zH _⟩,⟨tv,dT _⟩,⟨tv,dT _⟩,tv,tv⟩,tv⟩,zB,tv,zB⟩
def e21(qq:Nat)(p0:Int):Option Tm:=
 some (Tm.mk 8 p0 [])
theorem c21{qq p0 r}(h:e21 qq p0=some r):Ct 21 [] [ai p0] (tmA r) [] 0:=⟨by
 unfold e21 at h
 cases h
 exact tF ⟨Tryz.func21,rfl⟩ 1 [] (oD (dT ([]:List Tm)) o0),⟨tv,tv⟩,zB,⟨tv,tv,dT _,tv⟩,zB⟩
def e63(qq:Nat)(p0 p1:Int):Option Tm:=
 some (Tm.mk p0 p1 [])
theorem c63{qq p0 p1 r}(h:e63 qq p0 p1=some r):Ct 63 [] [ai p0,ai p1] (tmA r) [] 0:=⟨by
 unfold e63 at h
 cases h
 exact tF ⟨Tryz.func63,rfl⟩ 1 [] (oD (dT ([]:List Tm)) o0),⟨tv,tv,tv⟩,zB,⟨tv,tv,dT _,tv⟩,zB⟩
def e33(qq:Nat)(p0:Int):Option Tm:=
 e63 qq 6 p0>>=fun r1=>
 some r1
theorem c33{qq p0 r}(h:e33 qq p0=some r):Ct 33 [] [ai p0] (tmA r) [] 0:=⟨by
 unfold e33 at h
 obtain⟨r1,h2,h⟩:=zC h
 obtain rfl:=sj h
 exact tF ⟨Tryz.func33,rfl⟩ 1 [] (oD (dT r1.sub)<|oC 0 [] (c63 h2) o0),⟨tv,tv⟩,zB,⟨tv,tv,dT _,tv⟩,zB⟩
def e71(qq:Nat)(p0:Int)(p1 p2:Tm):Option Tm:=
 some (Tm.mk p0 0 [p1,p2])
theorem c71{qq p0 p1 p2 r}(h:e71 qq p0 p1 p2=some r):Ct 71 [] [ai p0,tmA p1,tmA p2] (tmA r) [] 0:=⟨by
 unfold e71 at h
 cases h
 exact tF ⟨Tryz.func71,rfl⟩ 1 [] (oD (dT [p1,p2])<|oS 2 (yT xC [p1,p2]) o0),⟨tv,⟨tv,tv,⟨tv,dT _⟩,tv⟩,⟨tv,tv,⟨tv,dT _⟩,tv⟩,tv⟩,zB,⟨tv,tv,dT _,tv⟩,zB⟩
def zHj:Nat->List Tm->Int->Int->Int->List Tm->Option Tm
 |0,_,_,_,_,_=>none
 |qq+1,p1,v5,zX,xK,xB=>
 if decide (v5<(p1.length:Int))then
 zR p1 v5>>=fun x2=>
 e71 qq 5 (Tm.mk zX xK xB) x2>>=fun r4=>
 zHj qq p1 (w64 (v5+1)) r4.k r4.n r4.sub
 else
 some (Tm.mk zX xK xB)
def e66(qq:Nat)(p0:Tm)(p1:List Tm):Option Tm:=
 zHj qq p1 0 p0.k p0.n p0.sub
theorem zZF:∀qq:Nat,(∀p1 v5 zX xK xB r,zHj qq p1 v5 zX xK xB=some r->(∀j,dL 0 (inn (inn (rgt (lft (rgt (bod Tryz.f66)))))) (sp j 19 0 [(1,slv zF p1 .no),(2,.mp 0 0),(4,.mp 1 0),(5,ai v5)]) (⟨[(0,.cells [ai zX,ai xK,slv zF xB .no]),(1,.cells [ai 0,ai 0,slv zF ([]:List Tm) .nl])],2,[],0,[]⟩) (fQ 0 (nQ 0 Tryz.f66 (tmA r) [] 0) [.blk 0,.seq (rgt (rgt (bod Tryz.f66)))]))):=by
 intro qq
 induction qq with
 |zero=>
  exact fun _ _ _ _ _ _ h=>nn h
 |succ qq ih=>
  intro p1 v5 zX xK xB r h
  rw[zHj]at h
  obtain⟨h1,h⟩|⟨h1,h⟩:=spl h
  obtain⟨x2,h3,h⟩:=zC h
  obtain⟨r4,h5,h⟩:=zC h
  exact fun j=>lH 2 [] [0,1] [] [1,2,4,5] (oD (dT p1)<|oD (dT ([]:List Tm))<|oD (dT r4.sub)<|oC 1 [] (c71 h5)<|oA 1 (yN (o:=.no) h3)<|oB 1 h1 o0) (ih _ _ _ _ _ _ h)
  cases h
  exact fun j=>lF 2 [] (oD (dT xB)<|oB 1 h1 o0)
theorem c66{qq p0 p1 r}(h:e66 qq p0 p1=some r):Ct 66 [] [tmA p0,slv zF p1 .no] (tmA r) [] 0:=⟨by
 unfold e66 at h
 exact tH ⟨Tryz.func66,rfl⟩ 0 [] [0,1] [] [1,2,4,5] (oD (dT p1)<|oD (dT ([]:List Tm))<|oD (dT p0.sub) o0) (zZF _ _ _ _ _ _ _ h),⟨⟨tv,tv,⟨tv,dT _⟩,tv⟩,⟨tv,dT _⟩,tv⟩,zB,⟨tv,tv,dT _,tv⟩,zB⟩
def e35(qq:Nat)(p0:Tm)(p1:List Tm):Option Tm:=
 e66 qq p0 p1>>=fun r1=>
 some r1
theorem c35{qq p0 p1 r}(h:e35 qq p0 p1=some r):Ct 35 [] [tmA p0,slv zF p1 .no] (tmA r) [] 0:=⟨by
 unfold e35 at h
 obtain⟨r1,h2,h⟩:=zC h
 obtain rfl:=sj h
 exact tF ⟨Tryz.func35,rfl⟩ 1 [] (oD (dT r1.sub)<|oC 1 [] (c66 h2) o0),⟨⟨tv,tv,⟨tv,dT _⟩,tv⟩,⟨tv,dT _⟩,tv⟩,zB,⟨tv,tv,dT _,tv⟩,zB⟩
def e39(qq:Nat)(p0:ByteArray)(p1:Tm)(p2 p3:Int)(p4:List Int):Option Ent:=
 some (Ent.mk 1 p0 p1 (Tm.mk 0 0 []) 0 0 p2 p3 0 p4 [])
theorem c39{qq p0 p1 p2 p3 p4 r}(h:e39 qq p0 p1 p2 p3 p4=some r):Ct 39 [] [at' p0,tmA p1,ai p2,ai p3,slv zW p4 .no] (zYz r) [] 0:=⟨by
 unfold e39 at h
 cases h
 exact tF ⟨Tryz.func39,rfl⟩ 2 [] (oD (dI ([]:List Int))<|oD (dI p4)<|oD (dT ([]:List Tm))<|oD (dT p1.sub) o0),⟨tv,⟨tv,tv,⟨tv,dT _⟩,tv⟩,tv,tv,⟨tv,dI _⟩,tv⟩,zB,⟨tv,tv,tv,tv,dT _,tv,tv,dT _,tv,tv,tv,tv,tv,dI _,dI _,tv⟩,zB⟩
def e40(qq:Nat)(p0 p1:Tm):Option Tm:=
 e71 qq 3 p0 p1>>=fun r1=>
 some r1
theorem c40{qq p0 p1 r}(h:e40 qq p0 p1=some r):Ct 40 [] [tmA p0,tmA p1] (tmA r) [] 0:=⟨by
 unfold e40 at h
 obtain⟨r1,h2,h⟩:=zC h
 obtain rfl:=sj h
 exact tF ⟨Tryz.func40,rfl⟩ 1 [] (oD (dT r1.sub)<|oC 2 [] (c71 h2) o0),⟨⟨tv,tv,⟨tv,dT _⟩,tv⟩,⟨tv,tv,⟨tv,dT _⟩,tv⟩,tv⟩,zB,⟨tv,tv,dT _,tv⟩,zB⟩
def e41(qq:Nat)(p0:Int):Option Tm:=
 e63 qq 2 p0>>=fun r1=>
 some r1
theorem c41{qq p0 r}(h:e41 qq p0=some r):Ct 41 [] [ai p0] (tmA r) [] 0:=⟨by
 unfold e41 at h
 obtain⟨r1,h2,h⟩:=zC h
 obtain rfl:=sj h
 exact tF ⟨Tryz.func41,rfl⟩ 1 [] (oD (dT r1.sub)<|oC 0 [] (c63 h2) o0),⟨tv,tv⟩,zB,⟨tv,tv,dT _,tv⟩,zB⟩
def e42(qq:Nat)(p0:Int):Option Tm:=
 e63 qq 1 p0>>=fun r1=>
 some r1
theorem c42{qq p0 r}(h:e42 qq p0=some r):Ct 42 [] [ai p0] (tmA r) [] 0:=⟨by
 unfold e42 at h
 obtain⟨r1,h2,h⟩:=zC h
 obtain rfl:=sj h
 exact tF ⟨Tryz.func42,rfl⟩ 1 [] (oD (dT r1.sub)<|oC 0 [] (c63 h2) o0),⟨tv,tv⟩,zB,⟨tv,tv,dT _,tv⟩,zB⟩
def e43(qq:Nat)(p0 p1:Tm):Option Tm:=
 e71 qq 4 p0 p1>>=fun r1=>
 some r1
theorem c43{qq p0 p1 r}(h:e43 qq p0 p1=some r):Ct 43 [] [tmA p0,tmA p1] (tmA r) [] 0:=⟨by
 unfold e43 at h
 obtain⟨r1,h2,h⟩:=zC h
 obtain rfl:=sj h
 exact tF ⟨Tryz.func43,rfl⟩ 1 [] (oD (dT r1.sub)<|oC 2 [] (c71 h2) o0),⟨⟨tv,tv,⟨tv,dT _⟩,tv⟩,⟨tv,tv,⟨tv,dT _⟩,tv⟩,tv⟩,zB,⟨tv,tv,dT _,tv⟩,zB⟩
def e72(qq:Nat)(p0 p1:Int)(p2:List Tm):Option Tm:=
 some (Tm.mk p0 p1 p2)
theorem c72{qq p0 p1 p2 r}(h:e72 qq p0 p1 p2=some r):Ct 72 [] [ai p0,ai p1,slv zF p2 .no] (tmA r) [] 0:=⟨by
 unfold e72 at h
 cases h
 exact tF ⟨Tryz.func72,rfl⟩ 1 [] (oD (dT p2) o0),⟨tv,tv,⟨tv,dT _⟩,tv⟩,zB,⟨tv,tv,dT _,tv⟩,zB⟩
def e44(qq:Nat)(p0 p1:Int):Option Tm:=
 e41 qq p1>>=fun r1=>
 e72 qq 7 p0 [r1]>>=fun r3=>
 some r3
theorem c44{qq p0 p1 r}(h:e44 qq p0 p1=some r):Ct 44 [] [ai p0,ai p1] (tmA r) [] 0:=⟨by
 unfold e44 at h
 obtain⟨r1,h2,h⟩:=zC h
 obtain⟨r3,h4,h⟩:=zC h
 obtain rfl:=sj h
 exact tF ⟨Tryz.func44,rfl⟩ 1 [] (oD (dT r3.sub)<|oC 0 [] (c72 h4)<|oS 0 (yT xC [r1])<|oC 0 [] (c41 h2) o0),⟨tv,tv,tv⟩,zB,⟨tv,tv,dT _,tv⟩,zB⟩
def e45(qq:Nat)(p0:ByteArray)(p1:Tm)(p2 p3 p4:Int):Option Ent:=
 some (Ent.mk 2 p0 p1 (Tm.mk 0 0 []) p2 p3 p4 0 0 [] [])
theorem c45{qq p0 p1 p2 p3 p4 r}(h:e45 qq p0 p1 p2 p3 p4=some r):Ct 45 [] [at' p0,tmA p1,ai p2,ai p3,ai p4] (zYz r) [] 0:=⟨by
 unfold e45 at h
 cases h
 exact tF ⟨Tryz.func45,rfl⟩ 2 [] (oD (dI ([]:List Int))<|oD (dI ([]:List Int))<|oD (dT ([]:List Tm))<|oD (dT p1.sub) o0),⟨tv,⟨tv,tv,⟨tv,dT _⟩,tv⟩,tv,tv,tv,tv⟩,zB,⟨tv,tv,tv,tv,dT _,tv,tv,dT _,tv,tv,tv,tv,tv,dI _,dI _,tv⟩,zB⟩
def e46(qq:Nat)(p0:ByteArray)(p1:Tm)(p2:Int):Option Ent:=
 some (Ent.mk 4 p0 p1 (Tm.mk 0 0 []) 14 p2 2 0 0 [] [])
theorem c46{qq p0 p1 p2 r}(h:e46 qq p0 p1 p2=some r):Ct 46 [] [at' p0,tmA p1,ai p2] (zYz r) [] 0:=⟨by
 unfold e46 at h
 cases h
 exact tF ⟨Tryz.func46,rfl⟩ 2 [] (oD (dI ([]:List Int))<|oD (dI ([]:List Int))<|oD (dT ([]:List Tm))<|oD (dT p1.sub) o0),⟨tv,⟨tv,tv,⟨tv,dT _⟩,tv⟩,tv,tv⟩,zB,⟨tv,tv,tv,tv,dT _,tv,tv,dT _,tv,tv,tv,tv,tv,dI _,dI _,tv⟩,zB⟩
def e13(qq:Nat)  : Option (List Ent):=
 e33 qq 0>>=fun r1=>
 e41 qq 0>>=fun r3=>
 e40 qq r3 r3>>=fun r5=>
 e40 qq r3 r5>>=fun r7=>
 e39 qq (⟨#[80,97,105,114]⟩:ByteArray) r7 2 0 [15]>>=fun r9=>
 e33 qq 14>>=fun r11=>
 e42 qq 1>>=fun r13=>
 e42 qq 0>>=fun r15=>
 e35 qq r11 [r13,r15]>>=fun r17=>
 e44 qq 0 0>>=fun r19=>
 e43 qq r1 r1>>=fun r21=>
 e33 qq 2>>=fun r23=>
 e35 qq r23 [r15]>>=fun r25=>
 e43 qq r1 r25>>=fun r27=>
 e43 qq r1 r27>>=fun r29=>
 e35 qq r19 [r21,r15,r29,r13]>>=fun r31=>
 e43 qq r1 r31>>=fun r33=>
 e43 qq r1 r33>>=fun r35=>
 e39 qq (⟨#[78,97,116]⟩:ByteArray) r3 0 0 [1,2]>>=fun r37=>
 e45 qq (⟨#[122,101,114,111]⟩:ByteArray) r1 0 0 0>>=fun r39=>
 e40 qq r1 r1>>=fun r41=>
 e45 qq (⟨#[115,117,99]⟩:ByteArray) r41 0 1 0>>=fun r43=>
 e39 qq (⟨#[66,111,111,108]⟩:ByteArray) r3 0 0 [4,5]>>=fun r45=>
 e33 qq 3>>=fun r47=>
 e45 qq (⟨#[116,114,117,101]⟩:ByteArray) r47 3 0 0>>=fun r49=>
 e45 qq (⟨#[102,97,108,115,101]⟩:ByteArray) r47 3 1 0>>=fun r51=>
 e39 qq (⟨#[76,105,115,116]⟩:ByteArray) r5 1 0 [7,8]>>=fun r53=>
 e33 qq 6>>=fun r55=>
 e35 qq r55 [r15]>>=fun r57=>
 e40 qq r3 r57>>=fun r59=>
 e45 qq (⟨#[110,105,108]⟩:ByteArray) r59 6 0 1>>=fun r61=>
 e35 qq r55 [r13]>>=fun r63=>
 e42 qq 2>>=fun r65=>
 e35 qq r55 [r65]>>=fun r67=>
 e40 qq r63 r67>>=fun r69=>
 e40 qq r15 r69>>=fun r71=>
 e40 qq r3 r71>>=fun r73=>
 e45 qq (⟨#[99,111,110,115]⟩:ByteArray) r73 6 1 1>>=fun r75=>
 e40 qq r1 r3>>=fun r77=>
 e40 qq r3 r77>>=fun r79=>
 e39 qq (⟨#[86,101,99]⟩:ByteArray) r79 1 1 [10,11]>>=fun r81=>
 e33 qq 9>>=fun r83=>
 e33 qq 1>>=fun r85=>
 e35 qq r83 [r15,r85]>>=fun r87=>
 e40 qq r3 r87>>=fun r89=>
 e45 qq (⟨#[118,110,105,108]⟩:ByteArray) r89 9 0 1>>=fun r91=>
 e35 qq r83 [r65,r13]>>=fun r93=>
 e42 qq 3>>=fun r95=>
 e35 qq r23 [r65]>>=fun r97=>
 e35 qq r83 [r95,r97]>>=fun r99=>
 e40 qq r93 r99>>=fun r101=>
 e40 qq r13 r101>>=fun r103=>
 e40 qq r1 r103>>=fun r105=>
 e40 qq r3 r105>>=fun r107=>
 e45 qq (⟨#[118,99,111,110,115]⟩:ByteArray) r107 9 1 1>>=fun r109=>
 e40 qq r13 r3>>=fun r111=>
 e40 qq r15 r111>>=fun r113=>
 e40 qq r3 r113>>=fun r115=>
 e39 qq (⟨#[69,113]⟩:ByteArray) r115 2 1 [13]>>=fun r117=>
 e33 qq 12>>=fun r119=>
 e35 qq r119 [r13,r15,r15]>>=fun r121=>
 e40 qq r15 r121>>=fun r123=>
 e40 qq r3 r123>>=fun r125=>
 e45 qq (⟨#[114,101,102,108]⟩:ByteArray) r125 12 0 2>>=fun r127=>
 e35 qq r11 [r95,r65]>>=fun r129=>
 e40 qq r13 r129>>=fun r131=>
 e40 qq r13 r131>>=fun r133=>
 e40 qq r3 r133>>=fun r135=>
 e40 qq r3 r135>>=fun r137=>
 e45 qq (⟨#[112,97,105,114]⟩:ByteArray) r137 14 0 2>>=fun r139=>
 e40 qq r17 r65>>=fun r141=>
 e40 qq r3 r141>>=fun r143=>
 e40 qq r3 r143>>=fun r145=>
 e46 qq (⟨#[102,115,116]⟩:ByteArray) r145 0>>=fun r147=>
 e40 qq r17 r13>>=fun r149=>
 e40 qq r3 r149>>=fun r151=>
 e40 qq r3 r151>>=fun r153=>
 e46 qq (⟨#[115,110,100]⟩:ByteArray) r153 1>>=fun r155=>
 e39 qq (⟨#[84,114,101,101]⟩:ByteArray) r3 0 0 [19,20]>>=fun r157=>
 e33 qq 18>>=fun r159=>
 e45 qq (⟨#[108,101,97,102]⟩:ByteArray) r159 18 0 0>>=fun r161=>
 e40 qq r1 r159>>=fun r163=>
 e40 qq r163 r159>>=fun r165=>
 e45 qq (⟨#[110,111,100,101]⟩:ByteArray) r165 18 1 0>>=fun r167=>
 e40 qq r1 r41>>=fun r169=>
 e40 qq r15 r13>>=fun r171=>
 e40 qq r3 r171>>=fun r173=>
 e43 qq r15 r15>>=fun r175=>
 e43 qq r3 r175>>=fun r177=>
 some [r37,r39,r43,r45,r49,r51,r53,r61,r75,r81,r91,r109,r117,r127,(Ent.mk r9.kind r9.name r9.type r9.body r9.fam r9.place r9.pars r9.inds r9.level r9.cons [16,17]),r139,r147,r155,r157,r161,r167,(Ent.mk 3 (⟨#[112,108,117,115]⟩:ByteArray) r169 r35 0 0 0 0 0 [] []),(Ent.mk 3 (⟨#[105,100]⟩:ByteArray) r173 r177 0 0 0 0 0 [] [])]
theorem c13{qq r}(h:e13 qq  = some r):Ct 13 [] [] (.sl (zJ yQ r) r.length .no) [] 0:=⟨by
 unfold e13 at h
 obtain⟨r1,h2,h⟩:=zC h
 obtain⟨r3,h4,h⟩:=zC h
 obtain⟨r5,h6,h⟩:=zC h
 obtain⟨r7,h8,h⟩:=zC h
 obtain⟨r9,h10,h⟩:=zC h
 obtain⟨r11,h12,h⟩:=zC h
 obtain⟨r13,h14,h⟩:=zC h
 obtain⟨r15,h16,h⟩:=zC h
 obtain⟨r17,h18,h⟩:=zC h
 obtain⟨r19,h20,h⟩:=zC h
 obtain⟨r21,h22,h⟩:=zC h
 obtain⟨r23,h24,h⟩:=zC h
 obtain⟨r25,h26,h⟩:=zC h
 obtain⟨r27,h28,h⟩:=zC h
 obtain⟨r29,h30,h⟩:=zC h
 obtain⟨r31,h32,h⟩:=zC h
 obtain⟨r33,h34,h⟩:=zC h
 obtain⟨r35,h36,h⟩:=zC h
 obtain⟨r37,h38,h⟩:=zC h
 obtain⟨r39,h40,h⟩:=zC h
 obtain⟨r41,h42,h⟩:=zC h
 obtain⟨r43,h44,h⟩:=zC h
 obtain⟨r45,h46,h⟩:=zC h
 obtain⟨r47,h48,h⟩:=zC h
 obtain⟨r49,h50,h⟩:=zC h
 obtain⟨r51,h52,h⟩:=zC h
 obtain⟨r53,h54,h⟩:=zC h
 obtain⟨r55,h56,h⟩:=zC h
 obtain⟨r57,h58,h⟩:=zC h
 obtain⟨r59,h60,h⟩:=zC h
 obtain⟨r61,h62,h⟩:=zC h
 obtain⟨r63,h64,h⟩:=zC h
 obtain⟨r65,h66,h⟩:=zC h
 obtain⟨r67,h68,h⟩:=zC h
 obtain⟨r69,h70,h⟩:=zC h
 obtain⟨r71,h72,h⟩:=zC h
 obtain⟨r73,h74,h⟩:=zC h
 obtain⟨r75,h76,h⟩:=zC h
 obtain⟨r77,h78,h⟩:=zC h
 obtain⟨r79,h80,h⟩:=zC h
 obtain⟨r81,h82,h⟩:=zC h
 obtain⟨r83,h84,h⟩:=zC h
 obtain⟨r85,h86,h⟩:=zC h
 obtain⟨r87,h88,h⟩:=zC h
 obtain⟨r89,h90,h⟩:=zC h
 obtain⟨r91,h92,h⟩:=zC h
 obtain⟨r93,h94,h⟩:=zC h
 obtain⟨r95,h96,h⟩:=zC h
 obtain⟨r97,h98,h⟩:=zC h
 obtain⟨r99,h100,h⟩:=zC h
 obtain⟨r101,h102,h⟩:=zC h
 obtain⟨r103,h104,h⟩:=zC h
 obtain⟨r105,h106,h⟩:=zC h
 obtain⟨r107,h108,h⟩:=zC h
 obtain⟨r109,h110,h⟩:=zC h
 obtain⟨r111,h112,h⟩:=zC h
 obtain⟨r113,h114,h⟩:=zC h
 obtain⟨r115,h116,h⟩:=zC h
 obtain⟨r117,h118,h⟩:=zC h
 obtain⟨r119,h120,h⟩:=zC h
 obtain⟨r121,h122,h⟩:=zC h
 obtain⟨r123,h124,h⟩:=zC h
 obtain⟨r125,h126,h⟩:=zC h
 obtain⟨r127,h128,h⟩:=zC h
 obtain⟨r129,h130,h⟩:=zC h
 obtain⟨r131,h132,h⟩:=zC h
 obtain⟨r133,h134,h⟩:=zC h
 obtain⟨r135,h136,h⟩:=zC h
 obtain⟨r137,h138,h⟩:=zC h
 obtain⟨r139,h140,h⟩:=zC h
 obtain⟨r141,h142,h⟩:=zC h
 obtain⟨r143,h144,h⟩:=zC h
 obtain⟨r145,h146,h⟩:=zC h
 obtain⟨r147,h148,h⟩:=zC h
 obtain⟨r149,h150,h⟩:=zC h
 obtain⟨r151,h152,h⟩:=zC h
 obtain⟨r153,h154,h⟩:=zC h
 obtain⟨r155,h156,h⟩:=zC h
 obtain⟨r157,h158,h⟩:=zC h
 obtain⟨r159,h160,h⟩:=zC h
 obtain⟨r161,h162,h⟩:=zC h
 obtain⟨r163,h164,h⟩:=zC h
 obtain⟨r165,h166,h⟩:=zC h
 obtain⟨r167,h168,h⟩:=zC h
 obtain⟨r169,h170,h⟩:=zC h
 obtain⟨r171,h172,h⟩:=zC h
 obtain⟨r173,h174,h⟩:=zC h
 obtain⟨r175,h176,h⟩:=zC h
 obtain⟨r177,h178,h⟩:=zC h
 cases h
 exact tF ⟨Tryz.func13,rfl⟩ 1 [] (oD (dE [r37,r39,r43,r45,r49,r51,r53,r61,r75,r81,r91,r109,r117,r127,(Ent.mk r9.kind r9.name r9.type r9.body r9.fam r9.place r9.pars r9.inds r9.level r9.cons [16,17]),r139,r147,r155,r157,r161,r167,(Ent.mk 3 (⟨#[112,108,117,115]⟩:ByteArray) r169 r35 0 0 0 0 0 [] []),(Ent.mk 3 (⟨#[105,100]⟩:ByteArray) r173 r177 0 0 0 0 0 [] [])])<|oC 0 [] (c43 h178)<|oC 0 [] (c43 h176)<|oC 0 [] (c42 h16)<|oC 0 [] (c42 h16)<|oC 0 [] (c41 h4)<|oC 0 [] (c40 h174)<|oC 0 [] (c40 h172)<|oC 0 [] (c42 h14)<|oC 0 [] (c42 h16)<|oC 1 [] (c41 h4)<|oC 0 [] (c40 h170)<|oC 3 [] (c40 h42)<|oC 0 [] (c45 h168)<|oC 0 [] (c40 h166)<|oC 0 [] (c33 h160)<|oC 0 [] (c40 h164)<|oC 1 [] (c33 h160)<|oC 0 [] (c45 h162)<|oC 0 [] (c33 h160)<|oC 1 [] (c39 h158)<|oC 0 [] (c41 h4)<|oC 0 [] (c46 h156)<|oC 0 [] (c40 h154)<|oC 0 [] (c40 h152)<|oC 0 [] (c40 h150)<|oC 1 [] (c42 h14)<|oC 0 [] (c41 h4)<|oC 0 [] (c41 h4)<|oC 0 [] (c46 h148)<|oC 0 [] (c40 h146)<|oC 0 [] (c40 h144)<|oC 0 [] (c40 h142)<|oC 1 [] (c42 h66)<|oC 0 [] (c41 h4)<|oC 0 [] (c41 h4)<|oC 0 [] (c45 h140)<|oC 0 [] (c40 h138)<|oC 0 [] (c40 h136)<|oC 0 [] (c40 h134)<|oC 0 [] (c40 h132)<|oC 0 [] (c35 h130)<|oS 0 (yT xC [r95,r65])<|oC 0 [] (c42 h66)<|oC 0 [] (c42 h96)<|oC 0 [] (c33 h12)<|oC 0 [] (c42 h14)<|oC 0 [] (c42 h14)<|oC 0 [] (c41 h4)<|oC 1 [] (c41 h4)<|oC 0 [] (c45 h128)<|oC 0 [] (c40 h126)<|oC 0 [] (c40 h124)<|oC 0 [] (c35 h122)<|oS 0 (yT xC [r13,r15,r15])<|oC 0 [] (c42 h16)<|oC 0 [] (c42 h16)<|oC 0 [] (c42 h14)<|oC 0 [] (c33 h120)<|oC 0 [] (c42 h16)<|oC 0 [] (c41 h4)<|oC 1 [] (c39 h118)<|oC 0 [] (c40 h116)<|oC 0 [] (c40 h114)<|oC 0 [] (c40 h112)<|oC 0 [] (c41 h4)<|oC 0 [] (c42 h14)<|oC 0 [] (c42 h16)<|oC 0 [] (c41 h4)<|oC 0 [] (c45 h110)<|oC 0 [] (c40 h108)<|oC 0 [] (c40 h106)<|oC 0 [] (c40 h104)<|oC 0 [] (c40 h102)<|oC 0 [] (c35 h100)<|oS 0 (yT xC [r95,r97])<|oC 0 [] (c35 h98)<|oS 0 (yT xC [r65])<|oC 0 [] (c42 h66)<|oC 0 [] (c33 h24)<|oC 0 [] (c42 h96)<|oC 0 [] (c33 h84)<|oC 0 [] (c35 h94)<|oS 0 (yT xC [r65,r13])<|oC 0 [] (c42 h14)<|oC 0 [] (c42 h66)<|oC 0 [] (c33 h84)<|oC 1 [] (c42 h14)<|oC 0 [] (c41 h4)<|oC 0 [] (c45 h92)<|oC 0 [] (c40 h90)<|oC 0 [] (c35 h88)<|oS 0 (yT xC [r15,r85])<|oC 0 [] (c33 h86)<|oC 0 [] (c42 h16)<|oC 0 [] (c33 h84)<|oC 0 [] (c41 h4)<|oC 1 [] (c39 h82)<|oC 0 [] (c40 h80)<|oC 0 [] (c40 h78)<|oC 1 [] (c41 h4)<|oC 0 [] (c41 h4)<|oC 0 [] (c45 h76)<|oC 0 [] (c40 h74)<|oC 0 [] (c40 h72)<|oC 0 [] (c40 h70)<|oC 0 [] (c35 h68)<|oS 0 (yT xC [r65])<|oC 0 [] (c42 h66)<|oC 0 [] (c33 h56)<|oC 0 [] (c35 h64)<|oS 0 (yT xC [r13])<|oC 0 [] (c42 h14)<|oC 0 [] (c33 h56)<|oC 0 [] (c42 h16)<|oC 0 [] (c41 h4)<|oC 0 [] (c45 h62)<|oC 0 [] (c40 h60)<|oC 0 [] (c35 h58)<|oS 0 (yT xC [r15])<|oC 0 [] (c42 h16)<|oC 0 [] (c33 h56)<|oC 0 [] (c41 h4)<|oC 1 [] (c39 h54)<|oC 0 [] (c40 h6)<|oC 0 [] (c41 h4)<|oC 0 [] (c41 h4)<|oC 0 [] (c45 h52)<|oC 0 [] (c33 h48)<|oC 0 [] (c45 h50)<|oC 0 [] (c33 h48)<|oC 1 [] (c39 h46)<|oC 0 [] (c41 h4)<|oC 0 [] (c45 h44)<|oC 2 [] (c40 h42)<|oC 1 [] (c45 h40)<|oC 1 [] (c39 h38)<|oC 1 [] (c41 h4)<|oC 0 [] (c43 h36)<|oC 0 [] (c43 h34)<|oC 0 [] (c35 h32)<|oS 0 (yT xC [r21,r15,r29,r13])<|oC 0 [] (c42 h14)<|oC 0 [] (c43 h30)<|oC 0 [] (c43 h28)<|oC 0 [] (c35 h26)<|oS 0 (yT xC [r15])<|oC 0 [] (c42 h16)<|oC 2 [] (c33 h24)<|oC 0 [] (c42 h16)<|oC 2 [] (c43 h22)<|oC 3 [] (c44 h20)<|oC 0 [] (c35 h18)<|oS 0 (yT xC [r13,r15])<|oC 0 [] (c42 h16)<|oC 0 [] (c42 h14)<|oC 3 [] (c33 h12)<|oC 1 [] (c39 h10)<|oC 0 [] (c40 h8)<|oC 0 [] (c40 h6)<|oC 0 [] (c41 h4)<|oC 0 [] (c41 h4)<|oC 1 [] (c41 h4)<|oC 0 [] (c33 h2) o0),tv,zB,dE _,zB⟩
def e32(qq:Nat)(p0:Int):Option ((List Ent×List Int×List Int×Int×Int×List Ent×List yS) ⊕ ((List Ent×List Int×List Int×List Ent×List yS) ⊕ ((Int×Int) ⊕ (Unit)))):=
 e13 qq>>=fun r1=>
 e27 qq r1>>=fun r3=>
 match r3 with
 | .inl y10=>
  e28 qq p0>>=fun r11=>
  match r11 with
  | .inl y14=>
   some (.inr (.inr (.inr ())))
  | .inr y13=>
   some (.inr (.inr (.inl (y13.2.1,y13.2.2))))
 | .inr y5=>
  e28 qq p0>>=fun r6=>
  match r6 with
  | .inl y9=>
   some (.inr (.inl (y5.2.1,y5.2.2.1,y5.2.2.2.1,y5.2.2.2.2.1,y5.2.2.2.2.2)))
  | .inr y8=>
   some (.inl (y5.2.1,y5.2.2.1,y5.2.2.2.1,y8.2.1,y8.2.2,y5.2.2.2.2.1,y5.2.2.2.2.2))
abbrev zUq (p0:Int) (r:List Ent×List Int×List Int×Int×Int×List Ent×List yS) (C:Cf):Prop:=C 32 [] [ai p0] (.tup [.mp 0 0,.mp 1 0]) [.cells [slv yQ r.1 .no,.mp 2 0,slv zW r.2.1 .no,slv zW r.2.2.1 .no],.cells [ai r.2.2.2.1,ai r.2.2.2.2.1],.cells [slv yQ r.2.2.2.2.2.1 .no,slv qD r.2.2.2.2.2.2 .no]] 0
abbrev zUp (p0:Int) (r:List Ent×List Int×List Int×List Ent×List yS) (C:Cf):Prop:=C 32 [] [ai p0] (.tup [.mp 0 0,.val (.pointer none)]) [.cells [slv yQ r.1 .no,.mp 1 0,slv zW r.2.1 .no,slv zW r.2.2.1 .no],.cells [slv yQ r.2.2.2.1 .no,slv qD r.2.2.2.2 .no]] 0
abbrev zUo (p0:Int) (r:Int×Int) (C:Cf):Prop:=C 32 [] [ai p0] (.tup [.val (.pointer none),.mp 0 0]) [.cells [ai r.1,ai r.2]] 0
abbrev zUn (p0:Int) (C:Cf):Prop:=C 32 [] [ai p0] (.tup [.val (.pointer none),.val (.pointer none)]) [] 0
theorem q32:Qf 32 Tryz.f32:=⟨Tryz.func32,rfl⟩
theorem yBP{p0 r}(h:zUq p0 r Ci):zUq p0 r Ct:=⟨h,⟨tv,tv⟩,zB,⟨(lz rfl),(lz rfl),tv⟩,(zA ⟨dE _,(lz rfl),dI _,dI _,tv⟩ (zA ⟨tv,tv,tv⟩ (zA ⟨dE _,dC _,tv⟩ zB)))⟩
theorem yBQ{p0 r}(h:zUp p0 r Ci):zUp p0 r Ct:=⟨h,⟨tv,tv⟩,zB,⟨(lz rfl),tv,tv⟩,(fMf (lz rfl) zB)⟩
theorem yBR{p0 r}(h:zUo p0 r Ci):zUo p0 r Ct:=⟨h,⟨tv,tv⟩,zB,⟨tv,(lz rfl),tv⟩,(zA ⟨tv,tv,tv⟩ zB)⟩
theorem yBS{p0}(h:zUn p0 Ci):zUn p0 Ct:=⟨h,⟨tv,tv⟩,zB,⟨tv,tv,tv⟩,zB⟩
theorem c32{qq p0 r}(h:e32 qq p0=some r):(match (generalizing:=false) r with | .inl x=>zUq p0 x Ct | .inr (.inl x)=>zUp p0 x Ct | .inr (.inr (.inl x))=>zUo p0 x Ct | .inr (.inr (.inr x))=>zUn p0 Ct):=by
 unfold e32 at h
 obtain⟨r1,h2,h⟩:=zC h
 obtain⟨r3,h4,h⟩:=zC h
 have k:=oC 0 [] (c13 h2) o0
 rcases r3 with y10|y5
 dsimp only at h
 obtain⟨r11,h12,h⟩:=zC h
 have k:=oC 0 [] (c27 h4) k
 rcases r11 with y14|y13
 dsimp only at h
 cases h
 exact yBS (tF q32 2 [] (oC 2 [] (c28 h12) k))
 dsimp only at h
 cases h
 exact yBR (tF q32 2 [0] (oC 2 [] (c28 h12) k))
 dsimp only at h
 obtain⟨r6,h7,h⟩:=zC h
 have k:=oC 0 [] (c27 h4) k
 rcases r6 with y9|y8
 dsimp only at h
 cases h
 exact yBQ (tF q32 2 [0,1] (oD (dC y5.2.2.2.2.2)<|oD (dE y5.2.2.2.2.1)<|oD (dI y5.2.2.2.1)<|oD (dI y5.2.2.1)<|oD (dE y5.2.1)<|oC 2 [] (c28 h7) k))
 dsimp only at h
 cases h
 exact yBP (tF q32 2 [0,2,1] (oD (dC y5.2.2.2.2.2)<|oD (dE y5.2.2.2.2.1)<|oD (dI y5.2.2.2.1)<|oD (dI y5.2.2.1)<|oD (dE y5.2.1)<|oC 2 [] (c28 h7) k))
def e8(qq:Nat)  : Option Bool:=
 e32 qq 50>>=fun r1=>
 match r1 with
 | .inl y3=>
  e33 qq 0>>=fun r4=>
  e33 qq 2>>=fun r6=>
  e21 qq 1>>=fun r8=>
  e35 qq r6 [r8]>>=fun r10=>
  e33 qq 1>>=fun r12=>
  e35 qq r6 [r12]>>=fun r14=>
  e34 qq (xE.mk y3.1 y3.2.2.2.2.2.1 y3.2.2.2.2.2.2 y3.2.1 y3.2.2.1) [(zG.mk 1 r4)] [r10] [r14] y3.2.2.2.1 y3.2.2.2.2.1>>=fun r16=>
  match r16 with
  | .inl y18=>
   if y18.2.1==0 then
   if y18.1.yes_ then
   if (y18.1.solved_.length:Int)==1 then
   zR y18.1.solved_ 0>>=fun x22=>
   if x22.n_==1 then
   some ((y18.1.steps_.length:Int)==2)
   else
   some false
   else
   some false
   else
   some false
   else
   some false
  | .inr (.inl y25)=>
   if y25.2.2.2.1==0 then
   some false
   else
   some false
  | .inr (.inr y27)=>
   if y27.2.2.2.2.1==0 then
   if (y27.2.1.length:Int)==1 then
   zR y27.2.1 0>>=fun x30=>
   if x30.n_==1 then
   some ((y27.2.2.1.length:Int)==2)
   else
   some false
   else
   some false
   else
   some false
 | .inr (.inl y33)=>
  none
 | .inr (.inr (.inl y63))=>
  e33 qq 0>>=fun r64=>
  e33 qq 2>>=fun r66=>
  e21 qq 1>>=fun r68=>
  e35 qq r66 [r68]>>=fun r70=>
  e33 qq 1>>=fun r72=>
  e35 qq r66 [r72]>>=fun r74=>
  fS qq [(zG.mk 1 r64)] [r70] [r74] y63.1 y63.2>>=fun r76=>
  if r76.2==0 then
  if r76.1.yes_ then
  if (r76.1.solved_.length:Int)==1 then
  zR r76.1.solved_ 0>>=fun x81=>
  if x81.n_==1 then
  some ((r76.1.steps_.length:Int)==2)
  else
  some false
  else
  some false
  else
  some false
  else
  some false
 | .inr (.inr (.inr y84))=>
  none
theorem q8:Qf 8 Tryz.f8:=⟨Tryz.func8,rfl⟩
theorem c8{qq r}(h:e8 qq  = some r):Ct 8 [] [] (ab r) [] 0:=⟨(by
 unfold e8 at h
 obtain⟨r1,h2,h⟩:=zC h
 rcases r1 with y3 | (y33 | (y63|y84))
 dsimp only at h
 obtain⟨r4,h5,h⟩:=zC h
 obtain⟨r6,h7,h⟩:=zC h
 obtain⟨r8,h9,h⟩:=zC h
 obtain⟨r10,h11,h⟩:=zC h
 obtain⟨r12,h13,h⟩:=zC h
 obtain⟨r14,h15,h⟩:=zC h
 obtain⟨r16,h17,h⟩:=zC h
 have k:=oS 0 (yT xC [r14])<|oC 0 [] (c35 h15)<|oS 0 (yT xC [r12])<|oC 0 [] (c33 h13)<|oC 0 [] (c33 h7)<|oS 0 (yT xC [r10])<|oC 0 [] (c35 h11)<|oS 0 (yT xC [r8])<|oC 0 [] (c21 h9)<|oC 3 [] (c33 h7)<|oC 2 [] (c33 h5)<|oC 0 [] (c32 h2) o0
 rcases r16 with y18 | (y25|y27)
 dsimp only at h
 have k:=oC 0 [0,2,1] (c34 h17) k
 obtain⟨h19,h⟩|⟨h19,h⟩:=spl h
 have k:=oB 3 h19 k
 obtain⟨h20,h⟩|⟨h20,h⟩:=spl h
 have k:=oB 0 h20 k
 obtain⟨h21,h⟩|⟨h21,h⟩:=spl h
 obtain⟨x22,h23,h⟩:=zC h
 have k:=oA 1 (zRm (o:=.no) h23)<|oB 2 h21 k
 obtain⟨h24,h⟩|⟨h24,h⟩:=spl h
 cases h
 exact tF q8 3 [] (oB 1 h24 k)
 cases h
 exact tF q8 0 [] (oB 1 h24 k)
 cases h
 exact tF q8 0 [] (oB 2 h21 k)
 cases h
 exact tF q8 0 [] (oB 0 h20 k)
 cases h
 exact tF q8 0 [] (oB 3 h19 k)
 dsimp only at h
 have k:=oC 0 [0,2,1] (c34 h17) k
 obtain⟨h26,h⟩|⟨h26,h⟩:=spl h
 cases h
 exact tF q8 1 [] (oB 3 h26 k)
 cases h
 exact tF q8 0 [] (oB 3 h26 k)
 dsimp only at h
 have k:=oC 0 [0,2,1] (c34 h17) k
 obtain⟨h28,h⟩|⟨h28,h⟩:=spl h
 have k:=oB 3 h28 k
 obtain⟨h29,h⟩|⟨h29,h⟩:=spl h
 obtain⟨x30,h31,h⟩:=zC h
 have k:=oA 1 (zRm (o:=.no) h31)<|oB 3 h29 k
 obtain⟨h32,h⟩|⟨h32,h⟩:=spl h
 cases h
 exact tF q8 3 [] (oB 1 h32 k)
 cases h
 exact tF q8 0 [] (oB 1 h32 k)
 cases h
 exact tF q8 0 [] (oB 3 h29 k)
 cases h
 exact tF q8 0 [] (oB 3 h28 k)
 cases h
 dsimp only at h
 obtain⟨r64,h65,h⟩:=zC h
 obtain⟨r66,h67,h⟩:=zC h
 obtain⟨r68,h69,h⟩:=zC h
 obtain⟨r70,h71,h⟩:=zC h
 obtain⟨r72,h73,h⟩:=zC h
 obtain⟨r74,h75,h⟩:=zC h
 obtain⟨r76,h77,h⟩:=zC h
 have k:=oC 0 [0] (zOz h77)<|oS 0 (yT xC [r74])<|oC 0 [] (c35 h75)<|oS 0 (yT xC [r72])<|oC 0 [] (c33 h73)<|oC 0 [] (c33 h67)<|oS 0 (yT xC [r70])<|oC 0 [] (c35 h71)<|oS 0 (yT xC [r68])<|oC 0 [] (c21 h69)<|oC 3 [] (c33 h67)<|oC 2 [] (c33 h65)<|oC 0 [] (c32 h2) o0
 obtain⟨h78,h⟩|⟨h78,h⟩:=spl h
 have k:=oB 3 h78 k
 obtain⟨h79,h⟩|⟨h79,h⟩:=spl h
 have k:=oB 0 h79 k
 obtain⟨h80,h⟩|⟨h80,h⟩:=spl h
 obtain⟨x81,h82,h⟩:=zC h
 have k:=oA 1 (zRm (o:=.no) h82)<|oB 2 h80 k
 obtain⟨h83,h⟩|⟨h83,h⟩:=spl h
 cases h
 exact tF q8 3 [] (oB 1 h83 k)
 cases h
 exact tF q8 0 [] (oB 1 h83 k)
 cases h
 exact tF q8 0 [] (oB 2 h80 k)
 cases h
 exact tF q8 0 [] (oB 0 h79 k)
 cases h
 exact tF q8 0 [] (oB 3 h78 k)
 cases h),tv,zB,tv,zB⟩
def e9(qq:Nat)(p0:List Ent)(p1:vJ):Option (yH×Int):=
 e27 qq p0>>=fun r1=>
 match r1 with
 | .inl y18=>
  e28 qq p1.fuel_>>=fun r19=>
  match r19 with
  | .inl y24=>
   none
  | .inr y21=>
   fS qq p1.c_ p1.a_ p1.b_ y21.2.1 y21.2.2>>=fun r22=>
   some (r22.1,r22.2)
 | .inr y3=>
  e28 qq p1.fuel_>>=fun r4=>
  match r4 with
  | .inl y12=>
   none
  | .inr y6=>
   e34 qq (xE.mk y3.2.1 y3.2.2.2.2.1 y3.2.2.2.2.2 y3.2.2.1 y3.2.2.2.1) p1.c_ p1.a_ p1.b_ y6.2.1 y6.2.2>>=fun r7=>
   match r7 with
   | .inl y9=>
    some (y9.1,y9.2.1)
   | .inr (.inl y10)=>
    some ((yH.mk false y10.2.1 y10.2.2.1 y10.1),y10.2.2.2.1)
   | .inr (.inr y11)=>
    some ((yH.mk true y11.1 y11.2.1 y11.2.2.1),y11.2.2.2.2.1)
theorem q9:Qf 9 Tryz.f9:=⟨Tryz.func9,rfl⟩
theorem c9{qq p0 p1 r}(h:e9 qq p0 p1=some r):Ct 9 [] [slv yQ p0 .no,zDx p1] (.tup [wL r.1,ai r.2]) [] 0:=⟨by
 unfold e9 at h
 obtain⟨r1,h2,h⟩:=zC h
 rcases r1 with y18|y3
 dsimp only at h
 obtain⟨r19,h20,h⟩:=zC h
 have k:=oC 0 [] (c27 h2) o0
 rcases r19 with y24|y21
 cases h
 dsimp only at h
 obtain⟨r22,h23,h⟩:=zC h
 cases h
 exact tF q9 3 [] (oD (dI r22.1.steps_)<|oD (zM r22.1.solved_)<|oD (zH r22.1.vars_)<|oC 5 [2] (zOz h23)<|oC 3 [] (c28 h20) k)
 dsimp only at h
 obtain⟨r4,h5,h⟩:=zC h
 have k:=oC 0 [] (c27 h2) o0
 rcases r4 with y12|y6
 cases h
 dsimp only at h
 obtain⟨r7,h8,h⟩:=zC h
 have k:=oC 3 [] (c28 h5) k
 rcases r7 with y9 | (y10|y11)
 dsimp only at h
 cases h
 exact tF q9 3 [] (oD (dI y9.1.steps_)<|oD (zM y9.1.solved_)<|oD (zH y9.1.vars_)<|oC 5 [2,3,4] (c34 h8) k)
 dsimp only at h
 cases h
 exact tF q9 3 [] (oD (dI y10.1)<|oD (zM y10.2.2.1)<|oD (zH y10.2.1)<|oC 5 [2,3,4] (c34 h8) k)
 dsimp only at h
 cases h
 exact tF q9 3 [] (oD (dI y11.2.2.1)<|oD (zM y11.2.1)<|oD (zH y11.1)<|oC 5 [2,3,4] (c34 h8) k),⟨⟨tv,dE _⟩,⟨⟨tv,zH _⟩,⟨tv,dT _⟩,⟨tv,dT _⟩,tv,tv⟩,tv⟩,zB,⟨⟨tv,zH _,zM _,dI _,tv⟩,tv,tv⟩,zB⟩
theorem zXr(q:Nat):e8 (q+400)=some true:=by kernel_rfl
theorem zMn:Evt (fun q=>e8 q) true:=⟨400,fun q hq=>by
 obtain⟨k,rfl⟩:∃k,q=k+400:=⟨q-400,by omega⟩
 exact zXr k⟩
theorem zBK(D:List yZ)(hl:D.length≤1048576):∀(r:List yZ) (v:Nat) (acc:List Tm),D.drop v=r->v≤D.length->acc=(D.take v).map (·.type_)->Evt (fun q=>bP q D acc (v:Int)) (D.map (·.type_))
 | [],v,acc,hd,hv,ha=>by
  refine Evt.succ ?_
  simp only[bP]
  refine Evt.ifF (zZ hd) (Evt.ret.eq ?_)
  rw[ha,List.take_of_length_le (List.drop_eq_nil_iff.1 hd)]
 |x::r,v,acc,hd,hv,ha=>by
  have hlt:=yC hd
  refine Evt.succ ?_
  simp only[bP]
  refine Evt.ifT (zY hd) (Evt.pure (zV hd) (Evt.pure (yD (by rw[ha];simp;omega)) ?_))
  rw[zU v (by omega)]
  exact zBK D hl r (v+1) _ (zS hd) hlt (by rw[qO hd,List.map_append,ha];rfl)
theorem zAO(L:List Tm)(hl:L.length≤1048576):∀(r:List Tm) (v:Nat),L.drop v=r->Tot (fun q=>zEk q L (v:Int)) fun _=>True
 | [],v,hd=>by
  refine Tot.succ ?_
  simp only[zEk]
  refine Tot.ite (fun h=>?_) fun _=>Tot.ret trivial
  rw[zZ hd]at h;cases h
 |x::r,v,hd=>by
  have hlt:=yC hd
  refine Tot.succ ?_
  simp only[zEk]
  refine Tot.ite (fun _=>Tot.pure (zV hd) (Tot.bind (P:=fun _=>True) ((zDH x).tot trivial) fun s _=>Tot.ite (fun _=>Tot.ret trivial) fun _=>?_)) fun h=>?_
  ·rw[zU v (by omega)]
   exact zAO L hl r (v+1) (zS hd)
  ·rw[zY hd]at h;cases h
structure zKv (x:vJ):Prop where
 c:x.c_.length≤12
 a:x.a_.length≤8
 b:x.b_.length≤8
 f0:0≤x.fuel_
 f1:x.fuel_≤400
theorem zKu(x:vJ):Tot (fun q=>e7 q x) fun b=>b=true->zKv x:=by
 simp only[e7]
 refine Tot.ite (fun _=>Tot.ret fun h=>by cases h) fun h1=>Tot.ite (fun _=>Tot.ret fun h=>by cases h) fun h2=>Tot.ite (fun _=>Tot.ret fun h=>by cases h) fun h3=>Tot.ite (fun _=>Tot.ret fun h=>by cases h) fun h4=>Tot.ite (fun _=>Tot.ret fun h=>by cases h) fun h5=>?_
 have h1:=of_decide_eq_false h1
 have h2:=of_decide_eq_false h2
 have h3:=of_decide_eq_false h3
 have h4:=of_decide_eq_false h4
 have h5:=of_decide_eq_false h5
 have hL:zKv x:=⟨by omega,by omega,by omega,by omega,by omega⟩
 have hof:(ofV x.c_).length=x.c_.length:=by unfold ofV;rw[List.length_map]
 have ht:Evt (fun q=>e31 q (ofV x.c_)) ((ofV x.c_).map (·.type_)):=by
  simp only[e31]
  exact zBK (ofV x.c_) (by omega) _ 0 [] rfl (Nat.zero_le _) rfl
 have hm:((ofV x.c_).map (fun v:yZ=>v.type_)).length≤12:=by rw[List.length_map];omega
 refine Tot.bind (P:=fun r=>r=ofV x.c_) ((zXM x.c_ (by omega)).tot rfl) fun r6 h6=>?_
 subst h6
 refine Tot.bind (P:=fun r=>r=(ofV x.c_).map (·.type_)) (ht.tot rfl) fun r8 h8=>?_
 subst h8
 refine Tot.pure (yD (by simp only[List.length_nil];omega)) (Tot.pure (yD (by simp only[List.nil_append];omega)) (Tot.pure (yD (by simp only[List.nil_append,List.length_append];omega)) ?_))
 refine(zAO _ ?_ _ 0 rfl).mono fun b _ _=>hL
 simp only[List.nil_append,List.length_append]
 omega
def yDp(l:List Ent)(x:vJ)(r:yH×Int):Prop:=
 r.2≠0∨((∃N,wI N l)∧zJF x.c_∧x.a_.length=x.b_.length∧(∀e∈vU x.a_ x.b_,wZ l e.a_∧wZ l e.b_)∧(∀w∈x.c_,wZ l w.type_) ∧
  ((∃s,Un l x.c_ (vU x.a_ x.b_) [] none∧r=(yH.mk false [] [] s,0))∨∃c' so' s,Un l x.c_ (vU x.a_ x.b_) [] (some (c',so'))∧r=(yH.mk true c' so' s,0)))
structure zKt (x:vJ):Prop where
 c:∀v∈x.c_,v.type_.Ok
 a:∀t∈x.a_,t.Ok
 b:∀t∈x.b_,t.Ok
theorem zKs(l:List Ent)(x:vJ)(hl:l.length≤60)(he:∀e∈l,EOk e)(hc:∀e∈l,ECl e)(hL:zKv x)(ho:zKt x):Tot (fun q=>e9 q l x) (yDp l x):=by
 have l1:=hL.c
 have l2:=hL.a
 have l3:=hL.f0
 have l4:=hL.f1
 simp only[e9]
 rcases zLT l hl he hc with hn|⟨N,hE,hn⟩
 ·refine Tot.bind (P:=fun r=>r = .inl 5) ((hn.eq (show zIX l false = .inl 5 from rfl)).tot rfl) fun r1 h1=>?_
  subst h1
  refine Tot.bind (P:=fun r=>r = .inr (0,x.fuel_,0)) ((zNC x.fuel_ l3 (by omega)).tot rfl) fun r2 h2=>?_
  subst h2
  have hz:Evt (fun q=>fS q x.c_ x.a_ x.b_ x.fuel_ 0) (yH.mk false [] [] [],5):=by
   simp only[fS,zCc]
   exact Evt.pure (a:=()) rfl Evt.ret
  exact Tot.bind (P:=fun r=>r=(yH.mk false [] [] [],5)) (hz.tot rfl) fun r h=>Tot.ret (.inl (by rw[h];show (5:Int)≠0;decide))
 ·refine Tot.bind (P:=fun r=>r=zIX l true) (hn.tot rfl) fun r1 h1=>?_
  subst h1
  simp only[zIX,if_true]
  refine Tot.bind (P:=fun r=>r = .inr (0,x.fuel_,0)) ((zNC x.fuel_ l3 (by omega)).tot rfl) fun r2 h2=>?_
  subst h2
  refine(zMp hE he (by omega) hc x.c_ x.a_ x.b_ ho.a ho.b (by omega) (by omega) ho.c x.fuel_ 0 l3 (by omega) (Int.le_refl 0) (by omega)).bind fun r h=>?_
  rcases h with⟨a,e,fl,fu,e0,rfl⟩|⟨h1,h2,h3,h4,h5⟩
  ·exact Tot.ret (.inl e0)
  ·cases h5 with
   |err e0=>exact Tot.ret (.inl e0)
   |no _ hU=>exact Tot.ret (.inr ⟨⟨N,hE⟩,h1,h2,h3,h4,.inl ⟨_,hU,rfl⟩⟩)
   |yes _ hU=>exact Tot.ret (.inr ⟨⟨N,hE⟩,h1,h2,h3,h4,.inr ⟨_,_,_,hU,rfl⟩⟩)
open Go.RowKit Go.Proofs
theorem zUm:∀ {l:List Tm},(∀t∈l,t.Ok)->OkL l
 | [],_=>trivial
 |t::l,h=>⟨h t (by simp),zUm fun u hu=>h u (by simp[hu])⟩
theorem zCb:∀ {l:List Tm},OkL l->∀x∈l,x.Ok
 | [],_,_,h=>nomatch h
 |a::l,⟨h1,h2⟩,x,hx=>by
  rcases List.mem_cons.1 hx with rfl|hx
  ·exact h1
  ·exact zCb h2 x hx
theorem zFP{H:Type}{enc:TypeId×Value->H}{W:World}{n:Nat}{c2:Value}{x:DataW H×List MemPlace}(f2:DataW.trod enc Tryz.prog W 0 (fun _=>true) true n 24 [c2]=some x)(hw:Wt Tryz.prog 24 x.1) :
  ∃l:List Tm,V (rdG W) W (.sl (zJ zF l) l.length .no) c2∧OkL l∧l.length≤17592186044416:=by
 obtain⟨l,h1,h3,h2⟩:=zFr zF 3 qI.len (by omega) (Q:=Tm.Ok) Tryz.underlying24 (by kernel_rfl) (fun m _ cs x h _=>by
  obtain⟨t,a,b⟩:=zGf m cs x h
  exact⟨t,by rw[xC];exact a,b⟩) f2 hw
 refine⟨l,h1,zUm h3,?_⟩
 have:Tryz.prog.bytesOf 39=40:=by kernel_rfl
 rw[this]at h2
 have:reachBytes=140737488351232:=rfl
 omega
theorem zUl{α:Type}(l:List α)(h:l.length=4):∃c0 c1 c2 c3,l=[c0,c1,c2,c3]:=by
 rcases l with _|⟨c0,_|⟨c1,_|⟨c2,_|⟨c3,_|⟨zz,zs⟩⟩⟩⟩⟩<;>simp only[List.length_nil,List.length_cons]at h<;>first|exact⟨c0,c1,c2,c3,rfl⟩|omega
theorem yBT{α:Type}(l:List α)(h:l.length=2):∃c0 c1,l=[c0,c1]:=by
 rcases l with _|⟨c0,_|⟨c1,_|⟨zz,zs⟩⟩⟩<;>simp only[List.length_nil,List.length_cons]at h<;>first|exact⟨c0,c1,rfl⟩|omega
theorem zKr{H:Type}{enc:TypeId×Value->H}{W:World}(fuel:Nat):∀(cs:List Value) (x:DataW H×List MemPlace),DataW.trod enc Tryz.prog W 0 (fun _=>true) true fuel 77 cs=some x->Wt Tryz.prog 77 x.1->∃e:zG,VL (rdG W) W (zK e) cs∧(fun v=>v.type_.Ok) e:=by
 intro cs x h hw
 obtain⟨xs,n,hn,hx,hlen,hxs,hf⟩:=DataW.trod_struct Tryz.underlying77 h
 rw[hx]at hw
 have cc:Tryz.prog.cellsOf 77=4:=by kernel_rfl
 obtain⟨c0,c1,c2,c3,rfl⟩:=zUl cs (hlen.trans cc)
 obtain⟨y0,y1,rfl⟩:=yBT xs hxs
 have k3:Tryz.prog.cellsOf 3=1:=by kernel_rfl
 have k39:Tryz.prog.cellsOf 39=3:=by kernel_rfl
 have f0:DataW.trod enc Tryz.prog W 0 (fun _=>true) true n 3 ((List.drop 0 [c0,c1,c2,c3]).take (Tryz.prog.cellsOf 3))=some y0:=hf 0 _ rfl
 rw[k3]at f0
 replace f0:DataW.trod enc Tryz.prog W 0 (fun _=>true) true n 3 [c0]=some y0:=f0
 have w0:Wt Tryz.prog 3 y0.1:=mZ Tryz.underlying77 hw (i:=0) rfl rfl
 have f1:DataW.trod enc Tryz.prog W 0 (fun _=>true) true n 39 ((List.drop 1 [c0,c1,c2,c3]).take (Tryz.prog.cellsOf 39))=some y1:=hf 1 _ rfl
 rw[k39]at f1
 replace f1:DataW.trod enc Tryz.prog W 0 (fun _=>true) true n 39 [c1,c2,c3]=some y1:=f1
 have w1:Wt Tryz.prog 39 y1.1:=mZ Tryz.underlying77 hw (i:=1) rfl rfl
 obtain⟨n0,e0,-,-⟩:=DataW.trod_int Tryz.underlying3 f0
 cases e0
 obtain⟨l1,v1,o1⟩:=zGf n _ _ f1
 simp only[tmL,VL]at v1
 refine⟨zG.mk n0 l1,?_,o1⟩
 simp only[zK]
 simp only[VL]
 exact⟨by simp only[V],v1.1,v1.2.1,v1.2.2.1,trivial⟩
theorem zKq{H:Type}{enc:TypeId×Value->H}{W:World}(fuel:Nat):∀(cs:List Value) (x:DataW H×List MemPlace),DataW.trod enc Tryz.prog W 0 (fun _=>true) true fuel 26 cs=some x->Wt Tryz.prog 26 x.1->∃e:vJ,VL (rdG W) W (mY e) cs∧zKt e:=by
 intro cs x h hw
 obtain⟨xs,n,hn,hx,hlen,hxs,hf⟩:=DataW.trod_struct Tryz.underlying26 h
 rw[hx]at hw
 have cc:Tryz.prog.cellsOf 26=4:=by kernel_rfl
 obtain⟨c0,c1,c2,c3,rfl⟩:=zUl cs (hlen.trans cc)
 obtain⟨y0,y1,y2,y3,rfl⟩:=zUl xs hxs
 have k3:Tryz.prog.cellsOf 3=1:=by kernel_rfl
 have k23:Tryz.prog.cellsOf 23=1:=by kernel_rfl
 have k24:Tryz.prog.cellsOf 24=1:=by kernel_rfl
 have f0:DataW.trod enc Tryz.prog W 0 (fun _=>true) true n 23 ((List.drop 0 [c0,c1,c2,c3]).take (Tryz.prog.cellsOf 23))=some y0:=hf 0 _ rfl
 rw[k23]at f0
 replace f0:DataW.trod enc Tryz.prog W 0 (fun _=>true) true n 23 [c0]=some y0:=f0
 have w0:Wt Tryz.prog 23 y0.1:=mZ Tryz.underlying26 hw (i:=0) rfl rfl
 have f1:DataW.trod enc Tryz.prog W 0 (fun _=>true) true n 24 ((List.drop 1 [c0,c1,c2,c3]).take (Tryz.prog.cellsOf 24))=some y1:=hf 1 _ rfl
 rw[k24]at f1
 replace f1:DataW.trod enc Tryz.prog W 0 (fun _=>true) true n 24 [c1]=some y1:=f1
 have w1:Wt Tryz.prog 24 y1.1:=mZ Tryz.underlying26 hw (i:=1) rfl rfl
 have f2:DataW.trod enc Tryz.prog W 0 (fun _=>true) true n 24 ((List.drop 2 [c0,c1,c2,c3]).take (Tryz.prog.cellsOf 24))=some y2:=hf 2 _ rfl
 rw[k24]at f2
 replace f2:DataW.trod enc Tryz.prog W 0 (fun _=>true) true n 24 [c2]=some y2:=f2
 have w2:Wt Tryz.prog 24 y2.1:=mZ Tryz.underlying26 hw (i:=2) rfl rfl
 have f3:DataW.trod enc Tryz.prog W 0 (fun _=>true) true n 3 ((List.drop 3 [c0,c1,c2,c3]).take (Tryz.prog.cellsOf 3))=some y3:=hf 3 _ rfl
 rw[k3]at f3
 replace f3:DataW.trod enc Tryz.prog W 0 (fun _=>true) true n 3 [c3]=some y3:=f3
 have w3:Wt Tryz.prog 3 y3.1:=mZ Tryz.underlying26 hw (i:=3) rfl rfl
 obtain⟨l0,v0,o0,b0⟩:=zFr zK 4 xQ.len (by omega) (Q:=(fun v=>v.type_.Ok)) Tryz.underlying23 (by kernel_rfl) (fun m _ cs x h hw=>zKr m cs x h hw) (n:=n) f0 w0
 have b0:l0.length≤17592186044416:=by
  have hb:Tryz.prog.bytesOf 77=48:=by kernel_rfl
  rw[hb]at b0
  have:reachBytes=140737488351232:=rfl
  omega
 obtain⟨l1,v1,o1,b1⟩:=zFP f1 w1
 obtain⟨l2,v2,o2,b2⟩:=zFP f2 w2
 obtain⟨n3,e3,-,-⟩:=DataW.trod_int Tryz.underlying3 f3
 cases e3
 refine⟨vJ.mk l0 l1 l2 n3,?_,⟨o0,zCb o1,zCb o2⟩⟩
 simp only[mY]
 simp only[VL]
 exact⟨v0,v1,v2,by simp only[V],trivial⟩
theorem zKp{H:Type}{enc:TypeId×Value->H}{W:World}{v:Value}{d:DataW H}{p:List MemPlace}(h:DataW.Trod enc Tryz.prog W 0 (fun _=>true) true 26 v d p)(hw:Wt Tryz.prog 26 d):∃e:vJ,V (rdG W) W (.agg (mY e)) v∧zKt e:=by
 obtain⟨fuel,hf⟩:=h
 have hlen:v.cells.toList.length=4:=by
  obtain⟨xs,n,hn,hx,hlen,hxs,-⟩:=DataW.trod_struct Tryz.underlying26 hf
  exact hlen.trans (by kernel_rfl)
 obtain⟨e,he,hr⟩:=zKq fuel _ _ hf hw
 refine⟨e,?_,hr⟩
 cases v with
 |agg cs=>simp only[V];exact⟨_,rfl,by simpa[Value.cells]using he⟩
 |_=>simp[Value.cells]at hlen
def mO:Nat->List Int->Int->List Int->Bool->Int->Option (List Int)
 |0,_,_,_,_,_=>none
 |qq+1,p0,p1,v5,v6,v7=>
 if v6 then
 if decide (v7<(p0.length:Int))then
 zR p0 v7>>=fun x2=>
 yP 8 v5 [x2]>>=fun l4=>
 mO qq p0 p1 l4 true (w64 (v7+1))
 else
 some v5
 else
 if decide (v7<(p0.length:Int))then
 zR p0 v7>>=fun x7=>
 if decide (x7≥p1)then
 if decide (x7>p1)then
 yP 8 v5 [p1]>>=fun l11=>
 yP 8 l11 [x7]>>=fun l13=>
 mO qq p0 p1 l13 true (w64 (v7+1))
 else
 yP 8 v5 [x7]>>=fun l15=>
 mO qq p0 p1 l15 true (w64 (v7+1))
 else
 yP 8 v5 [x7]>>=fun l17=>
 mO qq p0 p1 l17 false (w64 (v7+1))
 else
 yP 8 v5 [p1]>>=fun l19=>
 some l19
def e50(qq:Nat)(p0:List Int)(p1:Int):Option (List Int):=
 mO qq p0 p1 [] false 0
theorem zZG:∀qq:Nat,(∀p0 p1 v5 v6 v7 r,mO qq p0 p1 v5 v6 v7=some r->(∀j,dL 0 (inn (inn (rgt (lft (rgt (rgt (rgt (bod Tryz.f50)))))))) (sp j 49 0 [(0,slv zW p0 .no),(1,ai p1),(5,slv zW v5 (.st 0 1)),(6,ab v6),(7,ai v7)]) (⟨[],0,[0],1,[]⟩) (fQ 0 (nQ 0 Tryz.f50 (.sl (zJ zW r) r.length .no) [] 0) [.blk 0,.seq (rgt (rgt (rgt (rgt (bod Tryz.f50)))))]))):=by
 intro qq
 induction qq with
 |zero=>
  exact fun _ _ _ _ _ _ h=>nn h
 |succ qq ih=>
  intro p0 p1 v5 v6 v7 r h
  rw[mO]at h
  cases v6
  replace h:=ifF rfl h
  obtain⟨h6,h⟩|⟨h6,h⟩:=spl h
  obtain⟨x7,h8,h⟩:=zC h
  have k:=oA 1 (pA (o:=.no) h8)<|oB 1 h6 o0
  obtain⟨h9,h⟩|⟨h9,h⟩:=spl h
  have k:=oA 0 (pA (o:=.no) h8)<|oB 1 h9 k
  obtain⟨h10,h⟩|⟨h10,h⟩:=spl h
  obtain⟨l11,h12,h⟩:=zC h
  obtain⟨l13,h14,h⟩:=zC h
  exact fun j=>lH 1 [] [] [2] [0,1,5,6,7] (oD (dI l13)<|oD (dI p0)<|oP 2 (sR h14 (by simp))<|oA 0 (pA (o:=.no) h8)<|oP 1 (sR h12 (by simp))<|oB 1 h10 k) (ih _ _ _ _ _ _ h)
  obtain⟨l15,h16,h⟩:=zC h
  exact fun j=>lH 1 [] [] [1] [0,1,5,6,7] (oD (dI l15)<|oD (dI p0)<|oP 2 (sR h16 (by simp))<|oA 0 (pA (o:=.no) h8)<|oB 1 h10 k) (ih _ _ _ _ _ _ h)
  obtain⟨l17,h18,h⟩:=zC h
  exact fun j=>lH 1 [] [] [1] [0,1,5,6,7] (oD (dI l17)<|oD (dI p0)<|oP 2 (sR h18 (by simp))<|oA 0 (pA (o:=.no) h8)<|oB 1 h9 k) (ih _ _ _ _ _ _ h)
  obtain⟨l19,h20,h⟩:=zC h
  obtain rfl:=sj h
  exact fun j=>lF 0 [] (oD (dI l19)<|oP 2 (sR h20 (by simp))<|oB 1 h6 o0)
  replace h:=ifT rfl h
  obtain⟨h1,h⟩|⟨h1,h⟩:=spl h
  obtain⟨x2,h3,h⟩:=zC h
  obtain⟨l4,h5,h⟩:=zC h
  exact fun j=>lH 1 [] [] [1] [0,1,5,6,7] (oD (dI l4)<|oD (dI p0)<|oP 2 (sR h5 (by simp))<|oA 1 (pA (o:=.no) h3)<|oB 1 h1 o0) (ih _ _ _ _ _ _ h)
  obtain rfl:=sj h
  exact fun j=>lF 1 [] (oD (dI v5)<|oB 1 h1 o0)
theorem c50{qq p0 p1 r}(h:e50 qq p0 p1=some r):Ct 50 [] [slv zW p0 .no,ai p1] (.sl (zJ zW r) r.length .no) [] 0:=⟨by
 unfold e50 at h
 exact tH ⟨Tryz.func50,rfl⟩ 1 [(none,5,1)] [] [0] [0,1,5,6,7] (oD (dI ([]:List Int))<|oD (dI p0) o0) (zZG _ _ _ _ _ _ _ h),⟨⟨tv,dI _⟩,tv,tv⟩,zB,dI _,zB⟩
mutual
def e18:Nat->Tm->Int->Int->Option (List Int)
 |0,_,_,_=>none
 |qq+1,p0,p1,p2=>
 if p0.k==p1 then
 yP 8 ([]:List Int) [p0.n]>>=fun l2=>
 nJ qq p0 p1 p2 l2 0
 else
 if p0.k==p2 then
 yP 8 ([]:List Int) [p0.n]>>=fun l5=>
 nJ qq p0 p1 p2 l5 0
 else
 nJ qq p0 p1 p2 [] 0
def nJ:Nat->Tm->Int->Int->List Int->Int->Option (List Int)
 |0,_,_,_,_,_=>none
 |qq+1,p0,p1,p2,v7,v8=>
 if decide (v8<(p0.sub.length:Int))then
 zR p0.sub v8>>=fun x5=>
 e18 qq x5 p1 p2>>=fun r7=>
 bQ qq p0 p1 p2 v8 r7 0 v7
 else
 some v7
def bQ:Nat->Tm->Int->Int->Int->List Int->Int->List Int->Option (List Int)
 |0,_,_,_,_,_,_,_=>none
 |qq+1,p0,p1,p2,v8,r7,v10,v7=>
 if decide (v10<(r7.length:Int))then
 zR r7 v10>>=fun x10=>
 e50 qq v7 x10>>=fun r12=>
 bQ qq p0 p1 p2 v8 r7 (w64 (v10+1)) r12
 else
 nJ qq p0 p1 p2 v7 (w64 (v8+1))
end
abbrev K18 (p0:Tm) (p1 p2:Int) (r:List Int) (C:Cf):Prop:=C 18 [] [tmA p0,ai p1,ai p2] (.sl (zJ zW r) r.length .no) [] 0
theorem q18:Qf 18 Tryz.f18:=⟨Tryz.func18,rfl⟩
theorem k18{p0 p1 p2 r}(h:K18 p0 p1 p2 r Ci):K18 p0 p1 p2 r Ct:=⟨h,⟨⟨tv,tv,⟨tv,dT _⟩,tv⟩,tv,tv,tv⟩,zB,dI _,zB⟩
theorem zCw:∀qq:Nat,(∀p0 p1 p2 r,e18 qq p0 p1 p2=some r->K18 p0 p1 p2 r Ct)∧(∀p0 p1 p2 v7 v8 r,nJ qq p0 p1 p2 v7 v8=some r->(∀j,dL 0 (inn (inn (rgt (lft (rgt (rgt (rgt (bod Tryz.f18)))))))) (sp j 55 0 [(1,ai p1),(2,ai p2),(3,.mp 0 0),(7,slv zW v7 (.st 0 1)),(8,ai v8)]) (⟨[(0,.cells [ai p0.k,ai p0.n,slv zF p0.sub .no])],1,[0],1,[]⟩) (fQ 0 (nQ 0 Tryz.f18 (.sl (zJ zW r) r.length .no) [] 0) [.blk 0,.seq (rgt (rgt (rgt (rgt (bod Tryz.f18)))))]))∧(∀j,dL 0 (inn (inn (rgt (lft (rgt (rgt (rgt (bod Tryz.f18)))))))) (sp j 55 0 [(1,ai p1),(2,ai p2),(3,.mp 0 0),(7,slv zW v7 .no),(8,ai v8)]) (⟨[(0,.cells [ai p0.k,ai p0.n,slv zF p0.sub .no])],1,[],0,[]⟩) (fQ 0 (nQ 0 Tryz.f18 (.sl (zJ zW r) r.length .no) [] 0) [.blk 0,.seq (rgt (rgt (rgt (rgt (bod Tryz.f18)))))]))∧(∀j,dL 0 (inn (inn (rgt (lft (rgt (rgt (rgt (bod Tryz.f18)))))))) (sp j 55 0 [(1,ai p1),(2,ai p2),(3,.mp 0 0),(7,slv zW v7 .full),(8,ai v8)]) (⟨[(0,.cells [ai p0.k,ai p0.n,slv zF p0.sub .no])],1,[],0,[]⟩) (fQ 0 (nQ 0 Tryz.f18 (.sl (zJ zW r) r.length .no) [] 0) [.blk 0,.seq (rgt (rgt (rgt (rgt (bod Tryz.f18)))))])))∧(∀p0 p1 p2 v8 r7 v10 v7 r,bQ qq p0 p1 p2 v8 r7 v10 v7=some r->(∀j,dL 0 (inn (inn (rgt (rgt (inn (lft (rgt (inn (inn (rgt (lft (rgt (rgt (rgt (bod Tryz.f18))))))))))))))) (sp j 55 0 [(1,ai p1),(2,ai p2),(3,.mp 0 0),(7,slv zW v7 (.st 0 1)),(8,ai v8),(9,slv zW r7 .no),(10,ai v10)]) (⟨[(0,.cells [ai p0.k,ai p0.n,slv zF p0.sub .no])],1,[0],1,[]⟩) (fQ 0 (nQ 0 Tryz.f18 (.sl (zJ zW r) r.length .no) [] 0) [.blk 2,.blk 1,.seq (rgt (rgt (inn (inn (rgt (lft (rgt (rgt (rgt (bod Tryz.f18)))))))))),.loop (inn (inn (rgt (lft (rgt (rgt (rgt (bod Tryz.f18)))))))),.blk 0,.seq (rgt (rgt (rgt (rgt (bod Tryz.f18)))))]))∧(∀j,dL 0 (inn (inn (rgt (rgt (inn (lft (rgt (inn (inn (rgt (lft (rgt (rgt (rgt (bod Tryz.f18))))))))))))))) (sp j 55 0 [(1,ai p1),(2,ai p2),(3,.mp 0 0),(7,slv zW v7 .no),(8,ai v8),(9,slv zW r7 .no),(10,ai v10)]) (⟨[(0,.cells [ai p0.k,ai p0.n,slv zF p0.sub .no])],1,[],0,[]⟩) (fQ 0 (nQ 0 Tryz.f18 (.sl (zJ zW r) r.length .no) [] 0) [.blk 2,.blk 1,.seq (rgt (rgt (inn (inn (rgt (lft (rgt (rgt (rgt (bod Tryz.f18)))))))))),.loop (inn (inn (rgt (lft (rgt (rgt (rgt (bod Tryz.f18)))))))),.blk 0,.seq (rgt (rgt (rgt (rgt (bod Tryz.f18)))))]))∧(∀j,dL 0 (inn (inn (rgt (rgt (inn (lft (rgt (inn (inn (rgt (lft (rgt (rgt (rgt (bod Tryz.f18))))))))))))))) (sp j 55 0 [(1,ai p1),(2,ai p2),(3,.mp 0 0),(7,slv zW v7 .full),(8,ai v8),(9,slv zW r7 .no),(10,ai v10)]) (⟨[(0,.cells [ai p0.k,ai p0.n,slv zF p0.sub .no])],1,[],0,[]⟩) (fQ 0 (nQ 0 Tryz.f18 (.sl (zJ zW r) r.length .no) [] 0) [.blk 2,.blk 1,.seq (rgt (rgt (inn (inn (rgt (lft (rgt (rgt (rgt (bod Tryz.f18)))))))))),.loop (inn (inn (rgt (lft (rgt (rgt (rgt (bod Tryz.f18)))))))),.blk 0,.seq (rgt (rgt (rgt (rgt (bod Tryz.f18)))))]))):=by
 intro qq
 induction qq with
 |zero=>
  exact⟨fun _ _ _ _ h=>nn h,fun _ _ _ _ _ _ h=>nn h,fun _ _ _ _ _ _ _ _ h=>nn h⟩
 |succ qq ih=>
  obtain⟨zZH,fT,fU⟩:=ih
  refine⟨?_,?_,?_⟩
  intro p0 p1 p2 r h
  rw[e18]at h
  obtain⟨h1,h⟩|⟨h1,h⟩:=spl h
  obtain⟨l2,h3,h⟩:=zC h
  exact k18 (tH q18 0 [] [0] [0] [1,2,3,7,8] (oD (dI l2)<|oD (dT p0.sub)<|oP 2 (sR h3 (by simp))<|oB 2 h1 o0) ((fT _ _ _ _ _ _ h).1))
  have k:=oB 2 h1 o0
  obtain⟨h4,h⟩|⟨h4,h⟩:=spl h
  obtain⟨l5,h6,h⟩:=zC h
  exact k18 (tH q18 0 [] [0] [0] [1,2,3,7,8] (oD (dI l5)<|oD (dT p0.sub)<|oP 2 (sR h6 (by simp))<|oB 1 h4 k) ((fT _ _ _ _ _ _ h).1))
  exact k18 (tH q18 0 [] [0] [] [1,2,3,7,8] (oD (dI ([]:List Int))<|oD (dT p0.sub)<|oB 1 h4 k) ((fT _ _ _ _ _ _ h).2.2))
  intro p0 p1 p2 v7 v8 r h
  rw[nJ]at h
  have z {os ob} (k:Oz os ob):=oD (dI v7)<|oD (dT p0.sub)<|k
  refine⟨?_,?_,?_⟩
  obtain⟨h4,h⟩|⟨h4,h⟩:=spl h
  obtain⟨x5,h6,h⟩:=zC h
  obtain⟨r7,h8,h⟩:=zC h
  exact fun j=>lH 0 [] [0] [0] [1,2,3,7,8,9,10] (oD (dI r7)<|z<|oC 1 [] (zZH _ _ _ _ h8)<|oA 1 (yN (o:=.no) h6)<|oB 2 h4 o0) ((fU _ _ _ _ _ _ _ _ h).1)
  obtain rfl:=sj h
  exact fun j=>lF 0 [] (oD (dI v7)<|oB 2 h4 o0)
  obtain⟨h4,h⟩|⟨h4,h⟩:=spl h
  obtain⟨x5,h6,h⟩:=zC h
  obtain⟨r7,h8,h⟩:=zC h
  exact fun j=>lH 0 [] [0] [] [1,2,3,7,8,9,10] (oD (dI r7)<|z<|oC 1 [] (zZH _ _ _ _ h8)<|oA 1 (yN (o:=.no) h6)<|oB 2 h4 o0) ((fU _ _ _ _ _ _ _ _ h).2.1)
  obtain rfl:=sj h
  exact fun j=>lF 0 [] (oD (dI v7)<|oB 2 h4 o0)
  obtain⟨h4,h⟩|⟨h4,h⟩:=spl h
  obtain⟨x5,h6,h⟩:=zC h
  obtain⟨r7,h8,h⟩:=zC h
  exact fun j=>lH 0 [] [0] [] [1,2,3,7,8,9,10] (oD (dI r7)<|z<|oC 1 [] (zZH _ _ _ _ h8)<|oA 1 (yN (o:=.no) h6)<|oB 2 h4 o0) ((fU _ _ _ _ _ _ _ _ h).2.2)
  obtain rfl:=sj h
  exact fun j=>lF 0 [] (oD (dI v7)<|oB 2 h4 o0)
  intro p0 p1 p2 v8 r7 v10 v7 r h
  rw[bQ]at h
  have z {os ob} (k:Oz os ob):=oD (dI v7)<|oD (dT p0.sub)<|k
  refine⟨?_,?_,?_⟩
  obtain⟨h9,h⟩|⟨h9,h⟩:=spl h
  obtain⟨x10,h11,h⟩:=zC h
  obtain⟨r12,h13,h⟩:=zC h
  exact fun j=>lH 1 [] [0] [] [1,2,3,7,8,9,10] (oD (dI r7)<|oD (dI r12)<|oD (dT p0.sub)<|oC 1 [] (c50 h13)<|oA 0 (pA (o:=.no) h11)<|oB 1 h9 o0) ((fU _ _ _ _ _ _ _ _ h).2.1)
  exact fun j=>lH 1 [] [0] [0] [1,2,3,7,8] (z<|oB 1 h9 o0) ((fT _ _ _ _ _ _ h).1)
  obtain⟨h9,h⟩|⟨h9,h⟩:=spl h
  obtain⟨x10,h11,h⟩:=zC h
  obtain⟨r12,h13,h⟩:=zC h
  exact fun j=>lH 1 [] [0] [] [1,2,3,7,8,9,10] (oD (dI r7)<|oD (dI r12)<|oD (dT p0.sub)<|oC 1 [] (c50 h13)<|oA 0 (pA (o:=.no) h11)<|oB 1 h9 o0) ((fU _ _ _ _ _ _ _ _ h).2.1)
  exact fun j=>lH 1 [] [0] [] [1,2,3,7,8] (z<|oB 1 h9 o0) ((fT _ _ _ _ _ _ h).2.1)
  obtain⟨h9,h⟩|⟨h9,h⟩:=spl h
  obtain⟨x10,h11,h⟩:=zC h
  obtain⟨r12,h13,h⟩:=zC h
  exact fun j=>lH 1 [] [0] [] [1,2,3,7,8,9,10] (oD (dI r7)<|oD (dI r12)<|oD (dT p0.sub)<|oC 1 [] (c50 h13)<|oA 0 (pA (o:=.no) h11)<|oB 1 h9 o0) ((fU _ _ _ _ _ _ _ _ h).2.1)
  exact fun j=>lH 1 [] [0] [] [1,2,3,7,8] (z<|oB 1 h9 o0) ((fT _ _ _ _ _ _ h).2.2)
theorem c18{qq p0 p1 p2 r}(h:e18 qq p0 p1 p2=some r):K18 p0 p1 p2 r Ct:=(zCw _).1 _ _ _ _ h
def bR:Nat->Int->List Int->Int->Option Bool
 |0,_,_,_=>none
 |qq+1,p2,r7,v8=>
 if decide (v8<(r7.length:Int))then
 zR r7 v8>>=fun x10=>
 if decide (x10≥p2)then
 some false
 else
 bR qq p2 r7 (w64 (v8+1))
 else
 some true
def e47(qq:Nat)(p0:Tm)(p1 p2:Int):Option Bool:=
 e68 qq p0>>=fun r1=>
 if r1 then
 e38 qq p0 0>>=fun r4=>
 if decide (r4>p1)then
 some false
 else
 e18 qq p0 6 7>>=fun r7=>
 bR qq p2 r7 0
 else
 some false
theorem q47:Qf 47 Tryz.f47:=⟨Tryz.func47,rfl⟩
theorem zZI:∀qq:Nat,(∀p2 r7 v8 r,bR qq p2 r7 v8=some r->(∀j,dL 0 (inn (inn (rgt (lft (rgt (rgt (rgt (bod Tryz.f47)))))))) (sp j 32 0 [(2,ai p2),(7,slv zW r7 .no),(8,ai v8)]) (⟨[],0,[],0,[]⟩) (fQ 0 (nQ 0 Tryz.f47 (ab r) [] 0) [.blk 0,.seq (rgt (rgt (rgt (rgt (bod Tryz.f47)))))]))):=by
 intro qq
 induction qq with
 |zero=>
  exact fun _ _ _ _ h=>nn h
 |succ qq ih=>
  intro p2 r7 v8 r h
  rw[bR]at h
  obtain⟨h9,h⟩|⟨h9,h⟩:=spl h
  obtain⟨x10,h11,h⟩:=zC h
  have k:=oA 0 (pA (o:=.no) h11)<|oB 1 h9 o0
  obtain⟨h12,h⟩|⟨h12,h⟩:=spl h
  cases h
  exact fun j=>lF 0 [] (oB 1 h12 k)
  exact fun j=>lH 1 [] [] [] [2,7,8] (oD (dI r7)<|oB 1 h12 k) (ih _ _ _ _ h)
  cases h
  exact fun j=>lF 0 [] (oB 1 h9 o0)
theorem c47{qq p0 p1 p2 r}(h:e47 qq p0 p1 p2=some r):Ct 47 [] [tmA p0,ai p1,ai p2] (ab r) [] 0:=⟨by
 unfold e47 at h
 obtain⟨r1,h2,h⟩:=zC h
 obtain⟨h3,h⟩|⟨h3,h⟩:=spl h
 obtain⟨r4,h5,h⟩:=zC h
 have k:=oC 2 [] (c38 h5)<|oK 1 [] h3 (c68 h2) o0
 obtain⟨h6,h⟩|⟨h6,h⟩:=spl h
 cases h
 exact tF q47 0 [] (oB 0 h6 k)
 obtain⟨r7,h8,h⟩:=zC h
 exact tH q47 0 [] [] [] [2,7,8] (oD (dI r7)<|oC 1 [] (c18 h8)<|oB 0 h6 k) (zZI _ _ _ _ _ h)
 cases h
 exact tF q47 1 [] (oK 1 [] h3 (c68 h2) o0),⟨⟨tv,tv,⟨tv,dT _⟩,tv⟩,tv,tv,tv⟩,zB,tv,zB⟩
theorem zAP:∀(r l:List Int) (n:Int) (v:Nat) (acc:List Int) (done:Bool),l.drop v=r->l.length≤8192->acc.length≤v+1->(done=false->acc.length≤v)->v≤l.length ->
  Tot (fun q=>mO q l n acc done (v:Int)) fun o=>o.length≤acc.length+r.length+1∧(done=true->o.length≤acc.length+r.length)∧∀x,x∈o↔x∈acc∨x∈r∨(done=false∧x=n)
 | [],l,n,v,acc,done,hd,hl,ha,hb,hv=>by
  refine Tot.succ ?_
  simp only[mO]
  cases done with
  |true=>
   refine Tot.ite (fun _=>Tot.ite (fun h=>?_) fun _=>Tot.ret ⟨(by simp<;>omega),fun _=>(by simp),fun x=>by simp⟩) (fun h=>by cases h)
   rw[zZ hd]at h;cases h
  |false=>
   refine Tot.ite (fun h=>by cases h) (fun _=>Tot.ite (fun h=>?_) fun _=>Tot.pure (yD (by simp<;>omega)) (Tot.ret ⟨(by simp),fun h=>(by cases h),fun x=>by simp⟩))
   rw[zZ hd]at h;cases h
 |y::r,l,n,v,acc,done,hd,hl,ha,hb,hv=>by
  have hlt:=yC hd
  refine Tot.succ ?_
  simp only[mO]
  cases done with
  |true=>
   refine Tot.ite (fun _=>Tot.ite (fun _=>Tot.pure (zV hd) (Tot.pure (yD (by simp<;>omega)) ?_)) fun h=>?_) (fun h=>by cases h)
   ·rw[zU v (by omega)]
    refine(zAP r l n (v+1) (acc++[y]) true (zS hd) hl (by simp<;>omega) (fun h=>by cases h) (by omega)).mono fun o ho=>?_
    refine⟨by have:=ho.2.1 rfl;simp at this ⊢ <;> omega,fun _=>by have:=ho.2.1 rfl;simp at this ⊢ <;> omega,fun x=>?_⟩
    rw[ho.2.2 x];simp[or_assoc]
   ·rw[zY hd]at h;cases h
  |false=>
   have hb':=hb rfl
   refine Tot.ite (fun h=>by cases h) (fun _=>Tot.ite (fun _=>Tot.pure (zV hd) (Tot.ite (fun h1=>Tot.ite (fun h2=>Tot.pure (yD (by simp<;>omega)) (Tot.pure (yD (by simp<;>omega)) ?_)) fun h2=>Tot.pure (yD (by simp<;>omega)) ?_) fun h1=>Tot.pure (yD (by simp<;>omega)) ?_)) fun h=>?_)
   ·rw[zU v (by omega)]
    refine(zAP r l n (v+1) (acc++[n]++[y]) true (zS hd) hl (by simp<;>omega) (fun h=>by cases h) (by omega)).mono fun o ho=>?_
    refine⟨by have:=ho.2.1 rfl;simp at this ⊢ <;> omega,fun h=>(by cases h),fun x=>?_⟩
    rw[ho.2.2 x];simp;grind
   ·rw[zU v (by omega)]
    refine(zAP r l n (v+1) (acc++[y]) true (zS hd) hl (by simp<;>omega) (fun h=>by cases h) (by omega)).mono fun o ho=>?_
    have e:y=n:=by simp at h1 h2;omega
    subst e
    refine⟨by have:=ho.2.1 rfl;simp at this ⊢ <;> omega,fun h=>(by cases h),fun x=>?_⟩
    rw[ho.2.2 x];simp;grind
   ·rw[zU v (by omega)]
    refine(zAP r l n (v+1) (acc++[y]) false (zS hd) hl (by simp<;>omega) (fun _=>by simp<;>omega) (by omega)).mono fun o ho=>?_
    refine⟨by have:=ho.1;simp at this ⊢;omega,fun h=>(by cases h),fun x=>?_⟩
    rw[ho.2.2 x];simp;grind
   ·rw[zY hd]at h;cases h
theorem zUk(l:List Int)(n:Int)(hl:l.length≤8192):Tot (fun q=>e50 q l n) fun o=>o.length≤l.length+1∧∀x,x∈o↔x∈l∨x=n:=by
 simp only[e50]
 refine(zAP l l n 0 [] false rfl hl (by simp) (fun _=>by simp) (by omega)).mono fun o ho=>⟨by have:=ho.1;simpa using this,fun x=>by rw[ho.2.2 x];simp⟩
theorem zFQ{p:Tm}{a b:Int}{v:Nat}{r7:List Int}{Q:List Int->Prop}{N:Nat}{S:Int->Prop}(hN:N≤8192)(hr:r7.length≤8192)(hv:v<9223372036854775807)
  (K:∀acc:List Int,acc.length≤N->(∀x,x∈acc↔S x)->Tot (fun q=>nJ q p a b acc ((v+1:Nat):Int)) Q) :
  ∀(m:List Int) (w:Nat) (acc:List Int),r7.drop w=m->acc.length+m.length≤N->(∀x,(x∈acc∨x∈m)↔S x)->Tot (fun q=>bQ q p a b (v:Int) r7 (w:Int) acc) Q
 | [],w,acc,hd,hl,hm=>by
  refine Tot.succ ?_
  simp only[bQ]
  refine Tot.ite (fun h=>?_) fun _=>?_
  ·rw[zZ hd]at h;cases h
  ·rw[zU v (by omega)]
   exact K acc (by simpa using hl) fun x=>by simpa using hm x
 |y::m,w,acc,hd,hl,hm=>by
  have hlt:=yC hd
  refine Tot.succ ?_
  simp only[bQ]
  refine Tot.ite (fun _=>Tot.pure (zV hd) ((zUk acc y (by simp at hl;omega)).bind fun o ho=>?_)) fun h=>?_
  ·rw[zU w (by omega)]
   refine zFQ hN hr hv K m (w+1) o (zS hd) (by simp at hl;have:=ho.1;omega) fun x=>?_
   rw[←hm x,ho.2 x];simp[or_assoc]
  ·rw[zY hd]at h;cases h
def zZJ(r m:List Int):Prop:=∀x,x∈r↔x∈m
mutual
theorem gU:∀(t:Tm) (a b:Int),t.Ok->t.nodes≤8192->Tot (fun q=>e18 q t a b) fun o=>o.length≤t.nodes∧zZJ o (sW t a b)
 | .mk k n l,a,b,ho,hn=>by
  refine Tot.succ ?_
  simp only[e18,Tm.k,Tm.n]
  rw[Tm.nodes]at hn
  have key:∀acc:List Int,acc.length≤1->acc=(if k=a∨k=b then [n]else [])->Tot (fun q=>nJ q (.mk k n l) a b acc 0) fun o=>o.length≤(Tm.mk k n l).nodes∧zZJ o (sW (.mk k n l) a b):=by
   intro acc h1 h2
   refine(zAQ l (.mk k n l) 0 a b acc rfl ho.1 ho.2 (by omega)).mono fun o ho=>⟨by rw[Tm.nodes];have:=ho.1;omega,fun x=>?_⟩
   rw[ho.2 x,sW,h2];simp
  refine Tot.ite (fun h=>Tot.pure (yD (by simp)) ?_) fun h=>Tot.ite (fun h'=>Tot.pure (yD (by simp)) ?_) fun h'=>?_
  ·exact key _ (by simp) (by rw[if_pos (.inl (by simpa using h))];rfl)
  ·exact key _ (by simp) (by rw[if_pos (.inr (by simpa using h'))];rfl)
  ·exact key _ (by simp) (by rw[if_neg (by simp at h h';simp[h,h'])])
theorem zAQ:∀(l:List Tm) (p:Tm) (v:Nat) (a b:Int) (acc:List Int),p.sub.drop v=l->p.sub.length<9223372036854775808->OkL l->acc.length+yF l≤8192 ->
  Tot (fun q=>nJ q p a b acc (v:Int)) fun o=>o.length≤acc.length+yF l∧∀x,x∈o↔x∈acc∨x∈aV l a b
 | [],p,v,a,b,acc,hd,hl,ho,hn=>by
  refine Tot.succ ?_
  simp only[nJ]
  refine Tot.ite (fun h=>?_) fun _=>Tot.ret ⟨by omega,fun x=>by rw[aV];simp⟩
  rw[zZ hd]at h;cases h
 |t::l,p,v,a,b,acc,hd,hl,ho,hn=>by
  have hlt:=yC hd
  rw[yF]at hn
  have IH:=fun acc' h=>zAQ l p (v+1) a b acc' (zS hd) hl ho.2 h
  refine Tot.succ ?_
  simp only[nJ]
  refine Tot.ite (fun _=>Tot.pure (zV hd) ((gU t a b ho.1 (by omega)).bind fun r7 hr=>?_)) fun h=>?_
  ·refine zFQ (N:=acc.length+t.nodes) (S:=fun x=>x∈acc∨x∈sW t a b) (by omega) (by have:=hr.1;omega) (by omega) (fun acc' h1 h2=>?_) r7 0 acc rfl (by have:=hr.1;omega) fun x=>by rw[hr.2 x]
   refine(IH acc' (by omega)).mono fun o ho=>⟨by rw[yF];have:=ho.1;omega,fun x=>?_⟩
   rw[ho.2 x,h2 x,aV];simp[or_assoc]
  ·rw[zY hd]at h;cases h
end
theorem zUj:∀(r l:List Int) (n:Int) (v:Nat),l.drop v=r->l.length≤8192->Evt (fun q=>bR q n l (v:Int)) (r.all fun x=>decide (x<n))
 | [],l,n,v,hd,hl=>by
  refine Evt.succ ?_
  simp only[bR]
  exact Evt.ifF (zZ hd) Evt.ret
 |y::r,l,n,v,hd,hl=>by
  have hlt:=yC hd
  refine Evt.succ ?_
  simp only[bR]
  refine Evt.ifT (zY hd) (Evt.pure (zV hd) ?_)
  by_cases h:y≥n
  ·exact Evt.ifT (by simpa using h) (Evt.ret.eq (by simp<;>omega))
  ·refine Evt.ifF (by simpa using h) ?_
   rw[zU v (by omega)]
   refine(zUj r l n (v+1) (zS hd) hl).eq ?_
   simp[show y<n by omega]
theorem zUi{r m:List Int}(h:zZJ r m)(n:Int):(r.all fun x=>decide (x<n))=m.all fun x=>decide (x<n):=by
 rw[Bool.eq_iff_iff]
 simp only[List.all_eq_true]
 exact⟨fun k x hx=>k x ((h x).2 hx),fun k x hx=>k x ((h x).1 hx)⟩
theorem zQp(t:Tm)(f n:Int)(ho:t.Ok):Evt (fun q=>e47 q t f n) (tV t f n):=by
 simp only[e47]
 refine(zEm t ho).bind ?_
 unfold tV
 by_cases h:zL t=true
 ·have hs:=zO h
  refine Evt.ifT h ((zBJ t 0 hs.2.2 (by omega) (by omega)).bind ?_)
  rw[h]
  by_cases h2:mG t 0>f
  ·exact Evt.ifT (by simpa using h2) (Evt.ret.eq (by simp<;>omega))
  ·obtain⟨r,h3,h4,h5⟩:=gU t 6 7 ho hs.1
   refine Evt.ifF (by simpa using h2) (h3.bind ((zUj r r n 0 rfl (by omega)).eq ?_))
   rw[zUi h5,show decide (mG t 0≤f)=true by simp<;>omega];simp
 ·exact Evt.ifF (by simpa using h) (Evt.ret.eq (by simp[h]))
mutual
def chT(vs:List Tm):Tm->Tm
 | .mk k n l=>if k=8∧n<vs.length then nth vs n else .mk k n (chL vs l)
def chL(vs:List Tm):List Tm->List Tm
 | []=>[]
 |t::l=>chT vs t::chL vs l
end
theorem zOy(vs:List Tm):∀l:List Tm,chL vs l=l.map (chT vs)
 | []=>rfl
 |t::l=>by rw[chL,List.map_cons,zOy vs l]
theorem zZK(vs:List Tm)(n:Int)(a b:Tm):chT vs (.mk 5 n [a,b]) = .mk 5 n [chT vs a,chT vs b]:=by
 rw[chT,if_neg (by omega),chL,chL,chL]
theorem zZL(vs:List Tm)(n:Int):chT vs (.mk 6 n []) = .mk 6 n []:=by
 rw[chT,if_neg (by omega),chL]
theorem zXO(vs:List Tm):∀(l:List Tm) (f:Tm),chT vs (apT f l)=apT (chT vs f) (l.map (chT vs))
 | [],f=>by rw[apT,List.map_nil,apT]
 |a::l,f=>by rw[apT,zXO vs l,zZK,List.map_cons,apT]
inductive Pl (l:List Ent):Tm->Prop
 |var (m:Int):Pl l (.mk 8 m [])
 |con {t:Tm}:xZ l t->(∀a∈(arT t).take (ent l (hdT t).n).pars.toNat,∃i,a = .mk 6 i [])->(∀a∈sI l t,Pl l a)->Pl l t
theorem zKo{l:List Ent}{t:Tm}(hs:zL t=true)(h:xZ l t):hdT t = .mk 6 (hdT t).n []:=by
 have h1:=wN h.1 (by decide)
 have hg:=(zO (uJ hs)).2.2
 revert hg h1
 generalize hdT t=w
 obtain⟨k,n,ls⟩:=w
 intro h1 hg
 have h6:k=6:=h1.1
 have:=(xI (xH hg).1).2.2.2.2.2.2.2.1 (.inr (.inr (.inl h6)))
 have e:ls=[]:=this
 rw[e,h6];rfl
theorem zFR:∀(l:List Tm) (f b:Tm),apT f (l++[b]) = .mk 5 0 [apT f l,b]
 | [],f,b=>rfl
 |a::l,f,b=>by rw[List.cons_append,apT,zFR l,apT]
theorem zQo:∀t:Tm,yL t=true->apT (hdT t) (arT t)=t:=by
 refine kL ?_ ?_
 ·intro t hg hk
  rw[rK hk,rL hk];rfl
 ·intro n a b hg ha hb ih
  have hs:=xI (xH hg).1
  have hn1:n≤0:=(hs.2.2.2.2.2.1 (.inr (.inr rfl))).2
  have hn2:0≤n:=hs.2.2.1
  have hn:n=0:=by omega
  rw[nU,qU,zFR,ih,hn]
theorem zMm{l:List Ent}{t:Tm}(hs:zL t=true)(h:xZ l t):t=apT (.mk 6 (hdT t).n []) (arT t):=by
 have:=zQo t (zO hs).2.2
 rw[zKo hs h]at this
 exact this.symm
theorem zQn{l:List Ent}{x y:Tm}{k:Int}(hc:xZ l x)(h:Br l x y 0 k):y=x:=by
 have hk:=wN hc.1 (by decide)
 have ha:vO l x = .none:=by
  unfold vO
  rw[if_neg (by omega),if_neg (by rw[hc.1];decide),if_neg (by rw[hc.1];decide),if_neg (by omega)]
 cases h with
 |stop _=>rfl
 |redE a b=>exact absurd rfl b
 |red a _ _=>rw[ha]at a;cases a
 |tgtE a b c=>exact absurd rfl c
 |tgtN _ _ _=>rfl
 |tgtRE _ _ _ c=>exact absurd rfl c
 |tgtR a _ _ _ _=>rw[ha]at a;cases a
theorem zQm{l:List Ent}{m:Int}{y:Tm}{k:Int}(h:Br l (.mk 8 m []) y 0 k):y = .mk 8 m []:=by
 have e:hdT (Tm.mk 8 m []) = .mk 8 m []:=rK (by show (8:Int)≠5;decide)
 have ha:vO l (.mk 8 m []) = .none:=by
  unfold vO tZ
  rw[e]
  simp[Tm.k]
 cases h with
 |stop _=>rfl
 |redE a b=>exact absurd rfl b
 |red a _ _=>rw[ha]at a;cases a
 |tgtE a b c=>exact absurd rfl c
 |tgtN _ _ _=>rfl
 |tgtRE _ _ _ c=>exact absurd rfl c
 |tgtR a _ _ _ _=>rw[ha]at a;cases a
theorem Pl.still{l:List Ent}{x y:Tm}{k:Int}(hp:Pl l x)(h:Br l x y 0 k):y=x:=by
 cases hp with
 |var m=>exact zQm h
 |con a _ _=>exact zQn a h
theorem zKn{l:List Ent}{m:Int}:¬xZ l (.mk 8 m []):=fun h=>by
 have e:hdT (Tm.mk 8 m []) = .mk 8 m []:=rK (by show (8:Int)≠5;decide)
 have:=wN h.1 (by decide)
 rw[e]at this
 exact absurd this.1 (by show ¬(8:Int)=6;decide)
theorem Pl.own{l:List Ent}{x:Tm}(hp:Pl l x)(hc:xZ l x):(∀a∈(arT x).take (ent l (hdT x).n).pars.toNat,∃i,a = .mk 6 i [])∧∀a∈sI l x,Pl l a:=by
 cases hp with
 |var m=>exact absurd hc zKn
 |con _ b c=>exact⟨b,c⟩
theorem Pl.nodes{l:List Ent}{t:Tm}(hp:Pl l t):zL t=true->yU (fun k _=>k=5∨k=6∨k=8) t:=by
 induction hp with
 |var m=>exact fun _=>mM (.inr (.inr (.inr rfl)))
 | @con t hc hp ho ih=>
  intro hs
  rw[zMm hs hc]
  refine kZ _ _ (.inl rfl) (mM (.inr (.inr (.inl rfl)))) fun a ha=>?_
  rw[←List.take_append_drop (ent l (hdT t).n).pars.toNat (arT t)]at ha
  rcases List.mem_append.1 ha with h1|h1
  ·obtain⟨i,rfl⟩:=hp a h1
   exact mM (.inr (.inr (.inl rfl)))
  ·exact ih a h1 (yO hs (List.mem_of_mem_drop h1))
mutual
theorem zHi:∀(t:Tm) (b c:Int),yL t=true->lfT t b c 0=t
 | .mk kd n l,b,c,hg=>by
  rw[lfT]
  have hh:=xH hg
  by_cases h1:kd=1
  ·rw[if_pos h1]
   have hl:l=[]:=(xI hh.1).2.2.2.2.2.2.2.1 (.inl h1)
   rw[hl,h1]
   congr 1
   split
   ·split<;>omega
   ·rfl
  ·rw[if_neg h1,zKm l kd 0 b c hh.2]
theorem zKm:∀(l:List Tm) (kd:Int) (i:Nat) (b c:Int),xV l=true->lfL l kd i b c 0=l
 | [],_,_,_,_,_=>by rw[lfL]
 |t::l,kd,i,b,c,hg=>by
  have h:=xD hg
  rw[lfL,zHi t _ c h.1,zKm l kd (i+1) b c h.2]
end
mutual
theorem zXP{vs:List Tm}{a:Tm}{n:Int}(hg:yL a=true)(ha:chT vs a=chT vs (.mk 8 n [])):∀t:Tm,yL t=true->yU (fun k _=>k=5∨k=6∨k=8) t->chT vs (naT a n t 0)=chT vs t
 | .mk k m l,ht,h=>by
  have hh:=xH ht
  rw[naT]
  by_cases e:k=8∧m=n
  ·rw[if_pos e,zHi a 0 0 hg,ha,e.1,e.2]
   have hl:l=[]:=(xI hh.1).2.2.2.2.2.2.2.1 (.inr (.inr (.inr e.1)))
   rw[hl]
  ·rw[if_neg e]
   rw[yU]at h
   by_cases h5:k=5
   ·subst h5
    rw[chT,chT,if_neg (by omega),if_neg (by omega),zUh hg ha l 0 hh.2 h.2]
   ·have hl:l=[]:=by
     by_cases h7:k=1
     ·exact(xI hh.1).2.2.2.2.2.2.2.1 (.inl h7)
     ·have:k=6∨k=8:=by rcases h.1 with q|q<;>omega
      rcases this with q|q
      ·exact(xI hh.1).2.2.2.2.2.2.2.1 (.inr (.inr (.inl q)))
      ·exact(xI hh.1).2.2.2.2.2.2.2.1 (.inr (.inr (.inr q)))
    rw[hl,naL]
theorem zUh{vs:List Tm}{a:Tm}{n:Int}(hg:yL a=true)(ha:chT vs a=chT vs (.mk 8 n [])):∀(l:List Tm) (i:Nat),xV l=true->xY (fun k _=>k=5∨k=6∨k=8) l->chL vs (naL a n l 5 i 0)=chL vs l
 | [],_,_,_=>by rw[naL]
 |t::l,i,hl,h=>by
  have hc:=xD hl
  rw[xY]at h
  have e:xJ 5 i 0=0:=by unfold xJ;rw[if_neg (by omega)]
  rw[naL,chL,chL,e,zXP hg ha t hc.1 h.1,zUh hg ha l (i+1) hc.2 h.2]
end
theorem zHh{a:Tm}{n k m:Int}(h:¬(k=8∧m=n))(b:Int):naT a n (.mk k m []) b = .mk k m []:=by
 rw[naT,if_neg h,naL]
theorem zXQ(a:Tm)(n:Int):∀(l:List Tm) (f:Tm) (b:Int),naT a n (apT f l) b=apT (naT a n f b) (l.map fun x=>naT a n x b)
 | [],f,b=>by rw[apT,List.map_nil,apT]
 |x::l,f,b=>by
  rw[apT,zXQ a n l,List.map_cons,apT]
  congr 1
theorem Pl.na{l:List Ent}{a t:Tm}{n:Int}(ha:Pl l a)(hg:yL a=true)(hp:Pl l t):zL t=true->Pl l (naT a n t 0):=by
 induction hp with
 |var m=>
  intro _
  by_cases h:m=n
  ·subst h
   rw[naT,if_pos ⟨rfl,rfl⟩,zHi a 0 0 hg]
   exact ha
  ·rw[zHh (fun h2=>h h2.2)];exact .var m
 | @con t hc hp ho ih=>
  intro hs
  have e:naT a n t 0=apT (.mk 6 (hdT t).n []) ((arT t).map fun x=>naT a n x 0):=by
   conv=>lhs;rw[zMm hs hc]
   rw[zXQ,zHh (by omega)]
  have eh:hdT (naT a n t 0)=hdT t:=by rw[e,zHy,rK (by show (6:Int)≠5;decide)];exact(zKo hs hc).symm
  have ea:arT (naT a n t 0)=(arT t).map fun x=>naT a n x 0:=by rw[e,zHx,rL (by show (6:Int)≠5;decide),List.nil_append]
  refine .con ⟨by rw[eh];exact hc.1,by rw[eh,ea,List.length_map];exact hc.2⟩ ?_ ?_
  ·rw[eh,ea,←List.map_take]
   intro x hx
   obtain⟨y,hy,rfl⟩:=List.mem_map.1 hx
   obtain⟨i,rfl⟩:=hp y hy
   exact⟨i,zHh (by omega) 0⟩
  ·unfold sI
   rw[eh,ea,←List.map_drop]
   intro x hx
   obtain⟨y,hy,rfl⟩:=List.mem_map.1 hx
   exact ih y hy (yO hs (List.mem_of_mem_drop hy))
theorem zEj:∀(l:List Tm) (f:Tm),f.nodes≤(apT f l).nodes∧∀a∈l,a.nodes<(apT f l).nodes
 | [],f=>⟨by rw[apT];exact Nat.le_refl _,fun a h=>by cases h⟩
 |b::l,f=>by
  rw[apT]
  have h:=zEj l (.mk 5 0 [f,b])
  have e:(Tm.mk 5 0 [f,b]).nodes=1+(f.nodes+(b.nodes+0)):=by rw[Tm.nodes,yF,yF,yF]
  refine⟨by omega,fun a ha=>?_⟩
  rcases List.mem_cons.1 ha with rfl|ha
  ·omega
  ·exact h.2 a ha
theorem pX{l:List Ent}(vs:List Tm){t:Tm}(hs:zL t=true)(hc:xZ l t):chT vs t=apT (.mk 6 (hdT t).n []) ((arT t).map (chT vs)):=by
 conv=>lhs;rw[zMm hs hc]
 rw[zXO,zZL]
theorem Bnt.less{l:List Ent}{n:Int}{t:Tm}(vs:List Tm)(h:Bnt l n t):zL t=true->(chT vs (.mk 8 n [])).nodes<(chT vs t).nodes:=by
 induction h with
 | @here t a hc ha h8 hn=>
  intro hs
  have hm:=List.mem_of_mem_drop ha
  have e:a = .mk 8 n []:=by
   have hg:=(zO (yO hs hm)).2.2
   obtain⟨k,m,ls⟩:=a
   have h8':k=8:=h8
   have hn':m=n:=hn
   have hl:ls=[]:=(xI (xH hg).1).2.2.2.2.2.2.2.1 (.inr (.inr (.inr h8')))
   rw[h8',hn',hl]
  rw[pX vs hs hc]
  exact(zEj _ _).2 _ (List.mem_map.2 ⟨a,hm,by rw[e]⟩)
 | @deep t a hc ha _ ih=>
  intro hs
  have hm:=List.mem_of_mem_drop ha
  have h1:=ih (yO hs hm)
  rw[pX vs hs hc]
  exact Nat.lt_trans h1 ((zEj _ _).2 _ (List.mem_map.2 ⟨a,hm,rfl⟩))
theorem zUg{α β:Type}{f:α->β}:∀ {a b:List α},a.map f=b.map f->∀p∈List.zip a b,f p.1=f p.2
 | [],_,_,p,hp=>by simp at hp
 |_::_,[],h,_,_=>by simp at h
 |x::a,y::b,h,p,hp=>by
  rw[List.map_cons,List.map_cons,List.cons.injEq]at h
  rw[List.zip_cons_cons,List.mem_cons]at hp
  rcases hp with rfl|hp
  ·exact h.1
  ·exact zUg h.2 p hp
theorem zKl:∀ {a b:List Tm} {e:zD},e∈vU a b->(e.a_,e.b_)∈List.zip a b
 | [],_,e,h=>by simp[vU]at h
 |_::_,[],e,h=>by simp[vU]at h
 |x::a,y::b,e,h=>by
  rw[vU,List.zipWith_cons_cons,List.mem_cons]at h
  rcases h with rfl|h
  ·simp
  ·rw[List.zip_cons_cons,List.mem_cons];exact .inr (zKl (a:=a) (b:=b) h)
def EqG(l:List Ent)(vs:List Tm)(e:zD):Prop:=Pl l e.a_∧Pl l e.b_∧chT vs e.a_=chT vs e.b_
def SoG(l:List Ent)(vs:List Tm)(s:zI):Prop:=Pl l s.t_∧chT vs (.mk 8 s.n_ [])=chT vs s.t_
theorem zMl{t:Tm}{n:Int}(hs:zL t=true)(h8:t.k=8)(hn:t.n=n):t = .mk 8 n []:=by
 have hg:=(zO hs).2.2
 obtain⟨k,m,ls⟩:=t
 have h8':k=8:=h8
 have hn':m=n:=hn
 have hl:ls=[]:=(xI (xH hg).1).2.2.2.2.2.2.2.1 (.inr (.inr (.inr h8')))
 rw[h8',hn',hl]
theorem zDL.gen{l:List Ent}{vs:List Tm}{c:List zG}{e:zD}{n:Int}{t:Tm}(h:zDL l c e n t)(ha:wZ l e.a_)(hb:wZ l e.b_)(hg:EqG l vs e):Pl l t∧chT vs t=chT vs (.mk 8 n []):=by
 obtain⟨x,y,k,j,hx,hy,-,⟨h8,hn,rfl⟩|⟨h8,hn,rfl⟩⟩:=h
 ·have e1:=hg.1.still hx
  have e2:=hg.2.1.still hy
  subst e1;subst e2
  exact⟨hg.2.1,by have h3:=hg.2.2;rw[zMl (qM.1 ha).1 h8 hn]at h3;exact h3.symm⟩
 ·have e1:=hg.1.still hx
  have e2:=hg.2.1.still hy
  subst e1;subst e2
  exact⟨hg.1,by have h3:=hg.2.2;rw[zMl (qM.1 hb).1 h8 hn]at h3;exact h3⟩
theorem Un.gen{N:ByteArray->Bool}{l:List Ent}(hE:wI N l){vs:List Tm}{c:List zG}{td:List zD}{so:List zI}{r:Option (List zG×List zI)}{M:Nat}(h:Un l c td so r) :
  eE l c td so M->(∀e∈td,EqG l vs e)->(∀s∈so,SoG l vs s)->∃c' so',r=some (c',so')∧∀s∈so',SoG l vs s:=by
 induction h with
 | @done c so=>exact fun _ _ hs=>⟨c,so,rfl,hs⟩
 | @sol c d e td so n t r a b hp f g _ ih=>
  intro hI he hs
  have h0:=hI.may e (List.mem_cons_self ..)
  have hm:=a.may hE h0.1 h0.2
  have hv:=a.gen h0.1 h0.2 (he e (List.mem_cons_self ..))
  have hgt:=(zO (qM.1 hm.1).1).2.2
  have key:∀u:Tm,wZ l u->Pl l u->Pl l (naT t n u 0)∧chT vs (naT t n u 0)=chT vs u:=fun u h1 h2=>by
   have hsu:=(qM.1 h1).1
   exact⟨hv.1.na hgt h2 hsu,zXP hgt hv.2 u (zO hsu).2.2 (h2.nodes hsu)⟩
  refine ih (hI.solve hm.1 hm.2 b hp f g) (fun e' h'=>?_) fun s h'=>?_
  ·obtain⟨e2,h2,rfl⟩:=List.mem_map.1 h'
   have hmm:=hI.may e2 (List.mem_cons_of_mem _ h2)
   have hee:=he e2 (List.mem_cons_of_mem _ h2)
   have k1:=key _ hmm.1 hee.1
   have k2:=key _ hmm.2 hee.2.1
   exact⟨k1.1,k2.1,by show chT vs (naT t n e2.a_ 0)=chT vs (naT t n e2.b_ 0);rw[k1.2,k2.2,hee.2.2]⟩
  ·rcases List.mem_append.1 h' with h'|h'
   ·obtain⟨s2,h2,rfl⟩:=List.mem_map.1 h'
    have k1:=key _ (hI.sol s2 h2) (hs s2 h2).1
    exact⟨k1.1,by show chT vs (.mk 8 s2.n_ [])=chT vs (naT t n s2.t_ 0);rw[k1.2];exact(hs s2 h2).2⟩
   ·rw[List.mem_singleton.1 h']
    exact⟨hv.1,hv.2.symm⟩
 | @cyc c e td so n t a b=>
  intro hI he hs
  have h0:=hI.may e (List.mem_cons_self ..)
  have hm:=a.may hE h0.1 h0.2
  have hv:=a.gen h0.1 h0.2 (he e (List.mem_cons_self ..))
  have:=b.less vs (qM.1 hm.1).1
  rw[hv.2]at this
  exact absurd this (Nat.lt_irrefl _)
 | @conf c e td so x y k j a b cx cy hne=>
  intro hI he hs
  have h0:=hI.may e (List.mem_cons_self ..)
  have hg:=he e (List.mem_cons_self ..)
  have e1:=hg.1.still a
  have e2:=hg.2.1.still b
  subst e1;subst e2
  have h1:=hg.2.2
  rw[pX vs (qM.1 h0.1).1 cx,pX vs (qM.1 h0.2).1 cy]at h1
  have h2:=congrArg hdT h1
  have z:∀n,hdT (Tm.mk 6 n []) = .mk 6 n []:=fun n=>rK (by show (6:Int)≠5;decide)
  rw[zHy,zHy,z,z]at h2
  injection h2 with _ h3
  exact(hne h3).elim
 | @inj c e td so x y k j r a b cx cy heq _ _ ih=>
  intro hI he hs
  have h0:=hI.may e (List.mem_cons_self ..)
  have hg:=he e (List.mem_cons_self ..)
  have hI2:=hI.inj hE a b
  have e1:=hg.1.still a
  have e2:=hg.2.1.still b
  subst e1;subst e2
  refine ih hI2 (fun e' h'=>?_) hs
  rcases List.mem_append.1 h' with h'|h'
  ·have h1:=hg.2.2
   rw[pX vs (qM.1 h0.1).1 cx,pX vs (qM.1 h0.2).1 cy]at h1
   have h2:=congrArg arT h1
   have z:∀n,arT (Tm.mk 6 n [])=[]:=fun n=>rL (by show (6:Int)≠5;decide)
   rw[zHx,zHx,z,z,List.nil_append,List.nil_append]at h2
   have hm:=zAB h'
   refine⟨(hg.1.own cx).2 _ hm.1,(hg.2.1.own cy).2 _ hm.2,?_⟩
   refine zUg (f:=chT vs) (a:=sI l e.a_) (b:=sI l e.b_) ?_ (e'.a_,e'.b_) (zKl h')
   unfold sI
   rw[List.map_drop,List.map_drop,h2,heq]
  ·exact he e' (List.mem_cons_of_mem _ h')
def e49:Nat->Tm->Option (List Tm)
 |0,_=>none
 |qq+1,p0=>
 if p0.k != 5 then
 some []
 else
 zR p0.sub 0>>=fun x2=>
 e49 qq x2>>=fun r4=>
 zR p0.sub 1>>=fun x6=>
 yP 40 r4 [x6]>>=fun l8=>
 some l8
abbrev K49 (p0:Tm) (r:List Tm) (C:Cf):Prop:=C 49 [] [tmA p0] (slv zF r (.st 0 3)) [] 1
theorem q49:Qf 49 Tryz.f49:=⟨Tryz.func49,rfl⟩
theorem k49{p0 r}(h:K49 p0 r Ci):K49 p0 r Ct:=⟨h,⟨⟨tv,tv,⟨tv,dT _⟩,tv⟩,tv⟩,zB,dT _,zB⟩
theorem a49:∀qq:Nat,(∀p0 r,e49 qq p0=some r->K49 p0 r Ct):=by
 intro qq
 induction qq with
 |zero=>
  exact fun _ _ h=>nn h
 |succ qq ih=>
  intro p0 r h
  rw[e49]at h
  obtain⟨h1,h⟩|⟨h1,h⟩:=spl h
  obtain rfl:=sj h
  exact k49 (tG q49 1 [(none,2,3)] [] [0] true (oD (dT ([]:List Tm))<|oB 1 h1 o0))
  obtain⟨x2,h3,h⟩:=zC h
  obtain⟨r4,h5,h⟩:=zC h
  obtain⟨x6,h7,h⟩:=zC h
  obtain⟨l8,h9,h⟩:=zC h
  obtain rfl:=sj h
  exact k49 (tG q49 0 [] [] [1] true (oD (dT l8)<|oP 0 (wB h9 (by simp))<|oS 1 (yT xC [x6])<|oA 0 (yN (o:=.no) h7)<|oCl 0<|oC 1 [] (ih _ _ h5)<|oA 1 (yN (o:=.no) h3)<|oB 1 h1 o0))
theorem c49{qq p0 r}(h:e49 qq p0=some r):K49 p0 r Ct:=a49 _ _ _ h
def zBL:Nat->Int->Int->List Tm->Option Tm
 |0,_,_,_=>none
 |qq+1,zX,xK,xB=>
 if zX==5 then
 zR xB 0>>=fun x2=>
 zBL qq x2.k x2.n x2.sub
 else
 some (Tm.mk zX xK xB)
def e51(qq:Nat)(p0:Tm):Option Tm:=
 zBL qq p0.k p0.n p0.sub
theorem zZM:∀qq:Nat,(∀zX xK xB r,zBL qq zX xK xB=some r->(∀j,dL 0 (inn (inn (lft (rgt (bod Tryz.f51))))) (sp j 11 0 [(1,.mp 0 0),(2,.mp 1 0)]) (⟨[(0,.cells [ai zX,ai xK,slv zF xB .no]),(1,.cells [ai 0,ai 0,slv zF ([]:List Tm) .nl])],2,[],0,[]⟩) (fQ 0 (nQ 0 Tryz.f51 (tmA r) [] 0) [.blk 0,.seq (rgt (rgt (bod Tryz.f51)))]))):=by
 intro qq
 induction qq with
 |zero=>
  exact fun _ _ _ _ h=>nn h
 |succ qq ih=>
  intro zX xK xB r h
  rw[zBL]at h
  obtain⟨h1,h⟩|⟨h1,h⟩:=spl h
  obtain⟨x2,h3,h⟩:=zC h
  exact fun j=>lH 2 [] [0,1] [] [1,2] (oD (dT ([]:List Tm))<|oD (dT x2.sub)<|oA 1 (yN (o:=.no) h3)<|oB 1 h1 o0) (ih _ _ _ _ h)
  cases h
  exact fun j=>lF 2 [] (oD (dT xB)<|oB 1 h1 o0)
theorem c51{qq p0 r}(h:e51 qq p0=some r):Ct 51 [] [tmA p0] (tmA r) [] 0:=⟨by
 unfold e51 at h
 exact tH ⟨Tryz.func51,rfl⟩ 0 [] [0,1] [] [1,2] (oD (dT ([]:List Tm))<|oD (dT p0.sub) o0) (zZM _ _ _ _ _ h),⟨⟨tv,tv,⟨tv,dT _⟩,tv⟩,tv⟩,zB,⟨tv,tv,dT _,tv⟩,zB⟩
def e73(qq:Nat)(p0:List Ent)(p1 p2:Int):Option Bool:=
 if decide (p1≥0)then
 if decide (p1<(p0.length:Int))then
 zR p0 p1>>=fun x3=>
 some (x3.kind==p2)
 else
 some false
 else
 some false
theorem q73:Qf 73 Tryz.f73:=⟨Tryz.func73,rfl⟩
theorem c73{qq p0 p1 p2 r}(h:e73 qq p0 p1 p2=some r):Ct 73 [] [slv yQ p0 .no,ai p1,ai p2] (ab r) [] 0:=⟨by
 unfold e73 at h
 obtain⟨h1,h⟩|⟨h1,h⟩:=spl h
 have k:=oB 0 h1 o0
 obtain⟨h2,h⟩|⟨h2,h⟩:=spl h
 obtain⟨x3,h4,h⟩:=zC h
 cases h
 exact tF q73 2 [] (oA 0 (xM (o:=.no) h4)<|oB 1 h2 k)
 cases h
 exact tF q73 0 [] (oB 1 h2 k)
 cases h
 exact tF q73 0 [] (oB 0 h1 o0),⟨⟨tv,dE _⟩,tv,tv,tv⟩,zB,tv,zB⟩
def bS:Nat->List Tm->Int->Int->List Tm->Option (List Tm)
 |0,_,_,_,_=>none
 |qq+1,v3,zX,xK,xB=>
 if zX==3 then
 zR xB 0>>=fun x2=>
 yP 40 v3 [x2]>>=fun l4=>
 zR xB 1>>=fun x6=>
 bS qq l4 x6.k x6.n x6.sub
 else
 some v3
def e74(qq:Nat)(p0:Tm):Option (List Tm):=
 bS qq [] p0.k p0.n p0.sub
theorem zZN:∀qq:Nat,(∀v3 zX xK xB r,bS qq v3 zX xK xB=some r->(∀j,dL 0 (inn (inn (lft (rgt (rgt (bod Tryz.f74)))))) (sp j 20 0 [(1,.mp 0 0),(3,slv zF v3 (.st 0 3))]) (⟨[(0,.cells [ai zX,ai xK,slv zF xB .no])],1,[0],1,[]⟩) (fQ 0 (nQ 0 Tryz.f74 (.sl (zJ zF r) r.length .no) [] 0) [.blk 0,.seq (rgt (rgt (rgt (bod Tryz.f74))))]))):=by
 intro qq
 induction qq with
 |zero=>
  exact fun _ _ _ _ _ h=>nn h
 |succ qq ih=>
  intro v3 zX xK xB r h
  rw[bS]at h
  obtain⟨h1,h⟩|⟨h1,h⟩:=spl h
  obtain⟨x2,h3,h⟩:=zC h
  obtain⟨l4,h5,h⟩:=zC h
  obtain⟨x6,h7,h⟩:=zC h
  exact fun j=>lH 2 [] [0] [1] [1,3] (oD (dT l4)<|oD (dT x6.sub)<|oA 1 (yN (o:=.no) h7)<|oP 0 (wB h5 (by simp))<|oS 1 (yT xC [x2])<|oA 1 (yN (o:=.no) h3)<|oB 1 h1 o0) (ih _ _ _ _ _ h)
  obtain rfl:=sj h
  exact fun j=>lF 0 [] (oD (dT v3)<|oB 1 h1 o0)
theorem c74{qq p0 r}(h:e74 qq p0=some r):Ct 74 [] [tmA p0] (.sl (zJ zF r) r.length .no) [] 0:=⟨by
 unfold e74 at h
 exact tH ⟨Tryz.func74,rfl⟩ 1 [(none,3,3)] [0] [0] [1,3] (oD (dT ([]:List Tm))<|oD (dT p0.sub) o0) (zZN _ _ _ _ _ _ h),⟨⟨tv,tv,⟨tv,dT _⟩,tv⟩,tv⟩,zB,dT _,zB⟩
def e48(qq:Nat)(p0:List Ent)(p1:Tm):Option Int:=
 e51 qq p1>>=fun r1=>
 if r1.k != 6 then
 some (-1)
 else
 e73 qq p0 r1.n 2>>=fun r4=>
 if r4 then
 e49 qq p1>>=fun r7=>
 zR p0 r1.n>>=fun x9=>
 e74 qq x9.type>>=fun r11=>
 if (r7.length:Int) != (r11.length:Int)then
 some (-1)
 else
 some r1.n
 else
 some (-1)
theorem q48:Qf 48 Tryz.f48:=⟨Tryz.func48,rfl⟩
theorem c48{qq p0 p1 r}(h:e48 qq p0 p1=some r):Ct 48 [] [slv yQ p0 .no,tmA p1] (ai r) [] 0:=⟨by
 unfold e48 at h
 obtain⟨r1,h2,h⟩:=zC h
 have k:=oC 1 [] (c51 h2) o0
 obtain⟨h3,h⟩|⟨h3,h⟩:=spl h
 obtain rfl:=sj h
 exact tF q48 0 [] (oB 2 h3 k)
 obtain⟨r4,h5,h⟩:=zC h
 have k:=oB 2 h3 k
 obtain⟨h6,h⟩|⟨h6,h⟩:=spl h
 obtain⟨r7,h8,h⟩:=zC h
 obtain⟨x9,h10,h⟩:=zC h
 obtain⟨r11,h12,h⟩:=zC h
 have k:=oC 1 [] (c74 h12)<|oA 0 (xM (o:=.no) h10)<|oCl 1<|oC 2 [] (c49 h8)<|oK 1 [] h6 (c73 h5) k
 obtain⟨h13,h⟩|⟨h13,h⟩:=spl h
 obtain rfl:=sj h
 exact tF q48 0 [] (oB 1 h13 k)
 obtain rfl:=sj h
 exact tF q48 1 [] (oB 1 h13 k)
 obtain rfl:=sj h
 exact tF q48 1 [] (oK 1 [] h6 (c73 h5) k),⟨⟨tv,dE _⟩,⟨tv,tv,⟨tv,dT _⟩,tv⟩,tv⟩,zB,tv,zB⟩
mutual
def e17:Nat->List Ent->Tm->Option Bool
 |0,_,_=>none
 |qq+1,p0,p1=>
 if p1.k==8 then
 some true
 else
 e48 qq p0 p1>>=fun r2=>
 if decide (r2<0)then
 some false
 else
 e49 qq p1>>=fun r5=>
 nK qq p0 r2 r5 0
def nK:Nat->List Ent->Int->List Tm->Int->Option Bool
 |0,_,_,_,_=>none
 |qq+1,p0,r2,r5,v7=>
 if decide (v7<(r5.length:Int))then
 zR p0 r2>>=fun x8=>
 if decide (v7<x8.pars)then
 zR r5 v7>>=fun x11=>
 if x11.k != 6 then
 some false
 else
 zR p0 x11.n>>=fun x14=>
 if x14.kind != 1 then
 some false
 else
 if decide (v7≥x8.pars)then
 e17 qq p0 x11>>=fun r18=>
 if r18 then
 nK qq p0 r2 r5 (w64 (v7+1))
 else
 some false
 else
 nK qq p0 r2 r5 (w64 (v7+1))
 else
 if decide (v7≥x8.pars)then
 zR r5 v7>>=fun x22=>
 e17 qq p0 x22>>=fun r24=>
 if r24 then
 nK qq p0 r2 r5 (w64 (v7+1))
 else
 some false
 else
 nK qq p0 r2 r5 (w64 (v7+1))
 else
 some true
end
abbrev K17 (p0:List Ent) (p1:Tm) (r:Bool) (C:Cf):Prop:=C 17 [] [slv yQ p0 .no,tmA p1] (ab r) [] 0
theorem q17:Qf 17 Tryz.f17:=⟨Tryz.func17,rfl⟩
theorem k17{p0 p1 r}(h:K17 p0 p1 r Ci):K17 p0 p1 r Ct:=⟨h,⟨⟨tv,dE _⟩,⟨tv,tv,⟨tv,dT _⟩,tv⟩,tv⟩,zB,tv,zB⟩
theorem zQl:∀qq:Nat,(∀p0 p1 r,e17 qq p0 p1=some r->K17 p0 p1 r Ct)∧(∀p0 r2 r5 v7 r,nK qq p0 r2 r5 v7=some r->(∀j,dL 0 (inn (inn (rgt (lft (rgt (rgt (rgt (rgt (rgt (bod Tryz.f17)))))))))) (sp j 69 0 [(0,slv yQ p0 .no),(5,ai r2),(6,slv zF r5 (.st 0 3)),(7,ai v7)]) (⟨[],0,[0],1,[]⟩) (fQ 0 (nQ 0 Tryz.f17 (ab r) [] 0) [.blk 0,.seq (rgt (rgt (rgt (rgt (rgt (rgt (bod Tryz.f17)))))))]))):=by
 intro qq
 induction qq with
 |zero=>
  exact⟨fun _ _ _ h=>nn h,fun _ _ _ _ _ h=>nn h⟩
 |succ qq ih=>
  obtain⟨zXq,zAR⟩:=ih
  refine⟨?_,?_⟩
  intro p0 p1 r h
  rw[e17]at h
  obtain⟨h1,h⟩|⟨h1,h⟩:=spl h
  cases h
  exact k17 (tF q17 0 [] (oB 1 h1 o0))
  obtain⟨r2,h3,h⟩:=zC h
  have k:=oC 1 [] (c48 h3)<|oB 1 h1 o0
  obtain⟨h4,h⟩|⟨h4,h⟩:=spl h
  cases h
  exact k17 (tF q17 0 [] (oB 0 h4 k))
  obtain⟨r5,h6,h⟩:=zC h
  exact k17 (tH q17 0 [] [] [0] [0,5,6,7] (oD (dT r5)<|oD (dE p0)<|oC 1 [] (c49 h6)<|oB 0 h4 k) (zAR _ _ _ _ _ h))
  intro p0 r2 r5 v7 r h
  rw[nK]at h
  have z {os ob} (k:Oz os ob):=oD (dT r5)<|oD (dE p0)<|k
  obtain⟨h7,h⟩|⟨h7,h⟩:=spl h
  obtain⟨x8,h9,h⟩:=zC h
  have k:=oA 0 (xM (o:=.no) h9)<|oB 1 h7 o0
  obtain⟨h10,h⟩|⟨h10,h⟩:=spl h
  obtain⟨x11,h12,h⟩:=zC h
  have k:=oA 0 (yN (o:=(.st 0 3)) h12)<|oB 1 h10 k
  obtain⟨h13,h⟩|⟨h13,h⟩:=spl h
  cases h
  exact fun j=>lF 0 [] (oB 1 h13 k)
  obtain⟨x14,h15,h⟩:=zC h
  have k:=oA 1 (xM (o:=.no) h15)<|oA 0 (yN (o:=(.st 0 3)) h12)<|oB 1 h13 k
  obtain⟨h16,h⟩|⟨h16,h⟩:=spl h
  cases h
  exact fun j=>lF 0 [] (oB 1 h16 k)
  have k:=oA 0 (xM (o:=.no) h9)<|oB 1 h16 k
  obtain⟨h17,h⟩|⟨h17,h⟩:=spl h
  obtain⟨r18,h19,h⟩:=zC h
  have k:=oA 0 (yN (o:=(.st 0 3)) h12)<|oB 1 h17 k
  obtain⟨h20,h⟩|⟨h20,h⟩:=spl h
  exact fun j=>lH 2 [] [] [0] [0,5,6,7] (z<|oK 1 [] h20 (zXq _ _ _ h19) k) (zAR _ _ _ _ _ h)
  cases h
  exact fun j=>lF 1 [] (oK 1 [] h20 (zXq _ _ _ h19) k)
  exact fun j=>lH 1 [] [] [0] [0,5,6,7] (z<|oB 1 h17 k) (zAR _ _ _ _ _ h)
  have k:=oA 0 (xM (o:=.no) h9)<|oB 1 h10 k
  obtain⟨h21,h⟩|⟨h21,h⟩:=spl h
  obtain⟨x22,h23,h⟩:=zC h
  obtain⟨r24,h25,h⟩:=zC h
  have k:=oA 0 (yN (o:=(.st 0 3)) h23)<|oB 1 h21 k
  obtain⟨h26,h⟩|⟨h26,h⟩:=spl h
  exact fun j=>lH 2 [] [] [0] [0,5,6,7] (z<|oK 1 [] h26 (zXq _ _ _ h25) k) (zAR _ _ _ _ _ h)
  cases h
  exact fun j=>lF 1 [] (oK 1 [] h26 (zXq _ _ _ h25) k)
  exact fun j=>lH 1 [] [] [0] [0,5,6,7] (z<|oB 1 h21 k) (zAR _ _ _ _ _ h)
  cases h
  exact fun j=>lF 0 [] (oB 1 h7 o0)
theorem c17{qq p0 p1 r}(h:e17 qq p0 p1=some r):K17 p0 p1 r Ct:=(zQl _).1 _ _ _ h
mutual
def e20:Nat->List Tm->Tm->Option Tm
 |0,_,_=>none
 |qq+1,p0,p1=>
 if p1.k==8 then
 if decide (p1.n<(p0.length:Int))then
 zR p0 p1.n>>=fun x3=>
 some x3
 else
 jZ qq p0 p1 0 []
 else
 jZ qq p0 p1 0 []
def jZ:Nat->List Tm->Tm->Int->List Tm->Option Tm
 |0,_,_,_,_=>none
 |qq+1,p0,p1,v6,sN=>
 if decide (v6<(p1.sub.length:Int))then
 zR p1.sub v6>>=fun x6=>
 e20 qq p0 x6>>=fun r8=>
 yP 40 sN [r8]>>=fun l10=>
 jZ qq p0 p1 (w64 (v6+1)) l10
 else
 some (Tm.mk p1.k p1.n sN)
end
abbrev K20 (p0:List Tm) (p1 r:Tm) (C:Cf):Prop:=C 20 [] [slv zF p0 .no,tmA p1] (tmA r) [] 0
theorem q20:Qf 20 Tryz.f20:=⟨Tryz.func20,rfl⟩
theorem k20{p0 p1 r}(h:K20 p0 p1 r Ci):K20 p0 p1 r Ct:=⟨h,⟨⟨tv,dT _⟩,⟨tv,tv,⟨tv,dT _⟩,tv⟩,tv⟩,zB,⟨tv,tv,dT _,tv⟩,zB⟩
theorem zQk:∀qq:Nat,(∀p0 p1 r,e20 qq p0 p1=some r->K20 p0 p1 r Ct)∧(∀p0 p1 v6 sN r,jZ qq p0 p1 v6 sN=some r->(∀j,dL 0 (inn (inn (rgt (lft (rgt (rgt (rgt (bod Tryz.f20)))))))) (sp j 47 0 [(0,slv zF p0 .no),(3,.mp 0 0),(4,.mp 1 0),(5,.mp 2 0),(6,ai v6)]) (⟨[(0,.cells [ai p1.k,ai p1.n,slv zF p1.sub .no]),(1,.cells [ai 0,ai 0,slv zF ([]:List Tm) .nl]),(2,.cells [ai p1.k,ai p1.n,slv zF sN (.st 0 3)])],3,[0],1,[]⟩) (fQ 0 (nQ 0 Tryz.f20 (tmA r) [] 0) [.blk 0,.seq (rgt (rgt (rgt (rgt (bod Tryz.f20)))))]))):=by
 intro qq
 induction qq with
 |zero=>
  exact⟨fun _ _ _ h=>nn h,fun _ _ _ _ _ h=>nn h⟩
 |succ qq ih=>
  obtain⟨yDo,zHg⟩:=ih
  refine⟨?_,?_⟩
  intro p0 p1 r h
  rw[e20]at h
  have z {os ob} (k:Oz os ob):=oD (dT p0)<|oD (dT ([]:List Tm))<|oD (dT ([]:List Tm))<|oD (dT p1.sub)<|k
  obtain⟨h1,h⟩|⟨h1,h⟩:=spl h
  have k:=oB 1 h1 o0
  obtain⟨h2,h⟩|⟨h2,h⟩:=spl h
  obtain⟨x3,h4,h⟩:=zC h
  obtain rfl:=sj h
  exact k20 (tF q20 2 [] (oD (dT x3.sub)<|oA 1 (yN (o:=.no) h4)<|oB 2 h2 k))
  exact k20 (tH q20 3 [(some 2,2,3)] [0,1,2] [0] [0,3,4,5,6] (z<|oB 2 h2 k) (zHg _ _ _ _ _ h))
  exact k20 (tH q20 3 [(some 2,2,3)] [0,1,2] [0] [0,3,4,5,6] (z<|oB 1 h1 o0) (zHg _ _ _ _ _ h))
  intro p0 p1 v6 sN r h
  rw[jZ]at h
  obtain⟨h5,h⟩|⟨h5,h⟩:=spl h
  obtain⟨x6,h7,h⟩:=zC h
  obtain⟨r8,h9,h⟩:=zC h
  obtain⟨l10,h11,h⟩:=zC h
  exact fun j=>lH 2 [] [0,1,2] [1] [0,3,4,5,6] (oD (dT p0)<|oD (dT l10)<|oD (dT ([]:List Tm))<|oD (dT p1.sub)<|oP 0 (wB h11 (by simp))<|oS 0 (yT xC [r8])<|oC 1 [] (yDo _ _ _ h9)<|oA 1 (yN (o:=.no) h7)<|oCl 0<|oB 2 h5 o0) (zHg _ _ _ _ _ h)
  obtain rfl:=sj h
  exact fun j=>lF 2 [] (oD (dT sN)<|oB 2 h5 o0)
theorem c20{qq p0 p1 r}(h:e20 qq p0 p1=some r):K20 p0 p1 r Ct:=(zQk _).1 _ _ _ h
def rZ:List Ent:=match e13 300 with|some l=>l|none=>[]
theorem zUf{α:Type}{f:Nat->Option α}{r:α}(n:Nat)(h:∀q,f (q+n)=some r):Evt f r:=⟨n,fun q hq=>by have:=h (q-n);rwa[show q-n+n=q by omega]at this⟩
theorem zXp:Evt (fun q=>e13 q) rZ:=zUf 300 fun q=>by kernel_rfl
theorem zUe:Evt (fun q=>e87 q rZ) true:=zUf 1000 fun q=>by kernel_rfl
theorem zFS:rZ.length=23:=by kernel_rfl
def zZO(e:Ent):Bool:=(zL e.type||e.type.sub.isEmpty)&&(zL e.body||e.body.sub.isEmpty)&&Nat.ble e.cons.length 100&&Nat.ble e.fields.length 100
theorem zOx:rZ.all zZO=true:=by kernel_rfl
theorem yBU{t:Tm}(h:(zL t||t.sub.isEmpty)=true):t.Ok:=by
 rcases Bool.or_eq_true _ _ |>.mp h with h|h
 ·exact yA h
 ·obtain⟨k,n,l⟩:=t
  have:l=[]:=List.isEmpty_iff.1 h
  subst this
  exact xN k n
theorem zKk:∀e∈rZ,EOk e:=fun e h=>by
 have:=List.all_eq_true.1 zOx e h
 unfold zZO at this
 simp only[Bool.and_eq_true]at this
 obtain⟨⟨⟨a,b⟩,c⟩,d⟩:=this
 have c:=Nat.le_of_ble_eq_true c
 have d:=Nat.le_of_ble_eq_true d
 exact⟨yBU a,yBU b,by omega,by omega⟩
theorem zKj:∀e∈rZ,ECl e:=fun e h=>by
 have:=List.all_eq_true.1 zOx e h
 unfold zZO at this
 simp only[Bool.and_eq_true]at this
 obtain⟨⟨⟨a,b⟩,c⟩,d⟩:=this
 have c:=Nat.le_of_ble_eq_true c
 have d:=Nat.le_of_ble_eq_true d
 exact⟨by omega,by omega⟩
theorem zKi:∃N,wI N rZ∧Evt (fun q=>e27 q rZ) (zIX rZ true):=by
 obtain⟨N,hN⟩:=zIV
 obtain⟨b,hb,hA,hn⟩:=zNo N hN rZ (by rw[zFS];omega) zKk zKj
 have:=hb.det zUe
 subst this
 exact⟨N,hA rfl,hn⟩
theorem zUd{t:Tm}(hg:yL t=true):∃l y,pG (vS t) t=some (l,y)∧l.length=vS t∧y.k≠3∧yL y=true∧y.nodes≤t.nodes∧y.high≤t.high∧∀x∈l,yL x=true∧x.nodes≤t.nodes∧x.high≤t.high:=by
 obtain⟨r,hr⟩:=zRW t hg _ (Nat.le_refl _)
 obtain⟨h1,h2,h3,h4⟩:=zBo _ t r hg hr
 refine⟨r.1,r.2,hr,h1,fun h=>?_,h3.1,h3.2.1,h3.2.2,h4⟩
 obtain⟨a,b,hx,-,-⟩:=pP h3.1 h
 rw[hx,fI]at h2
 omega
theorem zUc:∀(n:Nat) (t:Tm),t.nodes≤n->vS t≤n
 |0,t,h=>by have:=wO t;omega
 |n+1,t,h=>by
  unfold vS
  split
  ·rename_i k m a b
   rw[Tm.nodes,yF,yF,yF]at h
   have:=wO a
   split
   ·have:=zUc n b (by omega);omega
   ·omega
  ·omega
theorem zKh:∀(n:Nat) (t:Tm) (l:List Tm) (y:Tm) (acc:List Tm),yL t=true->pG n t=some (l,y)->y.k≠3->acc.length+n≤100000->Evt (fun q=>bS q acc t.k t.n t.sub) (acc++l)
 |0,t,l,y,acc,_,h,hk,_=>by
  rw[pG]at h;cases h
  refine Evt.succ ?_
  simp only[bS]
  exact Evt.ifF (by simpa using hk) (Evt.ret.eq (by simp))
 |n+1,t,l,y,acc,hg,h,hk,hl=>by
  by_cases h3:t.k=3
  ·obtain⟨a,b,hx,hga,hgb⟩:=pP hg h3
   rw[hx,fH]at h
   obtain⟨r',h1,h2⟩:=Option.map_eq_some_iff.1 h
   cases h2
   refine Evt.succ ?_
   simp only[bS]
   have hs:t.sub=[a,b]:=by rw[hx];rfl
   rw[hs]
   refine Evt.ifT (by simp[h3]) (Evt.pure (a:=a) rfl (Evt.pure (yD (by simp;omega)) (Evt.pure (a:=b) rfl ?_)))
   exact(zKh n b r'.1 r'.2 (acc++[a]) hgb h1 hk (by simp;omega)).eq (by simp)
  ·rw[iX h3]at h;cases h
theorem zXo{t:Tm}(hg:yL t=true)(hn:t.nodes≤8192){l:List Tm}{y:Tm}(h:pG (vS t) t=some (l,y))(hk:y.k≠3):Evt (fun q=>e74 q t) l:=by
 simp only[e74]
 have:=zUc t.nodes t (Nat.le_refl _)
 exact(zKh (vS t) t l y [] hg h hk (by simp;omega)).eq (by simp)
theorem zEi{t:Tm}(hg:yL t=true)(h:t.k=5):∃a b,t = .mk 5 t.n [a,b]∧yL a=true∧yL b=true:=by
 obtain⟨k,n,l⟩:=t
 have hh:=xH hg
 replace h:k=5:=h
 subst h
 obtain⟨a,b,rfl⟩:=zRG ((xI hh.1).2.2.2.2.2.1 (.inr (.inr rfl))).1
 have hc:=xD hh.2
 exact⟨a,b,rfl,hc.1,(xD hc.2).1⟩
theorem zUb:∀(n:Nat) (t:Tm),yL t=true->t.nodes≤n->(arT t).length≤n
 |0,t,_,h=>by have:=wO t;omega
 |n+1,t,hg,h=>by
  by_cases h5:t.k=5
  ·obtain⟨a,b,hx,hga,-⟩:=zEi hg h5
   rw[hx]at h ⊢
   rw[Tm.nodes,yF,yF,yF]at h
   rw[qU,List.length_append]
   have:=zUb n a hga (by omega)
   have:=wO b
   simp;omega
  ·rw[rL h5];simp
theorem zEh:∀(n:Nat) (t:Tm),yL t=true->t.nodes≤n->n≤8192->Evt (fun q=>e49 q t) (arT t)
 |0,t,_,h,_=>by have:=wO t;omega
 |n+1,t,hg,h,hn=>by
  refine Evt.succ ?_
  simp only[e49]
  by_cases h5:t.k=5
  ·obtain⟨a,b,hx,hga,-⟩:=zEi hg h5
   have hs:t.sub=[a,b]:=by rw[hx];rfl
   have hnn:=fO t
   rw[hs,yF,yF,yF]at hnn
   have:=wO b
   rw[hs]
   have hle:=zUb n a hga (by omega)
   refine Evt.ifF (by simp[h5]) (Evt.pure (a:=a) rfl ((zEh n a hga (by omega) (by omega)).bind (Evt.pure (a:=b) rfl (Evt.pure (yD (by simp;omega)) (Evt.ret.eq ?_)))))
   rw[hx,qU]
  ·exact Evt.ifT (by simpa using h5) (Evt.ret.eq (rL h5).symm)
theorem zFT:∀(n:Nat) (t:Tm),yL t=true->t.nodes≤n->Evt (fun q=>zBL q t.k t.n t.sub) (hdT t)
 |0,t,_,h=>by have:=wO t;omega
 |n+1,t,hg,h=>by
  refine Evt.succ ?_
  simp only[zBL]
  by_cases h5:t.k=5
  ·obtain⟨a,b,hx,hga,-⟩:=zEi hg h5
   have hs:t.sub=[a,b]:=by rw[hx];rfl
   have hnn:=fO t
   rw[hs,yF,yF,yF]at hnn
   rw[hs]
   refine Evt.ifT (by simp[h5]) (Evt.pure (a:=a) rfl ((zFT n a hga (by omega)).eq ?_))
   rw[hx,nU]
  ·exact Evt.ifF (by simpa using h5) (Evt.ret.eq (by rw[rK h5,tW]))
theorem zZP(l:List Ent)(n kind:Int):Evt (fun q=>e73 q l n kind) (isT l n kind):=by
 simp only[e73]
 unfold isT
 by_cases h0:0≤n
 ·refine Evt.ifT (decide_eq_true h0) ?_
  by_cases h1:n<l.length
  ·exact Evt.ifT (decide_eq_true h1) (Evt.pure (yI h0 h1) (Evt.ret.eq (by simp[h0,h1])))
  ·exact Evt.ifF (decide_eq_false h1) (Evt.ret.eq (by simp[h1]))
 ·exact Evt.ifF (decide_eq_false h0) (Evt.ret.eq (by simp[h0]))
theorem zQj{t:Tm}(hs:zL t=true):∃L:List Tm,L.length=vS t∧Evt (fun q=>e74 q t) L:=by
 have hsp:=zO hs
 obtain⟨L,y,hL,hlen,hyk,hyg,hyn,hyh,hLg⟩:=zUd hsp.2.2
 exact⟨L,hlen,zXo hsp.2.2 hsp.1 hL hyk⟩
theorem zXn{N:ByteArray->Bool}(l:List Ent)(hE:wI N l)(t:Tm)(hs:zL t=true):Evt (fun q=>e48 q l t) (if xZ l t then(hdT t).n else -1):=by
 have h:=zO hs
 have hn:=jJ (zO (uJ hs)).2.2
 simp only[e48]
 refine Evt.bind (a:=hdT t) (by simp only[e51];exact zFT t.nodes t h.2.2 (Nat.le_refl _)) ?_
 by_cases h6:(hdT t).k=6
 ·refine Evt.ifF (by simpa using h6) ((zZP l (hdT t).n 2).bind ?_)
  by_cases hi:isT l (hdT t).n 2=true
  ·have hi':=uL hi
   have hst:=(yW (hE.2 _ hi'.1 hi'.2.1)).1
   have hst':=sS hst
   refine Evt.ifT hi ((zEh t.nodes t h.2.2 (Nat.le_refl _) h.1).bind (Evt.pure (yI hi'.1 hi'.2.1) ?_))
   obtain⟨L,hlen,hT⟩:=zQj hst'
   refine hT.bind ?_
   have hk:tZ l (hdT t)=2:=by unfold tZ;rw[if_pos h6,if_pos hi'.2.1];exact hi'.2.2
   by_cases hq:(arT t).length=L.length
   ·refine Evt.ifF (by simp[hq]) (Evt.ret.eq ?_)
    rw[if_pos];exact⟨hk,by rw[hq,hlen]⟩
   ·refine Evt.ifT (by simp;omega) (Evt.ret.eq ?_)
    rw[if_neg];intro hc;exact hq (by rw[hlen];exact hc.2)
  ·refine Evt.ifF (by simpa using hi) (Evt.ret.eq ?_)
   rw[if_neg]
   intro hc
   have:=wN hc.1 (by decide)
   exact hi (by unfold isT;simp[hn,this.2.1,this.2.2])
 ·refine Evt.ifT (by simpa using h6) (Evt.ret.eq ?_)
  rw[if_neg]
  intro hc
  exact h6 (wN hc.1 (by decide)).1
theorem yBV{a:Tm}(hs:zL a=true)(h6:a.k=6):∃i,a = .mk 6 i []:=by
 have hg:=(zO hs).2.2
 obtain⟨k,m,ls⟩:=a
 have h:k=6:=h6
 have hl:ls=[]:=(xI (xH hg).1).2.2.2.2.2.2.2.1 (.inr (.inr (.inl h)))
 exact⟨m,by rw[h,hl]⟩
theorem wZ.ent{l:List Ent}{i:Int}(h:wZ l (.mk 6 i [])):0≤i∧i<l.length:=by
 have h1:=qM.1 h
 have h2:=h1.2.2
 rw[yU]at h2
 refine⟨jJ (t:=.mk 6 i []) (zO h1.1).2.2,?_⟩
 rcases h2.1 with q|q
 ·omega
 ·exact q (.inl rfl)
theorem zEg(l:List Ent)(c:Int)(h0:0≤c)(h1:c<l.length)(L:List Tm)(hl:L.length≤8192)(hM:∀a∈L,wZ l a)(H:∀a∈L,Tot (fun q=>e17 q l a) fun b=>b=true->Pl l a):∀(r:List Tm) (v:Nat),L.drop v=r ->
  Tot (fun q=>nK q l c L (v:Int)) fun b=>b=true->∀(i:Nat) (a:Tm),v≤i->L[i]? = some a->((i:Int)<(ent l c).pars->∃n,a = .mk 6 n [])∧(¬(i:Int)<(ent l c).pars->Pl l a)
 | [],v,hd=>by
  refine Tot.succ ?_
  simp only[nK]
  refine Tot.ite (fun h=>?_) fun _=>Tot.ret fun _ i a hi ha=>?_
  ·rw[zZ hd]at h;cases h
  ·have:=List.drop_eq_nil_iff.1 hd
   have:=(List.getElem?_eq_some_iff.1 ha).1
   omega
 |x::r,v,hd=>by
  have hlt:=yC hd
  have hx:x∈L:=List.mem_of_mem_drop (by rw[hd];simp)
  have hxv:L[v]? = some x:=by rw[←List.head?_drop,hd];rfl
  have next:∀(P:((v:Int)<(ent l c).pars->∃n,x = .mk 6 n [])∧(¬(v:Int)<(ent l c).pars->Pl l x)),Tot (fun q=>nK q l c L (w64 ((v:Int)+1))) fun b=>b=true->∀(i:Nat) (a:Tm),v≤i->L[i]? = some a->((i:Int)<(ent l c).pars->∃n,a = .mk 6 n [])∧(¬(i:Int)<(ent l c).pars->Pl l a):=fun P=>by
   rw[zU v (by omega)]
   refine(zEg l c h0 h1 L hl hM H r (v+1) (zS hd)).mono fun b hb h i a hi ha=>?_
   by_cases e:i=v
   ·subst e
    rw[hxv]at ha
    cases ha
    exact P
   ·exact hb h i a (by omega) ha
  refine Tot.succ ?_
  simp only[nK]
  refine Tot.ite (fun _=>Tot.pure (yI h0 h1) (Tot.ite (fun hp=>Tot.pure (zV hd) (Tot.ite (fun _=>Tot.ret fun h=>by cases h) fun h6=>?_)) fun hp=>?_)) fun h=>?_
  ·have h6:x.k=6:=by simpa using h6
   obtain⟨n,rfl⟩:=yBV (qM.1 (hM x hx)).1 h6
   have hn:=(hM _ hx).ent
   have hp:=of_decide_eq_true hp
   refine Tot.pure (yI hn.1 hn.2) (Tot.ite (fun _=>Tot.ret fun h=>by cases h) fun _=>Tot.ite (fun h=>absurd (of_decide_eq_true h) (by omega)) fun _=>next ⟨fun _=>⟨n,rfl⟩,fun h=>absurd hp h⟩)
  ·have hp:=of_decide_eq_false hp
   refine Tot.ite (fun _=>Tot.pure (zV hd) ((H x hx).bind fun b hb=>Tot.ite (fun h=>next ⟨fun h2=>absurd h2 hp,fun _=>hb h⟩) fun _=>Tot.ret fun h=>by cases h)) fun h=>absurd (of_decide_eq_false h) (by omega)
  ·rw[zY hd]at h;cases h
theorem fV{N:ByteArray->Bool}{l:List Ent}(hE:wI N l):∀(n:Nat) (t:Tm),t.nodes≤n->wZ l t->Tot (fun q=>e17 q l t) fun b=>b=true->Pl l t
 |0,t,hn,_=>by have:=wO t;omega
 |n+1,t,hn,hm=>by
  have hs:=(qM.1 hm).1
  have hsp:=zO hs
  refine Tot.succ ?_
  simp only[e17]
  refine Tot.ite (fun h8=>Tot.ret fun _=>?_) fun _=>?_
  ·rw[zMl hs (by simpa using h8) rfl];exact .var _
  ·refine Tot.bind (P:=fun r=>r=if xZ l t then(hdT t).n else -1) ((zXn l hE t hs).tot rfl) fun c hc=>?_
   by_cases hC:xZ l t
   ·rw[if_pos hC]at hc
    subst hc
    have hi:=wY hs hC
    refine Tot.ite (fun h=>absurd (of_decide_eq_true h) (by omega)) fun _=>Tot.bind (P:=fun r=>r=arT t) ((zEh t.nodes t hsp.2.2 (Nat.le_refl _) hsp.1).tot rfl) fun r hr=>?_
    subst hr
    have hlen:=zUb t.nodes t hsp.2.2 (Nat.le_refl _)
    refine(zEg l (hdT t).n hi.1 hi.2.1 (arT t) (by omega) (fun a ha=>(hm.ar ha).1) (fun a ha=>fV hE n a ?_ (hm.ar ha).1) _ 0 rfl).mono fun b hb h=>?_
    ·have:=((aW t hsp.2.2).2.2.2.2 a ha).2.1
     omega
    ·have key:=hb h
     refine .con hC (fun a ha=>?_) fun a ha=>?_
     ·obtain⟨i,hi⟩:=List.mem_iff_getElem?.1 ha
      rw[List.getElem?_take]at hi
      split at hi
      ·exact(key i a (Nat.zero_le _) hi).1 (by omega)
      ·cases hi
     ·unfold sI at ha
      obtain⟨i,hi⟩:=List.mem_iff_getElem?.1 ha
      rw[List.getElem?_drop]at hi
      exact(key _ a (Nat.zero_le _) hi).2 (by omega)
   ·rw[if_neg hC]at hc
    subst hc
    exact Tot.ite (fun _=>Tot.ret fun h=>by cases h) fun h=>by cases h
mutual
theorem zOw:∀s t:Tm,s.Ok->Tot (fun q=>e19 q s t) fun b=>b=true->s=t
 | .mk k n l,t,ho=>by
  rw[Tm.Ok]at ho
  refine Tot.succ ?_
  simp only[e19]
  refine Tot.ite (fun _=>Tot.ret fun h=>by cases h) fun h1=>Tot.ite (fun _=>Tot.ret fun h=>by cases h) fun h2=>Tot.ite (fun _=>Tot.ret fun h=>by cases h) fun h3=>?_
  have h1:k=t.k:=by simpa[Tm.k]using h1
  have h2:n=t.n:=by simpa[Tm.n]using h2
  have h3:l.length=t.sub.length:=by have:=(by simpa[Tm.sub]using h3:(l.length:Int)=t.sub.length);omega
  refine(zKg l (.mk k n l) t 0 rfl h3 ho.1 ho.2).mono fun b hb h=>?_
  have:=hb h
  rw[List.drop_zero]at this
  rw[h1,h2,←this,tW]
theorem zKg:∀(r:List Tm) (s t:Tm) (v:Nat),s.sub.drop v=r->s.sub.length=t.sub.length->s.sub.length<9223372036854775808->OkL r->Tot (fun q=>mN q s t (v:Int)) fun b=>b=true->t.sub.drop v=r
 | [],s,t,v,hd,hl,hs,ho=>by
  refine Tot.succ ?_
  simp only[mN]
  refine Tot.ite (fun h=>?_) fun _=>Tot.ret fun _=>?_
  ·rw[zZ hd]at h;cases h
  ·exact List.drop_eq_nil_iff.2 (by rw[←hl];exact List.drop_eq_nil_iff.1 hd)
 |x::r,s,t,v,hd,hl,hs,ho=>by
  have hlt:=yC hd
  rw[OkL]at ho
  obtain⟨y,hy⟩:∃y,t.sub[v]? = some y:=⟨_,List.getElem?_eq_getElem (by omega)⟩
  refine Tot.succ ?_
  simp only[mN]
  refine Tot.ite (fun _=>Tot.pure (zV hd) (Tot.pure (uS hy) ((zOw x y ho.1).bind fun b hb=>Tot.ite (fun h=>?_) fun _=>Tot.ret fun h=>by cases h))) fun h=>?_
  ·rw[zU v (by omega)]
   refine(zKg r s t (v+1) (zS hd) hl hs ho.2).mono fun b2 hb2 h2=>?_
   obtain⟨g1,g2⟩:=List.getElem?_eq_some_iff.1 hy
   rw[List.drop_eq_getElem_cons g1,g2,hb2 h2,hb h]
  ·rw[zY hd]at h;cases h
end
mutual
theorem lQ(vs:List Tm)(hv:vs.length≤8):∀t:Tm,yL t=true->Evt (fun q=>e20 q vs t) (chT vs t)
 | .mk k n l,hg=>by
  have hh:=xH hg
  have hn:=mH hh.1
  have rest:¬(k=8∧n<vs.length)->Evt (fun q=>jZ q vs (.mk k n l) 0 []) (chT vs (.mk k n l)):=fun h=>by
   rw[chT,if_neg h]
   exact(zEf vs hv l (.mk k n l) 0 [] rfl hn.2.2.2.2 hh.2 rfl).eq rfl
  refine Evt.succ ?_
  simp only[e20]
  by_cases h8:k=8
  ·by_cases h9:n<vs.length
   ·refine Evt.ifT (by simpa[Tm.k]using h8) (Evt.ifT (decide_eq_true h9) (Evt.pure (a:=nth vs n) ?_ (Evt.ret.eq (by rw[chT,if_pos ⟨h8,h9⟩]))))
    have hlt:n.toNat<vs.length:=by omega
    show zR vs n=_
    rw[show n=((n.toNat:Nat):Int) by omega,uS (List.getElem?_eq_getElem hlt)]
    unfold nth
    rw[Int.toNat_natCast,List.getElem?_eq_getElem hlt];rfl
   ·exact Evt.ifT (by simpa[Tm.k]using h8) (Evt.ifF (decide_eq_false h9) (rest fun h=>h9 h.2))
  ·exact Evt.ifF (by simpa[Tm.k]using h8) (rest fun h=>h8 h.1)
theorem zEf(vs:List Tm)(hv:vs.length≤8):∀(r:List Tm) (p:Tm) (v:Nat) (acc:List Tm),p.sub.drop v=r->p.sub.length≤2->xV r=true->acc.length=v->Evt (fun q=>jZ q vs p (v:Int) acc) (.mk p.k p.n (acc++chL vs r))
 | [],p,v,acc,hd,hl,hg,ha=>by
  refine Evt.succ ?_
  simp only[jZ]
  exact Evt.ifF (zZ hd) (Evt.ret.eq (by rw[chL,List.append_nil]))
 |x::r,p,v,acc,hd,hl,hg,ha=>by
  have hlt:=yC hd
  have hc:=xD hg
  refine Evt.succ ?_
  simp only[jZ]
  refine Evt.ifT (zY hd) (Evt.pure (zV hd) ((lQ vs hv x hc.1).bind (Evt.pure (yD (by simp;omega)) ?_)))
  rw[zU v (by omega)]
  refine(zEf vs hv r p (v+1) _ (zS hd) hl hc.2 (by simp;omega)).eq ?_
  rw[chL];simp
end
mutual
theorem zMk(vs:List Tm)(hv:∀v∈vs,v.Ok):∀t:Tm,t.Ok->(chT vs t).Ok
 | .mk k n l,ho=>by
  rw[chT]
  split
  ·unfold nth
   cases h:vs[n.toNat]? with
   |none=>exact xN 0 0
   |some a=>exact hv a (List.mem_of_getElem? h)
  ·rw[Tm.Ok]at ho ⊢
   have:=zUa vs hv l ho.2
   exact⟨by rw[zOy,List.length_map];exact ho.1,this⟩
theorem zUa(vs:List Tm)(hv:∀v∈vs,v.Ok):∀l:List Tm,OkL l->OkL (chL vs l)
 | [],_=>by rw[chL,OkL];trivial
 |t::l,ho=>by
  rw[OkL]at ho
  rw[chL,OkL]
  exact⟨zMk vs hv t ho.1,zUa vs hv l ho.2⟩
end
theorem zBM:Evt (fun q=>e8 q>>=fun r=>some r) true:=zMn.bind Evt.ret
def e16(qq:Nat)(p0:List Ent)(p1:Tm):Option Bool:=
 e47 qq p1 0 (p0.length:Int)>>=fun r1=>
 some r1
theorem c16{qq p0 p1 r}(h:e16 qq p0 p1=some r):Ct 16 [] [slv yQ p0 .no,tmA p1] (ab r) [] 0:=⟨by
 unfold e16 at h
 obtain⟨r1,h2,h⟩:=zC h
 obtain rfl:=sj h
 exact tF ⟨Tryz.func16,rfl⟩ 0 [] (oC 2 [] (c47 h2) o0),⟨⟨tv,dE _⟩,⟨tv,tv,⟨tv,dT _⟩,tv⟩,tv⟩,zB,tv,zB⟩
def bT:Nat->List Ent->List Tm->Int->Option Bool
 |0,_,_,_=>none
 |qq+1,p0,l10,v10=>
 if decide (v10<(l10.length:Int))then
 zR l10 v10>>=fun x14=>
 e16 qq p0 x14>>=fun r16=>
 if r16 then
 bT qq p0 l10 (w64 (v10+1))
 else
 some false
 else
 some true
def e14(qq:Nat)(p0:List Ent)(p1:List yZ)(p2 p3:List Tm):Option Bool:=
 e12 qq p1>>=fun r1=>
 if r1 then
 if (p2.length:Int) != (p3.length:Int)then
 some false
 else
 e31 qq p1>>=fun r5=>
 yP 40 r5 p2>>=fun l7=>
 yP 40 l7 p3>>=fun l10=>
 bT qq p0 l10 0
 else
 some false
theorem q14:Qf 14 Tryz.f14:=⟨Tryz.func14,rfl⟩
theorem zHf:∀qq:Nat,(∀p0 l10 v10 r,bT qq p0 l10 v10=some r->(∀j,dL 0 (inn (inn (rgt (lft (rgt (rgt (rgt (bod Tryz.f14)))))))) (sp j 40 0 [(0,slv yQ p0 .no),(9,slv zF l10 (.st 0 3)),(10,ai v10)]) (⟨[],0,[0],1,[]⟩) (fQ 0 (nQ 0 Tryz.f14 (ab r) [] 0) [.blk 0,.seq (rgt (rgt (rgt (rgt (bod Tryz.f14)))))]))):=by
 intro qq
 induction qq with
 |zero=>
  exact fun _ _ _ _ h=>nn h
 |succ qq ih=>
  intro p0 l10 v10 r h
  rw[bT]at h
  obtain⟨h13,h⟩|⟨h13,h⟩:=spl h
  obtain⟨x14,h15,h⟩:=zC h
  obtain⟨r16,h17,h⟩:=zC h
  have k:=oA 0 (yN (o:=(.st 0 3)) h15)<|oB 1 h13 o0
  obtain⟨h18,h⟩|⟨h18,h⟩:=spl h
  exact fun j=>lH 2 [] [] [0] [0,9,10] (oD (dT l10)<|oD (dE p0)<|oK 1 [] h18 (c16 h17) k) (ih _ _ _ _ h)
  cases h
  exact fun j=>lF 1 [] (oK 1 [] h18 (c16 h17) k)
  cases h
  exact fun j=>lF 0 [] (oB 1 h13 o0)
theorem c14{qq p0 p1 p2 p3 r}(h:e14 qq p0 p1 p2 p3=some r):Ct 14 [] [slv yQ p0 .no,slv wM p1 .no,slv zF p2 .no,slv zF p3 .no] (ab r) [] 0:=⟨by
 unfold e14 at h
 obtain⟨r1,h2,h⟩:=zC h
 obtain⟨h3,h⟩|⟨h3,h⟩:=spl h
 have k:=oK 0 [] h3 (c12 h2) o0
 obtain⟨h4,h⟩|⟨h4,h⟩:=spl h
 cases h
 exact tF q14 0 [] (oB 3 h4 k)
 obtain⟨r5,h6,h⟩:=zC h
 obtain⟨l7,h8,h⟩:=zC h
 have k:=oC 0 [] (c31 h6)<|oB 3 h4 k
 by_cases h9:List.length p2=0
 obtain⟨l10,h11,h⟩:=zC h
 have k:=oP 0 (sQ h8 h9) k
 by_cases h12:List.length p3=0
 exact tH q14 0 [] [] [0] [0,9,10] (oD (dT l10)<|oD (dE p0)<|oP 0 (sQ h11 h12) k) (zHf _ _ _ _ _ h)
 exact tH q14 0 [] [] [1] [0,9,10] (oD (dT l10)<|oD (dE p0)<|oP 0 (wB h11 h12) k) (zHf _ _ _ _ _ h)
 obtain⟨l10,h11,h⟩:=zC h
 have k:=oP 0 (wB h8 h9) k
 by_cases h12:List.length p3=0
 exact tH q14 0 [] [] [1] [0,9,10] (oD (dT l10)<|oD (dE p0)<|oP 0 (sQ h11 h12) k) (zHf _ _ _ _ _ h)
 exact tH q14 0 [] [] [2] [0,9,10] (oD (dT l10)<|oD (dE p0)<|oP 0 (wB h11 h12) k) (zHf _ _ _ _ _ h)
 cases h
 exact tF q14 1 [] (oK 0 [] h3 (c12 h2) o0),⟨⟨tv,dE _⟩,⟨tv,wR _⟩,⟨tv,dT _⟩,⟨tv,dT _⟩,tv⟩,zB,tv,zB⟩
def zEe:Nat->List Tm->(yH×Int)->Int->Option Bool
 |0,_,_,_=>none
 |qq+1,p1,r64,v10=>
 if decide (v10<(r64.1.solved_.length:Int))then
 zR r64.1.solved_ v10>>=fun x71=>
 e21 qq x71.n_>>=fun r73=>
 e20 qq p1 r73>>=fun r75=>
 e20 qq p1 x71.t_>>=fun r77=>
 e19 qq r75 r77>>=fun r79=>
 if r79 then
 zEe qq p1 r64 (w64 (v10+1))
 else
 some false
 else
 e8 qq>>=fun r82=>
 some r82
def zEd:Nat->vJ->List Tm->List Ent->Int->Option Bool
 |0,_,_,_,_=>none
 |qq+1,p0,p1,r1,v7=>
 if decide (v7<(p0.a_.length:Int))then
 zR p0.a_ v7>>=fun x41=>
 e17 qq r1 x41>>=fun r43=>
 if r43 then
 zR p0.b_ v7>>=fun x46=>
 e17 qq r1 x46>>=fun r48=>
 if r48 then
 e20 qq p1 x41>>=fun r51=>
 e20 qq p1 x46>>=fun r53=>
 e19 qq r51 r53>>=fun r55=>
 if r55 then
 zEd qq p0 p1 r1 (w64 (v7+1))
 else
 e8 qq>>=fun r58=>
 some r58
 else
 e8 qq>>=fun r60=>
 some r60
 else
 e8 qq>>=fun r62=>
 some r62
 else
 e9 qq r1 p0>>=fun r64=>
 if r64.2 != 0 then
 e8 qq>>=fun r67=>
 some r67
 else
 if r64.1.yes_ then
 zEe qq p1 r64 0
 else
 some false
def zEc:Nat->vJ->List Tm->List Ent->Int->Option Bool
 |0,_,_,_,_=>none
 |qq+1,p0,p1,r1,v6=>
 if decide (v6<(p1.length:Int))then
 zR p1 v6>>=fun x18=>
 e15 qq x18>>=fun r20=>
 if decide (r20>100)then
 e8 qq>>=fun r23=>
 some r23
 else
 e16 qq r1 x18>>=fun r25=>
 if r25 then
 e17 qq r1 x18>>=fun r28=>
 if r28 then
 e18 qq x18 8 8>>=fun r31=>
 if decide ((r31.length:Int)>0)then
 e8 qq>>=fun r34=>
 some r34
 else
 zEc qq p0 p1 r1 (w64 (v6+1))
 else
 e8 qq>>=fun r36=>
 some r36
 else
 e8 qq>>=fun r38=>
 some r38
 else
 zEd qq p0 p1 r1 0
def e4(qq:Nat)(p0:vJ)(p1:List Tm):Option Bool:=
 e13 qq>>=fun r1=>
 e7 qq p0>>=fun r3=>
 if r3 then
 if decide ((p1.length:Int)>8)then
 e8 qq>>=fun r7=>
 some r7
 else
 if decide ((p1.length:Int)<1)then
 e8 qq>>=fun r10=>
 some r10
 else
 e10 qq p0.c_>>=fun r12=>
 e14 qq r1 r12 p0.a_ p0.b_>>=fun r14=>
 if r14 then
 zEc qq p0 p1 r1 0
 else
 e8 qq>>=fun r17=>
 some r17
 else
 e8 qq>>=fun r19=>
 some r19
theorem q4:Qf 4 Tryz.f4:=⟨Tryz.func4,rfl⟩
theorem yBW:∀qq:Nat,(∀p1 r64 v10 r,zEe qq p1 r64 v10=some r->(∀j,dL 0 (inn (inn (rgt (lft (rgt (rgt (rgt (rgt (rgt (rgt (rgt (rgt (bod Tryz.f4))))))))))))) (sp j 161 0 [(1,slv zF p1 .no),(8,.mp 0 0),(10,ai v10)]) (⟨[(0,.cells [ab r64.1.yes_,slv zK r64.1.vars_ .no,slv zQ r64.1.solved_ .no,slv zW r64.1.steps_ .no])],1,[],0,[]⟩) (fQ 0 (nQ 0 Tryz.f4 (ab r) [] 0) [.blk 4,.seq (rgt (rgt (rgt (rgt (rgt (rgt (rgt (rgt (rgt (bod Tryz.f4))))))))))]))):=by
 intro qq
 induction qq with
 |zero=>
  exact fun _ _ _ _ h=>nn h
 |succ qq ih=>
  intro p1 r64 v10 r h
  rw[zEe]at h
  obtain⟨h70,h⟩|⟨h70,h⟩:=spl h
  obtain⟨x71,h72,h⟩:=zC h
  obtain⟨r73,h74,h⟩:=zC h
  obtain⟨r75,h76,h⟩:=zC h
  obtain⟨r77,h78,h⟩:=zC h
  obtain⟨r79,h80,h⟩:=zC h
  have k:=oC 1 [] (c20 h78)<|oA 0 (zRm (o:=.no) h72)<|oCl 0<|oC 0 [] (c20 h76)<|oC 1 [] (c21 h74)<|oA 1 (zRm (o:=.no) h72)<|oB 2 h70 o0
  obtain⟨h81,h⟩|⟨h81,h⟩:=spl h
  exact fun j=>lH 2 [] [0] [] [1,8,10] (oD (dT p1)<|oD (dI r64.1.steps_)<|oD (zM r64.1.solved_)<|oD (zH r64.1.vars_)<|oK 0 [] h81 (c19 h80) k) (ih _ _ _ _ h)
  obtain rfl:=sj h
  exact fun j=>lF 1 [] (oK 0 [] h81 (c19 h80) k)
  obtain⟨r82,h83,h⟩:=zC h
  obtain rfl:=sj h
  exact fun j=>lF 0 [] (oC 0 [] (c8 h83)<|oB 2 h70 o0)
theorem yBX:∀qq:Nat,(∀p0 p1 r1 v7 r,zEd qq p0 p1 r1 v7=some r->(∀j,dL 0 (inn (inn (rgt (lft (rgt (rgt (rgt (rgt (bod Tryz.f4))))))))) (sp j 161 0 [(1,slv zF p1 .no),(2,.mp 0 0),(5,slv yQ r1 .no),(7,ai v7)]) (⟨[(0,.cells [slv zK p0.c_ .no,slv zF p0.a_ .no,slv zF p0.b_ .no,ai p0.fuel_])],1,[],0,[]⟩) (fQ 0 (nQ 0 Tryz.f4 (ab r) [] 0) [.blk 2,.seq (rgt (rgt (rgt (rgt (rgt (bod Tryz.f4))))))]))):=by
 intro qq
 induction qq with
 |zero=>
  exact fun _ _ _ _ _ h=>nn h
 |succ qq ih=>
  intro p0 p1 r1 v7 r h
  rw[zEd]at h
  obtain⟨h40,h⟩|⟨h40,h⟩:=spl h
  obtain⟨x41,h42,h⟩:=zC h
  obtain⟨r43,h44,h⟩:=zC h
  have k:=oA 1 (yN (o:=.no) h42)<|oB 2 h40 o0
  obtain⟨h45,h⟩|⟨h45,h⟩:=spl h
  obtain⟨x46,h47,h⟩:=zC h
  obtain⟨r48,h49,h⟩:=zC h
  have k:=oA 2 (yN (o:=.no) h47)<|oK 1 [] h45 (c17 h44) k
  obtain⟨h50,h⟩|⟨h50,h⟩:=spl h
  obtain⟨r51,h52,h⟩:=zC h
  obtain⟨r53,h54,h⟩:=zC h
  obtain⟨r55,h56,h⟩:=zC h
  have k:=oC 1 [] (c20 h54)<|oA 0 (yN (o:=.no) h47)<|oCl 0<|oC 1 [] (c20 h52)<|oA 2 (yN (o:=.no) h42)<|oK 1 [] h50 (c17 h49) k
  obtain⟨h57,h⟩|⟨h57,h⟩:=spl h
  exact fun j=>lH 2 [] [0] [] [1,2,5,7] (oD (dE r1)<|oD (dT p1)<|oD (dT p0.b_)<|oD (dT p0.a_)<|oD (zH p0.c_)<|oK 0 [] h57 (c19 h56) k) (ih _ _ _ _ _ h)
  obtain⟨r58,h59,h⟩:=zC h
  obtain rfl:=sj h
  exact fun j=>lF 0 [] (oC 1 [] (c8 h59)<|oK 0 [] h57 (c19 h56) k)
  obtain⟨r60,h61,h⟩:=zC h
  obtain rfl:=sj h
  exact fun j=>lF 0 [] (oC 1 [] (c8 h61)<|oK 1 [] h50 (c17 h49) k)
  obtain⟨r62,h63,h⟩:=zC h
  obtain rfl:=sj h
  exact fun j=>lF 0 [] (oC 1 [] (c8 h63)<|oK 1 [] h45 (c17 h44) k)
  obtain⟨r64,h65,h⟩:=zC h
  have k:=oC 1 [] (c9 h65)<|oB 2 h40 o0
  obtain⟨h66,h⟩|⟨h66,h⟩:=spl h
  obtain⟨r67,h68,h⟩:=zC h
  obtain rfl:=sj h
  exact fun j=>lF 0 [] (oC 0 [] (c8 h68)<|oB 3 h66 k)
  have k:=oB 3 h66 k
  obtain⟨h69,h⟩|⟨h69,h⟩:=spl h
  exact fun j=>lH 1 [] [1] [] [1,8,10] (oD (dT p1)<|oD (dI r64.1.steps_)<|oD (zM r64.1.solved_)<|oD (zH r64.1.vars_)<|oB 0 h69 k) (yBW _ _ _ _ _ h)
  obtain rfl:=sj h
  exact fun j=>lF 1 [] (oB 0 h69 k)
theorem yBY:∀qq:Nat,(∀p0 p1 r1 v6 r,zEc qq p0 p1 r1 v6=some r->(∀j,dL 0 (inn (inn (rgt (lft (rgt (rgt (rgt (bod Tryz.f4)))))))) (sp j 161 0 [(1,slv zF p1 .no),(2,.mp 0 0),(5,slv yQ r1 .no),(6,ai v6)]) (⟨[(0,.cells [slv zK p0.c_ .no,slv zF p0.a_ .no,slv zF p0.b_ .no,ai p0.fuel_])],1,[],0,[]⟩) (fQ 0 (nQ 0 Tryz.f4 (ab r) [] 0) [.blk 0,.seq (rgt (rgt (rgt (rgt (bod Tryz.f4)))))]))):=by
 intro qq
 induction qq with
 |zero=>
  exact fun _ _ _ _ _ h=>nn h
 |succ qq ih=>
  intro p0 p1 r1 v6 r h
  rw[zEc]at h
  have z {os ob} (k:Oz os ob):=oD (dE r1)<|oD (dT p1)<|oD (dT p0.b_)<|oD (dT p0.a_)<|oD (zH p0.c_)<|k
  obtain⟨h17,h⟩|⟨h17,h⟩:=spl h
  obtain⟨x18,h19,h⟩:=zC h
  obtain⟨r20,h21,h⟩:=zC h
  have k:=oC 1 [] (c15 h21)<|oA 0 (yN (o:=.no) h19)<|oB 1 h17 o0
  obtain⟨h22,h⟩|⟨h22,h⟩:=spl h
  obtain⟨r23,h24,h⟩:=zC h
  obtain rfl:=sj h
  exact fun j=>lF 0 [] (oC 0 [] (c8 h24)<|oB 0 h22 k)
  obtain⟨r25,h26,h⟩:=zC h
  have k:=oA 0 (yN (o:=.no) h19)<|oB 0 h22 k
  obtain⟨h27,h⟩|⟨h27,h⟩:=spl h
  obtain⟨r28,h29,h⟩:=zC h
  have k:=oA 1 (yN (o:=.no) h19)<|oK 1 [] h27 (c16 h26) k
  obtain⟨h30,h⟩|⟨h30,h⟩:=spl h
  obtain⟨r31,h32,h⟩:=zC h
  have k:=oC 1 [] (c18 h32)<|oA 1 (yN (o:=.no) h19)<|oK 1 [] h30 (c17 h29) k
  obtain⟨h33,h⟩|⟨h33,h⟩:=spl h
  obtain⟨r34,h35,h⟩:=zC h
  obtain rfl:=sj h
  exact fun j=>lF 0 [] (oC 0 [] (c8 h35)<|oB 1 h33 k)
  exact fun j=>lH 1 [] [0] [] [1,2,5,6] (z<|oB 1 h33 k) (ih _ _ _ _ _ h)
  obtain⟨r36,h37,h⟩:=zC h
  obtain rfl:=sj h
  exact fun j=>lF 0 [] (oC 1 [] (c8 h37)<|oK 1 [] h30 (c17 h29) k)
  obtain⟨r38,h39,h⟩:=zC h
  obtain rfl:=sj h
  exact fun j=>lF 0 [] (oC 1 [] (c8 h39)<|oK 1 [] h27 (c16 h26) k)
  exact fun j=>lH 0 [] [0] [] [1,2,5,7] (z<|oB 1 h17 o0) (yBX _ _ _ _ _ _ h)
theorem c4{qq p0 p1 r}(h:e4 qq p0 p1=some r):Ct 4 [] [zDx p0,slv zF p1 .no] (ab r) [] 0:=⟨by
 unfold e4 at h
 obtain⟨r1,h2,h⟩:=zC h
 obtain⟨r3,h4,h⟩:=zC h
 have k:=oC 0 [] (c13 h2) o0
 obtain⟨h5,h⟩|⟨h5,h⟩:=spl h
 have k:=oK 1 [] h5 (c7 h4) k
 obtain⟨h6,h⟩|⟨h6,h⟩:=spl h
 obtain⟨r7,h8,h⟩:=zC h
 obtain rfl:=sj h
 exact tF q4 0 [] (oC 0 [] (c8 h8)<|oB 2 h6 k)
 have k:=oB 2 h6 k
 obtain⟨h9,h⟩|⟨h9,h⟩:=spl h
 obtain⟨r10,h11,h⟩:=zC h
 obtain rfl:=sj h
 exact tF q4 0 [] (oC 0 [] (c8 h11)<|oB 1 h9 k)
 obtain⟨r12,h13,h⟩:=zC h
 obtain⟨r14,h15,h⟩:=zC h
 have k:=oCl 0<|oCl 0<|oC 1 [] (c10 h13)<|oB 1 h9 k
 obtain⟨h16,h⟩|⟨h16,h⟩:=spl h
 exact tH q4 1 [] [0] [] [1,2,5,6] (oD (dE r1)<|oD (dT p1)<|oD (dT p0.b_)<|oD (dT p0.a_)<|oD (zH p0.c_)<|oK 0 [] h16 (c14 h15) k) (yBY _ _ _ _ _ _ h)
 obtain⟨r17,h18,h⟩:=zC h
 obtain rfl:=sj h
 exact tF q4 0 [] (oC 1 [] (c8 h18)<|oK 0 [] h16 (c14 h15) k)
 obtain⟨r19,h20,h⟩:=zC h
 obtain rfl:=sj h
 exact tF q4 0 [] (oC 1 [] (c8 h20)<|oK 1 [] h5 (c7 h4) k),⟨⟨⟨tv,zH _⟩,⟨tv,dT _⟩,⟨tv,dT _⟩,tv,tv⟩,⟨tv,dT _⟩,tv⟩,zB,tv,zB⟩
mutual
theorem zOv(n:Int):∀t:Tm,t.Ok->Tot (fun q=>e11 q t n) fun _=>True
 | .mk k i l,ho=>by
  rw[Tm.Ok]at ho
  refine Tot.succ ?_
  simp only[e11]
  exact Tot.ite (fun _=>Tot.ret trivial) fun _=>zKf n l (.mk k i l) 0 rfl ho.1 ho.2
theorem zKf(n:Int):∀(r:List Tm) (p:Tm) (v:Nat),p.sub.drop v=r->p.sub.length<9223372036854775808->OkL r->Tot (fun q=>bJ q p n (v:Int)) fun _=>True
 | [],p,v,hd,hl,ho=>by
  refine Tot.succ ?_
  simp only[bJ]
  refine Tot.ite (fun h=>?_) fun _=>Tot.ret trivial
  rw[zZ hd]at h;cases h
 |x::r,p,v,hd,hl,ho=>by
  have hlt:=yC hd
  rw[OkL]at ho
  refine Tot.succ ?_
  simp only[bJ]
  refine Tot.ite (fun _=>Tot.pure (zV hd) ((zOv n x ho.1).bind fun b _=>Tot.ite (fun _=>Tot.ret trivial) fun _=>?_)) fun h=>?_
  ·rw[zU v (by omega)]
   exact zKf n r p (v+1) (zS hd) hl ho.2
  ·rw[zY hd]at h;cases h
end
theorem zKe(n:Int):Tot (fun q=>e67 q n) fun _=>True:=by
 simp only[e67]
 exact Tot.ite (fun _=>Tot.ret trivial) fun _=>Tot.ret trivial
theorem gV(D:List yZ)(hl:D.length≤1048576):∀(r:List yZ) (v:Nat),D.drop v=r->(∀x∈r,x.type_.Ok)->Tot (fun q=>bL q D (v:Int)) fun b=>b=true->∀x∈r,zL x.type_=true
 | [],v,hd,h=>by
  refine Tot.succ ?_
  simp only[bL]
  refine Tot.ite (fun h=>?_) fun _=>Tot.ret fun _ x hx=>by cases hx
  rw[zZ hd]at h;cases h
 |x::r,v,hd,h=>by
  have hlt:=yC hd
  refine Tot.succ ?_
  simp only[bL]
  refine Tot.ite (fun _=>Tot.pure (zV hd) ((zKe x.n_).bind fun b _=>Tot.ite (fun _=>Tot.bind (P:=fun b=>b=zL x.type_) ((zEm x.type_ (h x (by simp))).tot rfl) fun b2 hb2=>Tot.ite (fun h2=>?_) fun _=>Tot.ret fun h=>by cases h) fun _=>Tot.ret fun h=>by cases h)) fun h=>?_
  ·rw[zU v (by omega)]
   refine(gV D hl r (v+1) (zS hd) fun y hy=>h y (by simp[hy])).mono fun b hb hbt y hy=>?_
   rcases List.mem_cons.1 hy with rfl|hy
   ·rw[←hb2];exact h2
   ·exact hb hbt y hy
  ·rw[zY hd]at h;cases h
theorem dP(D:List yZ)(n:Int)(hl:D.length≤1048576):∀(r:List yZ) (v:Nat),D.drop v=r->Tot (fun q=>bM q D n (v:Int)) fun _=>True
 | [],v,hd=>by
  refine Tot.succ ?_
  simp only[bM]
  refine Tot.ite (fun h=>?_) fun _=>Tot.ret trivial
  rw[zZ hd]at h;cases h
 |x::r,v,hd=>by
  have hlt:=yC hd
  refine Tot.succ ?_
  simp only[bM]
  refine Tot.ite (fun _=>Tot.pure (zV hd) (Tot.ite (fun _=>Tot.ret trivial) fun _=>?_)) fun h=>?_
  ·rw[zU v (by omega)]
   exact dP D n hl r (v+1) (zS hd)
  ·rw[zY hd]at h;cases h
theorem zAS(D:List yZ)(hl:D.length≤1048576):∀(r:List yZ) (v:Nat),D.drop v=r->Tot (fun q=>bN q D (v:Int)) fun _=>True
 | [],v,hd=>by
  refine Tot.succ ?_
  simp only[bN]
  refine Tot.ite (fun h=>?_) fun _=>Tot.ret trivial
  rw[zZ hd]at h;cases h
 |x::r,v,hd=>by
  have hlt:=yC hd
  have hp:Tot (fun q=>e69 q D x.n_) fun _=>True:=by
   simp only[e69]
   exact dP D x.n_ hl _ 0 rfl
  refine Tot.succ ?_
  simp only[bN]
  refine Tot.ite (fun _=>Tot.pure (zV hd) (hp.bind fun b _=>Tot.ite (fun _=>Tot.ret trivial) fun _=>?_)) fun h=>?_
  ·rw[zU v (by omega)]
   exact zAS D hl r (v+1) (zS hd)
  ·rw[zY hd]at h;cases h
theorem dQ(D:List yZ)(hl:D.length≤1048576)(x:yZ)(v:Nat)(hx:zR D (v:Int)=some x)(hs:zL x.type_=true)(K:Tot (fun q=>gT q D (w64 ((v:Int)+1))) fun _=>True):∀(r:List yZ) (k:Nat),D.drop k=r->Tot (fun q=>bO q D (v:Int) (k:Int)) fun _=>True
 | [],k,hd=>by
  refine Tot.succ ?_
  simp only[bO]
  refine Tot.ite (fun h=>?_) fun _=>K
  rw[zZ hd]at h;cases h
 |y::r,k,hd=>by
  have hlt:=yC hd
  refine Tot.succ ?_
  simp only[bO]
  refine Tot.ite (fun _=>Tot.pure hx (Tot.pure (zV hd) ((zOv y.n_ x.type_ (yA hs)).bind fun b _=>Tot.ite (fun _=>Tot.ret trivial) fun _=>?_))) fun h=>?_
  ·rw[zU k (by omega)]
   exact dQ D hl x v hx hs K r (k+1) (zS hd)
  ·rw[zY hd]at h;cases h
theorem dU(D:List yZ)(hl:D.length≤1048576):∀(r:List yZ) (v:Nat),D.drop v=r->(∀x∈r,zL x.type_=true)->Tot (fun q=>gT q D (v:Int)) fun _=>True
 | [],v,hd,h=>by
  refine Tot.succ ?_
  simp only[gT]
  refine Tot.ite (fun h=>?_) fun _=>Tot.ret trivial
  rw[zZ hd]at h;cases h
 |x::r,v,hd,h=>by
  have hlt:=yC hd
  have hh:=zO (h x (by simp))
  refine Tot.succ ?_
  simp only[gT]
  refine Tot.ite (fun _=>Tot.pure (zV hd) (Tot.bind (P:=fun _=>True) ((zBJ x.type_ 0 hh.2.2 (by omega) (by omega)).tot trivial) fun b _=>Tot.ite (fun _=>Tot.ret trivial) fun _=>?_)) fun h=>?_
  ·refine dQ D hl x v (zV hd) (h x (by simp)) ?_ (x::r) v hd
   rw[zU v (by omega)]
   exact dU D hl r (v+1) (zS hd) fun y hy=>h y (by simp[hy])
  ·rw[zY hd]at h;cases h
theorem zHe(D:List yZ)(hl:D.length≤1048576)(ho:∀x∈D,x.type_.Ok):Tot (fun q=>e12 q D) fun _=>True:=by
 simp only[e12,e36,e37]
 exact(gV D hl _ 0 rfl ho).bind fun b hb=>Tot.ite (fun h=>(zAS D hl _ 0 rfl).bind fun b2 _=>Tot.ite (fun _=>dU D hl _ 0 rfl (hb h)) fun _=>Tot.ret trivial) fun _=>Tot.ret trivial
theorem zEb(l:List Ent)(t:Tm)(ho:t.Ok):Tot (fun q=>e16 q l t) fun b=>b=true->wZ l t:=by
 simp only[e16]
 exact Tot.bind (P:=fun b=>b=tV t 0 l.length) ((zQp t 0 l.length ho).tot rfl) fun b hb=>Tot.ret fun h=>by rw[hb]at h;exact h
theorem dV(l:List Ent)(L:List Tm)(hl:L.length≤1048576):∀(r:List Tm) (v:Nat),L.drop v=r->(∀t∈r,t.Ok)->Tot (fun q=>bT q l L (v:Int)) fun b=>b=true->∀t∈r,wZ l t
 | [],v,hd,h=>by
  refine Tot.succ ?_
  simp only[bT]
  refine Tot.ite (fun h=>?_) fun _=>Tot.ret fun _ t ht=>by cases ht
  rw[zZ hd]at h;cases h
 |x::r,v,hd,h=>by
  have hlt:=yC hd
  refine Tot.succ ?_
  simp only[bT]
  refine Tot.ite (fun _=>Tot.pure (zV hd) ((zEb l x (h x (by simp))).bind fun b hb=>Tot.ite (fun h1=>?_) fun _=>Tot.ret fun h=>by cases h)) fun h=>?_
  ·rw[zU v (by omega)]
   refine(dV l L hl r (v+1) (zS hd) fun y hy=>h y (by simp[hy])).mono fun b2 hb2 h2 t ht=>?_
   rcases List.mem_cons.1 ht with rfl|ht
   ·exact hb h1
   ·exact hb2 h2 t ht
  ·rw[zY hd]at h;cases h
theorem zHd(l:List Ent)(c:List zG)(A B:List Tm)(hc:c.length≤12)(hA:A.length≤8)(hB:B.length≤8)(oc:∀v∈c,v.type_.Ok)(oA:∀t∈A,t.Ok)(oB:∀t∈B,t.Ok) :
  Tot (fun q=>e14 q l (ofV c) A B) fun b=>b=true->A.length=B.length∧∀t∈A++B,wZ l t:=by
 have hof:(ofV c).length=c.length:=by unfold ofV;rw[List.length_map]
 have hom:∀x∈ofV c,x.type_.Ok:=fun x hx=>by
  obtain⟨v,hv,rfl⟩:=List.mem_map.1 hx
  exact oc v hv
 have ht:Evt (fun q=>e31 q (ofV c)) ((ofV c).map (·.type_)):=by
  simp only[e31]
  exact zBK (ofV c) (by omega) _ 0 [] rfl (Nat.zero_le _) rfl
 have hm:((ofV c).map (fun v:yZ=>v.type_)).length≤12:=by rw[List.length_map];omega
 simp only[e14]
 refine(zHe (ofV c) (by omega) hom).bind fun b _=>Tot.ite (fun _=>Tot.ite (fun _=>Tot.ret fun h=>by cases h) fun h2=>?_) fun _=>Tot.ret fun h=>by cases h
 have h2:A.length=B.length:=by have:=(by simpa using h2:(A.length:Int)=B.length);omega
 refine Tot.bind (P:=fun r=>r=(ofV c).map (·.type_)) (ht.tot rfl) fun r8 h8=>?_
 subst h8
 refine Tot.pure (yD (by omega)) (Tot.pure (yD (by simp only[List.length_append];omega)) ?_)
 refine(dV l _ (by simp only[List.length_append];omega) _ 0 rfl fun t h=>?_).mono fun b hb h=>⟨h2,fun t ht=>hb h t ?_⟩
 ·rcases List.mem_append.1 h with h|h
  ·rcases List.mem_append.1 h with h|h
   ·obtain⟨x,hx,rfl⟩:=List.mem_map.1 h
    exact hom x hx
   ·exact oA t h
  ·exact oB t h
 ·rw[List.drop_zero,List.append_assoc];exact List.mem_append_right _ ht
theorem Un.num{l:List Ent}{c:List zG}{td:List zD}{so:List zI}{r:Option (List zG×List zI)}(h:Un l c td so r):zJF c->(∀s∈so,0≤s.n_∧s.n_≤1048576)->∀c' so',r=some (c',so')->∀s∈so',0≤s.n_∧s.n_≤1048576:=by
 induction h with
 |done=>intro _ hs c' so' e;cases e;exact hs
 | @sol c d e td so n t r a b hp f g _ ih=>
  intro hC hs
  refine ih hp.right fun s h'=>?_
  rcases List.mem_append.1 h' with h'|h'
  ·obtain⟨s2,h2,rfl⟩:=List.mem_map.1 h'
   exact hs s2 h2
  ·rw[List.mem_singleton.1 h']
   obtain⟨v,hv,e⟩:=List.mem_map.1 hp.has
   have:=hC.each v hv
   show 0≤n∧n≤1048576
   rw[←e];exact⟨this.1,this.2.1⟩
 |cyc _ _=>intro _ _ c' so' e;cases e
 |conf _ _ _ _ _=>intro _ _ c' so' e;cases e
 |inj a b _ _ _ _ _ ih=>intro hC hs;exact ih hC hs
section
variable {x:vJ} {vs:List Tm}
theorem zQi{n:Int}(h0:0≤n)(h1:n≤1048576):yL (.mk 8 n [])=true:=by
 simp[yL,xV,tQ,Tm.k,Tm.n,Tm.sub,h0,h1]
theorem zUA(hv:vs.length≤8)(ho:∀v∈vs,v.Ok)(l:List Ent)(c':List zG)(so':List zI)(st:List Int)(hl:so'.length≤1048576):∀(r:List zI) (v:Nat),so'.drop v=r->(∀s∈r,(0≤s.n_∧s.n_≤1048576)∧zL s.t_=true∧SoG l vs s)->Evt (fun q=>zEe q vs (yH.mk true c' so' st,0) (v:Int)) true
 | [],v,hd,h=>by
  refine Evt.succ ?_
  simp only[zEe]
  exact Evt.ifF (zZ hd) zBM
 |s::r,v,hd,h=>by
  have hlt:=yC hd
  obtain⟨⟨h0,h1⟩,h2,h3⟩:=h s (by simp)
  have hf:Evt (fun q=>e21 q s.n_) (.mk 8 s.n_ []):=Evt.mk fun _=>rfl
  refine Evt.succ ?_
  simp only[zEe]
  refine Evt.ifT (zY hd) (Evt.pure (zV hd) (hf.bind ((lQ vs hv _ (zQi h0 h1)).bind (((lQ vs hv s.t_ (zO h2).2.2).eq h3.2.symm).bind ((zFG _ (zMk vs ho _ (xN 8 s.n_))).bind (Evt.ifT rfl ?_))))))
  rw[zU v (by omega)]
  exact zUA hv ho l c' so' st hl r (v+1) (zS hd) fun y hy=>h y (by simp[hy])
theorem zUB(hL:zKv x)(hx:zKt x)(hv:vs.length≤8)(ho:∀v∈vs,v.Ok)(hlen:x.a_.length=x.b_.length)(hM:∀t∈x.a_++x.b_,wZ rZ t):∀(m v:Nat),v+m=x.a_.length->(∀e∈(vU x.a_ x.b_).take v,EqG rZ vs e)->Evt (fun q=>zEd q x vs rZ (v:Int)) true
 |0,v,hvm,h=>by
  have hz:(vU x.a_ x.b_).length=x.a_.length:=by unfold vU;rw[List.length_zipWith];omega
  obtain⟨r,hr,hS⟩:=zKs rZ x (by rw[zFS];omega) zKk zKj hL hx
  refine Evt.succ ?_
  simp only[zEd]
  refine Evt.ifF (decide_eq_false (by omega)) (hr.bind ?_)
  rw[List.take_of_length_le (by omega)]at h
  rcases hS with e|⟨⟨N,hE⟩,h1,h2,h3,h4,hU⟩
  ·exact Evt.ifT (by simpa using e) zBM
  ·have hI:=eE.start h1 h4 h3
   rcases hU with⟨s,hU,rfl⟩|⟨c',so',s,hU,rfl⟩
   ·obtain⟨c',so',e,-⟩:=hU.gen hE hI h (fun s hs=>by cases hs)
    cases e
   ·obtain⟨c2,so2,e,hG⟩:=hU.gen hE hI h (fun s hs=>by cases hs)
    cases e
    have hJ:=hU.inv hE hI c' so' rfl
    have:=hJ.len
    have:=hL.c
    refine Evt.ifF rfl (Evt.ifT rfl (zUA hv ho rZ c' so' s (by omega) _ 0 rfl fun s hs=>⟨hU.num h1 (fun s hs=>by cases hs) c' so' rfl s hs,(qM.1 (hJ.sol s hs)).1,hG s hs⟩))
 |m+1,v,hvm,h=>by
  have hA:=hL.a
  obtain⟨a,ha⟩:∃a,x.a_[v]? = some a:=⟨_,List.getElem?_eq_getElem (by omega)⟩
  obtain⟨b,hb⟩:∃b,x.b_[v]? = some b:=⟨_,List.getElem?_eq_getElem (by omega)⟩
  have ma:=hM a (List.mem_append_left _ (List.mem_of_getElem? ha))
  have mb:=hM b (List.mem_append_right _ (List.mem_of_getElem? hb))
  have sa:=(qM.1 ma).1
  have sb:=(qM.1 mb).1
  obtain⟨N,hE,-⟩:=zKi
  obtain⟨p1,hp1,q1⟩:=fV hE a.nodes a (Nat.le_refl _) ma
  obtain⟨p2,hp2,q2⟩:=fV hE b.nodes b (Nat.le_refl _) mb
  obtain⟨p3,hp3,q3⟩:=zOw (chT vs a) (chT vs b) (zMk vs ho a (yA sa))
  refine Evt.succ ?_
  simp only[zEd]
  refine Evt.ifT (decide_eq_true (by omega)) (Evt.pure (uS ha) (hp1.bind (Evt.iff (fun z1=>Evt.pure (uS hb) (hp2.bind (Evt.iff (fun z2=>(lQ vs hv a (zO sa).2.2).bind ((lQ vs hv b (zO sb).2.2).bind (hp3.bind (Evt.iff (fun z3=>?_) fun _=>zBM)))) fun _=>zBM))) fun _=>zBM)))
  rw[zU v (by omega)]
  refine zUB hL hx hv ho hlen hM m (v+1) (by omega) fun e he=>?_
  rw[zHn ha hb]at he
  rcases List.mem_append.1 he with he|he
  ·exact h e he
  ·rw[List.mem_singleton.1 he];exact⟨q1 z1,q2 z2,q3 z3⟩
theorem zUC(hL:zKv x)(hx:zKt x)(hv:vs.length≤8)(ho:∀v∈vs,v.Ok)(hlen:x.a_.length=x.b_.length)(hM:∀t∈x.a_++x.b_,wZ rZ t):∀(r:List Tm) (v:Nat),vs.drop v=r->Evt (fun q=>zEc q x vs rZ (v:Int)) true
 | [],v,hd=>by
  refine Evt.succ ?_
  simp only[zEc]
  exact Evt.ifF (zZ hd) (zUB hL hx hv ho hlen hM x.a_.length 0 (by omega) fun e he=>by cases he)
 |t::r,v,hd=>by
  have hlt:=yC hd
  have ht:t∈vs:=List.mem_of_mem_drop (by rw[hd];simp)
  obtain⟨N,hE,-⟩:=zKi
  obtain⟨p1,hp1,q1⟩:=zEb rZ t (ho t ht)
  refine Evt.succ ?_
  simp only[zEc]
  refine Evt.ifT (zY hd) (Evt.pure (zV hd) ((zDH t).bind (Evt.iff (fun _=>zBM) fun _=>hp1.bind (Evt.iff (fun z1=>?_) fun _=>zBM))))
  have hm:=q1 z1
  have hs:=zO (qM.1 hm).1
  obtain⟨p2,hp2,-⟩:=fV hE t.nodes t (Nat.le_refl _) hm
  obtain⟨p3,hp3,-⟩:=gU t 8 8 (ho t ht) hs.1
  refine hp2.bind (Evt.iff (fun _=>hp3.bind (Evt.iff (fun _=>zBM) fun _=>?_)) fun _=>zBM)
  rw[zU v (by omega)]
  exact zUC hL hx hv ho hlen hM r (v+1) (zS hd)
end
theorem zCv(x:vJ)(vs:List Tm)(hx:zKt x)(ho:∀v∈vs,v.Ok):Evt (fun q=>e4 q x vs) true:=by
 simp only[e4]
 obtain⟨g,hg,hg'⟩:=zKu x
 refine zXp.bind (hg.bind (Evt.iff (fun z=>?_) fun _=>zBM))
 have hL:=hg' z
 have:=hL.c
 refine Evt.iff (fun _=>zBM) fun h8=>Evt.iff (fun _=>zBM) fun _=>(zXM x.c_ (by omega)).bind ?_
 have h8:=of_decide_eq_false h8
 obtain⟨p,hp,hq⟩:=zHd rZ x.c_ x.a_ x.b_ hL.c hL.a hL.b hx.c hx.a hx.b
 refine hp.bind (Evt.iff (fun z2=>?_) fun _=>zBM)
 exact zUC hL hx (by omega) ho (hq z2).1 (hq z2).2 _ 0 rfl
theorem zCu(x:vJ)(vs:List Tm)(w0:zKt x)(w1:OkL vs∧vs.length<9223372036854775808):CT Tryz.prog 4 [] [.agg (mY x),.sl (zJ zF vs) vs.length .no] (ab true) [] 0:=by
 obtain⟨q,hq⟩:=(zCv x vs w0 (zCb w1.1)).at
 exact c4 hq
end Go.Proofs.YtfbkefchjcocmaaGreat
