/- Parts of the proof that the law returns true: walks of the functions, plain laws. -/
import Derived.KernelRfl
import Derived.Test.YtcckelpaoefonaaGreatAbB5
set_option linter.unusedVariables false
set_option linter.unusedSimpArgs false
set_option linter.unusedSectionVars false
namespace Go.Proofs.YtcckelpaoefonaaGreat
open Go Go.Ab Go.Proofs.Tryz
theorem zKa{l:List yE}{i:Int}(h:Y8 l i):0≤(zJ l i).pars∧0≤(zJ l i).inds∧(zJ l i).pars+(zJ l i).inds≤24:=by
 have h1:=h.1
 unfold lJ at h1
 simp only[Bool.and_eq_true,decide_eq_true_eq]at h1
 exact⟨by omega,by omega,by omega⟩
theorem zGf(l:List yE)(i:Int)(h0:0≤i)(h1:i<l.length)(hl:l.length≤65535)(he:∀e∈l,iH e):Dc (fun q=>e56 q l i) (Y8 l i):=by
 have hx:=he _ (uW h0 h1)
 simp only[e56]
 refine Dc.pure (yH h0 h1) ?_
 have no:(lJ (zJ l i)=false∨C0 (zJ l i)=false∨fK l i (zJ l i)=false)->¬Y8 l i:=fun h k=>by
  rcases h with h|h|h
  ·rw[k.1]at h;cases h
  ·rw[k.2.1]at h;cases h
  ·rw[k.2.2.1]at h;cases h
 refine Dc.ite (fun a=>Dc.no (no (.inl ?_))) fun a1=>Dc.ite (fun a=>Dc.no (no (.inl ?_))) fun a2=>Dc.ite (fun a=>Dc.no (no (.inl ?_))) fun a3=>Dc.ite (fun a=>Dc.no (no (.inl ?_))) fun a4=>?_
 ·have:=of_decide_eq_true a;unfold lJ;rw[decide_eq_false (by omega)];simp
 ·have:=of_decide_eq_true a;unfold lJ;rw[decide_eq_false (p:=0≤(zJ l i).inds) (by omega)];simp
 ·have:=of_decide_eq_true a;unfold lJ;rw[decide_eq_false (p:=(zJ l i).pars≤24) (by omega)];simp
 ·have:=of_decide_eq_true a;have:=of_decide_eq_false a1;unfold lJ;rw[decide_eq_false (p:=(zJ l i).inds≤24-(zJ l i).pars) (by omega)];simp
 have a1:=of_decide_eq_false a1
 have a2:=of_decide_eq_false a2
 have a3:=of_decide_eq_false a3
 have a4:=of_decide_eq_false a4
 rw[zW (x:=(zJ l i).pars+(zJ l i).inds) (by omega) (by omega)]
 refine Dc.ite (fun a=>Dc.no (no (.inl ?_))) fun a5=>Dc.ite (fun a=>Dc.no (no (.inl ?_))) fun a6=>Dc.ite (fun a=>Dc.no (no (.inl ?_))) fun a7=>?_
 ·have:=of_decide_eq_true a;unfold lJ;rw[decide_eq_false (p:=(zJ l i).inds≤24-(zJ l i).pars) (by omega)];simp
 ·have:(zJ l i).fam≠0:=by simpa using a
  unfold lJ;rw[beq_eq_false_iff_ne.2 this];simp
 ·have:(zJ l i).place≠0:=by simpa using a
  unfold lJ;rw[beq_eq_false_iff_ne.2 this];simp
 have a5:=of_decide_eq_false a5
 refine Dc.bind (Dc.of (zEf _)) (fun a8=>?_) fun a8=>Dc.ite (fun h=>(by cases h)) fun _=>Dc.no (no (.inl ?_))
 case refine_2=>unfold lJ;rw[show nS (zJ l i).body=false by simpa using a8];simp
 have hA:lJ (zJ l i)=true:=by
  unfold lJ
  have b6:(zJ l i).fam=0:=by simpa using a6
  have b7:(zJ l i).place=0:=by simpa using a7
  simp only[Bool.and_eq_true,decide_eq_true_eq,beq_iff_eq]
  exact⟨⟨⟨⟨⟨⟨by omega,by omega⟩,by omega⟩,by omega⟩,b6⟩,b7⟩,a8⟩
 refine Dc.ite (fun _=>?_) fun h=>(by cases h)
 refine Dc.evt (zKb _ _ hx.1) (Dc.ite (fun a=>Dc.no (no (.inr (.inl ?_)))) fun b1=>Dc.ite (fun a=>Dc.no (no (.inr (.inl ?_)))) fun b2=>Dc.ite (fun a=>Dc.no (no (.inr (.inl ?_)))) fun b3=>Dc.ite (fun a=>Dc.no (no (.inr (.inr ?_)))) fun b4=>?_)
 ·unfold C0;rw[show ((xR (zJ l i).type ((zJ l i).pars+(zJ l i).inds)).2.2==0)=false by rw[beq_eq_false_iff_ne];simpa using a];simp
 ·unfold C0;rw[show ((xR (zJ l i).type ((zJ l i).pars+(zJ l i).inds)).2.1.k==2)=false by rw[beq_eq_false_iff_ne];simpa using a];simp
 ·unfold C0;rw[show ((xR (zJ l i).type ((zJ l i).pars+(zJ l i).inds)).2.1.n==(zJ l i).level)=false by rw[beq_eq_false_iff_ne];simpa using a];simp
 ·have:=of_decide_eq_true a;unfold fK;rw[decide_eq_false (by omega)];simp
 have hB:C0 (zJ l i)=true:=by
  unfold C0
  simp only[Bool.and_eq_true,beq_iff_eq]
  exact⟨⟨by simpa using b1,by simpa using b2⟩,by simpa using b3⟩
 have b4:=of_decide_eq_false b4
 rw[zW (x:=i+1) (by omega) (by omega)]
 have hrow:=zGh l (zJ l i).cons (i+1) i 2 (by omega) hl hx.2.2.1 (zJ l i).cons 0 rfl
 refine Dc.bind (Q:=mO (zJ l i).cons (i+1)=true∧qY l i 2 (zJ l i).cons 0=true) (by simp only[e99];exact hrow.iff (by simp)) (fun b5=>?_) fun b5=>Dc.ite (fun h=>(by cases h)) fun _=>Dc.no (no (.inr (.inr ?_)))
 case refine_2=>
  unfold fK
  cases r1:mO (zJ l i).cons (i+1)with
  |false=>simp
  |true=>rw[show qY l i 2 (zJ l i).cons 0=false by cases r2:qY l i 2 (zJ l i).cons 0 with|false=>rfl|true=>exact absurd ⟨r1,r2⟩ b5];simp
 have hC:fK l i (zJ l i)=true:=by
  unfold fK
  simp only[Bool.and_eq_true,decide_eq_true_eq]
  exact⟨⟨by omega,b5.1⟩,b5.2⟩
 refine Dc.ite (fun _=>?_) fun h=>(by cases h)
 refine Dc.ite (fun c1=>Dc.yes ⟨hA,hB,hC,.inl ?_⟩) fun c1=>?_
 ·have:((zJ l i).fields.length:Int)=0:=by simpa using c1
  omega
 have c1':¬(zJ l i).fields.length=0:=fun h=>by rw[h]at c1;simp at c1
 have no2:∀ {P:Prop},(P->False)->(Y8 l i->P)->¬Y8 l i:=fun h k m=>h (k m)
 have rest:Y8 l i->(zJ l i).inds=0∧(zJ l i).cons.length=1∧mO (zJ l i).fields (i+2)=true∧qY l i 4 (zJ l i).fields 0=true∧zI (zJ l (i+1)).type=true∧(wK (zJ l (i+1)).type:Int)=(zJ l i).pars+(zJ l i).fields.length:=fun h=>h.2.2.2.resolve_left c1'
 refine Dc.ite (fun c2=>?_) fun c2=>Dc.no fun h=>?_
 case refine_2=>have:=(rest h).1;rw[this]at c2;simp at c2
 have c2':(zJ l i).inds=0:=by simpa using c2
 refine Dc.ite (fun c3=>?_) fun c3=>Dc.no fun h=>?_
 case refine_2=>have:=(rest h).2.1;rw[this]at c3;simp at c3
 have c3':(zJ l i).cons.length=1:=by have:((zJ l i).cons.length:Int)=1:=(by simpa using c3);omega
 rw[zW (x:=i+2) (by omega) (by omega)]
 have hrow2:=zGh l (zJ l i).fields (i+2) i 4 (by omega) hl hx.2.2.2 (zJ l i).fields 0 rfl
 refine Dc.bind (Q:=mO (zJ l i).fields (i+2)=true∧qY l i 4 (zJ l i).fields 0=true) (by simp only[e99];exact hrow2.iff (by simp)) (fun c4=>?_) fun c4=>Dc.ite (fun h=>(by cases h)) fun _=>Dc.no fun h=>c4 ⟨(rest h).2.2.1,(rest h).2.2.2.1⟩
 refine Dc.ite (fun _=>?_) fun h=>(by cases h)
 have hnext:i+1<l.length:=by
  have h5:=b5
  obtain⟨n,hn⟩:∃n,(zJ l i).cons=[n]:=by
   rcases hc:(zJ l i).cons with _|⟨n,_|⟨m,r⟩⟩
   ·rw[hc]at c3';simp at c3'
   ·exact⟨n,rfl⟩
   ·rw[hc]at c3';simp at c3'
  rw[hn,mO,qY]at h5
  simp only[Bool.and_eq_true,beq_iff_eq]at h5
  have:=xM h5.2.1.1.1
  omega
 have hx1:=he _ (uW (l:=l) (n:=i+1) (by omega) hnext)
 refine Dc.pure (yH (by omega) hnext) (Dc.bind (Dc.of (qJ _ hx1.1)) (fun c5=>?_) fun c5=>Dc.ite (fun h=>(by cases h)) fun _=>Dc.no fun h=>c5 (rest h).2.2.2.2.1)
 refine Dc.ite (fun _=>?_) fun h=>(by cases h)
 have hsp:=zM c5
 obtain⟨L,y,hs,hL,hk,-⟩:=zEi hsp.2.2
 refine Dc.evt (zIj hsp.2.2 hsp.1 hs hk) (Dc.ret ?_)
 have hw:yN ((zJ l i).pars+((zJ l i).fields.length:Int))=(zJ l i).pars+(zJ l i).fields.length:=zW (by have:=hx.2.2.2;omega) (by have:=hx.2.2.2;omega)
 rw[hw,beq_iff_eq,hL]
 exact⟨fun h=>⟨hA,hB,hC,.inr ⟨c2',c3',c4.1,c4.2,c5,h⟩⟩,fun h=>(rest h).2.2.2.2.2⟩
theorem i9(i p:Int)(L:List Int)(x:yE)(hp:x.place=p)(hl:L.length≤1152921504606846976):∀(r:List Int) (v:Nat),L.drop v=r->Dc (fun q=>mV q i x L (v:Int)) (∃k:Nat,v≤k∧∃h:k<L.length,L[k]=i∧p=k)
 | [],v,hd=>by
  refine Dc.succ ?_
  simp only[mV]
  refine Dc.ite (fun h=>?_) fun _=>Dc.no fun⟨k,h1,h2,_⟩=>?_
  ·rw[yO hd]at h;cases h
  ·have:=List.drop_eq_nil_iff.1 hd;omega
 |n::r,v,hd=>by
  have hlt:=yT hd
  have hx:L[v]=n:=by
   have:=yC hd
   unfold zP at this
   rw[if_pos (by omega),Int.toNat_natCast,List.getElem?_eq_getElem hlt]at this
   exact Option.some.inj this
  have next:=i9 i p L x hp hl r (v+1) (zV hd)
  have go:¬(n=i∧p=v)->((∃k:Nat,v+1≤k∧∃h:k<L.length,L[k]=i∧p=k) ↔ ∃k:Nat,v≤k∧∃h:k<L.length,L[k]=i∧p=k):=fun hn=>⟨fun⟨k,a,b,c⟩=>⟨k,by omega,b,c⟩,fun⟨k,a,b,c,d⟩=>by
   by_cases e:k=v
   ·subst e;exact absurd ⟨by rw[←hx];exact c,d⟩ hn
   ·exact⟨k,by omega,b,c,d⟩⟩
  refine Dc.succ ?_
  simp only[mV]
  rw[yB v (by omega)]
  refine Dc.ite (fun _=>Dc.pure (yC hd) (Dc.ite (fun h=>Dc.ite (fun k=>Dc.yes ?_) fun k=>next.iff (go fun e=>?_)) fun h=>next.iff (go fun e=>?_))) fun h=>?_
  ·have h':n=i:=by simpa using h
   have k':x.place=v:=by simpa using k
   exact⟨v,Nat.le_refl _,hlt,by rw[hx,h'],by omega⟩
  ·have:x.place=v:=by omega
   rw[this]at k;simp at k
  ·rw[e.1]at h;simp at h
  ·rw[yL hd]at h;cases h
theorem zKA(l:List yE)(i:Int)(h0:0≤i)(h1:i<l.length)(he:∀e∈l,iH e)(hk:(zJ l i).kind=2∨(zJ l i).kind=4):Dc (fun q=>e57 q l i) (uX l i=true):=by
 have hx:=he _ (uW h0 h1)
 simp only[e57]
 refine Dc.pure (yH h0 h1) ?_
 have need:uX l i=true->mN l (zJ l i).fam 1=true∧(zJ l i).fam<i∧(zJ l i).pars=(zJ l (zJ l i).fam).pars∧nS (zJ l i).body=true∧(zJ l i).inds=0∧(zJ l i).level=0∧(zJ l i).cons.length=0∧(zJ l i).fields.length=0:=fun h=>by
  unfold uX zFG at h
  simp only[Bool.and_eq_true,decide_eq_true_eq,beq_iff_eq]at h
  exact⟨h.1.1.1.1.1.1.1.1,h.1.1.1.1.1.1.1.2,h.1.1.1.1.1.1.2,h.1.1.1.1.1.2,h.1.1.1.1.2,h.1.1.1.2,h.1.1.2,h.1.2⟩
 refine Dc.bind (Dc.of (zBB l _ 1)) (fun a1=>?_) fun a1=>Dc.ite (fun h=>(by cases h)) fun _=>Dc.no fun h=>a1 (need h).1
 have hi:=xM a1
 refine Dc.ite (fun _=>?_) fun h=>(by cases h)
 refine Dc.ite (fun a=>Dc.no fun h=>?_) fun a2=>?_
 ·have:=of_decide_eq_true a;have:=(need h).2.1;omega
 refine Dc.bind (Dc.of (zEf _)) (fun a3=>?_) fun a3=>Dc.ite (fun h=>(by cases h)) fun _=>Dc.no fun h=>a3 (need h).2.2.2.1
 refine Dc.ite (fun _=>?_) fun h=>(by cases h)
 refine Dc.ite (fun a=>Dc.no fun h=>?_) fun a4=>Dc.ite (fun a=>Dc.no fun h=>?_) fun a5=>Dc.ite (fun a=>Dc.no fun h=>?_) fun a6=>Dc.ite (fun a=>Dc.no fun h=>?_) fun a7=>Dc.pure (yH hi.1 hi.2.1) (Dc.ite (fun a=>Dc.no fun h=>?_) fun a8=>?_)
 ·rw[(need h).2.2.2.2.1]at a;simp at a
 ·rw[(need h).2.2.2.2.2.1]at a;simp at a
 ·rw[(need h).2.2.2.2.2.2.1]at a;simp at a
 ·rw[(need h).2.2.2.2.2.2.2]at a;simp at a
 ·rw[(need h).2.2.1]at a;simp at a
 have hA:zFG l i (zJ l i)=true:=by
  unfold zFG
  have b6:((zJ l i).cons.length:Int)=0:=by simpa using a6
  have b7:((zJ l i).fields.length:Int)=0:=by simpa using a7
  simp only[Bool.and_eq_true,decide_eq_true_eq,beq_iff_eq]
  exact⟨⟨⟨⟨⟨⟨⟨a1,by have:=of_decide_eq_false a2;omega⟩,by simpa using a8⟩,a3⟩,by simpa using a4⟩,by simpa using a5⟩,by omega⟩,by omega⟩
 have hf:=he _ (uW hi.1 hi.2.1)
 have hB:∀L:List Int,L=fL l (zJ l i)->L.length≤1152921504606846976->Dc (fun q=>mV q i (zJ l i) L 0) (uX l i=true):=fun L hL hl=>by
  refine(i9 i (zJ l i).place L (zJ l i) rfl hl L 0 rfl).iff ?_
  unfold uX zFH
  rw[hA,←hL]
  simp only[Bool.true_and,Bool.and_eq_true,decide_eq_true_eq,beq_iff_eq]
  constructor
  ·rintro ⟨k,-,hk,h1,h2⟩
   rw[h2]
   refine⟨⟨by omega,by omega⟩,?_⟩
   rw[Int.toNat_natCast,List.getElem?_eq_getElem hk];exact h1
  ·rintro ⟨⟨g0,g1⟩,g2⟩
   have hk:(zJ l i).place.toNat<L.length:=by omega
   refine⟨(zJ l i).place.toNat,Nat.zero_le _,hk,?_,by omega⟩
   rw[List.getElem?_eq_getElem hk]at g2;exact g2
 refine Dc.ite (fun k=>?_) fun k=>?_
 ·have k':(zJ l i).kind=4:=by simpa using k
  exact hB _ (by unfold fL;rw[if_pos k']) hf.2.2.2
 ·have k':(zJ l i).kind≠4:=by simpa using k
  exact hB _ (by unfold fL;rw[if_neg k']) hf.2.2.1
def cA:Nat->zY->List ByteArray->Int->Option (List ByteArray)
 |0,_,_,_=>none
 |b+1,a,c,d=>
 if decide (d<(a.length:Int))then
 zP a d>>=fun x2=>
 xB 16 c [x2.name]>>=fun l4=>
 cA b a l4 (yN (d+1))
 else
 some c
def e26(b:Nat)(a:zY):Option (List ByteArray):=
 cA b a [] 0
theorem zVl:∀b:Nat,(∀ {a c d r},cA b a c d=some r->(∀j,dL 0 (pt 4021 f26) (sp j 21 0 [(0,zH yA a .no),(3,zH xJ c (.st 0 1)),(4,ai d)]) (⟨[],0,[0],1,[]⟩) (fQ 0 (nQ 0 f26 (.sl (zG xJ r) r.length .no) [] 0) [.blk 0,.seq (pt 63 f26)]))):=by
 intro b
 induction b with
 |zero=>
  exact fun h=>nn h
 |succ b ih=>
  intro a c d r h
  rw[cA]at h
  obtain⟨h1,h⟩|⟨h1,h⟩:=zK h
  obtain⟨x2,h3,h⟩:=zB h
  obtain⟨l4,h5,h⟩:=zB h
  exact fun j=>lH 1 [] [] [1] [0,3,4] (oD (dS l4)<|oD (dE a)<|oP 2 (P8 h5 (by simp))<|oA 0 (xK (o:=.no) h3)<|oB 1 h1 o0) (ih h)
  obtain rfl:=sj h
  exact fun j=>lF 0 [] (oD (dS c)<|oB 1 h1 o0)
theorem c26{b a r}(h:e26 b a=some r):Ct 26 [] [zH yA a .no] (.sl (zG xJ r) r.length .no) [] 0:=⟨by
 unfold e26 at h
 exact tH ⟨func26,rfl⟩ 1 [(none,3,1)] [] [0] [0,3,4] (oD (dS ([]:List ByteArray))<|oD (dE a) o0) (zVl _ h),⟨⟨tv,dE _⟩,tv⟩,zA,dS _,zA⟩
def e27(a:Nat)(b:zY)(c:Int):Option Bool:=
 zP b c>>=fun x1=>
 e53 a x1.name>>=fun r3=>
 if r3 then
 e54 a x1.type c>>=fun r6=>
 if r6 then
 e55 a x1.type>>=fun r9=>
 if x1.kind==1 then
 e56 a b c>>=fun r12=>
 some r12
 else
 if x1.kind==3 then
 e54 a x1.body c>>=fun r15=>
 if r15 then
 if x1.fam==0 then
 if x1.place==0 then
 if x1.pars==0 then
 if x1.inds==0 then
 if x1.level==0 then
 if (x1.cons.length:Int)==0 then
 some ((x1.fields.length:Int)==0)
 else
 some false
 else
 some false
 else
 some false
 else
 some false
 else
 some false
 else
 some false
 else
 some false
 else
 if x1.kind != 2 then
 if x1.kind != 4 then
 some false
 else
 e57 a b c>>=fun r26=>
 if r26 then
 if x1.kind==2 then
 if decide ((r9.length:Int)≤24)then
 if decide ((r9.length:Int)≥x1.pars)then
 e59 a x1.type>>=fun r32=>
 zP b x1.fam>>=fun x34=>
 e58 a r32 x1.fam x1.pars x34.inds (r9.length:Int)>>=fun r36=>
 some r36
 else
 some false
 else
 some false
 else
 if decide ((yN (x1.pars+1))≤24)then
 if decide ((r9.length:Int)≥(yN (x1.pars+1)))then
 zP r9 x1.pars>>=fun x40=>
 e58 a x40 x1.fam x1.pars 0 x1.pars>>=fun r42=>
 some r42
 else
 some false
 else
 some false
 else
 some false
 else
 e57 a b c>>=fun r44=>
 if r44 then
 if x1.kind==2 then
 if decide ((r9.length:Int)≤24)then
 if decide ((r9.length:Int)≥x1.pars)then
 e59 a x1.type>>=fun r50=>
 zP b x1.fam>>=fun x52=>
 e58 a r50 x1.fam x1.pars x52.inds (r9.length:Int)>>=fun r54=>
 some r54
 else
 some false
 else
 some false
 else
 if decide ((yN (x1.pars+1))≤24)then
 if decide ((r9.length:Int)≥(yN (x1.pars+1)))then
 zP r9 x1.pars>>=fun x58=>
 e58 a x58 x1.fam x1.pars 0 x1.pars>>=fun r60=>
 some r60
 else
 some false
 else
 some false
 else
 some false
 else
 some false
 else
 some false
theorem H4:Qf 27 f27:=⟨func27,rfl⟩
theorem c27{a b c r}(h:e27 a b c=some r):Ct 27 [] [zH yA b .no,ai c] (ab r) [] 0:=⟨by
 unfold e27 at h
 obtain⟨x1,h2,h⟩:=zB h
 obtain⟨r3,h4,h⟩:=zB h
 have k:=oA 0 (xK (o:=.no) h2) o0
 obtain⟨h5,h⟩|⟨h5,h⟩:=zK h
 obtain⟨r6,h7,h⟩:=zB h
 have k:=oK 3 [] h5 (c53 h4) k
 obtain⟨h8,h⟩|⟨h8,h⟩:=zK h
 obtain⟨r9,h10,h⟩:=zB h
 have k:=oC 2 [] (c55 h10)<|oK 2 [] h8 (c54 h7) k
 obtain⟨h11,h⟩|⟨h11,h⟩:=zK h
 obtain⟨r12,h13,h⟩:=zB h
 obtain rfl:=sj h
 exact tF H4 0 [] (oC 0 [] (c56 h13)<|oB 2 h11 k)
 have k:=oB 2 h11 k
 obtain⟨h14,h⟩|⟨h14,h⟩:=zK h
 obtain⟨r15,h16,h⟩:=zB h
 have k:=oB 1 h14 k
 obtain⟨h17,h⟩|⟨h17,h⟩:=zK h
 have k:=oK 1 [] h17 (c54 h16) k
 obtain⟨h18,h⟩|⟨h18,h⟩:=zK h
 have k:=oB 1 h18 k
 obtain⟨h19,h⟩|⟨h19,h⟩:=zK h
 have k:=oB 1 h19 k
 obtain⟨h20,h⟩|⟨h20,h⟩:=zK h
 have k:=oB 1 h20 k
 obtain⟨h21,h⟩|⟨h21,h⟩:=zK h
 have k:=oB 1 h21 k
 obtain⟨h22,h⟩|⟨h22,h⟩:=zK h
 have k:=oB 1 h22 k
 obtain⟨h23,h⟩|⟨h23,h⟩:=zK h
 obtain rfl:=sj h
 exact tF H4 3 [] (oB 2 h23 k)
 obtain rfl:=sj h
 exact tF H4 0 [] (oB 2 h23 k)
 obtain rfl:=sj h
 exact tF H4 0 [] (oB 1 h22 k)
 obtain rfl:=sj h
 exact tF H4 0 [] (oB 1 h21 k)
 obtain rfl:=sj h
 exact tF H4 0 [] (oB 1 h20 k)
 obtain rfl:=sj h
 exact tF H4 0 [] (oB 1 h19 k)
 obtain rfl:=sj h
 exact tF H4 0 [] (oB 1 h18 k)
 obtain rfl:=sj h
 exact tF H4 0 [] (oK 1 [] h17 (c54 h16) k)
 have k:=oB 1 h14 k
 obtain⟨h24,h⟩|⟨h24,h⟩:=zK h
 have k:=oB 1 h24 k
 obtain⟨h25,h⟩|⟨h25,h⟩:=zK h
 obtain rfl:=sj h
 exact tF H4 0 [] (oB 1 h25 k)
 obtain⟨r26,h27,h⟩:=zB h
 have k:=oB 1 h25 k
 obtain⟨h28,h⟩|⟨h28,h⟩:=zK h
 have k:=oK 0 [] h28 (c57 h27) k
 obtain⟨h29,h⟩|⟨h29,h⟩:=zK h
 have k:=oB 2 h29 k
 obtain⟨h30,h⟩|⟨h30,h⟩:=zK h
 have k:=oB 0 h30 k
 obtain⟨h31,h⟩|⟨h31,h⟩:=zK h
 obtain⟨r32,h33,h⟩:=zB h
 obtain⟨x34,h35,h⟩:=zB h
 obtain⟨r36,h37,h⟩:=zB h
 obtain rfl:=sj h
 exact tF H4 0 [] (oC 1 [] (c58 h37)<|oA 0 (xK (o:=.no) h35)<|cD 0<|cD 0<|cD 0<|oC 1 [] (c59 h33)<|oB 1 h31 k)
 obtain rfl:=sj h
 exact tF H4 0 [] (oB 1 h31 k)
 obtain rfl:=sj h
 exact tF H4 0 [] (oB 0 h30 k)
 have k:=oB 2 h29 k
 obtain⟨h38,h⟩|⟨h38,h⟩:=zK h
 have k:=oB 2 h38 k
 obtain⟨h39,h⟩|⟨h39,h⟩:=zK h
 obtain⟨x40,h41,h⟩:=zB h
 obtain⟨r42,h43,h⟩:=zB h
 obtain rfl:=sj h
 exact tF H4 0 [] (oC 0 [] (c58 h43)<|cD 0<|cD 0<|cD 1<|oA 0 (xH (o:=.no) h41)<|cD 0<|oC 1 [] (c55 h10)<|oB 2 h39 k)
 obtain rfl:=sj h
 exact tF H4 0 [] (oB 2 h39 k)
 obtain rfl:=sj h
 exact tF H4 0 [] (oB 2 h38 k)
 obtain rfl:=sj h
 exact tF H4 1 [] (oK 0 [] h28 (c57 h27) k)
 obtain⟨r44,h45,h⟩:=zB h
 have k:=oB 1 h24 k
 obtain⟨h46,h⟩|⟨h46,h⟩:=zK h
 have k:=oK 0 [] h46 (c57 h45) k
 obtain⟨h47,h⟩|⟨h47,h⟩:=zK h
 have k:=oB 2 h47 k
 obtain⟨h48,h⟩|⟨h48,h⟩:=zK h
 have k:=oB 0 h48 k
 obtain⟨h49,h⟩|⟨h49,h⟩:=zK h
 obtain⟨r50,h51,h⟩:=zB h
 obtain⟨x52,h53,h⟩:=zB h
 obtain⟨r54,h55,h⟩:=zB h
 obtain rfl:=sj h
 exact tF H4 0 [] (oC 1 [] (c58 h55)<|oA 0 (xK (o:=.no) h53)<|cD 0<|cD 0<|cD 0<|oC 1 [] (c59 h51)<|oB 1 h49 k)
 obtain rfl:=sj h
 exact tF H4 0 [] (oB 1 h49 k)
 obtain rfl:=sj h
 exact tF H4 0 [] (oB 0 h48 k)
 have k:=oB 2 h47 k
 obtain⟨h56,h⟩|⟨h56,h⟩:=zK h
 have k:=oB 2 h56 k
 obtain⟨h57,h⟩|⟨h57,h⟩:=zK h
 obtain⟨x58,h59,h⟩:=zB h
 obtain⟨r60,h61,h⟩:=zB h
 obtain rfl:=sj h
 exact tF H4 0 [] (oC 0 [] (c58 h61)<|cD 0<|cD 0<|cD 1<|oA 0 (xH (o:=.no) h59)<|cD 0<|oC 1 [] (c55 h10)<|oB 2 h57 k)
 obtain rfl:=sj h
 exact tF H4 0 [] (oB 2 h57 k)
 obtain rfl:=sj h
 exact tF H4 0 [] (oB 2 h56 k)
 obtain rfl:=sj h
 exact tF H4 1 [] (oK 0 [] h46 (c57 h45) k)
 obtain rfl:=sj h
 exact tF H4 1 [] (oK 2 [] h8 (c54 h7) k)
 obtain rfl:=sj h
 exact tF H4 1 [] (oK 3 [] h5 (c53 h4) k),⟨⟨tv,dE _⟩,tv,tv⟩,zA,tv,zA⟩
def V6:Nat->zY->Int->Option Bool
 |0,_,_=>none
 |b+1,a,c=>
 if decide (c<(a.length:Int))then
 e27 b a c>>=fun r8=>
 if r8 then
 V6 b a (yN (c+1))
 else
 some false
 else
 some true
def e7(b:Nat)(a:zY):Option Bool:=
 if decide ((a.length:Int)>256)then
 some false
 else
 e26 b a>>=fun r2=>
 e25 b r2>>=fun r4=>
 if r4 then
 V6 b a 0
 else
 some false
theorem q7:Qf 7 Tryz.f7:=⟨func7,rfl⟩
theorem zZt:∀b:Nat,(∀ {a c r},V6 b a c=some r->(∀j,dL 0 (pt 4021 Tryz.f7) (sp j 23 0 [(0,zH yA a .no),(3,ai c)]) (⟨[],0,[],0,[]⟩) (fQ 0 (nQ 0 Tryz.f7 (ab r) [] 0) [.blk 0,.seq (pt 63 Tryz.f7)]))):=by
 intro b
 induction b with
 |zero=>
  exact fun h=>nn h
 |succ b ih=>
  intro a c r h
  rw[V6]at h
  obtain⟨h7,h⟩|⟨h7,h⟩:=zK h
  obtain⟨r8,h9,h⟩:=zB h
  have k:=oB 1 h7 o0
  obtain⟨h10,h⟩|⟨h10,h⟩:=zK h
  exact fun j=>lH 2 [] [] [] [0,3] (oD (dE a)<|oK 0 [] h10 (c27 h9) k) (ih h)
  cases h
  exact fun j=>lF 1 [] (oK 0 [] h10 (c27 h9) k)
  cases h
  exact fun j=>lF 0 [] (oB 1 h7 o0)
theorem c7{b a r}(h:e7 b a=some r):Ct 7 [] [zH yA a .no] (ab r) [] 0:=⟨by
 unfold e7 at h
 obtain⟨h1,h⟩|⟨h1,h⟩:=zK h
 cases h
 exact tF q7 0 [] (oB 1 h1 o0)
 obtain⟨r2,h3,h⟩:=zB h
 obtain⟨r4,h5,h⟩:=zB h
 have k:=oC 0 [] (c26 h3)<|oB 1 h1 o0
 obtain⟨h6,h⟩|⟨h6,h⟩:=zK h
 exact tH q7 1 [] [] [] [0,3] (oD (dE a)<|oK 0 [] h6 (c25 h5) k) (zZt _ h)
 cases h
 exact tF q7 1 [] (oK 0 [] h6 (c25 h5) k),⟨⟨tv,dE _⟩,tv⟩,zA,tv,zA⟩
def zSR(l:List yE)(i:Int):Prop:=∀j,0≤j->j<i->(zJ l j).kind=1->Y8 l j
theorem zKB{t:Tm}{n:Int}(h:wX t n=true):zI t=true:=by
 unfold wX tL at h
 simp only[Bool.and_eq_true]at h
 exact h.1.1.1
theorem zKC{t:Tm}(hs:zI t=true){L:List Tm}{y:Tm}(h:tQ (wK t) t=some (L,y))(hp:wK t≤24):yR t=(L,y,0):=by
 unfold yR xR
 rw[if_pos hs,if_neg (by omega),if_neg (by omega),show (((min (wK t) 25:Nat):Int)).toNat=wK t by omega,h]
 rfl
theorem zGe{t:Tm}(hp:¬wK t≤24):(yR t).2.2≠0:=by
 unfold yR xR
 rw[show ((min (wK t) 25:Nat):Int)=25 by omega]
 split
 ·rw[if_neg (by omega),if_pos (by omega)];decide
 ·decide
theorem g6:∀(n m:Nat) (t:Tm) (L:List Tm) (y:Tm),xC t=true->tQ n t=some (L,y)->m≤n->∃z,tQ m t=some (L.take m,z)
 |_,0,t,L,y,_,h,_=>⟨t,by rw[tQ];simp⟩
 |0,m+1,_,_,_,_,_,hm=>by omega
 |n+1,m+1,t,L,y,hg,h,hm=>by
  by_cases h3:t.k=3
  ·obtain⟨a,b,hx,hga,hgb⟩:=rO hg h3
   rw[hx,pO]at h
   obtain⟨r',h1,h2⟩:=Option.map_eq_some_iff.1 h
   cases h2
   obtain⟨z,hz⟩:=g6 n m b r'.1 r'.2 hgb h1 (by omega)
   exact⟨z,by rw[hx,pO,hz];rfl⟩
  ·rw[oV h3]at h;cases h
theorem zKD{t:Tm}(hs:zI t=true){L:List Tm}{y:Tm}(h:tQ (wK t) t=some (L,y)){n:Nat}(hn:n≤24):((xR t n).2.2=0↔n≤wK t)∧(n≤wK t->(xR t n).1=L.take n):=by
 have hg:=(zM hs).2.2
 have e:xR t (n:Int)=fH [] (tQ n t):=by
  unfold xR
  rw[if_pos hs,if_neg (by omega),if_neg (by omega),Int.toNat_natCast]
 rw[e]
 by_cases hp:n≤wK t
 ·obtain⟨z,hz⟩:=g6 (wK t) n t L y hg h hp
  rw[hz]
  exact⟨⟨fun _=>hp,fun _=>rfl⟩,fun _=>by simp[fH]⟩
 ·have hno:tQ n t=none:=by
   cases hx:tQ n t with
   |none=>rfl
   |some r=>have:=(gS n t r hg hx).2.1;omega
  rw[hno]
  exact⟨⟨fun h=>(by simp[fH]at h),fun h=>absurd h hp⟩,fun h=>absurd h hp⟩
theorem zKE{N:ByteArray->Bool}(hN:pP N)(l:List yE)(i:Int)(h0:0≤i)(h1:i<l.length)(hl:l.length≤65535)(he:∀e∈l,iH e)(hF:zSR l i):Dc (fun q=>e27 q l i) (I3 N l i):=by
 have hx:=he _ (uW h0 h1)
 simp only[e27]
 refine Dc.pure (yH h0 h1) (Dc.bind (Dc.of (zGm hN _)) (fun a1=>?_) fun a1=>Dc.ite (fun h=>(by cases h)) fun _=>Dc.no fun h=>a1 h.1)
 refine Dc.ite (fun _=>?_) fun h=>(by cases h)
 refine Dc.bind (Q:=wX (zJ l i).type i=true) (Dc.of (V3 _ i hx.1)) (fun a2=>?_) fun a2=>Dc.ite (fun h=>(by cases h)) fun _=>Dc.no fun h=>a2 h.2.1
 refine Dc.ite (fun _=>?_) fun h=>(by cases h)
 have hs:=zKB a2
 have hsp:=zM hs
 obtain⟨L,y,hL,hlen,hyk,hyg,hyn,-,hLg⟩:=zEi hsp.2.2
 have hpis:=zGi (zJ l i).type.nodes (zJ l i).type (Nat.le_refl _)
 have hBene:zF (fun q=>e59 q (zJ l i).type) y:=by simp only[e59];exact zIi _ _ L y hsp.2.2 hL hyk
 refine Dc.evt (zIj hsp.2.2 hsp.1 hL hyk) ?_
 have only:∀ {P:Prop} (n:Int),(zJ l i).kind=n->(n=1->(Y8 l i↔P))->(n=2->(iI l i=true↔P))->(n=4->(qZ l i=true↔P))->(n=3->(C2 l i=true↔P))->(¬(n=1∨n=2∨n=3∨n=4)->(False↔P))->(P↔I3 N l i):=fun {P} n hn k1 k2 k4 k3 k0=>by
  unfold I3
  rw[hn]
  by_cases e1:n=1
  ·rw[←k1 e1];exact⟨fun h=>⟨a1,a2,.inl ⟨e1,h⟩⟩,fun h=>by rcases h.2.2 with h|h|h|h<;>first|exact h.2 | (have:=h.1;omega)⟩
  ·by_cases e2:n=2
   ·rw[←k2 e2];exact⟨fun h=>⟨a1,a2,.inr (.inl ⟨e2,h⟩)⟩,fun h=>by rcases h.2.2 with h|h|h|h<;>first|exact h.2 | (have:=h.1;omega)⟩
   ·by_cases e4:n=4
    ·rw[←k4 e4];exact⟨fun h=>⟨a1,a2,.inr (.inr (.inl ⟨e4,h⟩))⟩,fun h=>by rcases h.2.2 with h|h|h|h<;>first|exact h.2 | (have:=h.1;omega)⟩
    ·by_cases e3:n=3
     ·rw[←k3 e3];exact⟨fun h=>⟨a1,a2,.inr (.inr (.inr ⟨e3,h⟩))⟩,fun h=>by rcases h.2.2 with h|h|h|h<;>first|exact h.2 | (have:=h.1;omega)⟩
     ·rw[←k0 (by omega)];exact⟨False.elim,fun h=>by rcases h.2.2 with h|h|h|h<;>(have:=h.1;omega)⟩
 refine Dc.ite (fun k1=>?_) fun k1=>?_
 ·have k1':(zJ l i).kind=1:=by simpa using k1
  have:Dc (fun q=>e56 q l i>>=fun r12=>some r12) (Y8 l i):=by
   obtain⟨b,hb,hb'⟩:=zGf l i h0 h1 hl he
   exact⟨b,hb.bind zF.ret,hb'⟩
  exact this.iff (only 1 k1' (fun _=>Iff.rfl) (fun h=>by omega) (fun h=>by omega) (fun h=>by omega) (fun h=>absurd (.inl rfl) h))
 have k1':(zJ l i).kind≠1:=by simpa using k1
 refine Dc.ite (fun k3=>?_) fun k3=>?_
 ·have k3':(zJ l i).kind=3:=by simpa using k3
  have dfn:∀ {P:Prop},(P↔C2 l i=true)->(P↔I3 N l i):=fun hP=>hP.trans (only 3 k3' (fun h=>by omega) (fun h=>by omega) (fun h=>by omega) (fun _=>Iff.rfl) (fun h=>absurd (.inr (.inr (.inl rfl))) h))
  have need:C2 l i=true->wX (zJ l i).body i=true∧(zJ l i).fam=0∧(zJ l i).place=0∧(zJ l i).pars=0∧(zJ l i).inds=0∧(zJ l i).level=0∧(zJ l i).cons.length=0∧(zJ l i).fields.length=0:=fun h=>by
   unfold C2 at h
   simp only[Bool.and_eq_true,decide_eq_true_eq,beq_iff_eq]at h
   exact h
  refine Dc.iff (P:=C2 l i=true) ?_ (dfn Iff.rfl)
  refine Dc.bind (Q:=wX (zJ l i).body i=true) (Dc.of (V3 _ i hx.2.1)) (fun b1=>?_) fun b1=>Dc.ite (fun h=>(by cases h)) fun _=>Dc.no fun h=>b1 (need h).1
  refine Dc.ite (fun _=>?_) fun h=>(by cases h)
  refine Dc.ite (fun b2=>Dc.ite (fun b3=>Dc.ite (fun b4=>Dc.ite (fun b5=>Dc.ite (fun b6=>Dc.ite (fun b7=>Dc.ret ?_) fun h=>Dc.no fun k=>?_) fun h=>Dc.no fun k=>?_) fun h=>Dc.no fun k=>?_) fun h=>Dc.no fun k=>?_) fun h=>Dc.no fun k=>?_) fun h=>Dc.no fun k=>?_
  ·rw[beq_iff_eq]
   unfold C2
   simp only[beq_iff_eq]at b2 b3 b4 b5 b6 b7
   simp only[Bool.and_eq_true,decide_eq_true_eq,beq_iff_eq]
   exact⟨fun h=>⟨b1,b2,b3,b4,b5,b6,by omega,by omega⟩,fun h=>by have:=h.2.2.2.2.2.2.2;omega⟩
  ·rw[(need k).2.2.2.2.2.2.1]at h;simp at h
  ·rw[(need k).2.2.2.2.2.1]at h;simp at h
  ·rw[(need k).2.2.2.2.1]at h;simp at h
  ·rw[(need k).2.2.2.1]at h;simp at h
  ·rw[(need k).2.2.1]at h;simp at h
  ·rw[(need k).2.1]at h;simp at h
 have k3':(zJ l i).kind≠3:=by simpa using k3
 have tail:((zJ l i).kind=2∨(zJ l i).kind=4)->Dc (fun q=>e57 q l i>>=fun r44=>if r44=true then(if ((zJ l i).kind==2)=true then(if decide ((List.length L:Int)≤24)=true then(if decide ((List.length L:Int)≥(zJ l i).pars)=true then(e59 q (zJ l i).type>>=fun r50=>zP l (zJ l i).fam>>=fun x52=>e58 q r50 (zJ l i).fam (zJ l i).pars x52.inds (List.length L:Int)>>=fun r54=>some r54)else some false)else some false)
   else(if decide ((yN ((zJ l i).pars+1))≤24)=true then(if decide ((List.length L:Int)≥(yN ((zJ l i).pars+1)))=true then(zP L (zJ l i).pars>>=fun x58=>e58 q x58 (zJ l i).fam (zJ l i).pars 0 (zJ l i).pars>>=fun r60=>some r60)else some false)else some false))else some false) (I3 N l i):=fun h24=>by
  have hown:I3 N l i->uX l i=true:=fun h=>by
   rcases h.2.2 with h|h|h|h
   ·exact absurd h.1 k1'
   ·have:=h.2;unfold iI at this;simp only[Bool.and_eq_true]at this;exact this.1
   ·have:=h.2;unfold qZ at this;simp only[Bool.and_eq_true]at this;exact this.1
   ·exact absurd h.1 k3'
  refine Dc.bind (zKA l i h0 h1 he h24) (fun ho=>?_) fun ho=>Dc.ite (fun h=>(by cases h)) fun _=>Dc.no fun h=>ho (hown h)
  refine Dc.ite (fun _=>?_) fun h=>(by cases h)
  have how:=vG ho
  have hfam:=zKa (hF _ how.1 how.2.1 how.2.2.1)
  refine Dc.ite (fun e2=>?_) fun e2=>?_
  ·have e2':(zJ l i).kind=2:=by simpa using e2
   refine Dc.iff (P:=iI l i=true) ?_ (only 2 e2' (fun h=>by omega) (fun _=>Iff.rfl) (fun h=>by omega) (fun h=>by omega) (fun h=>absurd (.inr (.inl rfl)) h))
   refine Dc.ite (fun c1=>?_) fun c1=>Dc.no fun h=>?_
   case refine_2=>
    have:=of_decide_eq_false c1
    have hw:=zGe (t:=(zJ l i).type) (by omega)
    unfold iI at h
    simp only[Bool.and_eq_true,beq_iff_eq]at h
    exact hw h.2.1
   have c1':=of_decide_eq_true c1
   have hw:=zKC hs hL (by omega)
   have hcon:iI l i=true↔(zJ l i).pars≤L.length∧uQ y (zJ l i).fam (zJ l i).pars (zJ l (zJ l i).fam).inds L.length=true:=by
    unfold iI
    rw[hw,ho]
    simp
   refine Dc.iff ?_ hcon.symm
   refine Dc.ite (fun c2=>?_) fun c2=>Dc.no fun h=>?_
   case refine_2=>have:=of_decide_eq_false c2;have:=h.1;omega
   have c2':=of_decide_eq_true c2
   refine Dc.evt hBene (Dc.pure (yH how.1 (by omega)) ?_)
   obtain⟨b,hb,hb'⟩:=V5 y (zJ l i).fam (zJ l i).pars (zJ l (zJ l i).fam).inds L.length hyg (by omega) (by omega) (by omega) (by omega)
   exact⟨b,hb.bind zF.ret,hb'.trans ⟨fun h=>⟨c2',h⟩,fun h=>h.2⟩⟩
  ·have e4':(zJ l i).kind=4:=by have:(zJ l i).kind≠2:=(by simpa using e2);omega
   refine Dc.iff (P:=qZ l i=true) ?_ (only 4 e4' (fun h=>by omega) (fun h=>by omega) (fun _=>Iff.rfl) (fun h=>by omega) (fun h=>absurd (.inr (.inr (.inr rfl))) h))
   rw[zW (x:=(zJ l i).pars+1) (by omega) (by omega)]
   obtain⟨p,hp⟩:=Int.eq_ofNat_of_zero_le (a:=(zJ l i).pars) (by omega)
   have long:¬(zJ l i).pars+1≤24->(xR (zJ l i).type ((zJ l i).pars+1)).2.2≠0:=fun h=>by
    unfold xR
    rw[if_pos hs,if_neg (by omega),if_pos (by omega)];decide
   have need:qZ l i=true->(xR (zJ l i).type ((zJ l i).pars+1)).2.2=0∧uQ (vU (xR (zJ l i).type ((zJ l i).pars+1)).1 (zJ l i).pars) (zJ l i).fam (zJ l i).pars 0 (zJ l i).pars=true:=fun h=>by
    unfold qZ at h
    simp only[Bool.and_eq_true,beq_iff_eq]at h
    exact h.2
   refine Dc.ite (fun c1=>?_) fun c1=>Dc.no fun h=>long (by simpa using of_decide_eq_false c1) (need h).1
   have c1':=of_decide_eq_true c1
   have hsp2:=zKD hs hL (n:=p+1) (by omega)
   rw[show ((p+1:Nat):Int)=(zJ l i).pars+1 by omega]at hsp2
   refine Dc.ite (fun c2=>?_) fun c2=>Dc.no fun h=>?_
   case refine_2=>have:=of_decide_eq_false c2;have:=hsp2.1.1 (need h).1;omega
   have c2':=of_decide_eq_true c2
   have hpl:p<L.length:=by omega
   have hgx:zP L (zJ l i).pars=some L[p]:=by unfold zP;rw[if_pos (by omega),hp,Int.toNat_natCast];exact List.getElem?_eq_getElem hpl
   have hnth:vU (xR (zJ l i).type ((zJ l i).pars+1)).1 (zJ l i).pars=L[p]:=by
    rw[hsp2.2 (by omega)]
    unfold vU
    rw[hp,Int.toNat_natCast,List.getElem?_take,if_pos (by omega),List.getElem?_eq_getElem hpl];rfl
   have hxg:=hLg L[p] (List.getElem_mem hpl)
   refine Dc.pure hgx ?_
   obtain⟨b,hb,hb'⟩:=V5 L[p] (zJ l i).fam (zJ l i).pars 0 (zJ l i).pars hxg.1 (by omega) (by omega) (by omega) (by omega)
   refine⟨b,hb.bind zF.ret,hb'.trans ?_⟩
   unfold qZ
   rw[hnth,ho,hsp2.1.2 (by omega)]
   simp
 refine Dc.ite (fun k2=>?_) fun k2=>?_
 ·have k2':(zJ l i).kind≠2:=by simpa using k2
  refine Dc.ite (fun k4=>Dc.no fun h=>?_) fun k4=>tail (.inr (by simpa using k4))
  have k4':(zJ l i).kind≠4:=by simpa using k4
  rcases h.2.2 with h|h|h|h<;>(have:=h.1;omega)
 ·exact tail (.inl (by simpa using k2))
theorem H5{N:ByteArray->Bool}(hN:pP N)(l:List yE)(hl:l.length≤65535)(he:∀e∈l,iH e):∀(m v:Nat),v+m=l.length->zSR l v->Dc (fun q=>V6 q l (v:Int)) (∀j:Int,v≤j->j<l.length->I3 N l j)
 |0,v,hm,_=>by
  refine Dc.succ ?_
  simp only[V6]
  exact Dc.ite (fun h=>absurd (of_decide_eq_true h) (by omega)) fun _=>Dc.yes fun j h0 h1=>by omega
 |m+1,v,hm,hF=>by
  refine Dc.succ ?_
  simp only[V6]
  refine Dc.ite (fun _=>Dc.bind (zKE hN l v (by omega) (by omega) hl he hF) (fun hr=>?_) fun hr=>Dc.ite (fun h=>(by cases h)) fun _=>Dc.no fun h=>hr (h v (Int.le_refl _) (by omega))) fun h=>absurd (of_decide_eq_false h) (by omega)
  refine Dc.ite (fun _=>?_) fun h=>(by cases h)
  rw[yB v (by omega)]
  refine(H5 hN l hl he m (v+1) (by omega) fun j h0 h1 hk=>?_).iff ⟨fun h j h0 h1=>?_,fun h j h0 h1=>h j (by omega) h1⟩
  ·by_cases e:j=v
   ·subst e
    rcases hr.2.2 with h|h|h|h
    ·exact h.2
    ·have:=h.1;omega
    ·have:=h.1;omega
    ·have:=h.1;omega
   ·exact hF j h0 (by omega) hk
  ·by_cases e:j=v
   ·subst e;exact hr
   ·exact h j (by omega) h1
theorem V7:∀(r l:List yE) (v:Nat) (acc:List ByteArray),l.drop v=r->l.length≤65535->acc.length≤v->zF (fun q=>cA q l acc (v:Int)) (acc++r.map yE.name)
 | [],l,v,acc,hd,hl,ha=>by
  refine zF.succ ?_
  simp only[cA]
  exact zF.ifF (yO hd) (zF.ret.eq (by simp))
 |e::r,l,v,acc,hd,hl,ha=>by
  have hlt:=yT hd
  refine zF.succ ?_
  simp only[cA]
  refine zF.ifT (yL hd) (zF.pure (yC hd) (zF.pure (yU (by simp<;>omega)) ?_))
  rw[yB v (by omega)]
  exact(V7 r l (v+1) _ (zV hd) hl (by simp<;>omega)).eq (by simp)
theorem zRf{N:ByteArray->Bool}{l:List yE}(he:∀e∈l,iH e):(∀j:Int,0≤j->j<l.length->I3 N l j) ↔ ∀j:Int,0≤j->j<l.length->tW N l j=true:=by
 have ofP:∀j,0≤j->j<(l.length:Int)->tW N l j=true->I3 N l j:=fun j h0 h1 h=>by
  have hs:=yZ h
  have hn:N (zJ l j).name=true:=by unfold tW at h;simp only[Bool.and_eq_true]at h;exact h.1
  refine⟨hn,hs.1,?_⟩
  rcases hs.2.2.2.2.2 with k|k|k|k
  ·refine .inl ⟨k,?_⟩
   have hf:=hs.2.1 k
   unfold sU at hf
   simp only[Bool.and_eq_true,Bool.or_eq_true,decide_eq_true_eq]at hf
   refine⟨hf.1.1.1,hf.1.1.2,hf.1.2,hf.2.imp id fun hd=>?_⟩
   unfold zFF at hd
   simp only[Bool.and_eq_true,decide_eq_true_eq,beq_iff_eq]at hd
   obtain⟨⟨⟨⟨⟨d1,d2⟩,d3⟩,d4⟩,d5⟩,d6⟩:=hd
   have hw:yR (zJ l (j+1)).type=((yR (zJ l (j+1)).type).1,(yR (zJ l (j+1)).type).2.1,0):=by rw[←d5]
   have hwo:=tJ hw
   exact⟨d1,d2,d3,d4,hwo.1,by rw[←hwo.2.1];exact d6⟩
  ·exact .inr (.inl ⟨k,hs.2.2.1 k⟩)
  ·exact .inr (.inr (.inr ⟨k,hs.2.2.2.2.1 k⟩))
  ·exact .inr (.inr (.inl ⟨k,hs.2.2.2.1 k⟩))
 refine⟨fun h j h0 h1=>?_,fun h j h0 h1=>ofP j h0 h1 (h j h0 h1)⟩
 obtain⟨r1,r2,r3⟩:=h j h0 h1
 unfold tW
 rw[r1,r2]
 rcases r3 with⟨k,hf⟩|⟨k,hf⟩|⟨k,hf⟩|⟨k,hf⟩
 ·rw[if_pos k]
  obtain⟨f1,f2,f3,f4⟩:=hf
  unfold sU
  rw[f1,f2,f3]
  rcases f4 with f4|⟨d1,d2,d3,d4,d5,d6⟩
  ·simp[f4]
  ·-- the constructor has at most 24 arguments
   have hnext:j+1<l.length∧(zJ l (j+1)).kind=2:=by
    have h5:=f3
    unfold fK at h5
    obtain⟨n,hn⟩:∃n,(zJ l j).cons=[n]:=by
     rcases hc:(zJ l j).cons with _|⟨n,_|⟨m,r⟩⟩
     ·rw[hc]at d2;simp at d2
     ·exact⟨n,rfl⟩
     ·rw[hc]at d2;simp at d2
    rw[hn,mO,qY]at h5
    simp only[Bool.and_eq_true,beq_iff_eq]at h5
    have:=xM h5.2.1.1.1
    have e:n=j+1:=h5.1.2.1
    rw[e]at this
    exact⟨this.2.1,this.2.2⟩
   have hc:iI l (j+1)=true:=by
    rcases(h (j+1) (by omega) hnext.1).2.2 with h|h|h|h
    ·have:=h.1;omega
    ·exact h.2
    ·have:=h.1;omega
    ·have:=h.1;omega
   unfold iI at hc
   simp only[Bool.and_eq_true,beq_iff_eq]at hc
   have hw0:=hc.2.1
   have hw:yR (zJ l (j+1)).type=((yR (zJ l (j+1)).type).1,(yR (zJ l (j+1)).type).2.1,0):=by rw[←hw0]
   have hwo:=tJ hw
   have hD:zFF l j (zJ l j)=true:=by
    unfold zFF
    simp only[Bool.and_eq_true,decide_eq_true_eq,beq_iff_eq]
    exact⟨⟨⟨⟨⟨d1,d2⟩,d3⟩,d4⟩,hw0⟩,by rw[hwo.2.1];exact d6⟩
   rw[hD];simp
 ·rw[if_neg (by omega),if_pos k,hf];rfl
 ·rw[if_neg (by omega),if_neg (by omega),if_pos k,hf];rfl
 ·rw[if_neg (by omega),if_neg (by omega),if_neg (by omega),if_pos k,hf];rfl
theorem zBD(l:List yE)(hl:l.length≤65535)(he:∀e∈l,iH e){b:Bool}(h:zF (fun q=>e18 q l) b):zF (fun q=>e7 q l) b:=by
 obtain⟨N,hN⟩:=zDb
 obtain⟨d,hd,hf⟩:=s8 N hN l hl he
 have hb:=hf.det h
 have hRd:=zGl (by simpa using hl) hd
 have key:Dc (fun q=>e7 q l) (kK N d l=true):=by
  simp only[e7]
  have hNames:zF (fun q=>e26 q l) (l.map yE.name):=by simp only[e26];exact(V7 l l 0 [] rfl hl (by simp)).eq (by simp)
  have hall:(∀j:Int,((0:Nat):Int)≤j->j<l.length->I3 N l j)↔zAS N l l.length 0=true:=by
   refine(show _↔_ from⟨fun h j h0 h1=>h j (by omega) h1,fun h j h0 h1=>h j (by omega) h1⟩:(∀j:Int,((0:Nat):Int)≤j->j<l.length->I3 N l j) ↔ ∀j:Int,0≤j->j<l.length->I3 N l j).trans ((zRf he).trans ?_)
   have back:∀(m v:Nat),v+m=l.length->((∀j:Int,v≤j->j<l.length->tW N l j=true)↔zAS N l m v=true):=by
    intro m
    induction m with
    |zero=>intro v hv;exact⟨fun _=>rfl,fun _ j h0 h1=>by omega⟩
    |succ m ih=>
     intro v hv
     rw[zAS]
     simp only[Bool.and_eq_true]
     rw[←ih (v+1) (by omega)]
     refine⟨fun h=>⟨h v (Int.le_refl _) (by omega),fun j h0 h1=>h j (by omega) h1⟩,fun h j h0 h1=>?_⟩
     by_cases e:j=v
     ·subst e;exact h.1
     ·exact h.2 j (by omega) h1
   exact(show _↔_ from⟨fun h j h0 h1=>h j (by omega) h1,fun h j h0 h1=>h j (by omega) h1⟩:(∀j:Int,0≤j->j<l.length->tW N l j=true) ↔ ∀j:Int,((0:Nat):Int)≤j->j<l.length->tW N l j=true).trans (back l.length 0 (by omega))
  unfold kK
  refine Dc.ite (fun h=>Dc.no ?_) fun h=>Dc.evt hNames (Dc.evt hRd ?_)
  ·have:=of_decide_eq_true h;rw[decide_eq_false (by omega)];simp
  ·have:=of_decide_eq_false h
   rw[decide_eq_true (by omega)]
   cases d with
   |false=>exact Dc.ite (fun h=>(by cases h)) fun _=>Dc.no (by simp)
   |true=>
    refine Dc.ite (fun _=>?_) fun h=>(by cases h)
    exact(H5 hN l hl he l.length 0 (by omega) fun j h0 h1=>by omega).iff (hall.trans (by simp))
 obtain⟨b',h1,h2⟩:=key
 refine h1.eq ?_
 rw[←hb]
 rw[Bool.eq_iff_iff];exact h2
def e30(d:Nat)(c:Int)(a b:Tm):Option Tm:=
 some (Tm.mk c 0 [a,b])
theorem c30{d c a b r}(h:e30 d c a b=some r):Ct 30 [] [ai c,yV a,yV b] (yV r) [] 0:=⟨by
 unfold e30 at h
 cases h
 exact tF ⟨func30,rfl⟩ 1 [] (oD (dT [a,b])<|oS 2 (wC wL [a,b]) o0),⟨tv,⟨tv,tv,⟨tv,dT _⟩,tv⟩,⟨tv,tv,⟨tv,dT _⟩,tv⟩,tv⟩,zA,⟨tv,tv,dT _,tv⟩,zA⟩
def cB:Nat->zR->Int->Int->Int->zR->Option Tm
 |0,_,_,_,_,_=>none
 |e+1,d,f,b,c,a=>
 if decide (f<(d.length:Int))then
 zP d f>>=fun x2=>
 e30 e 5 (Tm.mk b c a) x2>>=fun r4=>
 cB e d (yN (f+1)) r4.k r4.n r4.sub
 else
 some (Tm.mk b c a)
def e10(e:Nat)(g:Tm)(d:zR):Option Tm:=
 cB e d 0 g.k g.n g.sub
theorem zVj:∀e:Nat,(∀ {d f b c a r},cB e d f b c a=some r->(∀j,dL 0 (pt 949 Tryz.f10) (sp j 19 0 [(1,zH zC d .no),(2,.mp 0 0),(4,.mp 1 0),(5,ai f)]) (⟨[(0,.cells [ai b,ai c,zH zC a .no]),(1,.cells [ai 0,ai 0,zH zC ([]:zR) .nl])],2,[],0,[]⟩) (fQ 0 (nQ 0 Tryz.f10 (yV r) [] 0) [.blk 0,.seq (pt 15 Tryz.f10)]))):=by
 intro e
 induction e with
 |zero=>
  exact fun h=>nn h
 |succ e ih=>
  intro d f b c a r h
  rw[cB]at h
  obtain⟨h1,h⟩|⟨h1,h⟩:=zK h
  obtain⟨x2,h3,h⟩:=zB h
  obtain⟨r4,h5,h⟩:=zB h
  exact fun j=>lH 2 [] [0,1] [] [1,2,4,5] (oD (dT d)<|oD (dT ([]:zR))<|oD (dT r4.sub)<|oC 1 [] (c30 h5)<|oA 1 (xH (o:=.no) h3)<|oB 1 h1 o0) (ih h)
  cases h
  exact fun j=>lF 2 [] (oD (dT a)<|oB 1 h1 o0)
theorem u6{e g d r}(h:e10 e g d=some r):Ct 10 [] [yV g,zH zC d .no] (yV r) [] 0:=⟨by
 unfold e10 at h
 exact tH ⟨func10,rfl⟩ 0 [] [0,1] [] [1,2,4,5] (oD (dT d)<|oD (dT ([]:zR))<|oD (dT g.sub) o0) (zVj _ h),⟨⟨tv,tv,⟨tv,dT _⟩,tv⟩,⟨tv,dT _⟩,tv⟩,zA,⟨tv,tv,dT _,tv⟩,zA⟩
def e12(c:Nat)(a:Tm)(b:zR):Option Tm:=
 e10 c a b>>=fun r1=>
 some r1
theorem c12{c a b r}(h:e12 c a b=some r):Ct 12 [] [yV a,zH zC b .no] (yV r) [] 0:=⟨by
 unfold e12 at h
 obtain⟨r1,h2,h⟩:=zB h
 obtain rfl:=sj h
 exact tF ⟨func12,rfl⟩ 1 [] (oD (dT r1.sub)<|oC 1 [] (u6 h2) o0),⟨⟨tv,tv,⟨tv,dT _⟩,tv⟩,⟨tv,dT _⟩,tv⟩,zA,⟨tv,tv,dT _,tv⟩,zA⟩
def e19(c:Nat)(a:zY)(b:Int):Option Bool:=
 e18 c a>>=fun r1=>
 if r1 then
 e42 c a b 1>>=fun r4=>
 if r4 then
 zP a b>>=fun x7=>
 some (decide ((x7.fields.length:Int)>0))
 else
 some false
 else
 some false
theorem q19:Qf 19 Tryz.f19:=⟨func19,rfl⟩
theorem c19{c a b r}(h:e19 c a b=some r):Ct 19 [] [zH yA a .no,ai b] (ab r) [] 0:=⟨by
 unfold e19 at h
 obtain⟨r1,h2,h⟩:=zB h
 obtain⟨h3,h⟩|⟨h3,h⟩:=zK h
 obtain⟨r4,h5,h⟩:=zB h
 have k:=oK 0 [] h3 (c18 h2) o0
 obtain⟨h6,h⟩|⟨h6,h⟩:=zK h
 obtain⟨x7,h8,h⟩:=zB h
 cases h
 exact tF q19 3 [] (oA 0 (xK (o:=.no) h8)<|oK 0 [] h6 (c42 h5) k)
 cases h
 exact tF q19 0 [] (oK 0 [] h6 (c42 h5) k)
 cases h
 exact tF q19 0 [] (oK 0 [] h3 (c18 h2) o0),⟨⟨tv,dE _⟩,tv,tv⟩,zA,tv,zA⟩
def e31(c:Nat)(a b:Int):Option Tm:=
 some (Tm.mk a b [])
theorem c31{c a b r}(h:e31 c a b=some r):Ct 31 [] [ai a,ai b] (yV r) [] 0:=⟨by
 unfold e31 at h
 cases h
 exact tF ⟨func31,rfl⟩ 1 [] (oD (dT ([]:zR)) o0),⟨tv,tv,tv⟩,zA,⟨tv,tv,dT _,tv⟩,zA⟩
def e11(b:Nat)(a:Int):Option Tm:=
 e31 b 6 a>>=fun r1=>
 some r1
theorem c11{b a r}(h:e11 b a=some r):Ct 11 [] [ai a] (yV r) [] 0:=⟨by
 unfold e11 at h
 obtain⟨r1,h2,h⟩:=zB h
 obtain rfl:=sj h
 exact tF ⟨func11,rfl⟩ 1 [] (oD (dT r1.sub)<|oC 0 [] (c31 h2) o0),⟨tv,tv⟩,zA,⟨tv,tv,dT _,tv⟩,zA⟩
def zRe(b:Nat)(a:Int):Option (ByteArray×Int):=
 Y0 b a>>=fun r1=>
 if r1 then
 zDj b a>>=fun r4=>
 if r4==1 then
 some ((jQ [(IntKind.u8.wrap (a))]),0)
 else
 none
 else
 none
theorem zZr{b a r}(h:zRe b a=some r):Ct 215 [] [ai a] (.tup [at' r.1,ai r.2]) [] 0:=⟨by
 unfold zRe at h
 obtain⟨r1,h2,h⟩:=zB h
 obtain⟨h3,h⟩:=sO h
 obtain⟨r4,h5,h⟩:=zB h
 have k:=oC 1 [] (zXW h5)<|oK 0 [] h3 (zJc h2) o0
 obtain⟨h6,h⟩:=sO h
 cases h
 exact tF ⟨func215,rfl⟩ 0 [] (oA 2 (sG [(IntKind.u8.wrap (a))] (o:=.full))<|oB 0 h6 k),⟨tv,tv⟩,zA,⟨tv,tv,tv⟩,zA⟩
def K9:Nat->yD->Int->yD->Int->Option yD
 |0,_,_,_,_=>none
 |c+1,a,b,d,e=>
 if decide (b<(a.length:Int))then
 zP a b>>=fun x2=>
 xB 8 d [e]>>=fun l4=>
 zRe c x2>>=fun r6=>
 K9 c a (yN (b+1)) l4 (yN (e+(r6.1.size:Int)))
 else
 some d
def zVi(c:Nat)(a:yD):Option yD:=
 K9 c a 0 [] 0
theorem zRd:∀c:Nat,(∀ {a b d e r},K9 c a b d e=some r->(∀j,dL 0 (pt 16309 f173) (sp j 30 0 [(3,zH zU d (.st 0 1)),(4,ai e),(9,zH zU a .no),(10,ai (a.length:Int)),(11,ai b)]) (⟨[],0,[0],1,[]⟩) (fQ 0 (nQ 0 f173 (.sl (zG zU r) r.length .no) [] 0) [.blk 0,.seq (pt 255 f173)]))):=by
 intro c
 induction c with
 |zero=>
  exact fun h=>nn h
 |succ c ih=>
  intro a b d e r h
  rw[K9]at h
  obtain⟨h1,h⟩|⟨h1,h⟩:=zK h
  obtain⟨x2,h3,h⟩:=zB h
  obtain⟨l4,h5,h⟩:=zB h
  obtain⟨r6,h7,h⟩:=zB h
  exact fun j=>lH 5 [] [] [1] [3,4,9,10,11] (oD (dI a)<|oD (dI l4)<|oC 0 [] (zZr h7)<|oP 2 (tN h5 (by simp))<|oA 0 (uH (o:=.no) h3)<|oB 0 h1 o0) (ih h)
  obtain rfl:=sj h
  exact fun j=>lF 0 [] (oD (dI d)<|oB 0 h1 o0)
theorem yBH{c a r}(h:zVi c a=some r):Ct 173 [] [zH zU a .no] (.sl (zG zU r) r.length .no) [] 0:=⟨by
 unfold zVi at h
 exact tH ⟨func173,rfl⟩ 1 [(none,3,1)] [] [0] [3,4,9,10,11] (oD (dI a)<|oD (dI ([]:yD)) o0) (zRd _ h),⟨⟨tv,dI _⟩,tv⟩,zA,dI _,zA⟩
def zVh(b:Nat)(a:Int):Option Bool:=
 if a==9 then
 none
 else
 if a==10 then
 none
 else
 if a==13 then
 none
 else
 some (a==32)
theorem zZq{b a r}(h:zVh b a=some r):Ct 216 [] [ai a] (ab r) [] 0:=⟨by
 unfold zVh at h
 obtain⟨h1,h⟩:=yY h
 have k:=oB 0 h1 o0
 obtain⟨h2,h⟩:=yY h
 have k:=oB 0 h2 k
 obtain⟨h3,h⟩:=yY h
 cases h
 exact tF ⟨func216,rfl⟩ 1 [] (oB 0 h3 k),⟨tv,tv⟩,zA,tv,zA⟩
def Y9(e:Nat)(a b:yD)(c d:Int):Option Int:=
 if decide ((yN (c+d))≥(a.length:Int))then
 none
 else
 zP a (yN (c+d))>>=fun x2=>
 some x2
theorem zEe{e a b c d r}(h:Y9 e a b c d=some r):Ct 217 [.cells [zH zU a .no,zH zU b .no,ai c]] [.mp 0 0,ai d] (ai r) [.cells [zH zU a .no,zH zU b .no,ai c]] 0:=⟨by
 unfold Y9 at h
 obtain⟨h1,h⟩:=yY h
 obtain⟨x2,h3,h⟩:=zB h
 obtain rfl:=sj h
 exact tF ⟨func217,rfl⟩ 1 [0] (oD (dI b)<|oD (dI a)<|oA 3 (uH (o:=.no) h3)<|oB 4 h1 o0),⟨(lz rfl),tv,tv⟩,(zD ⟨⟨tv,dI _⟩,⟨tv,dI _⟩,tv,tv⟩ zA),tv,(zD ⟨dI _,dI _,tv,tv⟩ zA)⟩
def zRc(d:Nat)(a b:yD)(c e f:Int):Option Bool:=
 Y9 d a b c 0>>=fun r1=>
 if r1==e then
 Y9 d a b c 1>>=fun r4=>
 some (r4==f)
 else
 some false
theorem zZp:Qf 218 f218:=⟨func218,rfl⟩
theorem zZo{d a b c e f r}(h:zRc d a b c e f=some r):Ct 218 [.cells [zH zU a .no,zH zU b .no,ai c]] [.mp 0 0,ai e,ai f] (ab r) [.cells [zH zU a .no,zH zU b .no,ai c]] 0:=⟨by
 unfold zRc at h
 obtain⟨r1,h2,h⟩:=zB h
 have k:=oC 0 [0] (zEe h2) o0
 obtain⟨h3,h⟩|⟨h3,h⟩:=zK h
 obtain⟨r4,h5,h⟩:=zB h
 cases h
 exact tF zZp 1 [0] (oD (dI b)<|oD (dI a)<|oC 0 [0] (zEe h5)<|oB 0 h3 k)
 cases h
 exact tF zZp 0 [0] (oD (dI b)<|oD (dI a)<|oB 0 h3 k),⟨(lz rfl),tv,tv,tv⟩,(zD ⟨⟨tv,dI _⟩,⟨tv,dI _⟩,tv,tv⟩ zA),tv,(zD ⟨dI _,dI _,tv,tv⟩ zA)⟩
def L0:Nat->yD->yD->Int->Option (Int×Bool×Int)
 |0,_,_,_=>none
 |d+1,a,b,c=>
 if decide (c<(a.length:Int))then
 Y9 d a b c 0>>=fun r2=>
 zVh d r2>>=fun r4=>
 if r4 then
 L0 d a b (yN (c+1))
 else
 zRc d a b c 45 45>>=fun r7=>
 if r7 then
 none
 else
 zRc d a b c 123 45>>=fun r12=>
 if r12 then
 none
 else
 some (0,true,c)
 else
 some (0,true,c)
def zVg(d:Nat)(a b:yD)(e:Int):Option (Int×Bool×Int):=
 L0 d a b e
theorem zRb:∀d:Nat,(∀ {a b c r},L0 d a b c=some r->(∀j,dL 1 (pt 229 f174) (sp j 48 0 [(0,.mp 0 0)]) (⟨[(0,.cells [zH zU a .no,zH zU b .no,ai c])],1,[],0,[]⟩) (fQ 1 (nQ 1 f174 (.tup [ai r.1,ab r.2.1]) [.cells [zH zU a .no,zH zU b .no,ai r.2.2]] 0) [.blk 0,.seq (pt 15 f174)]))):=by
 intro d
 induction d with
 |zero=>
  exact fun h=>nn h
 |succ d ih=>
  intro a b c r h
  rw[L0]at h
  have z {os ob} (k:Oz os ob):=oD (dI b)<|oD (dI a)<|k
  obtain⟨h1,h⟩|⟨h1,h⟩:=zK h
  obtain⟨r2,h3,h⟩:=zB h
  obtain⟨r4,h5,h⟩:=zB h
  have k:=oC 0 [0] (zEe h3)<|oB 3 h1 o0
  obtain⟨h6,h⟩|⟨h6,h⟩:=zK h
  exact fun j=>lH 3 [] [0] [] [0] (z<|oK 0 [] h6 (zZq h5) k) (ih h)
  obtain⟨r7,h8,h⟩:=zB h
  have k:=oK 0 [] h6 (zZq h5) k
  obtain⟨h9,h⟩:=yY h
  obtain⟨r12,h13,h⟩:=zB h
  have k:=oK 0 [0] h9 (zZo h8) k
  obtain⟨h14,h⟩:=yY h
  cases h
  exact fun j=>lF 0 [0] (z<|oK 0 [0] h14 (zZo h13) k)
  cases h
  exact fun j=>lF 0 [0] (z<|oB 3 h1 o0)
theorem yBI{d a b e r}(h:zVg d a b e=some r):Ct 174 [.cells [zH zU a .no,zH zU b .no,ai e]] [.mp 0 0] (.tup [ai r.1,ab r.2.1]) [.cells [zH zU a .no,zH zU b .no,ai r.2.2]] 0:=⟨by
 unfold zVg at h
 exact tH ⟨func174,rfl⟩ 0 [] [0] [] [0] (oD (dI b)<|oD (dI a) o0) (zRb _ h),⟨(lz rfl),tv⟩,(zD ⟨⟨tv,dI _⟩,⟨tv,dI _⟩,tv,tv⟩ zA),⟨tv,tv,tv⟩,(zD ⟨dI _,dI _,tv,tv⟩ zA)⟩
def L1:Nat->yD->Int->List U8->Option (ByteArray×Int)
 |0,_,_,_=>none
 |b+1,a,c,e=>
 if decide (c<(a.length:Int))then
 zP a c>>=fun x8=>
 zRe b x8>>=fun r10=>
 if decide ((yN ((e.length:Int)+(r10.1.size:Int)))>65535)then
 none
 else
 xB 1 e (gbs r10.1)>>=fun l13=>
 L1 b a (yN (c+1)) l13
 else
 some ((jQ e),0)
def L2:Nat->yD->Int->Option (ByteArray×Int)
 |0,_,_=>none
 |b+1,a,d=>
 if decide (d<(a.length:Int))then
 zP a d>>=fun x2=>
 Y0 b x2>>=fun r4=>
 if r4 then
 L2 b a (yN (d+1))
 else
 none
 else
 L1 b a 0 []
def zRa(b:Nat)(a:yD):Option (ByteArray×Int):=
 L2 b a 0
theorem zRA:∀b:Nat,(∀ {a c e r},L1 b a c e=some r->(∀j,dL 0 (pt 16309 f248) (sp j 44 0 [(6,zH fE e (.st 0 1)),(21,zH zU a .no),(22,ai (a.length:Int)),(23,ai c)]) (⟨[],0,[0],1,[]⟩) (fQ 0 (nQ 0 f248 (.tup [at' r.1,ai r.2]) [] 0) [.blk 2,.seq (pt 255 f248)]))):=by
 intro b
 induction b with
 |zero=>
  exact fun h=>nn h
 |succ b ih=>
  intro a c e r h
  rw[L1]at h
  obtain⟨h7,h⟩|⟨h7,h⟩:=zK h
  obtain⟨x8,h9,h⟩:=zB h
  obtain⟨r10,h11,h⟩:=zB h
  have k:=oC 1 [] (zZr h11)<|oA 0 (uH (o:=.no) h9)<|oB 0 h7 o0
  obtain⟨h12,h⟩:=yY h
  obtain⟨l13,h14,h⟩:=zB h
  have k:=oB 5 h12 k
  by_cases h15:List.length (gbs r10.1)=0
  exact fun j=>lH 1 [] [] [0] [6,21,22,23] (oD (dI a)<|oD (dU l13)<|oPs 0 (zJp h14 h15) k) (ih h)
  exact fun j=>lH 1 [] [] [1] [6,21,22,23] (oD (dI a)<|oD (dU l13)<|oPs 0 (zLI h14 h15) k) (ih h)
  cases h
  exact fun j=>lF 0 [] (oA 0 (sG e (o:=(.st 0 1)))<|oB 0 h7 o0)
theorem zRB:∀b:Nat,(∀ {a d r},L2 b a d=some r->(∀j,dL 0 (pt 949 f248) (sp j 44 0 [(0,zH zU a .no),(11,zH zU a .no),(12,ai (a.length:Int)),(13,ai d)]) (⟨[],0,[],0,[]⟩) (fQ 0 (nQ 0 f248 (.tup [at' r.1,ai r.2]) [] 0) [.blk 0,.seq (pt 15 f248)]))):=by
 intro b
 induction b with
 |zero=>
  exact fun h=>nn h
 |succ b ih=>
  intro a d r h
  rw[L2]at h
  obtain⟨h1,h⟩|⟨h1,h⟩:=zK h
  obtain⟨x2,h3,h⟩:=zB h
  obtain⟨r4,h5,h⟩:=zB h
  have k:=oA 0 (uH (o:=.no) h3)<|oB 0 h1 o0
  obtain⟨h6,h⟩:=sO h
  exact fun j=>lH 2 [] [] [] [0,11,12,13] (oD (dI a)<|oD (dI a)<|oK 1 [] h6 (zJc h5) k) (ih h)
  exact fun j=>lH 1 [(none,6,1)] [] [0] [6,21,22,23] (oD (dI a)<|oD (dU ([]:List U8))<|oB 0 h1 o0) (zRA _ h)
theorem zZn{b a r}(h:zRa b a=some r):Ct 248 [] [zH zU a .no] (.tup [at' r.1,ai r.2]) [] 0:=⟨by
 unfold zRa at h
 exact tH ⟨func248,rfl⟩ 1 [] [] [] [0,11,12,13] (oD (dI a)<|oD (dI a) o0) (zRB _ h),⟨⟨tv,dI _⟩,tv⟩,zA,⟨tv,tv,tv⟩,zA⟩
def nY:Nat->yD->yD->Int->Int->Option (ByteArray×Int)
 |0,_,_,_,_=>none
 |d+1,b,c,e,a=>
 if decide (a<(b.length:Int))then
 Y9 d b c a 0>>=fun r2=>
 R2 d r2>>=fun r4=>
 if r4 then
 nY d b c e (yN (a+1))
 else
 nE b e a>>=fun x7=>
 zRa d x7>>=fun r9=>
 some (r9.1,a)
 else
 none
def V8(d:Nat)(b c:yD)(e:Int):Option (ByteArray×Int):=
 nY d b c e e
theorem zEd:∀d:Nat,(∀ {b c e a r},nY d b c e a=some r->(∀j,dL 1 (pt 997 f221) (sp j 50 0 [(0,.mp 0 0),(1,.clo 194 [] []),(5,ai e)]) (⟨[(0,.cells [zH zU b .no,zH zU c .no,ai a])],1,[],0,[]⟩) (fQ 1 (nQ 1 f221 (at' r.1) [.cells [zH zU b .no,zH zU c .no,ai r.2]] 0) [.blk 0,.seq (pt 63 f221)]))):=by
 intro d
 induction d with
 |zero=>
  exact fun h=>nn h
 |succ d ih=>
  intro b c e a r h
  rw[nY]at h
  obtain⟨h1,h⟩:=sO h
  obtain⟨r2,h3,h⟩:=zB h
  obtain⟨r4,h5,h⟩:=zB h
  have k:=oC 0 [0] (zEe h3)<|oB 3 h1 o0
  obtain⟨h6,h⟩|⟨h6,h⟩:=zK h
  exact fun j=>lH 3 [] [0] [] [0,1,5] (oD (dI c)<|oD (dI b)<|oK 0 [] h6 (zDg h5) k) (ih h)
  obtain⟨x7,h8,h⟩:=zB h
  obtain⟨r9,h10,h⟩:=zB h
  cases h
  exact fun j=>lF 2 [0] (oD (dI c)<|oD (dI b)<|oC 0 [] (zZn h10)<|oA 2 (zXA h8)<|oK 0 [] h6 (zDg h5) k)
theorem zOx{d b c e r}(h:V8 d b c e=some r):Ct 221 [.cells [zH zU b .no,zH zU c .no,ai e]] [.mp 0 0,.clo 194 [] []] (at' r.1) [.cells [zH zU b .no,zH zU c .no,ai r.2]] 0:=⟨by
 unfold V8 at h
 exact tH ⟨func221,rfl⟩ 1 [] [0] [] [0,1,5] (oD (dI c)<|oD (dI b) o0) (zEd _ h),⟨(lz rfl),⟨tv,tv⟩,tv⟩,(zD ⟨⟨tv,dI _⟩,⟨tv,dI _⟩,tv,tv⟩ zA),tv,(zD ⟨dI _,dI _,tv,tv⟩ zA)⟩
def zRC(b:Nat)(a:Int):Option Bool:=
 Y1 b a>>=fun r1=>
 if r1 then
 some true
 else
 R2 b a>>=fun r4=>
 if r4 then
 none
 else
 if a==95 then
 none
 else
 some (a==39)
theorem zZm:Qf 222 f222:=⟨func222,rfl⟩
theorem zVf{b a r}(h:zRC b a=some r):Ct 222 [] [ai a] (ab r) [] 0:=⟨by
 unfold zRC at h
 obtain⟨r1,h2,h⟩:=zB h
 obtain⟨h3,h⟩|⟨h3,h⟩:=zK h
 cases h
 exact tF zZm 0 [] (oK 0 [] h3 (zDh h2) o0)
 obtain⟨r4,h5,h⟩:=zB h
 have k:=oK 0 [] h3 (zDh h2) o0
 obtain⟨h6,h⟩:=yY h
 have k:=oK 0 [] h6 (zDg h5) k
 obtain⟨h7,h⟩:=yY h
 cases h
 exact tF zZm 1 [] (oB 0 h7 k),⟨tv,tv⟩,zA,tv,zA⟩
def nZ:Nat->yD->yD->Int->Int->Option (ByteArray×Int)
 |0,_,_,_,_=>none
 |d+1,b,c,e,a=>
 if decide (a<(b.length:Int))then
 Y9 d b c a 0>>=fun r2=>
 zRC d r2>>=fun r4=>
 if r4 then
 nZ d b c e (yN (a+1))
 else
 nE b e a>>=fun x7=>
 zRa d x7>>=fun r9=>
 some (r9.1,a)
 else
 none
def V9(d:Nat)(b c:yD)(e:Int):Option (ByteArray×Int):=
 nZ d b c e e
theorem zEc:∀d:Nat,(∀ {b c e a r},nZ d b c e a=some r->(∀j,dL 1 (pt 997 f221) (sp j 50 0 [(0,.mp 0 0),(1,.clo 222 [] []),(5,ai e)]) (⟨[(0,.cells [zH zU b .no,zH zU c .no,ai a])],1,[],0,[]⟩) (fQ 1 (nQ 1 f221 (at' r.1) [.cells [zH zU b .no,zH zU c .no,ai r.2]] 0) [.blk 0,.seq (pt 63 f221)]))):=by
 intro d
 induction d with
 |zero=>
  exact fun h=>nn h
 |succ d ih=>
  intro b c e a r h
  rw[nZ]at h
  obtain⟨h1,h⟩:=sO h
  obtain⟨r2,h3,h⟩:=zB h
  obtain⟨r4,h5,h⟩:=zB h
  have k:=oC 0 [0] (zEe h3)<|oB 3 h1 o0
  obtain⟨h6,h⟩|⟨h6,h⟩:=zK h
  exact fun j=>lH 3 [] [0] [] [0,1,5] (oD (dI c)<|oD (dI b)<|oK 0 [] h6 (zVf h5) k) (ih h)
  obtain⟨x7,h8,h⟩:=zB h
  obtain⟨r9,h10,h⟩:=zB h
  cases h
  exact fun j=>lF 2 [0] (oD (dI c)<|oD (dI b)<|oC 0 [] (zZn h10)<|oA 2 (zXA h8)<|oK 0 [] h6 (zVf h5) k)
theorem zOw{d b c e r}(h:V9 d b c e=some r):Ct 221 [.cells [zH zU b .no,zH zU c .no,ai e]] [.mp 0 0,.clo 222 [] []] (at' r.1) [.cells [zH zU b .no,zH zU c .no,ai r.2]] 0:=⟨by
 unfold V9 at h
 exact tH ⟨func221,rfl⟩ 1 [] [0] [] [0,1,5] (oD (dI c)<|oD (dI b) o0) (zEc _ h),⟨(lz rfl),⟨tv,tv⟩,tv⟩,(zD ⟨⟨tv,dI _⟩,⟨tv,dI _⟩,tv,tv⟩ zA),tv,(zD ⟨dI _,dI _,tv,tv⟩ zA)⟩
def L4:Nat->ByteArray->Int->Nat->Option (Int×Bool)
 |0,_,_,_=>none
 |c+1,b,d,a=>
 if decide (a<ByteArray.size b)then
 R2 c (yN (((Utf8.decode b a).1:Int)))>>=fun r8=>
 if r8 then
 L4 c b (yN ((yN (10*d))+(yN ((IntKind.i32.wrap (((Utf8.decode b a).1:Int)-48)))))) (a+(Utf8.decode b a).2)
 else
 none
 else
 some (d,true)
def zRD(c:Nat)(b:ByteArray):Option (Int×Bool):=
 if b.toList==(⟨#[]⟩:ByteArray).toList then
 none
 else
 if decide ((b.size:Int)>3)then
 none
 else
 pG b 0>>=fun x3=>
 if x3==48 then
 none
 else
 L4 c b 0 0
theorem zRE:∀c:Nat,(∀ {b d a r},L4 c b d a=some r->(∀j,dL 0 (pt 16309 f223) (sp j 40 0 [(4,ai d),(25,.mp 0 0)]) (⟨[(0,.obj (.stringIter b a))],1,[],0,[]⟩) (fQ 0 (nQ 0 f223 (.tup [ai r.1,ab r.2]) [] 0) [.blk 0,.seq (pt 255 f223)]))):=by
 intro c
 induction c with
 |zero=>
  exact fun h=>nn h
 |succ c ih=>
  intro b d a r h
  rw[L4]at h
  obtain⟨h7,h⟩|⟨h7,h⟩:=zK h
  obtain⟨r8,h9,h⟩:=zB h
  have k:=oX 0 (zPz (of_decide_eq_true h7)) o0
  obtain⟨h10,h⟩:=sO h
  exact fun j=>lH 5 [] [0] [] [4,25] (oK 3 [] h10 (zDg h9) k) (ih h)
  cases h
  exact fun j=>lF 1 [] (oX 0 (zPy (of_decide_eq_false h7)) o0)
theorem zZl{c b r}(h:zRD c b=some r):Ct 223 [] [at' b] (.tup [ai r.1,ab r.2]) [] 0:=⟨by
 unfold zRD at h
 obtain⟨h1,h⟩:=yY h
 have k:=oB 0 h1 o0
 obtain⟨h2,h⟩:=yY h
 obtain⟨x3,h4,h⟩:=zB h
 have k:=oA 0 (P9 h4)<|oB 1 h2 k
 obtain⟨h5,h⟩:=yY h
 exact tH ⟨func223,rfl⟩ 0 [] [0] [] [4,25] (oB 0 h5 k) (zRE _ h),⟨tv,tv⟩,zA,⟨tv,tv,tv⟩,zA⟩
def zVe(d:Nat)(a b:yD)(c:Int):Option (ByteArray×Int):=
 Y9 d a b c 0>>=fun r1=>
 if r1==40 then
 none
 else
 if r1==41 then
 none
 else
 if r1==123 then
 some ((jQ [(IntKind.u8.wrap (r1))]),1)
 else
 if r1==125 then
 some ((jQ [(IntKind.u8.wrap (r1))]),1)
 else
 if r1==58 then
 some ((jQ [(IntKind.u8.wrap (r1))]),1)
 else
 if r1==61 then
 none
 else
 if r1==46 then
 none
 else
 if r1==44 then
 none
 else
 if r1==59 then
 some ((jQ [(IntKind.u8.wrap (r1))]),1)
 else
 none
theorem zRF:Qf 224 f224:=⟨func224,rfl⟩
theorem yBJ{d a b c r}(h:zVe d a b c=some r):Ct 224 [.cells [zH zU a .no,zH zU b .no,ai c]] [.mp 0 0] (.tup [at' r.1,ai r.2]) [.cells [zH zU a .no,zH zU b .no,ai c]] 0:=⟨by
 unfold zVe at h
 have z {os ob} (k:Oz os ob):=oD (dI b)<|oD (dI a)<|k
 obtain⟨r1,h2,h⟩:=zB h
 have k:=oC 0 [0] (zEe h2) o0
 obtain⟨h3,h⟩:=yY h
 have k:=oB 0 h3 k
 obtain⟨h4,h⟩:=yY h
 have k:=oB 0 h4 k
 obtain⟨h5,h⟩|⟨h5,h⟩:=zK h
 cases h
 exact tF zRF 0 [0] (z<|oA 2 (sG [(IntKind.u8.wrap (r1))] (o:=.full))<|oB 0 h5 k)
 have k:=oB 0 h5 k
 obtain⟨h6,h⟩|⟨h6,h⟩:=zK h
 cases h
 exact tF zRF 0 [0] (z<|oA 2 (sG [(IntKind.u8.wrap (r1))] (o:=.full))<|oB 0 h6 k)
 have k:=oB 0 h6 k
 obtain⟨h7,h⟩|⟨h7,h⟩:=zK h
 cases h
 exact tF zRF 0 [0] (z<|oA 2 (sG [(IntKind.u8.wrap (r1))] (o:=.full))<|oB 0 h7 k)
 have k:=oB 0 h7 k
 obtain⟨h8,h⟩:=yY h
 have k:=oB 0 h8 k
 obtain⟨h9,h⟩:=yY h
 have k:=oB 0 h9 k
 obtain⟨h10,h⟩:=yY h
 have k:=oB 0 h10 k
 obtain⟨h11,h⟩:=sO h
 cases h
 exact tF zRF 0 [0] (z<|oA 2 (sG [(IntKind.u8.wrap (r1))] (o:=.full))<|oB 0 h11 k),⟨(lz rfl),tv⟩,(zD ⟨⟨tv,dI _⟩,⟨tv,dI _⟩,tv,tv⟩ zA),⟨tv,tv,tv⟩,(zD ⟨dI _,dI _,tv,tv⟩ zA)⟩
def zVd(d:Nat)(a b:yD)(c:Int):Option (zZ×Bool×Int):=
 zP b c>>=fun x1=>
 Y9 d a b c 0>>=fun r3=>
 Y1 d r3>>=fun r5=>
 if r5 then
 V9 d a b c>>=fun r8=>
 zDi d r8.1>>=fun r10=>
 if r10 then
 some ((zZ.mk 2 r8.1 x1),true,r8.2)
 else
 if r8.1.toList==(⟨#[95]⟩:ByteArray).toList then
 none
 else
 e79 d r8.1>>=fun r14=>
 some ((zZ.mk 1 r8.1 x1),r14,r8.2)
 else
 if r3==95 then
 none
 else
 R2 d r3>>=fun r25=>
 if r25 then
 V8 d a b c>>=fun r28=>
 zRD d r28.1>>=fun r30=>
 if r30.2 then
 Y9 d a b r28.2 0>>=fun r33=>
 zRC d r33>>=fun r35=>
 some ((zZ.mk 3 r28.1 x1),!r35,r28.2)
 else
 none
 else
 zVe d a b c>>=fun r37=>
 some ((zZ.mk 4 r37.1 x1),decide (r37.2>0),(yN (c+r37.2)))
theorem zRG:Qf 175 f175:=⟨func175,rfl⟩
theorem yBK{d a b c r}(h:zVd d a b c=some r):Ct 175 [.cells [zH zU a .no,zH zU b .no,ai c]] [.mp 0 0] (.tup [F8 r.1,ab r.2.1]) [.cells [zH zU a .no,zH zU b .no,ai r.2.2]] 0:=⟨by
 unfold zVd at h
 have z {os ob} (k:Oz os ob):=oD (dI b)<|oD (dI a)<|k
 obtain⟨x1,h2,h⟩:=zB h
 obtain⟨r3,h4,h⟩:=zB h
 obtain⟨r5,h6,h⟩:=zB h
 have k:=oC 2 [0] (zEe h4)<|oA 2 (uH (o:=.no) h2) o0
 obtain⟨h7,h⟩|⟨h7,h⟩:=zK h
 obtain⟨r8,h9,h⟩:=zB h
 obtain⟨r10,h11,h⟩:=zB h
 have k:=oC 0 [0] (zOw h9)<|oK 0 [] h7 (zDh h6) k
 obtain⟨h12,h⟩|⟨h12,h⟩:=zK h
 cases h
 exact tF zRG 5 [0] (z<|oK 3 [] h12 (zPI h11) k)
 have k:=oK 3 [] h12 (zPI h11) k
 obtain⟨h13,h⟩:=yY h
 obtain⟨r14,h15,h⟩:=zB h
 cases h
 exact tF zRG 1 [0] (z<|oC 1 [] (c79 h15)<|oB 4 h13 k)
 have k:=oK 0 [] h7 (zDh h6) k
 obtain⟨h16,h⟩:=yY h
 obtain⟨r25,h26,h⟩:=zB h
 have k:=oB 0 h16 k
 obtain⟨h27,h⟩|⟨h27,h⟩:=zK h
 obtain⟨r28,h29,h⟩:=zB h
 obtain⟨r30,h31,h⟩:=zB h
 have k:=oC 3 [] (zZl h31)<|oC 0 [0] (zOx h29)<|oK 0 [] h27 (zDg h26) k
 obtain⟨h32,h⟩:=sO h
 obtain⟨r33,h34,h⟩:=zB h
 obtain⟨r35,h36,h⟩:=zB h
 cases h
 exact tF zRG 2 [0] (z<|oC 0 [] (zVf h36)<|oC 1 [0] (zEe h34)<|oB 1 h32 k)
 obtain⟨r37,h38,h⟩:=zB h
 cases h
 exact tF zRG 10 [0] (z<|oC 0 [0] (yBJ h38)<|oK 0 [] h27 (zDg h26) k),⟨(lz rfl),tv⟩,(zD ⟨⟨tv,dI _⟩,⟨tv,dI _⟩,tv,tv⟩ zA),⟨⟨tv,tv,tv,tv⟩,tv,tv⟩,(zD ⟨dI _,dI _,tv,tv⟩ zA)⟩
def L5:Nat->ByteArray->(yD×Int×Int)->yD->List zZ->Int->Option (List zZ×Int×Int)
 |0,_,_,_,_,_=>none
 |b+1,c,r1,r4,d,a=>
 zVg b r1.1 r4 a>>=fun r6=>
 if r6.2.1 then
 if decide (r6.2.2≥(r1.1.length:Int))then
 xB 32 d [(zZ.mk 5 (⟨#[]⟩:ByteArray) (c.size:Int))]>>=fun l10=>
 some (l10,(c.size:Int),0)
 else
 if decide ((d.length:Int)≥8192)then
 none
 else
 zVd b r1.1 r4 r6.2.2>>=fun r15=>
 if r15.2.1 then
 xB 32 d [r15.1]>>=fun l18=>
 L5 b c r1 r4 l18 r15.2.2
 else
 none
 else
 none
def zVc(b:Nat)(c:ByteArray):Option (List zZ×Int×Int):=
 zAN b c>>=fun r1=>
 if r1.2.2 != 0 then
 none
 else
 zVi b r1.1>>=fun r4=>
 L5 b c r1 r4 [] 0
theorem zRH:∀b:Nat,(∀ {c r1 r4 d a r},L5 b c r1 r4 d a=some r->(∀j,dL 0 (pt 65509 f113) (sp j 81 0 [(0,at' c),(8,.mp 0 0),(9,zH zO d (.st 0 3))]) (⟨[(0,.cells [zH zU r1.1 .no,zH zU r4 .no,ai a])],1,[0],1,[]⟩) (fQ 0 (nQ 0 f113 (.tup [.sl (zG zO r.1) r.1.length .no,ai r.2.1,ai r.2.2]) [] 0) [.blk 0,.seq (pt 4095 f113)]))):=by
 intro b
 induction b with
 |zero=>
  exact fun h=>nn h
 |succ b ih=>
  intro c r1 r4 d a r h
  rw[L5]at h
  obtain⟨r6,h7,h⟩:=zB h
  have k:=oC 0 [0] (yBI h7) o0
  obtain⟨h8,h⟩:=sO h
  have k:=oB 1 h8 k
  obtain⟨h9,h⟩|⟨h9,h⟩:=zK h
  obtain⟨l10,h11,h⟩:=zB h
  cases h
  exact fun j=>lF 1 [] (oD (zL l10)<|oP 2 (zLG h11 (by simp))<|oB 4 h9 k)
  have k:=oB 4 h9 k
  obtain⟨h12,h⟩:=yY h
  obtain⟨r15,h16,h⟩:=zB h
  have k:=oC 0 [0] (yBK h16)<|oB 1 h12 k
  obtain⟨h17,h⟩:=sO h
  obtain⟨l18,h19,h⟩:=zB h
  exact fun j=>lH 0 [] [0] [1] [0,8,9] (oD (zL l18)<|oD (dI r4)<|oD (dI r1.1)<|oP 4 (zLG h19 (by simp))<|oB 1 h17 k) (ih h)
theorem yBL{b c r}(h:zVc b c=some r):Ct 113 [] [at' c] (.tup [.sl (zG zO r.1) r.1.length .no,ai r.2.1,ai r.2.2]) [] 0:=⟨by
 unfold zVc at h
 obtain⟨r1,h2,h⟩:=zB h
 have k:=oC 0 [] (zXY h2) o0
 obtain⟨h3,h⟩:=yY h
 obtain⟨r4,h5,h⟩:=zB h
 exact tH ⟨func113,rfl⟩ 0 [(none,9,3)] [0] [0] [0,8,9] (oD (zL ([]:List zZ))<|oD (dI r4)<|oD (dI r1.1)<|oC 0 [] (yBH h5)<|oB 3 h3 k) (zRH _ h),⟨tv,tv⟩,zA,⟨zL _,tv,tv,tv⟩,zA⟩
def e70(b:Nat)(a:ByteArray):Option (List zZ×Int×Int×Int):=
 zVc b a>>=fun r1=>
 if r1.2.2 != 0 then
 none
 else
 some (r1.1,0,0,0)
theorem c70{b a r}(h:e70 b a=some r):Ct 70 [] [at' a] (.mp 0 0) [.cells [zH zO r.1 .no,ai r.2.1,ai r.2.2.1,ai r.2.2.2]] 0:=⟨by
 unfold e70 at h
 obtain⟨r1,h2,h⟩:=zB h
 have k:=oC 0 [] (yBL h2) o0
 obtain⟨h3,h⟩:=yY h
 cases h
 exact tF ⟨func70,rfl⟩ 0 [0] (oD (zL r1.1)<|oB 3 h3 k),⟨tv,tv⟩,zA,(lz rfl),(zD ⟨zL _,tv,tv,tv,tv⟩ zA)⟩
def e71(f:Nat)(b:List zZ)(c d a e:Int):Option zZ:=
 if decide ((yN (c+e))≥(b.length:Int))then
 none
 else
 zP b (yN (c+e))>>=fun x4=>
 some x4
theorem c71{f b c d a e r}(h:e71 f b c d a e=some r):Ct 71 [.cells [zH zO b .no,ai c,ai d,ai a]] [.mp 0 0,ai e] (F8 r) [.cells [zH zO b .no,ai c,ai d,ai a]] 0:=⟨by
 unfold e71 at h
 obtain⟨h1,h⟩:=yY h
 obtain⟨x4,h5,h⟩:=zB h
 obtain rfl:=sj h
 exact tF ⟨func71,rfl⟩ 2 [0] (oD (zL b)<|oA 3 (zXd (o:=.no) h5)<|oB 4 h1 o0),⟨(lz rfl),tv,tv⟩,(zD ⟨⟨tv,zL _⟩,tv,tv,tv,tv⟩ zA),⟨tv,tv,tv,tv⟩,(zD ⟨zL _,tv,tv,tv,tv⟩ zA)⟩
def aJ(g:Nat)(b:List zZ)(d c a f:Int)(e:ByteArray):Option Bool:=
 e71 g b d c a f>>=fun r1=>
 if r1.kind_==4 then
 some (r1.text_.toList==e.toList)
 else
 if r1.kind_==2 then
 some (r1.text_.toList==e.toList)
 else
 some false
theorem zVb:Qf 176 f176:=⟨func176,rfl⟩
theorem E0{g b d c a f e r}(h:aJ g b d c a f e=some r):Ct 176 [.cells [zH zO b .no,ai d,ai c,ai a]] [.mp 0 0,ai f,at' e] (ab r) [.cells [zH zO b .no,ai d,ai c,ai a]] 0:=⟨by
 unfold aJ at h
 obtain⟨r1,h2,h⟩:=zB h
 have k:=oC 0 [0] (c71 h2) o0
 obtain⟨h3,h⟩|⟨h3,h⟩:=zK h
 cases h
 exact tF zVb 2 [0] (oD (zL b)<|oB 2 h3 k)
 have k:=oB 2 h3 k
 obtain⟨h4,h⟩|⟨h4,h⟩:=zK h
 cases h
 exact tF zVb 2 [0] (oD (zL b)<|oB 1 h4 k)
 cases h
 exact tF zVb 0 [0] (oD (zL b)<|oB 1 h4 k),⟨(lz rfl),tv,tv,tv⟩,(zD ⟨⟨tv,zL _⟩,tv,tv,tv,tv⟩ zA),tv,(zD ⟨zL _,tv,tv,tv,tv⟩ zA)⟩
def zVa(e:Nat)(c:List zZ)(d b a:Int):Option Int:=
 aJ e c d b a 0 (⟨#[100,97,116,97]⟩:ByteArray)>>=fun r1=>
 if r1 then
 none
 else
 aJ e c d b a 0 (⟨#[114,101,99,111,114,100]⟩:ByteArray)>>=fun r4=>
 if r4 then
 some 2
 else
 none
theorem yBN{e c d b a r}(h:zVa e c d b a=some r):Ct 114 [.cells [zH zO c .no,ai d,ai b,ai a]] [.mp 0 0] (ai r) [.cells [zH zO c .no,ai d,ai b,ai a]] 0:=⟨by
 unfold zVa at h
 obtain⟨r1,h2,h⟩:=zB h
 obtain⟨h3,h⟩:=yY h
 obtain⟨r4,h5,h⟩:=zB h
 have k:=oK 0 [0] h3 (E0 h2) o0
 obtain⟨h6,h⟩:=sO h
 cases h
 exact tF ⟨func114,rfl⟩ 0 [0] (oD (zL c)<|oK 0 [0] h6 (E0 h5) k),⟨(lz rfl),tv⟩,(zD ⟨⟨tv,zL _⟩,tv,tv,tv,tv⟩ zA),tv,(zD ⟨zL _,tv,tv,tv,tv⟩ zA)⟩
def zRI(f:Nat)(c:List zZ)(d b a e:Int):Option Bool:=
 e71 f c d b a e>>=fun r1=>
 if r1.kind_==1 then
 e71 f c d b a e>>=fun r4=>
 some (!(r4.text_.toList==(⟨#[95]⟩:ByteArray).toList))
 else
 some false
theorem zZk:Qf 177 f177:=⟨func177,rfl⟩
theorem zZj{f c d b a e r}(h:zRI f c d b a e=some r):Ct 177 [.cells [zH zO c .no,ai d,ai b,ai a]] [.mp 0 0,ai e] (ab r) [.cells [zH zO c .no,ai d,ai b,ai a]] 0:=⟨by
 unfold zRI at h
 obtain⟨r1,h2,h⟩:=zB h
 have k:=oC 0 [0] (c71 h2) o0
 obtain⟨h3,h⟩|⟨h3,h⟩:=zK h
 obtain⟨r4,h5,h⟩:=zB h
 cases h
 exact tF zZk 1 [0] (oD (zL c)<|oC 0 [0] (c71 h5)<|oB 0 h3 k)
 cases h
 exact tF zZk 0 [0] (oD (zL c)<|oB 0 h3 k),⟨(lz rfl),tv,tv⟩,(zD ⟨⟨tv,zL _⟩,tv,tv,tv,tv⟩ zA),tv,(zD ⟨zL _,tv,tv,tv,tv⟩ zA)⟩
def zOv(e:Nat)(c:List zZ)(d b a:Int):Option (ByteArray×Int×Int×Int):=
 zRI e c d b a 0>>=fun r1=>
 if r1 then
 if a != 0 then
 none
 else
 e71 e c (yN (d+1)) b a (-1)>>=fun r5=>
 some (r5.text_,(yN (d+1)),b,a)
 else
 none
theorem zVA{e c d b a r}(h:zOv e c d b a=some r):Ct 116 [.cells [zH zO c .no,ai d,ai b,ai a]] [.mp 0 0] (at' r.1) [.cells [zH zO c .no,ai r.2.1,ai r.2.2.1,ai r.2.2.2]] 0:=⟨by
 unfold zOv at h
 obtain⟨r1,h2,h⟩:=zB h
 obtain⟨h3,h⟩:=sO h
 have k:=oK 0 [0] h3 (zZj h2) o0
 obtain⟨h4,h⟩:=yY h
 obtain⟨r5,h6,h⟩:=zB h
 cases h
 exact tF ⟨func116,rfl⟩ 0 [0] (oD (zL c)<|oC 3 [0] (c71 h6)<|oB 2 h4 k),⟨(lz rfl),tv⟩,(zD ⟨⟨tv,zL _⟩,tv,tv,tv,tv⟩ zA),tv,(zD ⟨zL _,tv,tv,tv,tv⟩ zA)⟩
def zVB(e:Nat)(c:List zZ)(d b a:Int):Option Bool:=
 aJ e c d b a 0 (⟨#[125]⟩:ByteArray)>>=fun r1=>
 some (!r1)
theorem zZi{e c d b a r}(h:zVB e c d b a=some r):Ct 123 [.cells [zH zO c .no,ai d,ai b,ai a]] [.mp 0 0] (ab r) [.cells [zH zO c .no,ai d,ai b,ai a]] 0:=⟨by
 unfold zVB at h
 obtain⟨r1,h2,h⟩:=zB h
 cases h
 exact tF ⟨func123,rfl⟩ 1 [0] (oD (zL c)<|oC 0 [0] (E0 h2) o0),⟨(lz rfl),tv⟩,(zD ⟨⟨tv,zL _⟩,tv,tv,tv,tv⟩ zA),tv,(zD ⟨zL _,tv,tv,tv,tv⟩ zA)⟩
def zGc(f:Nat)(c:List zZ)(d b a:Int)(e:ByteArray):Option (Int×Int×Int):=
 aJ f c d b a 0 e>>=fun r1=>
 if r1 then
 if a==0 then
 some ((yN (d+1)),b,a)
 else
 none
 else
 none
theorem zOu{f c d b a e r}(h:zGc f c d b a e=some r):Ct 120 [.cells [zH zO c .no,ai d,ai b,ai a]] [.mp 0 0,at' e] (.tup []) [.cells [zH zO c .no,ai r.1,ai r.2.1,ai r.2.2]] 0:=⟨by
 unfold zGc at h
 obtain⟨r1,h2,h⟩:=zB h
 obtain⟨h3,h⟩:=sO h
 have k:=oK 0 [0] h3 (E0 h2) o0
 obtain⟨h4,h⟩:=sO h
 cases h
 exact tF ⟨func120,rfl⟩ 3 [0] (oD (zL c)<|oB 2 h4 k),⟨(lz rfl),tv,tv⟩,(zD ⟨⟨tv,zL _⟩,tv,tv,tv,tv⟩ zA),tv,(zD ⟨zL _,tv,tv,tv,tv⟩ zA)⟩
def zBE(c:Nat)(a:zS)(d b:Int):Option Int:=
 if decide (b<(a.sub_.length:Int))then
 none
 else
 some d
def zVC(c:Nat)(a:zS)(e:Int):Option Int:=
 zBE c a (yN (e+1)) 0
theorem zRJ{c a d b r}(h:zBE c a d b=some r):(∀j,dL 0 (pt 4021 f272) (sp j 23 0 [(1,ai d),(10,zH xI a.sub_ .no),(11,ai (a.sub_.length:Int)),(12,ai b)]) (⟨[],0,[],0,[]⟩) (fQ 0 (nQ 0 f272 (ai r) [] 0) [.blk 0,.seq (pt 63 f272)])):=by
 unfold zBE at h
 obtain⟨h1,h⟩:=yY h
 obtain rfl:=sj h
 exact fun j=>lF 0 [] (oB 0 h1 o0)
theorem yBO{c a e r}(h:zVC c a e=some r):Ct 272 [] [xV a,ai e] (ai r) [] 0:=⟨by
 unfold zVC at h
 exact tH ⟨func272,rfl⟩ 3 [] [] [] [1,10,11,12] (oD (zQ a.sub_) o0) (zRJ h),⟨⟨tv,tv,tv,tv,⟨tv,zQ _⟩,tv⟩,tv,tv⟩,zA,tv,zA⟩
def zVD(b:Nat)(a:zS):Option Int:=
 zVC b a 0>>=fun r1=>
 some r1
theorem yBP{b a r}(h:zVD b a=some r):Ct 249 [] [xV a] (ai r) [] 0:=⟨by
 unfold zVD at h
 obtain⟨r1,h2,h⟩:=zB h
 obtain rfl:=sj h
 exact tF ⟨func249,rfl⟩ 0 [] (oC 1 [] (yBO h2) o0),⟨⟨tv,tv,tv,tv,⟨tv,zQ _⟩,tv⟩,tv⟩,zA,tv,zA⟩
def zBF(d:Nat)(a:zS)(b c e:Int):Option Int:=
 if decide (c<(a.sub_.length:Int))then
 none
 else
 some e
def zVE(d:Nat)(a:zS)(b:Int):Option Int:=
 if decide (b>128)then
 none
 else
 zBF d a b 0 b
theorem zRK{d a b c e r}(h:zBF d a b c e=some r):(∀j,dL 0 (pt 16309 f250) (sp j 27 0 [(1,ai b),(5,ai e),(13,zH xI a.sub_ .no),(14,ai (a.sub_.length:Int)),(15,ai c)]) (⟨[],0,[],0,[]⟩) (fQ 0 (nQ 0 f250 (ai r) [] 0) [.blk 0,.seq (pt 255 f250)])):=by
 unfold zBF at h
 obtain⟨h2,h⟩:=yY h
 obtain rfl:=sj h
 exact fun j=>lF 0 [] (oB 0 h2 o0)
theorem yBQ{d a b r}(h:zVE d a b=some r):Ct 250 [] [xV a,ai b] (ai r) [] 0:=⟨by
 unfold zVE at h
 obtain⟨h1,h⟩:=yY h
 exact tH ⟨func250,rfl⟩ 2 [] [] [] [1,5,13,14,15] (oD (zQ a.sub_)<|oB 0 h1 o0) (zRK h),⟨⟨tv,tv,tv,tv,⟨tv,zQ _⟩,tv⟩,tv,tv⟩,zA,tv,zA⟩
def zRL(b:Nat)(a:zS):Option Int:=
 zVD b a>>=fun r1=>
 if decide (r1>8192)then
 none
 else
 zVE b a 1>>=fun r4=>
 some r4
theorem zZh{b a r}(h:zRL b a=some r):Ct 225 [] [xV a] (ai r) [] 0:=⟨by
 unfold zRL at h
 obtain⟨r1,h2,h⟩:=zB h
 have k:=oC 1 [] (yBP h2) o0
 obtain⟨h3,h⟩:=yY h
 obtain⟨r4,h5,h⟩:=zB h
 obtain rfl:=sj h
 exact tF ⟨func225,rfl⟩ 0 [] (oC 1 [] (yBQ h5)<|oB 0 h3 k),⟨⟨tv,tv,tv,tv,⟨tv,zQ _⟩,tv⟩,tv⟩,zA,tv,zA⟩
def zVF(f:Nat)(c:List zZ)(d b a:Int)(e:zS)(g:Int):Option (zS×Int×Int):=
 if a==0 then
 zRL f e>>=fun r2=>
 if decide (r2>128)then
 none
 else
 some (e,b,a)
 else
 none
theorem yBR{f c d b a e g r}(h:zVF f c d b a e g=some r):Ct 179 [.cells [zH zO c .no,ai d,ai b,ai a]] [.mp 0 0,xV e,ai g] (xV r.1) [.cells [zH zO c .no,ai d,ai r.2.1,ai r.2.2]] 0:=⟨by
 unfold zVF at h
 obtain⟨h1,h⟩:=sO h
 obtain⟨r2,h3,h⟩:=zB h
 have k:=oC 1 [] (zZh h3)<|oB 1 h1 o0
 obtain⟨h4,h⟩:=yY h
 cases h
 exact tF ⟨func179,rfl⟩ 2 [0] (oD (zQ e.sub_)<|oD (zL c)<|oB 0 h4 k),⟨(lz rfl),⟨tv,tv,tv,tv,⟨tv,zQ _⟩,tv⟩,tv,tv⟩,(zD ⟨⟨tv,zL _⟩,tv,tv,tv,tv⟩ zA),⟨tv,tv,tv,tv,zQ _,tv⟩,(zD ⟨zL _,tv,tv,tv,tv⟩ zA)⟩
def zVG(e:Nat)(c:List zZ)(d b a:Int):Option Bool:=
 aJ e c d b a 0 (⟨#[40]⟩:ByteArray)>>=fun r1=>
 if r1 then
 none
 else
 some false
theorem yBS{e c d b a r}(h:zVG e c d b a=some r):Ct 227 [.cells [zH zO c .no,ai d,ai b,ai a]] [.mp 0 0] (ab r) [.cells [zH zO c .no,ai d,ai b,ai a]] 0:=⟨by
 unfold zVG at h
 obtain⟨r1,h2,h⟩:=zB h
 obtain⟨h3,h⟩:=yY h
 cases h
 exact tF ⟨func227,rfl⟩ 0 [0] (oD (zL c)<|oK 0 [0] h3 (E0 h2) o0),⟨(lz rfl),tv⟩,(zD ⟨⟨tv,zL _⟩,tv,tv,tv,tv⟩ zA),tv,(zD ⟨zL _,tv,tv,tv,tv⟩ zA)⟩
def zVH(e:Nat)(c:List zZ)(d b a:Int):Option Bool:=
 zRI e c d b a 0>>=fun r1=>
 if r1 then
 none
 else
 aJ e c d b a 0 (⟨#[83,101,116]⟩:ByteArray)>>=fun r4=>
 if r4 then
 none
 else
 aJ e c d b a 0 (⟨#[40]⟩:ByteArray)>>=fun r7=>
 if r7 then
 none
 else
 some false
theorem zZg{e c d b a r}(h:zVH e c d b a=some r):Ct 253 [.cells [zH zO c .no,ai d,ai b,ai a]] [.mp 0 0] (ab r) [.cells [zH zO c .no,ai d,ai b,ai a]] 0:=⟨by
 unfold zVH at h
 obtain⟨r1,h2,h⟩:=zB h
 obtain⟨h3,h⟩:=yY h
 obtain⟨r4,h5,h⟩:=zB h
 have k:=oK 0 [0] h3 (zZj h2) o0
 obtain⟨h6,h⟩:=yY h
 obtain⟨r7,h8,h⟩:=zB h
 have k:=oK 0 [0] h6 (E0 h5) k
 obtain⟨h9,h⟩:=yY h
 cases h
 exact tF ⟨func253,rfl⟩ 0 [0] (oD (zL c)<|oK 0 [0] h9 (E0 h8) k),⟨(lz rfl),tv⟩,(zD ⟨⟨tv,zL _⟩,tv,tv,tv,tv⟩ zA),tv,(zD ⟨zL _,tv,tv,tv,tv⟩ zA)⟩
def zVI(e:Nat)(c:List zZ)(d b a:Int):Option (zS×Int×Int×Int):=
 e71 e c d b a 0>>=fun r1=>
 e71 e c (yN (d+1)) b a 0>>=fun r3=>
 if r3.kind_==3 then
 e71 e c (yN (d+1)) b a 0>>=fun r6=>
 zRD e r6.text_>>=fun r8=>
 if decide (r8.1>7)then
 none
 else
 some ((zS.mk 2 r1.at_ (⟨#[]⟩:ByteArray) r8.1 []),(yN ((yN (d+1))+1)),b,a)
 else
 some ((zS.mk 2 r1.at_ (⟨#[]⟩:ByteArray) 0 []),(yN (d+1)),b,a)
theorem zZf:Qf 273 f273:=⟨func273,rfl⟩
theorem yBT{e c d b a r}(h:zVI e c d b a=some r):Ct 273 [.cells [zH zO c .no,ai d,ai b,ai a]] [.mp 0 0] (xV r.1) [.cells [zH zO c .no,ai r.2.1,ai r.2.2.1,ai r.2.2.2]] 0:=⟨by
 unfold zVI at h
 have z {os ob} (k:Oz os ob):=oD (zQ ([]:List zS))<|oD (zL c)<|k
 obtain⟨r1,h2,h⟩:=zB h
 obtain⟨r3,h4,h⟩:=zB h
 have k:=oC 4 [0] (c71 h4)<|oC 0 [0] (c71 h2) o0
 obtain⟨h5,h⟩|⟨h5,h⟩:=zK h
 obtain⟨r6,h7,h⟩:=zB h
 obtain⟨r8,h9,h⟩:=zB h
 have k:=oC 0 [] (zZl h9)<|oC 0 [0] (c71 h7)<|oB 0 h5 k
 obtain⟨h10,h⟩:=yY h
 cases h
 exact tF zZf 6 [0] (z<|oB 2 h10 k)
 cases h
 exact tF zZf 2 [0] (z<|oB 0 h5 k),⟨(lz rfl),tv⟩,(zD ⟨⟨tv,zL _⟩,tv,tv,tv,tv⟩ zA),⟨tv,tv,tv,tv,zQ _,tv⟩,(zD ⟨zL _,tv,tv,tv,tv⟩ zA)⟩
def zBG(n:Nat)(a:List zZ)(r1:zS×Int×Int×Int)(g m e p:Int)(q:ByteArray)(s:Int)(f:List zS):Option (zS×Int×Int×Int):=
 if e==0 then
 zVH n a g m e>>=fun r4=>
 if r4 then
 none
 else
 some ((zS.mk p r1.1.at_ q s f),g,m,e)
 else
 none
def zVJ(n:Nat)(a:List zZ)(d c b:Int):Option (zS×Int×Int×Int):=
 if b != 0 then
 none
 else
 aJ n a d c b 0 (⟨#[83,101,116]⟩:ByteArray)>>=fun r2=>
 if r2 then
 zVI n a d c b>>=fun r5=>
 some (r5.1,r5.2.1,r5.2.2.1,r5.2.2.2)
 else
 aJ n a d c b 0 (⟨#[40]⟩:ByteArray)>>=fun r7=>
 if r7 then
 none
 else
 e71 n a d c b 0>>=fun r14=>
 zOv n a d c b>>=fun r16=>
 some ((zS.mk 1 r14.at_ r16.1 0 []),r16.2.1,r16.2.2.1,r16.2.2.2)
def zVK(n:Nat)(a:List zZ)(d c b:Int):Option (zS×Int×Int×Int):=
 zVJ n a d c b>>=fun r1=>
 zBG n a r1 r1.2.1 r1.2.2.1 r1.2.2.2 r1.1.kind_ r1.1.name_ r1.1.n_ r1.1.sub_
def zVL(n:Nat)(a:List zZ)(d c b:Int):Option (zS×Int×Int×Int):=
 e71 n a d c b 0>>=fun r1=>
 if b != 0 then
 none
 else
 aJ n a d c b 0 (⟨#[92]⟩:ByteArray)>>=fun r4=>
 if r4 then
 none
 else
 zVG n a d c b>>=fun r9=>
 if r9 then
 none
 else
 zVK n a d c b>>=fun r14=>
 if r14.2.2.2==0 then
 aJ n a r14.2.1 r14.2.2.1 r14.2.2.2 0 (⟨#[45,62]⟩:ByteArray)>>=fun r17=>
 if r17 then
 none
 else
 some (r14.1,r14.2.1,r14.2.2.1,r14.2.2.2)
 else
 none
theorem zZe:Qf 252 f252:=⟨func252,rfl⟩
theorem zRM{n a r1 g m e p q s f r}(h:zBG n a r1 g m e p q s f=some r):(∀j,dL 1 (pt 997 f228) (sp j 23 0 [(0,.mp 0 0),(2,.mp 1 0),(3,.mp 2 0)]) (⟨[(0,.cells [zH zO a .no,ai g,ai m,ai e]),(1,.cells [ai 0,ai 0,at' (⟨#[]⟩:ByteArray),ai 0,zH xI ([]:List zS) .nl]),(2,.cells [ai p,ai r1.1.at_,at' q,ai s,zH xI f .no])],3,[],0,[]⟩) (fQ 1 (nQ 1 f228 (xV r.1) [.cells [zH zO a .no,ai r.2.1,ai r.2.2.1,ai r.2.2.2]] 0) [.blk 0,.seq (pt 63 f228)]))∧(∀j,dL 1 (pt 997 f228) (sp j 23 0 [(0,.mp 0 0),(2,.mp 1 0),(3,.mp 2 0)]) (⟨[(0,.cells [zH zO a .no,ai g,ai m,ai e]),(1,.cells [ai 0,ai 0,at' (⟨#[]⟩:ByteArray),ai 0,zH xI ([]:List zS) .nl]),(2,.cells [ai p,ai r1.1.at_,at' q,ai s,zH xI f .full])],3,[],0,[]⟩) (fQ 1 (nQ 1 f228 (xV r.1) [.cells [zH zO a .no,ai r.2.1,ai r.2.2.1,ai r.2.2.2]] 0) [.blk 0,.seq (pt 63 f228)])):=by
 unfold zBG at h
 refine⟨?_,?_⟩
 obtain⟨h3,h⟩:=sO h
 obtain⟨r4,h5,h⟩:=zB h
 have k:=oB 1 h3 o0
 obtain⟨h6,h⟩:=yY h
 cases h
 exact fun j=>lF 2 [0] (oD (zQ f)<|oD (zL a)<|oK 0 [0] h6 (zZg h5) k)
 obtain⟨h3,h⟩:=sO h
 obtain⟨r4,h5,h⟩:=zB h
 have k:=oB 1 h3 o0
 obtain⟨h6,h⟩:=yY h
 cases h
 exact fun j=>lF 2 [0] (oD (zQ f)<|oD (zL a)<|oK 0 [0] h6 (zZg h5) k)
theorem yBU{n a d c b r}(h:zVJ n a d c b=some r):Ct 252 [.cells [zH zO a .no,ai d,ai c,ai b]] [.mp 0 0] (xV r.1) [.cells [zH zO a .no,ai r.2.1,ai r.2.2.1,ai r.2.2.2]] 0:=⟨by
 unfold zVJ at h
 obtain⟨h1,h⟩:=yY h
 obtain⟨r2,h3,h⟩:=zB h
 have k:=oB 1 h1 o0
 obtain⟨h4,h⟩|⟨h4,h⟩:=zK h
 obtain⟨r5,h6,h⟩:=zB h
 cases h
 exact tF zZe 1 [0] (oD (zQ r5.1.sub_)<|oD (zL a)<|oC 0 [0] (yBT h6)<|oK 0 [0] h4 (E0 h3) k)
 obtain⟨r7,h8,h⟩:=zB h
 have k:=oK 0 [0] h4 (E0 h3) k
 obtain⟨h9,h⟩:=yY h
 obtain⟨r14,h15,h⟩:=zB h
 obtain⟨r16,h17,h⟩:=zB h
 cases h
 exact tF zZe 1 [0] (oD (zQ ([]:List zS))<|oD (zL a)<|oC 0 [0] (zVA h17)<|oC 0 [0] (c71 h15)<|oK 0 [0] h9 (E0 h8) k),⟨(lz rfl),tv⟩,(zD ⟨⟨tv,zL _⟩,tv,tv,tv,tv⟩ zA),⟨tv,tv,tv,tv,zQ _,tv⟩,(zD ⟨zL _,tv,tv,tv,tv⟩ zA)⟩
theorem yBV{n a d c b r}(h:zVK n a d c b=some r):Ct 228 [.cells [zH zO a .no,ai d,ai c,ai b]] [.mp 0 0] (xV r.1) [.cells [zH zO a .no,ai r.2.1,ai r.2.2.1,ai r.2.2.2]] 0:=⟨by
 unfold zVK at h
 obtain⟨r1,h2,h⟩:=zB h
 exact tH ⟨func228,rfl⟩ 1 [] [0,1,2] [] [0,2,3] (oD (zQ r1.1.sub_)<|oD (zQ ([]:List zS))<|oD (zL a)<|oC 0 [0] (yBU h2) o0) ((zRM h).1),⟨(lz rfl),tv⟩,(zD ⟨⟨tv,zL _⟩,tv,tv,tv,tv⟩ zA),⟨tv,tv,tv,tv,zQ _,tv⟩,(zD ⟨zL _,tv,tv,tv,tv⟩ zA)⟩
theorem yBW{n a d c b r}(h:zVL n a d c b=some r):Ct 180 [.cells [zH zO a .no,ai d,ai c,ai b]] [.mp 0 0] (xV r.1) [.cells [zH zO a .no,ai r.2.1,ai r.2.2.1,ai r.2.2.2]] 0:=⟨by
 unfold zVL at h
 obtain⟨r1,h2,h⟩:=zB h
 have k:=oC 0 [0] (c71 h2) o0
 obtain⟨h3,h⟩:=yY h
 obtain⟨r4,h5,h⟩:=zB h
 have k:=oB 1 h3 k
 obtain⟨h6,h⟩:=yY h
 obtain⟨r9,h10,h⟩:=zB h
 have k:=oK 0 [0] h6 (E0 h5) k
 obtain⟨h11,h⟩:=yY h
 obtain⟨r14,h15,h⟩:=zB h
 have k:=oC 0 [0] (yBV h15)<|oK 0 [0] h11 (yBS h10) k
 obtain⟨h16,h⟩:=sO h
 obtain⟨r17,h18,h⟩:=zB h
 have k:=oB 2 h16 k
 obtain⟨h19,h⟩:=yY h
 cases h
 exact tF ⟨func180,rfl⟩ 2 [0] (oD (zQ r14.1.sub_)<|oD (zL a)<|oK 0 [0] h19 (E0 h18) k),⟨(lz rfl),tv⟩,(zD ⟨⟨tv,zL _⟩,tv,tv,tv,tv⟩ zA),⟨tv,tv,tv,tv,zQ _,tv⟩,(zD ⟨zL _,tv,tv,tv,tv⟩ zA)⟩
def zRN(e:Nat)(b:List zZ)(d c a:Int):Option (zS×Int×Int×Int):=
 e71 e b d c a 0>>=fun r1=>
 zVL e b d c a>>=fun r3=>
 zVF e b r3.2.1 r3.2.2.1 r3.2.2.2 r3.1 r1.at_>>=fun r5=>
 some (r5.1,r3.2.1,r5.2.1,r5.2.2)
theorem zZd{e b d c a r}(h:zRN e b d c a=some r):Ct 121 [.cells [zH zO b .no,ai d,ai c,ai a]] [.mp 0 0] (xV r.1) [.cells [zH zO b .no,ai r.2.1,ai r.2.2.1,ai r.2.2.2]] 0:=⟨by
 unfold zRN at h
 obtain⟨r1,h2,h⟩:=zB h
 obtain⟨r3,h4,h⟩:=zB h
 obtain⟨r5,h6,h⟩:=zB h
 cases h
 exact tF ⟨func121,rfl⟩ 1 [0] (oD (zQ r5.1.sub_)<|oD (zL b)<|oC 0 [0] (yBR h6)<|oC 0 [0] (yBW h4)<|oC 0 [0] (c71 h2) o0),⟨(lz rfl),tv⟩,(zD ⟨⟨tv,zL _⟩,tv,tv,tv,tv⟩ zA),⟨tv,tv,tv,tv,zQ _,tv⟩,(zD ⟨zL _,tv,tv,tv,tv⟩ zA)⟩
def zVM(e:Nat)(a:List zZ)(d c b:Int):Option (yK×Int×Int×Int):=
 e71 e a d c b 0>>=fun r1=>
 zOv e a d c b>>=fun r3=>
 zGc e a r3.2.1 r3.2.2.1 r3.2.2.2 (⟨#[58]⟩:ByteArray)>>=fun r5=>
 zRN e a r5.1 r5.2.1 r5.2.2>>=fun r7=>
 some ((yK.mk r3.1 r1.at_ r7.1),r7.2.1,r7.2.2.1,r7.2.2.2)
theorem yBX{e a d c b r}(h:zVM e a d c b=some r):Ct 178 [.cells [zH zO a .no,ai d,ai c,ai b]] [.mp 0 0] (v7 r.1) [.cells [zH zO a .no,ai r.2.1,ai r.2.2.1,ai r.2.2.2]] 0:=⟨by
 unfold zVM at h
 obtain⟨r1,h2,h⟩:=zB h
 obtain⟨r3,h4,h⟩:=zB h
 obtain⟨r5,h6,h⟩:=zB h
 obtain⟨r7,h8,h⟩:=zB h
 cases h
 exact tF ⟨func178,rfl⟩ 3 [0] (oD (zQ r7.1.sub_)<|oD (zL a)<|oC 0 [0] (zZd h8)<|oC 1 [0] (zOu h6)<|oC 0 [0] (zVA h4)<|oC 0 [0] (c71 h2) o0),⟨(lz rfl),tv⟩,(zD ⟨⟨tv,zL _⟩,tv,tv,tv,tv⟩ zA),⟨tv,tv,tv,tv,tv,tv,zQ _,tv⟩,(zD ⟨zL _,tv,tv,tv,tv⟩ zA)⟩
def zVN(e:Nat)(b:List zZ)(d c a:Int):Option (yK×Int×Int×Int):=
 zVM e b d c a>>=fun r1=>
 zGc e b r1.2.1 r1.2.2.1 r1.2.2.2 (⟨#[59]⟩:ByteArray)>>=fun r3=>
 some (r1.1,r3.1,r3.2.1,r3.2.2)
theorem yBY{e b d c a r}(h:zVN e b d c a=some r):Ct 124 [.cells [zH zO b .no,ai d,ai c,ai a]] [.mp 0 0] (v7 r.1) [.cells [zH zO b .no,ai r.2.1,ai r.2.2.1,ai r.2.2.2]] 0:=⟨by
 unfold zVN at h
 obtain⟨r1,h2,h⟩:=zB h
 obtain⟨r3,h4,h⟩:=zB h
 cases h
 exact tF ⟨func124,rfl⟩ 2 [0] (oD (zQ r1.1.type_.sub_)<|oD (zL b)<|oC 1 [0] (zOu h4)<|oC 0 [0] (yBX h2) o0),⟨(lz rfl),tv⟩,(zD ⟨⟨tv,zL _⟩,tv,tv,tv,tv⟩ zA),⟨tv,tv,tv,tv,tv,tv,zQ _,tv⟩,(zD ⟨zL _,tv,tv,tv,tv⟩ zA)⟩
def mA:Nat->List zZ->Int->List yK->Int->Int->Int->Option (List yK×Int×Int×Int)
 |0,_,_,_,_,_,_=>none
 |e+1,d,f,g,b,c,a=>
 if a==0 then
 zVB e d b c a>>=fun r2=>
 if r2 then
 if decide ((g.length:Int)≥f)then
 none
 else
 zVN e d b c a>>=fun r10=>
 xB 88 g [r10.1]>>=fun l12=>
 mA e d f l12 r10.2.1 r10.2.2.1 r10.2.2.2
 else
 some (g,b,c,a)
 else
 none
def W0(e:Nat)(d:List zZ)(m n p f:Int):Option (List yK×Int×Int×Int):=
 mA e d f [] m n p
theorem zEb:∀e:Nat,(∀ {d f g b c a r},mA e d f g b c a=some r->(∀j,dL 1 (pt 997 f117) (sp j 34 0 [(0,.mp 0 0),(1,ai f),(2,.clo 123 [.mp 0 0] []),(3,.clo 124 [.mp 0 0] []),(9,zH yQ g (.st 0 7))]) (⟨[(0,.cells [zH zO d .no,ai b,ai c,ai a])],1,[0],1,[]⟩) (fQ 1 (nQ 1 f117 (.sl (zG yQ r.1) r.1.length .no) [.cells [zH zO d .no,ai r.2.1,ai r.2.2.1,ai r.2.2.2]] 0) [.blk 0,.seq (pt 63 f117)]))):=by
 intro e
 induction e with
 |zero=>
  exact fun h=>nn h
 |succ e ih=>
  intro d f g b c a r h
  rw[mA]at h
  obtain⟨h1,h⟩:=sO h
  obtain⟨r2,h3,h⟩:=zB h
  have k:=oB 1 h1 o0
  obtain⟨h4,h⟩|⟨h4,h⟩:=zK h
  have k:=oK 0 [0] h4 (zZi h3) k
  obtain⟨h5,h⟩:=yY h
  obtain⟨r10,h11,h⟩:=zB h
  obtain⟨l12,h13,h⟩:=zB h
  exact fun j=>lH 0 [] [0] [1] [0,1,2,3,9] (oD (zN l12)<|oD (zL d)<|oP 1 (zSe h13 (by simp))<|oC 0 [0] (yBY h11)<|oB 1 h5 k) (ih h)
  cases h
  exact fun j=>lF 0 [0] (oD (zN g)<|oD (zL d)<|oK 0 [0] h4 (zZi h3) k)
theorem zOt{e d m n p f r}(h:W0 e d m n p f=some r):Ct 117 [.cells [zH zO d .no,ai m,ai n,ai p]] [.mp 0 0,ai f,.clo 123 [.mp 0 0] [],.clo 124 [.mp 0 0] []] (.sl (zG yQ r.1) r.1.length .no) [.cells [zH zO d .no,ai r.2.1,ai r.2.2.1,ai r.2.2.2]] 0:=⟨by
 unfold W0 at h
 exact tH ⟨func117,rfl⟩ 0 [(none,9,7)] [0] [0] [0,1,2,3,9] (oD (zN ([]:List yK))<|oD (zL d) o0) (zEb _ h),⟨(lz rfl),tv,⟨⟨(lz rfl),tv⟩,tv⟩,⟨⟨(lz rfl),tv⟩,tv⟩,tv⟩,(zD ⟨⟨tv,zL _⟩,tv,tv,tv,tv⟩ zA),zN _,(zD ⟨zL _,tv,tv,tv,tv⟩ zA)⟩
def zVO(e:Nat)(c:List zZ)(d b a:Int):Option Bool:=
 aJ e c d b a 0 (⟨#[40]⟩:ByteArray)>>=fun r1=>
 some r1
theorem yBZ{e c d b a r}(h:zVO e c d b a=some r):Ct 118 [.cells [zH zO c .no,ai d,ai b,ai a]] [.mp 0 0] (ab r) [.cells [zH zO c .no,ai d,ai b,ai a]] 0:=⟨by
 unfold zVO at h
 obtain⟨r1,h2,h⟩:=zB h
 obtain rfl:=sj h
 exact tF ⟨func118,rfl⟩ 0 [0] (oD (zL c)<|oC 0 [0] (E0 h2) o0),⟨(lz rfl),tv⟩,(zD ⟨⟨tv,zL _⟩,tv,tv,tv,tv⟩ zA),tv,(zD ⟨zL _,tv,tv,tv,tv⟩ zA)⟩
def iV(f:Nat)(d:List zZ)(e:Int)(g:List yK)(b c a:Int):Option (List yK×Int×Int×Int):=
 if a==0 then
 zVO f d b c a>>=fun r2=>
 if r2 then
 none
 else
 some (g,b,c,a)
 else
 none
def W1(f:Nat)(d:List zZ)(m n p e:Int):Option (List yK×Int×Int×Int):=
 iV f d e [] m n p
theorem zEa{f d e g b c a r}(h:iV f d e g b c a=some r):(∀j,dL 1 (pt 997 f117) (sp j 34 0 [(0,.mp 0 0),(1,ai e),(2,.clo 118 [.mp 0 0] []),(3,.clo 119 [.mp 0 0] []),(9,zH yQ g (.st 0 7))]) (⟨[(0,.cells [zH zO d .no,ai b,ai c,ai a])],1,[0],1,[]⟩) (fQ 1 (nQ 1 f117 (.sl (zG yQ r.1) r.1.length .no) [.cells [zH zO d .no,ai r.2.1,ai r.2.2.1,ai r.2.2.2]] 0) [.blk 0,.seq (pt 63 f117)])):=by
 unfold iV at h
 obtain⟨h1,h⟩:=sO h
 obtain⟨r2,h3,h⟩:=zB h
 have k:=oB 1 h1 o0
 obtain⟨h4,h⟩:=yY h
 cases h
 exact fun j=>lF 0 [0] (oD (zN g)<|oD (zL d)<|oK 0 [0] h4 (yBZ h3) k)
theorem zOs{f d m n p e r}(h:W1 f d m n p e=some r):Ct 117 [.cells [zH zO d .no,ai m,ai n,ai p]] [.mp 0 0,ai e,.clo 118 [.mp 0 0] [],.clo 119 [.mp 0 0] []] (.sl (zG yQ r.1) r.1.length .no) [.cells [zH zO d .no,ai r.2.1,ai r.2.2.1,ai r.2.2.2]] 0:=⟨by
 unfold W1 at h
 exact tH ⟨func117,rfl⟩ 0 [(none,9,7)] [0] [0] [0,1,2,3,9] (oD (zN ([]:List yK))<|oD (zL d) o0) (zEa h),⟨(lz rfl),tv,⟨⟨(lz rfl),tv⟩,tv⟩,⟨⟨(lz rfl),tv⟩,tv⟩,tv⟩,(zD ⟨⟨tv,zL _⟩,tv,tv,tv,tv⟩ zA),zN _,(zD ⟨zL _,tv,tv,tv,tv⟩ zA)⟩
def e72(e:Nat)(a:List zZ)(d c b:Int):Option (xG×Int×Int×Int):=
 zVa e a d c b>>=fun r1=>
 e71 e a d c b 0>>=fun r3=>
 if r1==0 then
 none
 else
 zOv e a (yN (d+1)) c b>>=fun r8=>
 if r1 != 3 then
 W1 e a r8.2.1 r8.2.2.1 r8.2.2.2 24>>=fun r11=>
 zGc e a r11.2.1 r11.2.2.1 r11.2.2.2 (⟨#[58]⟩:ByteArray)>>=fun r13=>
 zRN e a r13.1 r13.2.1 r13.2.2>>=fun r15=>
 zGc e a r15.2.1 r15.2.2.1 r15.2.2.2 (⟨#[123]⟩:ByteArray)>>=fun r17=>
 if r1==3 then
 none
 else
 W0 e a r17.1 r17.2.1 r17.2.2 16>>=fun r24=>
 zGc e a r24.2.1 r24.2.2.1 r24.2.2.2 (⟨#[125]⟩:ByteArray)>>=fun r26=>
 some ((xG.mk r1 r3.at_ r8.1 r11.1 r15.1 r24.1 []),r26.1,r26.2.1,r26.2.2)
 else
 none
theorem c72{e a d c b r}(h:e72 e a d c b=some r):Ct 72 [.cells [zH zO a .no,ai d,ai c,ai b]] [.mp 0 0] (B7 r.1) [.cells [zH zO a .no,ai r.2.1,ai r.2.2.1,ai r.2.2.2]] 0:=⟨by
 unfold e72 at h
 obtain⟨r1,h2,h⟩:=zB h
 obtain⟨r3,h4,h⟩:=zB h
 have k:=oC 0 [0] (c71 h4)<|oC 0 [0] (yBN h2) o0
 obtain⟨h5,h⟩:=yY h
 obtain⟨r8,h9,h⟩:=zB h
 have k:=oC 3 [0] (zVA h9)<|oB 2 h5 k
 obtain⟨h10,h⟩:=sO h
 obtain⟨r11,h12,h⟩:=zB h
 obtain⟨r13,h14,h⟩:=zB h
 obtain⟨r15,h16,h⟩:=zB h
 obtain⟨r17,h18,h⟩:=zB h
 have k:=oC 1 [0] (zOu h18)<|oC 0 [0] (zZd h16)<|oC 1 [0] (zOu h14)<|oC 0 [0] (zOs h12)<|oB 2 h10 k
 obtain⟨h19,h⟩:=yY h
 obtain⟨r24,h25,h⟩:=zB h
 obtain⟨r26,h27,h⟩:=zB h
 cases h
 exact tF ⟨func72,rfl⟩ 2 [0] (oD (xD ([]:List uE))<|oD (zN r24.1)<|oD (zQ r15.1.sub_)<|oD (zN r11.1)<|oD (zL a)<|oC 1 [0] (zOu h27)<|oC 0 [0] (zOt h25)<|oB 1 h19 k),⟨(lz rfl),tv⟩,(zD ⟨⟨tv,zL _⟩,tv,tv,tv,tv⟩ zA),⟨tv,tv,tv,zN _,tv,tv,tv,tv,zQ _,zN _,xD _,tv⟩,(zD ⟨zL _,tv,tv,tv,tv⟩ zA)⟩
def zBH:Nat->ByteArray->(List zZ×Int×Int×Int)->List xG->Int->Int->Int->Option (List xG×Int×Int)
 |0,_,_,_,_,_,_=>none
 |d+1,e,r1,f,b,c,a=>
 if a==0 then
 e71 d r1.1 b c a 0>>=fun r4=>
 if r4.kind_ != 5 then
 e72 d r1.1 b c a>>=fun r7=>
 xB 168 f [r7.1]>>=fun l9=>
 zBH d e r1 l9 r7.2.1 r7.2.2.1 r7.2.2.2
 else
 if a != 0 then
 none
 else
 some (f,(e.size:Int),0)
 else
 none
def e37(d:Nat)(e:ByteArray):Option (List xG×Int×Int):=
 e70 d e>>=fun r1=>
 zBH d e r1 [] r1.2.1 r1.2.2.1 r1.2.2.2
theorem zVP:∀d:Nat,(∀ {e r1 f b c a r},zBH d e r1 f b c a=some r->(∀j,dL 0 (pt 4069 f37) (sp j 41 0 [(0,at' e),(5,.mp 0 0),(6,zH uC f (.st 0 11))]) (⟨[(0,.cells [zH zO r1.1 .no,ai b,ai c,ai a])],1,[0],1,[]⟩) (fQ 0 (nQ 0 f37 (.tup [.sl (zG uC r.1) r.1.length .no,ai r.2.1,ai r.2.2]) [] 0) [.blk 0,.seq (pt 255 f37)]))):=by
 intro d
 induction d with
 |zero=>
  exact fun h=>nn h
 |succ d ih=>
  intro e r1 f b c a r h
  rw[zBH]at h
  obtain⟨h3,h⟩:=sO h
  obtain⟨r4,h5,h⟩:=zB h
  have k:=oC 0 [0] (c71 h5)<|oB 1 h3 o0
  obtain⟨h6,h⟩|⟨h6,h⟩:=zK h
  obtain⟨r7,h8,h⟩:=zB h
  obtain⟨l9,h10,h⟩:=zB h
  exact fun j=>lH 0 [] [0] [1] [0,5,6] (oD (gO l9)<|oD (zL r1.1)<|oP 1 (zXf h10 (by simp))<|oC 0 [0] (c72 h8)<|oB 0 h6 k) (ih h)
  have k:=oB 0 h6 k
  obtain⟨h11,h⟩:=yY h
  cases h
  exact fun j=>lF 1 [] (oD (gO f)<|oB 1 h11 k)
theorem c37{d e r}(h:e37 d e=some r):Ct 37 [] [at' e] (.tup [.sl (zG uC r.1) r.1.length .no,ai r.2.1,ai r.2.2]) [] 0:=⟨by
 unfold e37 at h
 obtain⟨r1,h2,h⟩:=zB h
 exact tH ⟨func37,rfl⟩ 0 [(none,6,11)] [0] [0] [0,5,6] (oD (gO ([]:List xG))<|oD (zL r1.1)<|oC 0 [] (c70 h2) o0) (zVP _ h),⟨tv,tv⟩,zA,⟨gO _,tv,tv,tv⟩,zA⟩
def zVQ(b:Nat)(a:zS):Option Bool:=
 zRL b a>>=fun r1=>
 some (decide (r1≤128))
theorem yCx{b a r}(h:zVQ b a=some r):Ct 182 [] [xV a] (ab r) [] 0:=⟨by
 unfold zVQ at h
 obtain⟨r1,h2,h⟩:=zB h
 cases h
 exact tF ⟨func182,rfl⟩ 1 [] (oC 1 [] (zZh h2) o0),⟨⟨tv,tv,tv,tv,⟨tv,zQ _⟩,tv⟩,tv⟩,zA,tv,zA⟩
def zVR(b:Nat)(a:Int):Option Int:=
 if decide (a<1)then
 none
 else
 if decide (a>10)then
 none
 else
 zP ([0,0,0,2,2,2,0,0,(-1),0,1]:yD) a>>=fun x3=>
 some x3
theorem yCw{b a r}(h:zVR b a=some r):Ct 256 [] [ai a] (ai r) [] 0:=⟨by
 unfold zVR at h
 obtain⟨h1,h⟩:=yY h
 have k:=oB 0 h1 o0
 obtain⟨h2,h⟩:=yY h
 obtain⟨x3,h4,h⟩:=zB h
 obtain rfl:=sj h
 exact tF ⟨func256,rfl⟩ 0 [] (oA 0 (zLJ h4 rfl)<|oB 0 h2 k),⟨tv,tv⟩,zA,tv,zA⟩
def zVS(b:Nat)(a:zS):Option Bool:=
 if a.kind_==1 then
 e79 b a.name_>>=fun r2=>
 some r2
 else
 if a.kind_==6 then
 none
 else
 if a.kind_==8 then
 none
 else
 if a.kind_==3 then
 none
 else
 if a.kind_==4 then
 none
 else
 some (a.name_.toList==(⟨#[]⟩:ByteArray).toList)
theorem zZc:Qf 257 f257:=⟨func257,rfl⟩
theorem yCv{b a r}(h:zVS b a=some r):Ct 257 [] [xV a] (ab r) [] 0:=⟨by
 unfold zVS at h
 obtain⟨h1,h⟩|⟨h1,h⟩:=zK h
 obtain⟨r2,h3,h⟩:=zB h
 obtain rfl:=sj h
 exact tF zZc 0 [] (oC 1 [] (c79 h3)<|oB 1 h1 o0)
 have k:=oB 1 h1 o0
 obtain⟨h4,h⟩:=yY h
 have k:=oB 0 h4 k
 obtain⟨h7,h⟩:=yY h
 have k:=oB 0 h7 k
 obtain⟨h10,h⟩:=yY h
 have k:=oB 0 h10 k
 obtain⟨h14,h⟩:=yY h
 obtain rfl:=sj h
 exact tF zZc 2 [] (oB 0 h14 k),⟨⟨tv,tv,tv,tv,⟨tv,zQ _⟩,tv⟩,tv⟩,zA,tv,zA⟩
def zVT(b:Nat)(a:zS):Option Bool:=
 zVR b a.kind_>>=fun r1=>
 if r1==(-2)then
 none
 else
 if decide (r1≥0)then
 if (a.sub_.length:Int) != r1 then
 none
 else
 if r1==(-1)then
 none
 else
 zVS b a>>=fun r13=>
 if r13 then
 if a.kind_==2 then
 if decide (a.n_≥0)then
 some (decide (a.n_≤7))
 else
 none
 else
 some (a.n_==0)
 else
 none
 else
 none
theorem zZb:Qf 230 f230:=⟨func230,rfl⟩
theorem yCu{b a r}(h:zVT b a=some r):Ct 230 [] [xV a] (ab r) [] 0:=⟨by
 unfold zVT at h
 obtain⟨r1,h2,h⟩:=zB h
 have k:=oC 1 [] (yCw h2) o0
 obtain⟨h3,h⟩:=yY h
 have k:=oB 0 h3 k
 obtain⟨h4,h⟩:=sO h
 have k:=oB 0 h4 k
 obtain⟨h5,h⟩:=yY h
 have k:=oB 2 h5 k
 obtain⟨h6,h⟩:=yY h
 obtain⟨r13,h14,h⟩:=zB h
 have k:=oB 0 h6 k
 obtain⟨h15,h⟩:=sO h
 have k:=oK 1 [] h15 (yCv h14) k
 obtain⟨h16,h⟩|⟨h16,h⟩:=zK h
 have k:=oB 2 h16 k
 obtain⟨h17,h⟩:=sO h
 cases h
 exact tF zZb 2 [] (oB 1 h17 k)
 cases h
 exact tF zZb 2 [] (oB 2 h16 k),⟨⟨tv,tv,tv,tv,⟨tv,zQ _⟩,tv⟩,tv⟩,zA,tv,zA⟩
def zBI(c:Nat)(a:zS)(d:Bool)(b:Int):Option Bool:=
 if d then
 none
 else
 if decide (b<(a.sub_.length:Int))then
 none
 else
 some true
def zVU(c:Nat)(a:zS)(e:Bool):Option Bool:=
 if e then
 none
 else
 zVT c a>>=fun r5=>
 if r5 then
 if !(decide (a.kind_≥6)==false)then
 none
 else
 zBI c a false 0
 else
 none
theorem zRO{c a d b r}(h:zBI c a d b=some r):(∀j,dL 0 (pt 4021 f183) (sp j 34 0 [(1,ab d),(2,.mp 0 0),(18,zH xI a.sub_ .no),(19,ai (a.sub_.length:Int)),(20,ai b)]) (⟨[(0,.cells [ai a.kind_,ai a.at_,at' a.name_,ai a.n_,zH xI a.sub_ .no])],1,[],0,[]⟩) (fQ 0 (nQ 0 f183 (ab r) [] 0) [.blk 0,.seq (pt 63 f183)])):=by
 unfold zBI at h
 cases d
 replace h:=ifF rfl h
 obtain⟨h11,h⟩:=yY h
 cases h
 exact fun j=>lF 0 [] (oB 0 h11 o0)
 replace h:=ifT rfl h
 cases h
theorem yCt{c a e r}(h:zVU c a e=some r):Ct 183 [] [xV a,ab e] (ab r) [] 0:=⟨(by
 unfold zVU at h
 cases e
 replace h:=ifF rfl h
 obtain⟨r5,h6,h⟩:=zB h
 obtain⟨h7,h⟩:=sO h
 have k:=oK 1 [] h7 (yCu h6) o0
 obtain⟨h8,h⟩:=yY h
 exact tH ⟨func183,rfl⟩ 2 [] [0] [] [1,2,18,19,20] (oD (zQ a.sub_)<|oD (zQ a.sub_)<|oB 3 h8 k) (zRO h)
 replace h:=ifT rfl h
 cases h),⟨⟨tv,tv,tv,tv,⟨tv,zQ _⟩,tv⟩,tv,tv⟩,zA,tv,zA⟩
def zOr(b:Nat)(a:zS):Option Bool:=
 zVQ b a>>=fun r1=>
 if r1 then
 zVU b a false>>=fun r4=>
 some r4
 else
 none
theorem zVV{b a r}(h:zOr b a=some r):Ct 125 [] [xV a] (ab r) [] 0:=⟨by
 unfold zOr at h
 obtain⟨r1,h2,h⟩:=zB h
 obtain⟨h3,h⟩:=sO h
 obtain⟨r4,h5,h⟩:=zB h
 obtain rfl:=sj h
 exact tF ⟨func125,rfl⟩ 0 [] (oC 1 [] (yCt h5)<|oK 1 [] h3 (yCx h2) o0),⟨⟨tv,tv,tv,tv,⟨tv,zQ _⟩,tv⟩,tv⟩,zA,tv,zA⟩
def L6:Nat->List yK->Int->Int->Option Bool
 |0,_,_,_=>none
 |b+1,a,c,d=>
 if decide (d<(a.length:Int))then
 zP a d>>=fun x2=>
 if decide ((a.length:Int)>c)then
 none
 else
 e79 b x2.name_>>=fun r5=>
 if r5 then
 zOr b x2.type_>>=fun r8=>
 if r8 then
 L6 b a c (yN (d+1))
 else
 none
 else
 none
 else
 some true
def zRP(b:Nat)(a:List yK)(c:Int):Option Bool:=
 L6 b a c 0
theorem zRQ:∀b:Nat,(∀ {a c d r},L6 b a c d=some r->(∀j,dL 0 (pt 949 f126) (sp j 30 0 [(0,zH yQ a .no),(1,ai c),(7,zH yQ a .no),(8,ai (a.length:Int)),(9,ai d)]) (⟨[],0,[],0,[]⟩) (fQ 0 (nQ 0 f126 (ab r) [] 0) [.blk 0,.seq (pt 15 f126)]))):=by
 intro b
 induction b with
 |zero=>
  exact fun h=>nn h
 |succ b ih=>
  intro a c d r h
  rw[L6]at h
  obtain⟨h1,h⟩|⟨h1,h⟩:=zK h
  obtain⟨x2,h3,h⟩:=zB h
  have k:=oA 0 (zCO (o:=.no) h3)<|oB 0 h1 o0
  obtain⟨h4,h⟩:=yY h
  obtain⟨r5,h6,h⟩:=zB h
  have k:=oB 3 h4 k
  obtain⟨h7,h⟩:=sO h
  obtain⟨r8,h9,h⟩:=zB h
  have k:=oK 1 [] h7 (c79 h6) k
  obtain⟨h10,h⟩:=sO h
  exact fun j=>lH 2 [] [] [] [0,1,7,8,9] (oD (zN a)<|oD (zN a)<|oK 2 [] h10 (zVV h9) k) (ih h)
  cases h
  exact fun j=>lF 0 [] (oB 0 h1 o0)
theorem zZa{b a c r}(h:zRP b a c=some r):Ct 126 [] [zH yQ a .no,ai c] (ab r) [] 0:=⟨by
 unfold zRP at h
 exact tH ⟨func126,rfl⟩ 1 [] [] [] [0,1,7,8,9] (oD (zN a)<|oD (zN a) o0) (zRQ _ h),⟨⟨tv,zN _⟩,tv,tv⟩,zA,tv,zA⟩
def zGb(b:Nat)(a:xG)(c:Int):Option Bool:=
 if decide (c<(a.rows_.length:Int))then
 none
 else
 some true
def e73(b:Nat)(a:xG):Option Bool:=
 if decide (a.kind_<1)then
 none
 else
 if decide (a.kind_>3)then
 none
 else
 e79 b a.name_>>=fun r3=>
 if r3 then
 zOr b a.type_>>=fun r6=>
 if r6 then
 zRP b a.tele_ 24>>=fun r9=>
 if r9 then
 zRP b a.cons_ 16>>=fun r12=>
 if r12 then
 if a.kind_==3 then
 none
 else
 if a.kind_ != 3 then
 if decide ((a.rows_.length:Int)>0)then
 none
 else
 if decide ((a.rows_.length:Int)>32)then
 none
 else
 zGb b a 0
 else
 none
 else
 none
 else
 none
 else
 none
 else
 none
theorem zVW{b a c r}(h:zGb b a c=some r):(∀j,dL 0 (pt 16309 f73) (sp j 78 0 [(68,zH sP a.rows_ .no),(69,ai (a.rows_.length:Int)),(70,ai c)]) (⟨[],0,[],0,[]⟩) (fQ 0 (nQ 0 f73 (ab r) [] 0) [.blk 0,.seq (pt 255 f73)])):=by
 unfold zGb at h
 obtain⟨h20,h⟩:=yY h
 cases h
 exact fun j=>lF 0 [] (oB 0 h20 o0)
theorem c73{b a r}(h:e73 b a=some r):Ct 73 [] [B7 a] (ab r) [] 0:=⟨by
 unfold e73 at h
 obtain⟨h1,h⟩:=yY h
 have k:=oB 1 h1 o0
 obtain⟨h2,h⟩:=yY h
 obtain⟨r3,h4,h⟩:=zB h
 have k:=oB 1 h2 k
 obtain⟨h5,h⟩:=sO h
 obtain⟨r6,h7,h⟩:=zB h
 have k:=oK 1 [] h5 (c79 h4) k
 obtain⟨h8,h⟩:=sO h
 obtain⟨r9,h10,h⟩:=zB h
 have k:=oK 2 [] h8 (zVV h7) k
 obtain⟨h11,h⟩:=sO h
 obtain⟨r12,h13,h⟩:=zB h
 have k:=oK 2 [] h11 (zZa h10) k
 obtain⟨h14,h⟩:=sO h
 have k:=oK 2 [] h14 (zZa h13) k
 obtain⟨h15,h⟩:=yY h
 have k:=oB 2 h15 k
 obtain⟨h21,h⟩:=sO h
 have k:=oB 1 h21 k
 obtain⟨h22,h⟩:=yY h
 have k:=oB 2 h22 k
 obtain⟨h23,h⟩:=yY h
 exact tH ⟨func73,rfl⟩ 2 [] [] [] [68,69,70] (oD (xD a.rows_)<|oB 2 h23 k) (zVW h),⟨⟨tv,tv,tv,⟨tv,zN _⟩,tv,tv,tv,tv,⟨tv,zQ _⟩,⟨tv,zN _⟩,⟨tv,xD _⟩,tv⟩,tv⟩,zA,tv,zA⟩
def zRR(b:Nat)(a:ByteArray):Option ByteArray:=
 zTq a (⟨#[39]⟩:ByteArray)>>=fun x1=>
 some x1
theorem zZA{b a r}(h:zRR b a=some r):Ct 129 [] [at' a] (at' r) [] 0:=⟨by
 unfold zRR at h
 obtain⟨x1,h2,h⟩:=zB h
 obtain rfl:=sj h
 exact tF ⟨func129,rfl⟩ 0 [] (oA 0 (zTp (P:=prog) (t:=9) h2) o0),⟨tv,tv⟩,zA,tv,zA⟩
def L7:Nat->List ByteArray->ByteArray->Int->Option Int
 |0,_,_,_=>none
 |c+1,a,b,d=>
 if decide (d≥0)then
 zP a d>>=fun x2=>
 if x2.toList==b.toList then
 none
 else
 L7 c a b (yN (d-1))
 else
 some (-1)
def zVX(c:Nat)(a:List ByteArray)(b:ByteArray):Option Int:=
 L7 c a b (yN ((a.length:Int)-1))
theorem zRS:∀c:Nat,(∀ {a b d r},L7 c a b d=some r->(∀j,dL 0 (pt 949 f130) (sp j 20 0 [(0,zH xJ a .no),(1,at' b),(5,ai d)]) (⟨[],0,[],0,[]⟩) (fQ 0 (nQ 0 f130 (ai r) [] 0) [.blk 0,.seq (pt 15 f130)]))):=by
 intro c
 induction c with
 |zero=>
  exact fun h=>nn h
 |succ c ih=>
  intro a b d r h
  rw[L7]at h
  obtain⟨h1,h⟩|⟨h1,h⟩:=zK h
  obtain⟨x2,h3,h⟩:=zB h
  have k:=oA 0 (zJo (o:=.no) h3)<|oB 0 h1 o0
  obtain⟨h4,h⟩:=yY h
  exact fun j=>lH 1 [] [] [] [0,1,5] (oD (dS a)<|oB 1 h4 k) (ih h)
  cases h
  exact fun j=>lF 0 [] (oB 0 h1 o0)
theorem zZB{c a b r}(h:zVX c a b=some r):Ct 130 [] [zH xJ a .no,at' b] (ai r) [] 0:=⟨by
 unfold zVX at h
 exact tH ⟨func130,rfl⟩ 2 [] [] [] [0,1,5] (oD (dS a) o0) (zRS _ h),⟨⟨tv,dS _⟩,tv,tv⟩,zA,tv,zA⟩
def jD:Nat->zY->Int->Int->ByteArray->List yK->Int->Int->ByteArray->Int->List zS->List yK->List uE->Int->Int->Int->List yK->List ByteArray->Int->Int->Int->Option (Int×Int)
 |0,_,_,_,_,_,_,_,_,_,_,_,_,_,_,_,_,_,_,_,_=>none
 |u+1,m,v,s,t,n,w,y,z,i,p,a,b,e,f,g,l11,C,q,c,d=>
 if decide (q<(l11.length:Int))then
 zP l11 q>>=fun x15=>
 zVX u C x15.name_>>=fun r17=>
 if decide (r17≥0)then
 none
 else
 xB 16 C [x15.name_]>>=fun l24=>
 jD u m v s t n w y z i p a b e f g l11 l24 (yN (q+1)) c d
 else
 some (c,d)
def zBJ(u:Nat)(m:zY)(v s:Int)(t:ByteArray)(n:List yK)(w y:Int)(z:ByteArray)(i:Int)(p:List zS)(a:List yK)(b:List uE)(e f g A B:Int):Option (Int×Int):=
 if (a.length:Int)==0 then
 none
 else
 zRR u t>>=fun r4=>
 e79 u r4>>=fun r6=>
 if r6 then
 e40 u m>>=fun r9=>
 xB 88 [(yK.mk t s (zS.mk 0 0 (⟨#[]⟩:ByteArray) 0 [])),(yK.mk r4 s (zS.mk 0 0 (⟨#[]⟩:ByteArray) 0 []))] a>>=fun l11=>
 jD u m v s t n w y z i p a b e f g l11 r9 0 A B
 else
 none
theorem zIh:Qf 74 f74:=⟨func74,rfl⟩
theorem W2:∀u:Nat,(∀ {m v s t n w y z i p a b e f g l11 C q c d r},jD u m v s t n w y z i p a b e f g l11 C q c d=some r->(∀j,dL 2 (pt 65525 f74) (sp j 88 0 [(0,.mp 0 0),(3,zH xJ C (.st 0 1)),(67,zH yQ l11 .full),(68,ai (l11.length:Int)),(69,ai q)]) (⟨[(0,rB m v s t n w y z i p a b (.mp 1 0) (zH zC ([]:zR) .nl) (zH xJ ([]:List ByteArray) .nl) (zH zC ([]:zR) .nl) g c d),(1,.cells [ai e,ai f])],2,[0],1,[]⟩) (fQ 2 (nQ 2 f74 (.tup []) [rB m v s t n w y z i p a b (.mp 1 0) (zH zC ([]:zR) .nl) (zH xJ ([]:List ByteArray) .nl) (zH zC ([]:zR) .nl) g r.1 r.2,.cells [ai e,ai f]] 0) [.blk 0]))∧(∀j,dL 2 (pt 65525 f74) (sp j 88 0 [(0,.mp 0 0),(3,zH xJ C (.st 0 1)),(67,zH yQ l11 (.st 1 7)),(68,ai (l11.length:Int)),(69,ai q)]) (⟨[(0,rB m v s t n w y z i p a b (.mp 1 0) (zH zC ([]:zR) .nl) (zH xJ ([]:List ByteArray) .nl) (zH zC ([]:zR) .nl) g c d),(1,.cells [ai e,ai f])],2,[0,1],2,[]⟩) (fQ 2 (nQ 2 f74 (.tup []) [rB m v s t n w y z i p a b (.mp 1 0) (zH zC ([]:zR) .nl) (zH xJ ([]:List ByteArray) .nl) (zH zC ([]:zR) .nl) g r.1 r.2,.cells [ai e,ai f]] 0) [.blk 0]))):=by
 intro u
 induction u with
 |zero=>
  exact fun h=>nn h
 |succ u ih=>
  intro m v s t n w y z i p a b e f g l11 C q c d r h
  rw[jD]at h
  refine⟨?_,?_⟩
  obtain⟨h14,h⟩|⟨h14,h⟩:=zK h
  obtain⟨x15,h16,h⟩:=zB h
  obtain⟨r17,h18,h⟩:=zB h
  have k:=oC 3 [] (zZB h18)<|oA 0 (zCO (o:=.full) h16)<|oB 0 h14 o0
  obtain⟨h19,h⟩:=yY h
  obtain⟨l24,h25,h⟩:=zB h
  exact fun j=>lH 1 [] [0,1] [1] [0,3,67,68,69] (oD (zN l11)<|oD (dS l24)<|oD (dT ([]:zR))<|oD (dS ([]:List ByteArray))<|oD (dT ([]:zR))<|eP m n p a b<|oP 2 (P8 h25 (by simp))<|oB 0 h19 k) ((ih h).1)
  cases h
  exact fun j=>lG 0 [] [0,1] [] true (oD (dT ([]:zR))<|oD (dS ([]:List ByteArray))<|oD (dT ([]:zR))<|eP m n p a b<|oB 0 h14 o0)
  obtain⟨h14,h⟩|⟨h14,h⟩:=zK h
  obtain⟨x15,h16,h⟩:=zB h
  obtain⟨r17,h18,h⟩:=zB h
  have k:=oC 3 [] (zZB h18)<|oA 0 (zCO (o:=(.st 1 7)) h16)<|oB 0 h14 o0
  obtain⟨h19,h⟩:=yY h
  obtain⟨l24,h25,h⟩:=zB h
  exact fun j=>lH 1 [] [0,1] [2,1] [0,3,67,68,69] (oD (zN l11)<|oD (dS l24)<|oD (dT ([]:zR))<|oD (dS ([]:List ByteArray))<|oD (dT ([]:zR))<|eP m n p a b<|oP 2 (P8 h25 (by simp))<|oB 0 h19 k) ((ih h).2)
  cases h
  exact fun j=>lG 0 [] [0,1] [] true (oD (dT ([]:zR))<|oD (dS ([]:List ByteArray))<|oD (dT ([]:zR))<|eP m n p a b<|oB 0 h14 o0)
theorem zRT{u m v s t n w y z i p a b e f g A B r}(h:zBJ u m v s t n w y z i p a b e f g A B=some r):Ct 74 [rB m v s t n w y z i p a b (.mp 1 0) (zH zC ([]:zR) .nl) (zH xJ ([]:List ByteArray) .nl) (zH zC ([]:zR) .nl) g A B,.cells [ai e,ai f]] [.mp 0 0] (.tup []) [rB m v s t n w y z i p a b (.mp 1 0) (zH zC ([]:zR) .nl) (zH xJ ([]:List ByteArray) .nl) (zH zC ([]:zR) .nl) g r.1 r.2,.cells [ai e,ai f]] 0:=⟨by
 unfold zBJ at h
 obtain⟨h1,h⟩:=yY h
 obtain⟨r4,h5,h⟩:=zB h
 obtain⟨r6,h7,h⟩:=zB h
 have k:=oC 1 [] (zZA h5)<|oB 2 h1 o0
 obtain⟨h8,h⟩:=sO h
 obtain⟨r9,h10,h⟩:=zB h
 obtain⟨l11,h12,h⟩:=zB h
 have k:=oC 2 [] (c40 h10)<|oK 0 [] h8 (c79 h7) k
 by_cases h13:List.length a=0
 exact tH zIh 1 [] [0,1] [0] [0,3,67,68,69] (oD (zN l11)<|oD (dS r9)<|oD (dT ([]:zR))<|oD (dS ([]:List ByteArray))<|oD (dT ([]:zR))<|eP m n p a b<|oP 5 (zXh h12 h13) k) ((W2 _ h).1)
 exact tH zIh 1 [] [0,1] [0,1] [0,3,67,68,69] (oD (zN l11)<|oD (dS r9)<|oD (dT ([]:zR))<|oD (dS ([]:List ByteArray))<|oD (dT ([]:zR))<|eP m n p a b<|oP 5 (zSe h12 h13) k) ((W2 _ h).2),⟨(lz rfl),tv⟩,(zD ⟨⟨tv,dE _⟩,tv,tv,tv,⟨tv,zN _⟩,tv,tv,tv,tv,⟨tv,zQ _⟩,⟨tv,zN _⟩,⟨tv,xD _⟩,(lz rfl),⟨tv,dT _⟩,⟨tv,dS _⟩,⟨tv,dT _⟩,tv,tv,tv,tv⟩ (zD ⟨tv,tv,tv⟩ zA)),tv,(zD ⟨dE _,tv,tv,tv,zN _,tv,tv,tv,tv,zQ _,zN _,xD _,(lz rfl),dT _,dS _,dT _,tv,tv,tv,tv⟩ (zD ⟨tv,tv,tv⟩ zA))⟩
def iW(j:Nat)(m:zY)(q s:Int)(t:ByteArray)(n:List yK)(u v:Int)(w:ByteArray)(y:Int)(p:List zS)(b:List yK)(c:List uE)(d e f a g z i:Int):Option (Bool×Int×Int):=
 if a==0 then
 if z != 0 then
 none
 else
 some ((a != 0),a,g)
 else
 none
theorem W3{j m q s t n u v w y p b c d e f a g z i r}(h:iW j m q s t n u v w y p b c d e f a g z i=some r):Ct 128 [rB m q s t n u v w y p b c (.mp 1 0) (zH zC ([]:zR) .nl) (zH xJ ([]:List ByteArray) .nl) (zH zC ([]:zR) .nl) f a g,.cells [ai d,ai e]] [.mp 0 0,ai z,ai i] (ab r.1) [rB m q s t n u v w y p b c (.mp 1 0) (zH zC ([]:zR) .nl) (zH xJ ([]:List ByteArray) .nl) (zH zC ([]:zR) .nl) f r.2.1 r.2.2,.cells [ai d,ai e]] 0:=⟨by
 unfold iW at h
 obtain⟨h1,h⟩:=sO h
 have k:=oB 1 h1 o0
 obtain⟨h2,h⟩:=yY h
 cases h
 exact tG ⟨func128,rfl⟩ 2 [] [0,1] [] true (oD (dT ([]:zR))<|oD (dS ([]:List ByteArray))<|oD (dT ([]:zR))<|eP m n p b c<|oB 0 h2 k),⟨(lz rfl),tv,tv,tv⟩,(zD ⟨⟨tv,dE _⟩,tv,tv,tv,⟨tv,zN _⟩,tv,tv,tv,tv,⟨tv,zQ _⟩,⟨tv,zN _⟩,⟨tv,xD _⟩,(lz rfl),⟨tv,dT _⟩,⟨tv,dS _⟩,⟨tv,dT _⟩,tv,tv,tv,tv⟩ (zD ⟨tv,tv,tv⟩ zA)),tv,(zD ⟨dE _,tv,tv,tv,zN _,tv,tv,tv,tv,zQ _,zN _,xD _,(lz rfl),dT _,dS _,dT _,tv,tv,tv,tv⟩ (zD ⟨tv,tv,tv⟩ zA))⟩
def L8:Nat->List ByteArray->Int->Option Bool
 |0,_,_=>none
 |b+1,a,c=>
 if decide (c<(a.length:Int))then
 zP a c>>=fun x2=>
 if !(x2.toList==(⟨#[95]⟩:ByteArray).toList)then
 e79 b x2>>=fun r5=>
 if r5 then
 L8 b a (yN (c+1))
 else
 none
 else
 none
 else
 some true
def zVY(b:Nat)(a:List ByteArray):Option Bool:=
 L8 b a 0
theorem zRU:∀b:Nat,(∀ {a c r},L8 b a c=some r->(∀j,dL 0 (pt 949 f231) (sp j 19 0 [(5,zH xJ a .no),(6,ai (a.length:Int)),(7,ai c)]) (⟨[],0,[],0,[]⟩) (fQ 0 (nQ 0 f231 (ab r) [] 0) [.blk 0,.seq (pt 15 f231)]))):=by
 intro b
 induction b with
 |zero=>
  exact fun h=>nn h
 |succ b ih=>
  intro a c r h
  rw[L8]at h
  obtain⟨h1,h⟩|⟨h1,h⟩:=zK h
  obtain⟨x2,h3,h⟩:=zB h
  have k:=oA 0 (zJo (o:=.no) h3)<|oB 0 h1 o0
  obtain⟨h4,h⟩:=sO h
  obtain⟨r5,h6,h⟩:=zB h
  have k:=oB 1 h4 k
  obtain⟨h7,h⟩:=sO h
  exact fun j=>lH 2 [] [] [] [5,6,7] (oD (dS a)<|oK 0 [] h7 (c79 h6) k) (ih h)
  cases h
  exact fun j=>lF 0 [] (oB 0 h1 o0)
theorem yCr{b a r}(h:zVY b a=some r):Ct 231 [] [zH xJ a .no] (ab r) [] 0:=⟨by
 unfold zVY at h
 exact tH ⟨func231,rfl⟩ 1 [] [] [] [5,6,7] (oD (dS a) o0) (zRU _ h),⟨⟨tv,dS _⟩,tv⟩,zA,tv,zA⟩
def zRV(b:Nat)(c:zY)(a:List ByteArray):Option Int:=
 zVY b a>>=fun r1=>
 if r1 then
 e18 b c>>=fun r4=>
 if r4 then
 if decide ((a.length:Int)>24)then
 none
 else
 some 0
 else
 none
 else
 none
theorem zZC{b c a r}(h:zRV b c a=some r):Ct 185 [] [zH yA c .no,zH xJ a .no] (ai r) [] 0:=⟨by
 unfold zRV at h
 obtain⟨r1,h2,h⟩:=zB h
 obtain⟨h3,h⟩:=sO h
 obtain⟨r4,h5,h⟩:=zB h
 have k:=oK 0 [] h3 (yCr h2) o0
 obtain⟨h6,h⟩:=sO h
 have k:=oK 1 [] h6 (c18 h5) k
 obtain⟨h7,h⟩:=yY h
 cases h
 exact tF ⟨func185,rfl⟩ 0 [] (oB 2 h7 k),⟨⟨tv,dE _⟩,⟨tv,dS _⟩,tv⟩,zA,tv,zA⟩
def zBK(f:Nat)(b:zY)(c a:Int)(e:List ByteArray)(d:zS)(g:Int):Option (Tm×Int×Int):=
 if decide (g≥0)then
 zP e g>>=fun x2=>
 if x2.toList==d.name_.toList then
 e51 f (yN ((yN ((e.length:Int)-1))-g))>>=fun r5=>
 some (r5,c,a)
 else
 none
 else
 none
def zVZ(f:Nat)(b:zY)(c a:Int)(e:List ByteArray)(d:zS):Option (Tm×Int×Int):=
 zBK f b c a e d (yN ((e.length:Int)-1))
theorem zRW{f b c a e d g r}(h:zBK f b c a e d g=some r):(∀j,dL 1 (pt 949 f234) (sp j 48 0 [(0,.mp 0 0),(1,zH xJ e .no),(5,.mp 1 0),(6,.mp 2 0),(7,ai g)]) (⟨[(0,.cells [zH yA b .no,ai c,ai a]),(1,.cells [ai d.kind_,ai d.at_,at' d.name_,ai d.n_,zH xI d.sub_ .no]),(2,.cells [ai 0,ai 0,zH zC ([]:zR) .nl])],3,[],0,[]⟩) (fQ 1 (nQ 1 f234 (yV r.1) [.cells [zH yA b .no,ai r.2.1,ai r.2.2]] 0) [.blk 0,.seq (pt 15 f234)])):=by
 unfold zBK at h
 obtain⟨h1,h⟩:=sO h
 obtain⟨x2,h3,h⟩:=zB h
 have k:=oA 0 (zJo (o:=.no) h3)<|oB 0 h1 o0
 obtain⟨h4,h⟩:=sO h
 obtain⟨r5,h6,h⟩:=zB h
 cases h
 exact fun j=>lF 1 [0] (oD (dT r5.sub)<|oD (dE b)<|oC 3 [] (c51 h6)<|oB 2 h4 k)
theorem yCq{f b c a e d r}(h:zVZ f b c a e d=some r):Ct 234 [.cells [zH yA b .no,ai c,ai a]] [.mp 0 0,zH xJ e .no,xV d] (yV r.1) [.cells [zH yA b .no,ai r.2.1,ai r.2.2]] 0:=⟨by
 unfold zVZ at h
 exact tH ⟨func234,rfl⟩ 2 [] [0,1,2] [] [0,1,5,6,7] (oD (dS e)<|oD (dT ([]:zR))<|oD (zQ d.sub_)<|oD (dE b) o0) (zRW h),⟨(lz rfl),⟨tv,dS _⟩,⟨tv,tv,tv,tv,⟨tv,zQ _⟩,tv⟩,tv⟩,(zD ⟨⟨tv,dE _⟩,tv,tv,tv⟩ zA),⟨tv,tv,dT _,tv⟩,(zD ⟨dE _,tv,tv,tv⟩ zA)⟩
def zWz(e:Nat)(a:zY)(c b:Int)(f:List ByteArray)(d:zS):Option (Tm×Int×Int):=
 if d.kind_==1 then
 zVZ e a c b f d>>=fun r2=>
 some (r2.1,r2.2.1,r2.2.2)
 else
 if d.kind_==2 then
 e89 e d.n_>>=fun r5=>
 some (r5,c,b)
 else
 none
theorem zZD:Qf 187 f187:=⟨func187,rfl⟩
theorem yCp{e a c b f d r}(h:zWz e a c b f d=some r):Ct 187 [.cells [zH yA a .no,ai c,ai b]] [.mp 0 0,zH xJ f .no,xV d] (yV r.1) [.cells [zH yA a .no,ai r.2.1,ai r.2.2]] 0:=⟨by
 unfold zWz at h
 obtain⟨h1,h⟩|⟨h1,h⟩:=zK h
 obtain⟨r2,h3,h⟩:=zB h
 cases h
 exact tF zZD 1 [0] (oD (dT r2.1.sub)<|oD (dE a)<|oC 1 [0] (yCq h3)<|oB 1 h1 o0)
 have k:=oB 1 h1 o0
 obtain⟨h4,h⟩:=sO h
 obtain⟨r5,h6,h⟩:=zB h
 cases h
 exact tF zZD 1 [0] (oD (dT r5.sub)<|oD (dE a)<|oC 1 [] (c89 h6)<|oB 0 h4 k),⟨(lz rfl),⟨tv,dS _⟩,⟨tv,tv,tv,tv,⟨tv,zQ _⟩,tv⟩,tv⟩,(zD ⟨⟨tv,dE _⟩,tv,tv,tv⟩ zA),⟨tv,tv,dT _,tv⟩,(zD ⟨dE _,tv,tv,tv⟩ zA)⟩
def zRX(a:Nat)(b:zY)(c:List ByteArray)(d:zS):Option (Tm×Int×Int):=
 zOr a d>>=fun r1=>
 if r1 then
 zRV a b c>>=fun r4=>
 if r4 != 0 then
 none
 else
 zWz a b 0 0 c d>>=fun r7=>
 if r7.2.1 != 0 then
 none
 else
 fV a r7.1>>=fun r10=>
 if r10 then
 some (r7.1,0,0)
 else
 none
 else
 none
theorem zWy{a b c d r}(h:zRX a b c d=some r):Ct 134 [] [zH yA b .no,zH xJ c .no,xV d] (.tup [yV r.1,ai r.2.1,ai r.2.2]) [] 0:=⟨by
 unfold zRX at h
 obtain⟨r1,h2,h⟩:=zB h
 obtain⟨h3,h⟩:=sO h
 obtain⟨r4,h5,h⟩:=zB h
 have k:=oC 1 [] (zZC h5)<|oK 1 [] h3 (zVV h2) o0
 obtain⟨h6,h⟩:=yY h
 obtain⟨r7,h8,h⟩:=zB h
 have k:=oC 1 [2] (yCp h8)<|oB 0 h6 k
 obtain⟨h9,h⟩:=yY h
 obtain⟨r10,h11,h⟩:=zB h
 have k:=oB 2 h9 k
 obtain⟨h12,h⟩:=sO h
 cases h
 exact tF ⟨func134,rfl⟩ 3 [] (oD (dT r7.1.sub)<|oK 1 [] h12 (qW h11) k),⟨⟨tv,dE _⟩,⟨tv,dS _⟩,⟨tv,tv,tv,tv,⟨tv,zQ _⟩,tv⟩,tv⟩,zA,⟨⟨tv,tv,dT _,tv⟩,tv,tv,tv⟩,zA⟩
def L9:Nat->zY->List yK->zR->List ByteArray->Int->Option (zR×List ByteArray×Int×Int)
 |0,_,_,_,_,_=>none
 |f+1,d,b,c,a,e=>
 if decide (e<(b.length:Int))then
 zP b e>>=fun x9=>
 e79 f x9.name_>>=fun r11=>
 if r11 then
 zRX f d a x9.type_>>=fun r14=>
 if r14.2.2 != 0 then
 none
 else
 xB 40 c [r14.1]>>=fun l17=>
 xB 16 a [x9.name_]>>=fun l19=>
 L9 f d b l17 l19 (yN (e+1))
 else
 none
 else
 some (c,a,0,0)
def zRY(f:Nat)(d:zY)(g:List ByteArray)(b:List yK):Option (zR×List ByteArray×Int×Int):=
 zRV f d g>>=fun r1=>
 if r1 != 0 then
 none
 else
 if decide ((b.length:Int)>(yN (24-(g.length:Int))))then
 none
 else
 xB 16 ([]:List ByteArray) g>>=fun l5=>
 L9 f d b [] l5 0
theorem zZE:Qf 131 f131:=⟨func131,rfl⟩
theorem zIg:∀f:Nat,(∀ {d b c a e r},L9 f d b c a e=some r->(∀j,dL 0 (pt 65461 f131) (sp j 68 0 [(0,zH yA d .no),(11,zH zC c (.st 0 3)),(12,zH xJ a .full),(33,zH yQ b .no),(34,ai (b.length:Int)),(35,ai e)]) (⟨[],0,[0],1,[]⟩) (fQ 0 (nQ 0 f131 (.tup [.sl (zG zC r.1) r.1.length .no,.sl (zG xJ r.2.1) r.2.1.length .no,ai r.2.2.1,ai r.2.2.2]) [] 0) [.blk 0,.seq (pt 1023 f131)]))∧(∀j,dL 0 (pt 65461 f131) (sp j 68 0 [(0,zH yA d .no),(11,zH zC c (.st 0 3)),(12,zH xJ a (.st 1 1)),(33,zH yQ b .no),(34,ai (b.length:Int)),(35,ai e)]) (⟨[],0,[0,1],2,[]⟩) (fQ 0 (nQ 0 f131 (.tup [.sl (zG zC r.1) r.1.length .no,.sl (zG xJ r.2.1) r.2.1.length .no,ai r.2.2.1,ai r.2.2.2]) [] 0) [.blk 0,.seq (pt 1023 f131)]))):=by
 intro f
 induction f with
 |zero=>
  exact fun h=>nn h
 |succ f ih=>
  intro d b c a e r h
  rw[L9]at h
  refine⟨?_,?_⟩
  obtain⟨h8,h⟩|⟨h8,h⟩:=zK h
  obtain⟨x9,h10,h⟩:=zB h
  obtain⟨r11,h12,h⟩:=zB h
  have k:=oA 0 (zCO (o:=.no) h10)<|oB 0 h8 o0
  obtain⟨h13,h⟩:=sO h
  obtain⟨r14,h15,h⟩:=zB h
  have k:=oC 2 [] (zWy h15)<|oK 3 [] h13 (c79 h12) k
  obtain⟨h16,h⟩:=yY h
  obtain⟨l17,h18,h⟩:=zB h
  obtain⟨l19,h20,h⟩:=zB h
  exact fun j=>lH 1 [] [] [1,2] [0,11,12,33,34,35] (oD (zN b)<|oD (dS l19)<|oD (dT l17)<|oD (dE d)<|oP 2 (P8 h20 (by simp))<|oP 0 (vF h18 (by simp))<|oS 1 (wC wL [r14.1])<|oB 4 h16 k) ((ih h).2)
  cases h
  exact fun j=>lF 0 [] (oD (dS a)<|oD (dT c)<|oB 0 h8 o0)
  obtain⟨h8,h⟩|⟨h8,h⟩:=zK h
  obtain⟨x9,h10,h⟩:=zB h
  obtain⟨r11,h12,h⟩:=zB h
  have k:=oA 0 (zCO (o:=.no) h10)<|oB 0 h8 o0
  obtain⟨h13,h⟩:=sO h
  obtain⟨r14,h15,h⟩:=zB h
  have k:=oC 2 [] (zWy h15)<|oK 3 [] h13 (c79 h12) k
  obtain⟨h16,h⟩:=yY h
  obtain⟨l17,h18,h⟩:=zB h
  obtain⟨l19,h20,h⟩:=zB h
  exact fun j=>lH 1 [] [] [2,3] [0,11,12,33,34,35] (oD (zN b)<|oD (dS l19)<|oD (dT l17)<|oD (dE d)<|oP 2 (P8 h20 (by simp))<|oP 0 (vF h18 (by simp))<|oS 1 (wC wL [r14.1])<|oB 4 h16 k) ((ih h).2)
  cases h
  exact fun j=>lF 0 [] (oD (dS a)<|oD (dT c)<|oB 0 h8 o0)
theorem zZF{f d g b r}(h:zRY f d g b=some r):Ct 131 [] [zH yA d .no,zH xJ g .no,zH yQ b .no] (.tup [.sl (zG zC r.1) r.1.length .no,.sl (zG xJ r.2.1) r.2.1.length .no,ai r.2.2.1,ai r.2.2.2]) [] 0:=⟨by
 unfold zRY at h
 obtain⟨r1,h2,h⟩:=zB h
 have k:=oC 0 [] (zZC h2) o0
 obtain⟨h3,h⟩:=yY h
 have k:=oB 0 h3 k
 obtain⟨h4,h⟩:=yY h
 obtain⟨l5,h6,h⟩:=zB h
 have k:=oB 3 h4 k
 by_cases h7:List.length g=0
 exact tH zZE 1 [(none,11,3)] [] [0] [0,11,12,33,34,35] (oD (zN b)<|oD (dS l5)<|oD (dT ([]:zR))<|oD (dE d)<|oP 1 (zXi h6 h7) k) ((zIg _ h).1)
 exact tH zZE 1 [(none,11,3)] [] [1,0] [0,11,12,33,34,35] (oD (zN b)<|oD (dS l5)<|oD (dT ([]:zR))<|oD (dE d)<|oP 1 (P8 h6 h7) k) ((zIg _ h).2),⟨⟨tv,dE _⟩,⟨tv,dS _⟩,⟨tv,zN _⟩,tv⟩,zA,⟨dT _,dS _,tv,tv,tv⟩,zA⟩
def zOq(d:Nat)(a b c:Int):Option Int:=
 if a==2 then
 none
 else
 some b
theorem zWx{d a b c r}(h:zOq d a b c=some r):Ct 132 [] [ai a,ai b,ai c] (ai r) [] 0:=⟨by
 unfold zOq at h
 obtain⟨h1,h⟩:=yY h
 obtain rfl:=sj h
 exact tF ⟨func132,rfl⟩ 0 [] (oB 0 h1 o0),⟨tv,tv,tv,tv⟩,zA,tv,zA⟩
def M0:Nat->wV->Int->Int->zR->yD->zR->zR->Int->Option Bool
 |0,_,_,_,_,_,_,_,_=>none
 |c+1,M,d,e,p0_Context,p0_Names,p0_Types,a,b=>
 if decide (b<(a.length:Int))then
 zP a b>>=fun x3=>
 zKl c M>>=fun r5=>
 zAB c x3 1048577 r5>>=fun r7=>
 if r7 then
 M0 c M d e p0_Context p0_Names p0_Types a (yN (b+1))
 else
 none
 else
 some true
def zOp(c:Nat)(M:wV)(d e:Int)(p0_Context:zR)(p0_Names:yD)(p0_Types a:zR):Option Bool:=
 if (p0_Names.length:Int) != (p0_Types.length:Int)then
 none
 else
 M0 c M d e p0_Context p0_Names p0_Types a 0
theorem zRZ:∀c:Nat,(∀ {M d e p0_Context p0_Names p0_Types a b r},M0 c M d e p0_Context p0_Names p0_Types a b=some r->(∀j,dL 3 (pt 4021 f258) (sp j 32 0 [(2,.mp 3 0),(19,zH zC a .no),(20,ai (a.length:Int)),(21,ai b)]) (⟨[(0,mB M 1),(1,mR M),(2,.cells [ai d,ai e]),(3,.cells [.mp 0 0,.mp 2 0,zH zC p0_Context .no,zH zU p0_Names .no,zH zC p0_Types .no])],4,[],0,[]⟩) (fQ 3 (nQ 3 f258 (ab r) [mB M 1,mR M,.cells [ai d,ai e]] 0) [.blk 0,.seq (pt 63 f258)]))):=by
 intro c
 induction c with
 |zero=>
  exact fun h=>nn h
 |succ c ih=>
  intro M d e p0_Context p0_Names p0_Types a b r h
  rw[M0]at h
  obtain⟨h2,h⟩|⟨h2,h⟩:=zK h
  obtain⟨x3,h4,h⟩:=zB h
  obtain⟨r5,h6,h⟩:=zB h
  obtain⟨r7,h8,h⟩:=zB h
  have k:=oC 4 [0,1] (zUK h6)<|oA 0 (xH (o:=.no) h4)<|oB 0 h2 o0
  obtain⟨h9,h⟩:=sO h
  exact fun j=>lH 2 [] [0,1,2,3] [] [2,19,20,21] (oD (dT a)<|oD (dT p0_Types)<|oD (dI p0_Names)<|oD (dT p0_Context)<|pW M<|oK 0 [] h9 (zDx h8) k) (ih h)
  cases h
  exact fun j=>lF 0 [0,1,2] (pW M<|oB 0 h2 o0)
theorem zWw{c M d e p0_Context p0_Names p0_Types a r}(h:zOp c M d e p0_Context p0_Names p0_Types a=some r):Ct 258 [mB M 1,mR M,.cells [ai d,ai e]] [.agg [.mp 0 0,.mp 2 0,zH zC p0_Context .no,zH zU p0_Names .no,zH zC p0_Types .no],zH zC a .no] (ab r) [mB M 1,mR M,.cells [ai d,ai e]] 0:=⟨by
 unfold zOp at h
 obtain⟨h1,h⟩:=yY h
 exact tH ⟨func258,rfl⟩ 1 [] [0,1,2,3] [] [2,19,20,21] (oD (dT a)<|oD (dT p0_Types)<|oD (dI p0_Names)<|oD (dT p0_Context)<|pW M<|oB 6 h1 o0) (zRZ _ h),⟨⟨(lz rfl),(lz rfl),⟨tv,dT _⟩,⟨tv,dI _⟩,⟨tv,dT _⟩,tv⟩,⟨tv,dT _⟩,tv⟩,(bA (lz rfl) (zD ⟨tv,tv,tv⟩ zA)),tv,(cE (lz rfl) (zD ⟨tv,tv,tv⟩ zA))⟩
def zWv(c:Nat)(M:wV)(a b:Int)(p0_Context:zR)(p0_Names:yD)(p0_Types d:zR):Option (Int×zR×yD×zR×zY):=
 zOp c M a b p0_Context p0_Names p0_Types d>>=fun r1=>
 if r1 then
 zOp c M a b p0_Context p0_Names p0_Types p0_Context>>=fun r4=>
 if r4 then
 zOp c M a b p0_Context p0_Names p0_Types p0_Types>>=fun r7=>
 if r7 then
 zKk c M>>=fun r10=>
 some (0,p0_Context,p0_Names,p0_Types,r10)
 else
 none
 else
 none
 else
 none
theorem yCo{c M a b p0_Context p0_Names p0_Types d r}(h:zWv c M a b p0_Context p0_Names p0_Types d=some r):Ct 232 [mB M 1,mR M,.cells [ai a,ai b]] [.agg [.mp 0 0,.mp 2 0,zH zC p0_Context .no,zH zU p0_Names .no,zH zC p0_Types .no],zH zC d .no] (.tup [.mp 3 0,ai r.1]) [mB M 1,mR M,.cells [ai a,ai b],.cells [.mp 0 0,.mp 2 0,zH zC r.2.1 .no,zH zU r.2.2.1 .no,zH zC r.2.2.2.1 .no,zH yA r.2.2.2.2 .no]] 0:=⟨by
 unfold zWv at h
 obtain⟨r1,h2,h⟩:=zB h
 obtain⟨h3,h⟩:=sO h
 obtain⟨r4,h5,h⟩:=zB h
 have k:=oK 1 [0,1,2] h3 (zWw h2) o0
 obtain⟨h6,h⟩:=sO h
 obtain⟨r7,h8,h⟩:=zB h
 have k:=oK 3 [0,1,2] h6 (zWw h5) k
 obtain⟨h9,h⟩:=sO h
 obtain⟨r10,h11,h⟩:=zB h
 cases h
 exact tF ⟨func232,rfl⟩ 0 [0,1,2,4] (oD (dE r10)<|oD (dT p0_Types)<|oD (dI p0_Names)<|oD (dT p0_Context)<|pW M<|oC 3 [0,1] (zYR h11)<|oK 3 [0,1,2] h9 (zWw h8) k),⟨⟨(lz rfl),(lz rfl),⟨tv,dT _⟩,⟨tv,dI _⟩,⟨tv,dT _⟩,tv⟩,⟨tv,dT _⟩,tv⟩,(bA (lz rfl) (zD ⟨tv,tv,tv⟩ zA)),⟨(lz rfl),tv,tv⟩,(cE (lz rfl) (zD ⟨tv,tv,tv⟩ (zD ⟨(lz rfl),(lz rfl),dT _,dI _,dT _,dE _,tv⟩ zA)))⟩
def zWu(m:Nat)(M:wV)(f g:Int)(a:zR)(b:yD)(c:zR)(d:zY)(e:Int):Option (Tm×Int):=
 if decide (e≥(a.length:Int))then
 none
 else
 zP a (yN ((yN ((a.length:Int)-1))-e))>>=fun x2=>
 e90 m x2 (yN (e+1))>>=fun r4=>
 some (r4.1,r4.2)
theorem yCn{m M f g a b c d e r}(h:zWu m M f g a b c d e=some r):Ct 275 [.cells [.mp 1 0,.mp 3 0,zH zC a .no,zH zU b .no,zH zC c .no,zH yA d .no],mB M 2,mR M,.cells [ai f,ai g]] [.mp 0 0,ai e] (.tup [yV r.1,ai r.2]) [.cells [.mp 1 0,.mp 3 0,zH zC a .no,zH zU b .no,zH zC c .no,zH yA d .no],mB M 2,mR M,.cells [ai f,ai g]] 0:=⟨by
 unfold zWu at h
 obtain⟨h1,h⟩:=yY h
 obtain⟨x2,h3,h⟩:=zB h
 obtain⟨r4,h5,h⟩:=zB h
 cases h
 exact tF ⟨func275,rfl⟩ 3 [0,1,2,3] (oD (dT r4.1.sub)<|pW M<|oD (dE d)<|oD (dT c)<|oD (dI b)<|oD (dT a)<|oC 2 [] (c90 h5)<|oA 5 (xH (o:=.no) h3)<|oB 2 h1 o0),⟨(lz rfl),tv,tv⟩,(zD ⟨(lz rfl),(lz rfl),⟨tv,dT _⟩,⟨tv,dI _⟩,⟨tv,dT _⟩,⟨tv,dE _⟩,tv⟩ (bA (lz rfl) (zD ⟨tv,tv,tv⟩ zA))),⟨⟨tv,tv,dT _,tv⟩,tv,tv⟩,(zD ⟨(lz rfl),(lz rfl),dT _,dI _,dT _,dE _,tv⟩ (cE (lz rfl) (zD ⟨tv,tv,tv⟩ zA)))⟩
def zWt(m:Nat)(M:wV)(f g:Int)(a:zR)(b:yD)(c:zR)(d:zY)(e:Tm):Option (Tm×Int×Int×Int):=
 if e.k==1 then
 zWu m M f g a b c d e.n>>=fun r2=>
 some (r2.1,r2.2,f,g)
 else
 if e.k==8 then
 none
 else
 if e.k==6 then
 none
 else
 if e.k==7 then
 none
 else
 if e.k==2 then
 if decide (e.n≥7)then
 none
 else
 e89 m (yN (e.n+1))>>=fun r17=>
 some (r17,0,f,g)
 else
 none
def zWs(m:Nat)(M:wV)(f g:Int)(a:zR)(b:yD)(c:zR)(d:zY)(e:Tm):Option (Int×Int×Int×Int):=
 zWt m M f g a b c d e>>=fun r1=>
 if r1.2.1 != 0 then
 none
 else
 e34 m M r1.1 r1.2.2.1 r1.2.2.2>>=fun r4=>
 if r4.2.1 != 0 then
 none
 else
 if r4.1.k != 2 then
 none
 else
 some (r4.1.n,0,r4.2.2.1,r4.2.2.2)
theorem zZG:Qf 259 f259:=⟨func259,rfl⟩
theorem yCm{m M f g a b c d e r}(h:zWt m M f g a b c d e=some r):Ct 259 [.cells [.mp 1 0,.mp 3 0,zH zC a .no,zH zU b .no,zH zC c .no,zH yA d .no],mB M 2,mR M,.cells [ai f,ai g]] [.mp 0 0,yV e] (.tup [yV r.1,ai r.2.1]) [.cells [.mp 1 0,.mp 3 0,zH zC a .no,zH zU b .no,zH zC c .no,zH yA d .no],mB M 2,mR M,.cells [ai r.2.2.1,ai r.2.2.2]] 0:=⟨by
 unfold zWt at h
 have z {os ob} (k:Oz os ob):=pW M<|oD (dE d)<|oD (dT c)<|oD (dI b)<|oD (dT a)<|k
 obtain⟨h1,h⟩|⟨h1,h⟩:=zK h
 obtain⟨r2,h3,h⟩:=zB h
 cases h
 exact tF zZG 3 [0,1,2,3] (oD (dT r2.1.sub)<|z<|oC 1 [0,1,2,3] (yCn h3)<|oB 1 h1 o0)
 have k:=oB 1 h1 o0
 obtain⟨h4,h⟩:=yY h
 have k:=oB 0 h4 k
 obtain⟨h7,h⟩:=yY h
 have k:=oB 0 h7 k
 obtain⟨h10,h⟩:=yY h
 have k:=oB 0 h10 k
 obtain⟨h15,h⟩:=sO h
 have k:=oB 0 h15 k
 obtain⟨h16,h⟩:=yY h
 obtain⟨r17,h18,h⟩:=zB h
 cases h
 exact tF zZG 1 [0,1,2,3] (oD (dT r17.sub)<|z<|oC 2 [] (c89 h18)<|oB 1 h16 k),⟨(lz rfl),⟨tv,tv,⟨tv,dT _⟩,tv⟩,tv⟩,(zD ⟨(lz rfl),(lz rfl),⟨tv,dT _⟩,⟨tv,dI _⟩,⟨tv,dT _⟩,⟨tv,dE _⟩,tv⟩ (bA (lz rfl) (zD ⟨tv,tv,tv⟩ zA))),⟨⟨tv,tv,dT _,tv⟩,tv,tv⟩,(zD ⟨(lz rfl),(lz rfl),dT _,dI _,dT _,dE _,tv⟩ (cE (lz rfl) (zD ⟨tv,tv,tv⟩ zA)))⟩
theorem yCl{m M f g a b c d e r}(h:zWs m M f g a b c d e=some r):Ct 233 [.cells [.mp 1 0,.mp 3 0,zH zC a .no,zH zU b .no,zH zC c .no,zH yA d .no],mB M 2,mR M,.cells [ai f,ai g]] [.mp 0 0,yV e] (.tup [ai r.1,ai r.2.1]) [.cells [.mp 1 0,.mp 3 0,zH zC a .no,zH zU b .no,zH zC c .no,zH yA d .no],mB M 2,mR M,.cells [ai r.2.2.1,ai r.2.2.2]] 0:=⟨by
 unfold zWs at h
 obtain⟨r1,h2,h⟩:=zB h
 have k:=oC 1 [0,1,2,3] (yCm h2) o0
 obtain⟨h3,h⟩:=yY h
 obtain⟨r4,h5,h⟩:=zB h
 have k:=oC 3 [1,2,3] (c34 h5)<|oB 3 h3 k
 obtain⟨h6,h⟩:=yY h
 have k:=oB 3 h6 k
 obtain⟨h7,h⟩:=yY h
 cases h
 exact tF ⟨func233,rfl⟩ 1 [0,1,2,3] (pW M<|oD (dE d)<|oD (dT c)<|oD (dI b)<|oD (dT a)<|oB 1 h7 k),⟨(lz rfl),⟨tv,tv,⟨tv,dT _⟩,tv⟩,tv⟩,(zD ⟨(lz rfl),(lz rfl),⟨tv,dT _⟩,⟨tv,dI _⟩,⟨tv,dT _⟩,⟨tv,dE _⟩,tv⟩ (bA (lz rfl) (zD ⟨tv,tv,tv⟩ zA))),⟨tv,tv,tv⟩,(zD ⟨(lz rfl),(lz rfl),dT _,dI _,dT _,dE _,tv⟩ (cE (lz rfl) (zD ⟨tv,tv,tv⟩ zA)))⟩
def zSz(d:Nat)(M:wV)(b c:Int)(p0_Context:zR)(p0_Names:yD)(p0_Types:zR)(a:Tm):Option (Int×Int×Int×Int):=
 zWv d M b c p0_Context p0_Names p0_Types [a]>>=fun r1=>
 if r1.1 != 0 then
 none
 else
 zWs d M b c r1.2.1 r1.2.2.1 r1.2.2.2.1 r1.2.2.2.2 a>>=fun r4=>
 some (r4.1,r4.2.1,r4.2.2.1,r4.2.2.2)
theorem zZH{d M b c p0_Context p0_Names p0_Types a r}(h:zSz d M b c p0_Context p0_Names p0_Types a=some r):Ct 186 [mB M 1,mR M,.cells [ai b,ai c]] [.agg [.mp 0 0,.mp 2 0,zH zC p0_Context .no,zH zU p0_Names .no,zH zC p0_Types .no],yV a] (.tup [ai r.1,ai r.2.1]) [mB M 1,mR M,.cells [ai r.2.2.1,ai r.2.2.2]] 0:=⟨by
 unfold zSz at h
 obtain⟨r1,h2,h⟩:=zB h
 have k:=oC 0 [0,1,2] (yCo h2)<|oS 2 (wC wL [a]) o0
 obtain⟨h3,h⟩:=yY h
 obtain⟨r4,h5,h⟩:=zB h
 cases h
 exact tF ⟨func186,rfl⟩ 2 [0,1,2] (pW M<|oC 1 [5,0,1,2] (yCl h5)<|oB 2 h3 k),⟨⟨(lz rfl),(lz rfl),⟨tv,dT _⟩,⟨tv,dI _⟩,⟨tv,dT _⟩,tv⟩,⟨tv,tv,⟨tv,dT _⟩,tv⟩,tv⟩,(bA (lz rfl) (zD ⟨tv,tv,tv⟩ zA)),⟨tv,tv,tv⟩,(cE (lz rfl) (zD ⟨tv,tv,tv⟩ zA))⟩
def W4(q:Nat)(m:zY)(s t:Int)(u:ByteArray)(n:List yK)(v w:Int)(y:ByteArray)(z:Int)(p:List zS)(a:List yK)(b:List uE)(d e c f g:Int)(i:zR)(j:Tm)(A:Int):Option (Int×Bool×Int×Int×Int×Int):=
 e32 q m>>=fun r1=>
 match r1 with
 | .inl y15=>
  none
 | .inr y3=>
  if y3.1 != 0 then
  none
  else
  zSz q (wV.mk y3.2.1 y3.2.2.2.2.1 y3.2.2.2.2.2 y3.2.2.1 y3.2.2.2.1) d e i [] [] j>>=fun r11=>
  iW q m s t u n v w y z p a b r11.2.2.1 r11.2.2.2 c f g r11.2.1 A>>=fun r13=>
  some (r11.1,!r13.1,r13.2.1,r13.2.2,r11.2.2.1,r11.2.2.2)
theorem zOo{q m s t u n v w y z p a b d e c f g i j A r}(h:W4 q m s t u n v w y z p a b d e c f g i j A=some r):Ct 133 [rB m s t u n v w y z p a b (.mp 1 0) (zH zC ([]:zR) .nl) (zH xJ ([]:List ByteArray) .nl) (zH zC ([]:zR) .nl) c f g,.cells [ai d,ai e]] [.mp 0 0,zH zC i .no,yV j,ai A] (.tup [ai r.1,ab r.2.1]) [rB m s t u n v w y z p a b (.mp 1 0) (zH zC ([]:zR) .nl) (zH xJ ([]:List ByteArray) .nl) (zH zC ([]:zR) .nl) c r.2.2.1 r.2.2.2.1,.cells [ai r.2.2.2.2.1,ai r.2.2.2.2.2]] 0:=⟨by
 unfold W4 at h
 obtain⟨r1,h2,h⟩:=zB h
 rcases r1 with y15|y3
 cases h
 dsimp only at h
 have k:=oC 1 [] (c32 h2) o0
 obtain⟨h4,h⟩:=yY h
 obtain⟨r11,h12,h⟩:=zB h
 obtain⟨r13,h14,h⟩:=zB h
 cases h
 exact tG ⟨func133,rfl⟩ 1 [] [0,1] [] true (oD (dT ([]:zR))<|oD (dS ([]:List ByteArray))<|oD (dT ([]:zR))<|eP m n p a b<|oC 2 [0,1] (W3 h14)<|oC 2 [3,4,1] (zZH h12)<|oB 2 h4 k),⟨(lz rfl),⟨tv,dT _⟩,⟨tv,tv,⟨tv,dT _⟩,tv⟩,tv,tv⟩,(zD ⟨⟨tv,dE _⟩,tv,tv,tv,⟨tv,zN _⟩,tv,tv,tv,tv,⟨tv,zQ _⟩,⟨tv,zN _⟩,⟨tv,xD _⟩,(lz rfl),⟨tv,dT _⟩,⟨tv,dS _⟩,⟨tv,dT _⟩,tv,tv,tv,tv⟩ (zD ⟨tv,tv,tv⟩ zA)),⟨tv,tv,tv⟩,(zD ⟨dE _,tv,tv,tv,zN _,tv,tv,tv,tv,zQ _,zN _,xD _,(lz rfl),dT _,dS _,dT _,tv,tv,tv,tv⟩ (zD ⟨tv,tv,tv⟩ zA))⟩
def cC(y:Nat)(m:zY)(z t:Int)(i:ByteArray)(p:List yK)(u q:Int)(v:ByteArray)(w:Int)(s:List zS)(a:List yK)(b:List uE)(e:Int)(r1:zR×List ByteArray×Int×Int)(C c d f g:Int):Option (zR×List ByteArray×Int×Int×Int×Int×Int):=
 if decide (C<(r1.1.length:Int))then
 none
 else
 zRX y m r1.2.1 (zS.mk u q v w s)>>=fun r18=>
 zOq y r18.2.2 r18.2.1 q>>=fun r20=>
 iW y m z t i p u q v w s a b f g e c d r18.2.2 r20>>=fun r22=>
 if r22.1 then
 none
 else
 if r18.1.k != 2 then
 none
 else
 W4 y m z t i p u q v w s a b f g e r22.2.1 r22.2.2 r1.1 r18.1 q>>=fun r28=>
 some (r1.1,r1.2.1,r18.1.n,r28.2.2.1,r28.2.2.2.1,r28.2.2.2.2.1,r28.2.2.2.2.2)
def zBL(y:Nat)(m:zY)(z t:Int)(i:ByteArray)(p:List yK)(u q:Int)(v:ByteArray)(w:Int)(s:List zS)(a:List yK)(b:List uE)(A B e D E:Int):Option (zR×List ByteArray×Int×Int×Int×Int×Int):=
 zRY y m [] p>>=fun r1=>
 zOq y r1.2.2.2 r1.2.2.1 t>>=fun r3=>
 iW y m z t i p u q v w s a b A B e D E r1.2.2.2 r3>>=fun r5=>
 if r5.1 then
 none
 else
 cC y m z t i p u q v w s a b e r1 0 r5.2.1 r5.2.2 A B
theorem zGa{y m z t i p u q v w s a b e r1 C c d f g r}(h:cC y m z t i p u q v w s a b e r1 C c d f g=some r):(∀j,dL 2 (pt 4021 f75) (sp j 127 0 [(0,.mp 0 0),(2,zH zC r1.1 .no),(3,zH xJ r1.2.1 .no),(37,zH zC r1.1 .no),(38,ai (r1.1.length:Int)),(39,ai C)]) (⟨[(0,rB m z t i p u q v w s a b (.mp 1 0) (zH zC ([]:zR) .nl) (zH xJ ([]:List ByteArray) .nl) (zH zC ([]:zR) .nl) e c d),(1,.cells [ai f,ai g])],2,[],0,[]⟩) (fQ 2 (nQ 2 f75 (.tup []) [rB m z t i p u q v w s a b (.mp 1 0) (zH zC r.1 .no) (zH xJ r.2.1 .no) (zH zC ([]:zR) .nl) r.2.2.1 r.2.2.2.1 r.2.2.2.2.1,.cells [ai r.2.2.2.2.2.1,ai r.2.2.2.2.2.2]] 0) [.blk 0,.seq (pt 63 f75)])):=by
 unfold cC at h
 obtain⟨h8,h⟩:=yY h
 obtain⟨r18,h19,h⟩:=zB h
 obtain⟨r20,h21,h⟩:=zB h
 obtain⟨r22,h23,h⟩:=zB h
 have k:=oC 5 [] (zWx h21)<|oC 2 [] (zWy h19)<|oB 0 h8 o0
 obtain⟨h24,h⟩:=yY h
 have k:=oK 0 [0,1] h24 (W3 h23) k
 obtain⟨h25,h⟩:=yY h
 obtain⟨r28,h29,h⟩:=zB h
 cases h
 exact fun j=>lG 4 [] [0,1] [] true (oD (dT ([]:zR))<|oD (dS r1.2.1)<|oD (dT r1.1)<|eP m p s a b<|oC 2 [0,1] (zOo h29)<|oB 1 h25 k)
theorem zSy{y m z t i p u q v w s a b A B e D E r}(h:zBL y m z t i p u q v w s a b A B e D E=some r):Ct 75 [rB m z t i p u q v w s a b (.mp 1 0) (zH zC ([]:zR) .nl) (zH xJ ([]:List ByteArray) .nl) (zH zC ([]:zR) .nl) e D E,.cells [ai A,ai B]] [.mp 0 0] (.tup []) [rB m z t i p u q v w s a b (.mp 1 0) (zH zC r.1 .no) (zH xJ r.2.1 .no) (zH zC ([]:zR) .nl) r.2.2.1 r.2.2.2.1 r.2.2.2.2.1,.cells [ai r.2.2.2.2.2.1,ai r.2.2.2.2.2.2]] 0:=⟨by
 unfold zBL at h
 obtain⟨r1,h2,h⟩:=zB h
 obtain⟨r3,h4,h⟩:=zB h
 obtain⟨r5,h6,h⟩:=zB h
 have k:=oC 5 [] (zWx h4)<|oC 2 [] (zZF h2) o0
 obtain⟨h7,h⟩:=yY h
 exact tH ⟨func75,rfl⟩ 1 [] [0,1] [] [0,2,3,37,38,39] (oD (dT r1.1)<|oD (dS r1.2.1)<|oD (dT r1.1)<|oD (dT ([]:zR))<|oD (dS ([]:List ByteArray))<|oD (dT ([]:zR))<|eP m p s a b<|oK 0 [0,1] h7 (W3 h6) k) (zGa h),⟨(lz rfl),tv⟩,(zD ⟨⟨tv,dE _⟩,tv,tv,tv,⟨tv,zN _⟩,tv,tv,tv,tv,⟨tv,zQ _⟩,⟨tv,zN _⟩,⟨tv,xD _⟩,(lz rfl),⟨tv,dT _⟩,⟨tv,dS _⟩,⟨tv,dT _⟩,tv,tv,tv,tv⟩ (zD ⟨tv,tv,tv⟩ zA)),tv,(zD ⟨dE _,tv,tv,tv,zN _,tv,tv,tv,tv,zQ _,zN _,xD _,(lz rfl),dT _,dS _,dT _,tv,tv,tv,tv⟩ (zD ⟨tv,tv,tv⟩ zA))⟩
def aK(B:Nat)(p:zY)(t u:Int)(v:ByteArray)(q:List yK)(w y:Int)(z:ByteArray)(i:Int)(s:List zS)(b:List yK)(c:List uE)(f g:Int)(d:zR)(e:List ByteArray)(m a n j A:Int):Option (Bool×Int×Int):=
 if a==0 then
 if j != 0 then
 none
 else
 some ((a != 0),a,n)
 else
 none
theorem zEA{B p t u v q w y z i s b c f g d e m a n j A r}(h:aK B p t u v q w y z i s b c f g d e m a n j A=some r):Ct 128 [rB p t u v q w y z i s b c (.mp 1 0) (zH zC d .no) (zH xJ e .no) (zH zC ([]:zR) .nl) m a n,.cells [ai f,ai g]] [.mp 0 0,ai j,ai A] (ab r.1) [rB p t u v q w y z i s b c (.mp 1 0) (zH zC d .no) (zH xJ e .no) (zH zC ([]:zR) .nl) m r.2.1 r.2.2,.cells [ai f,ai g]] 0:=⟨by
 unfold aK at h
 obtain⟨h1,h⟩:=sO h
 have k:=oB 1 h1 o0
 obtain⟨h2,h⟩:=yY h
 cases h
 exact tG ⟨func128,rfl⟩ 2 [] [0,1] [] true (oD (dT ([]:zR))<|oD (dS e)<|oD (dT d)<|eP p q s b c<|oB 0 h2 k),⟨(lz rfl),tv,tv,tv⟩,(zD ⟨⟨tv,dE _⟩,tv,tv,tv,⟨tv,zN _⟩,tv,tv,tv,tv,⟨tv,zQ _⟩,⟨tv,zN _⟩,⟨tv,xD _⟩,(lz rfl),⟨tv,dT _⟩,⟨tv,dS _⟩,⟨tv,dT _⟩,tv,tv,tv,tv⟩ (zD ⟨tv,tv,tv⟩ zA)),tv,(zD ⟨dE _,tv,tv,tv,zN _,tv,tv,tv,tv,zQ _,zN _,xD _,(lz rfl),dT _,dS _,dT _,tv,tv,tv,tv⟩ (zD ⟨tv,tv,tv⟩ zA))⟩
def W5(t:Nat)(p:zY)(u v:Int)(w:ByteArray)(q:List yK)(y z:Int)(i:ByteArray)(j:Int)(s:List zS)(a:List yK)(b:List uE)(f g:Int)(c:zR)(d:List ByteArray)(e m n:Int)(A:zR)(B:Tm)(C:Int):Option (Int×Bool×Int×Int×Int×Int):=
 e32 t p>>=fun r1=>
 match r1 with
 | .inl y15=>
  none
 | .inr y3=>
  if y3.1 != 0 then
  none
  else
  zSz t (wV.mk y3.2.1 y3.2.2.2.2.1 y3.2.2.2.2.2 y3.2.2.1 y3.2.2.2.1) f g A [] [] B>>=fun r11=>
  aK t p u v w q y z i j s a b r11.2.2.1 r11.2.2.2 c d e m n r11.2.1 C>>=fun r13=>
  some (r11.1,!r13.1,r13.2.1,r13.2.2,r11.2.2.1,r11.2.2.2)
theorem zEB{t p u v w q y z i j s a b f g c d e m n A B C r}(h:W5 t p u v w q y z i j s a b f g c d e m n A B C=some r):Ct 133 [rB p u v w q y z i j s a b (.mp 1 0) (zH zC c .no) (zH xJ d .no) (zH zC ([]:zR) .nl) e m n,.cells [ai f,ai g]] [.mp 0 0,zH zC A .no,yV B,ai C] (.tup [ai r.1,ab r.2.1]) [rB p u v w q y z i j s a b (.mp 1 0) (zH zC c .no) (zH xJ d .no) (zH zC ([]:zR) .nl) e r.2.2.1 r.2.2.2.1,.cells [ai r.2.2.2.2.1,ai r.2.2.2.2.2]] 0:=⟨by
 unfold W5 at h
 obtain⟨r1,h2,h⟩:=zB h
 rcases r1 with y15|y3
 cases h
 dsimp only at h
 have k:=oC 1 [] (c32 h2) o0
 obtain⟨h4,h⟩:=yY h
 obtain⟨r11,h12,h⟩:=zB h
 obtain⟨r13,h14,h⟩:=zB h
 cases h
 exact tG ⟨func133,rfl⟩ 1 [] [0,1] [] true (oD (dT ([]:zR))<|oD (dS d)<|oD (dT c)<|eP p q s a b<|oC 2 [0,1] (zEA h14)<|oC 2 [3,4,1] (zZH h12)<|oB 2 h4 k),⟨(lz rfl),⟨tv,dT _⟩,⟨tv,tv,⟨tv,dT _⟩,tv⟩,tv,tv⟩,(zD ⟨⟨tv,dE _⟩,tv,tv,tv,⟨tv,zN _⟩,tv,tv,tv,tv,⟨tv,zQ _⟩,⟨tv,zN _⟩,⟨tv,xD _⟩,(lz rfl),⟨tv,dT _⟩,⟨tv,dS _⟩,⟨tv,dT _⟩,tv,tv,tv,tv⟩ (zD ⟨tv,tv,tv⟩ zA)),⟨tv,tv,tv⟩,(zD ⟨dE _,tv,tv,tv,zN _,tv,tv,tv,tv,zQ _,zN _,xD _,(lz rfl),dT _,dS _,dT _,tv,tv,tv,tv⟩ (zD ⟨tv,tv,tv⟩ zA))⟩
def jE:Nat->zY->Int->Int->ByteArray->List yK->Int->Int->ByteArray->Int->List zS->List yK->List uE->zR->List ByteArray->Int->(zR×List ByteArray×Int×Int)->Int->zR->Int->Int->Int->Int->Option (zR×Int×Int×Int×Int)
 |0,_,_,_,_,_,_,_,_,_,_,_,_,_,_,_,_,_,_,_,_,_,_=>none
 |B+1,p,v,u,w,q,y,z,i,A,s,a,d,b,c,g,r1,t,G,e,f,m,n=>
 if decide (t<(r1.1.length:Int))then
 zP r1.1 t>>=fun x11=>
 zP a t>>=fun x13=>
 W5 B p v u w q y z i A s a d m n b c g e f G x11 x13.at_>>=fun r15=>
 if r15.2.1 then
 if decide (r15.1>g)then
 none
 else
 xB 40 G [x11]>>=fun l21=>
 jE B p v u w q y z i A s a d b c g r1 (yN (t+1)) l21 r15.2.2.1 r15.2.2.2.1 r15.2.2.2.2.1 r15.2.2.2.2.2
 else
 none
 else
 some (r1.1,e,f,m,n)
def zBM(B:Nat)(p:zY)(v u:Int)(w:ByteArray)(q:List yK)(y z:Int)(i:ByteArray)(A:Int)(s:List zS)(a:List yK)(d:List uE)(C D:Int)(b:zR)(c:List ByteArray)(g E F:Int):Option (zR×Int×Int×Int×Int):=
 zRY B p c a>>=fun r1=>
 zOq B r1.2.2.2 r1.2.2.1 u>>=fun r3=>
 aK B p v u w q y z i A s a d C D b c g E F r1.2.2.2 r3>>=fun r5=>
 if r5.1 then
 none
 else
 nE b 0 (b.length:Int)>>=fun x8=>
 jE B p v u w q y z i A s a d b c g r1 0 x8 r5.2.1 r5.2.2 C D
theorem zGA:∀B:Nat,(∀ {p v u w q y z i A s a d b c g r1 t G e f m n r},jE B p v u w q y z i A s a d b c g r1 t G e f m n=some r->(∀j,dL 2 (pt 16309 f76) (sp j 107 0 [(0,.mp 0 0),(2,zH zC r1.1 .no),(6,zH zC G .full),(56,zH zC r1.1 .no),(57,ai (r1.1.length:Int)),(58,ai t)]) (⟨[(0,rB p v u w q y z i A s a d (.mp 1 0) (zH zC b .no) (zH xJ c .no) (zH zC ([]:zR) .nl) g e f),(1,.cells [ai m,ai n])],2,[],0,[]⟩) (fQ 2 (nQ 2 f76 (.tup []) [rB p v u w q y z i A s a d (.mp 1 0) (zH zC b .no) (zH xJ c .no) (zH zC r.1 .no) g r.2.1 r.2.2.1,.cells [ai r.2.2.2.1,ai r.2.2.2.2]] 0) [.blk 0,.seq (pt 255 f76)]))∧(∀j,dL 2 (pt 16309 f76) (sp j 107 0 [(0,.mp 0 0),(2,zH zC r1.1 .no),(6,zH zC G (.st 0 3)),(56,zH zC r1.1 .no),(57,ai (r1.1.length:Int)),(58,ai t)]) (⟨[(0,rB p v u w q y z i A s a d (.mp 1 0) (zH zC b .no) (zH xJ c .no) (zH zC ([]:zR) .nl) g e f),(1,.cells [ai m,ai n])],2,[0],1,[]⟩) (fQ 2 (nQ 2 f76 (.tup []) [rB p v u w q y z i A s a d (.mp 1 0) (zH zC b .no) (zH xJ c .no) (zH zC r.1 .no) g r.2.1 r.2.2.1,.cells [ai r.2.2.2.1,ai r.2.2.2.2]] 0) [.blk 0,.seq (pt 255 f76)]))):=by
 intro B
 induction B with
 |zero=>
  exact fun h=>nn h
 |succ B ih=>
  intro p v u w q y z i A s a d b c g r1 t G e f m n r h
  rw[jE]at h
  refine⟨?_,?_⟩
  obtain⟨h10,h⟩|⟨h10,h⟩:=zK h
  obtain⟨x11,h12,h⟩:=zB h
  obtain⟨x13,h14,h⟩:=zB h
  obtain⟨r15,h16,h⟩:=zB h
  have k:=oC 1 [0,1] (zEB h16)<|oA 4 (zCO (o:=.no) h14)<|oA 0 (xH (o:=.no) h12)<|oB 0 h10 o0
  obtain⟨h17,h⟩:=sO h
  have k:=oB 1 h17 k
  obtain⟨h18,h⟩:=yY h
  obtain⟨l21,h22,h⟩:=zB h
  exact fun j=>lH 1 [] [0,1] [0] [0,2,6,56,57,58] (oD (dT r1.1)<|oD (dT l21)<|oD (dT r1.1)<|oD (dT ([]:zR))<|oD (dS c)<|oD (dT b)<|eP p q s a d<|oP 0 (vF h22 (by simp))<|oS 1 (wC wL [x11])<|oB 2 h18 k) ((ih h).2)
  cases h
  exact fun j=>lF 1 [0,1] (oD (dT r1.1)<|oD (dS c)<|oD (dT b)<|eP p q s a d<|oB 0 h10 o0)
  obtain⟨h10,h⟩|⟨h10,h⟩:=zK h
  obtain⟨x11,h12,h⟩:=zB h
  obtain⟨x13,h14,h⟩:=zB h
  obtain⟨r15,h16,h⟩:=zB h
  have k:=oC 1 [0,1] (zEB h16)<|oA 4 (zCO (o:=.no) h14)<|oA 0 (xH (o:=.no) h12)<|oB 0 h10 o0
  obtain⟨h17,h⟩:=sO h
  have k:=oB 1 h17 k
  obtain⟨h18,h⟩:=yY h
  obtain⟨l21,h22,h⟩:=zB h
  exact fun j=>lH 1 [] [0,1] [1] [0,2,6,56,57,58] (oD (dT r1.1)<|oD (dT l21)<|oD (dT r1.1)<|oD (dT ([]:zR))<|oD (dS c)<|oD (dT b)<|eP p q s a d<|oP 0 (vF h22 (by simp))<|oS 1 (wC wL [x11])<|oB 2 h18 k) ((ih h).2)
  cases h
  exact fun j=>lF 1 [0,1] (oD (dT r1.1)<|oD (dS c)<|oD (dT b)<|eP p q s a d<|oB 0 h10 o0)
theorem zSx{B p v u w q y z i A s a d C D b c g E F r}(h:zBM B p v u w q y z i A s a d C D b c g E F=some r):Ct 76 [rB p v u w q y z i A s a d (.mp 1 0) (zH zC b .no) (zH xJ c .no) (zH zC ([]:zR) .nl) g E F,.cells [ai C,ai D]] [.mp 0 0] (.tup []) [rB p v u w q y z i A s a d (.mp 1 0) (zH zC b .no) (zH xJ c .no) (zH zC r.1 .no) g r.2.1 r.2.2.1,.cells [ai r.2.2.2.1,ai r.2.2.2.2]] 0:=⟨by
 unfold zBM at h
 obtain⟨r1,h2,h⟩:=zB h
 obtain⟨r3,h4,h⟩:=zB h
 obtain⟨r5,h6,h⟩:=zB h
 have k:=oC 5 [] (zWx h4)<|oC 3 [] (zZF h2) o0
 obtain⟨h7,h⟩:=yY h
 obtain⟨x8,h9,h⟩:=zB h
 exact tH ⟨func76,rfl⟩ 1 [] [0,1] [] [0,2,6,56,57,58] (oD (dT r1.1)<|oD (dT x8)<|oD (dT r1.1)<|oD (dT ([]:zR))<|oD (dS c)<|oD (dT b)<|eP p q s a d<|oA 5 (cZ (o:=.no) h9)<|oK 0 [0,1] h7 (zEA h6) k) ((zGA _ h).1),⟨(lz rfl),tv⟩,(zD ⟨⟨tv,dE _⟩,tv,tv,tv,⟨tv,zN _⟩,tv,tv,tv,tv,⟨tv,zQ _⟩,⟨tv,zN _⟩,⟨tv,xD _⟩,(lz rfl),⟨tv,dT _⟩,⟨tv,dS _⟩,⟨tv,dT _⟩,tv,tv,tv,tv⟩ (zD ⟨tv,tv,tv⟩ zA)),tv,(zD ⟨dE _,tv,tv,tv,zN _,tv,tv,tv,tv,zQ _,zN _,xD _,(lz rfl),dT _,dS _,dT _,tv,tv,tv,tv⟩ (zD ⟨tv,tv,tv⟩ zA))⟩
def zWr(t:Nat)(m:zY)(e:xG)(n p:Int)(b:zR)(d:List ByteArray)(a:zR)(c f g q s:Int):Option (Bool×Int×Int):=
 if f==0 then
 if q != 0 then
 none
 else
 some ((f != 0),f,g)
 else
 none
theorem yCk{t m e n p b d a c f g q s r}(h:zWr t m e n p b d a c f g q s=some r):Ct 128 [rD m e (.mp 1 0) (zH zC b .no) (zH xJ d .no) (zH zC a .no) c f g,.cells [ai n,ai p]] [.mp 0 0,ai q,ai s] (ab r.1) [rD m e (.mp 1 0) (zH zC b .no) (zH xJ d .no) (zH zC a .no) c r.2.1 r.2.2,.cells [ai n,ai p]] 0:=⟨by
 unfold zWr at h
 obtain⟨h1,h⟩:=sO h
 have k:=oB 1 h1 o0
 obtain⟨h2,h⟩:=yY h
 cases h
 exact tF ⟨func128,rfl⟩ 2 [0,1] (oD (dT a)<|oD (dS d)<|oD (dT b)<|eP m e.tele_ e.type_.sub_ e.cons_ e.rows_<|oB 0 h2 k),⟨(lz rfl),tv,tv,tv⟩,(zD ⟨⟨tv,dE _⟩,tv,tv,tv,⟨tv,zN _⟩,tv,tv,tv,tv,⟨tv,zQ _⟩,⟨tv,zN _⟩,⟨tv,xD _⟩,(lz rfl),⟨tv,dT _⟩,⟨tv,dS _⟩,⟨tv,dT _⟩,tv,tv,tv,tv⟩ (zD ⟨tv,tv,tv⟩ zA)),tv,(zD ⟨dE _,tv,tv,tv,zN _,tv,tv,tv,tv,zQ _,zN _,xD _,(lz rfl),dT _,dS _,dT _,tv,tv,tv,tv⟩ (zD ⟨tv,tv,tv⟩ zA))⟩
def zKG(t:Nat)(f:zY)(e:xG)(n p:Int)(b:zR)(d:List ByteArray)(a:zR)(c m g:Int)(q:Tm)(s:Int):Option (Tm×Int×Int):=
 zWr t f e n p b d a c m g s e.at_>>=fun r1=>
 some (q,r1.2.1,r1.2.2)
theorem zSw{t f e n p b d a c m g q s r}(h:zKG t f e n p b d a c m g q s=some r):Ct 135 [rD f e (.mp 1 0) (zH zC b .no) (zH xJ d .no) (zH zC a .no) c m g,.cells [ai n,ai p]] [.mp 0 0,yV q,ai s] (yV r.1) [rD f e (.mp 1 0) (zH zC b .no) (zH xJ d .no) (zH zC a .no) c r.2.1 r.2.2,.cells [ai n,ai p]] 0:=⟨by
 unfold zKG at h
 obtain⟨r1,h2,h⟩:=zB h
 cases h
 exact tF ⟨func135,rfl⟩ 2 [0,1] (oD (dT q.sub)<|oD (dT a)<|oD (dS d)<|oD (dT b)<|eP f e.tele_ e.type_.sub_ e.cons_ e.rows_<|oC 1 [0,1] (yCk h2) o0),⟨(lz rfl),⟨tv,tv,⟨tv,dT _⟩,tv⟩,tv,tv⟩,(zD ⟨⟨tv,dE _⟩,tv,tv,tv,⟨tv,zN _⟩,tv,tv,tv,tv,⟨tv,zQ _⟩,⟨tv,zN _⟩,⟨tv,xD _⟩,(lz rfl),⟨tv,dT _⟩,⟨tv,dS _⟩,⟨tv,dT _⟩,tv,tv,tv,tv⟩ (zD ⟨tv,tv,tv⟩ zA)),⟨tv,tv,dT _,tv⟩,(zD ⟨dE _,tv,tv,tv,zN _,tv,tv,tv,tv,zQ _,zN _,xD _,(lz rfl),dT _,dS _,dT _,tv,tv,tv,tv⟩ (zD ⟨tv,tv,tv⟩ zA))⟩
def zWq(c:Nat)(a b:Tm):Option Tm:=
 e45 c 3 0 [a,b]>>=fun r1=>
 some r1
theorem yCj{c a b r}(h:zWq c a b=some r):Ct 189 [] [yV a,yV b] (yV r) [] 0:=⟨by
 unfold zWq at h
 obtain⟨r1,h2,h⟩:=zB h
 obtain rfl:=sj h
 exact tF ⟨func189,rfl⟩ 1 [] (oD (dT r1.sub)<|oC 0 [] (c45 h2)<|oS 2 (wC wL [a,b]) o0),⟨⟨tv,tv,⟨tv,dT _⟩,tv⟩,⟨tv,tv,⟨tv,dT _⟩,tv⟩,tv⟩,zA,⟨tv,tv,dT _,tv⟩,zA⟩
def mC:Nat->zR->Int->Int->Int->zR->Option (Tm×Int)
 |0,_,_,_,_,_=>none
 |e+1,a,g,b,c,d=>
 if decide (g<(a.length:Int))then
 zP a (yN ((yN ((a.length:Int)-1))-g))>>=fun x12=>
 zWq e x12 (Tm.mk b c d)>>=fun r14=>
 mC e a (yN (g+1)) r14.k r14.n r14.sub
 else
 fV e (Tm.mk b c d)>>=fun r16=>
 if r16 then
 e65 e (Tm.mk b c d)>>=fun r19=>
 some (r19,0)
 else
 some ((Tm.mk 0 0 []),2)
def mD:Nat->zR->Tm->Int->Option (Tm×Int)
 |0,_,_,_=>none
 |e+1,a,f,m=>
 if decide (m<(a.length:Int))then
 zP a m>>=fun x3=>
 fV e x3>>=fun r5=>
 if r5 then
 mD e a f (yN (m+1))
 else
 some ((Tm.mk 0 0 []),5)
 else
 fV e f>>=fun r8=>
 if r8 then
 mC e a 0 f.k f.n f.sub
 else
 some ((Tm.mk 0 0 []),5)
def W6(e:Nat)(a:zR)(f:Tm):Option (Tm×Int):=
 if decide ((a.length:Int)>24)then
 some ((Tm.mk 0 0 []),2)
 else
 mD e a f 0
theorem zEC:Qf 188 f188:=⟨func188,rfl⟩
theorem zED:∀e:Nat,(∀ {a g b c d r},mC e a g b c d=some r->(∀j,dL 0 (pt 65461 f188) (sp j 53 0 [(0,zH zC a .no),(2,.clo 189 [] []),(4,.mp 0 0),(6,.mp 1 0),(31,ai (a.length:Int)),(32,ai g)]) (⟨[(0,.cells [ai b,ai c,zH zC d .no]),(1,.cells [ai 0,ai 0,zH zC ([]:zR) .nl])],2,[],0,[]⟩) (fQ 0 (nQ 0 f188 (.tup [yV r.1,ai r.2]) [] 0) [.blk 2,.seq (pt 1023 f188)]))):=by
 intro e
 induction e with
 |zero=>
  exact fun h=>nn h
 |succ e ih=>
  intro a g b c d r h
  rw[mC]at h
  obtain⟨h11,h⟩|⟨h11,h⟩:=zK h
  obtain⟨x12,h13,h⟩:=zB h
  obtain⟨r14,h15,h⟩:=zB h
  exact fun j=>lH 2 [] [0,1] [] [0,2,4,6,31,32] (oD (dT a)<|oD (dT ([]:zR))<|oD (dT r14.sub)<|oC 2 [] (yCj h15)<|oA 3 (xH (o:=.no) h13)<|oB 0 h11 o0) (ih h)
  obtain⟨r16,h17,h⟩:=zB h
  have k:=oB 0 h11 o0
  obtain⟨h18,h⟩|⟨h18,h⟩:=zK h
  obtain⟨r19,h20,h⟩:=zB h
  cases h
  exact fun j=>lF 1 [] (oD (dT r19.sub)<|oC 2 [] (c65 h20)<|oK 1 [] h18 (qW h17) k)
  cases h
  exact fun j=>lF 2 [] (oD (dT ([]:zR))<|oK 1 [] h18 (qW h17) k)
theorem zEE:∀e:Nat,(∀ {a f m r},mD e a f m=some r->(∀j,dL 0 (pt 4021 f188) (sp j 53 0 [(0,zH zC a .no),(2,.clo 189 [] []),(4,.mp 0 0),(6,.mp 1 0),(15,zH zC a .no),(16,ai (a.length:Int)),(17,ai m)]) (⟨[(0,.cells [ai f.k,ai f.n,zH zC f.sub .no]),(1,.cells [ai 0,ai 0,zH zC ([]:zR) .nl])],2,[],0,[]⟩) (fQ 0 (nQ 0 f188 (.tup [yV r.1,ai r.2]) [] 0) [.blk 0,.seq (pt 63 f188)]))):=by
 intro e
 induction e with
 |zero=>
  exact fun h=>nn h
 |succ e ih=>
  intro a f m r h
  rw[mD]at h
  have z {os ob} (k:Oz os ob):=oD (dT a)<|oD (dT ([]:zR))<|oD (dT f.sub)<|k
  obtain⟨h2,h⟩|⟨h2,h⟩:=zK h
  obtain⟨x3,h4,h⟩:=zB h
  obtain⟨r5,h6,h⟩:=zB h
  have k:=oA 0 (xH (o:=.no) h4)<|oB 0 h2 o0
  obtain⟨h7,h⟩|⟨h7,h⟩:=zK h
  exact fun j=>lH 2 [] [0,1] [] [0,2,4,6,15,16,17] (oD (dT a)<|z<|oK 3 [] h7 (qW h6) k) (ih h)
  cases h
  exact fun j=>lF 2 [] (oD (dT ([]:zR))<|oK 3 [] h7 (qW h6) k)
  obtain⟨r8,h9,h⟩:=zB h
  have k:=oB 0 h2 o0
  obtain⟨h10,h⟩|⟨h10,h⟩:=zK h
  exact fun j=>lH 2 [] [0,1] [] [0,2,4,6,31,32] (z<|oK 1 [] h10 (qW h9) k) (zED _ h)
  cases h
  exact fun j=>lF 2 [] (oD (dT ([]:zR))<|oK 1 [] h10 (qW h9) k)
theorem zOn{e a f r}(h:W6 e a f=some r):Ct 188 [] [zH zC a .no,yV f,.clo 189 [] []] (.tup [yV r.1,ai r.2]) [] 0:=⟨by
 unfold W6 at h
 obtain⟨h1,h⟩|⟨h1,h⟩:=zK h
 cases h
 exact tF zEC 1 [] (oD (dT ([]:zR))<|oB 1 h1 o0)
 exact tH zEC 1 [] [0,1] [] [0,2,4,6,15,16,17] (oD (dT a)<|oD (dT a)<|oD (dT ([]:zR))<|oD (dT f.sub)<|oB 1 h1 o0) (zEE _ h),⟨⟨tv,dT _⟩,⟨tv,tv,⟨tv,dT _⟩,tv⟩,⟨tv,tv⟩,tv⟩,zA,⟨⟨tv,tv,dT _,tv⟩,tv,tv⟩,zA⟩
def zOm(c:Nat)(a:zR)(b:Tm):Option (Tm×Int):=
 W6 c a b>>=fun r1=>
 some (r1.1,r1.2)
theorem zWp{c a b r}(h:zOm c a b=some r):Ct 136 [] [zH zC a .no,yV b] (.tup [yV r.1,ai r.2]) [] 0:=⟨by
 unfold zOm at h
 obtain⟨r1,h2,h⟩:=zB h
 cases h
 exact tF ⟨func136,rfl⟩ 3 [] (oD (dT r1.1.sub)<|oC 1 [] (zOn h2) o0),⟨⟨tv,dT _⟩,⟨tv,tv,⟨tv,dT _⟩,tv⟩,tv⟩,zA,⟨⟨tv,tv,dT _,tv⟩,tv,tv⟩,zA⟩
def zBN(b:Nat)(a:zR)(c d:Int):Option Unit:=
 if decide (c<d)then
 none
 else
 some ()
def zWo(b:Nat)(a:zR):Option Unit:=
 zBN b a 0 (yN ((a.length:Int)-1))
theorem zSv{b a c d r}(h:zBN b a c d=some r):(∀j,dL 0 (pt 53 f208) (sp j 28 0 [(0,zH zC a .no),(2,ai c),(3,ai d)]) (⟨[],0,[],0,[]⟩) (fQ 0 (nQ 0 f208 (.tup []) [] 0) [.blk 0])):=by
 unfold zBN at h
 obtain⟨h1,h⟩:=yY h
 cases h
 exact fun j=>lF 0 [] (oB 0 h1 o0)
theorem yCi{b a r}(h:zWo b a=some r):Ct 208 [] [zH zC a .no] (.tup []) [] 0:=⟨by
 unfold zWo at h
 exact tH ⟨func208,rfl⟩ 2 [] [] [] [0,2,3] (oD (dT a) o0) (zSv h),⟨⟨tv,dT _⟩,tv⟩,zA,tv,zA⟩
def iX(c:Nat)(b:zR)(d e:Int)(a:zR):Option zR:=
 if decide (d<e)then
 none
 else
 some a
def W7(c:Nat)(b:zR):Option zR:=
 iX c b 0 (yN ((b.length:Int)-1)) b
theorem zEF{c b d e a r}(h:iX c b d e a=some r):(∀j,dL 1 (pt 53 f208) (sp j 28 0 [(0,.ms 0 0 b.length b.length 3),(2,ai d),(3,ai e)]) (⟨[(0,.row (zG zC a))],1,[],0,[]⟩) (fQ 1 (nQ 1 f208 (.tup []) [.row (zG zC r)] 0) [.blk 0])):=by
 unfold iX at h
 obtain⟨h1,h⟩:=yY h
 obtain rfl:=sj h
 exact fun j=>lF 0 [0] (oD (dT a)<|oB 0 h1 o0)
theorem zOl{c b r}(h:W7 c b=some r):Ct 208 [.row (zG zC b)] [.ms 0 0 b.length b.length 3] (.tup []) [.row (zG zC r)] 0:=⟨by
 unfold W7 at h
 exact tH ⟨func208,rfl⟩ 2 [] [0] [] [0,2,3] (oD (dT b) o0) (zEF h),⟨(lz rfl),tv⟩,(zD (dT _) zA),tv,(zD (dT _) zA)⟩
def zSu(b:Nat)(a:zR):Option ((Unit) ⊕ zR):=
 zFK b a>>=fun r1=>
 match r1 with
 | .inl y3=>
  zWo b []>>=fun r4=>
  some (.inl ())
 | .inr y6=>
  W7 b y6>>=fun r7=>
  gfz y6.length r7>>=fun l9=>
  some (.inr l9)
abbrev zWn (a:zR) (C:Cf):Prop:=C 236 [] [zH zC a .no] (zH zC ([]:zR) .full) [] 0
abbrev zWm (a r:zR) (C:Cf):Prop:=C 236 [] [zH zC a .no] (.ms 0 0 r.length r.length 3) [.row (zG zC r)] 0
theorem zZI:Qf 236 f236:=⟨func236,rfl⟩
theorem zZJ{b a r}(h:zSu b a=some r):(match (generalizing:=false) r with | .inl x=>zWn a Ct | .inr x=>zWm a x Ct):=by
 unfold zSu at h
 obtain⟨r1,h2,h⟩:=zB h
 rcases r1 with y3|y6
 dsimp only at h
 obtain⟨r4,h5,h⟩:=zB h
 cases h
 exact⟨tG zZI 0 [] [] [] true (oD (dT ([]:zR))<|oC 0 [] (yCi h5)<|oC 0 [] (zMG h2) o0),⟨⟨tv,dT _⟩,tv⟩,zA,dT _,zA⟩
 dsimp only at h
 obtain⟨r7,h8,h⟩:=zB h
 obtain⟨l9,h10,h⟩:=zB h
 obtain⟨h10a,h10b⟩:=P5 h10
 cases h
 obtain rfl:=h10a.symm
 try dsimp only
 exact⟨by rw[←h10b];exact(tF zZI 0 [0] (oD (dT r7)<|oC 0 [0] (zOl h8)<|oC 0 [] (zMG h2) o0)),⟨⟨tv,dT _⟩,tv⟩,zA,(lz rfl),(zD (dT _) zA)⟩
theorem zZK{b a r}(h:zSu b a=some r):(match (generalizing:=false) r with | .inl x=>CT prog 236 [] [zH zC a .no] (zH zC ([]:zR) .full) [] 0 | .inr x=>CT prog 236 [] [zH zC a .no] (.sl (zG zC x) x.length .no) [] 0):=by
 have k:=zZJ h
 rcases r with y0|y1
 ·exact k
 ·exact CT.freeze (H1:=[]) (cs:=zG zC y1) (res':=(.sl (zG zC y1) y1.length .no)) k (Nat.le_of_ble_eq_true rfl) zA (dT _) (.inl ⟨rfl,rfl⟩) (by rfl) rfl
def zWl(a:Nat)(b:Tm)(c:zR):Option (Tm×Int):=
 zSu a c>>=fun r1=>
 match r1 with
 | .inl y3=>
  e24 a b []>>=fun r4=>
  some (r4.1,r4.2)
 | .inr y6=>
  e24 a b y6>>=fun r7=>
  some (r7.1,r7.2)
theorem zZL:Qf 191 f191:=⟨func191,rfl⟩
theorem yCh{a b c r}(h:zWl a b c=some r):Ct 191 [] [yV b,zH zC c .no] (.tup [yV r.1,ai r.2]) [] 0:=⟨by
 unfold zWl at h
 obtain⟨r1,h2,h⟩:=zB h
 rcases r1 with y3|y6
 dsimp only at h
 obtain⟨r4,h5,h⟩:=zB h
 cases h
 exact tF zZL 3 [] (oD (dT r4.1.sub)<|oC 0 [] (c24 h5)<|oC 1 [] (zZK h2) o0)
 dsimp only at h
 obtain⟨r7,h8,h⟩:=zB h
 cases h
 exact tF zZL 3 [] (oD (dT r7.1.sub)<|oC 0 [] (c24 h8)<|oC 1 [] (zZK h2) o0),⟨⟨tv,tv,⟨tv,dT _⟩,tv⟩,⟨tv,dT _⟩,tv⟩,zA,⟨⟨tv,tv,dT _,tv⟩,tv,tv⟩,zA⟩
def M1:Nat->zY->xG->Int->Int->zR->List ByteArray->zR->Int->Int->Int->Int->Int->Tm->zR->Int->zR->Option (yE×Int×Int)
 |0,_,_,_,_,_,_,_,_,_,_,_,_,_,_,_,_=>none
 |p+1,f,e,q,s,b,d,a,c,m,g,u,t,r5,x12,v,w=>
 if decide (v<t)then
 e22 p (yN ((yN (u+2))+v))>>=fun r15=>
 e21 p r15 x12>>=fun r17=>
 e51 p 0>>=fun r19=>
 e23 p r17 r19>>=fun r21=>
 xB 40 w [r21]>>=fun l23=>
 M1 p f e q s b d a c m g u t r5 x12 (yN (v+1)) l23
 else
 zP a t>>=fun x25=>
 zWl p x25 w>>=fun r27=>
 zKG p f e q s b d a c m g r27.1 r27.2>>=fun r29=>
 nE b 0 (b.length:Int)>>=fun x31=>
 xB 40 x31 [r5]>>=fun l33=>
 zOm p l33 r29.1>>=fun r35=>
 zKG p f e q s b d a c r29.2.1 r29.2.2 r35.1 r35.2>>=fun r37=>
 zP e.cons_ t>>=fun x39=>
 some ((yE.mk 4 x39.name_ r37.1 (Tm.mk 0 0 []) u t (b.length:Int) 0 0 [] []),r37.2.1,r37.2.2)
def zBO(p:Nat)(f:zY)(e:xG)(q s:Int)(b:zR)(d:List ByteArray)(a:zR)(c m g u t:Int)(r5:Tm)(y:Int)(w:zR):Option (yE×Int×Int):=
 if decide (y<(b.length:Int))then
 none
 else
 nE w 0 (b.length:Int)>>=fun x12=>
 M1 p f e q s b d a c m g u t r5 x12 0 w
def zSt(p:Nat)(f:zY)(e:xG)(q s:Int)(b:zR)(d:List ByteArray)(a:zR)(c m g u t:Int):Option (yE×Int×Int):=
 e22 p u>>=fun r1=>
 zJS p (b.length:Int)>>=fun r3=>
 e21 p r1 r3>>=fun r5=>
 zBO p f e q s b d a c m g u t r5 0 []
theorem zSs:∀p:Nat,(∀ {f e q s b d a c m g u t r5 x12 v w r},M1 p f e q s b d a c m g u t r5 x12 v w=some r->(∀j,dL 2 (pt 1048501 f137) (sp j 101 0 [(0,.mp 0 0),(1,ai u),(2,ai t),(6,.mp 2 0),(7,ai (b.length:Int)),(8,.mp 3 0),(9,zH zC w (.st 0 3)),(11,zH zC x12 .full),(41,ai t),(42,ai v)]) (⟨[(0,rD f e (.mp 1 0) (zH zC b .no) (zH xJ d .no) (zH zC a .no) c m g),(1,.cells [ai q,ai s]),(2,.cells [ai 0,at' (⟨#[]⟩:ByteArray),ai 0,ai 0,zH zC ([]:zR) .nl,ai 0,ai 0,zH zC ([]:zR) .nl,ai 0,ai 0,ai 0,ai 0,ai 0,zH zU ([]:yD) .nl,zH zU ([]:yD) .nl]),(3,.cells [ai r5.k,ai r5.n,zH zC r5.sub .no])],4,[0],1,[]⟩) (fQ 2 (nQ 2 f137 (zTu r.1) [rD f e (.mp 1 0) (zH zC b .no) (zH xJ d .no) (zH zC a .no) c r.2.1 r.2.2,.cells [ai q,ai s]] 0) [.blk 2,.seq (pt 16383 f137)]))):=by
 intro p
 induction p with
 |zero=>
  exact fun h=>nn h
 |succ p ih=>
  intro f e q s b d a c m g u t r5 x12 v w r h
  rw[M1]at h
  obtain⟨h14,h⟩|⟨h14,h⟩:=zK h
  obtain⟨r15,h16,h⟩:=zB h
  obtain⟨r17,h18,h⟩:=zB h
  obtain⟨r19,h20,h⟩:=zB h
  obtain⟨r21,h22,h⟩:=zB h
  obtain⟨l23,h24,h⟩:=zB h
  exact fun j=>lH 1 [] [0,1,2,3] [1] [0,1,2,6,7,8,9,11,41,42] (oD (dT x12)<|oD (dT l23)<|oD (dT r5.sub)<|oD (dI ([]:yD))<|oD (dI ([]:yD))<|oD (dT ([]:zR))<|oD (dT ([]:zR))<|oD (dT a)<|oD (dS d)<|oD (dT b)<|eP f e.tele_ e.type_.sub_ e.cons_ e.rows_<|oP 0 (vF h24 (by simp))<|oS 0 (wC wL [r21])<|oC 0 [] (c23 h22)<|oC 0 [] (c51 h20)<|oC 0 [] (c21 h18)<|oC 2 [] (c22 h16)<|oB 0 h14 o0) (ih h)
  obtain⟨x25,h26,h⟩:=zB h
  obtain⟨r27,h28,h⟩:=zB h
  obtain⟨r29,h30,h⟩:=zB h
  obtain⟨x31,h32,h⟩:=zB h
  obtain⟨l33,h34,h⟩:=zB h
  obtain⟨r35,h36,h⟩:=zB h
  obtain⟨r37,h38,h⟩:=zB h
  obtain⟨x39,h40,h⟩:=zB h
  cases h
  exact fun j=>lF 3 [0,1] (oD (dI ([]:yD))<|oD (dI ([]:yD))<|oD (dT ([]:zR))<|oD (dT r37.1.sub)<|oD (dT a)<|oD (dS d)<|oD (dT b)<|eP f e.tele_ e.type_.sub_ e.cons_ e.rows_<|oA 2 (zCO (o:=.no) h40)<|oC 2 [0,1] (zSw h38)<|oC 1 [] (zWp h36)<|oP 0 (vF h34 (by simp))<|oS 1 (wC wL [r5])<|oA 2 (cZ (o:=.no) h32)<|oC 2 [0,1] (zSw h30)<|oC 1 [] (yCh h28)<|oA 1 (xH (o:=.no) h26)<|oB 0 h14 o0)
theorem zSr{p f e q s b d a c m g u t r5 y w r}(h:zBO p f e q s b d a c m g u t r5 y w=some r):(∀j,dL 2 (pt 65461 f137) (sp j 101 0 [(0,.mp 0 0),(1,ai u),(2,ai t),(6,.mp 2 0),(7,ai (b.length:Int)),(8,.mp 3 0),(9,zH zC w (.st 0 3)),(25,ai (b.length:Int)),(26,ai y)]) (⟨[(0,rD f e (.mp 1 0) (zH zC b .no) (zH xJ d .no) (zH zC a .no) c m g),(1,.cells [ai q,ai s]),(2,.cells [ai 0,at' (⟨#[]⟩:ByteArray),ai 0,ai 0,zH zC ([]:zR) .nl,ai 0,ai 0,zH zC ([]:zR) .nl,ai 0,ai 0,ai 0,ai 0,ai 0,zH zU ([]:yD) .nl,zH zU ([]:yD) .nl]),(3,.cells [ai r5.k,ai r5.n,zH zC r5.sub .no])],4,[0],1,[]⟩) (fQ 2 (nQ 2 f137 (zTu r.1) [rD f e (.mp 1 0) (zH zC b .no) (zH xJ d .no) (zH zC a .no) c r.2.1 r.2.2,.cells [ai q,ai s]] 0) [.blk 0,.seq (pt 1023 f137)])):=by
 unfold zBO at h
 obtain⟨h7,h⟩:=yY h
 obtain⟨x12,h13,h⟩:=zB h
 exact fun j=>lH 0 [] [0,1,2,3] [0] [0,1,2,6,7,8,9,11,41,42] (oD (dT x12)<|oD (dT w)<|oD (dT r5.sub)<|oD (dI ([]:yD))<|oD (dI ([]:yD))<|oD (dT ([]:zR))<|oD (dT ([]:zR))<|oD (dT a)<|oD (dS d)<|oD (dT b)<|eP f e.tele_ e.type_.sub_ e.cons_ e.rows_<|oA 0 (cZ (o:=(.st 0 3)) h13)<|oB 0 h7 o0) (zSs _ h)
theorem zZM{p f e q s b d a c m g u t r}(h:zSt p f e q s b d a c m g u t=some r):Ct 137 [rD f e (.mp 1 0) (zH zC b .no) (zH xJ d .no) (zH zC a .no) c m g,.cells [ai q,ai s]] [.mp 0 0,ai u,ai t] (zTu r.1) [rD f e (.mp 1 0) (zH zC b .no) (zH xJ d .no) (zH zC a .no) c r.2.1 r.2.2,.cells [ai q,ai s]] 0:=⟨by
 unfold zSt at h
 obtain⟨r1,h2,h⟩:=zB h
 obtain⟨r3,h4,h⟩:=zB h
 obtain⟨r5,h6,h⟩:=zB h
 exact tH ⟨func137,rfl⟩ 1 [(none,9,3)] [0,1,2,3] [0] [0,1,2,6,7,8,9,25,26] (oD (dT ([]:zR))<|oD (dT r5.sub)<|oD (dI ([]:yD))<|oD (dI ([]:yD))<|oD (dT ([]:zR))<|oD (dT ([]:zR))<|oD (dT a)<|oD (dS d)<|oD (dT b)<|eP f e.tele_ e.type_.sub_ e.cons_ e.rows_<|oC 0 [] (c21 h6)<|oC 0 [] (zYj h4)<|oC 2 [] (c22 h2) o0) (zSr h),⟨(lz rfl),tv,tv,tv⟩,(zD ⟨⟨tv,dE _⟩,tv,tv,tv,⟨tv,zN _⟩,tv,tv,tv,tv,⟨tv,zQ _⟩,⟨tv,zN _⟩,⟨tv,xD _⟩,(lz rfl),⟨tv,dT _⟩,⟨tv,dS _⟩,⟨tv,dT _⟩,tv,tv,tv,tv⟩ (zD ⟨tv,tv,tv⟩ zA)),⟨tv,tv,tv,tv,dT _,tv,tv,dT _,tv,tv,tv,tv,tv,dI _,dI _,tv⟩,(zD ⟨dE _,tv,tv,tv,zN _,tv,tv,tv,tv,zQ _,zN _,xD _,(lz rfl),dT _,dS _,dT _,tv,tv,tv,tv⟩ (zD ⟨tv,tv,tv⟩ zA))⟩
def iY(q:Nat)(b:zY)(d:xG)(g m:Int)(c:List ByteArray)(e f:Tm)(a:Int)(r5:Tm×Int×Int)(r9:ByteArray)(r17:Tm×Int×Int)(r21:yE×Int×Int)(l23:yD)(r25:yE×Int×Int):Option (zY×Int×Int):=
 gfz (List.length [(yE.mk 1 d.name_ r5.1 (Tm.mk 0 0 []) 0 0 0 0 a [(yN ((b.length:Int)+1))] l23),(yE.mk 2 r9 r17.1 (Tm.mk 0 0 []) (b.length:Int) 0 0 0 0 [] []),r21.1,r25.1]) [(yE.mk 1 d.name_ r5.1 (Tm.mk 0 0 []) 0 0 0 0 a [(yN ((b.length:Int)+1))] l23),(yE.mk 2 r9 r17.1 (Tm.mk 0 0 []) (b.length:Int) 0 0 0 0 [] []),r21.1,r25.1]>>=fun l27=>
 some (l27,r25.2.1,r25.2.2)
def iZ(q:Nat)(b:zY)(d:xG)(g m:Int)(c:List ByteArray)(e f:Tm)(a:Int)(r5:Tm×Int×Int)(r9:ByteArray)(r17:Tm×Int×Int)(l19:yD)(r21:yE×Int×Int):Option (zY×Int×Int):=
 xB 8 l19 [(yN ((yN ((b.length:Int)+2))+1))]>>=fun l23=>
 zSt q b d g m [] c [e,f] a r21.2.1 r21.2.2 (b.length:Int) 1>>=fun r25=>
 iY q b d g m c e f a r5 r9 r17 r21 l23 r25
def hJ(q:Nat)(b:zY)(d:xG)(g m:Int)(c:List ByteArray)(e f:Tm)(a:Int)(r5:Tm×Int×Int)(r9:ByteArray)(r17:Tm×Int×Int):Option (zY×Int×Int):=
 xB 8 ([]:yD) [(yN ((yN ((b.length:Int)+2))+0))]>>=fun l19=>
 zSt q b d g m [] c [e,f] a r17.2.1 r17.2.2 (b.length:Int) 0>>=fun r21=>
 iZ q b d g m c e f a r5 r9 r17 l19 r21
def hU(q:Nat)(b:zY)(d:xG)(g m:Int)(c:List ByteArray)(e f:Tm)(a:Int)(r5:Tm×Int×Int)(r7:Tm):Option (zY×Int×Int):=
 zRR q d.name_>>=fun r9=>
 nE [] 0 0>>=fun x11=>
 xB 40 x11 [e,f]>>=fun l13=>
 zOm q l13 r7>>=fun r15=>
 zKG q b d g m [] c [e,f] a r5.2.1 r5.2.2 r15.1 r15.2>>=fun r17=>
 hJ q b d g m c e f a r5 r9 r17
def zIf(q:Nat)(b:zY)(d:xG)(g m:Int)(c:List ByteArray)(e f:Tm)(a s p:Int):Option (zY×Int×Int):=
 e89 q a>>=fun r1=>
 zOm q [] r1>>=fun r3=>
 zKG q b d g m [] c [e,f] a s p r3.1 r3.2>>=fun r5=>
 e22 q (b.length:Int)>>=fun r7=>
 hU q b d g m c e f a r5 r7
abbrev zZN (b:zY) (d:xG) (g m:Int) (c:List ByteArray) (e f:Tm) (a s p:Int) (r:zY×Int×Int) (C:Cf):Prop:=C 77 [rD b d (.mp 1 0) (zH zC ([]:zR) .no) (zH xJ c .no) (zH zC [e,f] .no) a s p,.cells [ai g,ai m]] [.mp 0 0] (.ms 2 0 r.1.length r.1.length 15) [rD b d (.mp 1 0) (zH zC ([]:zR) .no) (zH xJ c .no) (zH zC [e,f] .no) a r.2.1 r.2.2,.cells [ai g,ai m],.row (zG yA r.1)] 0
theorem zEG{q b d g m c e f a r5 r9 r17 r21 l23 r25 r}(h:iY q b d g m c e f a r5 r9 r17 r21 l23 r25=some r):(∀j,dL 2 (pt 67108789 f77) (sp j 129 0 [(0,.mp 0 0),(3,ai (b.length:Int)),(10,.ms 2 0 4 4 15),(103,ai 2),(104,ai 2)]) (⟨[(0,rD b d (.mp 1 0) (zH zC ([]:zR) .no) (zH xJ c .no) (zH zC [e,f] .no) a r25.2.1 r25.2.2),(1,.cells [ai g,ai m]),(2,.cells [ai 1,at' d.name_,ai r5.1.k,ai r5.1.n,zH zC r5.1.sub .no,ai 0,ai 0,zH zC ([]:zR) .nl,ai 0,ai 0,ai 0,ai 0,ai a,zH zU [(yN ((b.length:Int)+1))] .full,zH zU l23 (.st 0 1),ai 2,at' r9,ai r17.1.k,ai r17.1.n,zH zC r17.1.sub .no,ai 0,ai 0,zH zC ([]:zR) .nl,ai (b.length:Int),ai 0,ai 0,ai 0,ai 0,zH zU ([]:yD) .nl,zH zU ([]:yD) .nl,ai r21.1.kind,at' r21.1.name,ai r21.1.type.k,ai r21.1.type.n,zH zC r21.1.type.sub .no,ai r21.1.body.k,ai r21.1.body.n,zH zC r21.1.body.sub .no,ai r21.1.fam,ai r21.1.place,ai r21.1.pars,ai r21.1.inds,ai r21.1.level,zH zU r21.1.cons .no,zH zU r21.1.fields .no,ai r25.1.kind,at' r25.1.name,ai r25.1.type.k,ai r25.1.type.n,zH zC r25.1.type.sub .no,ai r25.1.body.k,ai r25.1.body.n,zH zC r25.1.body.sub .no,ai r25.1.fam,ai r25.1.place,ai r25.1.pars,ai r25.1.inds,ai r25.1.level,zH zU r25.1.cons .no,zH zU r25.1.fields .no])],3,[0],1,[]⟩) (fQ 2 (nQ 2 f77 (.ms 2 0 r.1.length r.1.length 15) [rD b d (.mp 1 0) (zH zC ([]:zR) .no) (zH xJ c .no) (zH zC [e,f] .no) a r.2.1 r.2.2,.cells [ai g,ai m],.row (zG yA r.1)] 0) [.blk 2,.seq (pt 1048575 f77)])):=by
 unfold iY at h
 obtain⟨l27,h28,h⟩:=zB h
 obtain⟨h28a,h28b⟩:=P5 h28
 cases h
 obtain rfl:=h28a.symm
 try dsimp only
 rw[←h28b]
 exact fun j=>lG 1 [(some 2,1,8192)] [0,1,2] [] false (oD (dE [(yE.mk 1 d.name_ r5.1 (Tm.mk 0 0 []) 0 0 0 0 a [(yN ((b.length:Int)+1))] l23),(yE.mk 2 r9 r17.1 (Tm.mk 0 0 []) (b.length:Int) 0 0 0 0 [] []),r21.1,r25.1])<|oD (dT [e,f])<|oD (dS c)<|oD (dT ([]:zR))<|oD (xD d.rows_)<|oD (zN d.cons_)<|oD (zQ d.type_.sub_)<|oD (zN d.tele_)<|oD (dE b) o0)
theorem zEH{q b d g m c e f a r5 r9 r17 l19 r21 r}(h:iZ q b d g m c e f a r5 r9 r17 l19 r21=some r):(∀j,dL 2 (pt 67108789 f77) (sp j 129 0 [(0,.mp 0 0),(3,ai (b.length:Int)),(10,.ms 2 0 3 3 15),(103,ai 2),(104,ai 1)]) (⟨[(0,rD b d (.mp 1 0) (zH zC ([]:zR) .no) (zH xJ c .no) (zH zC [e,f] .no) a r21.2.1 r21.2.2),(1,.cells [ai g,ai m]),(2,.cells [ai 1,at' d.name_,ai r5.1.k,ai r5.1.n,zH zC r5.1.sub .no,ai 0,ai 0,zH zC ([]:zR) .nl,ai 0,ai 0,ai 0,ai 0,ai a,zH zU [(yN ((b.length:Int)+1))] .full,zH zU l19 (.st 0 1),ai 2,at' r9,ai r17.1.k,ai r17.1.n,zH zC r17.1.sub .no,ai 0,ai 0,zH zC ([]:zR) .nl,ai (b.length:Int),ai 0,ai 0,ai 0,ai 0,zH zU ([]:yD) .nl,zH zU ([]:yD) .nl,ai r21.1.kind,at' r21.1.name,ai r21.1.type.k,ai r21.1.type.n,zH zC r21.1.type.sub .no,ai r21.1.body.k,ai r21.1.body.n,zH zC r21.1.body.sub .no,ai r21.1.fam,ai r21.1.place,ai r21.1.pars,ai r21.1.inds,ai r21.1.level,zH zU r21.1.cons .no,zH zU r21.1.fields .no])],3,[0],1,[]⟩) (fQ 2 (nQ 2 f77 (.ms 2 0 r.1.length r.1.length 15) [rD b d (.mp 1 0) (zH zC ([]:zR) .no) (zH xJ c .no) (zH zC [e,f] .no) a r.2.1 r.2.2,.cells [ai g,ai m],.row (zG yA r.1)] 0) [.blk 2,.seq (pt 1048575 f77)])):=by
 unfold iZ at h
 obtain⟨l23,h24,h⟩:=zB h
 obtain⟨r25,h26,h⟩:=zB h
 exact fun j=>lH 1 [(some 3,0,8192)] [0,1,3] [1] [0,3,10,103,104] (oD (dI r25.1.fields)<|oD (dI r25.1.cons)<|oD (dT r25.1.body.sub)<|oD (dT r25.1.type.sub)<|oD (dI r21.1.fields)<|oD (dI r21.1.cons)<|oD (dT r21.1.body.sub)<|oD (dT r21.1.type.sub)<|oD (dI ([]:yD))<|oD (dI ([]:yD))<|oD (dT ([]:zR))<|oD (dT r17.1.sub)<|oD (dI l23)<|oD (dI [(yN ((b.length:Int)+1))])<|oD (dT ([]:zR))<|oD (dT r5.1.sub)<|oD (dT [e,f])<|oD (dS c)<|oD (dT ([]:zR))<|eP b d.tele_ d.type_.sub_ d.cons_ d.rows_<|oMc 1 (zLD [ai 1,at' d.name_,ai r5.1.k,ai r5.1.n,zH zC r5.1.sub .no,ai 0,ai 0,zH zC ([]:zR) .nl,ai 0,ai 0,ai 0,ai 0,ai a,zH zU [(yN ((b.length:Int)+1))] .full,zH zU l23 (.st 1 1),ai 2,at' r9,ai r17.1.k,ai r17.1.n,zH zC r17.1.sub .no,ai 0,ai 0,zH zC ([]:zR) .nl,ai (b.length:Int),ai 0,ai 0,ai 0,ai 0,zH zU ([]:yD) .nl,zH zU ([]:yD) .nl,ai r21.1.kind,at' r21.1.name,ai r21.1.type.k,ai r21.1.type.n,zH zC r21.1.type.sub .no,ai r21.1.body.k,ai r21.1.body.n,zH zC r21.1.body.sub .no,ai r21.1.fam,ai r21.1.place,ai r21.1.pars,ai r21.1.inds,ai r21.1.level,zH zU r21.1.cons .no,zH zU r21.1.fields .no,ai r25.1.kind,at' r25.1.name,ai r25.1.type.k,ai r25.1.type.n,zH zC r25.1.type.sub .no,ai r25.1.body.k,ai r25.1.body.n,zH zC r25.1.body.sub .no,ai r25.1.fam,ai r25.1.place,ai r25.1.pars,ai r25.1.inds,ai r25.1.level,zH zU r25.1.cons .no,zH zU r25.1.fields .no] 4)<|oC 2 [0,1] (zZM h26)<|oP 6 (tN h24 (by simp)) o0) (zEG h)
theorem zEI{q b d g m c e f a r5 r9 r17 r}(h:hJ q b d g m c e f a r5 r9 r17=some r):(∀j,dL 2 (pt 67108789 f77) (sp j 129 0 [(0,.mp 0 0),(3,ai (b.length:Int)),(10,.ms 2 0 2 2 15),(103,ai 2),(104,ai 0)]) (⟨[(0,rD b d (.mp 1 0) (zH zC ([]:zR) .no) (zH xJ c .no) (zH zC [e,f] .no) a r17.2.1 r17.2.2),(1,.cells [ai g,ai m]),(2,.cells [ai 1,at' d.name_,ai r5.1.k,ai r5.1.n,zH zC r5.1.sub .no,ai 0,ai 0,zH zC ([]:zR) .nl,ai 0,ai 0,ai 0,ai 0,ai a,zH zU [(yN ((b.length:Int)+1))] .full,zH zU ([]:yD) .nl,ai 2,at' r9,ai r17.1.k,ai r17.1.n,zH zC r17.1.sub .no,ai 0,ai 0,zH zC ([]:zR) .nl,ai (b.length:Int),ai 0,ai 0,ai 0,ai 0,zH zU ([]:yD) .nl,zH zU ([]:yD) .nl])],3,[],0,[]⟩) (fQ 2 (nQ 2 f77 (.ms 2 0 r.1.length r.1.length 15) [rD b d (.mp 1 0) (zH zC ([]:zR) .no) (zH xJ c .no) (zH zC [e,f] .no) a r.2.1 r.2.2,.cells [ai g,ai m],.row (zG yA r.1)] 0) [.blk 2,.seq (pt 1048575 f77)])):=by
 unfold hJ at h
 obtain⟨l19,h20,h⟩:=zB h
 obtain⟨r21,h22,h⟩:=zB h
 exact fun j=>lH 1 [(some 3,0,8192)] [0,1,3] [0] [0,3,10,103,104] (oD (dI r21.1.fields)<|oD (dI r21.1.cons)<|oD (dT r21.1.body.sub)<|oD (dT r21.1.type.sub)<|oD (dI ([]:yD))<|oD (dI ([]:yD))<|oD (dT ([]:zR))<|oD (dT r17.1.sub)<|oD (dI l19)<|oD (dI [(yN ((b.length:Int)+1))])<|oD (dT ([]:zR))<|oD (dT r5.1.sub)<|oD (dT [e,f])<|oD (dS c)<|oD (dT ([]:zR))<|eP b d.tele_ d.type_.sub_ d.cons_ d.rows_<|oMc 1 (zLD [ai 1,at' d.name_,ai r5.1.k,ai r5.1.n,zH zC r5.1.sub .no,ai 0,ai 0,zH zC ([]:zR) .nl,ai 0,ai 0,ai 0,ai 0,ai a,zH zU [(yN ((b.length:Int)+1))] .full,zH zU l19 (.st 0 1),ai 2,at' r9,ai r17.1.k,ai r17.1.n,zH zC r17.1.sub .no,ai 0,ai 0,zH zC ([]:zR) .nl,ai (b.length:Int),ai 0,ai 0,ai 0,ai 0,zH zU ([]:yD) .nl,zH zU ([]:yD) .nl,ai r21.1.kind,at' r21.1.name,ai r21.1.type.k,ai r21.1.type.n,zH zC r21.1.type.sub .no,ai r21.1.body.k,ai r21.1.body.n,zH zC r21.1.body.sub .no,ai r21.1.fam,ai r21.1.place,ai r21.1.pars,ai r21.1.inds,ai r21.1.level,zH zU r21.1.cons .no,zH zU r21.1.fields .no] 3)<|oC 2 [0,1] (zZM h22)<|oP 6 (tN h20 (by simp)) o0) (zEH h)
theorem zEJ{q b d g m c e f a r5 r7 r}(h:hU q b d g m c e f a r5 r7=some r):(∀j,dL 2 (pt 262069 f77) (sp j 129 0 [(0,.mp 0 0),(3,ai (b.length:Int)),(4,ai 0),(5,ai 2),(6,.mp 2 0),(7,.mp 3 0),(58,ai 0),(59,ai 0)]) (⟨[(0,rD b d (.mp 1 0) (zH zC ([]:zR) .no) (zH xJ c .no) (zH zC [e,f] .no) a r5.2.1 r5.2.2),(1,.cells [ai g,ai m]),(2,.cells [ai 1,at' d.name_,ai r5.1.k,ai r5.1.n,zH zC r5.1.sub .no,ai 0,ai 0,zH zC ([]:zR) .nl,ai 0,ai 0,ai 0,ai 0,ai a,zH zU [(yN ((b.length:Int)+1))] .full,zH zU ([]:yD) .nl]),(3,.cells [ai r7.k,ai r7.n,zH zC r7.sub .no])],4,[],0,[]⟩) (fQ 2 (nQ 2 f77 (.ms 2 0 r.1.length r.1.length 15) [rD b d (.mp 1 0) (zH zC ([]:zR) .no) (zH xJ c .no) (zH zC [e,f] .no) a r.2.1 r.2.2,.cells [ai g,ai m],.row (zG yA r.1)] 0) [.blk 0,.seq (pt 4095 f77)])):=by
 unfold hU at h
 obtain⟨r9,h10,h⟩:=zB h
 obtain⟨x11,h12,h⟩:=zB h
 obtain⟨l13,h14,h⟩:=zB h
 obtain⟨r15,h16,h⟩:=zB h
 obtain⟨r17,h18,h⟩:=zB h
 exact fun j=>lH 0 [(some 5,0,8192)] [0,1,5] [] [0,3,10,103,104] (oD (dI ([]:yD))<|oD (dI ([]:yD))<|oD (dT ([]:zR))<|oD (dT r17.1.sub)<|oD (dI ([]:yD))<|oD (dI [(yN ((b.length:Int)+1))])<|oD (dT ([]:zR))<|oD (dT r5.1.sub)<|oD (dT [e,f])<|oD (dS c)<|oD (dT ([]:zR))<|eP b d.tele_ d.type_.sub_ d.cons_ d.rows_<|oMc 3 (zLD [ai 1,at' d.name_,ai r5.1.k,ai r5.1.n,zH zC r5.1.sub .no,ai 0,ai 0,zH zC ([]:zR) .nl,ai 0,ai 0,ai 0,ai 0,ai a,zH zU [(yN ((b.length:Int)+1))] .full,zH zU ([]:yD) .nl,ai 2,at' r9,ai r17.1.k,ai r17.1.n,zH zC r17.1.sub .no,ai 0,ai 0,zH zC ([]:zR) .nl,ai (b.length:Int),ai 0,ai 0,ai 0,ai 0,zH zU ([]:yD) .nl,zH zU ([]:yD) .nl] 2)<|oC 2 [0,1] (zSw h18)<|oC 1 [] (zWp h16)<|oP 1 (vF h14 (by simp))<|oA 2 (cZ (o:=.no) h12)<|oC 2 [] (zZA h10) o0) (zEI h)
theorem zWk{q b d g m c e f a s p r}(h:zIf q b d g m c e f a s p=some r):zZN b d g m c e f a s p r Ct:=by
 unfold zIf at h
 obtain⟨r1,h2,h⟩:=zB h
 obtain⟨r3,h4,h⟩:=zB h
 obtain⟨r5,h6,h⟩:=zB h
 obtain⟨r7,h8,h⟩:=zB h
 exact⟨tH ⟨func77,rfl⟩ 1 [] [0,1,2,3] [] [0,3,4,5,6,7,58,59] (oD (dT r7.sub)<|oD (dI ([]:yD))<|oD (dI [(yN ((b.length:Int)+1))])<|oD (dT ([]:zR))<|oD (dT r5.1.sub)<|oD (dT [e,f])<|oD (dS c)<|oD (dT ([]:zR))<|eP b d.tele_ d.type_.sub_ d.cons_ d.rows_<|oC 1 [] (c22 h8)<|oC 2 [0,1] (zSw h6)<|oC 0 [] (zWp h4)<|oC 1 [] (c89 h2)<|cD 11 o0) (zEJ h),⟨(lz rfl),tv⟩,(zD ⟨⟨tv,dE _⟩,tv,tv,tv,⟨tv,zN _⟩,tv,tv,tv,tv,⟨tv,zQ _⟩,⟨tv,zN _⟩,⟨tv,xD _⟩,(lz rfl),⟨tv,dT _⟩,⟨tv,dS _⟩,⟨tv,dT _⟩,tv,tv,tv,tv⟩ (zD ⟨tv,tv,tv⟩ zA)),(lz rfl),(zD ⟨dE _,tv,tv,tv,zN _,tv,tv,tv,tv,zQ _,zN _,xD _,(lz rfl),dT _,dS _,dT _,tv,tv,tv,tv⟩ (zD ⟨tv,tv,tv⟩ (zD (dE _) zA)))⟩
theorem zZO{q b d g m c e f a s p r}(h:zIf q b d g m c e f a s p=some r):CT prog 77 [rD b d (.mp 1 0) (zH zC ([]:zR) .no) (zH xJ c .no) (zH zC [e,f] .no) a s p,.cells [ai g,ai m]] [.mp 0 0] (.sl (zG yA r.1) r.1.length .no) [rD b d (.mp 1 0) (zH zC ([]:zR) .no) (zH xJ c .no) (zH zC [e,f] .no) a r.2.1 r.2.2,.cells [ai g,ai m]] 0:=by
 have k:=zWk h
 exact CT.freeze (H1:=[rD b d (.mp 1 0) (zH zC ([]:zR) .no) (zH xJ c .no) (zH zC [e,f] .no) a r.2.1 r.2.2,.cells [ai g,ai m]]) (cs:=zG yA r.1) (res':=(.sl (zG yA r.1) r.1.length .no)) k (Nat.le_of_ble_eq_true rfl) (zD ⟨dE _,tv,tv,tv,zN _,tv,tv,tv,tv,zQ _,zN _,xD _,(lz rfl),dT _,dS _,dT _,tv,tv,tv,tv⟩ (zD ⟨tv,tv,tv⟩ zA)) (dE _) (.inl ⟨rfl,rfl⟩) (by rfl) rfl
def e77(t:Nat)(f:zY)(g:xG)(q:Int)(s:Int)(c:zR)(d:List ByteArray)(a:zR)(b:Int)(m:Int)(e:Int):Option (zY×Int×Int):=match c,a with
 | [],[n,p]=>zIf t f g q s d n p b m e
 |_,_=>none
theorem c77{t:Nat}{f:zY}{g:xG}{q:Int}{s:Int}{c:zR}{d:List ByteArray}{a:zR}{b:Int}{m:Int}{e:Int}{r:zY×Int×Int}(h:e77 t f g q s c d a b m e=some r):CT prog 77 [rD f g (.mp 1 0) (zH zC c .no) (zH xJ d .no) (zH zC a .no) b m e,.cells [ai q,ai s]] [.mp 0 0] (.sl (zG yA r.1) r.1.length .no) [rD f g (.mp 1 0) (zH zC c .no) (zH xJ d .no) (zH zC a .no) b r.2.1 r.2.2,.cells [ai q,ai s]] 0:=by
 unfold e77 at h
 split at h
 ·exact zZO h
 ·cases h
def zBP(c:Nat)(a:Int):Option (zY×Nat):=
 if decide (a<0)then
 none
 else
 if decide ((yN (a-0))>0)then
 gmk 192 (default:yE) (yN (a-0))>>=fun x3=>
 zLc x3.length 0 0>>=fun x5=>
 some (x3,x5.2)
 else
 none
theorem zSq{c a r}(h:zBP c a=some r):Ct 192 [] [zH yA ([]:zY) .nl,ai a] (.ms 0 0 r.2 r.1.length 15) [.row (zG yA r.1)] 0:=⟨by
 unfold zBP at h
 obtain⟨h1,h⟩:=yY h
 have k:=oB 0 h1 o0
 obtain⟨h2,h⟩:=sO h
 obtain⟨x3,h4,h⟩:=zB h
 obtain⟨x5,h6,h⟩:=zB h
 cases h
 exact tF ⟨func192,rfl⟩ 0 [0] (oD (dE x3)<|oA 1 (zPw (b:=0) (off:=0) (n:=List.length x3) h6)<|oMz 2 (zPv (of_decide_eq_true h2) h4)<|oB 4 h2 k),⟨⟨tv,dE _⟩,tv,tv⟩,zA,(lz rfl),(zD (dE _) zA)⟩
def zZP(b:Nat)(a:Int):Option Unit:=(zBP b a)>>=fun r=>if decide (r.2=0)=true then some ()else none
theorem yCf{b:Nat}{a:Int}{r:Unit}(h:zZP b a=some r):CT prog 192 [] [.sl (zG yA ([]:zY)) (List.length ([]:zY)) .nl,ai a] (.sl (zG yA ([]:zY)) (List.length ([]:zY)) (.st 0 15)) [] 1:=by
 obtain⟨x,h1,h⟩:=zB h
 obtain⟨h2,h⟩:=sO h
 exact CT.freezeZ (zSq h1) (of_decide_eq_true h2)
def M2:Nat->(List zY)->Int->zY->Option zY
 |0,_,_,_=>none
 |b+1,a,c,e=>
 if decide (c<(a.length:Int))then
 zP a c>>=fun x8=>
 xB 192 e x8>>=fun l10=>
 M2 b a (yN (c+1)) l10
 else
 some e
def M3:Nat->(List zY)->Int->Int->Option zY
 |0,_,_,_=>none
 |b+1,a,d,f=>
 if decide (d<(a.length:Int))then
 zP a d>>=fun x2=>
 if decide ((yN (f+(x2.length:Int)))<0)then
 none
 else
 M3 b a (yN (d+1)) (yN (f+(x2.length:Int)))
 else
 zZP b f>>=fun r5=>
 M2 b a 0 []
def zWj(b:Nat)(a:List zY):Option zY:=
 M3 b a 0 0
theorem zSp:∀b:Nat,(∀ {a c e r},M2 b a c e=some r->(∀j,dL 0 (pt 65461 f138) (sp j 36 0 [(6,zH yA e (.st 0 15)),(25,zH (slC yA) a .no),(26,ai (a.length:Int)),(27,ai c)]) (⟨[],0,[0],1,[]⟩) (fQ 0 (nQ 0 f138 (.sl (zG yA r) r.length .no) [] 0) [.blk 2,.seq (pt 1023 f138)]))):=by
 intro b
 induction b with
 |zero=>
  exact fun h=>nn h
 |succ b ih=>
  intro a c e r h
  rw[M2]at h
  obtain⟨h7,h⟩|⟨h7,h⟩:=zK h
  obtain⟨x8,h9,h⟩:=zB h
  obtain⟨l10,h11,h⟩:=zB h
  have k:=oA 0 (zSd (o:=.no) h9)<|oB 0 h7 o0
  by_cases h12:List.length x8=0
  exact fun j=>lH 1 [] [] [0] [6,25,26,27] (oD ((dSl qE) a)<|oD (dE l10)<|oP 1 (zXj h11 h12) k) (ih h)
  exact fun j=>lH 1 [] [] [1] [6,25,26,27] (oD ((dSl qE) a)<|oD (dE l10)<|oP 1 (zSf h11 h12) k) (ih h)
  obtain rfl:=sj h
  exact fun j=>lF 0 [] (oD (dE e)<|oB 0 h7 o0)
theorem zSo:∀b:Nat,(∀ {a d f r},M3 b a d f=some r->(∀j,dL 0 (pt 4021 f138) (sp j 36 0 [(0,zH (slC yA) a .no),(3,ai f),(9,zH (slC yA) a .no),(10,ai (a.length:Int)),(11,ai d)]) (⟨[],0,[],0,[]⟩) (fQ 0 (nQ 0 f138 (.sl (zG yA r) r.length .no) [] 0) [.blk 0,.seq (pt 63 f138)]))):=by
 intro b
 induction b with
 |zero=>
  exact fun h=>nn h
 |succ b ih=>
  intro a d f r h
  rw[M3]at h
  obtain⟨h1,h⟩|⟨h1,h⟩:=zK h
  obtain⟨x2,h3,h⟩:=zB h
  have k:=oA 0 (zSd (o:=.no) h3)<|oB 0 h1 o0
  obtain⟨h4,h⟩:=yY h
  exact fun j=>lH 1 [] [] [] [0,3,9,10,11] (oD ((dSl qE) a)<|oD ((dSl qE) a)<|oB 3 h4 k) (ih h)
  obtain⟨r5,h6,h⟩:=zB h
  exact fun j=>lH 1 [] [] [0] [6,25,26,27] (oD ((dSl qE) a)<|oD (dE ([]:zY))<|oCx 0 [] (yCf h6)<|oB 0 h1 o0) (zSp _ h)
theorem yCe{b a r}(h:zWj b a=some r):Ct 138 [] [zH (slC yA) a .no] (.sl (zG yA r) r.length .no) [] 0:=⟨by
 unfold zWj at h
 exact tH ⟨func138,rfl⟩ 1 [] [] [] [0,3,9,10,11] (oD ((dSl qE) a)<|oD ((dSl qE) a) o0) (zSo _ h),⟨⟨tv,(dSl qE) _⟩,tv⟩,zA,dE _,zA⟩
def zBQ:Nat->zY->zY->(List (ByteArray×Int))->Int->Option (zY×Int)
 |0,_,_,_,_=>none
 |d+1,c,b,a,e=>
 if decide (e<(b.length:Int))then
 zP b e>>=fun x9=>
 if decide ((oJ a x9.name)>0)then
 none
 else
 zBQ d c b a (yN (e+1))
 else
 zWj d [c,b]>>=fun r12=>
 e18 d r12>>=fun r14=>
 if r14 then
 e61 d r12>>=fun r17=>
 some (r17,0)
 else
 none
def zGB(d:Nat)(c b:zY)(f:Int)(a:List (ByteArray×Int)):Option (zY×Int):=
 if decide (f<(c.length:Int))then
 none
 else
 zBQ d c b a 0
def e78(d:Nat)(c b:zY):Option (zY×Int):=
 e18 d c>>=fun r1=>
 if r1 then
 if decide ((b.length:Int)>(yN (256-(c.length:Int))))then
 none
 else
 zGB d c b 0 ([]:List (ByteArray×Int))
 else
 none
theorem zWi:∀d:Nat,(∀ {c b a e r},zBQ d c b a e=some r->(∀j,dL 0 (pt 262069 f78) (sp j 55 0 [(0,zH yA c .no),(1,zH yA b .no),(6,.obj 0),(34,zH yA b .no),(35,ai (b.length:Int)),(36,ai e)]) (⟨[(0,P3 a)],1,[],0,[]⟩) (fQ 0 (nQ 0 f78 (.tup [.sl (zG yA r.1) r.1.length .no,ai r.2]) [] 0) [.blk 2,.seq (pt 4095 f78)]))):=by
 intro d
 induction d with
 |zero=>
  exact fun h=>nn h
 |succ d ih=>
  intro c b a e r h
  rw[zBQ]at h
  obtain⟨h8,h⟩|⟨h8,h⟩:=zK h
  obtain⟨x9,h10,h⟩:=zB h
  have k:=oL 3 (zLK a x9.name)<|oA 0 (xK (o:=.no) h10)<|oB 0 h8 o0
  obtain⟨h11,h⟩:=yY h
  exact fun j=>lH 1 [] [0] [] [0,1,6,34,35,36] (oD (dE b)<|oD (dE b)<|oD (dE c)<|oB 0 h11 k) (ih h)
  obtain⟨r12,h13,h⟩:=zB h
  obtain⟨r14,h15,h⟩:=zB h
  have k:=oC 1 [] (yCe h13)<|oB 0 h8 o0
  obtain⟨h16,h⟩:=sO h
  obtain⟨r17,h18,h⟩:=zB h
  cases h
  exact fun j=>lF 0 [] (oD (dE r17)<|oC 1 [] (c61 h18)<|oK 0 [] h16 (c18 h15) k)
theorem zWh{d c b f a r}(h:zGB d c b f a=some r):(∀j,dL 0 (pt 65461 f78) (sp j 55 0 [(0,zH yA c .no),(1,zH yA b .no),(6,.obj 0),(22,zH yA c .no),(23,ai (c.length:Int)),(24,ai f)]) (⟨[(0,P3 a)],1,[],0,[]⟩) (fQ 0 (nQ 0 f78 (.tup [.sl (zG yA r.1) r.1.length .no,ai r.2]) [] 0) [.blk 0,.seq (pt 1023 f78)])):=by
 unfold zGB at h
 obtain⟨h5,h⟩:=yY h
 exact fun j=>lH 1 [] [0] [] [0,1,6,34,35,36] (oD (dE b)<|oD (dE b)<|oD (dE c)<|oB 0 h5 o0) (zWi _ h)
theorem c78{d c b r}(h:e78 d c b=some r):Ct 78 [] [zH yA c .no,zH yA b .no] (.tup [.sl (zG yA r.1) r.1.length .no,ai r.2]) [] 0:=⟨by
 unfold e78 at h
 obtain⟨r1,h2,h⟩:=zB h
 obtain⟨h3,h⟩:=sO h
 have k:=oK 0 [] h3 (c18 h2) o0
 obtain⟨h4,h⟩:=yY h
 exact tH ⟨func78,rfl⟩ 1 [] [0] [] [0,1,6,22,23,24] (oD (dE c)<|oD (dE b)<|oD (dE c)<|oB 4 h4 k) (zWh h),⟨⟨tv,dE _⟩,⟨tv,dE _⟩,tv⟩,zA,⟨dE _,tv,tv⟩,zA⟩
def zGC(c:Nat)(b:zY)(a:xG)(r11:zR×List ByteArray×Int×Int×Int×Int×Int)(r14:zR×Int×Int×Int×Int):Option (zY×Int×Int×Int×Int):=
 e77 c b a r14.2.2.2.1 r14.2.2.2.2 r11.1 r11.2.1 r14.1 r11.2.2.1 r14.2.1 r14.2.2.1>>=fun r17=>
 if r17.2.1 != 0 then
 none
 else
 e78 c b r17.1>>=fun r20=>
 if r20.2 != 0 then
 none
 else
 some (r20.1,0,0,r14.2.2.2.1,r14.2.2.2.2)
def zGD(c:Nat)(b:zY)(a:xG)(r11:zR×List ByteArray×Int×Int×Int×Int×Int):Option (zY×Int×Int×Int×Int):=
 zBM c b a.kind_ a.at_ a.name_ a.tele_ a.type_.kind_ a.type_.at_ a.type_.name_ a.type_.n_ a.type_.sub_ a.cons_ a.rows_ r11.2.2.2.2.2.1 r11.2.2.2.2.2.2 r11.1 r11.2.1 r11.2.2.1 r11.2.2.2.1 r11.2.2.2.2.1>>=fun r14=>
 if r14.2.1 != 0 then
 none
 else
 zGC c b a r11 r14
def zGE(c:Nat)(b:zY)(a:xG)(d e:Int)(r8:Int×Int):Option (zY×Int×Int×Int×Int):=
 zBL c b a.kind_ a.at_ a.name_ a.tele_ a.type_.kind_ a.type_.at_ a.type_.name_ a.type_.n_ a.type_.sub_ a.cons_ a.rows_ d e 0 r8.1 r8.2>>=fun r11=>
 if r11.2.2.2.1 != 0 then
 none
 else
 zGD c b a r11
def zGF(c:Nat)(b:zY)(a:xG)(d e:Int):Option (zY×Int×Int×Int×Int):=
 zBJ c b a.kind_ a.at_ a.name_ a.tele_ a.type_.kind_ a.type_.at_ a.type_.name_ a.type_.n_ a.type_.sub_ a.cons_ a.rows_ d e 0 0 0>>=fun r8=>
 if r8.1 != 0 then
 none
 else
 zGE c b a d e r8
def e38(c:Nat)(b:zY)(a:xG)(d e:Int):Option (zY×Int×Int×Int×Int):=
 e18 c b>>=fun r1=>
 if r1 then
 e73 c a>>=fun r4=>
 if r4 then
 if a.kind_ != 2 then
 none
 else
 zGF c b a d e
 else
 none
 else
 none
theorem zWg{c b a r11 r14 r}(h:zGC c b a r11 r14=some r):(∀j,dL 1 (pt 16309 f38) (sp j 86 0 [(0,zH yA b .no),(4,.mp 1 0),(9,.mp 2 0),(39,.agg [.clo 74 [.mp 2 0] [],.clo 75 [.mp 2 0] [],.clo 76 [.mp 2 0] []]),(40,ai 3)]) (⟨[(0,.cells [ai r14.2.2.2.1,ai r14.2.2.2.2]),(1,.cells [ai a.kind_,ai a.at_,at' a.name_,zH yQ a.tele_ .no,ai a.type_.kind_,ai a.type_.at_,at' a.type_.name_,ai a.type_.n_,zH xI a.type_.sub_ .no,zH yQ a.cons_ .no,zH sP a.rows_ .no]),(2,rD b a (.mp 0 0) (zH zC r11.1 .no) (zH xJ r11.2.1 .no) (zH zC r14.1 .no) r11.2.2.1 r14.2.1 r14.2.2.1)],3,[],0,[]⟩) (fQ 1 (nQ 1 f38 (.tup [.sl (zG yA r.1) r.1.length .no,ai r.2.1,ai r.2.2.1]) [.cells [ai r.2.2.2.1,ai r.2.2.2.2]] 0) [.blk 0,.seq (pt 255 f38)])):=by
 unfold zGC at h
 obtain⟨r17,h18,h⟩:=zB h
 have k:=oC 1 [2,0] (c77 h18) o0
 obtain⟨h19,h⟩:=yY h
 obtain⟨r20,h21,h⟩:=zB h
 have k:=oC 0 [] (c78 h21)<|oB 1 h19 k
 obtain⟨h22,h⟩:=yY h
 cases h
 exact fun j=>lF 0 [0] (oD (dE r20.1)<|oB 2 h22 k)
theorem zWf{c b a r11 r}(h:zGD c b a r11=some r):(∀j,dL 1 (pt 16309 f38) (sp j 86 0 [(0,zH yA b .no),(4,.mp 1 0),(9,.mp 2 0),(39,.agg [.clo 74 [.mp 2 0] [],.clo 75 [.mp 2 0] [],.clo 76 [.mp 2 0] []]),(40,ai 2)]) (⟨[(0,.cells [ai r11.2.2.2.2.2.1,ai r11.2.2.2.2.2.2]),(1,.cells [ai a.kind_,ai a.at_,at' a.name_,zH yQ a.tele_ .no,ai a.type_.kind_,ai a.type_.at_,at' a.type_.name_,ai a.type_.n_,zH xI a.type_.sub_ .no,zH yQ a.cons_ .no,zH sP a.rows_ .no]),(2,rD b a (.mp 0 0) (zH zC r11.1 .no) (zH xJ r11.2.1 .no) (zH zC ([]:zR) .nl) r11.2.2.1 r11.2.2.2.1 r11.2.2.2.2.1)],3,[],0,[]⟩) (fQ 1 (nQ 1 f38 (.tup [.sl (zG yA r.1) r.1.length .no,ai r.2.1,ai r.2.2.1]) [.cells [ai r.2.2.2.1,ai r.2.2.2.2]] 0) [.blk 0,.seq (pt 255 f38)])):=by
 unfold zGD at h
 obtain⟨r14,h15,h⟩:=zB h
 have k:=oC 2 [2,0] (zSx h15) o0
 obtain⟨h16,h⟩:=yY h
 exact fun j=>lH 1 [] [0,1,2] [] [0,4,9,39,40] (oD (dE b)<|oD (dT r14.1)<|oD (dS r11.2.1)<|oD (dT r11.1)<|eP b a.tele_ a.type_.sub_ a.cons_ a.rows_<|oD (xD a.rows_)<|oD (zN a.cons_)<|oD (zQ a.type_.sub_)<|oD (zN a.tele_)<|oB 1 h16 k) (zWg h)
theorem zWe{c b a d e r8 r}(h:zGE c b a d e r8=some r):(∀j,dL 1 (pt 16309 f38) (sp j 86 0 [(0,zH yA b .no),(4,.mp 1 0),(9,.mp 2 0),(39,.agg [.clo 74 [.mp 2 0] [],.clo 75 [.mp 2 0] [],.clo 76 [.mp 2 0] []]),(40,ai 1)]) (⟨[(0,.cells [ai d,ai e]),(1,.cells [ai a.kind_,ai a.at_,at' a.name_,zH yQ a.tele_ .no,ai a.type_.kind_,ai a.type_.at_,at' a.type_.name_,ai a.type_.n_,zH xI a.type_.sub_ .no,zH yQ a.cons_ .no,zH sP a.rows_ .no]),(2,rD b a (.mp 0 0) (zH zC ([]:zR) .nl) (zH xJ ([]:List ByteArray) .nl) (zH zC ([]:zR) .nl) 0 r8.1 r8.2)],3,[],0,[]⟩) (fQ 1 (nQ 1 f38 (.tup [.sl (zG yA r.1) r.1.length .no,ai r.2.1,ai r.2.2.1]) [.cells [ai r.2.2.2.1,ai r.2.2.2.2]] 0) [.blk 0,.seq (pt 255 f38)])):=by
 unfold zGE at h
 obtain⟨r11,h12,h⟩:=zB h
 have k:=oC 2 [2,0] (zSy h12) o0
 obtain⟨h13,h⟩:=yY h
 exact fun j=>lH 1 [] [0,1,2] [] [0,4,9,39,40] (oD (dE b)<|oD (dT ([]:zR))<|oD (dS r11.2.1)<|oD (dT r11.1)<|eP b a.tele_ a.type_.sub_ a.cons_ a.rows_<|oD (xD a.rows_)<|oD (zN a.cons_)<|oD (zQ a.type_.sub_)<|oD (zN a.tele_)<|oB 1 h13 k) (zWf h)
theorem zWd{c b a d e r}(h:zGF c b a d e=some r):(∀j,dL 1 (pt 16309 f38) (sp j 86 0 [(0,zH yA b .no),(4,.mp 1 0),(9,.mp 2 0),(39,.agg [.clo 74 [.mp 2 0] [],.clo 75 [.mp 2 0] [],.clo 76 [.mp 2 0] []]),(40,ai 0)]) (⟨[(0,.cells [ai d,ai e]),(1,.cells [ai a.kind_,ai a.at_,at' a.name_,zH yQ a.tele_ .no,ai a.type_.kind_,ai a.type_.at_,at' a.type_.name_,ai a.type_.n_,zH xI a.type_.sub_ .no,zH yQ a.cons_ .no,zH sP a.rows_ .no]),(2,rD b a (.mp 0 0) (zH zC ([]:zR) .nl) (zH xJ ([]:List ByteArray) .nl) (zH zC ([]:zR) .nl) 0 0 0)],3,[],0,[]⟩) (fQ 1 (nQ 1 f38 (.tup [.sl (zG yA r.1) r.1.length .no,ai r.2.1,ai r.2.2.1]) [.cells [ai r.2.2.2.1,ai r.2.2.2.2]] 0) [.blk 0,.seq (pt 255 f38)])):=by
 unfold zGF at h
 obtain⟨r8,h9,h⟩:=zB h
 have k:=oC 2 [2,0] (zRT h9) o0
 obtain⟨h10,h⟩:=yY h
 exact fun j=>lH 1 [] [0,1,2] [] [0,4,9,39,40] (oD (dE b)<|oD (dT ([]:zR))<|oD (dS ([]:List ByteArray))<|oD (dT ([]:zR))<|eP b a.tele_ a.type_.sub_ a.cons_ a.rows_<|oD (xD a.rows_)<|oD (zN a.cons_)<|oD (zQ a.type_.sub_)<|oD (zN a.tele_)<|oB 1 h10 k) (zWe h)
theorem c38{c b a d e r}(h:e38 c b a d e=some r):Ct 38 [.cells [ai d,ai e]] [zH yA b .no,B7 a,.mp 0 0] (.tup [.sl (zG yA r.1) r.1.length .no,ai r.2.1,ai r.2.2.1]) [.cells [ai r.2.2.2.1,ai r.2.2.2.2]] 0:=⟨by
 unfold e38 at h
 obtain⟨r1,h2,h⟩:=zB h
 obtain⟨h3,h⟩:=sO h
 obtain⟨r4,h5,h⟩:=zB h
 have k:=oK 0 [] h3 (c18 h2) o0
 obtain⟨h6,h⟩:=sO h
 have k:=oK 2 [] h6 (c73 h5) k
 obtain⟨h7,h⟩:=yY h
 exact tH ⟨func38,rfl⟩ 1 [] [0,1,2] [] [0,4,9,39,40] (oD (dE b)<|oD (dT ([]:zR))<|oD (dS ([]:List ByteArray))<|oD (dT ([]:zR))<|eP b a.tele_ a.type_.sub_ a.cons_ a.rows_<|oD (xD a.rows_)<|oD (zN a.cons_)<|oD (zQ a.type_.sub_)<|oD (zN a.tele_)<|oB 2 h7 k) (zWd h),⟨⟨tv,dE _⟩,⟨tv,tv,tv,⟨tv,zN _⟩,tv,tv,tv,tv,⟨tv,zQ _⟩,⟨tv,zN _⟩,⟨tv,xD _⟩,tv⟩,(lz rfl),tv⟩,(zD ⟨tv,tv,tv⟩ zA),⟨dE _,tv,tv,tv⟩,(zD ⟨tv,tv,tv⟩ zA)⟩
def e17(a:Nat)(b:zY)(c:ByteArray)(d:Int):Option (zY×Int×Int):=
 e37 a c>>=fun r1=>
 e33 a d>>=fun r3=>
 match r3 with
 | .inl y13=>
  none
 | .inr y5=>
  if r1.2.2 != 0 then
  none
  else
  if y5.1 != 0 then
  none
  else
  if (r1.1.length:Int)==0 then
  none
  else
  zP r1.1 0>>=fun x9=>
  e38 a b x9 y5.2.1 y5.2.2>>=fun r11=>
  some (r11.1,r11.2.1,r11.2.2.1)
theorem c17{a b c d r}(h:e17 a b c d=some r):Ct 17 [] [zH yA b .no,at' c,ai d] (.tup [.sl (zG yA r.1) r.1.length .no,ai r.2.1,ai r.2.2]) [] 0:=⟨by
 unfold e17 at h
 obtain⟨r1,h2,h⟩:=zB h
 obtain⟨r3,h4,h⟩:=zB h
 have k:=oC 0 [] (c37 h2) o0
 rcases r3 with y13|y5
 cases h
 dsimp only at h
 have k:=oC 3 [] (c33 h4) k
 obtain⟨h6,h⟩:=yY h
 have k:=oB 2 h6 k
 obtain⟨h7,h⟩:=yY h
 have k:=oB 0 h7 k
 obtain⟨h8,h⟩:=yY h
 obtain⟨x9,h10,h⟩:=zB h
 obtain⟨r11,h12,h⟩:=zB h
 cases h
 exact tF ⟨func17,rfl⟩ 3 [] (oD (dE r11.1)<|oC 1 [0] (c38 h12)<|oA 0 (yAA (o:=.no) h10)<|oB 1 h8 k),⟨⟨tv,dE _⟩,tv,tv,tv⟩,zA,⟨dE _,tv,tv,tv⟩,zA⟩
def e5(a:Nat)  : Option Bool:=
 e17 a [] (⟨#[114,101,99,111,114,100,32,80,32,58,32,83,101,116,32,49,32,123,32,111,110,101,32,58,32,83,101,116,59,32,116,119,111,32,58,32,111,110,101,59,32,125]⟩:ByteArray) 100>>=fun r1=>
 if r1.2.2==0 then
 if (r1.1.length:Int)==4 then
 zP r1.1 1>>=fun x5=>
 some (x5.name.toList==(⟨#[80,39]⟩:ByteArray).toList)
 else
 none
 else
 none
theorem c5{a r}(h:e5 a  = some r):Ct 5 [] [] (ab r) [] 0:=⟨by
 unfold e5 at h
 obtain⟨r1,h2,h⟩:=zB h
 have k:=oC 0 [] (c17 h2) o0
 obtain⟨h3,h⟩:=sO h
 have k:=oB 3 h3 k
 obtain⟨h4,h⟩:=sO h
 obtain⟨x5,h6,h⟩:=zB h
 cases h
 exact tF ⟨func5,rfl⟩ 2 [] (oA 0 (xK (o:=.no) h6)<|oB 1 h4 k),tv,zA,tv,zA⟩
def W8:Nat->zR->Tm->yE->Int->Int->Int->zR->Option (Tm×Int)
 |0,_,_,_,_,_,_,_=>none
 |b+1,a,c,x19,q,d,e,f=>
 if decide (q<(x19.fields.length:Int))then
 zP x19.fields q>>=fun x28=>
 e22 b x28>>=fun r30=>
 e21 b r30 a>>=fun r32=>
 e23 b r32 c>>=fun r34=>
 e23 b (Tm.mk d e f) r34>>=fun r36=>
 W8 b a c x19 (yN (q+1)) r36.k r36.n r36.sub
 else
 fV b (Tm.mk d e f)>>=fun r38=>
 if r38 then
 e24 b (Tm.mk d e f) []>>=fun r41=>
 some (r41.1,r41.2)
 else
 some ((Tm.mk 0 0 []),2)
def gA:Nat->zY->Int->zR->Tm->Bool->Int->Option (Tm×Int)
 |0,_,_,_,_,_,_=>none
 |b+1,m,p,a,c,s,g=>
 if s then
 if decide (g<(a.length:Int))then
 zP a g>>=fun x14=>
 fV b x14>>=fun r16=>
 if r16 then
 gA b m p a c true (yN (g+1))
 else
 gA b m p a c false (yN (g+1))
 else
 zP m p>>=fun x19=>
 zP x19.cons 0>>=fun x21=>
 e22 b x21>>=fun r23=>
 e21 b r23 a>>=fun r25=>
 W8 b a c x19 0 r25.k r25.n r25.sub
 else
 if decide (g<(a.length:Int))then
 zP a g>>=fun x28=>
 gA b m p a c false (yN (g+1))
 else
 some ((Tm.mk 0 0 []),5)
def e6(b:Nat)(m:zY)(p:Int)(a:zR)(c:Tm):Option (Tm×Int):=
 e18 b m>>=fun r1=>
 if r1 then
 e19 b m p>>=fun r4=>
 if r4 then
 zP m p>>=fun x7=>
 if (a.length:Int)==x7.pars then
 fV b c>>=fun r10=>
 if r10 then
 gA b m p a c true 0
 else
 gA b m p a c false 0
 else
 gA b m p a c false 0
 else
 some ((Tm.mk 0 0 []),16)
 else
 some ((Tm.mk 0 0 []),5)
theorem q6:Qf 6 Tryz.f6:=⟨func6,rfl⟩
theorem zZQ:∀b:Nat,(∀ {a c x19 q d e f r},W8 b a c x19 q d e f=some r->(∀j,dL 0 (pt 4194229 Tryz.f6) (sp j 94 0 [(2,zH zC a .no),(7,.mp 0 0),(8,.mp 1 0),(13,.mp 2 0),(68,zH zU x19.fields .no),(69,ai (x19.fields.length:Int)),(70,ai q)]) (⟨[(0,.cells [ai c.k,ai c.n,zH zC c.sub .no]),(1,.cells [ai 0,ai 0,zH zC ([]:zR) .nl]),(2,.cells [ai d,ai e,zH zC f .no])],3,[],0,[]⟩) (fQ 0 (nQ 0 Tryz.f6 (.tup [yV r.1,ai r.2]) [] 0) [.blk 2,.seq (pt 65535 Tryz.f6)]))):=by
 intro b
 induction b with
 |zero=>
  exact fun h=>nn h
 |succ b ih=>
  intro a c x19 q d e f r h
  rw[W8]at h
  obtain⟨h27,h⟩|⟨h27,h⟩:=zK h
  obtain⟨x28,h29,h⟩:=zB h
  obtain⟨r30,h31,h⟩:=zB h
  obtain⟨r32,h33,h⟩:=zB h
  obtain⟨r34,h35,h⟩:=zB h
  obtain⟨r36,h37,h⟩:=zB h
  exact fun j=>lH 2 [] [0,1,2] [] [2,7,8,13,68,69,70] (oD (dI x19.fields)<|oD (dT a)<|oD (dT r36.sub)<|oD (dT ([]:zR))<|oD (dT c.sub)<|oC 0 [] (c23 h37)<|oC 1 [] (c23 h35)<|oC 0 [] (c21 h33)<|oC 2 [] (c22 h31)<|oA 0 (uH (o:=.no) h29)<|oB 0 h27 o0) (ih h)
  obtain⟨r38,h39,h⟩:=zB h
  have k:=oB 0 h27 o0
  obtain⟨h40,h⟩|⟨h40,h⟩:=zK h
  obtain⟨r41,h42,h⟩:=zB h
  cases h
  exact fun j=>lF 5 [] (oD (dT r41.1.sub)<|oC 2 [] (c24 h42)<|oK 1 [] h40 (qW h39) k)
  cases h
  exact fun j=>lF 2 [] (oD (dT ([]:zR))<|oK 1 [] h40 (qW h39) k)
theorem zOk:∀b:Nat,(∀ {m p a c s g r},gA b m p a c s g=some r->(∀j,dL 0 (pt 65461 Tryz.f6) (sp j 94 0 [(0,zH yA m .no),(1,ai p),(2,zH zC a .no),(7,.mp 0 0),(8,.mp 1 0),(10,ab s),(39,zH zC a .no),(40,ai (a.length:Int)),(41,ai g)]) (⟨[(0,.cells [ai c.k,ai c.n,zH zC c.sub .no]),(1,.cells [ai 0,ai 0,zH zC ([]:zR) .nl])],2,[],0,[]⟩) (fQ 0 (nQ 0 Tryz.f6 (.tup [yV r.1,ai r.2]) [] 0) [.blk 0,.seq (pt 1023 Tryz.f6)]))):=by
 intro b
 induction b with
 |zero=>
  exact fun h=>nn h
 |succ b ih=>
  intro m p a c s g r h
  rw[gA]at h
  have z {os ob} (k:Oz os ob):=oD (dT a)<|oD (dT a)<|oD (dE m)<|oD (dT ([]:zR))<|oD (dT c.sub)<|k
  cases s
  replace h:=ifF rfl h
  obtain⟨h27,h⟩|⟨h27,h⟩:=zK h
  obtain⟨x28,h29,h⟩:=zB h
  exact fun j=>lH 3 [] [0,1] [] [0,1,2,7,8,10,39,40,41] (z<|oA 0 (xH (o:=.no) h29)<|oB 0 h27 o0) (ih h)
  cases h
  exact fun j=>lF 2 [] (oD (dT ([]:zR))<|oB 0 h27 o0)
  replace h:=ifT rfl h
  obtain⟨h13,h⟩|⟨h13,h⟩:=zK h
  obtain⟨x14,h15,h⟩:=zB h
  obtain⟨r16,h17,h⟩:=zB h
  have k:=oA 0 (xH (o:=.no) h15)<|oB 0 h13 o0
  obtain⟨h18,h⟩|⟨h18,h⟩:=zK h
  exact fun j=>lH 1 [] [0,1] [] [0,1,2,7,8,10,39,40,41] (z<|oK 3 [] h18 (qW h17) k) (ih h)
  exact fun j=>lH 1 [] [0,1] [] [0,1,2,7,8,10,39,40,41] (z<|oK 3 [] h18 (qW h17) k) (ih h)
  obtain⟨x19,h20,h⟩:=zB h
  obtain⟨x21,h22,h⟩:=zB h
  obtain⟨r23,h24,h⟩:=zB h
  obtain⟨r25,h26,h⟩:=zB h
  exact fun j=>lH 2 [] [0,1,2] [] [2,7,8,13,68,69,70] (oD (dI x19.fields)<|oD (dT a)<|oD (dT r25.sub)<|oD (dT ([]:zR))<|oD (dT c.sub)<|oA 1 (xK (o:=.no) h20)<|oC 0 [] (c21 h26)<|oC 1 [] (c22 h24)<|oA 1 (uH (o:=.no) h22)<|oA 1 (xK (o:=.no) h20)<|oB 0 h13 o0) (zZQ _ h)
theorem c6{b m p a c r}(h:e6 b m p a c=some r):Ct 6 [] [zH yA m .no,ai p,zH zC a .no,yV c] (.tup [yV r.1,ai r.2]) [] 0:=⟨by
 unfold e6 at h
 have z {os ob} (k:Oz os ob):=oD (dT a)<|oD (dT a)<|oD (dE m)<|oD (dT ([]:zR))<|oD (dT c.sub)<|k
 obtain⟨r1,h2,h⟩:=zB h
 obtain⟨h3,h⟩|⟨h3,h⟩:=zK h
 obtain⟨r4,h5,h⟩:=zB h
 have k:=oK 0 [] h3 (c18 h2) o0
 obtain⟨h6,h⟩|⟨h6,h⟩:=zK h
 obtain⟨x7,h8,h⟩:=zB h
 have k:=oA 2 (xK (o:=.no) h8)<|oK 1 [] h6 (c19 h5) k
 obtain⟨h9,h⟩|⟨h9,h⟩:=zK h
 obtain⟨r10,h11,h⟩:=zB h
 have k:=oB 1 h9 k
 obtain⟨h12,h⟩|⟨h12,h⟩:=zK h
 exact tH q6 1 [] [0,1] [] [0,1,2,7,8,10,39,40,41] (z<|oK 1 [] h12 (qW h11) k) (zOk _ h)
 exact tH q6 1 [] [0,1] [] [0,1,2,7,8,10,39,40,41] (z<|oK 1 [] h12 (qW h11) k) (zOk _ h)
 exact tH q6 1 [] [0,1] [] [0,1,2,7,8,10,39,40,41] (z<|oB 1 h9 k) (zOk _ h)
 cases h
 exact tF q6 2 [] (oD (dT ([]:zR))<|oK 1 [] h6 (c19 h5) k)
 cases h
 exact tF q6 2 [] (oD (dT ([]:zR))<|oK 0 [] h3 (c18 h2) o0),⟨⟨tv,dE _⟩,tv,⟨tv,dT _⟩,⟨tv,tv,⟨tv,dT _⟩,tv⟩,tv⟩,zA,⟨⟨tv,tv,dT _,tv⟩,tv,tv⟩,zA⟩
def W9:Nat->zY->Int->Two->Tm->(Tm×Int)->Int->Int->Int->zR->Option Bool
 |0,_,_,_,_,_,_,_,_,_=>none
 |c+1,d,p,e,x10,r17,s,f,g,m=>
 zP d p>>=fun x50=>
 if decide (s<(x50.fields.length:Int))then
 zP x50.fields s>>=fun x53=>
 e11 c x53>>=fun r55=>
 e10 c r55 e.a>>=fun r57=>
 e12 c r57 [x10]>>=fun r59=>
 e12 c (Tm.mk f g m) [r59]>>=fun r61=>
 W9 c d p e x10 r17 (yN (s+1)) r61.k r61.n r61.sub
 else
 e9 c (Tm.mk f g m)>>=fun r63=>
 if r63 then
 if r17.2 != 0 then
 some false
 else
 e13 c r17.1 (Tm.mk f g m)>>=fun r67=>
 if r67 then
 e14 c d x10 300>>=fun r70=>
 if r70.2.2 != 0 then
 e5 c>>=fun r73=>
 some r73
 else
 if r70.1.k==4 then
 e5 c>>=fun r76=>
 some r76
 else
 e15 c r70.1>>=fun r78=>
 if r78.k==6 then
 e8 c d r78.n 2>>=fun r81=>
 if r81 then
 zP d r78.n>>=fun x84=>
 if x84.fam != p then
 e5 c>>=fun r87=>
 some r87
 else
 e16 c d r17.1 x10 400>>=fun r89=>
 if r89.1 then
 if r89.2.2 != 0 then
 e5 c>>=fun r93=>
 some r93
 else
 e5 c>>=fun r95=>
 some r95
 else
 if r89.2.2 != 0 then
 e5 c>>=fun r98=>
 some r98
 else
 some false
 else
 e16 c d r17.1 x10 400>>=fun r100=>
 if r100.1 then
 if r100.2.2 != 0 then
 e5 c>>=fun r104=>
 some r104
 else
 e5 c>>=fun r106=>
 some r106
 else
 if r100.2.2 != 0 then
 e5 c>>=fun r109=>
 some r109
 else
 some false
 else
 e16 c d r17.1 x10 400>>=fun r111=>
 if r111.1 then
 if r111.2.2 != 0 then
 e5 c>>=fun r115=>
 some r115
 else
 e5 c>>=fun r117=>
 some r117
 else
 if r111.2.2 != 0 then
 e5 c>>=fun r120=>
 some r120
 else
 some false
 else
 some false
 else
 if r17.2==2 then
 if r17.1.k==0 then
 e5 c>>=fun r124=>
 some r124
 else
 some false
 else
 some false
def jJ:Nat->zY->Int->Two->Tm->(Tm×Int)->Bool->Int->Option Bool
 |0,_,_,_,_,_,_,_=>none
 |c+1,d,p,e,x10,r17,t,q=>
 if t then
 if decide (q<(e.a.length:Int))then
 zP e.a q>>=fun x37=>
 e9 c x37>>=fun r39=>
 if r39 then
 jJ c d p e x10 r17 true (yN (q+1))
 else
 jJ c d p e x10 r17 false (yN (q+1))
 else
 zP d p>>=fun x42=>
 zP x42.cons 0>>=fun x44=>
 e11 c x44>>=fun r46=>
 e10 c r46 e.a>>=fun r48=>
 W9 c d p e x10 r17 0 r48.k r48.n r48.sub
 else
 if decide (q<(e.a.length:Int))then
 jJ c d p e x10 r17 false (yN (q+1))
 else
 if r17.2==5 then
 if r17.1.k==0 then
 e5 c>>=fun r53=>
 some r53
 else
 some false
 else
 some false
def e3(c:Nat)(d:zY)(p:Int)(e:Two):Option Bool:=
 if decide ((d.length:Int)>60)then
 e5 c>>=fun r2=>
 some r2
 else
 if decide ((e.a.length:Int)>30)then
 e5 c>>=fun r5=>
 some r5
 else
 if (e.b.length:Int) != 1 then
 e5 c>>=fun r8=>
 some r8
 else
 zP e.b 0>>=fun x10=>
 e4 c x10>>=fun r12=>
 if decide (r12>100)then
 e5 c>>=fun r15=>
 some r15
 else
 e6 c d p e.a x10>>=fun r17=>
 e7 c d>>=fun r19=>
 if r19 then
 e8 c d p 1>>=fun r22=>
 if r22 then
 zP d p>>=fun x25=>
 if (x25.fields.length:Int)==0 then
 if r17.2==16 then
 if r17.1.k==0 then
 e5 c>>=fun r30=>
 some r30
 else
 some false
 else
 some false
 else
 if (e.a.length:Int)==x25.pars then
 e9 c x10>>=fun r33=>
 if r33 then
 jJ c d p e x10 r17 true 0
 else
 jJ c d p e x10 r17 false 0
 else
 jJ c d p e x10 r17 false 0
 else
 if r17.2==16 then
 if r17.1.k==0 then
 e5 c>>=fun r38=>
 some r38
 else
 some false
 else
 some false
 else
 if r17.2==5 then
 if r17.1.k==0 then
 e5 c>>=fun r42=>
 some r42
 else
 some false
 else
 some false
theorem q3:Qf 3 Tryz.f3:=⟨func3,rfl⟩
theorem zZR:∀c:Nat,(∀ {d p e x10 r17 s f g m r},W9 c d p e x10 r17 s f g m=some r->(∀j,dL 0 (pt 1073741749 Tryz.f3) (sp j 244 0 [(0,zH yA d .no),(1,ai p),(7,zH zC e.a .no),(8,.mp 0 0),(9,.mp 1 0),(10,ai r17.2),(13,.mp 2 0),(14,ai s)]) (⟨[(0,.cells [ai x10.k,ai x10.n,zH zC x10.sub .no]),(1,.cells [ai r17.1.k,ai r17.1.n,zH zC r17.1.sub .no]),(2,.cells [ai f,ai g,zH zC m .no])],3,[],0,[]⟩) (fQ 0 (nQ 0 Tryz.f3 (ab r) [] 0) [.blk 2,.seq (pt 16777215 Tryz.f3)]))):=by
 intro c
 induction c with
 |zero=>
  exact fun h=>nn h
 |succ c ih=>
  intro d p e x10 r17 s f g m r h
  rw[W9]at h
  obtain⟨x50,h51,h⟩:=zB h
  have k:=oA 0 (xK (o:=.no) h51) o0
  obtain⟨h52,h⟩|⟨h52,h⟩:=zK h
  obtain⟨x53,h54,h⟩:=zB h
  obtain⟨r55,h56,h⟩:=zB h
  obtain⟨r57,h58,h⟩:=zB h
  obtain⟨r59,h60,h⟩:=zB h
  obtain⟨r61,h62,h⟩:=zB h
  exact fun j=>lH 2 [] [0,1,2] [] [0,1,7,8,9,10,13,14] (oD (dT e.a)<|oD (dE d)<|oD (dT r61.sub)<|oD (dT r17.1.sub)<|oD (dT x10.sub)<|oC 0 [] (c12 h62)<|oS 0 (wC wL [r59])<|oC 0 [] (c12 h60)<|oS 1 (wC wL [x10])<|oC 0 [] (u6 h58)<|oC 1 [] (c11 h56)<|oA 1 (uH (o:=.no) h54)<|oA 1 (xK (o:=.no) h51)<|oB 2 h52 k) (ih h)
  obtain⟨r63,h64,h⟩:=zB h
  have k:=oB 2 h52 k
  obtain⟨h65,h⟩|⟨h65,h⟩:=zK h
  have k:=oK 1 [] h65 (c9 h64) k
  obtain⟨h66,h⟩|⟨h66,h⟩:=zK h
  obtain rfl:=sj h
  exact fun j=>lF 0 [] (oB 1 h66 k)
  obtain⟨r67,h68,h⟩:=zB h
  have k:=oB 1 h66 k
  obtain⟨h69,h⟩|⟨h69,h⟩:=zK h
  obtain⟨r70,h71,h⟩:=zB h
  have k:=oC 2 [] (c14 h71)<|oK 2 [] h69 (c13 h68) k
  obtain⟨h72,h⟩|⟨h72,h⟩:=zK h
  obtain⟨r73,h74,h⟩:=zB h
  obtain rfl:=sj h
  exact fun j=>lF 0 [] (oC 0 [] (c5 h74)<|oB 4 h72 k)
  have k:=oB 4 h72 k
  obtain⟨h75,h⟩|⟨h75,h⟩:=zK h
  obtain⟨r76,h77,h⟩:=zB h
  obtain rfl:=sj h
  exact fun j=>lF 0 [] (oC 0 [] (c5 h77)<|oB 1 h75 k)
  obtain⟨r78,h79,h⟩:=zB h
  have k:=oC 1 [] (c15 h79)<|oB 1 h75 k
  obtain⟨h80,h⟩|⟨h80,h⟩:=zK h
  obtain⟨r81,h82,h⟩:=zB h
  have k:=oB 2 h80 k
  obtain⟨h83,h⟩|⟨h83,h⟩:=zK h
  obtain⟨x84,h85,h⟩:=zB h
  have k:=oA 1 (xK (o:=.no) h85)<|oK 1 [] h83 (c8 h82) k
  obtain⟨h86,h⟩|⟨h86,h⟩:=zK h
  obtain⟨r87,h88,h⟩:=zB h
  obtain rfl:=sj h
  exact fun j=>lF 0 [] (oC 0 [] (c5 h88)<|oB 1 h86 k)
  obtain⟨r89,h90,h⟩:=zB h
  have k:=oC 2 [] (c16 h90)<|oB 1 h86 k
  obtain⟨h91,h⟩|⟨h91,h⟩:=zK h
  have k:=oB 0 h91 k
  obtain⟨h92,h⟩|⟨h92,h⟩:=zK h
  obtain⟨r93,h94,h⟩:=zB h
  obtain rfl:=sj h
  exact fun j=>lF 0 [] (oC 0 [] (c5 h94)<|oB 2 h92 k)
  obtain⟨r95,h96,h⟩:=zB h
  obtain rfl:=sj h
  exact fun j=>lF 0 [] (oC 0 [] (c5 h96)<|oB 2 h92 k)
  have k:=oB 0 h91 k
  obtain⟨h97,h⟩|⟨h97,h⟩:=zK h
  obtain⟨r98,h99,h⟩:=zB h
  obtain rfl:=sj h
  exact fun j=>lF 0 [] (oC 0 [] (c5 h99)<|oB 2 h97 k)
  obtain rfl:=sj h
  exact fun j=>lF 0 [] (oB 2 h97 k)
  obtain⟨r100,h101,h⟩:=zB h
  have k:=oC 2 [] (c16 h101)<|oK 1 [] h83 (c8 h82) k
  obtain⟨h102,h⟩|⟨h102,h⟩:=zK h
  have k:=oB 0 h102 k
  obtain⟨h103,h⟩|⟨h103,h⟩:=zK h
  obtain⟨r104,h105,h⟩:=zB h
  obtain rfl:=sj h
  exact fun j=>lF 0 [] (oC 0 [] (c5 h105)<|oB 2 h103 k)
  obtain⟨r106,h107,h⟩:=zB h
  obtain rfl:=sj h
  exact fun j=>lF 0 [] (oC 0 [] (c5 h107)<|oB 2 h103 k)
  have k:=oB 0 h102 k
  obtain⟨h108,h⟩|⟨h108,h⟩:=zK h
  obtain⟨r109,h110,h⟩:=zB h
  obtain rfl:=sj h
  exact fun j=>lF 0 [] (oC 0 [] (c5 h110)<|oB 2 h108 k)
  obtain rfl:=sj h
  exact fun j=>lF 0 [] (oB 2 h108 k)
  obtain⟨r111,h112,h⟩:=zB h
  have k:=oC 2 [] (c16 h112)<|oB 2 h80 k
  obtain⟨h113,h⟩|⟨h113,h⟩:=zK h
  have k:=oB 0 h113 k
  obtain⟨h114,h⟩|⟨h114,h⟩:=zK h
  obtain⟨r115,h116,h⟩:=zB h
  obtain rfl:=sj h
  exact fun j=>lF 0 [] (oC 0 [] (c5 h116)<|oB 2 h114 k)
  obtain⟨r117,h118,h⟩:=zB h
  obtain rfl:=sj h
  exact fun j=>lF 0 [] (oC 0 [] (c5 h118)<|oB 2 h114 k)
  have k:=oB 0 h113 k
  obtain⟨h119,h⟩|⟨h119,h⟩:=zK h
  obtain⟨r120,h121,h⟩:=zB h
  obtain rfl:=sj h
  exact fun j=>lF 0 [] (oC 0 [] (c5 h121)<|oB 2 h119 k)
  obtain rfl:=sj h
  exact fun j=>lF 0 [] (oB 2 h119 k)
  obtain rfl:=sj h
  exact fun j=>lF 1 [] (oK 2 [] h69 (c13 h68) k)
  have k:=oK 1 [] h65 (c9 h64) k
  obtain⟨h122,h⟩|⟨h122,h⟩:=zK h
  have k:=oB 1 h122 k
  obtain⟨h123,h⟩|⟨h123,h⟩:=zK h
  obtain⟨r124,h125,h⟩:=zB h
  obtain rfl:=sj h
  exact fun j=>lF 0 [] (oC 0 [] (c5 h125)<|oB 1 h123 k)
  obtain rfl:=sj h
  exact fun j=>lF 0 [] (oB 1 h123 k)
  obtain rfl:=sj h
  exact fun j=>lF 0 [] (oB 1 h122 k)
theorem zOj:∀c:Nat,(∀ {d p e x10 r17 t q r},jJ c d p e x10 r17 t q=some r->(∀j,dL 0 (pt 16777141 Tryz.f3) (sp j 244 0 [(0,zH yA d .no),(1,ai p),(7,zH zC e.a .no),(8,.mp 0 0),(9,.mp 1 0),(10,ai r17.2),(11,ab t),(12,ai q)]) (⟨[(0,.cells [ai x10.k,ai x10.n,zH zC x10.sub .no]),(1,.cells [ai r17.1.k,ai r17.1.n,zH zC r17.1.sub .no])],2,[],0,[]⟩) (fQ 0 (nQ 0 Tryz.f3 (ab r) [] 0) [.blk 0,.seq (pt 262143 Tryz.f3)]))):=by
 intro c
 induction c with
 |zero=>
  exact fun h=>nn h
 |succ c ih=>
  intro d p e x10 r17 t q r h
  rw[jJ]at h
  have z {os ob} (k:Oz os ob):=oD (dT e.a)<|oD (dE d)<|oD (dT r17.1.sub)<|oD (dT x10.sub)<|k
  cases t
  replace h:=ifF rfl h
  obtain⟨h50,h⟩|⟨h50,h⟩:=zK h
  exact fun j=>lH 1 [] [0,1] [] [0,1,7,8,9,10,11,12] (z<|oB 1 h50 o0) (ih h)
  have k:=oB 1 h50 o0
  obtain⟨h51,h⟩|⟨h51,h⟩:=zK h
  have k:=oB 1 h51 k
  obtain⟨h52,h⟩|⟨h52,h⟩:=zK h
  obtain⟨r53,h54,h⟩:=zB h
  obtain rfl:=sj h
  exact fun j=>lF 0 [] (oC 0 [] (c5 h54)<|oB 1 h52 k)
  obtain rfl:=sj h
  exact fun j=>lF 0 [] (oB 1 h52 k)
  obtain rfl:=sj h
  exact fun j=>lF 0 [] (oB 1 h51 k)
  replace h:=ifT rfl h
  obtain⟨h36,h⟩|⟨h36,h⟩:=zK h
  obtain⟨x37,h38,h⟩:=zB h
  obtain⟨r39,h40,h⟩:=zB h
  have k:=oA 0 (xH (o:=.no) h38)<|oB 1 h36 o0
  obtain⟨h41,h⟩|⟨h41,h⟩:=zK h
  exact fun j=>lH 1 [] [0,1] [] [0,1,7,8,9,10,11,12] (z<|oK 1 [] h41 (c9 h40) k) (ih h)
  exact fun j=>lH 1 [] [0,1] [] [0,1,7,8,9,10,11,12] (z<|oK 1 [] h41 (c9 h40) k) (ih h)
  obtain⟨x42,h43,h⟩:=zB h
  obtain⟨x44,h45,h⟩:=zB h
  obtain⟨r46,h47,h⟩:=zB h
  obtain⟨r48,h49,h⟩:=zB h
  exact fun j=>lH 1 [] [0,1,2] [] [0,1,7,8,9,10,13,14] (oD (dT e.a)<|oD (dE d)<|oD (dT r48.sub)<|oD (dT r17.1.sub)<|oD (dT x10.sub)<|oC 0 [] (u6 h49)<|oC 1 [] (c11 h47)<|oA 1 (uH (o:=.no) h45)<|oA 1 (xK (o:=.no) h43)<|oB 1 h36 o0) (zZR _ h)
theorem c3{c d p e r}(h:e3 c d p e=some r):Ct 3 [] [zH yA d .no,ai p,yAc e] (ab r) [] 0:=⟨by
 unfold e3 at h
 obtain⟨h1,h⟩|⟨h1,h⟩:=zK h
 obtain⟨r2,h3,h⟩:=zB h
 obtain rfl:=sj h
 exact tF q3 0 [] (oC 0 [] (c5 h3)<|oB 3 h1 o0)
 have k:=oB 3 h1 o0
 obtain⟨h4,h⟩|⟨h4,h⟩:=zK h
 obtain⟨r5,h6,h⟩:=zB h
 obtain rfl:=sj h
 exact tF q3 0 [] (oC 0 [] (c5 h6)<|oB 1 h4 k)
 have k:=oB 1 h4 k
 obtain⟨h7,h⟩|⟨h7,h⟩:=zK h
 obtain⟨r8,h9,h⟩:=zB h
 obtain rfl:=sj h
 exact tF q3 0 [] (oC 0 [] (c5 h9)<|oB 3 h7 k)
 obtain⟨x10,h11,h⟩:=zB h
 obtain⟨r12,h13,h⟩:=zB h
 have k:=oC 1 [] (c4 h13)<|oA 2 (xH (o:=.no) h11)<|oB 3 h7 k
 obtain⟨h14,h⟩|⟨h14,h⟩:=zK h
 obtain⟨r15,h16,h⟩:=zB h
 obtain rfl:=sj h
 exact tF q3 0 [] (oC 0 [] (c5 h16)<|oB 0 h14 k)
 obtain⟨r17,h18,h⟩:=zB h
 obtain⟨r19,h20,h⟩:=zB h
 have k:=oC 3 [] (c6 h18)<|oA 2 (xH (o:=.no) h11)<|oB 0 h14 k
 obtain⟨h21,h⟩|⟨h21,h⟩:=zK h
 obtain⟨r22,h23,h⟩:=zB h
 have k:=oK 3 [] h21 (c7 h20) k
 obtain⟨h24,h⟩|⟨h24,h⟩:=zK h
 obtain⟨x25,h26,h⟩:=zB h
 have k:=oA 1 (xK (o:=.no) h26)<|oK 1 [] h24 (c8 h23) k
 obtain⟨h27,h⟩|⟨h27,h⟩:=zK h
 have k:=oB 2 h27 k
 obtain⟨h28,h⟩|⟨h28,h⟩:=zK h
 have k:=oB 0 h28 k
 obtain⟨h29,h⟩|⟨h29,h⟩:=zK h
 obtain⟨r30,h31,h⟩:=zB h
 obtain rfl:=sj h
 exact tF q3 0 [] (oC 0 [] (c5 h31)<|oB 1 h29 k)
 obtain rfl:=sj h
 exact tF q3 0 [] (oB 1 h29 k)
 obtain rfl:=sj h
 exact tF q3 0 [] (oB 0 h28 k)
 have k:=oA 1 (xK (o:=.no) h26)<|oB 2 h27 k
 obtain⟨h32,h⟩|⟨h32,h⟩:=zK h
 obtain⟨r33,h34,h⟩:=zB h
 have k:=oB 1 h32 k
 obtain⟨h35,h⟩|⟨h35,h⟩:=zK h
 exact tH q3 0 [] [1,2] [] [0,1,7,8,9,10,11,12] (oD (dT e.a)<|oD (dE d)<|oD (dT r17.1.sub)<|oD (dT x10.sub)<|oK 1 [] h35 (c9 h34) k) (zOj _ h)
 exact tH q3 0 [] [1,2] [] [0,1,7,8,9,10,11,12] (oD (dT e.a)<|oD (dE d)<|oD (dT r17.1.sub)<|oD (dT x10.sub)<|oK 1 [] h35 (c9 h34) k) (zOj _ h)
 exact tH q3 0 [] [1,2] [] [0,1,7,8,9,10,11,12] (oD (dT e.a)<|oD (dE d)<|oD (dT r17.1.sub)<|oD (dT x10.sub)<|oB 1 h32 k) (zOj _ h)
 have k:=oK 1 [] h24 (c8 h23) k
 obtain⟨h36,h⟩|⟨h36,h⟩:=zK h
 have k:=oB 1 h36 k
 obtain⟨h37,h⟩|⟨h37,h⟩:=zK h
 obtain⟨r38,h39,h⟩:=zB h
 obtain rfl:=sj h
 exact tF q3 0 [] (oC 0 [] (c5 h39)<|oB 1 h37 k)
 obtain rfl:=sj h
 exact tF q3 0 [] (oB 1 h37 k)
 obtain rfl:=sj h
 exact tF q3 0 [] (oB 1 h36 k)
 have k:=oK 3 [] h21 (c7 h20) k
 obtain⟨h40,h⟩|⟨h40,h⟩:=zK h
 have k:=oB 1 h40 k
 obtain⟨h41,h⟩|⟨h41,h⟩:=zK h
 obtain⟨r42,h43,h⟩:=zB h
 obtain rfl:=sj h
 exact tF q3 0 [] (oC 0 [] (c5 h43)<|oB 1 h41 k)
 obtain rfl:=sj h
 exact tF q3 0 [] (oB 1 h41 k)
 obtain rfl:=sj h
 exact tF q3 0 [] (oB 1 h40 k),⟨⟨tv,dE _⟩,tv,⟨⟨tv,dT _⟩,⟨tv,dT _⟩,tv⟩,tv⟩,zA,tv,zA⟩
mutual
theorem zOi:∀(t:Tm) (b left:Int),xC t=true->(t.nodes:Int)≤left->∃k,fX [] t b left false=(t,k,false)∧left-t.nodes≤k
 | .mk kd n l,b,left,hg,hl=>by
  have hh:=wW hg
  have hn:((Tm.mk kd n l).nodes:Int)=1+yM l:=by rw[Tm.nodes];omega
  rw[fX,if_neg (by simp)]
  by_cases h1:kd=1∧b≤n
  ·rw[if_pos h1,dif_neg (by simp)]
   have e:l=[]:=(uO hh.1).2.2.2.2.2.2.2.1 (.inl h1.1)
   subst e
   refine⟨left,?_,by omega⟩
   rw[h1.1];simp
  ·rw[if_neg h1]
   obtain⟨k,e,hk⟩:=zIe l kd 0 b (left-1) hh.2 (by omega)
   have hd:decide (left-1<0)=false:=decide_eq_false (by omega)
   rw[hd]
   refine⟨k,?_,by omega⟩
   simp only[e]
theorem zIe:∀(l:List Tm) (kd:Int) (i:Nat) (b left:Int),wM l=true->(yM l:Int)≤left->∃k,bK [] l kd i b left false=(l,k,false)∧left-yM l≤k
 | [],kd,i,b,left,_,hl=>by rw[bK];exact⟨left,rfl,by rw[yM];omega⟩
 |t::l,kd,i,b,left,hg,hl=>by
  have hc:=xY hg
  have hn:(yM (t::l):Int)=t.nodes+yM l:=by rw[yM];omega
  obtain⟨k,e,hk⟩:=zOi t (tV kd i b) left hc.1 (by omega)
  obtain⟨k2,e2,hk2⟩:=zIe l kd (i+1) b k hc.2 (by omega)
  rw[bK]
  simp only[e,e2]
  exact⟨k2,rfl,by omega⟩
end
theorem zOh{t:Tm}(h:zI t=true):kE t []=(t,0):=by
 have hs:=zM h
 obtain⟨k,e,-⟩:=zOi t 0 8192 hs.2.2 (by omega)
 unfold kE
 rw[if_pos ⟨h,rfl⟩,e]
 simp[h]
theorem zOg(k:Int)(a b:Tm):zF (fun q=>e30 q k a b) (.mk k 0 [a,b]):=zF.mk fun _=>rfl
theorem X0:∀(r l:List Tm) (v:Nat) (f:Tm),l.drop v=r->l.length≤4294967296->zF (fun q=>cB q l (v:Int) f.k f.n f.sub) (uI f r)
 | [],l,v,f,hd,hl=>by
  refine zF.succ ?_
  simp only[cB,vW]
  exact zF.ifF (yO hd) (zF.ret.eq (by rw[uI]))
 |a::r,l,v,f,hd,hl=>by
  have hlt:=yT hd
  refine zF.succ ?_
  simp only[cB,vW]
  refine zF.ifT (yL hd) (zF.pure (yC hd) ((zOg 5 f a).bind ?_))
  rw[yB v (by omega),uI]
  exact X0 r l (v+1) (.mk 5 0 [f,a]) (zV hd) hl
theorem E1(f:Tm)(l:List Tm)(hl:l.length≤4294967296):zF (fun q=>e10 q f l) (uI f l):=by
 simp only[e10]
 exact X0 l l 0 f rfl hl
theorem zOf(f a:Tm):zF (fun q=>e12 q f [a]) (.mk 5 0 [f,a]):=by
 simp only[e12]
 exact(E1 f [a] (by simp)).bind (zF.ret.eq (by simp only[uI]))
theorem zKH(l:List yE)(r:Int){b:Bool}(h:zF (fun q=>e18 q l) b):zF (fun q=>e19 q l r) (b&&(mN l r 1&&decide (0<(zJ l r).fields.length))):=by
 simp only[e19]
 refine h.bind ?_
 cases b with
 |false=>exact zF.ifF rfl zF.ret
 |true=>
  refine zF.ifT rfl ((zMa l r 1).bind ?_)
  cases hi:mN l r 1 with
  |false=>exact zF.ifF rfl zF.ret
  |true=>
   have h:=xM hi
   exact zF.ifT rfl (zF.pure (yH h.1 h.2.1) (zF.ret.eq (by simp)))
def mW(w:Tm):Tm×Int:=if zI w=true then(w,0)else(zT,2)
theorem zId{f:Int}{pars:List Tm}{t:Tm}(hp:∀x∈pars,x.Ok)(ht:t.Ok):(rS f pars t).Ok:=by
 unfold rS
 exact mS (rM _ _ (wU 6 f) hp) ht
theorem zIc(pars:List Tm)(t:Tm)(x:yE)(hp:∀a∈pars,a.Ok)(hpl:pars.length≤30)(ht:t.Ok)(hx:x.fields.length≤17592186044416):∀(fs:List Int) (v:Nat) (g:Tm),x.fields.drop v=fs->g.Ok ->
  zF (fun q=>W8 q pars t x (v:Int) g.k g.n g.sub) (mW (uI g (fs.map fun f=>rS f pars t)))
 | [],v,g,hd,hg=>by
  refine zF.succ ?_
  simp only[W8,vW]
  refine zF.ifF (yO hd) ((xS g hg).bind ?_)
  simp only[List.map_nil,uI,mW]
  refine zF.iff (fun h=>?_) fun h=>?_
  ·rw[if_pos h]
   refine(zAL g [] hg (fun a h=>nomatch h) (by simp)).bind ?_
   rw[zOh h]
   exact zF.ret
  ·rw[if_neg (by rw[h];decide)]
   exact zF.ret
 |f::fs,v,g,hd,hg=>by
  have hlt:=yT hd
  refine zF.succ ?_
  simp only[W8,vW]
  refine zF.ifT (yL hd) (zF.pure (yC hd) (zF.bind (a:=.mk 6 f []) (zF.mk fun _=>rfl) ((sQ (.mk 6 f []) pars (by omega)).bind ((iF (uI (.mk 6 f []) pars) t).bind ((iF g (rS f pars t)).bind ?_)))))
  rw[yB v (by omega)]
  simp only[List.map_cons,uI]
  exact zIc pars t x hp hpl ht hx fs (v+1) (.mk 5 0 [g,rS f pars t]) (zV hd) (mS hg (zId hp ht))
def Z0(l:List yE)(r:Int)(pars:List Tm)(t:Tm):Tm:=uI (uI (.mk 6 (((zJ l r).cons)[0]?.getD 0) []) pars) ((zJ l r).fields.map fun f=>rS f pars t)
theorem zIb(l:List yE)(r:Int)(pars:List Tm)(t:Tm)(hr:mN l r 1=true)(hc:(zJ l r).cons≠[])(hfl:(zJ l r).fields.length≤17592186044416)(hp:∀a∈pars,a.Ok)(hpl:pars.length≤30)(ht:t.Ok):∀(ps:List Tm) (v:Nat) (b:Bool),pars.drop v=ps ->
  zF (fun q=>gA q l r pars t b (v:Int)) (if (b&&ps.all zI)=true then mW (Z0 l r pars t)else(zT,5))
 | [],v,b,hd=>by
  refine zF.succ ?_
  simp only[gA]
  cases b with
  |false=>exact zF.ifF rfl (zF.ifF (yO hd) zF.ret)
  |true=>
   refine zF.ifT rfl (zF.ifF (yO hd) ?_)
   have h:=xM hr
   refine zF.pure (yH h.1 h.2.1) ?_
   obtain⟨c,cs,e⟩:∃c cs,(zJ l r).cons=c::cs:=by
    cases hh:(zJ l r).cons with
    |nil=>exact absurd hh hc
    |cons c cs=>exact⟨c,cs,rfl⟩
   refine zF.pure (a:=c) (by rw[e];rfl) (zF.bind (a:=.mk 6 c []) (zF.mk fun _=>rfl) ((sQ (.mk 6 c []) pars (by omega)).bind ?_))
   have:=zIc pars t (zJ l r) hp hpl ht hfl (zJ l r).fields 0 (uI (.mk 6 c []) pars) rfl (rM _ _ (wU 6 c) hp)
   refine this.eq ?_
   simp only[List.all_nil,Bool.and_self,if_true]
   unfold Z0
   rw[e];rfl
 |a::ps,v,b,hd=>by
  have hlt:=yT hd
  refine zF.succ ?_
  simp only[gA]
  have ha:a.Ok:=hp a (List.mem_of_mem_drop (by rw[hd];simp))
  have ih:=fun b=>zIb l r pars t hr hc hfl hp hpl ht ps (v+1) b (zV hd)
  rw[show ((v+1:Nat):Int)=yN ((v:Int)+1)from(yB v (by omega)).symm]at ih
  cases b with
  |false=>
   refine zF.ifF rfl (zF.ifT (yL hd) (zF.pure (yC hd) ((ih false).eq ?_)))
   simp
  |true=>
   refine zF.ifT rfl (zF.ifT (yL hd) (zF.pure (yC hd) ((xS a ha).bind ?_)))
   refine zF.iff (fun h=>(ih true).eq ?_) fun h=>(ih false).eq ?_
   ·simp[h]
   ·simp[h]
def g7(l:List yE)(r:Int)(pars:List Tm)(t:Tm):Bool:=(pars.length:Int)==(zJ l r).pars&&zI t
theorem zWc(l:List yE)(r:Int)(pars:List Tm)(t:Tm){b:Bool}(hF:zF (fun q=>e18 q l) b)(hcn:b=true->mN l r 1=true->0<(zJ l r).fields.length->(zJ l r).cons≠[]∧(zJ l r).fields.length≤17592186044416)(hp:∀a∈pars,a.Ok)(hpl:pars.length≤30)(ht:t.Ok) :
  zF (fun q=>e6 q l r pars t) (if b=true then(if (mN l r 1&&decide (0<(zJ l r).fields.length))=true then(if (g7 l r pars t&&pars.all zI)=true then mW (Z0 l r pars t)else(zT,5))else(zT,16))else(zT,5)):=by
 simp only[e6]
 refine hF.bind ?_
 cases b with
 |false=>exact zF.ifF rfl zF.ret
 |true=>
  refine zF.ifT rfl ((zKH l r hF).bind ?_)
  cases hR:(mN l r 1&&decide (0<(zJ l r).fields.length))with
  |false=>exact zF.ifF rfl zF.ret
  |true=>
   have hR':=hR
   simp only[Bool.and_eq_true,decide_eq_true_eq]at hR'
   have h:=xM hR'.1
   have hk:=hcn rfl hR'.1 hR'.2
   have go:=fun b=>zIb l r pars t hR'.1 hk.1 hk.2 hp hpl ht pars 0 b rfl
   refine zF.ifT rfl (zF.pure (yH h.1 h.2.1) ?_)
   unfold g7
   refine zF.iff (fun h1=>(xS t ht).bind (zF.iff (fun h2=>(go true).eq ?_) fun h2=>(go false).eq ?_)) fun h1=>(go false).eq ?_
   ·simp[h1,h2]
   ·simp[h1,h2]
   ·simp[h1]
section
variable (l:List yE) (r:Int) (p:Two) (t:Tm) (X:Tm×Int) (aw0:zF (fun q=>e5 q) true)
include aw0
theorem zOe{N:ByteArray->Bool}(hE:vP N l)(he:∀e∈l,iH e)(hc:∀e∈l,ECl e)(hl:l.length≤60)(hnw:zF (fun q=>e32 q l) (zFN l true))(hr:mN l r 1=true)(hf:(zJ l r).fields≠[])(hfl:(zJ l r).fields.length≤17592186044416)(hp:∀a∈p.a,a.Ok)(hpl:p.a.length≤30)(ht:t.Ok)
  (hpp:(p.a.length:Int)=(zJ l r).pars) (W:Tm) (hW:W=Z0 l r p.a t) (hWo:W.Ok) (hX:X=mW W):∀(fs:List Int) (v:Nat) (g:Tm),(zJ l r).fields.drop v=fs->uI g (fs.map fun f=>rS f p.a t)=W->zF (fun q=>W9 q l r p t X (v:Int) g.k g.n g.sub) true
 |f::fs,v,g,hd,hg=>by
  have hlt:=yT hd
  have h:=xM hr
  refine zF.succ ?_
  simp only[W9,vW]
  refine zF.pure (yH h.1 h.2.1) (zF.ifT (yL hd) (zF.pure (yC hd) (zF.bind (a:=.mk 6 f []) (zF.mk fun _=>rfl) ((E1 (.mk 6 f []) p.a (by omega)).bind ((zOf (uI (.mk 6 f []) p.a) t).bind ((zOf g (rS f p.a t)).bind ?_))))))
  rw[yB v (by omega)]
  refine zOe hE he hc hl hnw hr hf hfl hp hpl ht hpp W hW hWo hX fs (v+1) (.mk 5 0 [g,rS f p.a t]) (zV hd) ?_
  rw[←hg,List.map_cons,uI]
 | [],v,g,hd,hg=>by
  have h:=xM hr
  have aw:zF (fun q=>e5 q>>=fun r=>some r) true:=aw0.bind zF.ret
  rw[List.map_nil,uI]at hg
  subst hg
  refine zF.succ ?_
  simp only[W9,vW]
  refine zF.pure (yH h.1 h.2.1) (zF.ifF (yO hd) ((qJ g hWo).bind (zF.iff (fun hs=>?_) fun hs=>?_)))
  ·have hX1:X=(g,0):=by rw[hX];unfold mW;rw[if_pos hs]
   subst hX1
   refine zF.ifF rfl ((m5 g hWo).bind (zF.ifT rfl ?_))
   rcases zNb l hnw hE he t ht 300 (by omega) (by omega)with⟨y,e,kk,k0,k1,hxx,hgd⟩|⟨r',h1,h2⟩
   ·refine(hgd 300 k1 (by omega)).bind ?_
    by_cases e0:e=0
    ·subst e0
     obtain⟨hR,hbr⟩:xZ l t∧Br l t y 0 kk:=by
      rcases hxx with⟨-,h⟩|h
      ·exact absurd h (by decide)
      ·exact h
     have hsy:=hbr.shaped hR.shaped rfl
     rw[if_pos rfl]
     refine zF.ifF rfl (zF.iff (fun _=>aw) fun h4=>?_)
     have h4:y.k≠4:=by simpa using h4
     refine zF.bind (a:=zX y) (by simp only[e15];exact D9 y.nodes y (zM hsy).2.2 (Nat.le_refl _)) ?_
     obtain⟨z,hz,hz'⟩:∃z:Bool×Int×Int,zF (fun q=>e16 q l g t 400) z∧((vZ l y->(zJ l (zX y).n).fam=r)->z.2.2=0->z.1=true):=by
      obtain⟨z,h1,h2⟩:=zQY l hnw hE he (by omega) hc g t hWo ht 400 (by omega) (by omega)
      refine⟨z,h1,fun hy h=>?_⟩
      obtain⟨k,c⟩:=h2 h
      obtain⟨c',a1,-⟩:=K1 hE hr hf
      refine Cv.eta hE (r:=r) (c:=c') (pars:=p.a) hr hf a1 hpp hbr h4 hy (b:=z.1) (k:=k) ?_
      rw[hW]at c
      unfold Z0 at c
      rw[a1]at c
      exact c
     have tail:(vZ l y->(zJ l (zX y).n).fam=r)->zF (fun q=>if z.1=true then(if (z.2.2 != 0)=true then e5 q>>=fun r=>some r else e5 q>>=fun r=>some r)else if (z.2.2 != 0)=true then e5 q>>=fun r=>some r else some false) true:=fun hy=>by
      refine zF.iff (fun _=>zF.iff (fun _=>aw) fun _=>aw) fun hz1=>zF.ifT ?_ aw
      have:z.2.2≠0:=fun e=>by rw[hz' hy e]at hz1;cases hz1
      simpa using this
     refine zF.iff (fun h6=>?_) fun h6=>hz.bind (tail fun hcy=>?_)
     ·refine(zBB l (zX y).n 2).bind (zF.iff (fun hi=>?_) fun hi=>hz.bind (tail fun hcy=>?_))
      ·have hi':=xM hi
       refine zF.pure (yH hi'.1 hi'.2.1) (zF.iff (fun _=>aw) fun hfm=>hz.bind (tail fun _=>?_))
       simpa using hfm
      ·have hcs:=tZ hsy hcy
       have:mN l (zX y).n 2=true:=by
        unfold mN
        simp[hcs.1,hcs.2.1,hcs.2.2.1]
       rw[this]at hi;cases hi
     ·have hk:=hcy.1
      unfold vY at hk
      rw[if_neg (by simpa using h6)]at hk
      exact absurd hk (by decide)
    ·rw[if_neg e0]
     exact zF.ifT (by simpa using e0) aw
   ·exact h1.bind (zF.ifT (by simp[show r'.2.2=8 from h2]) aw)
  ·have hX1:X=(zT,2):=by rw[hX];unfold mW;rw[if_neg (by rw[hs];decide)]
   subst hX1
   exact zF.ifT rfl (zF.ifT rfl aw)
end
section
variable (l:List yE) (r:Int) (p:Two) (t:Tm) (X:Tm×Int) (aw0:zF (fun q=>e5 q) true)
include aw0
theorem zOd{N:ByteArray->Bool}(hE:vP N l)(he:∀e∈l,iH e)(hc:∀e∈l,ECl e)(hl:l.length≤60)(hnw:zF (fun q=>e32 q l) (zFN l true))(hr:mN l r 1=true)(hf:(zJ l r).fields≠[])(hfl:(zJ l r).fields.length≤17592186044416)(hp:∀a∈p.a,a.Ok)(hpl:p.a.length≤30)(ht:t.Ok)
  (W:Tm) (hW:W=Z0 l r p.a t) (hWo:W.Ok):∀(ps:List Tm) (v:Nat) (b:Bool),p.a.drop v=ps->(b=true->(p.a.length:Int)=(zJ l r).pars)->X=(if (b&&ps.all zI)=true then mW W else(zT,5))->zF (fun q=>jJ q l r p t X b (v:Int)) true
 | [],v,false,hd,_,hX=>by
  have aw:zF (fun q=>e5 q>>=fun r=>some r) true:=aw0.bind zF.ret
  have hX1:X=(zT,5):=hX
  subst hX1
  refine zF.succ ?_
  simp only[jJ]
  exact zF.ifF rfl (zF.ifF (yO hd) (zF.ifT rfl (zF.ifT rfl aw)))
 | [],v,true,hd,hpp,hX=>by
  have hX1:X=mW W:=hX
  refine zF.succ ?_
  simp only[jJ]
  have h:=xM hr
  obtain⟨c,a1,-⟩:=K1 hE hr hf
  refine zF.ifF (yO hd) (zF.pure (yH h.1 h.2.1) (zF.pure (a:=c) (by rw[a1];rfl) (zF.bind (a:=Tm.mk 6 c []) (zF.mk fun _=>rfl) ((E1 (.mk 6 c []) p.a (by omega)).bind ?_))))
  refine zOe l r p t X aw0 hE he hc hl hnw hr hf hfl hp hpl ht (hpp rfl) W hW hWo hX1 (zJ l r).fields 0 (uI (.mk 6 c []) p.a) rfl ?_
  rw[hW];unfold Z0;rw[a1];rfl
 |a::ps,v,b,hd,hpp,hX=>by
  have hlt:=yT hd
  have ha:a.Ok:=hp a (List.mem_of_mem_drop (by rw[hd];simp))
  have ih:=fun b hpp hX=>zOd hE he hc hl hnw hr hf hfl hp hpl ht W hW hWo ps (v+1) b (zV hd) hpp hX
  rw[show ((v+1:Nat):Int)=yN ((v:Int)+1)from(yB v (by omega)).symm]at ih
  refine zF.succ ?_
  simp only[jJ]
  cases b with
  |false=>exact zF.ifF rfl (zF.ifT (yL hd) (ih false (fun h=>nomatch h) (by rw[hX];simp)))
  |true=>
   refine zF.ifT rfl (zF.ifT (yL hd) (zF.pure (yC hd) ((qJ a ha).bind (zF.iff (fun h=>ih true hpp ?_) fun h=>ih false (fun h=>nomatch h) ?_))))
   ·rw[hX];simp[h]
   ·rw[hX];simp[h]
theorem Z1(he:∀e∈l,iH e)(hc:∀e∈l,ECl e)(hp:∀a∈p.a,a.Ok)(hq:∀a∈p.b,a.Ok):zF (fun q=>e3 q l r p) true:=by
 have aw:zF (fun q=>e5 q>>=fun r=>some r) true:=aw0.bind zF.ret
 simp only[e3]
 refine zF.iff (fun _=>aw) fun h60=>zF.iff (fun _=>aw) fun h30=>zF.iff (fun _=>aw) fun hb1=>?_
 have h60:=of_decide_eq_false h60
 have h30:=of_decide_eq_false h30
 have hb1:p.b.length=1:=by simp at hb1;omega
 obtain⟨t,hbt⟩:∃t,p.b=[t]:=by
  rcases hh:p.b with _|⟨t,_|⟨u,s⟩⟩<;>rw[hh]at hb1<;>simp at hb1
  exact⟨t,rfl⟩
 have ht:t.Ok:=hq t (by rw[hbt];simp)
 refine zF.pure (a:=t) (by rw[hbt];rfl) ((zDS t).bind (zF.iff (fun _=>aw) fun _=>?_))
 obtain⟨N,hN⟩:=zDb
 obtain⟨b,hF,hA,hnw⟩:=zPY N hN l (by omega) he hc
 have hcn:b=true->mN l r 1=true->0<(zJ l r).fields.length->(zJ l r).cons≠[]∧(zJ l r).fields.length≤17592186044416:=fun hb hr hf=>by
  have hE:=hA hb
  obtain⟨c,a1,-⟩:=K1 hE hr (fun e=>by rw[e]at hf;simp at hf)
  refine⟨by rw[a1];simp,?_⟩
  have h:=xM hr
  exact(hc _ (uW h.1 h.2.1)).2
 refine(zWc l r p.a t hF hcn hp (by omega) ht).bind ((zBD l (by omega) he hF).bind ?_)
 cases b with
 |false=>exact zF.ifF rfl (zF.ifT rfl (zF.ifT rfl aw))
 |true=>
  have hE:=hA rfl
  have hnw:zF (fun q=>e32 q l) (zFN l true):=hnw
  refine zF.ifT rfl ((zBB l r 1).bind ?_)
  cases hi:mN l r 1 with
  |false=>exact zF.ifF rfl (zF.ifT rfl (zF.ifT rfl aw))
  |true=>
   have h:=xM hi
   refine zF.ifT rfl (zF.pure (yH h.1 h.2.1) (zF.iff (fun hf=>?_) fun hf=>?_))
   ·have hf0:(zJ l r).fields.length=0:=by simpa using hf
    rw[hf0]
    exact zF.ifT rfl (zF.ifT rfl aw)
   ·have hf0:(zJ l r).fields≠[]:=fun e=>by rw[e]at hf;simp at hf
    have hfp:0<(zJ l r).fields.length:=by
     rcases hh:(zJ l r).fields with _|⟨x,s⟩
     ·exact absurd hh hf0
     ·simp
    have hk:=hcn rfl hi hfp
    have hWo:(Z0 l r p.a t).Ok:=rM _ _ (rM _ _ (wU 6 _) hp) fun x hx=>by
     obtain⟨f,-,rfl⟩:=List.mem_map.1 hx
     exact zId hp ht
    have go:=fun b hpp hX=>zOd l r p t (if (g7 l r p.a t&&p.a.all zI)=true then mW (Z0 l r p.a t)else(zT,5)) aw0 hE he hc (by omega) hnw hi hf0 hk.2 hp (by omega) ht (Z0 l r p.a t) rfl hWo p.a 0 b rfl hpp hX
    rw[decide_eq_true hfp,Bool.and_self,if_pos rfl,if_pos rfl]
    refine zF.iff (fun h1=>(qJ t ht).bind (zF.iff (fun h2=>go true (fun _=>by simpa using h1) ?_) fun h2=>go false (fun h=>nomatch h) ?_)) fun h1=>go false (fun h=>nomatch h) ?_
    ·unfold g7;simp[h1,h2]
    ·unfold g7;simp[h2]
    ·unfold g7;simp[h1]
end
theorem zSn(q:Nat):e5 (q+100)=some true:=by kernel_rfl
theorem zGG:zF (fun q=>e5 q) true:=⟨100,fun q hq=>by
 obtain⟨k,rfl⟩:∃k,q=k+100:=⟨q-100,by omega⟩
 exact zSn k⟩
theorem zWb{l:List yE}(h:∀e∈l,RdE e):∀e∈l,iH e:=fun e he=>⟨(h e he).1,(h e he).2.1,Nat.le_trans (h e he).2.2.1 (by decide),Nat.le_trans (h e he).2.2.2 (by decide)⟩
theorem zWa{l:List yE}(h:∀e∈l,RdE e):∀e∈l,ECl e:=fun e he=>⟨(h e he).2.2.1,(h e he).2.2.2⟩
theorem zGH:∀l:List Tm,nF l->uJ l
 | [],_=>uJ.nil
 |t::l,h=>fun x hx=>by
  rw[nF]at h
  rcases List.mem_cons.1 hx with rfl|hx
  ·exact h.1
  ·exact zGH l h.2 x hx
theorem Z2(l:List yE)(r:Int)(p:Two)(w0:∀e∈l,RdE e)(_w1:(Lit.int .i64 r).wf=true)(w2:zLT p):CT prog 3 [] [.sl (zG yA l) l.length .no,.val (.int .i64 r),.agg (zIW p)] (ab true) [] 0:=by
 obtain⟨q,hq⟩:=(Z1 l r p zGG (zWb w0) (zWa w0) (zGH _ w2.1.1) (zGH _ w2.2.1)).at
 exact c3 hq
end Go.Proofs.YtcckelpaoefonaaGreat
