/- Parts of the proof that the law returns true: walks of the functions, plain laws. -/
import Derived.Test.YthncchbcdpbgaaaGreatAbB3
set_option linter.unusedVariables false
set_option linter.unusedSimpArgs false
set_option linter.unusedSectionVars false
namespace Go.Proofs.YthncchbcdpbgaaaGreat
open Go Go.Ab Go.Proofs.Tryz
def aM:Nat->ByteArray->(yH×Int×Int)->yH->(List zL)->Int->Option (List zL×Int×Int)
 |0,_,_,_,_,_=>none|c+1,b,r1,r4,d,a=>zSO c r1.1 r4 a>>=λr6=>if r6.2.1 then if decide (r6.2.2>=(r1.1.length:Int))then yW 32 d [(zL.mk 5 (⟨#[]⟩:ByteArray) (b.size:Int))]>>=λl10=>some (l10,(b.size:Int),0)else if decide ((d.length:Int)>=8192)then zM r4 r6.2.2>>=λx13=>some ([],x13,2)else zPi c r1.1 r4 r6.2.2>>=λr15=>if r15.2.1 then yW 32 d [r15.1]>>=λl18=>aM c b r1 r4 l18 r15.2.2 else some ([],r15.1.at_,1)else some ([],r6.1,1)
def zPh(c:Nat)(b:ByteArray):Option (List zL×Int×Int):=zLZ c b>>=λr1=>if r1.2.2 !=0 then some ([],r1.2.1,r1.2.2)else zPs c r1.1>>=λr4=>aM c b r1 r4 [] 0
theorem zPg:∀c:Nat,∀b r1 r4 d a,Lz (aM c b r1 r4 d a) 0 f104 (pt 65509 f104) (λj=>sp j 81 0 [(0,at' b),(8,.mp 0 0),(9,zB zH d (.st 0 3))]) ⟨[(0,.cells [zB zQ r1.1 .no,zB zQ r4 .no,ai a])],1,[0],1,[]⟩ (λr=>.tup [.sl (zI zH r.1) r.1.length .no,ai r.2.1,ai r.2.2]) (λ_=>[]) 0 [.blk 0,.seq (pt 4095 f104)]:=xC (λ_ _ _ _ _=>lN) λc ih=>λb r1 r4 d a=>lw λ_=>rC 0 [0] zXN λ_=>rB 1 (rB 4 (rW (λh11=>oP 2 (zLl h11 (by simp))) λ_=>lE 1)<|rB 1 (rA 2 (pZ (o:=.no)) λ_=>lE 1)<|rC 0 [0] zXP λ_=>rB 1 (rW (λh19=>oP 4 (zLl h19 (by simp))) λ_=>lH 0 [] [0] [1] [0,8,9] (ih _ _ _ _ _))<|lE 3)<|lE 1
theorem zXQ{c b}:Cz (zPh c b) 104 [] [at' b] (λr=>.tup [.sl (zI zH r.1) r.1.length .no,ai r.2.1,ai r.2.2]) (λ_=>[]) 0:=fw func104<|rC 0 [] zVg λ_=>rB 3 (fE 0)<|rC 0 [] zXJ λ_=>fH 0 [(none,9,3)] [0] [0] [0,8,9] (zPg _ _ _ _ _ _)
theorem j5:∀(l:List Int)(b:ByteArray),(l.foldl (λr n=>r.push (UInt8.ofNat n.toNat)) b).size=b.size+l.length|[],b=>rfl|x::l,b=>by rw[List.foldl_cons,j5 l,ByteArray.size_push,List.length_cons];omega
theorem E2(l:List Int):(rG l).size=l.length:=by unfold rG;rw[j5];show 0+_=_;omega
theorem j6{α:Type}{l:List α}{k:Nat}(x:α)(h:k<l.length):eW l k x=some (l.set k x):=by unfold eW;rw[if_pos h]
theorem j7{n v:Nat}(h:v<n):nS n (v:Int)=some v:=by unfold nS;rw[if_pos (by omega)];simp
theorem uX{α:Type}{l:List α}{i:Int}(h0:0<=i)(h1:i<l.length):∃x,zM l i=some x/\x∈l:=by
 unfold zM;rw[if_pos h0];have h:i.toNat<l.length:=by omega
 exact⟨_,List.getElem?_eq_getElem h,List.getElem_mem h⟩
theorem zFg(n:Int):zD (λq=>zFi q n) λr=>1<=r/\r<=4:=by simp only[zFi];repeat'(first|exact zD.ret (by simp)|refine zD.ite (λ_=>?_) (λ_=>?_))
theorem zDj(w:Int)(x:List U8)(hw:0<=w)(hx:x.length<=4):∀(m:Nat)(n:Int)(b:List U8),m<x.length->b.length=x.length->zD (λq=>fA q w x n (m:Int) b) λr=>r.1.size<=4|0,n,b,hm,hb=>by refine zD.succ ?_;simp only[fA];refine zD.ite (λh=>absurd (of_decide_eq_true h) (by simp)) λ_=>zD.pure (by unfold zOa;rw[if_neg (by omega)]) (zD.pure (j7 hm) (zD.pure (j6 _ (by rw[hb];exact hm)) (zD.pure (by unfold gtx;rw[if_pos (by rw[List.length_set];exact hb)]) (zD.ret ?_))));show(rG _).size<=4;rw[E2,List.length_set];omega|m+1,n,b,hm,hb=>by refine zD.succ ?_;simp only[fA];refine zD.ite (λ_=>zD.pure (j7 hm) (zD.pure (j6 _ (by omega)) ?_)) λh=>absurd (of_decide_eq_false h) (by omega);rw[show yI (((m+1:Nat):Int)-1)=(m:Int)by rw[zS (by omega) (by omega)];omega];exact zDj w x hw hx m _ _ (by omega) (by rw[List.length_set];exact hb)
theorem zHg(n:Int):zD (λq=>zMu q n) λr=>r.1.size<=4:=by
 simp only[zMu];refine(kU n).bind λ_ _=>zD.ite (λ_=>(zFg n).bind λw hw=>zD.ite (λ_=>zD.ret (by show(rG _).size<=4;rw[E2];simp)) λh=>?_) λ_=>zD.ret (by decide);have h1:w≠1:=by simpa using h
 refine zD.pure (by unfold gmk;rw[if_pos ⟨by omega,by omega⟩]) ?_;obtain⟨k,rfl⟩:∃k:Nat,w=(k+1:Nat):=⟨(w-1).toNat,by omega⟩;rw[show yI (((k+1:Nat):Int)-1)=(k:Int)by rw[zS (by omega) (by omega)];omega];exact zDj _ _ (by omega) (by simp;omega) k n _ (by simp) (by simp)
theorem j8:∀(r l:List Int)(v:Nat)(acc:List U8),l.drop v=r->l.length<=65535->acc.length<=65535->zD (λq=>fC q l (v:Int) acc) λr=>r.1.size<=65535
 |[],l,v,acc,hd,hl,ha=>by refine zD.succ ?_;simp only[fC];refine zD.ite (λh=>?_) λ_=>zD.ret (by show(rG _).size<=65535;rw[E2];exact ha);rw[yF hd]at h;cases h|x::r,l,v,acc,hd,hl,ha=>by
  have hlt:=yK hd;refine zD.succ ?_;simp only[fC];refine zD.ite (λ_=>zD.pure (yA hd) ((zHg x).bind λb hb=>zD.ite (λ_=>zD.ret (by decide)) λh=>?_)) λh=>by rw[yD hd]at h;cases h
  have h1:=of_decide_eq_false h;rw[zS (by omega) (by omega)]at h1;refine zD.pure (zW (by rw[kS];omega)) ?_;rw[zV v (by omega)];exact j8 r l (v+1) _ (zU hd) hl (by rw[List.length_append,kS];omega)
theorem j9:∀(r l:List Int)(v:Nat),l.drop v=r->l.length<=65535->zD (λq=>fD q l (v:Int)) λr=>r.1.size<=65535
 |[],l,v,hd,hl=>by refine zD.succ ?_;simp only[fD];refine zD.ite (λh=>?_) λ_=>j8 l l 0 [] rfl hl (by simp);rw[yF hd]at h;cases h|x::r,l,v,hd,hl=>by
  have hlt:=yK hd;refine zD.succ ?_;simp only[fD];refine zD.ite (λ_=>zD.pure (yA hd) ((kU x).bind λb _=>zD.ite (λ_=>?_) λ_=>zD.ret (by decide))) λh=>by rw[yD hd]at h;cases h
  rw[zV v (by omega)];exact j9 r l (v+1) (zU hd) hl
theorem zDi(l:List Int)(hl:l.length<=65535):zD (λq=>zBv q l) λr=>r.1.size<=65535:=by simp only[zBv];exact j9 l l 0 rfl hl
theorem aN:∀(r l:List Int)(v:Nat)(acc:List Int)(at0:Int),l.drop v=r->l.length<=65535->v<=l.length->acc.length=v->zD (λq=>fB q l (v:Int) acc at0) λr=>r.length=l.length
 |[],l,v,acc,a,hd,hl,hv,ha=>by
  refine zD.succ ?_;simp only[fB];refine zD.ite (λh=>?_) λh=>zD.ret ?_;·rw[yF hd]at h;cases h
  ·have:=List.drop_eq_nil_iff.1 hd;omega|x::r,l,v,acc,a,hd,hl,hv,ha=>by
  have hlt:=yK hd;refine zD.succ ?_;simp only[fB];refine zD.ite (λ_=>zD.pure (yA hd) (zD.pure (zW (by simp;omega)) ((zHg x).bind λb hb=>?_))) λh=>by rw[yD hd]at h;cases h
  rw[zV v (by omega)];exact aN r l (v+1) _ _ (zU hd) hl hlt (by simp[ha])
theorem zDh(l:List Int)(hl:l.length<=65535):zD (λq=>zPs q l) λr=>r.length=l.length:=by simp only[zPs];exact aN l l 0 [] 0 rfl hl (by omega) rfl
def sgT(S:List Int)(i:Int):Int:=if i>=S.length then-1 else(S[i.toNat]?).getD 0
theorem zJt(n:Int):zD (λq=>zPq q n) λ_=>True:=by simp only[zPq];repeat'(first|exact zD.ret trivial|refine zD.ite (λ_=>?_) (λ_=>?_))
theorem U4(n:Int):zD (λq=>zMr q n) λ_=>True:=by simp only[zMr];repeat'(first|exact zD.ret trivial|refine zD.ite (λ_=>?_) (λ_=>?_)|refine zD.bind (kV n) (λ_ _=>?_)|refine zD.bind (lQ n) (λ_ _=>?_))
theorem zFf(s:ByteArray)(pos:Nat):1<=(Utf8.decode s pos).2:=by
 unfold Utf8.decode;dsimp only;repeat' split
 all_goals simp
theorem J6(s:ByteArray):∀(m:Nat)(n:Int)(p:Nat),s.size-p<=m->zD (λq=>fI q s n p) λ_=>True|m,n,p,hm=>by refine zD.succ ?_;simp only[fI];refine zD.ite (λh=>(lQ _).bind λ_ _=>zD.ite (λ_=>?_) λ_=>zD.ret trivial) λ_=>zD.ret trivial;have h1:=of_decide_eq_true h;have:=zFf s p;cases m with|zero=>omega|succ m=>exact J6 s m _ _ (by omega)
theorem U5(s:ByteArray):zD (λq=>zMq q s) λ_=>True:=by
 simp only[zMq];refine zD.ite (λ_=>zD.ret trivial) λh=>zD.ite (λ_=>zD.ret trivial) λ_=>?_;have hp:0<s.size:=by
  rcases Nat.eq_zero_or_pos s.size with e|e
  ·have:s=⟨#[]⟩:=by cases s with|mk d=>simp only[ByteArray.size]at e;rw[Array.eq_empty_of_size_eq_zero e]
   rw[this]at h;simp at h
  ·exact e
 obtain⟨c,hc⟩:=U2 (s:=s) (i:=0) (by omega) (by omega);refine zD.pure hc (zD.ite (λ_=>zD.ite (λ_=>zD.ret trivial) λ_=>?_) λ_=>?_)<;>exact J6 s _ 0 0 (Nat.le_refl _)
section
variable{S A:List Int}(hS:S.length<=65535)
include hS
theorem oN(i k:Int)(h0:0<=i)(h1:i<=100000)(hk:0<=k/\k<=1):zC (λq=>L7 q S A i k) (sgT S (i+k)):=by
 simp only[L7];rw[zS (by omega) (by omega)];unfold sgT;by_cases h:i+k>=S.length;·rw[if_pos h];exact zC.ifT (decide_eq_true h) zC.ret
 ·rw[if_neg h];refine zC.ifF (decide_eq_false h) (zC.pure (a:=(S[(i+k).toNat]?).getD 0) ?_ zC.ret);unfold zM;rw[if_pos (by omega),List.getElem?_eq_getElem (show(i+k).toNat<S.length by omega)];rfl
theorem U6(i a b:Int)(h0:0<=i)(h1:i<=100000):zC (λq=>zDn q S A i a b) (sgT S i==a&&sgT S (i+1)==b):=by
 simp only[zDn];have e:=oN (A:=A) hS i 0 h0 h1 (by omega);rw[Int.add_zero]at e;refine e.bind ?_;by_cases h:sgT S i=a;·rw[show(sgT S i==a)=true by simpa using h,Bool.true_and];exact zC.ifT rfl ((oN hS i 1 h0 h1 (by omega)).bind zC.ret)
 ·rw[show(sgT S i==a)=false by simpa using h,Bool.false_and];exact zC.ifF rfl zC.ret
theorem zDg:∀(m:Nat)(i:Int),0<=i->i<=100000->(S.length:Int)-i<=m->zD (λq=>aK q S A i) λr=>i<=r/\(r<=i\/r<=S.length)/\(i<S.length->sgT S i≠10->i<r)|m,i,h0,h1,hm=>by refine zD.succ ?_;simp only[aK];refine zD.ite (λh=>?_) λh=>zD.ret ⟨by omega,by omega,λh2=>absurd h2 (of_decide_eq_false h)⟩;have h2:=of_decide_eq_true h;have e:=oN (A:=A) hS i 0 h0 h1 (by omega);rw[Int.add_zero]at e;refine zD.bind (e.tot rfl) λx hx=>?_;subst hx;cases m with|zero=>omega|succ m=>refine zD.ite (λh3=>?_) λh3=>zD.ret ⟨by omega,by omega,λ_ h4=>absurd h4 (by simpa using h3)⟩;rw[zS (by omega) (by omega)];refine(zDg m (i+1) (by omega) (by omega) (by omega)).mono λr hr=>⟨by omega,by omega,λ_ _=>by omega⟩
theorem U7:∀(m:Nat)(d i:Int),0<=i->i<=100000->(S.length:Int)-i<=m->zD (λq=>mC q S A d i) λr=>i<=r.2/\(r.2<=i\/r.2<=S.length+1)/\(i<S.length->i<r.2)|m,d,i,h0,h1,hm=>by refine zD.succ ?_;simp only[mC];refine zD.ite (λh=>?_) λh=>zD.ret ⟨by show i<=i;omega,.inl (by show i<=i;omega),λh2=>absurd h2 (of_decide_eq_false h)⟩;have h2:=of_decide_eq_true h;cases m with|zero=>omega|succ m=>have go:∀(d j:Int),i<j->j<=i+2->zD (λq=>mC q S A d j) λr=>i<=r.2/\(r.2<=i\/r.2<=S.length+1)/\(i<S.length->i<r.2):=λd j hj hk=>(U7 m d j (by omega) (by omega) (by omega)).mono λr hr=>⟨by omega,by omega,λ_=>by omega⟩;refine zD.bind ((U6 hS i 123 45 h0 h1).tot (P:=λ_=>True) trivial) λx _=>?_;rw[zS (x:=i+2) (by omega) (by omega),zS (x:=i+1) (by omega) (by omega)];refine zD.ite (λ_=>go _ _ (by omega) (by omega)) λ_=>zD.bind ((U6 hS i 45 125 h0 h1).tot (P:=λ_=>True) trivial) λy _=>?_;refine zD.ite (λ_=>zD.ite (λ_=>zD.ret ⟨by show i<=i+2;omega,.inr (by show i+2<=_;omega),λ_=>by show i<i+2;omega⟩) λ_=>go _ _ (by omega) (by omega)) λ_=>go _ _ (by omega) (by omega)
theorem zDf(hA:A.length=S.length):∀(m:Nat)(i:Int),0<=i->i<=70000->(S.length:Int)-i<=m->zD (λq=>mD q S A i) λr=>i<=r.2.2/\(r.2.2<=i\/r.2.2<=S.length+1)|m,i,h0,h1,hm=>by refine zD.succ ?_;simp only[mD,zSM,zSN];refine zD.ite (λh=>?_) λh=>zD.ret ⟨by show i<=i;omega,.inl (by show i<=i;omega)⟩;have h2:=of_decide_eq_true h;cases m with|zero=>omega|succ m=>
 have go:∀(j:Int),i<j->j<=S.length+2->(j<=i\/j<=S.length+1)->zD (λq=>mD q S A j) λr=>i<=r.2.2/\(r.2.2<=i\/r.2.2<=S.length+1):=λj hj hk hl=>(zDf hA m j (by omega) (by omega) (by omega)).mono λr hr=>⟨by omega,by omega⟩;have ret:∀z:Int×Bool×Int,z.2.2=i->i<=z.2.2/\(z.2.2<=i\/z.2.2<=S.length+1):=λz hz=>⟨by omega,by omega⟩;refine zD.bind ((oN hS i 0 h0 (by omega) (by omega)).tot (P:=λ_=>True) trivial) λx _=>(zJt x).bind λ_ _=>?_;rw[zS (x:=i+1) (by omega) (by omega)];refine zD.ite (λ_=>go _ (by omega) (by omega) (by omega)) λ_=>zD.bind ((U6 hS i 45 45 h0 (by omega)).tot rfl) λy hy=>zD.ite (λh3=>?_) λ_=>?_;·subst hy;simp only[Bool.and_eq_true,beq_iff_eq]at h3;exact(zDg hS (m+1) i h0 (by omega) hm).bind λr hr=>go r (hr.2.2 h2 (by rw[h3.1];decide)) (by omega) (by omega)
 ·refine zD.bind ((U6 hS i 123 45 h0 (by omega)).tot (P:=λ_=>True) trivial) λy _=>zD.ite (λ_=>?_) λ_=>zD.ret (ret _ rfl);refine(U7 hS (m+1) 0 i h0 (by omega) hm).bind λr hr=>zD.ite (λ_=>go _ (hr.2.2 h2) (by omega) (by omega)) λ_=>?_;obtain⟨z,hz,_⟩:=uX (l:=A) h0 (by omega);exact zD.pure hz (zD.ret ⟨by show i<=r.2;omega,by show r.2<=i\/r.2<=S.length+1;omega⟩)
theorem zMp(i:Int)(h0:0<=i)(h1:i<=70000):zD (λq=>zPj q S A i) λr=>0<=r.2/\r.2<=2:=by simp only[zPj];refine zD.bind ((oN hS i 0 h0 (by omega) (by omega)).tot (P:=λ_=>True) trivial) λx _=>?_;repeat'(first|exact zD.ret (by simp)|refine zD.ite (λ_=>?_) (λ_=>?_)|refine zD.bind ((U6 hS i 45 62 h0 (by omega)).tot (P:=λ_=>True) trivial) (λ_ _=>?_))
theorem zDe(f:Int):∀(m:Nat)(i:Int),0<=f->f<=i->i<=S.length->(S.length:Int)-i<=m->zD (λq=>pN q S A f i) λr=>i<=r.2/\r.2<=S.length|m,i,hf,h0,h1,hm=>by refine zD.succ ?_;simp only[pN];have fin:zD (λq=>tX S f i>>=λx=>zBv q x>>=λr=>some (r.1,i)) λr=>i<=r.2/\r.2<=S.length:=zD.pure (by unfold tX;rw[if_pos ⟨hf,h0,by omega⟩]) ((zDi _ (by rw[List.length_take,List.length_drop];omega)).bind λ_ _=>zD.ret ⟨by show i<=i;omega,h1⟩);refine zD.ite (λh=>?_) λh=>fin;have h2:=of_decide_eq_true h;cases m with|zero=>omega|succ m=>refine zD.bind ((oN hS i 0 (by omega) (by omega) (by omega)).tot (P:=λ_=>True) trivial) λx _=>(U4 x).bind λ_ _=>zD.ite (λ_=>?_) λ_=>fin;rw[zS (x:=i+1) (by omega) (by omega)];exact(zDe f m (i+1) hf (by omega) (by omega) (by omega)).mono λr hr=>⟨by omega,by omega⟩
theorem zDd(f:Int):∀(m:Nat)(i:Int),0<=f->f<=i->i<=S.length->(S.length:Int)-i<=m->zD (λq=>pM q S A f i) λr=>i<=r.2/\r.2<=S.length|m,i,hf,h0,h1,hm=>by refine zD.succ ?_;simp only[pM];have fin:zD (λq=>tX S f i>>=λx=>zBv q x>>=λr=>some (r.1,i)) λr=>i<=r.2/\r.2<=S.length:=zD.pure (by unfold tX;rw[if_pos ⟨hf,h0,by omega⟩]) ((zDi _ (by rw[List.length_take,List.length_drop];omega)).bind λ_ _=>zD.ret ⟨by show i<=i;omega,h1⟩);refine zD.ite (λh=>?_) λh=>fin;have h2:=of_decide_eq_true h;cases m with|zero=>omega|succ m=>refine zD.bind ((oN hS i 0 (by omega) (by omega) (by omega)).tot (P:=λ_=>True) trivial) λx _=>(lQ x).bind λ_ _=>zD.ite (λ_=>?_) λ_=>fin;rw[zS (x:=i+1) (by omega) (by omega)];exact(zDd f m (i+1) hf (by omega) (by omega) (by omega)).mono λr hr=>⟨by omega,by omega⟩
theorem zJs(hA:A.length=S.length)(i:Int)(h0:0<=i)(h1:i<S.length):zD (λq=>zPi q S A i) λr=>i<=r.2.2/\r.2.2<=S.length+1:=by
 simp only[zPi,aL,U3];obtain⟨z,hz,_⟩:=uX (l:=A) h0 (by omega);have I:=zDe (A:=A) hS i (S.length-i.toNat) i h0 (by omega) (by omega) (by omega);have D:=zDd (A:=A) hS i (S.length-i.toNat) i h0 (by omega) (by omega) (by omega);have rt:∀(t:zL)(b:Bool)(j:Int),i<=j/\j<=S.length->zD (λ_=>some (t,b,j)) λr:zL×Bool×Int=>i<=r.2.2/\r.2.2<=S.length+1:=λt b j hj=>zD.ret ⟨hj.1,by show j<=_;omega⟩;refine zD.pure hz (zD.bind ((oN hS i 0 h0 (by omega) (by omega)).tot (P:=λ_=>True) trivial) λx _=>(kV x).bind λ_ _=>?_);refine zD.ite (λ_=>I.bind λr hr=>(mA _).bind λ_ _=>zD.ite (λ_=>rt _ _ _ hr) λ_=>zD.ite (λ_=>rt _ _ _ hr) λ_=>(tL _).bind λ_ _=>rt _ _ _ hr) λ_=>?_;refine zD.ite (λ_=>I.bind λr hr=>(mA _).bind λ_ _=>zD.ite (λ_=>rt _ _ _ hr) λ_=>zD.ite (λ_=>rt _ _ _ hr) λ_=>(tL _).bind λ_ _=>rt _ _ _ hr) λ_=>(lQ x).bind λ_ _=>?_;refine zD.ite (λ_=>D.bind λr hr=>(U5 _).bind λ_ _=>zD.ite (λ_=>?_) λ_=>rt _ _ _ hr) λ_=>(zMp hS i h0 (by omega)).bind λr hr=>?_;·exact zD.bind ((oN hS r.2 0 (by omega) (by omega) (by omega)).tot (P:=λ_=>True) trivial) λx _=>(U4 x).bind λ_ _=>rt _ _ _ hr
 ·rw[zS (by omega) (by omega)];exact zD.ret ⟨by show i<=i+r.2;omega,by show i+r.2<=_;omega⟩
end
def zJr(l:List zL):Prop:=1<=l.length/\l.length<=8193/\((l[l.length-1]?).getD default).kind_=5
theorem i4(s:ByteArray)(r1:List Int×Int×Int)(A:List Int)(hS:r1.1.length<=65535)(hA:A.length=r1.1.length):∀(m:Nat)(acc:List zL)(i:Int),acc.length<=8192->8192-acc.length<=m->0<=i->i<=r1.1.length+1->zD (λq=>aM q s r1 A acc i) λr=>r.2.2=0->zJr r.1
 |m,acc,i,ha,hm,h0,h1=>by
  refine zD.succ ?_;simp only[aM,zSO];refine(zDf hS hA r1.1.length i h0 (by omega) (by omega)).bind λr hr=>zD.ite (λ_=>?_) λ_=>zD.ret (by simp);refine zD.ite (λ_=>zD.pure (zW (by simp;omega)) (zD.ret λ_=>⟨by simp,by simp;omega,by simp⟩)) λh=>?_;have h2:=of_decide_eq_false h;refine zD.ite (λ_=>?_) λh=>?_
  ·obtain⟨z,hz,_⟩:=uX (l:=A) (i:=r.2.2) (by omega) (by omega);exact zD.pure hz (zD.ret (by simp))
  ·have h3:=of_decide_eq_false h;cases m with|zero=>omega|succ m=>refine(zJs hS hA r.2.2 (by omega) (by omega)).bind λt ht=>zD.ite (λ_=>zD.pure (zW (by simp;omega)) ?_) λ_=>zD.ret (by simp);exact i4 s r1 A hS hA m _ _ (by simp;omega) (by simp;omega) (by omega) (by omega)
theorem zMo(s:ByteArray):zD (λq=>zPh q s) λr=>r.2.2=0->zJr r.1:=by simp only[zPh];refine(zBy s).bind λr hr=>zD.ite (λh=>zD.ret λh2=>?_) λ_=>(zDh r.1 hr).bind λA hA=>i4 s r A hr hA 8192 [] 0 (by simp) (by simp) (by omega) (by omega);have h2:r.2.2=0:=h2;rw[h2]at h;cases h
mutual def zJq:Nat->zG->Int->Option (Int)|0,_,_=>none|c+1,a,d=>fJ c a (yI (d+1)) 0 def fJ:Nat->zG->Int->Int->Option (Int)
 |0,_,_,_=>none|c+1,a,e,b=>if decide (b<(a.sub_.length:Int))then zM a.sub_ b>>=λx2=>if decide (e>8192)then some e else zJq c x2 e>>=λr5=>fJ c a r5 (yI (b+1))else some e end
theorem zDc:∀c:Nat,(∀a d,Cz (zJq c a d) 312 [] [yV a,ai d] (λr=>ai r) (λ_=>[]) 0)/\(∀a e b,Lz (fJ c a e b) 0 f312 (pt 4021 f312) (λj=>sp j 23 0 [(1,ai e),(10,zB zK a.sub_ .no),(11,ai (a.sub_.length:Int)),(12,ai b)]) ⟨[],0,[],0,[]⟩ (λr=>ai r) (λ_=>[]) 0 [.blk 0,.seq (pt 63 f312)]):=xC ⟨λ_ _=>cN,λ_ _ _=>lN⟩ λc ih=>⟨λa d=>fw func312<|fH 3 [] [] [] [1,10,11,12] (ih.2 _ _ _),λa e b=>lw λ_=>rB 0 (rA 0 (zCK (o:=.no)) λ_=>rB 2 (lE 0)<|rC 1 [] (ih.1 _ _) λ_=>lH 1 [] [] [] [1,10,11,12] (ih.2 _ _ _))<|lE 0⟩
theorem zXR{c a d}:Cz (zJq c a d) 312 [] [yV a,ai d] (λr=>ai r) (λ_=>[]) 0:=(zDc _).1 _ _
def zSP(b:Nat)(a:zG):Option (Int):=zJq b a 0>>=λr1=>some r1
theorem zXS{b a}:Cz (zSP b a) 276 [] [yV a] (λr=>ai r) (λ_=>[]) 0:=fw func276<|rC 1 [] zXR λ_=>fE 0
mutual def zJp:Nat->zG->Int->Option (Int)
 |0,_,_=>none|d+1,b,a=>if decide (a>128)then some a else fK d b a 0 a def fK:Nat->zG->Int->Int->Int->Option (Int)
 |0,_,_,_,_=>none|d+1,b,a,c,e=>if decide (c<(b.sub_.length:Int))then zM b.sub_ c>>=λx3=>zJp d x3 (yI (a+1))>>=λr5=>fK d b a (yI (c+1)) (mM e r5)else some e end
theorem zDb:∀d:Nat,(∀b a,Cz (zJp d b a) 277 [] [yV b,ai a] (λr=>ai r) (λ_=>[]) 0)/\(∀b a c e,Lz (fK d b a c e) 0 f277 (pt 16309 f277) (λj=>sp j 27 0 [(1,ai a),(5,ai e),(13,zB zK b.sub_ .no),(14,ai (b.sub_.length:Int)),(15,ai c)]) ⟨[],0,[],0,[]⟩ (λr=>ai r) (λ_=>[]) 0 [.blk 0,.seq (pt 255 f277)]):=xC ⟨λ_ _=>cN,λ_ _ _ _=>lN⟩ λd ih=>⟨λb a=>fw func277<|rB 0 (fE 0)<|fH 2 [] [] [] [1,5,13,14,15] (ih.2 _ _ _ _),λb a c e=>lw λ_=>rB 0 (rA 0 (zCK (o:=.no)) λ_=>rC 4 [] (ih.1 _ _) λ_=>lH 2 [] [] [] [1,5,13,14,15] (ih.2 _ _ _ _))<|lE 0⟩
theorem zXT{d b a}:Cz (zJp d b a) 277 [] [yV b,ai a] (λr=>ai r) (λ_=>[]) 0:=(zDb _).1 _ _
def zMn(b:Nat)(a:zG):Option (Int):=zSP b a>>=λr1=>if decide (r1>8192)then some 129 else zJp b a 1>>=λr4=>some r4
theorem zVb{b a}:Cz (zMn b a) 234 [] [yV a] (λr=>ai r) (λ_=>[]) 0:=fw func234<|rC 1 [] zXS λ_=>rB 0 (fE 0)<|rC 1 [] zXT λ_=>fE 0
def zMm(b:Nat)(a:zG):Option (Bool):=zMn b a>>=λr1=>some (decide (r1<=128))
theorem zVa{b a}:Cz (zMm b a) 181 [] [yV a] (λr=>ab r) (λ_=>[]) 0:=fw func181<|rC 1 [] zVb λ_=>fE 1
def zPf(b:Nat)(a:Int):Option (Int):=if decide (a<1)then some (-2)else if decide (a>10)then some (-2)else zM ([0,0,0,2,2,2,0,0,(-1),0,1]:yH) a>>=λx3=>some x3
theorem zXU{b a}:Cz (zPf b a) 283 [] [ai a] (λr=>ai r) (λ_=>[]) 0:=fw func283<|rB 0 (fE 0)<|rB 0 (fE 0)<|rW (λh4=>oA 0 (zLf h4 rfl)) λ_=>fE 0
def zFe(b:Nat)(a:zG):Option (Bool):=if a.kind_==1 then lP b a.name_>>=λr2=>some r2 else if a.kind_==6 then lP b a.name_>>=λr5=>some r5 else if a.kind_==8 then lP b a.name_>>=λr8=>some r8 else if a.kind_==3 then if a.name_.toList==(⟨#[95]⟩:ByteArray).toList then some true else lP b a.name_>>=λr12=>some r12 else if a.kind_==4 then if a.name_.toList==(⟨#[95]⟩:ByteArray).toList then some true else lP b a.name_>>=λr16=>some r16 else some (a.name_.toList==(⟨#[]⟩:ByteArray).toList)
theorem zPe{b a}:Cz (zFe b a) 284 [] [yV a] (λr=>ab r) (λ_=>[]) 0:=fw func284<|rB 1 (rC 1 [] aJ λ_=>fE 0)<|rB 0 (rC 1 [] aJ λ_=>fE 0)<|rB 0 (rC 1 [] aJ λ_=>fE 0)<|rB 0 (rB 1 (fE 0)<|rC 1 [] aJ λ_=>fE 0)<|rB 0 (rB 1 (fE 0)<|rC 1 [] aJ λ_=>fE 0)<|fE 2
def zMl(b:Nat)(a:zG):Option (Bool):=zPf b a.kind_>>=λr1=>if r1==(-2)then some false else if decide (r1>=0)then if(a.sub_.length:Int)!=r1 then some false else if r1==(-1)then if(a.sub_.length:Int)==0 then some false else zFe b a>>=λr8=>if r8 then if a.kind_==2 then if decide (a.n_>=0)then some (decide (a.n_<=7))else some false else some (a.n_==0)else some false else zFe b a>>=λr13=>if r13 then if a.kind_==2 then if decide (a.n_>=0)then some (decide (a.n_<=7))else some false else some (a.n_==0)else some false else if r1==(-1)then if(a.sub_.length:Int)==0 then some false else zFe b a>>=λr20=>if r20 then if a.kind_==2 then if decide (a.n_>=0)then some (decide (a.n_<=7))else some false else some (a.n_==0)else some false else zFe b a>>=λr25=>if r25 then if a.kind_==2 then if decide (a.n_>=0)then some (decide (a.n_<=7))else some false else some (a.n_==0)else some false
theorem zVA{b a}:Cz (zMl b a) 241 [] [yV a] (λr=>ab r) (λ_=>[]) 0:=fw func241<|rC 1 [] zXU λ_=>rB 0 (fE 0)<|rB 0 (rB 2 (fE 0)<|rB 0 (rB 2 (fE 0)<|rK 1 [] zPe (λ_=>rB 2 (rB 1 (fE 2)<|fE 0)<|fE 2) λ_=>fE 1)<|rK 1 [] zPe (λ_=>rB 2 (rB 1 (fE 2)<|fE 0)<|fE 2) λ_=>fE 1)<|rB 0 (rB 2 (fE 0)<|rK 1 [] zPe (λ_=>rB 2 (rB 1 (fE 2)<|fE 0)<|fE 2) λ_=>fE 1)<|rK 1 [] zPe (λ_=>rB 2 (rB 1 (fE 2)<|fE 0)<|fE 2) λ_=>fE 1
mutual def zDa:Nat->zG->Bool->Option (Bool)
 |0,_,_=>none|c+1,a,d=>if d then zMl c a>>=λr1=>if r1 then if !(decide (a.kind_>=6)==true)then some false else mE c a true 0 else some false else zMl c a>>=λr5=>if r5 then if !(decide (a.kind_>=6)==false)then some false else mE c a false 0 else some false def mE:Nat->zG->Bool->Int->Option (Bool)
 |0,_,_,_=>none|c+1,a,e,b=>if e then if decide (b<(a.sub_.length:Int))then zM a.sub_ b>>=λx6=>zDa c x6 (a.kind_ !=10)>>=λr8=>if r8 then mE c a true (yI (b+1))else some false else some true else if decide (b<(a.sub_.length:Int))then zM a.sub_ b>>=λx12=>zDa c x12 false>>=λr14=>if r14 then mE c a false (yI (b+1))else some false else some true end
theorem zDA:∀c:Nat,(∀a d,Cz (zDa c a d) 182 [] [yV a,ab d] (λr=>ab r) (λ_=>[]) 0)/\(∀a e b,Lz (mE c a e b) 0 f182 (pt 4021 f182) (λj=>sp j 34 0 [(1,ab e),(2,.mp 0 0),(18,zB zK a.sub_ .no),(19,ai (a.sub_.length:Int)),(20,ai b)]) ⟨[(0,.cells [ai a.kind_,ai a.at_,at' a.name_,ai a.n_,zB zK a.sub_ .no])],1,[],0,[]⟩ (λr=>ab r) (λ_=>[]) 0 [.blk 0,.seq (pt 63 f182)]):=xC ⟨λ_ _=>cN,λ_ _ _=>lN⟩ λc ih=>⟨λa d=>fw func182<|rI (λhb=>by subst hb;exact rK 1 [] zVA (λ_=>rB 3 (fE 0)<|fH 2 [] [0] [] [1,2,18,19,20] (ih.2 _ _ _)) λ_=>fE 1) λhb=>by subst hb;exact rK 1 [] zVA (λ_=>rB 3 (fE 0)<|fH 2 [] [0] [] [1,2,18,19,20] (ih.2 _ _ _)) λ_=>fE 1,λa e b=>lw λ_=>rI (λhb=>by subst hb;exact rB 0 (rA 0 (zCK (o:=.no)) λ_=>rK 5 [] (ih.1 _ _) (λ_=>lH 2 [] [0] [] [1,2,18,19,20] (ih.2 _ _ _)) λ_=>lE 1)<|lE 0) λhb=>by subst hb;exact rB 0 (rA 0 (zCK (o:=.no)) λ_=>rK 3 [] (ih.1 _ _) (λ_=>lH 2 [] [0] [] [1,2,18,19,20] (ih.2 _ _ _)) λ_=>lE 1)<|lE 0⟩
theorem zVB{c a d}:Cz (zDa c a d) 182 [] [yV a,ab d] (λr=>ab r) (λ_=>[]) 0:=(zDA _).1 _ _
def zFd(b:Nat)(a:zG):Option (Bool):=zMm b a>>=λr1=>if r1 then zDa b a false>>=λr4=>some r4 else some false
theorem zPd{b a}:Cz (zFd b a) 117 [] [yV a] (λr=>ab r) (λ_=>[]) 0:=fw func117<|rK 1 [] zVa (λ_=>rC 1 [] zVB λ_=>fE 0) λ_=>fE 0
def fL:Nat->(List zY)->Int->Int->Option (Bool)
 |0,_,_,_=>none|c+1,a,b,d=>if decide (d<(a.length:Int))then zM a d>>=λx2=>if decide ((a.length:Int)>b)then some false else lP c x2.name_>>=λr5=>if r5 then zFd c x2.type_>>=λr8=>if r8 then fL c a b (yI (d+1))else some false else some false else some true
def zMk(c:Nat)(a:List zY)(b:Int):Option (Bool):=fL c a b 0
theorem zPc:∀c:Nat,∀a b d,Lz (fL c a b d) 0 f118 (pt 949 f118) (λj=>sp j 30 0 [(0,zB zF a .no),(1,ai b),(7,zB zF a .no),(8,ai (a.length:Int)),(9,ai d)]) ⟨[],0,[],0,[]⟩ (λr=>ab r) (λ_=>[]) 0 [.blk 0,.seq (pt 15 f118)]:=xC (λ_ _ _=>lN) λc ih=>λa b d=>lw λ_=>rB 0 (rA 0 (S7 (o:=.no)) λ_=>rB 3 (lE 0)<|rK 1 [] aJ (λ_=>rK 2 [] zPd (λ_=>lH 2 [] [] [] [0,1,7,8,9] (ih _ _ _)) λ_=>lE 1) λ_=>lE 1)<|lE 0
theorem zVC{c a b}:Cz (zMk c a b) 118 [] [zB zF a .no,ai b] (λr=>ab r) (λ_=>[]) 0:=fw func118<|fH 1 [] [] [] [0,1,7,8,9] (zPc _ _ _ _)
def zPb(b:Nat)(a:zG):Option (Bool):=zMm b a>>=λr1=>if r1 then zDa b a true>>=λr4=>some r4 else some false
theorem zXV{b a}:Cz (zPb b a) 183 [] [yV a] (λr=>ab r) (λ_=>[]) 0:=fw func183<|rK 1 [] zVa (λ_=>rC 1 [] zVB λ_=>fE 0) λ_=>fE 0
def fM:Nat->xK->Int->Option (Bool)
 |0,_,_=>none|c+1,a,b=>if decide (b<(a.pats_.length:Int))then zM a.pats_ b>>=λx3=>zPb c x3>>=λr5=>if r5 then fM c a (yI (b+1))else some false else if a.has_ then zFd c a.body_>>=λr9=>some r9 else if a.body_.kind_==0 then if a.body_.at_==0 then if a.body_.name_.toList==(⟨#[]⟩:ByteArray).toList then if a.body_.n_==0 then some ((a.body_.sub_.length:Int)==0)else some false else some false else some false else some false
def zSQ(c:Nat)(a:xK):Option (Bool):=if decide ((a.pats_.length:Int)>24)then some false else fM c a 0
theorem zPa:∀c:Nat,∀a b,Lz (fM c a b) 0 f119 (pt 4021 f119) (λj=>sp j 52 0 [(1,.mp 0 0),(11,zB zK a.pats_ .no),(12,ai (a.pats_.length:Int)),(13,ai b)]) ⟨[(0,.cells [ai a.at_,zB zK a.pats_ .no,ab a.has_,ai a.body_.kind_,ai a.body_.at_,at' a.body_.name_,ai a.body_.n_,zB zK a.body_.sub_ .no])],1,[],0,[]⟩ (λr=>ab r) (λ_=>[]) 0 [.blk 0,.seq (pt 63 f119)]:=xC (λ_ _=>lN) λc ih=>λa b=>lw λ_=>rB 0 (rA 0 (zCK (o:=.no)) λ_=>rK 3 [] zXV (λ_=>lH 2 [] [0] [] [1,11,12,13] (ih _ _)) λ_=>lE 1)<|rB 0 (rC 1 [] zPd λ_=>lE 0)<|rB 3 (rB 1 (rB 1 (rB 1 (lE 3)<|lE 0)<|lE 0)<|lE 0)<|lE 0
theorem zXW{c a}:Cz (zSQ c a) 119 [] [zCG a] (λr=>ab r) (λ_=>[]) 0:=fw func119<|rB 2 (fE 0)<|fH 2 [] [0] [] [1,11,12,13] (zPa _ _ _)
def mS:Nat->yL->Int->Option (Bool)|0,_,_=>none|b+1,a,c=>if decide (c<(a.rows_.length:Int))then zM a.rows_ c>>=λx21=>zSQ b x21>>=λr23=>if r23 then mS b a (yI (c+1))else some false else some true
def e56(b:Nat)(a:yL):Option (Bool):=if decide (a.kind_<1)then some false else if decide (a.kind_>3)then some false else lP b a.name_>>=λr3=>if r3 then zFd b a.type_>>=λr6=>if r6 then zMk b a.tele_ 24>>=λr9=>if r9 then zMk b a.cons_ 16>>=λr12=>if r12 then if a.kind_==3 then if decide ((yI ((a.tele_.length:Int)+(a.cons_.length:Int)))>0)then some false else if a.kind_ !=3 then if decide ((a.rows_.length:Int)>0)then some false else if decide ((a.rows_.length:Int)>32)then some false else mS b a 0 else if decide ((a.rows_.length:Int)>32)then some false else mS b a 0 else if a.kind_ !=3 then if decide ((a.rows_.length:Int)>0)then some false else if decide ((a.rows_.length:Int)>32)then some false else mS b a 0 else if decide ((a.rows_.length:Int)>32)then some false else mS b a 0 else some false else some false else some false else some false
theorem zBu:∀b:Nat,∀a c,Lz (mS b a c) 0 f56 (pt 16309 f56) (λj=>sp j 78 0 [(68,zB zR a.rows_ .no),(69,ai (a.rows_.length:Int)),(70,ai c)]) ⟨[],0,[],0,[]⟩ (λr=>ab r) (λ_=>[]) 0 [.blk 0,.seq (pt 255 f56)]:=xC (λ_ _=>lN) λb ih=>λa c=>lw λ_=>rB 0 (rA 0 (zXg (o:=.no)) λ_=>rK 3 [] zXW (λ_=>lH 2 [] [] [] [68,69,70] (ih _ _)) λ_=>lE 1)<|lE 0
theorem c56{b a}:Cz (e56 b a) 56 [] [D7 a] (λr=>ab r) (λ_=>[]) 0:=fw func56<|rB 1 (fE 0)<|rB 1 (fE 0)<|rK 1 [] aJ (λ_=>rK 2 [] zPd (λ_=>rK 2 [] zVC (λ_=>rK 2 [] zVC (λ_=>rB 2 (rB 5 (fE 0)<|rB 1 (rB 2 (fE 0)<|rB 2 (fE 0)<|fH 2 [] [] [] [68,69,70] (zBu _ _ _))<|rB 2 (fE 0)<|fH 2 [] [] [] [68,69,70] (zBu _ _ _))<|rB 1 (rB 2 (fE 0)<|rB 2 (fE 0)<|fH 2 [] [] [] [68,69,70] (zBu _ _ _))<|rB 2 (fE 0)<|fH 2 [] [] [] [68,69,70] (zBu _ _ _)) λ_=>fE 1) λ_=>fE 1) λ_=>fE 1) λ_=>fE 1
mutual def iU:zG->Prop|.mk _ _ _ _ l=>l.length<=1099511627776/\u7 l def u7:List zG->Prop|[]=>True|t::l=>iU t/\u7 l end
mutual def ndN:zG->Nat|.mk _ _ _ _ l=>1+ndL l def ndL:List zG->Nat|[]=>0|t::l=>ndN t+ndL l end
inductive XOk:zG->Prop where|leaf{k a n m l}(h:k=1\/k=2):XOk (.mk k a n m l)|two{k a n m x y}(h:k=3\/k=4\/k=5)(hx:XOk x)(hy:XOk y):XOk (.mk k a n m [x,y])
def xL:List zG->Prop|[]=>True|x::l=>XOk x/\xL l
mutual theorem i5:∀(t:zG)(h:Int),iU t->0<=h->h<=8192->zD (λq=>zJq q t h) λr=>h<r/\r<=8193/\(r<=8192->h+ndN t<=r)|.mk k a n m l,h,ho,h0,h1=>by refine zD.succ ?_;simp only[zJq];rw[zS (by omega) (by omega)];refine(U9 l (.mk k a n m l) 0 (h+1) rfl ho.1 ho.2 (by omega) (by omega)).mono λr hr=>⟨by omega,hr.2.1,λh2=>?_⟩;have:=hr.2.2 h2;rw[ndN];omega theorem U9:∀(l:List zG)(p:zG)(v:Nat)(h:Int),p.sub_.drop v=l->p.sub_.length<=1099511627776->u7 l->0<=h->h<=8193->zD (λq=>fJ q p h (v:Int)) λr=>h<=r/\r<=8193/\(r<=8192->h+ndL l<=r)
 |[],p,v,h,hd,hl,ho,h0,h1=>by refine zD.succ ?_;simp only[fJ];refine zD.ite (λh=>?_) λ_=>zD.ret ⟨by omega,h1,λ_=>by rw[ndL];omega⟩;rw[yF hd]at h;cases h|t::l,p,v,h,hd,hl,ho,h0,h1=>by
  have:=yK hd;refine zD.succ ?_;simp only[fJ];refine zD.ite (λ_=>zD.pure (yA hd) (zD.ite (λh2=>zD.ret ⟨by omega,h1,λh3=>absurd h3 (by have:=of_decide_eq_true h2;omega)⟩) λh2=>?_)) λh=>by rw[yD hd]at h;cases h
  have h3:=of_decide_eq_false h2;refine(i5 t h ho.1 h0 (by omega)).bind λr hr=>?_;rw[zV v (by omega)];refine(U9 l p (v+1) r (zU hd) hl ho.2 (by omega) hr.2.1).mono λs hs=>⟨by omega,hs.2.1,λh4=>?_⟩;have:=hs.2.2 h4;have:=hr.2.2 (by omega);rw[ndL];omega end
mutual theorem i6:∀(t:zG)(a:Int),iU t->zD (λq=>zJp q t a) λ_=>True|.mk k b n m l,a,ho=>by refine zD.succ ?_;simp only[zJp];exact zD.ite (λ_=>zD.ret trivial) λ_=>V0 l (.mk k b n m l) 0 a a rfl ho.1 ho.2 theorem V0:∀(l:List zG)(p:zG)(v:Nat)(a m:Int),p.sub_.drop v=l->p.sub_.length<=1099511627776->u7 l->zD (λq=>fK q p a (v:Int) m) λ_=>True
 |[],p,v,a,m,hd,hl,ho=>by refine zD.succ ?_;simp only[fK];refine zD.ite (λh=>?_) λ_=>zD.ret trivial;rw[yF hd]at h;cases h|t::l,p,v,a,m,hd,hl,ho=>by
  have:=yK hd;refine zD.succ ?_;simp only[fK];refine zD.ite (λ_=>zD.pure (yA hd) ((i6 t _ ho.1).bind λr _=>?_)) λh=>by rw[yD hd]at h;cases h
  rw[zV v (by omega)];exact V0 l p (v+1) a _ (zU hd) hl ho.2 end
theorem V1(t:zG)(ho:iU t):zD (λq=>zMn q t) λr=>r<=128->ndN t<=8192:=by simp only[zMn,zSP];refine((i5 t 0 ho (by omega) (by omega)).bind (Q:=λr:Int=>r<=8192->ndN t<=8192) λr hr=>zD.ret λh=>by have:=hr.2.2 h;omega).bind λr hr=>zD.ite (λ_=>zD.ret λh=>absurd h (by decide)) λh=>?_;have h2:=of_decide_eq_false h;exact(i6 t 1 ho).bind λs _=>zD.ret λ_=>hr (by omega)
theorem i7(t:zG)(ho:iU t):zD (λq=>zMm q t) λb=>b=true->ndN t<=8192:=by simp only[zMm];exact(V1 t ho).bind λr hr=>zD.ret λh=>hr (of_decide_eq_true h)
theorem zJo(k:Int):zD (λq=>zPf q k) λr=>(k=3\/k=4\/k=5->r=2)/\(k<1\/10<k->r=-2):=by
 simp only[zPf];refine zD.ite (λh=>zD.ret ⟨λh2=>absurd (of_decide_eq_true h) (by omega),λ_=>rfl⟩) λh=>zD.ite (λh=>zD.ret ⟨λh2=>absurd (of_decide_eq_true h) (by omega),λ_=>rfl⟩) λh2=>?_;have h3:=of_decide_eq_false h;have h4:=of_decide_eq_false h2;have:k=1\/k=2\/k=3\/k=4\/k=5\/k=6\/k=7\/k=8\/k=9\/k=10:=by omega
 rcases this with rfl|rfl|rfl|rfl|rfl|rfl|rfl|rfl|rfl|rfl<;>exact zD.pure rfl (zD.ret (by decide))
theorem i8(t:zG):zD (λq=>zFe q t) λ_=>True:=by simp only[zFe];repeat'(first|exact zD.ret trivial|refine zD.ite (λ_=>?_) (λ_=>?_)|refine zD.bind (tL _) (λ_ _=>?_))
theorem i9(t:zG):zD (λq=>zMl q t) λb=>b=true->(1<=t.kind_/\t.kind_<=10)/\(t.kind_=3\/t.kind_=4\/t.kind_=5->t.sub_.length=2):=by
 simp only[zMl];refine(zJo t.kind_).bind λr hr=>zD.ite (λ_=>zD.ret (by simp)) λh=>?_;have h1:r≠-2:=by simpa using h
 have k1:1<=t.kind_/\t.kind_<=10:=⟨Int.not_lt.1 λh=>h1 (hr.2 (.inl h)),Int.not_lt.1 λh=>h1 (hr.2 (.inr h))⟩;have go:((t.kind_=3\/t.kind_=4\/t.kind_=5)->t.sub_.length=2)->∀b:Bool,zD (λ_=>some b) λb=>b=true->(1<=t.kind_/\t.kind_<=10)/\(t.kind_=3\/t.kind_=4\/t.kind_=5->t.sub_.length=2):=λh b=>zD.ret λ_=>⟨k1,h⟩;refine zD.ite (λh2=>zD.ite (λ_=>zD.ret (by simp)) λh3=>?_) λh2=>?_
 ·have h4:(t.sub_.length:Int)=r:=by simpa using h3
  have e:(t.kind_=3\/t.kind_=4\/t.kind_=5)->t.sub_.length=2:=λh=>by have:=hr.1 h;omega
  repeat'(first|exact go e _|refine zD.ite (λ_=>?_) (λ_=>?_)|refine zD.bind (i8 _) (λ_ _=>?_))
 ·have e:(t.kind_=3\/t.kind_=4\/t.kind_=5)->t.sub_.length=2:=λh=>by have:=hr.1 h;have:=of_decide_eq_false h2;omega
  repeat'(first|exact go e _|refine zD.ite (λ_=>?_) (λ_=>?_)|refine zD.bind (i8 _) (λ_ _=>?_))
mutual theorem fN:∀(t:zG)(p:Bool),iU t->zD (λq=>zDa q t p) λb=>b=true->p=false->XOk t|.mk k a n m l,p,ho=>by refine zD.succ ?_;simp only[zDa];cases p with|true=>refine zD.ite (λ_=>(i9 _).bind λ_ _=>zD.ite (λ_=>zD.ite (λ_=>zD.ret (by simp)) λ_=>?_) λ_=>zD.ret (by simp)) λh=>nomatch h;exact(kW l (.mk k a n m l) 0 true rfl ho.1 ho.2).mono λ_ _ _ h=>nomatch h|false=>
  refine zD.ite (λh=>nomatch h) λ_=>(i9 _).bind λb hb=>zD.ite (λh1=>zD.ite (λ_=>zD.ret (by simp)) λh2=>?_) λ_=>zD.ret (by simp);refine(kW l (.mk k a n m l) 0 false rfl ho.1 ho.2).mono λc hc h3 _=>?_;have hk:=hb h1;have hx:=hc h3 rfl;simp only[zG.kind_,zG.sub_]at hk h2;have h4:k<6:=by simpa using h2
  have:(k=1\/k=2)\/(k=3\/k=4\/k=5):=by omega
  rcases this with h5|h5;·exact .leaf h5
  ·have hl:=hk.2 h5;match l,hl,hx with|[x,y],_,hx=>exact .two h5 hx.1 hx.2.1 theorem kW:∀(l:List zG)(t:zG)(v:Nat)(p:Bool),t.sub_.drop v=l->t.sub_.length<=1099511627776->u7 l->zD (λq=>mE q t p (v:Int)) λb=>b=true->p=false->xL l
 |[],t,v,p,hd,hl,ho=>by refine zD.succ ?_;simp only[mE];cases p<;>refine zD.ite (λh=>zD.ite (λh=>?_) λ_=>zD.ret λ_ _=>trivial) λh=>zD.ite (λh=>?_) λ_=>zD.ret λ_ _=>trivial<;>first|(rw[yF hd]at h;cases h)|cases h
 |x::l,t,v,p,hd,hl,ho=>by have:=yK hd;refine zD.succ ?_;simp only[mE];rw[zV v (by omega)];cases p with|true=>refine zD.ite (λ_=>zD.ite (λ_=>zD.pure (yA hd) ((fN x _ ho.1).bind λ_ _=>zD.ite (λ_=>?_) λ_=>zD.ret (by simp))) λh=>by rw[yD hd]at h;cases h) λh=>nomatch h;exact(kW l t (v+1) true (zU hd) hl ho.2).mono λ_ _ _ h=>nomatch h|false=>
  refine zD.ite (λh=>nomatch h) λ_=>zD.ite (λ_=>zD.pure (yA hd) ((fN x _ ho.1).bind λb hb=>zD.ite (λh1=>?_) λ_=>zD.ret (by simp))) λh=>by rw[yD hd]at h;cases h
  exact(kW l t (v+1) false (zU hd) hl ho.2).mono λc hc h2 h3=>⟨hb h1 rfl,hc h2 h3⟩end
theorem aO(t:zG)(ho:iU t):zD (λq=>zFd q t) λb=>b=true->XOk t/\ndN t<=8192:=by simp only[zFd];exact(i7 t ho).bind λb hb=>zD.ite (λh=>(fN t false ho).bind λc hc=>zD.ret λh2=>⟨hc h2 rfl,hb h⟩) λ_=>zD.ret (by simp)
theorem zDB(t:zG)(ho:iU t):zD (λq=>zPb q t) λ_=>True:=by simp only[zPb];exact(i7 t ho).bind λb hb=>zD.ite (λh=>(fN t true ho).bind λc hc=>zD.ret trivial) λ_=>zD.ret trivial
def bOk(l:List zY):Prop:=∀b∈l,iU b.type_
theorem V2(most:Int):∀(r l:List zY)(v:Nat),l.drop v=r->l.length<=1099511627776->bOk l->zD (λq=>fL q l most (v:Int)) λb=>b=true->r≠[]->l.length<=most
 |[],l,v,hd,hl,ho=>by refine zD.succ ?_;simp only[fL];refine zD.ite (λh=>?_) λ_=>zD.ret λ_ h=>absurd rfl h;rw[yF hd]at h;cases h|x::r,l,v,hd,hl,ho=>by
  have:=yK hd;have hm:x∈l:=List.mem_of_mem_drop (hd▸List.mem_cons_self ..);refine zD.succ ?_;simp only[fL];refine zD.ite (λ_=>zD.pure (yA hd) (zD.ite (λ_=>zD.ret (by simp)) λh=>(tL _).bind λ_ _=>zD.ite (λ_=>(aO _ (ho x hm)).bind λ_ _=>zD.ite (λ_=>?_) λ_=>zD.ret (by simp)) λ_=>zD.ret (by simp))) λh=>by rw[yD hd]at h;cases h
  rw[zV v (by omega)];have h2:=of_decide_eq_false h;exact(V2 most r l (v+1) (zU hd) hl ho).mono λ_ _ _ _=>by omega
theorem g6(l:List zY)(most:Int)(hm:0<=most)(hl:l.length<=1099511627776)(ho:bOk l):zD (λq=>zMk q l most) λb=>b=true->l.length<=most:=by simp only[zMk];refine(V2 most l l 0 rfl hl ho).mono λb hb h=>?_;cases l with|nil=>exact hm|cons x l=>exact hb h (by simp)
def aP(r:xK):Prop:=r.pats_.length<=1099511627776/\(∀p∈r.pats_,iU p)/\iU r.body_
theorem f4(x:xK)(ho:aP x):∀(r:List zG)(v:Nat),x.pats_.drop v=r->zD (λq=>fM q x (v:Int)) λ_=>True
 |[],v,hd=>by
  refine zD.succ ?_;simp only[fM];refine zD.ite (λh=>?_) λ_=>?_;·rw[yF hd]at h;cases h
  ·repeat'(first|exact zD.ret trivial|refine zD.ite (λ_=>?_) (λ_=>?_)|refine zD.bind (aO _ ho.2.2) (λ_ _=>?_))|y::r,v,hd=>by
  have:=yK hd;have:=ho.1;have hm:y∈x.pats_:=List.mem_of_mem_drop (hd▸List.mem_cons_self ..);refine zD.succ ?_;simp only[fM];refine zD.ite (λ_=>zD.pure (yA hd) ((zDB _ (ho.2.1 y hm)).bind λ_ _=>zD.ite (λ_=>?_) λ_=>zD.ret trivial)) λh=>by rw[yD hd]at h;cases h
  rw[zV v (by omega)];exact f4 x ho r (v+1) (zU hd)
def dOk(d:yL):Prop:=iU d.type_/\(d.tele_.length<=100000/\bOk d.tele_)/\(d.cons_.length<=100000/\bOk d.cons_)/\d.rows_.length<=100000/\∀r∈d.rows_,aP r
theorem V3(d:yL)(ho:dOk d):∀(r:List xK)(v:Nat),d.rows_.drop v=r->zD (λq=>mS q d (v:Int)) λ_=>True
 |[],v,hd=>by refine zD.succ ?_;simp only[mS];refine zD.ite (λh=>?_) λ_=>zD.ret trivial;rw[yF hd]at h;cases h|y::r,v,hd=>by
  have:=yK hd;have:=ho.2.2.2.1;have hm:y∈d.rows_:=List.mem_of_mem_drop (hd▸List.mem_cons_self ..);refine zD.succ ?_;simp only[mS,zSQ];refine zD.ite (λ_=>zD.pure (yA hd) (zD.bind (P:=λ_=>True) (zD.ite (λ_=>zD.ret trivial) λ_=>f4 y (ho.2.2.2.2 y hm) y.pats_ 0 rfl) λ_ _=>zD.ite (λ_=>?_) λ_=>zD.ret trivial)) λh=>by rw[yD hd]at h;cases h
  rw[zV v (by omega)];exact V3 d ho r (v+1) (zU hd)
def L8(g:Nat)(c:List zL)(d b a e f:Int):Option (Int×Int):=if a==0 then some (f,e)else some (b,a)
theorem zBt{g c d b a e f}:Cz (L8 g c d b a e f) 106 [.cells [zB zH c .no,ai d,ai b,ai a]] [.mp 0 0,ai e,ai f] (λ_=>.tup []) (λr=>[.cells [zB zH c .no,ai d,ai r.1,ai r.2]]) 0:=fw func106<|rB 1 (fE 2)<|fE 0
def fO(f:Nat)(a:List zL)(c d b e:Int):Option (zL):=if decide ((yI (c+e))>=(a.length:Int))then zM a (yI ((a.length:Int)-1))>>=λx2=>some x2 else zM a (yI (c+e))>>=λx4=>some x4
theorem cO{f a c d b e}:Cz (fO f a c d b e) 54 [.cells [zB zH a .no,ai c,ai d,ai b]] [.mp 0 0,ai e] (λr=>J2 r) (λ_=>[.cells [zB zH a .no,ai c,ai d,ai b]]) 0:=fw func54<|rB 4 (rA 4 (zRP (o:=.no)) λ_=>fE 2)<|rA 3 (zRP (o:=.no)) λ_=>fE 2
def zJn(f:Nat)(c:List zL)(d b a e:Int):Option (Bool):=fO f c d b a e>>=λr1=>if r1.kind_==1 then fO f c d b a e>>=λr4=>some (!(r4.text_.toList==(⟨#[95]⟩:ByteArray).toList))else some false
theorem zSR{f c d b a e}:Cz (zJn f c d b a e) 173 [.cells [zB zH c .no,ai d,ai b,ai a]] [.mp 0 0,ai e] (λr=>ab r) (λ_=>[.cells [zB zH c .no,ai d,ai b,ai a]]) 0:=fw func173<|rC 0 [0] cO λ_=>rB 0 (rC 0 [0] cO λ_=>fE 1)<|fE 0
def V4(e:Nat)(d:List zL)(c b a:Int):Option (ByteArray×Int×Int×Int):=zJn e d c b a 0>>=λr1=>if r1 then if a !=0 then some ((⟨#[]⟩:ByteArray),c,b,a)else fO e d (yI (c+1)) b a (-1)>>=λr5=>some (r5.text_,(yI (c+1)),b,a)else fO e d c b a 0>>=λr7=>L8 e d c b a 1 r7.at_>>=λr9=>if r9.2 !=0 then some ((⟨#[]⟩:ByteArray),c,r9.1,r9.2)else fO e d (yI (c+1)) r9.1 r9.2 (-1)>>=λr12=>some (r12.text_,(yI (c+1)),r9.1,r9.2)
theorem zDC{e d c b a}:Cz (V4 e d c b a) 107 [.cells [zB zH d .no,ai c,ai b,ai a]] [.mp 0 0] (λr=>at' r.1) (λr=>[.cells [zB zH d .no,ai r.2.1,ai r.2.2.1,ai r.2.2.2]]) 0:=fw func107<|rK 0 [0] zSR (λ_=>rB 2 (fE 0)<|rC 3 [0] cO λ_=>fE 0) λ_=>rC 1 [0] cO λ_=>rC 0 [0] zBt λ_=>rB 1 (fE 0)<|rC 3 [0] cO λ_=>fE 0
def nK(g:Nat)(c:List zL)(d b a f:Int)(e:ByteArray):Option (Bool):=fO g c d b a f>>=λr1=>if r1.kind_==4 then some (r1.text_.toList==e.toList)else if r1.kind_==2 then some (r1.text_.toList==e.toList)else some false
theorem lR{g c d b a f e}:Cz (nK g c d b a f e) 172 [.cells [zB zH c .no,ai d,ai b,ai a]] [.mp 0 0,ai f,at' e] (λr=>ab r) (λ_=>[.cells [zB zH c .no,ai d,ai b,ai a]]) 0:=fw func172<|rC 0 [0] cO λ_=>rB 2 (fE 2)<|rB 1 (fE 2)<|fE 0
def rE(e:Nat)(d:List zL)(c b a:Int)(f:ByteArray):Option (Int×Int×Int):=nK e d c b a 0 f>>=λr1=>if r1 then if a==0 then some ((yI (c+1)),b,a)else some (c,b,a)else fO e d c b a 0>>=λr5=>L8 e d c b a 1 r5.at_>>=λr7=>if r7.2==0 then some ((yI (c+1)),r7.1,r7.2)else some (c,r7.1,r7.2)
theorem nL{e d c b a f}:Cz (rE e d c b a f) 111 [.cells [zB zH d .no,ai c,ai b,ai a]] [.mp 0 0,at' f] (λ_=>.tup []) (λr=>[.cells [zB zH d .no,ai r.1,ai r.2.1,ai r.2.2]]) 0:=fw func111<|rK 0 [0] lR (λ_=>rB 2 (fE 3)<|fE 0) λ_=>rC 1 [0] cO λ_=>rC 0 [0] zBt λ_=>rB 1 (fE 3)<|fE 0
def zMj(e:Nat)(c:List zL)(d b a:Int):Option (Bool):=nK e c d b a 0 (⟨#[40]⟩:ByteArray)>>=λr1=>if r1 then fO e c d b a 1>>=λr4=>if r4.kind_==1 then nK e c d b a 2 (⟨#[58]⟩:ByteArray)>>=λr7=>some r7 else some false else some false
theorem zVD{e c d b a}:Cz (zMj e c d b a) 236 [.cells [zB zH c .no,ai d,ai b,ai a]] [.mp 0 0] (λr=>ab r) (λ_=>[.cells [zB zH c .no,ai d,ai b,ai a]]) 0:=fw func236<|rK 0 [0] lR (λ_=>rC 0 [0] cO λ_=>rB 0 (rC 0 [0] lR λ_=>fE 0)<|fE 0) λ_=>fE 0
def zPA(e:Nat)(c:List zL)(d b a:Int):Option (ByteArray×Int×Int×Int):=fO e c d b a 0>>=λr1=>if r1.kind_==1 then if a==0 then fO e c (yI (d+1)) b a (-1)>>=λr5=>some (r5.text_,(yI (d+1)),b,a)else V4 e c d b a>>=λr7=>some (r7.1,r7.2.1,r7.2.2.1,r7.2.2.2)else V4 e c d b a>>=λr9=>some (r9.1,r9.2.1,r9.2.2.1,r9.2.2.2)
theorem zXX{e c d b a}:Cz (zPA e c d b a) 278 [.cells [zB zH c .no,ai d,ai b,ai a]] [.mp 0 0] (λr=>at' r.1) (λr=>[.cells [zB zH c .no,ai r.2.1,ai r.2.2.1,ai r.2.2.2]]) 0:=fw func278<|rC 0 [0] cO λ_=>rB 0 (rB 1 (rC 3 [0] cO λ_=>fE 0)<|rC 0 [0] zDC λ_=>fE 0)<|rC 0 [0] zDC λ_=>fE 0
def zPB(e:Nat)(c:List zL)(d b a:Int):Option (Bool):=zJn e c d b a 0>>=λr1=>if r1 then some true else nK e c d b a 0 (⟨#[83,101,116]⟩:ByteArray)>>=λr4=>if r4 then some true else nK e c d b a 0 (⟨#[40]⟩:ByteArray)>>=λr7=>if r7 then zMj e c d b a>>=λr10=>some (!r10)else some false
theorem zVE{e c d b a}:Cz (zPB e c d b a) 280 [.cells [zB zH c .no,ai d,ai b,ai a]] [.mp 0 0] (λr=>ab r) (λ_=>[.cells [zB zH c .no,ai d,ai b,ai a]]) 0:=fw func280<|rK 0 [0] zSR (λ_=>fE 0) λ_=>rK 0 [0] lR (λ_=>fE 0) λ_=>rK 0 [0] lR (λ_=>rC 0 [0] zVD λ_=>fE 1) λ_=>fE 0
def zPC(e:Nat)(d:List zL)(c b a:Int):Option (zG×Int×Int×Int):=fO e d c b a 0>>=λr1=>fO e d (yI (c+1)) b a 0>>=λr3=>if r3.kind_==3 then fO e d (yI (c+1)) b a 0>>=λr6=>zMq e r6.text_>>=λr8=>if decide (r8.1>7)then fO e d (yI (c+1)) b a 0>>=λr11=>L8 e d (yI (c+1)) b a 1 r11.at_>>=λr13=>some ((zG.mk 2 r1.at_ (⟨#[]⟩:ByteArray) r8.1 []),(yI ((yI (c+1))+1)),r13.1,r13.2)else some ((zG.mk 2 r1.at_ (⟨#[]⟩:ByteArray) r8.1 []),(yI ((yI (c+1))+1)),b,a)else some ((zG.mk 2 r1.at_ (⟨#[]⟩:ByteArray) 0 []),(yI (c+1)),b,a)
theorem zXY{e d c b a}:Cz (zPC e d c b a) 313 [.cells [zB zH d .no,ai c,ai b,ai a]] [.mp 0 0] (λr=>yV r.1) (λr=>[.cells [zB zH d .no,ai r.2.1,ai r.2.2.1,ai r.2.2.2]]) 0:=fw func313<|rC 0 [0] cO λ_=>rC 4 [0] cO λ_=>rB 0 (rC 0 [0] cO λ_=>rC 0 [] zVc λ_=>rB 2 (rC 0 [0] cO λ_=>rC 0 [0] zBt λ_=>fE 6)<|fE 6)<|fE 2
mutual def u9:Nat->(List zL)->Int->Int->Int->Option (zG×Int×Int×Int)
 |0,_,_,_,_=>none|p+1,b,d,c,a=>fO p b d c a 0>>=λr1=>if a !=0 then some ((zG.mk 0 0 (⟨#[]⟩:ByteArray) 0 []),d,c,a)else nK p b d c a 0 (⟨#[92]⟩:ByteArray)>>=λr4=>if r4 then zMi p b (yI (d+1)) c a 4 r1.at_>>=λr7=>some (r7.1,r7.2.1,r7.2.2.1,r7.2.2.2)else zMj p b d c a>>=λr9=>if r9 then zMi p b d c a 3 r1.at_>>=λr12=>some (r12.1,r12.2.1,r12.2.2.1,r12.2.2.2)else zPD p b d c a>>=λr14=>if r14.2.2.2==0 then nK p b r14.2.1 r14.2.2.1 r14.2.2.2 0 (⟨#[45,62]⟩:ByteArray)>>=λr17=>if r17 then u9 p b (yI (r14.2.1+1)) r14.2.2.1 r14.2.2.2>>=λr20=>some ((zG.mk 3 r14.1.at_ (⟨#[95]⟩:ByteArray) 0 [r14.1,r20.1]),r20.2.1,r20.2.2.1,r20.2.2.2)else some (r14.1,r14.2.1,r14.2.2.1,r14.2.2.2)else some (r14.1,r14.2.1,r14.2.2.1,r14.2.2.2)def zMi:Nat->(List zL)->Int->Int->Int->Int->Int->Option (zG×Int×Int×Int)|0,_,_,_,_,_,_=>none|p+1,b,d,c,a,t,u=>rE p b d c a (⟨#[40]⟩:ByteArray)>>=λr1=>zPA p b r1.1 r1.2.1 r1.2.2>>=λr3=>rE p b r3.2.1 r3.2.2.1 r3.2.2.2 (⟨#[58]⟩:ByteArray)>>=λr5=>u9 p b r5.1 r5.2.1 r5.2.2>>=λr7=>rE p b r7.2.1 r7.2.2.1 r7.2.2.2 (⟨#[41]⟩:ByteArray)>>=λr9=>rE p b r9.1 r9.2.1 r9.2.2 (⟨#[45,62]⟩:ByteArray)>>=λr11=>u9 p b r11.1 r11.2.1 r11.2.2>>=λr13=>some ((zG.mk t u r3.1 0 [r7.1,r13.1]),r13.2.1,r13.2.2.1,r13.2.2.2)def zPD:Nat->(List zL)->Int->Int->Int->Option (zG×Int×Int×Int)|0,_,_,_,_=>none|p+1,b,d,c,a=>zFb p b d c a>>=λr1=>fP p b r1 r1.2.1 r1.2.2.1 r1.2.2.2 r1.1.kind_ r1.1.name_ r1.1.n_ r1.1.sub_ def fP:Nat->(List zL)->(zG×Int×Int×Int)->Int->Int->Int->Int->ByteArray->Int->(List zG)->Option (zG×Int×Int×Int)
 |0,_,_,_,_,_,_,_,_,_=>none|p+1,b,r1,q,s,e,f,g,m,n=>if e==0 then zPB p b q s e>>=λr4=>if r4 then zFb p b q s e>>=λr7=>fP p b r1 r7.2.1 r7.2.2.1 r7.2.2.2 5 (⟨#[]⟩:ByteArray) 0 [(zG.mk f r1.1.at_ g m n),r7.1]else some ((zG.mk f r1.1.at_ g m n),q,s,e)else some ((zG.mk f r1.1.at_ g m n),q,s,e)def zFb:Nat->(List zL)->Int->Int->Int->Option (zG×Int×Int×Int)
 |0,_,_,_,_=>none|p+1,b,d,c,a=>if a !=0 then some ((zG.mk 0 0 (⟨#[]⟩:ByteArray) 0 []),d,c,a)else nK p b d c a 0 (⟨#[83,101,116]⟩:ByteArray)>>=λr2=>if r2 then zPC p b d c a>>=λr5=>some (r5.1,r5.2.1,r5.2.2.1,r5.2.2.2)else nK p b d c a 0 (⟨#[40]⟩:ByteArray)>>=λr7=>if r7 then u9 p b (yI (d+1)) c a>>=λr10=>rE p b r10.2.1 r10.2.2.1 r10.2.2.2 (⟨#[41]⟩:ByteArray)>>=λr12=>some (r10.1,r12.1,r12.2.1,r12.2.2)else fO p b d c a 0>>=λr14=>V4 p b d c a>>=λr16=>some ((zG.mk 1 r14.at_ r16.1 0 []),r16.2.1,r16.2.2.1,r16.2.2.2)end
theorem sT:∀p:Nat,(∀b d c a,Cz (u9 p b d c a) 176 [.cells [zB zH b .no,ai d,ai c,ai a]] [.mp 0 0] (λr=>yV r.1) (λr=>[.cells [zB zH b .no,ai r.2.1,ai r.2.2.1,ai r.2.2.2]]) 0)/\(∀b d c a t u,Cz (zMi p b d c a t u) 235 [.cells [zB zH b .no,ai d,ai c,ai a]] [.mp 0 0,ai t,ai u] (λr=>yV r.1) (λr=>[.cells [zB zH b .no,ai r.2.1,ai r.2.2.1,ai r.2.2.2]]) 0)/\(∀b d c a,Cz (zPD p b d c a) 237 [.cells [zB zH b .no,ai d,ai c,ai a]] [.mp 0 0] (λr=>yV r.1) (λr=>[.cells [zB zH b .no,ai r.2.1,ai r.2.2.1,ai r.2.2.2]]) 0)/\(∀b r1 q s e f g m n,Lz (fP p b r1 q s e f g m n) 1 f237 (pt 997 f237) (λj=>sp j 23 0 [(0,.mp 0 0),(2,.mp 1 0),(3,.mp 2 0)]) ⟨[(0,.cells [zB zH b .no,ai q,ai s,ai e]),(1,.cells [ai 0,ai 0,at' (⟨#[]⟩:ByteArray),ai 0,zB zK ([]:List zG) .nl]),(2,.cells [ai f,ai r1.1.at_,at' g,ai m,zB zK n .no])],3,[],0,[]⟩ (λr=>yV r.1) (λr=>[.cells [zB zH b .no,ai r.2.1,ai r.2.2.1,ai r.2.2.2]]) 0 [.blk 0,.seq (pt 63 f237)]/\Lz (fP p b r1 q s e f g m n) 1 f237 (pt 997 f237) (λj=>sp j 23 0 [(0,.mp 0 0),(2,.mp 1 0),(3,.mp 2 0)]) ⟨[(0,.cells [zB zH b .no,ai q,ai s,ai e]),(1,.cells [ai 0,ai 0,at' (⟨#[]⟩:ByteArray),ai 0,zB zK ([]:List zG) .nl]),(2,.cells [ai f,ai r1.1.at_,at' g,ai m,zB zK n .full])],3,[],0,[]⟩ (λr=>yV r.1) (λr=>[.cells [zB zH b .no,ai r.2.1,ai r.2.2.1,ai r.2.2.2]]) 0 [.blk 0,.seq (pt 63 f237)])/\(∀b d c a,Cz (zFb p b d c a) 279 [.cells [zB zH b .no,ai d,ai c,ai a]] [.mp 0 0] (λr=>yV r.1) (λr=>[.cells [zB zH b .no,ai r.2.1,ai r.2.2.1,ai r.2.2.2]]) 0):=xC ⟨λ_ _ _ _=>cN,λ_ _ _ _ _ _=>cN,λ_ _ _ _=>cN,λ_ _ _ _ _ _ _ _ _=>⟨lN,lN⟩,λ_ _ _ _=>cN⟩ λp ih=>⟨λb d c a=>fw func176<|rC 0 [0] cO λ_=>rB 1 (fE 1)<|rK 0 [0] lR (λ_=>rC 3 [0] (ih.2.1 _ _ _ _ _ _) λ_=>fE 1) λ_=>rK 0 [0] zVD (λ_=>rC 0 [0] (ih.2.1 _ _ _ _ _ _) λ_=>fE 1) λ_=>rC 0 [0] (ih.2.2.1 _ _ _ _) λr14=>rB 2 (rK 0 [0] lR (λ_=>rS (u6 3)<|rC 1 [0] (ih.1 _ _ _ _) λr20=>rS (oS 0 (yR vG [r14.1,r20.1]))<|fE 1) λ_=>fE 2)<|fE 2,λb d c a t u=>fw func235<|rC 1 [0] nL λ_=>rC 0 [0] zXX λ_=>rC 1 [0] nL λ_=>rC 0 [0] (ih.1 _ _ _ _) λr7=>rC 1 [0] nL λ_=>rC 0 [0] nL λ_=>rC 1 [0] (ih.1 _ _ _ _) λr13=>rS (oS 0 (yR vG [r7.1,r13.1]))<|fE 3,λb d c a=>fw func237<|rC 0 [0] (ih.2.2.2.2 _ _ _ _) λ_=>fH 1 [] [0,1,2] [] [0,2,3] ((ih.2.2.2.1 _ _ _ _ _ _ _ _ _).1),λb r1 q s e f g m n=>⟨lw λ_=>rB 1 (rK 0 [0] zVE (λ_=>rS (u6 0)<|rC 1 [0] (ih.2.2.2.2 _ _ _ _) λr7=>rS (oS 0 (yR vG [(zG.mk f r1.1.at_ g m n),r7.1]))<|lH 1 [] [0,1,2] [] [0,2,3] ((ih.2.2.2.1 _ _ _ _ _ _ _ _ _).2)) λ_=>lE 2)<|lE 2,lw λ_=>rB 1 (rK 0 [0] zVE (λ_=>rS (u6 0)<|rC 1 [0] (ih.2.2.2.2 _ _ _ _) λr7=>rS (oS 0 (yR vG [(zG.mk f r1.1.at_ g m n),r7.1]))<|lH 1 [] [0,1,2] [] [0,2,3] ((ih.2.2.2.1 _ _ _ _ _ _ _ _ _).2)) λ_=>lE 2)<|lE 2⟩,λb d c a=>fw func279<|rB 1 (fE 1)<|rK 0 [0] lR (λ_=>rC 0 [0] zXY λ_=>fE 1) λ_=>rK 0 [0] lR (λ_=>rC 3 [0] (ih.1 _ _ _ _) λ_=>rC 1 [0] nL λ_=>fE 2) λ_=>rC 0 [0] cO λ_=>rC 0 [0] zDC λ_=>fE 1⟩
theorem zXZ{p b d c a}:Cz (u9 p b d c a) 176 [.cells [zB zH b .no,ai d,ai c,ai a]] [.mp 0 0] (λr=>yV r.1) (λr=>[.cells [zB zH b .no,ai r.2.1,ai r.2.2.1,ai r.2.2.2]]) 0:=(sT _).1 _ _ _ _
theorem zYz{p b d c a}:Cz (zFb p b d c a) 279 [.cells [zB zH b .no,ai d,ai c,ai a]] [.mp 0 0] (λr=>yV r.1) (λr=>[.cells [zB zH b .no,ai r.2.1,ai r.2.2.1,ai r.2.2.2]]) 0:=(sT _).2.2.2.2 _ _ _ _
def tk(l:List zL)(i:Int):zL:=(l[if i>=l.length then l.length-1 else i.toNat]?).getD default
section
variable{l:List zL}(hl:zJr l)
include hl
theorem wZ(i a b k:Int)(h0:0<=i+k)(h1:i+k<=100000):zC (λq=>fO q l i a b k) (tk l (i+k)):=by
 have:=hl.1;have:=hl.2.1;simp only[fO];rw[zS (by omega) (by omega)];unfold tk;by_cases h:i+k>=l.length
 ·rw[if_pos h,zS (by omega) (by omega)];refine zC.ifT (decide_eq_true h) (zC.pure ?_ zC.ret);unfold zM;rw[if_pos (by omega),show((l.length:Int)-1).toNat=l.length-1 by omega,List.getElem?_eq_getElem (by omega)];rfl
 ·rw[if_neg h];refine zC.ifF (decide_eq_false h) (zC.pure ?_ zC.ret);unfold zM;rw[if_pos (by omega),List.getElem?_eq_getElem (by omega)];rfl
theorem E4{i:Int}(h0:0<=i)(h:(tk l i).kind_≠5):i+1<l.length:=by
 have:=hl.1;by_cases h1:i+1<l.length;·exact h1
 ·refine absurd ?_ h;rw[<-hl.2.2];unfold tk;by_cases h2:i>=l.length;·rw[if_pos h2]
  ·rw[if_neg h2,show i.toNat=l.length-1 by omega]
theorem uI(i a b k:Int)(s:ByteArray)(h0:0<=i+k)(h1:i+k<=100000):zD (λq=>nK q l i a b k s) λr=>r=true->i+k+1<l.length:=by simp only[nK];refine zD.bind ((wZ hl i a b k h0 h1).tot rfl) λt ht=>?_;subst ht;refine zD.ite (λh=>zD.ret λ_=>E4 hl h0 ?_) λ_=>zD.ite (λh=>zD.ret λ_=>E4 hl h0 ?_) λ_=>zD.ret (by simp)<;>·have:=eq_of_beq h;omega
theorem cP(i a b k:Int)(h0:0<=i+k)(h1:i+k<=100000):zD (λq=>zJn q l i a b k) λr=>r=true->i+k+1<l.length:=by simp only[zJn];have e:=wZ hl i a b k h0 h1;refine zD.bind (e.tot rfl) λt ht=>?_;subst ht;refine zD.ite (λh=>zD.bind (e.tot (P:=λ_=>True) trivial) λ_ _=>zD.ret λ_=>E4 hl h0 ?_) λ_=>zD.ret (by simp);have:=eq_of_beq h;omega
omit hl in theorem qA(i a b e p:Int)(he:e≠0):zD (λq=>L8 q l i a b e p) λr=>r.2≠0:=by simp only[L8];exact zD.ite (λ_=>zD.ret he) λh=>zD.ret (by simpa using h)
theorem lS(i a b:Int)(h0:0<=i)(h1:i<l.length):zD (λq=>V4 q l i a b) λr=>i<=r.2.1/\r.2.1<l.length/\(r.2.2.2=0->b=0/\i<r.2.1):=by
 have:=hl.2.1;simp only[V4];rw[zS (x:=i+1) (by omega) (by omega)];refine(cP hl i a b 0 (by omega) (by omega)).bind λc hc=>zD.ite (λh=>zD.ite (λh2=>zD.ret ⟨by show i<=i;omega,h1,λh3=>?_⟩) λh2=>?_) λ_=>?_;·exact absurd h3 (by simpa using h2)
 ·have:=hc h;refine zD.bind ((wZ hl (i+1) a b (-1) (by omega) (by omega)).tot (P:=λ_=>True) trivial) λ_ _=>zD.ret ⟨by show i<=i+1;omega,by show i+1<_;omega,λ_=>⟨by simpa using h2,by show i<i+1;omega⟩⟩
 ·refine zD.bind ((wZ hl i a b 0 (by omega) (by omega)).tot (P:=λ_=>True) trivial) λt _=>(qA i a b 1 _ (by decide)).bind λr hr=>zD.ite (λ_=>zD.ret ⟨by show i<=i;omega,h1,λh3=>absurd h3 hr⟩) λh=>?_;exact absurd (by simpa using h) hr
theorem vA(i a b:Int)(s:ByteArray)(h0:0<=i)(h1:i<l.length):zD (λq=>rE q l i a b s) λr=>i<=r.1/\r.1<l.length/\(r.2.2=0->b=0/\i<r.1):=by
 have:=hl.2.1;simp only[rE];rw[zS (x:=i+1) (by omega) (by omega)];refine(uI hl i a b 0 s (by omega) (by omega)).bind λc hc=>zD.ite (λh=>zD.ite (λh2=>?_) λh2=>zD.ret ⟨by show i<=i;omega,h1,λh3=>?_⟩) λ_=>?_
 ·have:=hc h;exact zD.ret ⟨by show i<=i+1;omega,by show i+1<_;omega,λ_=>⟨by simpa using h2,by show i<i+1;omega⟩⟩
 ·exact absurd h3 (by simpa using h2)
 ·refine zD.bind ((wZ hl i a b 0 (by omega) (by omega)).tot (P:=λ_=>True) trivial) λt _=>(qA i a b 1 _ (by decide)).bind λr hr=>zD.ite (λh=>?_) λ_=>zD.ret ⟨by show i<=i;omega,h1,λh3=>absurd h3 hr⟩;exact absurd (by simpa using h) hr
theorem t6(i a b:Int)(h0:0<=i)(h1:i<l.length):zD (λq=>zPA q l i a b) λr=>i<=r.2.1/\r.2.1<l.length/\(r.2.2.2=0->b=0/\i<r.2.1):=by have:=hl.2.1;simp only[zPA];rw[zS (x:=i+1) (by omega) (by omega)];have N:=(lS hl i a b h0 h1).bind (k:=λ_ r9=>some (r9.1,r9.2.1,r9.2.2.1,r9.2.2.2)) (Q:=λr:ByteArray×Int×Int×Int=>i<=r.2.1/\r.2.1<(l.length:Int)/\(r.2.2.2=0->b=0/\i<r.2.1)) λr hr=>⟨_,zC.ret,hr⟩;refine zD.bind ((wZ hl i a b 0 (by omega) (by omega)).tot rfl) λt ht=>zD.ite (λh=>zD.ite (λh2=>?_) λ_=>N) λ_=>N;subst ht;have:=E4 hl (i:=i+0) (by omega) (by have:=eq_of_beq h;omega);exact zD.bind ((wZ hl (i+1) a b (-1) (by omega) (by omega)).tot (P:=λ_=>True) trivial) λ_ _=>zD.ret ⟨by show i<=i+1;omega,by show i+1<_;omega,λ_=>⟨by simpa using h2,by show i<i+1;omega⟩⟩
theorem V5(i a b:Int)(h0:0<=i)(h1:i<l.length):zD (λq=>zMj q l i a b) λ_=>True:=by have:=hl.2.1;simp only[zMj];exact(uI hl i a b 0 _ (by omega) (by omega)).bind λ_ _=>zD.ite (λ_=>zD.bind ((wZ hl i a b 1 (by omega) (by omega)).tot (P:=λ_=>True) trivial) λ_ _=>zD.ite (λ_=>(uI hl i a b 2 _ (by omega) (by omega)).bind λ_ _=>zD.ret trivial) λ_=>zD.ret trivial) λ_=>zD.ret trivial
theorem zMh(i a b:Int)(h0:0<=i)(h1:i+1<l.length):zD (λq=>zPC q l i a b) λr=>iU r.1/\i<r.2.1/\r.2.1<l.length:=by have:=hl.2.1;simp only[zPC];rw[zS (x:=i+1) (by omega) (by omega),zS (x:=i+1+1) (by omega) (by omega)];have e:=wZ hl (i+1) a b 0 (by omega) (by omega);have z:∀k a n m,iU (.mk k a n m []):=λ_ _ _ _=>⟨by simp,trivial⟩;refine zD.bind ((wZ hl i a b 0 (by omega) (by omega)).tot (P:=λ_=>True) trivial) λ_ _=>zD.bind (e.tot rfl) λt ht=>zD.ite (λh=>?_) λ_=>zD.ret ⟨z _ _ _ _,by show i<i+1;omega,h1⟩;subst ht;have:=E4 hl (i:=i+1+0) (by omega) (by have:=eq_of_beq h;omega);refine zD.bind (e.tot (P:=λ_=>True) trivial) λ_ _=>(U5 _).bind λ_ _=>zD.ite (λ_=>zD.bind (e.tot (P:=λ_=>True) trivial) λ_ _=>(qA _ a b 1 _ (by decide)).bind λ_ _=>zD.ret ⟨z _ _ _ _,?_,?_⟩) λ_=>zD.ret ⟨z _ _ _ _,?_,?_⟩<;>first|(show i<i+1+1;omega)|(show i+1+1<_;omega)
theorem zFa(i a b:Int)(h0:0<=i)(h1:i<l.length):zD (λq=>zPB q l i a b) λ_=>True:=by have:=hl.2.1;simp only[zPB];exact(cP hl i a b 0 (by omega) (by omega)).bind λ_ _=>zD.ite (λ_=>zD.ret trivial) λ_=>(uI hl i a b 0 _ (by omega) (by omega)).bind λ_ _=>zD.ite (λ_=>zD.ret trivial) λ_=>(uI hl i a b 0 _ (by omega) (by omega)).bind λ_ _=>zD.ite (λ_=>(V5 hl i a b h0 h1).bind λ_ _=>zD.ret trivial) λ_=>zD.ret trivial
omit hl in def NR(l:List zL)(i b:Int)(r:zG×Int×Int×Int):Prop:=iU r.1/\i<=r.2.1/\r.2.1<l.length/\(r.2.2.2=0->b=0/\i<r.2.1)
omit hl in def V6(l:List zL)(m:Nat):Prop:=∀i a b:Int,0<=i->i<l.length->(b=0->(l.length:Int)-i<=m)->zD (λq=>u9 q l i a b) (NR l i b)
omit hl in theorem zSS{x y:zG}(hx:iU x)(hy:iU y)(k a:Int)(n:ByteArray)(m:Int):iU (.mk k a n m [x,y]):=⟨by simp,hx,hy,trivial⟩
omit hl in theorem t7(k a:Int)(n:ByteArray)(m:Int):iU (.mk k a n m []):=⟨by simp,trivial⟩
theorem f6(m:Nat)(IH:V6 l m)(i a b k p:Int)(h0:0<=i)(h1:i<l.length)(hb:b=0->(l.length:Int)-i<=m+1):zD (λq=>zMi q l i a b k p) (NR l i b):=by refine zD.succ ?_;simp only[zMi];refine(vA hl i a b _ h0 h1).bind λr1 g1=>(t6 hl _ _ _ (by omega) g1.2.1).bind λr3 g3=>(vA hl _ _ _ _ (by omega) g3.2.1).bind λr5 g5=>(IH _ _ _ (by omega) g5.2.1 (by omega)).bind λr7 g7=>?_;obtain⟨o7,g7⟩:=g7;refine(vA hl _ _ _ _ (by omega) g7.2.1).bind λr9 g9=>(vA hl _ _ _ _ (by omega) g9.2.1).bind λr11 g11=>(IH _ _ _ (by omega) g11.2.1 (by omega)).bind λr13 g13=>?_;obtain⟨o13,g13⟩:=g13;exact zD.ret ⟨zSS o7 o13 _ _ _ _,by show i<=r13.2.1;omega,g13.2.1,λh=>by have:r13.2.2.2=0:=h;show b=0/\i<r13.2.1;omega⟩
theorem V7(m:Nat)(IH:V6 l m)(i a b:Int)(h0:0<=i)(h1:i<l.length)(hb:b=0->(l.length:Int)-i<=m+1):zD (λq=>zFb q l i a b) (NR l i b):=by
 have:=hl.2.1;refine zD.succ ?_;simp only[zFb];rw[zS (x:=i+1) (by omega) (by omega)];refine zD.ite (λh=>zD.ret ⟨t7 _ _ _ _,by show i<=i;omega,h1,λh2=>absurd h2 (by simpa using h)⟩) λh=>?_;have hb0:b=0:=by simpa using h
 refine(uI hl i a b 0 _ (by omega) (by omega)).bind λc hc=>zD.ite (λh2=>(zMh hl i a b h0 (by have:=hc h2;omega)).bind λr hr=>zD.ret ⟨hr.1,by show i<=r.2.1;omega,hr.2.2,λ_=>⟨hb0,hr.2.1⟩⟩) λ_=>?_;refine(uI hl i a b 0 _ (by omega) (by omega)).bind λc hc=>zD.ite (λh2=>?_) λ_=>?_
 ·have:=hc h2;refine(IH (i+1) a b (by omega) (by omega) (by omega)).bind λr hr=>(vA hl _ _ _ _ (by have:=hr.2.1;omega) hr.2.2.1).bind λs hs=>?_;obtain⟨o,hr⟩:=hr;exact zD.ret ⟨o,by show i<=s.1;omega,hs.2.1,λ_=>⟨hb0,by show i<s.1;omega⟩⟩
 ·refine zD.bind ((wZ hl i a b 0 (by omega) (by omega)).tot (P:=λ_=>True) trivial) λt _=>(lS hl i a b h0 h1).bind λr hr=>zD.ret ⟨t7 _ _ _ _,hr.1,hr.2.1,hr.2.2⟩
theorem zDD(m:Nat)(IH:V6 l m)(r1:zG×Int×Int×Int):∀(k:Nat)(i a b kd:Int)(nm:ByteArray)(n:Int)(sub:List zG),0<=i->i<l.length->(b=0->(l.length:Int)-i<=k)->(b=0->(l.length:Int)-i<=m+1)->iU (.mk kd r1.1.at_ nm n sub)->zD (λq=>fP q l r1 i a b kd nm n sub) λr=>iU r.1/\i<=r.2.1/\r.2.1<l.length/\(r.2.2.2=0->b=0)
 |k,i,a,b,kd,nm,n,sub,h0,h1,hk,hb,ho=>by
  refine zD.succ ?_;simp only[fP];have fin:zD (λ_=>some (zG.mk kd r1.1.at_ nm n sub,i,a,b)) λr:zG×Int×Int×Int=>iU r.1/\i<=r.2.1/\r.2.1<l.length/\(r.2.2.2=0->b=0):=zD.ret ⟨ho,by show i<=i;omega,h1,id⟩;refine zD.ite (λh=>(zFa hl i a b h0 h1).bind λ_ _=>zD.ite (λ_=>(V7 hl m IH i a b h0 h1 hb).bind λr hr=>?_) λ_=>fin) λ_=>fin;have hb0:b=0:=by simpa using h
  obtain⟨o,hr⟩:=hr;cases k with|zero=>have:=hk hb0;omega|succ k=>exact(zDD m IH r1 k r.2.1 _ _ 5 _ 0 _ (by omega) hr.2.1 (by omega) (by omega) (zSS ho o _ _ _ _)).mono λs hs=>⟨hs.1,by omega,hs.2.2.1,λ_=>hb0⟩
theorem zPE(m:Nat)(IH:V6 l m)(i a b:Int)(h0:0<=i)(h1:i<l.length)(hb:b=0->(l.length:Int)-i<=m+1):zD (λq=>zPD q l i a b) (NR l i b):=by refine zD.succ ?_;simp only[zPD];refine(V7 hl m IH i a b h0 h1 hb).bind λr hr=>?_;have ho:=hr.1;have g:=hr.2;refine(zDD hl m IH r (m+1) r.2.1 _ _ _ _ _ _ (by omega) g.2.1 (by omega) (by omega) (by cases h:r.1;rw[h]at ho;exact ho)).mono λs hs=>⟨hs.1,by omega,hs.2.2.1,λh=>?_⟩;have:=g.2.2 (hs.2.2.2 h);omega
theorem V8:∀m:Nat,V6 l m
 |0,i,a,b,h0,h1,hb=>by
  have:=hl.2.1;refine zD.succ ?_;simp only[u9];refine zD.bind ((wZ hl i a b 0 (by omega) (by omega)).tot (P:=λ_=>True) trivial) λt _=>zD.ite (λh=>zD.ret ⟨t7 _ _ _ _,by show i<=i;omega,h1,λh2=>absurd h2 (by simpa using h)⟩) λh=>?_;have hb0:b=0:=by simpa using h
  have:=hb hb0;omega|m+1,i,a,b,h0,h1,hb=>by
  have:=hl.2.1;have IH:=V8 m;refine zD.succ ?_;simp only[u9];rw[zS (x:=i+1) (by omega) (by omega)];refine zD.bind ((wZ hl i a b 0 (by omega) (by omega)).tot (P:=λ_=>True) trivial) λt _=>zD.ite (λh=>zD.ret ⟨t7 _ _ _ _,by show i<=i;omega,h1,λh2=>absurd h2 (by simpa using h)⟩) λh=>?_;have hb0:b=0:=by simpa using h
  refine(uI hl i a b 0 _ (by omega) (by omega)).bind λc hc=>zD.ite (λh2=>(f6 hl m IH (i+1) a b 4 _ (by omega) (by have:=hc h2;omega) (by omega)).bind λr hr=>zD.ret ⟨hr.1,by have:=hr.2.1;show i<=r.2.1;omega,hr.2.2.1,λh=>⟨hb0,by have:=hr.2.1;show i<r.2.1;omega⟩⟩) λ_=>?_;refine(V5 hl i a b h0 h1).bind λc hc=>zD.ite (λh2=>(f6 hl m IH i a b 3 _ (by omega) h1 (by omega)).bind λr hr=>zD.ret hr) λ_=>?_;refine(zPE hl m IH i a b h0 h1 (by omega)).bind λr hr=>zD.ite (λh2=>?_) λ_=>zD.ret hr;have ho:=hr.1;have g:=hr.2;have hr0:r.2.2.2=0:=by simpa using h2
  rw[zS (x:=r.2.1+1) (by omega) (by omega)];refine(uI hl _ _ _ 0 _ (by omega) (by omega)).bind λc hc=>zD.ite (λh3=>?_) λ_=>zD.ret ⟨ho,g⟩;have:=hc h3;refine(IH (r.2.1+1) _ _ (by omega) (by omega) (by omega)).bind λs hs=>?_;have gs:=hs.2;exact zD.ret ⟨zSS ho hs.1 _ _ _ _,by show i<=s.2.1;omega,gs.2.1,λ_=>⟨hb0,by show i<s.2.1;omega⟩⟩
end
def zPF(e:Nat)(c:List zL)(d b a:Int):Option (Int):=nK e c d b a 0 (⟨#[100,97,116,97]⟩:ByteArray)>>=λr1=>if r1 then some 1 else nK e c d b a 0 (⟨#[114,101,99,111,114,100]⟩:ByteArray)>>=λr4=>if r4 then some 2 else nK e c d b a 0 (⟨#[100,101,102]⟩:ByteArray)>>=λr7=>if r7 then some 3 else some 0
theorem zYy{e c d b a}:Cz (zPF e c d b a) 105 [.cells [zB zH c .no,ai d,ai b,ai a]] [.mp 0 0] (λr=>ai r) (λ_=>[.cells [zB zH c .no,ai d,ai b,ai a]]) 0:=fw func105<|rK 0 [0] lR (λ_=>fE 0) λ_=>rK 0 [0] lR (λ_=>fE 0) λ_=>rK 0 [0] lR (λ_=>fE 0) λ_=>fE 0
def zMg(e:Nat)(c:List zL)(d b a:Int):Option (Bool):=nK e c d b a 0 (⟨#[125]⟩:ByteArray)>>=λr1=>some (!r1)
theorem zVF{e c d b a}:Cz (zMg e c d b a) 114 [.cells [zB zH c .no,ai d,ai b,ai a]] [.mp 0 0] (λr=>ab r) (λ_=>[.cells [zB zH c .no,ai d,ai b,ai a]]) 0:=fw func114<|rC 0 [0] lR λ_=>fE 1
def zMf(f:Nat)(c:List zL)(d b a:Int)(e:zG)(g:Int):Option (zG×Int×Int):=if a==0 then zMn f e>>=λr2=>if decide (r2>128)then L8 f c d b a 2 g>>=λr5=>some (e,r5.1,r5.2)else some (e,b,a)else some (e,b,a)
theorem zVG{f c d b a e g}:Cz (zMf f c d b a e g) 175 [.cells [zB zH c .no,ai d,ai b,ai a]] [.mp 0 0,yV e,ai g] (λr=>yV r.1) (λr=>[.cells [zB zH c .no,ai d,ai r.2.1,ai r.2.2]]) 0:=fw func175<|rB 1 (rC 1 [] zVb λ_=>rB 0 (rC 0 [0] zBt λ_=>fE 2)<|fE 2)<|fE 2
def zDE(e:Nat)(b:List zL)(d c a:Int):Option (zG×Int×Int×Int):=fO e b d c a 0>>=λr1=>u9 e b d c a>>=λr3=>zMf e b r3.2.1 r3.2.2.1 r3.2.2.2 r3.1 r1.at_>>=λr5=>some (r5.1,r3.2.1,r5.2.1,r5.2.2)
theorem zPG{e b d c a}:Cz (zDE e b d c a) 112 [.cells [zB zH b .no,ai d,ai c,ai a]] [.mp 0 0] (λr=>yV r.1) (λr=>[.cells [zB zH b .no,ai r.2.1,ai r.2.2.1,ai r.2.2.2]]) 0:=fw func112<|rC 0 [0] cO λ_=>rC 0 [0] zXZ λ_=>rC 0 [0] zVG λ_=>fE 1
def zMe(e:Nat)(b:List zL)(d c a:Int):Option (zY×Int×Int×Int):=fO e b d c a 0>>=λr1=>V4 e b d c a>>=λr3=>rE e b r3.2.1 r3.2.2.1 r3.2.2.2 (⟨#[58]⟩:ByteArray)>>=λr5=>zDE e b r5.1 r5.2.1 r5.2.2>>=λr7=>some ((zY.mk r3.1 r1.at_ r7.1),r7.2.1,r7.2.2.1,r7.2.2.2)
theorem zVH{e b d c a}:Cz (zMe e b d c a) 174 [.cells [zB zH b .no,ai d,ai c,ai a]] [.mp 0 0] (λr=>D6 r.1) (λr=>[.cells [zB zH b .no,ai r.2.1,ai r.2.2.1,ai r.2.2.2]]) 0:=fw func174<|rC 0 [0] cO λ_=>rC 0 [0] zDC λ_=>rC 1 [0] nL λ_=>rC 0 [0] zPG λ_=>fE 3
def zPH(e:Nat)(b:List zL)(d c a:Int):Option (zY×Int×Int×Int):=zMe e b d c a>>=λr1=>rE e b r1.2.1 r1.2.2.1 r1.2.2.2 (⟨#[59]⟩:ByteArray)>>=λr3=>some (r1.1,r3.1,r3.2.1,r3.2.2)
theorem zYx{e b d c a}:Cz (zPH e b d c a) 115 [.cells [zB zH b .no,ai d,ai c,ai a]] [.mp 0 0] (λr=>D6 r.1) (λr=>[.cells [zB zH b .no,ai r.2.1,ai r.2.2.1,ai r.2.2.2]]) 0:=fw func115<|rC 0 [0] zVH λ_=>rC 1 [0] nL λ_=>fE 2
def sU:Nat->(List zL)->Int->(List zY)->Int->Int->Int->Option (List zY×Int×Int×Int)|0,_,_,_,_,_,_=>none|e+1,d,f,g,a,c,b=>if b==0 then zMg e d a c b>>=λr2=>if r2 then if decide ((g.length:Int)>=f)then fO e d a c b 0>>=λr6=>L8 e d a c b 2 r6.at_>>=λr8=>some (g,a,r8.1,r8.2)else zPH e d a c b>>=λr10=>yW 88 g [r10.1]>>=λl12=>sU e d f l12 r10.2.1 r10.2.2.1 r10.2.2.2 else some (g,a,c,b)else some (g,a,c,b)
def aQ(e:Nat)(d:List zL)(m n p f:Int):Option (List zY×Int×Int×Int):=sU e d f [] m n p
theorem zDF:∀e:Nat,∀d f g a c b,Lz (sU e d f g a c b) 1 f108 (pt 997 f108) (λj=>sp j 34 0 [(0,.mp 0 0),(1,ai f),(2,.clo 114 [.mp 0 0] []),(3,.clo 115 [.mp 0 0] []),(9,zB zF g (.st 0 7))]) ⟨[(0,.cells [zB zH d .no,ai a,ai c,ai b])],1,[0],1,[]⟩ (λr=>.sl (zI zF r.1) r.1.length .no) (λr=>[.cells [zB zH d .no,ai r.2.1,ai r.2.2.1,ai r.2.2.2]]) 0 [.blk 0,.seq (pt 63 f108)]:=xC (λ_ _ _ _ _ _=>lN) λe ih=>λd f g a c b=>lw λ_=>rB 1 (rK 0 [0] zVF (λ_=>rB 1 (rC 0 [0] cO λ_=>rC 0 [0] zBt λ_=>lE 0)<|rC 0 [0] zYx λ_=>rW (λh13=>oP 1 (zLj h13 (by simp))) λ_=>lH 0 [] [0] [1] [0,1,2,3,9] (ih _ _ _ _ _ _)) λ_=>lE 0)<|lE 0
theorem zDG{e d m n p f}:Cz (aQ e d m n p f) 108 [.cells [zB zH d .no,ai m,ai n,ai p]] [.mp 0 0,ai f,.clo 114 [.mp 0 0] [],.clo 115 [.mp 0 0] []] (λr=>.sl (zI zF r.1) r.1.length .no) (λr=>[.cells [zB zH d .no,ai r.2.1,ai r.2.2.1,ai r.2.2.2]]) 0:=fw func108<|fH 0 [(none,9,7)] [0] [0] [0,1,2,3,9] (zDF _ _ _ _ _ _ _)
def zPI(e:Nat)(c:List zL)(d b a:Int):Option (Bool):=nK e c d b a 0 (⟨#[40]⟩:ByteArray)>>=λr1=>some r1
theorem zYw{e c d b a}:Cz (zPI e c d b a) 109 [.cells [zB zH c .no,ai d,ai b,ai a]] [.mp 0 0] (λr=>ab r) (λ_=>[.cells [zB zH c .no,ai d,ai b,ai a]]) 0:=fw func109<|rC 0 [0] lR λ_=>fE 0
def zPJ(e:Nat)(b:List zL)(d c a:Int):Option (zY×Int×Int×Int):=rE e b d c a (⟨#[40]⟩:ByteArray)>>=λr1=>zMe e b r1.1 r1.2.1 r1.2.2>>=λr3=>rE e b r3.2.1 r3.2.2.1 r3.2.2.2 (⟨#[41]⟩:ByteArray)>>=λr5=>some (r3.1,r5.1,r5.2.1,r5.2.2)
theorem zYv{e b d c a}:Cz (zPJ e b d c a) 110 [.cells [zB zH b .no,ai d,ai c,ai a]] [.mp 0 0] (λr=>D6 r.1) (λr=>[.cells [zB zH b .no,ai r.2.1,ai r.2.2.1,ai r.2.2.2]]) 0:=fw func110<|rC 0 [0] nL λ_=>rC 0 [0] zVH λ_=>rC 1 [0] nL λ_=>fE 2
def pO:Nat->(List zL)->Int->(List zY)->Int->Int->Int->Option (List zY×Int×Int×Int)|0,_,_,_,_,_,_=>none|e+1,d,f,g,a,c,b=>if b==0 then zPI e d a c b>>=λr2=>if r2 then if decide ((g.length:Int)>=f)then fO e d a c b 0>>=λr6=>L8 e d a c b 2 r6.at_>>=λr8=>some (g,a,r8.1,r8.2)else zPJ e d a c b>>=λr10=>yW 88 g [r10.1]>>=λl12=>pO e d f l12 r10.2.1 r10.2.2.1 r10.2.2.2 else some (g,a,c,b)else some (g,a,c,b)
def V9(e:Nat)(d:List zL)(m n p f:Int):Option (List zY×Int×Int×Int):=pO e d f [] m n p
theorem zDH:∀e:Nat,∀d f g a c b,Lz (pO e d f g a c b) 1 f108 (pt 997 f108) (λj=>sp j 34 0 [(0,.mp 0 0),(1,ai f),(2,.clo 109 [.mp 0 0] []),(3,.clo 110 [.mp 0 0] []),(9,zB zF g (.st 0 7))]) ⟨[(0,.cells [zB zH d .no,ai a,ai c,ai b])],1,[0],1,[]⟩ (λr=>.sl (zI zF r.1) r.1.length .no) (λr=>[.cells [zB zH d .no,ai r.2.1,ai r.2.2.1,ai r.2.2.2]]) 0 [.blk 0,.seq (pt 63 f108)]:=xC (λ_ _ _ _ _ _=>lN) λe ih=>λd f g a c b=>lw λ_=>rB 1 (rK 0 [0] zYw (λ_=>rB 1 (rC 0 [0] cO λ_=>rC 0 [0] zBt λ_=>lE 0)<|rC 0 [0] zYv λ_=>rW (λh13=>oP 1 (zLj h13 (by simp))) λ_=>lH 0 [] [0] [1] [0,1,2,3,9] (ih _ _ _ _ _ _)) λ_=>lE 0)<|lE 0
theorem zMd{e d m n p f}:Cz (V9 e d m n p f) 108 [.cells [zB zH d .no,ai m,ai n,ai p]] [.mp 0 0,ai f,.clo 109 [.mp 0 0] [],.clo 110 [.mp 0 0] []] (λr=>.sl (zI zF r.1) r.1.length .no) (λr=>[.cells [zB zH d .no,ai r.2.1,ai r.2.2.1,ai r.2.2.2]]) 0:=fw func108<|fH 0 [(none,9,7)] [0] [0] [0,1,2,3,9] (zDH _ _ _ _ _ _ _)
def zMc(e:Nat)(c:List zL)(d b a:Int):Option (Bool):=fO e c d b a 0>>=λr1=>if r1.kind_==1 then some true else nK e c d b a 0 (⟨#[46]⟩:ByteArray)>>=λr4=>if r4 then some true else nK e c d b a 0 (⟨#[40]⟩:ByteArray)>>=λr7=>some r7
theorem zVI{e c d b a}:Cz (zMc e c d b a) 281 [.cells [zB zH c .no,ai d,ai b,ai a]] [.mp 0 0] (λr=>ab r) (λ_=>[.cells [zB zH c .no,ai d,ai b,ai a]]) 0:=fw func281<|rC 0 [0] cO λ_=>rB 0 (fE 0)<|rK 0 [0] lR (λ_=>fE 0) λ_=>rC 0 [0] lR λ_=>fE 0
mutual def zFA:Nat->(List zL)->Int->Int->Int->Option (zG×Int×Int×Int)
 |0,_,_,_,_=>none|m+1,b,d,c,a=>fO m b d c a 0>>=λr1=>if a !=0 then some ((zG.mk 0 0 (⟨#[]⟩:ByteArray) 0 []),d,c,a)else nK m b d c a 0 (⟨#[40]⟩:ByteArray)>>=λr4=>if r4 then zPK m b d c a>>=λr7=>some (r7.1,r7.2.1,r7.2.2.1,r7.2.2.2)else nK m b d c a 0 (⟨#[46]⟩:ByteArray)>>=λr9=>if r9 then zFb m b (yI (d+1)) c a>>=λr12=>some ((zG.mk 10 r1.at_ (⟨#[]⟩:ByteArray) 0 [r12.1]),r12.2.1,r12.2.2.1,r12.2.2.2)else fO m b d c a 0>>=λr14=>if r14.kind_==1 then fO m b d c a 0>>=λr17=>if r17.text_.toList==(⟨#[95]⟩:ByteArray).toList then some ((zG.mk 7 r1.at_ (⟨#[]⟩:ByteArray) 0 []),(yI (d+1)),c,a)else V4 m b d c a>>=λr20=>some ((zG.mk 6 r1.at_ r20.1 0 []),r20.2.1,r20.2.2.1,r20.2.2.2)else V4 m b d c a>>=λr22=>some ((zG.mk 6 r1.at_ r22.1 0 []),r22.2.1,r22.2.2.1,r22.2.2.2)def zPK:Nat->(List zL)->Int->Int->Int->Option (zG×Int×Int×Int)
 |0,_,_,_,_=>none|m+1,b,d,c,a=>fO m b d c a 0>>=λr1=>nK m b (yI (d+1)) c a 0 (⟨#[41]⟩:ByteArray)>>=λr3=>if r3 then some ((zG.mk 9 r1.at_ (⟨#[]⟩:ByteArray) 0 []),(yI ((yI (d+1))+1)),c,a)else zJn m b (yI (d+1)) c a 0>>=λr6=>if r6 then fO m b (yI (d+1)) c a 0>>=λr9=>V4 m b (yI (d+1)) c a>>=λr11=>aR m b r1 r11 r11.2.1 r11.2.2.1 r11.2.2.2 6 r9.at_ []else zFA m b (yI (d+1)) c a>>=λr13=>rE m b r13.2.1 r13.2.2.1 r13.2.2.2 (⟨#[41]⟩:ByteArray)>>=λr15=>some (r13.1,r15.1,r15.2.1,r15.2.2)def aR:Nat->(List zL)->zL->(ByteArray×Int×Int×Int)->Int->Int->Int->Int->Int->(List zG)->Option (zG×Int×Int×Int)|0,_,_,_,_,_,_,_,_,_=>none|m+1,b,r1,r11,f,g,e,p,q,n=>if e==0 then zMc m b f g e>>=λr14=>if r14 then zFA m b f g e>>=λr17=>yW 64 n [r17.1]>>=λl19=>aR m b r1 r11 r17.2.1 r17.2.2.1 r17.2.2.2 8 r1.at_ l19 else rE m b f g e (⟨#[41]⟩:ByteArray)>>=λr21=>some ((zG.mk p q r11.1 0 n),r21.1,r21.2.1,r21.2.2)else rE m b f g e (⟨#[41]⟩:ByteArray)>>=λr23=>some ((zG.mk p q r11.1 0 n),r23.1,r23.2.1,r23.2.2)end
theorem L9:∀m:Nat,(∀b d c a,Cz (zFA m b d c a) 282 [.cells [zB zH b .no,ai d,ai c,ai a]] [.mp 0 0] (λr=>yV r.1) (λr=>[.cells [zB zH b .no,ai r.2.1,ai r.2.2.1,ai r.2.2.2]]) 0)/\(∀b d c a,Cz (zPK m b d c a) 314 [.cells [zB zH b .no,ai d,ai c,ai a]] [.mp 0 0] (λr=>yV r.1) (λr=>[.cells [zB zH b .no,ai r.2.1,ai r.2.2.1,ai r.2.2.2]]) 0)/\(∀b r1 r11 f g e p q n,Lz (aR m b r1 r11 f g e p q n) 1 f314 (pt 262117 f314) (λj=>sp j 63 0 [(0,.mp 0 0),(2,.mp 1 0),(3,ai r1.at_),(5,.mp 2 0)]) ⟨[(0,.cells [zB zH b .no,ai f,ai g,ai e]),(1,.cells [ai 0,ai 0,at' (⟨#[]⟩:ByteArray),ai 0,zB zK ([]:List zG) .nl]),(2,.cells [ai p,ai q,at' r11.1,ai 0,zB zK n (.st 0 5)])],3,[0],1,[]⟩ (λr=>yV r.1) (λr=>[.cells [zB zH b .no,ai r.2.1,ai r.2.2.1,ai r.2.2.2]]) 0 [.blk 0,.seq (pt 16383 f314)]):=xC ⟨λ_ _ _ _=>cN,λ_ _ _ _=>cN,λ_ _ _ _ _ _ _ _ _=>lN⟩ λm ih=>⟨λb d c a=>fw func282<|rC 0 [0] cO λ_=>rB 1 (fE 1)<|rK 0 [0] lR (λ_=>rC 0 [0] (ih.2.1 _ _ _ _) λ_=>fE 1) λ_=>rK 0 [0] lR (λ_=>rC 3 [0] zYz λr12=>rS (oS 0 (yR vG [r12.1]))<|fE 1) λ_=>rC 0 [0] cO λ_=>rB 0 (rC 0 [0] cO λ_=>rB 0 (fE 4)<|rC 0 [0] zDC λ_=>fE 1)<|rC 0 [0] zDC λ_=>fE 1,λb d c a=>fw func314<|rC 0 [0] cO λ_=>rK 3 [0] lR (λ_=>fE 4) λ_=>rK 0 [0] zSR (λ_=>rC 1 [0] cO λ_=>rC 0 [0] zDC λ_=>fH 1 [(some 2,4,5)] [0,1,2] [0] [0,2,3,5] (ih.2.2 _ _ _ _ _ _ _ _ _)) λ_=>rC 1 [0] (ih.1 _ _ _ _) λ_=>rC 1 [0] nL λ_=>fE 2,λb r1 r11 f g e p q n=>lw λ_=>rB 1 (rK 0 [0] zVI (λ_=>rS (u6 2)<|rC 0 [0] (ih.1 _ _ _ _) λr17=>rS (oS 0 (yR vG [r17.1]))<|rW (λh20=>oP 0 (zRO h20 (by simp))) λ_=>lH 1 [] [0,1,2] [1] [0,2,3,5] (ih.2.2 _ _ _ _ _ _ _ _ _)) λ_=>rC 0 [0] nL λ_=>lE 2)<|rC 0 [0] nL λ_=>lE 2⟩
theorem zYu{m b d c a}:Cz (zFA m b d c a) 282 [.cells [zB zH b .no,ai d,ai c,ai a]] [.mp 0 0] (λr=>yV r.1) (λr=>[.cells [zB zH b .no,ai r.2.1,ai r.2.2.1,ai r.2.2.2]]) 0:=(L9 _).1 _ _ _ _
def aS:Nat->(List zL)->(List zG)->Int->Int->Int->Option (List zG×Int×Int×Int)|0,_,_,_,_,_=>none|m+1,a,n,b,d,c=>if c==0 then zMc m a b d c>>=λr2=>if r2 then fO m a b d c 0>>=λr5=>if decide ((n.length:Int)>=24)then L8 m a b d c 2 r5.at_>>=λr8=>some (n,b,r8.1,r8.2)else zFA m a b d c>>=λr10=>zMf m a r10.2.1 r10.2.2.1 r10.2.2.2 r10.1 r5.at_>>=λr12=>yW 64 n [r12.1]>>=λl14=>aS m a l14 r10.2.1 r12.2.1 r12.2.2 else some (n,b,d,c)else some (n,b,d,c)
def zST(m:Nat)(a:List zL)(g f e:Int):Option (List zG×Int×Int×Int):=aS m a [] g f e
theorem zPL:∀m:Nat,∀a n b d c,Lz (aS m a n b d c) 1 f238 (pt 997 f238) (λj=>sp j 32 0 [(0,.mp 0 0),(3,zB zK n (.st 0 5))]) ⟨[(0,.cells [zB zH a .no,ai b,ai d,ai c])],1,[0],1,[]⟩ (λr=>.sl (zI zK r.1) r.1.length .no) (λr=>[.cells [zB zH a .no,ai r.2.1,ai r.2.2.1,ai r.2.2.2]]) 0 [.blk 0,.seq (pt 63 f238)]:=xC (λ_ _ _ _ _=>lN) λm ih=>λa n b d c=>lw λ_=>rB 1 (rK 0 [0] zVI (λ_=>rC 0 [0] cO λ_=>rB 1 (rC 0 [0] zBt λ_=>lE 0)<|rC 0 [0] zYu λ_=>rC 0 [0] zVG λr12=>rS (oS 0 (yR vG [r12.1]))<|rW (λh15=>oP 0 (zRO h15 (by simp))) λ_=>lH 0 [] [0] [1] [0,3] (ih _ _ _ _ _)) λ_=>lE 0)<|lE 0
theorem zYt{m a g f e}:Cz (zST m a g f e) 238 [.cells [zB zH a .no,ai g,ai f,ai e]] [.mp 0 0] (λr=>.sl (zI zK r.1) r.1.length .no) (λr=>[.cells [zB zH a .no,ai r.2.1,ai r.2.2.1,ai r.2.2.2]]) 0:=fw func238<|fH 0 [(none,3,5)] [0] [0] [0,3] (zPL _ _ _ _ _ _)
def zPM(e:Nat)(a:List zL)(d c b:Int):Option (xK×Int×Int×Int):=fO e a d c b 0>>=λr1=>zST e a d c b>>=λr3=>if r3.2.2.2==0 then nK e a r3.2.1 r3.2.2.1 r3.2.2.2 0 (⟨#[61]⟩:ByteArray)>>=λr6=>if r6 then zDE e a (yI (r3.2.1+1)) r3.2.2.1 r3.2.2.2>>=λr9=>rE e a r9.2.1 r9.2.2.1 r9.2.2.2 (⟨#[59]⟩:ByteArray)>>=λr11=>some ((xK.mk r1.at_ r3.1 true r9.1),r11.1,r11.2.1,r11.2.2)else rE e a r3.2.1 r3.2.2.1 r3.2.2.2 (⟨#[59]⟩:ByteArray)>>=λr13=>some ((xK.mk r1.at_ r3.1 false (zG.mk 0 0 (⟨#[]⟩:ByteArray) 0 [])),r13.1,r13.2.1,r13.2.2)else rE e a r3.2.1 r3.2.2.1 r3.2.2.2 (⟨#[59]⟩:ByteArray)>>=λr15=>some ((xK.mk r1.at_ r3.1 false (zG.mk 0 0 (⟨#[]⟩:ByteArray) 0 [])),r15.1,r15.2.1,r15.2.2)
theorem zYs{e a d c b}:Cz (zPM e a d c b) 177 [.cells [zB zH a .no,ai d,ai c,ai b]] [.mp 0 0] (λr=>zCG r.1) (λr=>[.cells [zB zH a .no,ai r.2.1,ai r.2.2.1,ai r.2.2.2]]) 0:=fw func177<|rC 0 [0] cO λ_=>rC 0 [0] zYt λ_=>rB 2 (rK 0 [0] lR (λ_=>rC 3 [0] zPG λ_=>rC 2 [0] nL λ_=>fE 2) λ_=>rC 0 [0] nL λ_=>fE 2)<|rC 0 [0] nL λ_=>fE 2
def fR:Nat->(List zL)->(List xK)->Int->Int->Int->Option (List xK×Int×Int×Int)|0,_,_,_,_,_=>none|m+1,a,n,b,d,c=>if c==0 then zMg m a b d c>>=λr2=>if r2 then if decide ((n.length:Int)>=32)then fO m a b d c 0>>=λr6=>L8 m a b d c 2 r6.at_>>=λr8=>some (n,b,r8.1,r8.2)else zPM m a b d c>>=λr10=>yW 104 n [r10.1]>>=λl12=>fR m a l12 r10.2.1 r10.2.2.1 r10.2.2.2 else some (n,b,d,c)else some (n,b,d,c)
def zPN(m:Nat)(a:List zL)(g f e:Int):Option (List xK×Int×Int×Int):=fR m a [] g f e
theorem zPO:∀m:Nat,∀a n b d c,Lz (fR m a n b d c) 1 f113 (pt 997 f113) (λj=>sp j 27 0 [(0,.mp 0 0),(3,zB zR n (.st 0 8))]) ⟨[(0,.cells [zB zH a .no,ai b,ai d,ai c])],1,[0],1,[]⟩ (λr=>.sl (zI zR r.1) r.1.length .no) (λr=>[.cells [zB zH a .no,ai r.2.1,ai r.2.2.1,ai r.2.2.2]]) 0 [.blk 0,.seq (pt 63 f113)]:=xC (λ_ _ _ _ _=>lN) λm ih=>λa n b d c=>lw λ_=>rB 1 (rK 0 [0] zVF (λ_=>rB 1 (rC 0 [0] cO λ_=>rC 0 [0] zBt λ_=>lE 0)<|rC 0 [0] zYs λ_=>rW (λh13=>oP 1 (zVt h13 (by simp))) λ_=>lH 0 [] [0] [1] [0,3] (ih _ _ _ _ _)) λ_=>lE 0)<|lE 0
theorem zVJ{m a g f e}:Cz (zPN m a g f e) 113 [.cells [zB zH a .no,ai g,ai f,ai e]] [.mp 0 0] (λr=>.sl (zI zR r.1) r.1.length .no) (λr=>[.cells [zB zH a .no,ai r.2.1,ai r.2.2.1,ai r.2.2.2]]) 0:=fw func113<|fH 0 [(none,3,8)] [0] [0] [0,3] (zPO _ _ _ _ _ _)
def e53(b:Nat)(a:ByteArray):Option (List zL×Int×Int×Int):=zPh b a>>=λr1=>if r1.2.2 !=0 then some ([(zL.mk 5 (⟨#[]⟩:ByteArray) 0)],0,r1.2.1,r1.2.2)else some (r1.1,0,0,0)
theorem c53{b a}:Cz (e53 b a) 53 [] [at' a] (λ_=>.mp 0 0) (λr=>[.cells [zB zH r.1 .no,ai r.2.1,ai r.2.2.1,ai r.2.2.2]]) 0:=fw func53<|rC 0 [] zXQ λ_=>rB 3 (fF 1 [0])<|fF 0 [0]
def e55(e:Nat)(a:List zL)(d c b:Int):Option (yL×Int×Int×Int):=zPF e a d c b>>=λr1=>fO e a d c b 0>>=λr3=>if r1==0 then L8 e a d c b 1 r3.at_>>=λr6=>some ((yL.mk r1 r3.at_ (⟨#[]⟩:ByteArray) [] (zG.mk 0 0 (⟨#[]⟩:ByteArray) 0 []) [] []),d,r6.1,r6.2)else V4 e a (yI (d+1)) c b>>=λr8=>if r1 !=3 then V9 e a r8.2.1 r8.2.2.1 r8.2.2.2 24>>=λr11=>rE e a r11.2.1 r11.2.2.1 r11.2.2.2 (⟨#[58]⟩:ByteArray)>>=λr13=>zDE e a r13.1 r13.2.1 r13.2.2>>=λr15=>rE e a r15.2.1 r15.2.2.1 r15.2.2.2 (⟨#[123]⟩:ByteArray)>>=λr17=>if r1==3 then zPN e a r17.1 r17.2.1 r17.2.2>>=λr20=>rE e a r20.2.1 r20.2.2.1 r20.2.2.2 (⟨#[125]⟩:ByteArray)>>=λr22=>some ((yL.mk r1 r3.at_ r8.1 r11.1 r15.1 [] r20.1),r22.1,r22.2.1,r22.2.2)else aQ e a r17.1 r17.2.1 r17.2.2 16>>=λr24=>rE e a r24.2.1 r24.2.2.1 r24.2.2.2 (⟨#[125]⟩:ByteArray)>>=λr26=>some ((yL.mk r1 r3.at_ r8.1 r11.1 r15.1 r24.1 []),r26.1,r26.2.1,r26.2.2)else rE e a r8.2.1 r8.2.2.1 r8.2.2.2 (⟨#[58]⟩:ByteArray)>>=λr28=>zDE e a r28.1 r28.2.1 r28.2.2>>=λr30=>rE e a r30.2.1 r30.2.2.1 r30.2.2.2 (⟨#[123]⟩:ByteArray)>>=λr32=>if r1==3 then zPN e a r32.1 r32.2.1 r32.2.2>>=λr35=>rE e a r35.2.1 r35.2.2.1 r35.2.2.2 (⟨#[125]⟩:ByteArray)>>=λr37=>some ((yL.mk r1 r3.at_ r8.1 [] r30.1 [] r35.1),r37.1,r37.2.1,r37.2.2)else aQ e a r32.1 r32.2.1 r32.2.2 16>>=λr39=>rE e a r39.2.1 r39.2.2.1 r39.2.2.2 (⟨#[125]⟩:ByteArray)>>=λr41=>some ((yL.mk r1 r3.at_ r8.1 [] r30.1 r39.1 []),r41.1,r41.2.1,r41.2.2)
theorem c55{e a d c b}:Cz (e55 e a d c b) 55 [.cells [zB zH a .no,ai d,ai c,ai b]] [.mp 0 0] (λr=>D7 r.1) (λr=>[.cells [zB zH a .no,ai r.2.1,ai r.2.2.1,ai r.2.2.2]]) 0:=fw func55<|rC 0 [0] zYy λ_=>rC 0 [0] cO λ_=>rB 2 (rC 1 [0] zBt λ_=>fE 2)<|rC 3 [0] zDC λ_=>rB 2 (rC 0 [0] zMd λ_=>rC 1 [0] nL λ_=>rC 0 [0] zPG λ_=>rC 1 [0] nL λ_=>rB 1 (rC 0 [0] zVJ λ_=>rC 1 [0] nL λ_=>fE 2)<|rC 0 [0] zDG λ_=>rC 1 [0] nL λ_=>fE 2)<|rC 0 [0] nL λ_=>rC 0 [0] zPG λ_=>rC 1 [0] nL λ_=>rB 1 (rC 0 [0] zVJ λ_=>rC 1 [0] nL λ_=>fE 2)<|rC 0 [0] zDG λ_=>rC 1 [0] nL λ_=>fE 2
def E5:Nat->ByteArray->(List zL×Int×Int×Int)->(List yL)->Int->Int->Int->Option (List yL×Int×Int)
 |0,_,_,_,_,_,_=>none|e+1,d,r1,f,c,b,a=>if a==0 then fO e r1.1 c b a 0>>=λr4=>if r4.kind_ !=5 then e55 e r1.1 c b a>>=λr7=>yW 168 f [r7.1]>>=λl9=>E5 e d r1 l9 r7.2.1 r7.2.2.1 r7.2.2.2 else if a !=0 then some ([],b,a)else some (f,(d.size:Int),0)else if a !=0 then some ([],b,a)else some (f,(d.size:Int),0)
def e22(e:Nat)(d:ByteArray):Option (List yL×Int×Int):=e53 e d>>=λr1=>E5 e d r1 [] r1.2.1 r1.2.2.1 r1.2.2.2
theorem zSU:∀e:Nat,∀d r1 f c b a,Lz (E5 e d r1 f c b a) 0 f22 (pt 4069 f22) (λj=>sp j 41 0 [(0,at' d),(5,.mp 0 0),(6,zB vW f (.st 0 11))]) ⟨[(0,.cells [zB zH r1.1 .no,ai c,ai b,ai a])],1,[0],1,[]⟩ (λr=>.tup [.sl (zI vW r.1) r.1.length .no,ai r.2.1,ai r.2.2]) (λ_=>[]) 0 [.blk 0,.seq (pt 255 f22)]:=xC (λ_ _ _ _ _ _=>lN) λe ih=>λd r1 f c b a=>lw λ_=>rB 1 (rC 0 [0] cO λ_=>rB 0 (rC 0 [0] c55 λ_=>rW (λh10=>oP 1 (zVu h10 (by simp))) λ_=>lH 0 [] [0] [1] [0,5,6] (ih _ _ _ _ _ _))<|rB 1 (lE 2)<|lE 1)<|rB 1 (lE 2)<|lE 1
theorem c22{e d}:Cz (e22 e d) 22 [] [at' d] (λr=>.tup [.sl (zI vW r.1) r.1.length .no,ai r.2.1,ai r.2.2]) (λ_=>[]) 0:=fw func22<|rC 0 [] c53 λ_=>fH 0 [(none,6,11)] [0] [0] [0,5,6] (zSU _ _ _ _ _ _ _)
section
variable{l:List zL}(hl:zJr l)
theorem J7(i a b:Int)(t:zG)(p:Int)(ho:iU t):zD (λq=>zMf q l i a b t p) λr=>r.1=t/\(r.2.2=0->b=0):=by simp only[zMf];refine zD.ite (λh=>(V1 t ho).bind λ_ _=>zD.ite (λ_=>(qA i a b 2 _ (by decide)).bind λr hr=>zD.ret ⟨rfl,λh=>absurd h hr⟩) λ_=>zD.ret ⟨rfl,id⟩) λ_=>zD.ret ⟨rfl,id⟩
include hl
theorem W0(i a b:Int)(h0:0<=i)(h1:i<l.length):zD (λq=>zDE q l i a b) (NR l i b):=by have:=hl.2.1;simp only[zDE];refine zD.bind ((wZ hl i a b 0 (by omega) (by omega)).tot (P:=λ_=>True) trivial) λt _=>(V8 hl l.length i a b h0 h1 (by omega)).bind λr hr=>(J7 _ _ _ _ _ hr.1).bind λs hs=>zD.ret ⟨by show iU s.1;rw[hs.1];exact hr.1,hr.2.1,hr.2.2.1,λh=>hr.2.2.2 (hs.2 h)⟩
omit hl in def BR(l:List zL)(i b:Int)(r:zY×Int×Int×Int):Prop:=iU r.1.type_/\i<=r.2.1/\r.2.1<l.length/\(r.2.2.2=0->b=0/\i<r.2.1)
theorem zHf(i a b:Int)(h0:0<=i)(h1:i<l.length):zD (λq=>zMe q l i a b) (BR l i b):=by have:=hl.2.1;simp only[zMe];refine zD.bind ((wZ hl i a b 0 (by omega) (by omega)).tot (P:=λ_=>True) trivial) λt _=>(lS hl i a b h0 h1).bind λr hr=>(vA hl _ _ _ _ (by omega) hr.2.1).bind λs hs=>(W0 hl _ _ _ (by omega) hs.2.1).bind λu hu=>?_;obtain⟨o,hu⟩:=hu;exact zD.ret ⟨o,by show i<=u.2.1;omega,hu.2.1,λh=>by have:u.2.2.2=0:=h;show b=0/\i<u.2.1;omega⟩
theorem zMb(i a b:Int)(h0:0<=i)(h1:i<l.length):zD (λq=>zPJ q l i a b) (BR l i b):=by simp only[zPJ];refine(vA hl i a b _ h0 h1).bind λr hr=>(zHf hl _ _ _ (by omega) hr.2.1).bind λs hs=>?_;obtain⟨o,hs⟩:=hs;exact(vA hl _ _ _ _ (by omega) hs.2.1).bind λu hu=>zD.ret ⟨o,by show i<=u.1;omega,hu.2.1,λh=>by have:u.2.2=0:=h;show b=0/\i<u.1;omega⟩
theorem zJm(i a b:Int)(h0:0<=i)(h1:i<l.length):zD (λq=>zPH q l i a b) (BR l i b):=by simp only[zPH];refine(zHf hl i a b h0 h1).bind λs hs=>?_;obtain⟨o,hs⟩:=hs;exact(vA hl _ _ _ _ (by omega) hs.2.1).bind λu hu=>zD.ret ⟨o,by show i<=u.1;omega,hu.2.1,λh=>by have:u.2.2=0:=h;show b=0/\i<u.1;omega⟩
theorem J8(i a b:Int)(h0:0<=i)(h1:i<l.length):zD (λq=>zMc q l i a b) λ_=>True:=by have:=hl.2.1;simp only[zMc];exact zD.bind ((wZ hl i a b 0 (by omega) (by omega)).tot (P:=λ_=>True) trivial) λt _=>zD.ite (λ_=>zD.ret trivial) λ_=>(uI hl i a b 0 _ (by omega) (by omega)).bind λ_ _=>zD.ite (λ_=>zD.ret trivial) λ_=>(uI hl i a b 0 _ (by omega) (by omega)).bind λ_ _=>zD.ret trivial
omit hl in def zMa(l:List zL)(m:Nat):Prop:=∀i a b:Int,0<=i->i<l.length->(b=0->(l.length:Int)-i<=m)->zD (λq=>zFA q l i a b) (NR l i b)
omit hl in theorem zDI:∀{x y:List zG},u7 x->u7 y->u7 (x++y)|[],_,_,h=>h|_::_,_,h,k=>⟨h.1,zDI h.2 k⟩
theorem W1(m:Nat)(IH:zMa l m)(t:zL)(nm:ByteArray×Int×Int×Int):∀(k:Nat)(i a b kd p:Int)(sub:List zG),0<=i->i<l.length->(b=0->(l.length:Int)-i<=k)->(b=0->(l.length:Int)-i<=m)->(sub.length<=i+1/\(b=0->sub.length<=i))->u7 sub->zD (λq=>aR q l t nm i a b kd p sub) (NR l i b)
 |k,i,a,b,kd,p,sub,h0,h1,hk,hb,hs,ho=>by
  have:=hl.2.1;refine zD.succ ?_;simp only[aR];have oo:iU (zG.mk kd p nm.1 0 sub):=⟨by omega,ho⟩;have fin:=(vA hl i a b (⟨#[41]⟩:ByteArray) h0 h1).bind (k:=λ_ r=>some (zG.mk kd p nm.1 0 sub,r.1,r.2.1,r.2.2)) (Q:=NR l i b) λr hr=>⟨_,zC.ret,oo,hr⟩;refine zD.ite (λh=>(J8 hl i a b h0 h1).bind λ_ _=>zD.ite (λ_=>(IH i a b h0 h1 hb).bind λr hr=>zD.pure (zW (by simp;omega)) ?_) λ_=>fin) λ_=>fin;have hb0:b=0:=by simpa using h
  obtain⟨o,hr⟩:=hr;cases k with|zero=>have:=hk hb0;omega|succ k=>refine(W1 m IH t nm k r.2.1 _ _ 8 _ _ (by omega) hr.2.1 (by omega) (by omega) ⟨by simp;omega,by simp;omega⟩ (zDI ho (show u7 [r.1]from⟨o,trivial⟩))).mono λs hs=>?_;obtain⟨o2,hs⟩:=hs;exact⟨o2,by omega,hs.2.1,λh=>⟨hb0,by omega⟩⟩
theorem zJl(m:Nat)(IH:zMa l m)(i a b:Int)(h0:0<=i)(h1:i+1<l.length)(hb:(l.length:Int)-i<=m+1)(hb0:b=0):zD (λq=>zPK q l i a b) (NR l i b):=by
 have:=hl.2.1;refine zD.succ ?_;simp only[zPK];rw[zS (x:=i+1) (by omega) (by omega),zS (x:=i+1+1) (by omega) (by omega)];refine zD.bind ((wZ hl i a b 0 (by omega) (by omega)).tot (P:=λ_=>True) trivial) λt _=>(uI hl (i+1) a b 0 _ (by omega) (by omega)).bind λc hc=>zD.ite (λh=>?_) λ_=>?_;·have:=hc h;exact zD.ret ⟨t7 _ _ _ _,by show i<=i+1+1;omega,by show i+1+1<_;omega,λ_=>⟨hb0,by show i<i+1+1;omega⟩⟩
 ·refine(cP hl (i+1) a b 0 (by omega) (by omega)).bind λc hc=>zD.ite (λ_=>zD.bind ((wZ hl (i+1) a b 0 (by omega) (by omega)).tot (P:=λ_=>True) trivial) λu _=>(lS hl (i+1) a b (by omega) h1).bind λr hr=>?_) λ_=>?_
  ·refine(W1 hl m IH t r l.length r.2.1 _ _ 6 _ [] (by omega) hr.2.1 (by omega) (by omega) ⟨by simp;omega,by simp;omega⟩ trivial).mono λs hs=>?_;obtain⟨o2,hs⟩:=hs;exact⟨o2,by omega,hs.2.1,λh=>⟨hb0,by omega⟩⟩
  ·refine(IH (i+1) a b (by omega) h1 (by omega)).bind λr hr=>?_;obtain⟨o,hr⟩:=hr;exact(vA hl _ _ _ _ (by omega) hr.2.1).bind λs hs=>zD.ret ⟨o,by show i<=s.1;omega,hs.2.1,λ_=>⟨hb0,by show i<s.1;omega⟩⟩
theorem zHe:∀m:Nat,zMa l m
 |m,i,a,b,h0,h1,hb=>by
  have:=hl.2.1;refine zD.succ ?_;simp only[zFA];rw[zS (x:=i+1) (by omega) (by omega)];have e:=wZ hl i a b 0 (by omega) (by omega);refine zD.bind (e.tot (P:=λ_=>True) trivial) λt _=>zD.ite (λh=>zD.ret ⟨t7 _ _ _ _,by show i<=i;omega,h1,λh2=>absurd h2 (by simpa using h)⟩) λh=>?_;have hb0:b=0:=by simpa using h
  cases m with|zero=>have:=hb hb0;omega|succ m=>
   have nm:=(lS hl i a b h0 h1).bind (k:=λ_ r=>some (zG.mk 6 t.at_ r.1 0 [],r.2.1,r.2.2.1,r.2.2.2)) (Q:=NR l i b) λr hr=>⟨_,zC.ret,t7 _ _ _ _,hr⟩;refine(uI hl i a b 0 _ (by omega) (by omega)).bind λc hc=>zD.ite (λh2=>(zJl hl m (zHe m) i a b h0 (by have:=hc h2;omega) (by omega) hb0).bind λr hr=>⟨_,zC.ret,hr⟩) λ_=>?_;refine(uI hl i a b 0 _ (by omega) (by omega)).bind λc hc=>zD.ite (λh2=>(V7 hl l.length (V8 hl l.length) (i+1) a b (by omega) (by have:=hc h2;omega) (by omega)).bind λr hr=>zD.ret ?_) λ_=>?_;·obtain⟨o,hr⟩:=hr;exact⟨⟨by simp,o,trivial⟩,by show i<=r.2.1;omega,hr.2.1,λ_=>⟨hb0,by show i<r.2.1;omega⟩⟩
   ·refine zD.bind (e.tot rfl) λu hu=>zD.ite (λh2=>zD.bind (e.tot (P:=λ_=>True) trivial) λ_ _=>zD.ite (λ_=>zD.ret ⟨t7 _ _ _ _,?_⟩) λ_=>nm) λ_=>nm;subst hu;have:=E4 hl (i:=i+0) (by omega) (by have:=eq_of_beq h2;omega);exact⟨by show i<=i+1;omega,by show i+1<_;omega,λ_=>⟨hb0,by show i<i+1;omega⟩⟩
theorem f9:∀(k:Nat)(acc:List zG)(i a b:Int),0<=i->i<l.length->24-acc.length<=k->acc.length<=24->(∀p∈acc,iU p)->zD (λq=>aS q l acc i a b) λr=>(r.1.length<=24/\∀p∈r.1,iU p)/\i<=r.2.1/\r.2.1<l.length/\(r.2.2.2=0->b=0)
 |k,acc,i,a,b,h0,h1,hk,hn,ho=>by
  have:=hl.2.1;refine zD.succ ?_;simp only[aS];have fin:zD (λ_=>some (acc,i,a,b)) λr:List zG×Int×Int×Int=>(r.1.length<=24/\∀p∈r.1,iU p)/\i<=r.2.1/\r.2.1<l.length/\(r.2.2.2=0->b=0):=zD.ret ⟨⟨hn,ho⟩,by show i<=i;omega,h1,id⟩;refine zD.ite (λh=>(J8 hl i a b h0 h1).bind λ_ _=>zD.ite (λ_=>zD.bind ((wZ hl i a b 0 (by omega) (by omega)).tot (P:=λ_=>True) trivial) λt _=>zD.ite (λ_=>(qA _ _ _ 2 _ (by decide)).bind λr hr=>zD.ret ⟨⟨hn,ho⟩,by show i<=i;omega,h1,λh=>absurd h hr⟩) λh2=>?_) λ_=>fin) λ_=>fin;have hb0:b=0:=by simpa using h
  have h3:=of_decide_eq_false h2;refine(zHe hl l.length i a b h0 h1 (by omega)).bind λr hr=>(J7 _ _ _ _ _ hr.1).bind λs hs=>zD.pure (zW (by simp;omega)) ?_;obtain⟨o,hr⟩:=hr;cases k with|zero=>omega|succ k=>exact(f9 k _ r.2.1 _ _ (by omega) hr.2.1 (by simp;omega) (by simp;omega) (λp hp=>by rcases List.mem_append.1 hp with hp|hp;exact ho p hp;rw[List.mem_singleton.1 hp,hs.1];exact o)).mono λu hu=>⟨hu.1,by omega,hu.2.2.1,λ_=>hb0⟩
omit hl in theorem zVK{x:xK}(h:x.pats_.length<=24)(k:∀p∈x.pats_,iU p)(o:iU x.body_):aP x:=⟨Nat.le_trans h (by decide),k,o⟩
omit hl in theorem dI'{d:yL}(h:iU d.type_)(h1:d.tele_.length<=24/\bOk d.tele_)(h2:d.cons_.length<=16/\bOk d.cons_)(h3:d.rows_.length<=32/\∀r∈d.rows_,aP r):dOk d:=⟨h,⟨Nat.le_trans h1.1 (by decide),h1.2⟩,⟨Nat.le_trans h2.1 (by decide),h2.2⟩,Nat.le_trans h3.1 (by decide),h3.2⟩
theorem zPP(i a b:Int)(h0:0<=i)(h1:i<l.length):zD (λq=>zPM q l i a b) λr=>aP r.1/\i<=r.2.1/\r.2.1<l.length:=by have:=hl.2.1;simp only[zPM,zST];refine zD.bind ((wZ hl i a b 0 (by omega) (by omega)).tot (P:=λ_=>True) trivial) λt _=>(f9 hl 24 [] i a b h0 h1 (by simp) (by simp) (by simp)).bind λr hr=>?_;obtain⟨⟨o1,o2⟩,hr⟩:=hr;have fin:=(vA hl r.2.1 r.2.2.1 r.2.2.2 (⟨#[59]⟩:ByteArray) (by omega) hr.2.1).bind (k:=λ_ s=>some (xK.mk t.at_ r.1 false (zG.mk 0 0 (⟨#[]⟩:ByteArray) 0 []),s.1,s.2.1,s.2.2)) (Q:=λr=>aP r.1/\i<=r.2.1/\r.2.1<(l.length:Int)) λs hs=>⟨_,zC.ret,zVK o1 o2 (t7 _ _ _ _),by show i<=s.1;omega,hs.2.1⟩;refine zD.ite (λ_=>(uI hl _ _ _ 0 _ (by omega) (by omega)).bind λc hc=>zD.ite (λh2=>?_) λ_=>fin) λ_=>fin;have:=hc h2;rw[zS (x:=r.2.1+1) (by omega) (by omega)];refine(W0 hl _ _ _ (by omega) (by omega)).bind λs hs=>?_;obtain⟨o,hs⟩:=hs;exact(vA hl _ _ _ _ (by omega) hs.2.1).bind λu hu=>zD.ret ⟨zVK o1 o2 o,by show i<=u.1;omega,hu.2.1⟩
theorem zDJ(i a b:Int)(h0:0<=i)(h1:i<l.length):zD (λq=>zMg q l i a b) λ_=>True:=by have:=hl.2.1;simp only[zMg];exact(uI hl i a b 0 _ (by omega) (by omega)).bind λ_ _=>zD.ret trivial
theorem zFB(i a b:Int)(h0:0<=i)(h1:i<l.length):zD (λq=>zPI q l i a b) λ_=>True:=by have:=hl.2.1;simp only[zPI];exact(uI hl i a b 0 _ (by omega) (by omega)).bind λ_ _=>zD.ret trivial
theorem d7:∀(k:Nat)(acc:List xK)(i a b:Int),0<=i->i<l.length->32-acc.length<=k->acc.length<=32->(∀p∈acc,aP p)->zD (λq=>fR q l acc i a b) λr=>(r.1.length<=32/\∀p∈r.1,aP p)/\i<=r.2.1/\r.2.1<l.length/\(r.2.2.2=0->b=0)
 |k,acc,i,a,b,h0,h1,hk,hn,ho=>by
  have:=hl.2.1;refine zD.succ ?_;simp only[fR];have fin:zD (λ_=>some (acc,i,a,b)) λr:List xK×Int×Int×Int=>(r.1.length<=32/\∀p∈r.1,aP p)/\i<=r.2.1/\r.2.1<l.length/\(r.2.2.2=0->b=0):=zD.ret ⟨⟨hn,ho⟩,by show i<=i;omega,h1,id⟩;refine zD.ite (λh=>(zDJ hl i a b h0 h1).bind λ_ _=>zD.ite (λ_=>zD.ite (λ_=>zD.bind ((wZ hl i a b 0 (by omega) (by omega)).tot (P:=λ_=>True) trivial) λt _=>(qA _ _ _ 2 _ (by decide)).bind λr hr=>zD.ret ⟨⟨hn,ho⟩,by show i<=i;omega,h1,λh=>absurd h hr⟩) λh2=>?_) λ_=>fin) λ_=>fin;have hb0:b=0:=by simpa using h
  have h3:=of_decide_eq_false h2;refine(zPP hl i a b h0 h1).bind λr hr=>zD.pure (zW (by simp;omega)) ?_;obtain⟨o,hr⟩:=hr;cases k with|zero=>omega|succ k=>exact(d7 k _ r.2.1 _ _ (by omega) hr.2 (by simp;omega) (by simp;omega) (λp hp=>by rcases List.mem_append.1 hp with hp|hp;exact ho p hp;rw[List.mem_singleton.1 hp];exact o)).mono λu hu=>⟨hu.1,by omega,hu.2.2.1,λ_=>hb0⟩
omit hl in def LR(l:List zL)(i b most:Int)(r:List zY×Int×Int×Int):Prop:=(r.1.length<=most/\bOk r.1)/\i<=r.2.1/\r.2.1<l.length/\(r.2.2.2=0->b=0)
theorem d8(most:Int)(hm:0<=most/\most<=24):∀(k:Nat)(acc:List zY)(i a b:Int),0<=i->i<l.length->most-acc.length<=k->acc.length<=most->bOk acc->zD (λq=>pO q l most acc i a b) (LR l i b most)
 |k,acc,i,a,b,h0,h1,hk,hn,ho=>by
  have:=hl.2.1;refine zD.succ ?_;simp only[pO];have fin:zD (λ_=>some (acc,i,a,b)) (LR l i b most):=zD.ret ⟨⟨hn,ho⟩,by show i<=i;omega,h1,id⟩;refine zD.ite (λh=>(zFB hl i a b h0 h1).bind λ_ _=>zD.ite (λ_=>zD.ite (λ_=>zD.bind ((wZ hl i a b 0 (by omega) (by omega)).tot (P:=λ_=>True) trivial) λt _=>(qA _ _ _ 2 _ (by decide)).bind λr hr=>zD.ret ⟨⟨hn,ho⟩,by show i<=i;omega,h1,λh=>absurd h hr⟩) λh2=>?_) λ_=>fin) λ_=>fin;have hb0:b=0:=by simpa using h
  have h3:=of_decide_eq_false h2;refine(zMb hl i a b h0 h1).bind λr hr=>zD.pure (zW (by simp;omega)) ?_;obtain⟨o,hr⟩:=hr;cases k with|zero=>omega|succ k=>exact(d8 most hm k _ r.2.1 _ _ (by omega) hr.2.1 (by simp;omega) (by simp;omega) (λp hp=>by rcases List.mem_append.1 hp with hp|hp;exact ho p hp;rw[List.mem_singleton.1 hp];exact o)).mono λu hu=>⟨hu.1,by have:=hu.2.1;omega,hu.2.2.1,λ_=>hb0⟩
theorem d9(most:Int)(hm:0<=most/\most<=24):∀(k:Nat)(acc:List zY)(i a b:Int),0<=i->i<l.length->most-acc.length<=k->acc.length<=most->bOk acc->zD (λq=>sU q l most acc i a b) (LR l i b most)
 |k,acc,i,a,b,h0,h1,hk,hn,ho=>by
  have:=hl.2.1;refine zD.succ ?_;simp only[sU];have fin:zD (λ_=>some (acc,i,a,b)) (LR l i b most):=zD.ret ⟨⟨hn,ho⟩,by show i<=i;omega,h1,id⟩;refine zD.ite (λh=>(zDJ hl i a b h0 h1).bind λ_ _=>zD.ite (λ_=>zD.ite (λ_=>zD.bind ((wZ hl i a b 0 (by omega) (by omega)).tot (P:=λ_=>True) trivial) λt _=>(qA _ _ _ 2 _ (by decide)).bind λr hr=>zD.ret ⟨⟨hn,ho⟩,by show i<=i;omega,h1,λh=>absurd h hr⟩) λh2=>?_) λ_=>fin) λ_=>fin;have hb0:b=0:=by simpa using h
  have h3:=of_decide_eq_false h2;refine(zJm hl i a b h0 h1).bind λr hr=>zD.pure (zW (by simp;omega)) ?_;obtain⟨o,hr⟩:=hr;cases k with|zero=>omega|succ k=>exact(d9 most hm k _ r.2.1 _ _ (by omega) hr.2.1 (by simp;omega) (by simp;omega) (λp hp=>by rcases List.mem_append.1 hp with hp|hp;exact ho p hp;rw[List.mem_singleton.1 hp];exact o)).mono λu hu=>⟨hu.1,by have:=hu.2.1;omega,hu.2.2.1,λ_=>hb0⟩
theorem zMA(i a b:Int)(h0:0<=i)(h1:i<l.length):zD (λq=>zPF q l i a b) λr=>r≠0->i+1<l.length:=by have:=hl.2.1;simp only[zPF];refine(uI hl i a b 0 _ (by omega) (by omega)).bind λc hc=>zD.ite (λh=>zD.ret λ_=>by have:=hc h;omega) λ_=>?_;refine(uI hl i a b 0 _ (by omega) (by omega)).bind λc hc=>zD.ite (λh=>zD.ret λ_=>by have:=hc h;omega) λ_=>?_;exact(uI hl i a b 0 _ (by omega) (by omega)).bind λc hc=>zD.ite (λh=>zD.ret λ_=>by have:=hc h;omega) λ_=>zD.ret λh=>absurd rfl h
omit hl in def DR(l:List zL)(i:Int)(r:yL×Int×Int×Int):Prop:=dOk r.1/\i<=r.2.1/\r.2.1<l.length/\(r.2.2.2=0->i<r.2.1)
theorem zMB(i a b:Int)(h0:0<=i)(h1:i<l.length):zD (λq=>e55 q l i a b) (DR l i):=by
 have:=hl.2.1;have z:bOk []:=λ_ h=>nomatch h;simp only[e55,V9,aQ,zPN];refine(zMA hl i a b h0 h1).bind λc hc=>zD.bind ((wZ hl i a b 0 (by omega) (by omega)).tot (P:=λ_=>True) trivial) λt _=>zD.ite (λh=>(qA _ _ _ 1 _ (by decide)).bind λr hr=>zD.ret ⟨⟨t7 _ _ _ _,⟨by simp,z⟩,⟨by simp,z⟩,by simp,λ_ h=>nomatch h⟩,by show i<=i;omega,h1,λh=>absurd h hr⟩) λh=>?_;have:=hc (by simpa using h);rw[zS (x:=i+1) (by omega) (by omega)];refine(lS hl _ _ _ (by omega) (by omega)).bind λr hr=>?_;have rest:∀(T:List zY)(j e f:Int),i<j->j<l.length->(T.length<=24/\bOk T)->zD (λq=>rE q l j e f (⟨#[58]⟩:ByteArray)>>=λr13=>zDE q l r13.1 r13.2.1 r13.2.2>>=λr15=>rE q l r15.2.1 r15.2.2.1 r15.2.2.2 (⟨#[123]⟩:ByteArray)>>=λr17=>if(c==3)=true then fR q l [] r17.1 r17.2.1 r17.2.2>>=λr20=>rE q l r20.2.1 r20.2.2.1 r20.2.2.2 (⟨#[125]⟩:ByteArray)>>=λr22=>some ((yL.mk c t.at_ r.1 T r15.1 [] r20.1),r22.1,r22.2.1,r22.2.2)else sU q l 16 [] r17.1 r17.2.1 r17.2.2>>=λr24=>rE q l r24.2.1 r24.2.2.1 r24.2.2.2 (⟨#[125]⟩:ByteArray)>>=λr26=>some ((yL.mk c t.at_ r.1 T r15.1 r24.1 []),r26.1,r26.2.1,r26.2.2)) (DR l i):=by
  intro T j e f g0 g1 gT;refine(vA hl _ _ _ _ (by omega) g1).bind λu hu=>(W0 hl _ _ _ (by omega) hu.2.1).bind λv hv=>?_;obtain⟨ov,hv⟩:=hv;refine(vA hl _ _ _ _ (by omega) hv.2.1).bind λw hw=>zD.ite (λ_=>(d7 hl 32 [] _ _ _ (by omega) hw.2.1 (by simp) (by simp) (by simp)).bind λx hx=>?_) λ_=>(d9 hl 16 (by omega) 16 [] _ _ _ (by omega) hw.2.1 (by simp) (by simp) z).bind λx hx=>?_;·obtain⟨⟨x1,x2⟩,hx⟩:=hx;exact(vA hl _ _ _ _ (by omega) hx.2.1).bind λy hy=>zD.ret ⟨dI' ov gT ⟨by simp,z⟩ ⟨x1,x2⟩,by show i<=y.1;omega,hy.2.1,λ_=>by show i<y.1;omega⟩
  ·obtain⟨⟨x1,x2⟩,hx⟩:=hx;exact(vA hl _ _ _ _ (by omega) hx.2.1).bind λy hy=>zD.ret ⟨dI' ov gT ⟨Int.ofNat_le.1 x1,x2⟩ ⟨by simp,λ_ h=>nomatch h⟩,by show i<=y.1;omega,hy.2.1,λ_=>by show i<y.1;omega⟩
 refine zD.ite (λ_=>(d8 hl 24 (by omega) 24 [] _ _ _ (by omega) hr.2.1 (by simp) (by simp) z).bind λx hx=>?_) λ_=>rest [] _ _ _ (by omega) hr.2.1 ⟨by simp,z⟩;obtain⟨⟨x1,x2⟩,hx⟩:=hx;exact rest x.1 _ _ _ (by omega) hx.2.1 ⟨by omega,x2⟩
end
theorem zJk(s:ByteArray):zD (λq=>e53 q s) λr=>zJr r.1/\r.2.1=0:=by simp only[e53];exact(zMo s).bind λr hr=>zD.ite (λ_=>zD.ret ⟨⟨by simp,by simp,by simp⟩,rfl⟩) λh=>zD.ret ⟨hr (by simpa using h),rfl⟩
theorem b7(s:ByteArray)(r1:List zL×Int×Int×Int)(hl:zJr r1.1):∀(k:Nat)(acc:List yL)(i a b:Int),0<=i->i<r1.1.length->(r1.1.length:Int)-i<=k->acc.length<=i+1/\(b=0->acc.length<=i)->(∀d∈acc,dOk d)->zD (λq=>E5 q s r1 acc i a b) λr=>(∀d∈r.1,dOk d)/\r.1.length<=8194
 |k,acc,i,a,b,h0,h1,hk,hn,ho=>by
  have:=hl.2.1;refine zD.succ ?_;simp only[E5];have fin:zD (λ_:Nat=>if(b !=0)=true then some ([],a,b)else some (acc,(s.size:Int),0)) λr:List yL×Int×Int=>(∀d∈r.1,dOk d)/\r.1.length<=8194:=zD.ite (λ_=>zD.ret ⟨(λ_ h=>nomatch h),by simp⟩) λ_=>zD.ret ⟨ho,by show acc.length<=_;omega⟩;refine zD.ite (λh=>zD.bind ((wZ hl i a b 0 (by omega) (by omega)).tot (P:=λ_=>True) trivial) λt _=>zD.ite (λ_=>(zMB hl i a b h0 h1).bind λr hr=>zD.pure (zW (by simp;omega)) ?_) λ_=>fin) λ_=>fin;have hb0:b=0:=by simpa using h
  obtain⟨o,hr⟩:=hr;have ho2:∀d∈acc++[r.1],dOk d:=λp hp=>by rcases List.mem_append.1 hp with hp|hp;exact ho p hp;rw[List.mem_singleton.1 hp];exact o
  by_cases e:r.2.2.2=0;·cases k with|zero=>omega|succ k=>exact b7 s r1 hl k _ r.2.1 _ _ (by omega) hr.2.1 (by omega) ⟨by simp;omega,by simp;omega⟩ ho2
  ·refine zD.succ ?_;simp only[E5];exact zD.ite (λh=>absurd (by simpa using h) e) λ_=>zD.ite (λ_=>zD.ret ⟨(λ_ h=>nomatch h),by simp⟩) λh=>absurd (by simpa using h) e
theorem zMC(s:ByteArray):zD (λq=>e22 q s) λr=>(∀d∈r.1,dOk d)/\r.1.length<=8194:=by simp only[e22];refine(zJk s).bind λr hr=>?_;have:=hr.1.1;exact b7 s r hr.1 r.1.length [] _ _ _ (by omega) (by omega) (by omega) ⟨by simp;omega,by simp;omega⟩ (λ_ h=>nomatch h)
def zMD(b:Nat)(a:Tm)(c:Int):Option (Bool):=S8 b a 0 c>>=λr1=>if r1 then zIV b a>>=λr4=>some ((r4.length:Int)==0)else some false
theorem zVL{b a c}:Cz (zMD b a c) 153 [] [yJ a,ai c] (λr=>ab r) (λ_=>[]) 0:=fw func153<|rK 1 [] zFt (λ_=>rC 1 [] zXC λ_=>fE 2) λ_=>fE 0
def zME(b:Nat)(a:Tm):Option (Bool):=if a.k==0 then if a.n==0 then some ((a.sub.length:Int)==0)else some false else some false
theorem zVM{b a}:Cz (zME b a) 205 [] [yJ a] (λr=>ab r) (λ_=>[]) 0:=fw func205<|rB 1 (rB 1 (fE 3)<|fE 0)<|fE 0
def fS:Nat->yH->Int->Int->Option (Bool)|0,_,_,_=>none|c+1,a,b,d=>if decide (d<(a.length:Int))then zM a d>>=λx2=>if x2 !=(yI (b+d))then some false else fS c a b (yI (d+1))else some true
def zMF(c:Nat)(a:yH)(b:Int):Option (Bool):=fS c a b 0
theorem zPQ:∀c:Nat,∀a b d,Lz (fS c a b d) 0 f206 (pt 949 f206) (λj=>sp j 20 0 [(1,ai b),(7,zB zQ a .no),(8,ai (a.length:Int)),(9,ai d)]) ⟨[],0,[],0,[]⟩ (λr=>ab r) (λ_=>[]) 0 [.blk 0,.seq (pt 15 f206)]:=xC (λ_ _ _=>lN) λc ih=>λa b d=>lw λ_=>rB 0 (rA 0 (pZ (o:=.no)) λ_=>rB 2 (lE 0)<|lH 1 [] [] [] [1,7,8,9] (ih _ _ _))<|lE 0
theorem zVN{c a b}:Cz (zMF c a b) 206 [] [zB zQ a .no,ai b] (λr=>ab r) (λ_=>[]) 0:=fw func206<|fH 1 [] [] [] [1,7,8,9] (zPQ _ _ _ _)
def e90(d:Nat)(b:zX)(a c:Int):Option (Bool):=if decide (a>=0)then if decide (a<(b.length:Int))then zM b a>>=λx3=>some (x3.kind==c)else some false else some false
theorem c90{d b a c}:Cz (e90 d b a c) 90 [] [zB zO b .no,ai a,ai c] (λr=>ab r) (λ_=>[]) 0:=fw func90<|rB 0 (rB 1 (rA 0 (xP (o:=.no)) λ_=>fE 2)<|fE 0)<|fE 0
def fU:Nat->zX->Int->yH->Int->Int->Option (Bool)
 |0,_,_,_,_,_=>none|f+1,c,d,b,e,a=>if decide (a<(b.length:Int))then zM b a>>=λx2=>e90 f c x2 e>>=λr4=>if r4 then zM c x2>>=λx7=>if x7.fam !=d then some false else if x7.place !=a then some false else fU f c d b e (yI (a+1))else some false else some true
def zMG(f:Nat)(c:zX)(d:Int)(b:yH)(e:Int):Option (Bool):=fU f c d b e 0
theorem zPR:∀f:Nat,∀c d b e a,Lz (fU f c d b e a) 0 f207 (pt 949 f207) (λj=>sp j 42 0 [(0,zB zO c .no),(1,ai d),(3,ai e),(11,zB zQ b .no),(12,ai (b.length:Int)),(13,ai a)]) ⟨[],0,[],0,[]⟩ (λr=>ab r) (λ_=>[]) 0 [.blk 0,.seq (pt 15 f207)]:=xC (λ_ _ _ _ _=>lN) λf ih=>λc d b e a=>lw λ_=>rB 0 (rA 0 (pZ (o:=.no)) λ_=>rK 1 [] c90 (λ_=>rH λ_ h8=>rS (oA 1 (xP (o:=.no) h8))<|rB 1 (lE 0)<|rS (oA 0 (xP (o:=.no) h8))<|rB 1 (lE 0)<|lH 1 [] [] [] [0,1,3,11,12,13] (ih _ _ _ _ _)) λ_=>lE 1)<|lE 0
theorem zVO{f c d b e}:Cz (zMG f c d b e) 207 [] [zB zO c .no,ai d,zB zQ b .no,ai e] (λr=>ab r) (λ_=>[]) 0:=fw func207<|fH 1 [] [] [] [0,1,3,11,12,13] (zPR _ _ _ _ _ _)
def zPS(a:Nat)(c:zX)(b:Int):Option (Bool):=zM c b>>=λx1=>if decide (x1.pars<0)then some false else if decide (x1.inds<0)then some false else if decide (x1.pars>24)then some false else if decide (x1.inds>(yI (24-x1.pars)))then some false else if x1.fam !=0 then some false else if x1.place !=0 then some false else zME a x1.body>>=λr9=>if r9 then e91 a x1.type (yI (x1.pars+x1.inds))>>=λr12=>if r12.2.2 !=0 then some false else if r12.2.1.k !=2 then some false else if r12.2.1.n !=x1.level then some false else if decide ((x1.cons.length:Int)>16)then some false else zMF a x1.cons (yI (b+1))>>=λr18=>if r18 then zMG a c b x1.cons 2>>=λr21=>if r21 then if(x1.fields.length:Int)==0 then some true else if x1.inds !=0 then some false else if(x1.cons.length:Int)!=1 then some false else zMF a x1.fields (yI (b+2))>>=λr27=>if r27 then zMG a c b x1.fields 4>>=λr30=>if r30 then zM c (yI (b+1))>>=λx33=>e99 a x33.type>>=λr35=>if r35.2.2==0 then some ((r35.1.length:Int)==(yI (x1.pars+(x1.fields.length:Int))))else some false else some false else some false else some false else some false else some false
theorem zYr{a c b}:Cz (zPS a c b) 154 [] [zB zO c .no,ai b] (λr=>ab r) (λ_=>[]) 0:=fw func154<|rA 0 (xP (o:=.no)) λ_=>rB 3 (fE 0)<|rB 1 (fE 0)<|rB 1 (fE 0)<|rB 3 (fE 0)<|rB 1 (fE 0)<|rB 1 (fE 0)<|rK 1 [] zVM (λ_=>rC 5 [] c91 λ_=>rB 4 (fE 0)<|rB 1 (fE 0)<|rB 2 (fE 0)<|rB 2 (fE 0)<|rK 2 [] zVN (λ_=>rK 2 [] zVO (λ_=>rB 3 (fE 0)<|rB 1 (fE 0)<|rB 2 (fE 0)<|rK 2 [] zVN (λ_=>rK 2 [] zVO (λ_=>rA 2 (xP (o:=.no)) λ_=>rC 1 [] c99 λ_=>rB 4 (fE 6)<|fE 0) λ_=>fE 1) λ_=>fE 1) λ_=>fE 1) λ_=>fE 1) λ_=>fE 1
def oY(e:yE):Prop:=e.type.Ok/\e.body.Ok/\e.cons.length<=1152921504606846976/\e.fields.length<=1152921504606846976
def zE:yE:=yE.mk 0 ⟨#[]⟩ zT zT 0 0 0 0 0 [] []
def zP(l:List yE)(n:Int):yE:=(l[n.toNat]?).getD zE
theorem yP{l:List yE}{n:Int}(h0:0<=n)(h1:n<l.length):zM l n=some (zP l n):=by
 unfold zM zP;rw[if_pos h0];have:n.toNat<l.length:=by omega
 rw[List.getElem?_eq_getElem this];rfl
theorem qC{l:List yE}{n:Int}(h0:0<=n)(h1:n<l.length):zP l n∈l:=by
 unfold zP;have:n.toNat<l.length:=by omega
 rw[List.getElem?_eq_getElem this];exact List.getElem_mem this
def fV(l:List yE)(n kind:Int):Bool:=decide (0<=n)&&decide (n<l.length)&&(zP l n).kind==kind
theorem vB{l:List yE}{n kind:Int}(h:fV l n kind=true):0<=n/\n<l.length/\(zP l n).kind=kind:=by unfold fV at h;simp only[Bool.and_eq_true,decide_eq_true_eq,beq_iff_eq]at h;exact⟨h.1.1,h.1.2,h.2⟩
theorem zHd(l:List yE)(n kind:Int):zC (λq=>e90 q l n kind) (fV l n kind):=by
 simp only[e90];unfold fV;by_cases h0:n>=0
 ·refine zC.ifT (decide_eq_true h0) ?_;by_cases h1:n<l.length;·exact zC.ifT (decide_eq_true h1) (zC.pure (yP h0 h1) (zC.ret.eq (by simp[show 0<=n from h0,h1])))
  ·exact zC.ifF (decide_eq_false h1) (zC.ret.eq (by simp[h1]))
 ·exact zC.ifF (decide_eq_false h0) (zC.ret.eq (by simp[show¬0<=n from h0]))
def dM(t:Tm):Bool:=t.k==0&&t.n==0&&(t.sub.length:Int)==0
theorem zBs(t:Tm):zC (λq=>zME q t) (dM t):=by refine zC.mk λq=>?_;unfold zME dM;by_cases h1:t.k=0<;>by_cases h2:t.n=0<;>by_cases h3:t.sub.length=0<;>simp[h1,h2,h3]
def qD(t:Tm)(n:Int):Bool:=nF t 0 n&&(iL t 8 8).isEmpty
theorem W2(t:Tm)(n:Int)(ho:t.Ok):zC (λq=>zMD q t n) (qD t n):=by
 simp only[zMD];refine(nG t 0 n ho).bind ?_;unfold qD;by_cases h:nF t 0 n=true
 ·refine zC.ifT h ((zLC t ho).bind (zC.ret.eq ?_));have hs:zJ t=true:=by unfold nF at h;simp at h;exact h.1.1
  unfold m7;rw[if_pos hs,h,Bool.true_and,Bool.eq_iff_iff];simp only[beq_iff_eq,List.isEmpty_iff];constructor
  ·intro h6;have h6':wT (iL t 8 8)=[]:=List.length_eq_zero_iff.1 (by omega);refine List.eq_nil_iff_forall_not_mem.2 λx hx=>?_;rw[<-aA,h6']at hx;cases hx
  ·intro h6;rw[h6];rfl
 ·exact zC.ifF (by simpa using h) (zC.ret.eq (by simp[h]))
def t8:List Int->Int->Bool|[],_=>true|n::r,m=>n==m&&t8 r (m+1)
theorem zDK(l:List Int)(f:Int)(hf:0<=f/\f<=1048576)(hl:l.length<=1152921504606846976):∀(r:List Int)(v:Nat),l.drop v=r->zC (λq=>fS q l f (v:Int)) (t8 r (f+v))
 |[],v,hd=>by refine zC.succ ?_;simp only[fS];exact zC.ifF (yF hd) zC.ret|n::r,v,hd=>by
  have hlt:=yK hd;refine zC.succ ?_;simp only[fS];refine zC.ifT (yD hd) (zC.pure (yA hd) ?_);rw[zS (x:=f+v) (by omega) (by omega),t8];by_cases h:n=f+v
  ·refine zC.ifF (by simp[h]) ?_;rw[zV v (by omega)];exact(zDK l f hf hl r (v+1) (zU hd)).eq (by rw[show f+((v+1:Nat):Int)=f+v+1 by omega];simp[h])
  ·exact zC.ifT (by simp[h]) (zC.ret.eq (by simp[h]))
theorem zHc(l:List Int)(f:Int)(hf:0<=f/\f<=1048576)(hl:l.length<=1152921504606846976):zC (λq=>zMF q l f) (t8 l f):=by simp only[zMF];exact(zDK l f hf hl l 0 rfl).eq (by simp)
def E6(l:List yE)(of kind:Int):List Int->Int->Bool|[],_=>true|n::r,k=>fV l n kind&&(zP l n).fam==of&&(zP l n).place==k&&E6 l of kind r (k+1)
theorem J9(l:List yE)(of kind:Int)(p:List Int)(hp:p.length<=1152921504606846976):∀(r:List Int)(v:Nat),p.drop v=r->zC (λq=>fU q l of p kind (v:Int)) (E6 l of kind r v)
 |[],v,hd=>by refine zC.succ ?_;simp only[fU];exact zC.ifF (yF hd) zC.ret|n::r,v,hd=>by
  have hlt:=yK hd;refine zC.succ ?_;simp only[fU];refine zC.ifT (yD hd) (zC.pure (yA hd) ((zHd l n kind).bind ?_));rw[E6];by_cases h:fV l n kind=true
  ·have hs:=vB h;refine zC.ifT h (zC.pure (yP hs.1 hs.2.1) ?_);by_cases h2:(zP l n).fam=of
   ·refine zC.ifF (by simp[h2]) ?_;by_cases h3:(zP l n).place=v
    ·refine zC.ifF (by simp[h3]) ?_;rw[zV v (by omega)];exact(J9 l of kind p hp r (v+1) (zU hd)).eq (by simp[h,h2,h3])
    ·exact zC.ifT (by simp[h3]) (zC.ret.eq (by simp[h3]))
   ·exact zC.ifT (by simp[h2]) (zC.ret.eq (by simp[h2]))
  ·exact zC.ifF (by simpa using h) (zC.ret.eq (by simp[h]))
theorem W3(l:List yE)(of kind:Int)(p:List Int)(hp:p.length<=1152921504606846976):zC (λq=>zMG q l of p kind) (E6 l of kind p 0):=by simp only[zMG];exact(J9 l of kind p hp p 0 rfl).eq (by simp)
def zFC(x:yE):Bool:=decide (0<=x.pars)&&decide (0<=x.inds)&&decide (x.pars<=24)&&decide (x.inds<=24-x.pars)&&x.fam==0&&x.place==0&&dM x.body
def zFD(x:yE):Bool:=(wM x.type (x.pars+x.inds)).2.2==0&&(wM x.type (x.pars+x.inds)).2.1.k==2&&(wM x.type (x.pars+x.inds)).2.1.n==x.level
def zBr(l:List yE)(i:Int)(x:yE):Bool:=decide (x.cons.length<=16)&&t8 x.cons (i+1)&&E6 l i 2 x.cons 0
def zSW(l:List yE)(i:Int)(x:yE):Bool:=x.inds==0&&decide (x.cons.length=1)&&t8 x.fields (i+2)&&E6 l i 4 x.fields 0&&(xG (zP l (i+1)).type).2.2==0&&((xG (zP l (i+1)).type).1.length:Int)==x.pars+x.fields.length
def pC(l:List yE)(i:Int):Bool:=zFC (zP l i)&&zFD (zP l i)&&zBr l i (zP l i)&&(decide ((zP l i).fields.length=0)||zSW l i (zP l i))
theorem zJj(l:List yE)(i:Int)(h0:0<=i)(h1:i<l.length)(hl:l.length<=65535)(he:∀e∈l,oY e):zC (λq=>zPS q l i) (pC l i):=by
 simp only[zPS];refine zC.pure (yP h0 h1) ?_;have hx:=he _ (qC h0 h1);have hfl:(zP l i).fields.length<=1152921504606846976:=hx.2.2.2;unfold pC;by_cases hA:zFC (zP l i)=true
 ·have hA':=hA;unfold zFC at hA';simp only[Bool.and_eq_true,decide_eq_true_eq,beq_iff_eq]at hA';obtain⟨⟨⟨⟨⟨⟨a1,a2⟩,a3⟩,a4⟩,a5⟩,a6⟩,a7⟩:=hA';refine zC.ifF (decide_eq_false (by omega)) (zC.ifF (decide_eq_false (by omega)) (zC.ifF (decide_eq_false (by omega)) (zC.ifF (decide_eq_false (by rw[zS (by omega) (by omega)];omega)) (zC.ifF (by simp[a5]) (zC.ifF (by simp[a6]) (((zBs _).eq a7).bind (zC.ifT rfl ?_)))))));rw[zS (by omega) (by omega)];refine(iS (zP l i).type _ hx.1).bind ?_;rw[hA];by_cases b1:(wM (zP l i).type ((zP l i).pars+(zP l i).inds)).2.2=0
  ·refine zC.ifF (by simp[b1]) ?_;by_cases b2:(wM (zP l i).type ((zP l i).pars+(zP l i).inds)).2.1.k=2
   ·refine zC.ifF (by simp[b2]) ?_;by_cases b3:(wM (zP l i).type ((zP l i).pars+(zP l i).inds)).2.1.n=(zP l i).level
    ·refine zC.ifF (by simp[b3]) ?_;have hB:zFD (zP l i)=true:=by unfold zFD;simp[b1,b2,b3]
     rw[hB];by_cases c1:(zP l i).cons.length<=16
     ·refine zC.ifF (decide_eq_false (by omega)) ?_;rw[zS (x:=i+1) (by omega) (by omega)];refine(zHc (zP l i).cons (i+1) (by omega) (by omega)).bind ?_;by_cases c2:t8 (zP l i).cons (i+1)=true
      ·refine zC.ifT c2 ((W3 l i 2 (zP l i).cons (by omega)).bind ?_);by_cases c3:E6 l i 2 (zP l i).cons 0=true
       ·refine zC.ifT c3 ?_;have hC:zBr l i (zP l i)=true:=by unfold zBr;simp[c1,c2,c3]
        rw[hC];by_cases d0:(zP l i).fields.length=0;·exact zC.ifT (by simp[d0]) (zC.ret.eq (by simp[d0]))
        ·refine zC.ifF (by have h:((zP l i).fields.length:Int)≠0:=(by omega);simpa using h) ?_;rw[show decide ((zP l i).fields.length=0)=false by simp[d0]];simp only[Bool.true_and,Bool.false_or];unfold zSW;by_cases d1:(zP l i).inds=0
         ·refine zC.ifF (by simp[d1]) ?_;by_cases d2:(zP l i).cons.length=1
          ·refine zC.ifF (by simp[d2]) ?_;rw[zS (x:=i+2) (by omega) (by omega)];refine(zHc (zP l i).fields (i+2) (by omega) hx.2.2.2).bind ?_;by_cases d3:t8 (zP l i).fields (i+2)=true
           ·refine zC.ifT d3 ((W3 l i 4 (zP l i).fields hx.2.2.2).bind ?_);by_cases d4:E6 l i 4 (zP l i).fields 0=true
            ·have hi:i+1<l.length:=by
              obtain⟨y,hy⟩:∃y,(zP l i).cons=[y]:=by rcases hc:(zP l i).cons with _|⟨y,_|⟨z,r⟩⟩<;>rw[hc]at d2<;>simp at d2;exact⟨y,rfl⟩
              rw[hy]at c2 c3;rw[t8]at c2;rw[E6]at c3;simp only[Bool.and_eq_true,beq_iff_eq]at c2 c3;have:=vB c3.1.1.1;omega
             refine zC.ifT d4 (zC.pure (yP (by omega) hi) ((aI _ (he _ (qC (by omega) hi)).1).bind ?_));by_cases d5:(xG (zP l (i+1)).type).2.2=0
             ·refine zC.ifT (by simp[d5]) (zC.ret.eq ?_);rw[zS (x:=(zP l i).pars+((zP l i).fields.length:Int)) (by omega) (by omega)];simp[d1,d2,d3,d4,d5]
             ·exact zC.ifF (by simp[d5]) (zC.ret.eq (by simp[d5]))
            ·exact zC.ifF (by simpa using d4) (zC.ret.eq (by simp[d4]))
           ·exact zC.ifF (by simpa using d3) (zC.ret.eq (by simp[d3]))
          ·exact zC.ifT (by simp<;>omega) (zC.ret.eq (by simp[d2]))
         ·exact zC.ifT (by simp[d1]) (zC.ret.eq (by simp[d1]))
       ·refine zC.ifF (by simpa using c3) (zC.ret.eq ?_);unfold zBr;simp[c3]
      ·refine zC.ifF (by simpa using c2) (zC.ret.eq ?_);unfold zBr;simp[c2]
     ·refine zC.ifT (decide_eq_true (by omega)) (zC.ret.eq ?_);unfold zBr;simp[c1]
    ·refine zC.ifT (by simp[b3]) (zC.ret.eq ?_);unfold zFD;simp[b3]
   ·refine zC.ifT (by simp[b2]) (zC.ret.eq ?_);unfold zFD;simp[b2]
  ·refine zC.ifT (by simp[b1]) (zC.ret.eq ?_);unfold zFD;simp[b1]
 ·rw[show zFC (zP l i)=false by simpa using hA];unfold zFC at hA;simp only[Bool.and_eq_true,decide_eq_true_eq,beq_iff_eq]at hA;by_cases a1:(zP l i).pars<0;·exact zC.ifT (decide_eq_true a1) zC.ret
  refine zC.ifF (decide_eq_false a1) ?_;by_cases a2:(zP l i).inds<0;·exact zC.ifT (decide_eq_true a2) zC.ret
  refine zC.ifF (decide_eq_false a2) ?_;by_cases a3:(zP l i).pars>24;·exact zC.ifT (decide_eq_true a3) zC.ret
  refine zC.ifF (decide_eq_false a3) ?_;rw[zS (x:=24-(zP l i).pars) (by omega) (by omega)];by_cases a4:(zP l i).inds>24-(zP l i).pars;·exact zC.ifT (decide_eq_true a4) zC.ret
  refine zC.ifF (decide_eq_false a4) ?_;by_cases a5:(zP l i).fam=0
  ·refine zC.ifF (by simp[a5]) ?_;by_cases a6:(zP l i).place=0
   ·refine zC.ifF (by simp[a6]) ((zBs _).bind ?_);by_cases a7:dM (zP l i).body=true;·exact absurd ⟨⟨⟨⟨⟨⟨by omega,by omega⟩,by omega⟩,by omega⟩,a5⟩,a6⟩,a7⟩ hA
    ·exact zC.ifF (by simpa using a7) zC.ret
   ·exact zC.ifT (by simp[a6]) zC.ret
  ·exact zC.ifT (by simp[a5]) zC.ret
def zMH(c:Nat)(b:zX)(a:Int):Option (Bool):=zM b a>>=λx1=>e90 c b x1.fam 1>>=λr3=>if r3 then if decide (x1.fam>=a)then some false else zM b x1.fam>>=λx7=>if x1.pars !=x7.pars then some false else zME c x1.body>>=λr10=>if r10 then if x1.inds !=0 then some false else if x1.level !=0 then some false else if decide ((yI ((x1.cons.length:Int)+(x1.fields.length:Int)))>0)then some false else if x1.kind==4 then if decide (x1.place>=0)then if decide (x1.place<(x7.fields.length:Int))then zM x7.fields x1.place>>=λx19=>some (x19==a)else some false else some false else if decide (x1.place>=0)then if decide (x1.place<(x7.cons.length:Int))then zM x7.cons x1.place>>=λx23=>some (x23==a)else some false else some false else some false else some false
theorem zVP{c b a}:Cz (zMH c b a) 208 [] [zB zO b .no,ai a] (λr=>ab r) (λ_=>[]) 0:=fw func208<|rA 0 (xP (o:=.no)) λ_=>rK 3 [] c90 (λ_=>rB 2 (fE 0)<|rH λ_ h8=>rS (oA 2 (xP (o:=.no) h8))<|rB 1 (fE 0)<|rK 1 [] zVM (λ_=>rB 2 (fE 0)<|rB 1 (fE 0)<|rB 5 (fE 0)<|rS (oA 1 (xP (o:=.no) h8))<|rB 2 (rS (oA 1 (xP (o:=.no) h8))<|rB 2 (rB 2 (rA 1 (pZ (o:=.no)) λ_=>fE 2)<|fE 0)<|fE 0)<|rB 1 (rB 2 (rA 1 (pZ (o:=.no)) λ_=>fE 2)<|fE 0)<|fE 0) λ_=>fE 1) λ_=>fE 1
def zPT(b:Nat)(a:zX)(c:Int):Option (Bool):=zM a c>>=λx1=>e99 b x1.type>>=λr3=>zMH b a c>>=λr5=>if r5 then if r3.2.2==0 then if decide ((r3.1.length:Int)>=x1.pars)then zM a x1.fam>>=λx10=>zIZ b r3.2.1 x1.fam x1.pars x10.inds (r3.1.length:Int)>>=λr12=>some r12 else some false else some false else some false
theorem zYq{b a c}:Cz (zPT b a c) 155 [] [zB zO a .no,ai c] (λr=>ab r) (λ_=>[]) 0:=fw func155<|rH λ_ h2=>rS (oA 0 (xP (o:=.no) h2))<|rC 1 [] c99 λ_=>rK 4 [] zVP (λ_=>rB 0 (rS (oA 1 (xP (o:=.no) h2))<|rB 1 (rS (oA 1 (xP (o:=.no) h2))<|rS (oA 1 (xP (o:=.no) h2))<|rS (oA 1 (xP (o:=.no) h2))<|rA 1 (xP (o:=.no)) λ_=>rC 2 [] zSG λ_=>fE 0)<|fE 0)<|fE 0) λ_=>fE 0
def zPU(a:Nat)(b:zX)(c:Int):Option (Bool):=zMH a b c>>=λr1=>if r1 then zM b c>>=λx4=>e91 a x4.type (yI (x4.pars+1))>>=λr6=>if r6.2.2==0 then zM r6.1 x4.pars>>=λx9=>zIZ a x9 x4.fam x4.pars 0 x4.pars>>=λr11=>some r11 else some false else some false
theorem zYp{a b c}:Cz (zPU a b c) 156 [] [zB zO b .no,ai c] (λr=>ab r) (λ_=>[]) 0:=fw func156<|rK 0 [] zVP (λ_=>rH λ_ h5=>rS (oA 1 (xP (o:=.no) h5))<|rS (oA 1 (xP (o:=.no) h5))<|rC 2 [] c91 λ_=>rB 4 (rS (oA 0 (xP (o:=.no) h5))<|rA 1 (yY (o:=.no)) λ_=>rS (oA 1 (xP (o:=.no) h5))<|rS (oA 1 (xP (o:=.no) h5))<|rS (oA 1 (xP (o:=.no) h5))<|rC 1 [] zSG λ_=>fE 0)<|fE 0) λ_=>fE 1
def zPV(c:Nat)(b:zX)(a:Int):Option (Bool):=zM b a>>=λx1=>zMD c x1.body a>>=λr3=>if r3 then if x1.fam==0 then if x1.place==0 then if x1.pars==0 then if x1.inds==0 then if x1.level==0 then some ((yI ((x1.cons.length:Int)+(x1.fields.length:Int)))==0)else some false else some false else some false else some false else some false else some false
theorem zYo{c b a}:Cz (zPV c b a) 157 [] [zB zO b .no,ai a] (λr=>ab r) (λ_=>[]) 0:=fw func157<|rA 0 (xP (o:=.no)) λ_=>rK 3 [] zVL (λ_=>rB 1 (rB 1 (rB 1 (rB 1 (rB 1 (fE 6)<|fE 0)<|fE 0)<|fE 0)<|fE 0)<|fE 0) λ_=>fE 0
def W4(l:List yE)(x:yE):List Int:=if x.kind=4 then(zP l x.fam).fields else(zP l x.fam).cons
def zPW(l:List yE)(i:Int)(x:yE):Bool:=fV l x.fam 1&&decide (x.fam<i)&&x.pars==(zP l x.fam).pars&&dM x.body&&x.inds==0&&x.level==0&&decide (x.cons.length=0)&&decide (x.fields.length=0)
def zMI(l:List yE)(i:Int)(x:yE):Bool:=decide (0<=x.place)&&decide (x.place<(W4 l x).length)&&((W4 l x)[x.place.toNat]?).getD (-1)==i
def nM(l:List yE)(i:Int):Bool:=zPW l i (zP l i)&&zMI l i (zP l i)
theorem zJi{L:List Int}{n:Int}(h0:0<=n)(h1:n<L.length):zM L n=some ((L[n.toNat]?).getD (-1)):=by
 unfold zM;rw[if_pos h0];have:n.toNat<L.length:=by omega
 rw[List.getElem?_eq_getElem this];rfl
theorem zDL(l:List yE)(i:Int)(h0:0<=i)(h1:i<l.length)(he:∀e∈l,oY e):zC (λq=>zMH q l i) (nM l i):=by
 simp only[zMH];refine zC.pure (yP h0 h1) ((zHd l _ 1).bind ?_);have hx:=he _ (qC h0 h1);have hc:(zP l i).cons.length<=1152921504606846976:=hx.2.2.1;have hf:(zP l i).fields.length<=1152921504606846976:=hx.2.2.2;unfold nM zPW;by_cases a1:fV l (zP l i).fam 1=true
 ·have hs:=vB a1;refine zC.ifT a1 ?_;by_cases a2:(zP l i).fam>=i;·exact zC.ifT (decide_eq_true a2) (zC.ret.eq (by simp[show¬(zP l i).fam<i by omega]))
  refine zC.ifF (decide_eq_false a2) (zC.pure (yP hs.1 hs.2.1) ?_);by_cases a3:(zP l i).pars=(zP l (zP l i).fam).pars
  ·refine zC.ifF (by simp[a3]) ((zBs _).bind ?_);by_cases a4:dM (zP l i).body=true
   ·refine zC.ifT a4 ?_;by_cases a5:(zP l i).inds=0
    ·refine zC.ifF (by simp[a5]) ?_;by_cases a6:(zP l i).level=0
     ·refine zC.ifF (by simp[a6]) ?_;rw[zS (x:=((zP l i).cons.length:Int)+((zP l i).fields.length:Int)) (by omega) (by omega)];by_cases a7:(zP l i).cons.length=0/\(zP l i).fields.length=0
      ·refine zC.ifF (decide_eq_false (by omega)) ?_;have last:∀L:List Int,W4 l (zP l i)=L->zC (λ_=>if decide ((zP l i).place>=0)=true then if decide ((zP l i).place<(List.length L:Int))=true then(zM L (zP l i).place)>>=λx19=>some (x19==i)else some false else some false) (zMI l i (zP l i)):=λL hL=>by
        unfold zMI;rw[hL];by_cases b1:(zP l i).place>=0
        ·refine zC.ifT (decide_eq_true b1) ?_;by_cases b2:(zP l i).place<(L.length:Int);·exact zC.ifT (decide_eq_true b2) (zC.pure (zJi b1 b2) (zC.ret.eq (by simp[show 0<=(zP l i).place from b1,b2])))
         ·exact zC.ifF (decide_eq_false b2) (zC.ret.eq (by simp[b2]))
        ·exact zC.ifF (decide_eq_false b1) (zC.ret.eq (by simp[show¬0<=(zP l i).place from b1]))
       have e:(fV l (zP l i).fam 1&&decide ((zP l i).fam<i)&&(zP l i).pars==(zP l (zP l i).fam).pars&&dM (zP l i).body&&(zP l i).inds==0&&(zP l i).level==0&&decide ((zP l i).cons.length=0)&&decide ((zP l i).fields.length=0))=true:=by simp[a1,show(zP l i).fam<i by omega,a3,a4,a5,a6,a7.1,a7.2]
       rw[e,Bool.true_and];by_cases a8:(zP l i).kind=4;·exact zC.ifT (by simp[a8]) (last _ (by unfold W4;rw[if_pos a8]))
       ·exact zC.ifF (by simp[a8]) (last _ (by unfold W4;rw[if_neg a8]))
      ·refine zC.ifT (decide_eq_true (by omega)) (zC.ret.eq ?_);have:decide ((zP l i).cons.length=0)=false\/decide ((zP l i).fields.length=0)=false:=by
        by_cases h:(zP l i).cons.length=0;·exact .inr (decide_eq_false λh'=>a7 ⟨h,h'⟩)
        ·exact .inl (decide_eq_false h)
       rcases this with h|h<;>rw[h]<;>simp
     ·exact zC.ifT (by simp[a6]) (zC.ret.eq (by simp[a6]))
    ·exact zC.ifT (by simp[a5]) (zC.ret.eq (by simp[a5]))
   ·exact zC.ifF (by simpa using a4) (zC.ret.eq (by simp[a4]))
  ·exact zC.ifT (by simp[a3]) (zC.ret.eq (by simp[a3]))
 ·exact zC.ifF (by simpa using a1) (zC.ret.eq (by simp[a1]))
theorem wO{l:List yE}{i:Int}(h:pC l i=true):0<=(zP l i).pars/\0<=(zP l i).inds/\(zP l i).pars+(zP l i).inds<=24/\(zP l i).cons.length<=16:=by unfold pC zFC zBr at h;simp only[Bool.and_eq_true,decide_eq_true_eq]at h;exact⟨by omega,by omega,by omega,by omega⟩
theorem sV{l:List yE}{i:Int}(h:nM l i=true):0<=(zP l i).fam/\(zP l i).fam<i/\(zP l (zP l i).fam).kind=1/\(zP l i).pars=(zP l (zP l i).fam).pars/\0<=(zP l i).place/\(zP l i).place<(W4 l (zP l i)).length:=by unfold nM zPW zMI at h;simp only[Bool.and_eq_true,decide_eq_true_eq,beq_iff_eq]at h;have hs:=vB h.1.1.1.1.1.1.1.1;exact⟨hs.1,h.1.1.1.1.1.1.1.2,hs.2.2,h.1.1.1.1.1.1.2,h.2.1.1,h.2.1.2⟩
def zBq(l:List yE)(i:Int):Prop:=∀j,0<=j->j<i->(zP l j).kind=1->pC l j=true
def zFE(l:List yE)(i:Int):Bool:=nM l i&&((xG (zP l i).type).2.2==0&&(decide ((zP l i).pars<=(xG (zP l i).type).1.length)&&rY (xG (zP l i).type).2.1 (zP l i).fam (zP l i).pars (zP l (zP l i).fam).inds (xG (zP l i).type).1.length))
theorem zSX(l:List yE)(i:Int)(h0:0<=i)(h1:i<l.length)(he:∀e∈l,oY e)(hF:zBq l i):zC (λq=>zPT q l i) (zFE l i):=by
 simp only[zPT];have hx:=he _ (qC h0 h1);refine zC.pure (yP h0 h1) ((aI _ hx.1).bind ((zDL l i h0 h1 he).bind ?_));unfold zFE;by_cases a1:nM l i=true
 ·have hs:=sV a1;have hf:=wO (hF _ hs.1 hs.2.1 hs.2.2.1);refine zC.ifT a1 ?_;rw[a1,Bool.true_and];by_cases a2:(xG (zP l i).type).2.2=0
  ·refine zC.ifT (by simp[a2]) ?_;have hw:=lO (t:=(zP l i).type) (l:=(xG (zP l i).type).1) (y:=(xG (zP l i).type).2.1) (by rw[<-a2]);by_cases a3:(zP l i).pars<=(xG (zP l i).type).1.length;·refine zC.ifT (decide_eq_true a3) (zC.pure (yP hs.1 (by omega)) ((cM _ _ _ _ _ hw.2.2.2.2.1 (by omega) (by omega) (by have:=hw.2.2.1;omega)).bind (zC.ret.eq (by simp[a2,a3]))))
   ·exact zC.ifF (decide_eq_false a3) (zC.ret.eq (by simp[a3]))
  ·exact zC.ifF (by simp[a2]) (zC.ret.eq (by simp[a2]))
 ·exact zC.ifF (by simpa using a1) (zC.ret.eq (by simp[a1]))
def tB(l:List Tm)(n:Int):Tm:=(l[n.toNat]?).getD zT
theorem uJ{l:List Tm}{n:Int}(h0:0<=n)(h1:n<l.length):zM l n=some (tB l n):=by
 unfold zM tB;rw[if_pos h0];have:n.toNat<l.length:=by omega
 rw[List.getElem?_eq_getElem this];rfl
theorem qE{l:List Tm}{n:Int}(h0:0<=n)(h1:n<l.length):tB l n∈l:=by
 unfold tB;have:n.toNat<l.length:=by omega
 rw[List.getElem?_eq_getElem this];exact List.getElem_mem this
def K0(l:List yE)(i:Int):Bool:=nM l i&&((wM (zP l i).type ((zP l i).pars+1)).2.2==0&&rY (tB (wM (zP l i).type ((zP l i).pars+1)).1 (zP l i).pars) (zP l i).fam (zP l i).pars 0 (zP l i).pars)
theorem zPX(l:List yE)(i:Int)(h0:0<=i)(h1:i<l.length)(he:∀e∈l,oY e)(hF:zBq l i):zC (λq=>zPU q l i) (K0 l i):=by
 simp only[zPU];have hx:=he _ (qC h0 h1);refine(zDL l i h0 h1 he).bind ?_;unfold K0;by_cases a1:nM l i=true
 ·have hs:=sV a1;have hf:=wO (hF _ hs.1 hs.2.1 hs.2.2.1);refine zC.ifT a1 (zC.pure (yP h0 h1) ?_);rw[a1,Bool.true_and,zS (x:=(zP l i).pars+1) (by omega) (by omega)];refine(iS _ _ hx.1).bind ?_;by_cases a2:(wM (zP l i).type ((zP l i).pars+1)).2.2=0
  ·have hw:=E0 (t:=(zP l i).type) (n:=(zP l i).pars+1) (l:=(wM (zP l i).type ((zP l i).pars+1)).1) (y:=(wM (zP l i).type ((zP l i).pars+1)).2.1) (by rw[<-a2]);refine zC.ifT (by simp[a2]) (zC.pure (uJ (by omega) (by omega)) ((cM _ _ _ _ _ (hw.2.2.2.2.2.2 _ (qE (by omega) (by omega))) (by omega) (by omega) (by omega)).bind (zC.ret.eq (by simp[a2]))))
  ·exact zC.ifF (by simp[a2]) (zC.ret.eq (by simp[a2]))
 ·exact zC.ifF (by simpa using a1) (zC.ret.eq (by simp[a1]))
def zMJ(l:List yE)(i:Int):Bool:=qD (zP l i).body i&&((zP l i).fam==0&&((zP l i).place==0&&((zP l i).pars==0&&((zP l i).inds==0&&((zP l i).level==0&&(decide ((zP l i).cons.length=0)&&decide ((zP l i).fields.length=0)))))))
theorem zSY(l:List yE)(i:Int)(h0:0<=i)(h1:i<l.length)(he:∀e∈l,oY e):zC (λq=>zPV q l i) (zMJ l i):=by
 simp only[zPV];have hx:=he _ (qC h0 h1);have hc:(zP l i).cons.length<=1152921504606846976:=hx.2.2.1;have hf:(zP l i).fields.length<=1152921504606846976:=hx.2.2.2;refine zC.pure (yP h0 h1) ((W2 _ i hx.2.1).bind ?_);unfold zMJ;by_cases a1:qD (zP l i).body i=true
 ·refine zC.ifT a1 ?_;rw[a1,Bool.true_and,zS (x:=((zP l i).cons.length:Int)+((zP l i).fields.length:Int)) (by omega) (by omega)];have e:(((zP l i).cons.length:Int)+((zP l i).fields.length:Int)==0)=(decide ((zP l i).cons.length=0)&&decide ((zP l i).fields.length=0)):=by rw[Bool.eq_iff_iff];simp only[beq_iff_eq,Bool.and_eq_true,decide_eq_true_eq];omega
  rw[e];refine zC.mk λq=>?_;generalize(decide ((zP l i).cons.length=0)&&decide ((zP l i).fields.length=0))=z;by_cases b1:(zP l i).fam=0<;>by_cases b2:(zP l i).place=0<;>by_cases b3:(zP l i).pars=0<;>by_cases b4:(zP l i).inds=0<;>by_cases b5:(zP l i).level=0<;>simp[b1,b2,b3,b4,b5]
 ·exact zC.ifF (by simpa using a1) (zC.ret.eq (by simp[a1]))
def kX:Nat->zX->(List ByteArray)->Int->Option (List ByteArray)|0,_,_,_=>none|b+1,a,d,c=>if decide (c<(a.length:Int))then zM a c>>=λx2=>yW 16 d [x2.name]>>=λl4=>kX b a l4 (yI (c+1))else some d
def e88(b:Nat)(a:zX):Option (List ByteArray):=kX b a [] 0
theorem zSZ:∀b:Nat,∀a d c,Lz (kX b a d c) 0 f88 (pt 4021 f88) (λj=>sp j 19 0 [(3,zB xE d (.st 0 1)),(6,zB zO a .no),(7,ai (a.length:Int)),(8,ai c)]) ⟨[],0,[0],1,[]⟩ (λr=>zB xE r (.st 0 1)) (λ_=>[]) 1 [.blk 0,.seq (pt 63 f88)]:=xC (λ_ _ _=>lN) λb ih=>λa d c=>lw λ_=>rB 0 (rA 0 (xP (o:=.no)) λ_=>rW (λh5=>oP 4 (bY h5 (by simp))) λ_=>lH 1 [] [] [1] [3,6,7,8] (ih _ _ _))<|lG 0 [] [] [0] true
theorem c88{b a}:Cz (e88 b a) 88 [] [zB zO a .no] (λr=>zB xE r (.st 0 1)) (λ_=>[]) 1:=fw func88<|fH 1 [(none,3,1)] [] [0] [3,6,7,8] (zSZ _ _ _ _)
def e89(b:Nat)(c:zX)(a:Int):Option (Bool):=zM c a>>=λx1=>lP b x1.name>>=λr3=>if r3 then zMD b x1.type a>>=λr6=>if r6 then if x1.kind==1 then zPS b c a>>=λr10=>some r10 else if x1.kind==2 then zPT b c a>>=λr13=>some r13 else if x1.kind==4 then zPU b c a>>=λr16=>some r16 else if x1.kind==3 then zPV b c a>>=λr19=>some r19 else some false else some false else some false
theorem c89{b c a}:Cz (e89 b c a) 89 [] [zB zO c .no,ai a] (λr=>ab r) (λ_=>[]) 0:=fw func89<|rH λ_ h2=>rS (oA 0 (xP (o:=.no) h2))<|rK 1 [] aJ (λ_=>rS (oA 1 (xP (o:=.no) h2))<|rK 1 [] zVL (λ_=>rS (oA 1 (xP (o:=.no) h2))<|rB 1 (rC 0 [] zYr λ_=>fE 0)<|rB 0 (rC 0 [] zYq λ_=>fE 0)<|rB 0 (rC 0 [] zYp λ_=>fE 0)<|rB 0 (rC 0 [] zYo λ_=>fE 0)<|fE 0) λ_=>fE 1) λ_=>fE 1
def E7:Nat->zX->Int->Option (Bool)|0,_,_=>none|c+1,a,b=>if decide (b<(a.length:Int))then e89 c a b>>=λr8=>if r8 then E7 c a (yI (b+1))else some false else some true
def bD(c:Nat)(a:zX):Option (Bool):=if decide ((a.length:Int)>256)then some false else e88 c a>>=λr2=>e87 c r2>>=λr4=>if r4 then E7 c a 0 else some false
theorem zTz:∀c:Nat,∀a b,Lz (E7 c a b) 0 f47 (pt 4021 f47) (λj=>sp j 23 0 [(0,zB zO a .no),(14,ai (a.length:Int)),(15,ai b)]) ⟨[],0,[],0,[]⟩ (λr=>ab r) (λ_=>[]) 0 [.blk 0,.seq (pt 63 f47)]:=xC (λ_ _=>lN) λc ih=>λa b=>lw λ_=>rB 0 (rK 0 [] c89 (λ_=>lH 2 [] [] [] [0,14,15] (ih _ _)) λ_=>lE 1)<|lE 0
theorem c47{c a}:Cz (bD c a) 47 [] [zB zO a .no] (λr=>ab r) (λ_=>[]) 0:=fw func47<|rB 1 (fE 0)<|rC 0 [] c88 λ_=>rK 0 [] c87 (λ_=>fH 2 [] [] [] [0,14,15] (zTz _ _ _)) λ_=>fE 1
def zVQ(qq:Nat)(p0:yH):Option yH:=some []
theorem zVR{qq p0}:Cz (zVQ qq p0) 97 [] [zB zQ p0 .nl] (λr=>.sl (zI zQ r) r.length .no) (λ_=>[]) 0:=fw func97<|fE 1
def zML(qq:Nat)(p0:yH):Option yH:=yW 8 ([]:yH) p0>>=λl1=>some l1
theorem zVS{qq p0}:Cz (zML qq p0) 97 [] [zB zQ p0 .nn] (λr=>.sl (zI zQ r) r.length .no) (λ_=>[]) 0:=fw func97<|rH λ_ h2=>rZ (List.length p0=0) (λh3=>rS (oP 2 (zLm h2 h3))<|fE 0) λh3=>rS (oP 2 (nX h2 h3))<|fE 0
def zTy(qq:Nat)(p0:yH):Option (Unit):=some ()
theorem zTx{qq p0}:Cz (zTy qq p0) 97 [] [zB zQ p0 .nl] (λ_=>zB zQ ([]:yH) .full) (λ_=>[]) 0:=fw func97<|fG 1 [] [] [] true
def zMM(qq:Nat)(p0:yH):Option ((Unit)⊕yH):=if decide (List.length p0=0)then some (Sum.inl ())else yW 8 ([]:yH) p0>>=λl2=>some (Sum.inr l2)
theorem zMN{qq p0}:Cz (zMM qq p0) 97 [] [zB zQ p0 .nn] (Sum.elim (λ_=>zB zQ ([]:yH) .full) (λx=>.ms 0 0 x.length x.length 1)) (Sum.elim (λ_=>[]) (λx=>[.row (zI zQ x)])) 0:=fw func97<|rI (λh1=>rS (oQ 2 (zVw (of_decide_eq_true h1)))<|fG 0 [] [] [] true) λh1=>rW (λh3=>oM 2 (zVr h3 (of_decide_eq_false h1))) λ_=>fF 0 [0]
def e97(_qq:Nat)(p0:yH):Option yH:=yW 8 [] p0
theorem zVT{qq:Nat}{p0:yH}{r:yH}(h:e97 qq p0=some r):CT prog 97 [] [.sl (zI zQ p0) p0.length .no] (.sl (zI zQ r) r.length .no) [] 0:=by
 have hr:r=p0:=by have:=(sQ h).2;simpa using this
 have h1:zML qq p0=some r:=by unfold zML;rw[show yW 8 ([]:yH) p0=some r from h];rfl
 have k1:=zVS _ h1;refine⟨vP.nilcase (λhn=>?_) k1.tri,⟨⟨trivial,dI _⟩,trivial⟩,(λ_ h=>nomatch h),dI _,(λ_ h=>nomatch h)⟩;have hp:p0=[]:=bR mN (by decide) hn;subst hr;subst hp;exact(zVR (qq:=qq) _ rfl).tri
def zRW(qq:Nat)(p0:yH):Option (Unit⊕yH):=if decide (List.length p0=0)=true then some (.inl ())else(yW 8 [] p0)>>=λr=>some (.inr r)
theorem zTw{qq:Nat}{p0:yH}{r:Unit⊕yH}(h:zRW qq p0=some r):(match(generalizing:=false)r with|.inl _=>CT prog 97 [] [.sl (zI zQ p0) p0.length .no] (.sl (zI zQ ([]:yH)) (List.length ([]:yH)) .full) [] 0|.inr x=>CT prog 97 [] [.sl (zI zQ p0) p0.length .no] (.ms 0 0 x.length x.length 1) [.row (zI zQ x)] 0):=by
 unfold zRW at h;rcases spl h with⟨h1,h⟩|⟨h1,h⟩
 ·obtain rfl:=sj h;have hp:p0=[]:=List.length_eq_zero_iff.1 (of_decide_eq_true h1);subst hp;have k0:=zTx (qq:=qq) (p0:=[]) (()) rfl;have k1:=zMN (qq:=qq) (p0:=[]) (.inl ()) rfl;exact⟨vP.nilcase (λ_=>k0.tri) k1.tri,⟨⟨trivial,dI _⟩,trivial⟩,(λ_ h=>nomatch h),dI _,(λ_ h=>nomatch h)⟩
 ·obtain⟨x,h2,h⟩:=wH h;obtain rfl:=sj h;have k1:=zMN (qq:=qq) (p0:=p0) (r:=.inr x) (by unfold zMM;rw[if_neg (by rw[h1];decide),h2];rfl);refine⟨vP.nilcase (λhn=>?_) k1.tri,⟨⟨trivial,dI _⟩,trivial⟩,(λ_ h=>nomatch h),(show 0<1 by decide),xA (dI _) yZ⟩;have hp:p0=[]:=bR mN (by decide) hn;subst hp;cases h1
def zHb(_qq:Nat)(p0:yH):Option yH:=yW 8 [] p0
theorem zTv{qq:Nat}{p0:yH}{r:yH}(h:zHb qq p0=some r):CT prog 97 [] [.sl (zI zQ p0) p0.length .no] (.sl (zI zQ r) r.length .z) [] 0:=by
 have hr:r=p0:=by have:=(sQ h).2;simpa using this
 subst hr;cases r with|nil=>exact CT.zfull (zTw (qq:=qq) (p0:=[]) (r:=.inl ()) rfl)|cons x l=>exact CT.zno (by simp) (dI _) (zVT (qq:=qq) h)
theorem c97{qq:Nat}{p0:yH}:Cz (e97 qq p0) 97 [] [.sl (zI zQ p0) p0.length .no] (λr=>.sl (zI zQ r) r.length .no) (λ_=>[]) 0:=λ_ h=>zVT h
theorem zRX{qq:Nat}{p0:yH}:Cz (zHb qq p0) 97 [] [.sl (zI zQ p0) p0.length .no] (λr=>.sl (zI zQ r) r.length .z) (λ_=>[]) 0:=λ_ h=>zTv h
def E8:Nat->zX->zX->Int->Option zX|0,_,_,_=>none|b+1,a,d,c=>if decide (c<(a.length:Int))then zM a c>>=λx2=>e96 b x2.type>>=λr4=>e96 b x2.body>>=λr6=>e97 b x2.cons>>=λr8=>e97 b x2.fields>>=λr10=>yW 192 d [(yE.mk x2.kind x2.name r4 r6 x2.fam x2.place x2.pars x2.inds x2.level r8 r10)]>>=λl12=>E8 b a l12 (yI (c+1))else some d
def e51(b:Nat)(a:zX):Option zX:=E8 b a [] 0
theorem zTu:∀b:Nat,∀a d c,Lz (E8 b a d c) 0 f51 (pt 4021 f51) (λj=>sp j 34 0 [(3,zB zO d (.st 0 15)),(6,zB zO a .no),(7,ai (a.length:Int)),(8,ai c)]) ⟨[],0,[0],1,[]⟩ (λr=>.sl (zI zO r) r.length .no) (λ_=>[]) 0 [.blk 0,.seq (pt 63 f51)]:=xC (λ_ _ _=>lN) λb ih=>λa d c=>lw λ_=>rB 0 (rA 0 (xP (o:=.no)) λ_=>rC 3 [] c96 λ_=>rC 1 [] c96 λ_=>rC 3 [] c97 λ_=>rS (u6 0)<|rC 0 [] c97 λ_=>rW (λh13=>oP 4 (zRN h13 (by simp))) λ_=>lH 1 [] [] [1] [3,6,7,8] (ih _ _ _))<|lE 0
theorem c51{b a}:Cz (e51 b a) 51 [] [zB zO a .no] (λr=>.sl (zI zO r) r.length .no) (λ_=>[]) 0:=fw func51<|fH 1 [(none,3,15)] [] [0] [3,6,7,8] (zTu _ _ _ _)
def mT(N:ByteArray->Bool)(l:List yE)(i:Int):Bool:=N (zP l i).name&&(qD (zP l i).type i&&(if(zP l i).kind=1 then pC l i else if(zP l i).kind=2 then zFE l i else if(zP l i).kind=4 then K0 l i else if(zP l i).kind=3 then zMJ l i else false))
def zJh(N:ByteArray->Bool)(l:List yE):Nat->Nat->Bool|0,_=>true|m+1,v=>mT N l v&&zJh N l m (v+1)
def fX(N:ByteArray->Bool):Prop:=∀s,zC (λq=>lP q s) (N s)
theorem W5:∃N,fX N:=by
 have h:∀s,∃b,zC (λq=>lP q s) b:=λs=>by obtain⟨b,hb,_⟩:=tL s;exact⟨b,hb⟩
 exact⟨λs=>Classical.choose (h s),λs=>Classical.choose_spec (h s)⟩
theorem zMO(N:ByteArray->Bool)(hN:fX N)(l:List yE)(i:Int)(h0:0<=i)(h1:i<l.length)(hl:l.length<=65535)(he:∀e∈l,oY e)(hF:zBq l i):zC (λq=>e89 q l i) (mT N l i):=by
 simp only[e89];have hx:=he _ (qC h0 h1);refine zC.pure (yP h0 h1) ((hN _).bind ?_);unfold mT;by_cases a1:N (zP l i).name=true
 ·refine zC.ifT a1 ((W2 _ i hx.1).bind ?_);rw[a1,Bool.true_and];by_cases a2:qD (zP l i).type i=true
  ·refine zC.ifT a2 ?_;rw[a2,Bool.true_and];by_cases k1:(zP l i).kind=1;·rw[if_pos k1];exact zC.ifT (by simp[k1]) ((zJj l i h0 h1 hl he).bind zC.ret)
   rw[if_neg k1];refine zC.ifF (by simp[k1]) ?_;by_cases k2:(zP l i).kind=2;·rw[if_pos k2];exact zC.ifT (by simp[k2]) ((zSX l i h0 h1 he hF).bind zC.ret)
   rw[if_neg k2];refine zC.ifF (by simp[k2]) ?_;by_cases k4:(zP l i).kind=4;·rw[if_pos k4];exact zC.ifT (by simp[k4]) ((zPX l i h0 h1 he hF).bind zC.ret)
   rw[if_neg k4];refine zC.ifF (by simp[k4]) ?_;by_cases k3:(zP l i).kind=3;·rw[if_pos k3];exact zC.ifT (by simp[k3]) ((zSY l i h0 h1 he).bind zC.ret)
   ·rw[if_neg k3];exact zC.ifF (by simp[k3]) zC.ret
  ·exact zC.ifF (by simpa using a2) (zC.ret.eq (by simp[a2]))
 ·exact zC.ifF (by simpa using a1) (zC.ret.eq (by simp[a1]))
theorem b8:∀(r l:List yE)(v:Nat)(acc:List ByteArray),l.drop v=r->l.length<=65535->acc.length<=v->zC (λq=>kX q l acc (v:Int)) (acc++r.map yE.name)|[],l,v,acc,hd,hl,ha=>by refine zC.succ ?_;simp only[kX];exact zC.ifF (yF hd) (zC.ret.eq (by simp))|x::r,l,v,acc,hd,hl,ha=>by have hlt:=yK hd;refine zC.succ ?_;simp only[kX];refine zC.ifT (yD hd) (zC.pure (yA hd) (zC.pure (zW (by simp<;>omega)) ?_));rw[zV v (by omega)];exact(b8 r l (v+1) _ (zU hd) hl (by simp<;>omega)).eq (by simp)
theorem zMP(l:List yE)(hl:l.length<=65535):zC (λq=>e88 q l) (l.map yE.name):=by simp only[e88];exact(b8 l l 0 [] rfl hl (by simp)).eq (by simp)
theorem zFF(N:ByteArray->Bool)(hN:fX N)(l:List yE)(hl:l.length<=65535)(he:∀e∈l,oY e):∀(m v:Nat),v+m=l.length->zBq l v->zC (λq=>E7 q l (v:Int)) (zJh N l m v):=by intro m;induction m with|zero=>intro v hm hF;refine zC.succ ?_;simp only[E7];exact zC.ifF (decide_eq_false (by omega)) zC.ret|succ m ih=>
 intro v hm hF;refine zC.succ ?_;simp only[E7];refine zC.ifT (decide_eq_true (by omega)) ((zMO N hN l v (by omega) (by omega) hl he hF).bind ?_);rw[zJh];by_cases h:mT N l v=true
 ·refine zC.ifT h ?_;rw[zV v (by omega),h,Bool.true_and];refine ih (v+1) (by omega) λj hj0 hj1 hk=>?_;by_cases e:j=v
  ·subst e;unfold mT at h;simp only[Bool.and_eq_true]at h;have:=h.2.2;rwa[if_pos hk]at this
  ·exact hF j hj0 (by omega) hk
 ·exact zC.ifF (by simpa using h) (zC.ret.eq (by simp[h]))
def fY(N:ByteArray->Bool)(d:Bool)(l:List yE):Bool:=decide (l.length<=256)&&(d&&zJh N l l.length 0)
theorem E9(N:ByteArray->Bool)(hN:fX N)(l:List yE)(hl:l.length<=65535)(he:∀e∈l,oY e):∃d,zC (λq=>e87 q (l.map yE.name)) d/\zC (λq=>bD q l) (fY N d l):=by
 obtain⟨d,hd,_⟩:=zBx (l.map yE.name) (by simpa using hl);refine⟨d,hd,?_⟩;simp only[bD];unfold fY;by_cases h:l.length<=256
 ·refine zC.ifF (decide_eq_false (by omega)) ((zMP l hl).bind (hd.bind ?_));cases d with|false=>exact zC.ifF rfl (zC.ret.eq (by simp))|true=>exact zC.ifT rfl ((zFF N hN l hl he l.length 0 (by omega) (λj h0 h1=>by omega)).eq (by simp[h]))
 ·exact zC.ifT (decide_eq_true (by omega)) (zC.ret.eq (by simp[h]))
theorem b9{N:ByteArray->Bool}{l:List yE}:∀{m v:Nat},zJh N l m v=true->∀j,v<=j->j<v+m->mT N l (j:Int)=true
 |0,v,_,j,h0,h1=>by omega|m+1,v,h,j,h0,h1=>by
  rw[zJh]at h;simp only[Bool.and_eq_true]at h;by_cases e:j=v;·subst e;exact h.1
  ·exact b9 h.2 j (by omega) (by omega)
def vN(N:ByteArray->Bool)(l:List yE):Prop:=l.length<=256/\∀i:Int,0<=i->i<l.length->mT N l i=true
theorem kY{N:ByteArray->Bool}{d:Bool}{l:List yE}(h:fY N d l=true):vN N l:=by unfold fY at h;simp only[Bool.and_eq_true,decide_eq_true_eq]at h;refine⟨h.1,λi h0 h1=>?_⟩;have:=b9 h.2.2 i.toNat (by omega) (by omega);rwa[show((i.toNat:Nat):Int)=i by omega]at this
theorem xT{N:ByteArray->Bool}{l:List yE}{i:Int}(h:mT N l i=true):qD (zP l i).type i=true/\((zP l i).kind=1->pC l i=true)/\((zP l i).kind=2->zFE l i=true)/\((zP l i).kind=4->K0 l i=true)/\((zP l i).kind=3->zMJ l i=true)/\((zP l i).kind=1\/(zP l i).kind=2\/(zP l i).kind=3\/(zP l i).kind=4):=by
 unfold mT at h;simp only[Bool.and_eq_true]at h;obtain⟨_,h2,h3⟩:=h;refine⟨h2,λk=>by rwa[if_pos k]at h3,λk=>?_,λk=>?_,λk=>?_,?_⟩;·rwa[if_neg (by omega),if_pos k]at h3
 ·rwa[if_neg (by omega),if_neg (by omega),if_pos k]at h3
 ·rwa[if_neg (by omega),if_neg (by omega),if_neg (by omega),if_pos k]at h3
 ·split at h3;·exact .inl (by assumption)
  ·split at h3;·exact .inr (.inl (by assumption))
   ·split at h3;·exact .inr (.inr (.inr (by assumption)))
    ·split at h3;·exact .inr (.inr (.inl (by assumption)))
     ·cases h3
def zDM(e:yE):yE:=yE.mk e.kind e.name (lJ e.type) (lJ e.body) e.fam e.place e.pars e.inds e.level e.cons e.fields
def ECl(e:yE):Prop:=e.cons.length<=17592186044416/\e.fields.length<=17592186044416
theorem zDN:∀(r l acc:List yE)(v:Nat),l.drop v=r->l.length<=65535->(∀e∈l,oY e)->(∀e∈l,ECl e)->acc.length<=v->zC (λq=>E8 q l acc (v:Int)) (acc++r.map zDM)
 |[],l,acc,v,hd,hl,he,hc,ha=>by refine zC.succ ?_;simp only[E8];exact zC.ifF (yF hd) (zC.ret.eq (by simp))|x::r,l,acc,v,hd,hl,he,hc,ha=>by
  have hlt:=yK hd;have hx:x∈l:=by
   have:x∈l.drop v:=by rw[hd];simp
   exact List.mem_of_mem_drop this
  have hE:=he x hx;have hC:=hc x hx;refine zC.succ ?_;simp only[E8];refine zC.ifT (yD hd) (zC.pure (yA hd) ((oJ _ hE.1).bind ((oJ _ hE.2.1).bind ?_)));refine zC.bind (a:=x.cons) (zC.mk λq=>(zW (by have:=hC.1;simp<;>omega)).trans (by simp)) (zC.bind (a:=x.fields) (zC.mk λq=>(zW (by have:=hC.2;simp<;>omega)).trans (by simp)) (zC.pure (zW (by simp<;>omega)) ?_));rw[zV v (by omega)];exact(zDN r l _ (v+1) (zU hd) hl he hc (by simp<;>omega)).eq (by simp[zDM])
theorem aT(l:List yE)(hl:l.length<=65535)(he:∀e∈l,oY e)(hc:∀e∈l,ECl e):zC (λq=>e51 q l) (l.map zDM):=by simp only[e51];exact(zDN l l [] 0 rfl hl he hc (by simp)).eq (by simp)
theorem mU{t:Tm}{n:Int}(h:qD t n=true):zJ t=true:=by unfold qD nF at h;simp only[Bool.and_eq_true]at h;exact h.1.1.1
theorem zFG{t:Tm}(h:dM t=true):t=zT:=by unfold dM at h;simp only[Bool.and_eq_true,beq_iff_eq]at h;obtain⟨k,n,l⟩:=t;have h1:k=0:=h.1.1;have h2:n=0:=h.1.2;have h3:l=[]:=List.length_eq_zero_iff.1 (by have:(l.length:Int)=0:=h.2;omega);subst h1;subst h2;subst h3;rfl
theorem zAy{t:Tm}(h:dM t=true):lJ t=t:=by
 rw[zFG h];unfold lJ;split;·rfl
 ·rfl
theorem zJg{N:ByteArray->Bool}{l:List yE}{i:Int}(h:mT N l i=true):zDM (zP l i)=zP l i:=by
 have hs:=xT h;have h1:lJ (zP l i).type=(zP l i).type:=by unfold lJ;rw[if_pos (mU hs.1)]
 have own:nM l i=true->lJ (zP l i).body=(zP l i).body:=λho=>by unfold nM zPW at ho;simp only[Bool.and_eq_true]at ho;exact zAy ho.1.1.1.1.1.2
 have h2:lJ (zP l i).body=(zP l i).body:=by
  rcases hs.2.2.2.2.2 with k|k|k|k
  ·have:=hs.2.1 k;unfold pC zFC at this;simp only[Bool.and_eq_true]at this;exact zAy this.1.1.1.2
  ·have:=hs.2.2.1 k;unfold zFE at this;simp only[Bool.and_eq_true]at this;exact own this.1
  ·have:=hs.2.2.2.2.1 k;unfold zMJ at this;simp only[Bool.and_eq_true]at this;unfold lJ;rw[if_pos (mU this.1)]
  ·have:=hs.2.2.2.1 k;unfold K0 at this;simp only[Bool.and_eq_true]at this;exact own this.1
 unfold zDM;rw[h1,h2]
theorem lU{N:ByteArray->Bool}{l:List yE}(h:vN N l):l.map zDM=l:=by
 refine List.ext_getElem (by simp) λi h1 h2=>?_;simp only[List.getElem_map];have:=zJg (h.2 (i:Int) (by omega) (by omega));have e:zP l (i:Int)=l[i]:=by unfold zP;rw[show(i:Int).toNat=i by omega,List.getElem?_eq_getElem h2];rfl
 rwa[e]at this
def zTt(qq:Nat)(p0:zZ):Option zZ:=some []
theorem zTs{qq p0}:Cz (zTt qq p0) 247 [] [zB zA p0 .nl] (λr=>.sl (zI zA r) r.length .no) (λ_=>[]) 0:=fw func247<|fE 1
def zFH(qq:Nat)(p0:zZ):Option zZ:=yW 40 ([]:zZ) p0>>=λl1=>some l1
theorem zTr{qq p0}:Cz (zFH qq p0) 247 [] [zB zA p0 .nn] (λr=>.sl (zI zA r) r.length .no) (λ_=>[]) 0:=fw func247<|rH λ_ h2=>rZ (List.length p0=0) (λh3=>rS (oP 2 (rR h2 h3))<|fE 0) λh3=>rS (oP 2 (xS h2 h3))<|fE 0
def zPY(qq:Nat)(p0:zZ):Option (Unit):=some ()
theorem zPZ{qq p0}:Cz (zPY qq p0) 247 [] [zB zA p0 .nl] (λ_=>zB zA ([]:zZ) .full) (λ_=>[]) 0:=fw func247<|fG 1 [] [] [] true
def zHa(qq:Nat)(p0:zZ):Option ((Unit)⊕zZ):=if decide (List.length p0=0)then some (Sum.inl ())else yW 40 ([]:zZ) p0>>=λl2=>some (Sum.inr l2)
theorem zHA{qq p0}:Cz (zHa qq p0) 247 [] [zB zA p0 .nn] (Sum.elim (λ_=>zB zA ([]:zZ) .full) (λx=>.ms 0 0 x.length x.length 3)) (Sum.elim (λ_=>[]) (λx=>[.row (zI zA x)])) 0:=fw func247<|rI (λh1=>rS (oQ 2 (zVx (of_decide_eq_true h1)))<|fG 0 [] [] [] true) λh1=>rW (λh3=>oM 2 (zVs h3 (of_decide_eq_false h1))) λ_=>fF 0 [0]
def zQz(_qq:Nat)(p0:zZ):Option zZ:=yW 40 [] p0
theorem zVU{qq:Nat}{p0:zZ}{r:zZ}(h:zQz qq p0=some r):CT prog 247 [] [.sl (zI zA p0) p0.length .no] (.sl (zI zA r) r.length .no) [] 0:=by
 have hr:r=p0:=by have:=(sQ h).2;simpa using this
 have h1:zFH qq p0=some r:=by unfold zFH;rw[show yW 40 ([]:zZ) p0=some r from h];rfl
 have k1:=zTr _ h1;refine⟨vP.nilcase (λhn=>?_) k1.tri,⟨⟨trivial,dT _⟩,trivial⟩,(λ_ h=>nomatch h),dT _,(λ_ h=>nomatch h)⟩;have hp:p0=[]:=bR uY (by decide) hn;subst hr;subst hp;exact(zTs (qq:=qq) _ rfl).tri
def W6(qq:Nat)(p0:zZ):Option (Unit⊕zZ):=if decide (List.length p0=0)=true then some (.inl ())else(yW 40 [] p0)>>=λr=>some (.inr r)
theorem zQy{qq:Nat}{p0:zZ}{r:Unit⊕zZ}(h:W6 qq p0=some r):(match(generalizing:=false)r with|.inl _=>CT prog 247 [] [.sl (zI zA p0) p0.length .no] (.sl (zI zA ([]:zZ)) (List.length ([]:zZ)) .full) [] 0|.inr x=>CT prog 247 [] [.sl (zI zA p0) p0.length .no] (.ms 0 0 x.length x.length 3) [.row (zI zA x)] 0):=by
 unfold W6 at h;rcases spl h with⟨h1,h⟩|⟨h1,h⟩
 ·obtain rfl:=sj h;have hp:p0=[]:=List.length_eq_zero_iff.1 (of_decide_eq_true h1);subst hp;have k0:=zPZ (qq:=qq) (p0:=[]) (()) rfl;have k1:=zHA (qq:=qq) (p0:=[]) (.inl ()) rfl;exact⟨vP.nilcase (λ_=>k0.tri) k1.tri,⟨⟨trivial,dT _⟩,trivial⟩,(λ_ h=>nomatch h),dT _,(λ_ h=>nomatch h)⟩
 ·obtain⟨x,h2,h⟩:=wH h;obtain rfl:=sj h;have k1:=zHA (qq:=qq) (p0:=p0) (r:=.inr x) (by unfold zHa;rw[if_neg (by rw[h1];decide),h2];rfl);refine⟨vP.nilcase (λhn=>?_) k1.tri,⟨⟨trivial,dT _⟩,trivial⟩,(λ_ h=>nomatch h),(show 0<1 by decide),xA (dT _) yZ⟩;have hp:p0=[]:=bR uY (by decide) hn;subst hp;cases h1
theorem zVV{qq:Nat}{p0:zZ}:Cz (zQz qq p0) 247 [] [.sl (zI zA p0) p0.length .no] (λr=>.sl (zI zA r) r.length .no) (λ_=>[]) 0:=λ_ h=>zVU h
theorem zMQ{qq:Nat}{p0:zZ}:Cz (W6 qq p0) 247 [] [.sl (zI zA p0) p0.length .no] (Sum.elim (λ_=>.sl (zI zA ([]:zZ)) (List.length ([]:zZ)) .full) (λx=>.ms 0 0 x.length x.length 3)) (Sum.elim (λ_=>[]) (λx=>[.row (zI zA x)])) 0:=λr h=>by have k:=zQy h;rcases r with _|_<;>exact k
def zQx(a:Nat)(c:zX)(d:Tm)(b e:Int):Option (tC):=e99 a d>>=λr1=>aC a r1.2.1>>=λr3=>if r1.2.2 !=0 then some (tC.mk false [] [])else if r3.1.k !=6 then some (tC.mk false [] [])else if r3.1.n !=b then some (tC.mk false [] [])else zM c b>>=λx8=>zIZ a r1.2.1 b x8.pars x8.inds (yI (e+(r1.1.length:Int)))>>=λr10=>if r10 then tX r3.2 x8.pars (r3.2.length:Int)>>=λx13=>zQz a x13>>=λr15=>some (tC.mk true r1.1 r15)else some (tC.mk false [] [])
theorem zYm{a c d b e}:Cz (zQx a c d b e) 248 [] [zB zO c .no,yJ d,ai b,ai e] (λr=>zSj r) (λ_=>[]) 0:=fw func248<|rC 1 [] c99 λ_=>rC 5 [] zFr λ_=>rB 3 (fE 1)<|rB 1 (fE 1)<|rB 1 (fE 1)<|rH λ_ h9=>rS (oA 1 (xP (o:=.no) h9))<|rS (oA 1 (xP (o:=.no) h9))<|rK 3 [] zSG (λ_=>rS (oA 1 (xP (o:=.no) h9))<|rA 1 rT λ_=>rC 0 [] zVV λ_=>fE 1) λ_=>fE 2
def fZ:Nat->zX->yE->zZ->zZ->Int->(List tC)->Option (vY)|0,_,_,_,_,_,_=>none|c+1,d,x1,x7,r11,b,a=>if decide (b<(x7.length:Int))then zM x7 b>>=λx14=>zQx c d x14 x1.fam (yI (x1.pars+b))>>=λr16=>yW 56 a [r16]>>=λl18=>fZ c d x1 x7 r11 (yI (b+1)) l18 else some (vY.mk x7 r11 a)
def zMR(c:Nat)(d:zX)(e:Int):Option (vY):=zM d e>>=λx1=>e99 c x1.type>>=λr3=>aC c r3.2.1>>=λr5=>tX r3.1 x1.pars (r3.1.length:Int)>>=λx7=>tX r5.2 x1.pars (r5.2.length:Int)>>=λx9=>zQz c x9>>=λr11=>fZ c d x1 x7 r11 0 []
theorem zQw:∀c:Nat,∀d x1 x7 r11 b a,Lz (fZ c d x1 x7 r11 b a) 0 f193 (pt 262069 f193) (λj=>sp j 64 0 [(0,zB zO d .no),(4,.mp 0 0),(5,.mp 1 0),(11,.mp 2 0),(41,zB zA x7 .no),(42,ai (x7.length:Int)),(43,ai b)]) ⟨[(0,.cells [zB zA ([]:zZ) .nl,zB zA ([]:zZ) .nl,zB jP ([]:List tC) .nl]),(1,.cells [ai x1.kind,at' x1.name,ai x1.type.k,ai x1.type.n,zB zA x1.type.sub .no,ai x1.body.k,ai x1.body.n,zB zA x1.body.sub .no,ai x1.fam,ai x1.place,ai x1.pars,ai x1.inds,ai x1.level,zB zQ x1.cons .no,zB zQ x1.fields .no]),(2,.cells [zB zA x7 .no,zB zA r11 .no,zB jP a (.st 0 3)])],3,[0],1,[]⟩ (λr=>zSi r) (λ_=>[]) 0 [.blk 0,.seq (pt 4095 f193)]:=xC (λ_ _ _ _ _ _=>lN) λc ih=>λd x1 x7 r11 b a=>lw λ_=>rB 0 (rA 0 (yY (o:=.no)) λ_=>rS (u6 2)<|rC 4 [] zYm λ_=>rW (λh19=>oP 1 (zSb h19 (by simp))) λ_=>lH 2 [] [0,1,2] [1] [0,4,5,11,41,42,43] (ih _ _ _ _ _ _))<|lE 2
theorem zVW{c d e}:Cz (zMR c d e) 193 [] [zB zO d .no,ai e] (λr=>zSi r) (λ_=>[]) 0:=fw func193<|rA 0 (xP (o:=.no)) λ_=>rC 3 [] c99 λ_=>rC 5 [] zFr λ_=>rS (u6 3)<|rA 0 rT λ_=>rA 1 rT λ_=>rC 0 [] zVV λ_=>fH 3 [(some 4,2,3)] [0,1,4] [0] [0,4,5,11,41,42,43] (zQw _ _ _ _ _ _ _)
def mF:Nat->zX->tR->Int->tR->Option ((tR×Int)⊕(tR×Int))|0,_,_,_,_=>none|f+1,d,x4,e,a=>if decide (e<(d.length:Int))then zM d e>>=λx7=>if x7.kind==2 then zMR f d e>>=λr10=>nS x4.length e>>=λx12=>eW a x12 r10>>=λx14=>mF f d x4 (yI (e+1)) x14 else mF f d x4 (yI (e+1)) a else gfz x4.length a>>=λl16=>some (Sum.inr (l16,0))
def zFI(f:Nat)(d:zX):Option ((tR×Int)⊕(tR×Int)):=bD f d>>=λr1=>if r1 then gmk 72 (default:vY) (d.length:Int)>>=λx4=>mF f d x4 0 x4 else some (Sum.inl ([],5))
def zJf(j:Nat->Value)(d:zX)(x4:tR)(e:Int)(a:tR):=sp j 31 0 [(0,zB zO d .no),(4,.ms 0 0 x4.length x4.length 3),(13,ai (d.length:Int)),(14,ai e)]
def zJe(d:zX)(x4:tR)(e:Int)(a:tR):yM:=⟨[(0,.row (zI rQ a))],1,[],0,[]⟩
abbrev zFJ(d:zX)(r:tR×Int)(C:Cf):Prop:=C 135 [] [zB zO d .no] (.tup [.sl (zI rQ r.1) r.1.length .no,ai r.2]) [] 0
abbrev zFK(d:zX)(r:tR×Int)(C:Cf):Prop:=C 135 [] [zB zO d .no] (.tup [.ms 0 0 r.1.length r.1.length 3,ai r.2]) [.row (zI rQ r.1)] 0
theorem zTq:Qf 135 f135:=⟨func135,by kernel_rfl⟩
theorem zMS{d r}(h:zFJ d r Ci):zFJ d r Ct:=⟨h,⟨⟨tv,dE _⟩,tv⟩,yZ,⟨dC _,tv,tv⟩,yZ⟩
theorem zTp{d r}(h:zFK d r Ci):zFK d r Ct:=⟨h,⟨⟨tv,dE _⟩,tv⟩,yZ,⟨(lz rfl),tv,tv⟩,(xA (dC _) yZ)⟩
theorem zHB:∀f:Nat,(∀d x4 e a r,mF f d x4 e a=some r->(∀j,Dl prog 0 (pt 16309 f135) (zJf j d x4 e a) (zJe d x4 e a) (xV prog 0 ((match(generalizing:=false)r with|Sum.inl x=>kN prog 0 f135 (.tup [.sl (zI rQ x.1) x.1.length .no,ai x.2]) [] 0|Sum.inr x=>kN prog 0 f135 (.tup [.ms 0 0 x.1.length x.1.length 3,ai x.2]) [.row (zI rQ x.1)] 0)) [.blk 0,.seq (pt 255 f135)]))):=by intro f;induction f with|zero=>exactλ_ _ _ _ _ h=>nn h|succ f ih=>
 intro d x4 e a r h;rw[mF]at h;rcases spl h with⟨h6,h⟩|⟨h6,h⟩;obtain⟨x7,h8,h⟩:=wH h;have k:=oA 0 (xP (o:=.no) h8)<|oB 0 h6 o0;rcases spl h with⟨h9,h⟩|⟨h9,h⟩;obtain⟨r10,h11,h⟩:=wH h;obtain⟨x12,h13,h⟩:=wH h;obtain⟨x14,h15,h⟩:=wH h;exactλj=>olH 1 [] [0] [] [0,4,13,14] (oD (dE d)<|oD (dC x14)<|oW 0 (wtE (x:=r10) (cs:=[zB zA r10.args .no,zB zA r10.inds .no,zB jP r10.recs .no]) zAN rfl h15)<|oA 0 (zSB (b:=0) (c:=List.length x4) (z:=3) h13)<|oC 0 [] (zVW _ h11)<|oB 1 h9 k) (ih _ _ _ _ _ h);exactλj=>olH 1 [] [0] [] [0,4,13,14] (oD (dE d)<|oD (dC a)<|oB 1 h9 k) (ih _ _ _ _ _ h);obtain⟨l16,h17,h⟩:=wH h;obtain⟨h17a,h17b⟩:=iM h17;obtain rfl:=sj h;obtain rfl:=h17a.symm;try dsimp only
 rw[<-h17b];exactλj=>olF 0 [0] (oD (dC a)<|oB 0 h6 o0)
theorem zVX{f d r}(h:zFI f d=some r):(match(generalizing:=false)r with|Sum.inl x=>zFJ d x Ct|Sum.inr x=>zFK d x Ct):=by unfold zFI at h;obtain⟨r1,h2,h⟩:=wH h;rcases spl h with⟨h3,h⟩|⟨h3,h⟩;obtain⟨x4,h5,h⟩:=wH h;rcases r with y0|y1;exact zMS (tH zTq 1 [] [0] [] [0,4,13,14] (oD (dE d)<|oD (dC x4)<|oM 2 (zLd h5)<|oK 0 [] h3 (c47 _ h2) o0) (zHB _ _ _ _ _ _ h));exact zTp (tH zTq 1 [] [0] [] [0,4,13,14] (oD (dE d)<|oD (dC x4)<|oM 2 (zLd h5)<|oK 0 [] h3 (c47 _ h2) o0) (zHB _ _ _ _ _ _ h));obtain rfl:=sj h;exact zMS (tF zTq 1 [] (oD (dC ([]:tR))<|oK 0 [] h3 (c47 _ h2) o0))
theorem zVY{f d r}(h:zFI f d=some r):(match(generalizing:=false)r with|Sum.inl x=>CT prog 135 [] [zB zO d .no] (.tup [.sl (zI rQ x.1) x.1.length .no,ai x.2]) [] 0|Sum.inr x=>CT prog 135 [] [zB zO d .no] (.tup [.sl (zI rQ x.1) x.1.length .no,ai x.2]) [] 0):=by
 have k:=zVX h;rcases r with y0|y1;·exact k
 ·exact CT.freeze (H1:=[]) (cs:=zI rQ y1.1) (res':=(.tup [.sl (zI rQ y1.1) y1.1.length .no,ai y1.2])) k (Nat.le_of_ble_eq_true rfl) yZ (dC _) ⟨(.inl ⟨rfl,rfl⟩),trivial,tv⟩ (by rfl) rfl
theorem zYl{f d}:Cz (zFI f d) 135 [] [zB zO d .no] (Sum.elim (λx=>.tup [.sl (zI rQ x.1) x.1.length .no,ai x.2]) (λx=>.tup [.sl (zI rQ x.1) x.1.length .no,ai x.2])) (Sum.elim (λ_=>[]) (λ_=>[])) 0:=λr h=>by have k:=zVY h;rcases r with _|_<;>exact k
theorem zFL{t:Tm}{n:Int}(h:(wM t n).2.2≠0):(wM t n).2.1=zT/\(wM t n).1=[]:=by
 unfold wM at h⊢;split
 ·split;·exact⟨rfl,rfl⟩
  ·split;·exact⟨rfl,rfl⟩
   ·rename_i h1 h2 h3;rw[if_pos h1,if_neg h2,if_neg h3]at h;cases hr:aH n.toNat t with|none=>exact⟨rfl,rfl⟩|some r=>rw[hr]at h;exact absurd rfl h
 ·exact⟨rfl,rfl⟩
theorem zQv:zC (λq=>aC q zT) (yN zT,xI zT):=by simp only[aC,cL];refine zC.bind (a:=.inr ([],zT)) (zC.succ ?_) (zC.ret.eq (by rw[N0 (by decide),aD (by decide)];rfl));simp only[vZ];exact zC.ifF rfl ((zLG [] (by simp)).bind (zC.pure (a:=[]) rfl zC.ret))
theorem zAx(t:Tm):zC (λq=>aC q (xG t).2.1) (yN (xG t).2.1,xI (xG t).2.1):=by
 by_cases h:(xG t).2.2=0;·have hw:=lO (t:=t) (l:=(xG t).1) (y:=(xG t).2.1) (by rw[<-h]);exact lK _ hw.2.2.2.2.1
 ·have:=(zFL (t:=t) (n:=((min (uL t) 25:Nat):Int)) h).1;have e:(xG t).2.1=zT:=this;rw[e];exact zQv
def zMT(l:List yE)(t:Tm)(of b:Int):tC:=if(xG t).2.2=0/\rY (xG t).2.1 of (zP l of).pars (zP l of).inds (b+(xG t).1.length)=true then tC.mk true (xG t).1 ((xI (xG t).2.1).drop (zP l of).pars.toNat)else tC.mk false [] []
theorem sD{α:Type}{L:List α}{n:Int}(h0:0<=n)(h1:n<=L.length):tX L n (L.length:Int)=some (L.drop n.toNat):=by unfold tX;rw[if_pos ⟨h0,h1,by omega⟩];congr 1;exact List.take_of_length_le (by simp;omega)
theorem dN{t:Tm}{of pars more b:Int}(h:rY t of pars more b=true):(yN t).k=6/\(yN t).n=of/\((xI t).length:Int)=pars+more:=by unfold rY at h;simp only[Bool.and_eq_true,beq_iff_eq]at h;exact⟨h.1.1.1,h.1.1.2,h.1.2⟩
theorem zTo(l:List yE)(t:Tm)(of b:Int)(ho:t.Ok)(h0:0<=of)(h1:of<l.length)(hp:0<=(zP l of).pars/\0<=(zP l of).inds/\(zP l of).pars+(zP l of).inds<=24)(hb:0<=b/\b<=1048576):zC (λq=>zQx q l t of b) (zMT l t of b):=by
 simp only[zQx];refine(aI t ho).bind ((zAx t).bind ?_);unfold zMT;by_cases a1:(xG t).2.2=0
 ·have hw:=lO (t:=t) (l:=(xG t).1) (y:=(xG t).2.1) (by rw[<-a1]);refine zC.ifF (by simp[a1]) ?_;have hlen:=hw.2.2.1;rw[zS (x:=b+((xG t).1.length:Int)) (by omega) (by omega)];have ha:=cM (xG t).2.1 of (zP l of).pars (zP l of).inds (b+(xG t).1.length) hw.2.2.2.2.1 (by omega) (by omega) (by omega);by_cases a2:rY (xG t).2.1 of (zP l of).pars (zP l of).inds (b+(xG t).1.length)=true
  ·have hs:=dN a2;rw[if_pos ⟨a1,a2⟩];refine zC.ifF (by simp[hs.1]) (zC.ifF (by simp[hs.2.1]) (zC.pure (yP h0 h1) (ha.bind (zC.ifT a2 (zC.pure (sD hp.1 (by show _<=((xI (xG t).2.1).length:Int);omega)) ?_)))));have hal:=qV _ (zN hw.2.2.2.2.1).2.2;have hn:=(zN hw.2.2.2.2.1).1;refine zC.bind (a:=(xI (xG t).2.1).drop (zP l of).pars.toNat) (zC.mk λq=>(zW (by simp<;>omega)).trans (by simp)) zC.ret
  ·rw[if_neg (λh=>a2 h.2)];refine zC.iff (λ_=>zC.ret) λ_=>zC.iff (λ_=>zC.ret) λ_=>zC.pure (yP h0 h1) (ha.bind (zC.ifF (by simpa using a2) zC.ret))
 ·rw[if_neg (λh=>a1 h.1)];exact zC.ifT (by simp[a1]) zC.ret
def K1(l:List yE)(of:Int):List Tm->Int->List tC|[],_=>[]|a::r,b=>zMT l a of b::K1 l of r (b+1)
theorem F1(l:List yE)(of:Int):∀(r:List Tm)(b:Int),(K1 l of r b).length=r.length|[],_=>rfl|a::r,b=>congrArg (·+1) (F1 l of r (b+1))
def vU(l:List yE)(i:Int):vY:=vY.mk ((xG (zP l i).type).1.drop (zP l i).pars.toNat) ((xI (xG (zP l i).type).2.1).drop (zP l i).pars.toNat) (K1 l (zP l i).fam ((xG (zP l i).type).1.drop (zP l i).pars.toNat) (zP l i).pars)
theorem zAw(l:List yE)(x:yE)(A I:List Tm)(hA:∀t∈A,t.Ok)(hl:A.length<=24)(h0:0<=x.fam)(h1:x.fam<l.length)(hp:0<=(zP l x.fam).pars/\0<=(zP l x.fam).inds/\(zP l x.fam).pars+(zP l x.fam).inds<=24)(hb:0<=x.pars/\x.pars<=24):∀(r:List Tm)(v:Nat)(acc:List tC),A.drop v=r->acc.length<=v->zC (λq=>fZ q l x A I (v:Int) acc) (vY.mk A I (acc++K1 l x.fam r (x.pars+v)))
 |[],v,acc,hd,ha=>by refine zC.succ ?_;simp only[fZ];exact zC.ifF (yF hd) (zC.ret.eq (by simp[K1]))|t::r,v,acc,hd,ha=>by
  have hlt:=yK hd;have ht:t∈A:=by
   have:t∈A.drop v:=by rw[hd];simp
   exact List.mem_of_mem_drop this
  refine zC.succ ?_;simp only[fZ];rw[zS (x:=x.pars+v) (by omega) (by omega)];refine zC.ifT (yD hd) (zC.pure (yA hd) ((zTo l t x.fam (x.pars+v) (hA t ht) h0 h1 hp (by omega)).bind (zC.pure (zW (by simp<;>omega)) ?_)));rw[zV v (by omega)];refine(zAw l x A I hA hl h0 h1 hp hb r (v+1) _ (zU hd) (by simp<;>omega)).eq ?_;rw[K1,show x.pars+((v+1:Nat):Int)=x.pars+v+1 by omega];simp
theorem tS{N:ByteArray->Bool}{l:List yE}{i:Int}(hE:vN N l)(h0:0<=i)(h1:i<l.length)(hk:(zP l i).kind=2):∃(A:List Tm)(y:Tm),xG (zP l i).type=(A,y,0)/\zJ y=true/\(∀t∈A,zJ t=true)/\A.length=uL (zP l i).type/\A.length<=24/\0<=(zP l i).pars/\(zP l i).pars<=A.length/\0<=(zP l i).fam/\(zP l i).fam<i/\(zP l (zP l i).fam).kind=1/\(zP l i).pars=(zP l (zP l i).fam).pars/\0<=(zP l (zP l i).fam).inds/\(zP l (zP l i).fam).pars+(zP l (zP l i).fam).inds<=24/\rY y (zP l i).fam (zP l i).pars (zP l (zP l i).fam).inds A.length=true/\0<=(zP l i).place/\(zP l i).place<(zP l (zP l i).fam).cons.length:=by
 have hc:=(xT (hE.2 i h0 h1)).2.2.1 hk;unfold zFE at hc;simp only[Bool.and_eq_true,beq_iff_eq,decide_eq_true_eq]at hc;obtain⟨a1,a2,a3,a4⟩:=hc;have ho:=sV a1;have hf:=wO ((xT (hE.2 _ ho.1 (by omega))).2.1 ho.2.2.1);have hw:=lO (t:=(zP l i).type) (l:=(xG (zP l i).type).1) (y:=(xG (zP l i).type).2.1) (by rw[<-a2]);have hown:W4 l (zP l i)=(zP l (zP l i).fam).cons:=by unfold W4;rw[if_neg (by omega)]
 have h6:=ho.2.2.2.2.2;rw[hown]at h6;exact⟨_,_,by rw[<-a2],hw.2.2.2.2.1,hw.2.2.2.2.2,hw.2.1,hw.2.2.1,by omega,a3,ho.1,ho.2.1,ho.2.2.1,ho.2.2.2.1,hf.2.1,hf.2.2.1,a4,ho.2.2.2.2.1,h6⟩
theorem yT{t:Tm}(h:zJ t=true):t.Ok:=wL t (zN h).2.2
theorem zDO{N:ByteArray->Bool}(l:List yE)(i:Int)(hE:vN N l)(h0:0<=i)(h1:i<l.length)(hk:(zP l i).kind=2)(he:∀e∈l,oY e):zC (λq=>zMR q l i) (vU l i):=by simp only[zMR];obtain⟨A,y,hw,hy,hA,hAp,hA24,p0,p1,f0,f1,fk,fp,fi,fs,hap,-,-⟩:=tS hE h0 h1 hk;have hsp:=dN hap;refine zC.pure (yP h0 h1) ((aI _ (he _ (qC h0 h1)).1).bind ((zAx _).bind ?_));unfold vU;rw[hw];have hal:=qV _ (zN hy).2.2;have hn:=(zN hy).1;refine zC.pure (sD p0 p1) (zC.pure (sD p0 (by show _<=((xI y).length:Int);omega)) (zC.bind (a:=(xI y).drop (zP l i).pars.toNat) (zC.mk λq=>(zW (by simp<;>omega)).trans (by simp)) ?_));refine(zAw l (zP l i) (A.drop (zP l i).pars.toNat) ((xI y).drop (zP l i).pars.toNat) (λt ht=>yT (hA t (List.mem_of_mem_drop ht))) (by simp;omega) f0 (by omega) (by omega) (by omega) _ 0 [] rfl (by simp)).eq ?_;simp
def nN(l:List yE):Nat->Nat->List vY|0,_=>[]|m+1,v=>(if(zP l v).kind=2 then vU l v else default)::nN l m (v+1)
theorem zHC(l:List yE):∀(m v j:Nat),j<m->(nN l m v)[j]?=some (if(zP l ((v+j:Nat):Int)).kind=2 then vU l ((v+j:Nat):Int)else default)|m+1,v,0,_=>by simp[nN]|m+1,v,j+1,h=>by rw[nN,List.getElem?_cons_succ,zHC l m (v+1) j (by omega),show v+1+j=v+(j+1)by omega]
theorem zJd{N:ByteArray->Bool}(l:List yE)(x4:List vY)(hx:x4.length=l.length)(hE:vN N l)(he:∀e∈l,oY e):∀(m v:Nat)(acc:List vY),v+m=l.length->acc.length=v->zC (λq=>mF q l x4 (v:Int) (acc++List.replicate m default)) (.inr (acc++nN l m v,0)):=by intro m;induction m with|zero=>intro v acc hm ha;refine zC.succ ?_;simp only[mF];refine zC.ifF (decide_eq_false (by omega)) (zC.pure (a:=acc++List.replicate 0 default) (by unfold gfz;rw[if_pos (by simp;omega)]) (zC.ret.eq (by simp[nN])))|succ m ih=>
 intro v acc hm ha;refine zC.succ ?_;simp only[mF];refine zC.ifT (decide_eq_true (by omega)) (zC.pure (yP (by omega) (by omega)) ?_);have hl:=hE.1;rw[zV v (by omega),nN];by_cases k:(zP l v).kind=2
 ·rw[if_pos k];refine zC.ifT (by simp[k]) ((zDO l v hE (by omega) (by omega) k he).bind ?_);refine zC.pure (a:=v) (by unfold nS;rw[if_pos (by omega)];simp) ?_;refine zC.pure (a:=acc++vU l v::List.replicate m default) ?_ ?_;·unfold eW;rw[if_pos (by simp;omega),List.set_append_right _ _ (by omega),show v-acc.length=0 by omega,List.replicate_succ];rfl
  ·have:=ih (v+1) (acc++[vU l v]) (by omega) (by simp;omega);simpa using this
 ·rw[if_neg k];refine zC.ifF (by simp[k]) ?_;have:=ih (v+1) (acc++[default]) (by omega) (by simp;omega);rw[List.replicate_succ];simpa using this
def e68(a:Nat)(b:zX):Option ((Int)⊕(Int×zX×tR)):=e51 a b>>=λr1=>bD a b>>=λr3=>if r3 then zFI a r1>>=λr6=>match r6 with|Sum.inl y8=>if y8.2 !=0 then some (Sum.inl y8.2)else some (Sum.inr (0,r1,y8.1))|Sum.inr y10=>if y10.2 !=0 then some (Sum.inl y10.2)else some (Sum.inr (0,r1,y10.1))else some (Sum.inl 5)
theorem c68{a b}:Cz (e68 a b) 68 [] [zB zO b .no] (Sum.elim (λx=>.tup [.val (.pointer none),ai x]) (λx=>.tup [.mp 0 0,ai x.1])) (Sum.elim (λ_=>[]) (λx=>[.cells [zB zO x.2.1 .no,zB rQ x.2.2 .no]])) 0:=fw func68<|rC 0 [] c51 λ_=>rK 0 [] c47 (λ_=>rC 1 [] zYl<|cJ (λ_=>rB 2 (fE 0)<|fF 0 [0]) λ_=>rB 2 (fE 0)<|fF 0 [0]) λ_=>fE 1
mutual def kZ:Nat->zX->(Int×zX×tR)->Int->zX->yH->yH->Option ((Int)⊕(Int×zX×yH×yH×zX×tR))
 |0,_,_,_,_,_,_=>none|p+1,e,y3,d,a,b,c=>if decide (d<(e.length:Int))then zM e d>>=λx8=>if x8.kind==1 then yW 8 b [(yI ((yI ((yI (x8.pars+2))+(x8.cons.length:Int)))+x8.inds))]>>=λl11=>yW 8 c [0]>>=λl13=>kZ p e y3 (yI (d+1)) a l11 l13 else if x8.kind==2 then F2 p e y3 d a b c 0 x8.type.k x8.type.n x8.type.sub else yW 8 b [0]>>=λl16=>yW 8 c [0]>>=λl18=>kZ p e y3 (yI (d+1)) a l16 l18 else some (Sum.inr (0,a,b,c,y3.2.1,y3.2.2))def F2:Nat->zX->(Int×zX×tR)->Int->zX->yH->yH->Int->Int->Int->zZ->Option ((Int)⊕(Int×zX×yH×yH×zX×tR))|0,_,_,_,_,_,_,_,_,_,_=>none|p+1,e,y3,d,a,b,c,q,f,m,g=>if f==3 then zM g 1>>=λx17=>F2 p e y3 d a b c (yI (q+1)) x17.k x17.n x17.sub else yW 8 b [0]>>=λl19=>yW 8 c [q]>>=λl21=>kZ p e y3 (yI (d+1)) a l19 l21 end
def e39(p:Nat)(e:zX):Option ((Int)⊕(Int×zX×yH×yH×zX×tR)):=e68 p e>>=λr1=>match r1 with|Sum.inl y7=>if y7 !=0 then some (Sum.inl y7)else none|Sum.inr y3=>if y3.1 !=0 then some (Sum.inl y3.1)else e51 p e>>=λr5=>kZ p e y3 0 r5 [] []
theorem zBp:∀p:Nat,(∀e y3 d a b c,Lz (kZ p e y3 d a b c) 0 f39 (pt 65461 f39) (λj=>sp j 81 0 [(6,.mp 0 0),(25,zB zO e .no),(26,ai (e.length:Int)),(27,ai d)]) ⟨[(0,.cells [zB zO a .no,.mp 1 0,zB zQ b (.st 0 1),zB zQ c (.st 1 1)]),(1,.cells [zB zO y3.2.1 .no,zB rQ y3.2.2 .no])],2,[0,1],2,[]⟩ (Sum.elim (λx=>.tup [.val (.pointer none),ai x]) (λx=>.tup [.mp 0 0,ai x.1])) (Sum.elim (λ_=>[]) (λx=>[.cells [zB zO x.2.1 .no,.mp 1 0,zB zQ x.2.2.1 .no,zB zQ x.2.2.2.1 .no],.cells [zB zO x.2.2.2.2.1 .no,zB rQ x.2.2.2.2.2 .no]])) 0 [.blk 0,.seq (pt 1023 f39)])/\(∀e y3 d a b c q f m g,Lz (F2 p e y3 d a b c q f m g) 0 f39 (pt 281157048172469 f39) (λj=>sp j 81 0 [(6,.mp 0 0),(9,ai 0),(10,ai q),(11,.mp 1 0),(25,zB zO e .no),(26,ai (e.length:Int)),(27,ai d)]) ⟨[(0,.cells [zB zO a .no,.mp 2 0,zB zQ b (.st 0 1),zB zQ c (.st 1 1)]),(1,.cells [ai f,ai m,zB zA g .no]),(2,.cells [zB zO y3.2.1 .no,zB rQ y3.2.2 .no])],3,[0,1],2,[]⟩ (Sum.elim (λx=>.tup [.val (.pointer none),ai x]) (λx=>.tup [.mp 0 0,ai x.1])) (Sum.elim (λ_=>[]) (λx=>[.cells [zB zO x.2.1 .no,.mp 1 0,zB zQ x.2.2.1 .no,zB zQ x.2.2.2.1 .no],.cells [zB zO x.2.2.2.2.1 .no,zB rQ x.2.2.2.2.2 .no]])) 0 [.blk 3,.blk 2,.seq (pt 1072529023 f39),.blk 1,.seq (pt 4189567 f39),.loop (pt 65461 f39),.blk 0,.seq (pt 1023 f39)]):=xC ⟨λ_ _ _ _ _ _=>lN,λ_ _ _ _ _ _ _ _ _ _=>lN⟩ λp ih=>⟨λe y3 d a b c=>lw λ_=>rB 0 (rA 0 (xP (o:=.no)) λ_=>rB 3 (rW (λh12=>oP 9 (nX h12 (by simp))) λ_=>rW (λh14=>oP 2 (nX h14 (by simp))) λ_=>lH 3 [] [0,1] [2,3] [6,25,26,27] (ih.1 _ _ _ _ _ _))<|rB 0 (lH 2 [] [0,3,1] [0,1] [6,9,10,11,25,26,27] (ih.2 _ _ _ _ _ _ _ _ _ _))<|rW (λh17=>oP 2 (nX h17 (by simp))) λ_=>rW (λh19=>oP 2 (nX h19 (by simp))) λ_=>lH 3 [] [0,1] [2,3] [6,25,26,27] (ih.1 _ _ _ _ _ _))<|lF 0 [0,1],λe y3 d a b c q f m g=>lw λ_=>rB 1 (rA 4 (yY (o:=.no)) λ_=>lH 2 [] [0,3,2] [0,1] [6,9,10,11,25,26,27] (ih.2 _ _ _ _ _ _ _ _ _ _))<|rW (λh20=>oP 2 (nX h20 (by simp))) λ_=>rW (λh22=>oP 2 (nX h22 (by simp))) λ_=>lH 3 [] [0,2] [2,3] [6,25,26,27] (ih.1 _ _ _ _ _ _)⟩
theorem c39{p e}:Cz (e39 p e) 39 [] [zB zO e .no] (Sum.elim (λx=>.tup [.val (.pointer none),ai x]) (λx=>.tup [.mp 0 0,ai x.1])) (Sum.elim (λ_=>[]) (λx=>[.cells [zB zO x.2.1 .no,.mp 1 0,zB zQ x.2.2.1 .no,zB zQ x.2.2.2.1 .no],.cells [zB zO x.2.2.2.2.1 .no,zB rQ x.2.2.2.2.2 .no]])) 0:=fw func39<|rC 0 [] c68<|cJ (λ_=>rB 2 (fE 0) rN) λ_=>rB 2 (fE 0)<|rC 0 [] c51 λ_=>fH 1 [(some 1,2,1),(some 1,3,1)] [1,0] [0,1] [6,25,26,27] (((zBp _).1) _ _ _ _ _ _)
theorem zMU{N:ByteArray->Bool}(l:List yE)(hf:zC (λq=>bD q l) true)(hE:vN N l)(he:∀e∈l,oY e):zC (λq=>zFI q l) (.inr (nN l l.length 0,0)):=by
 simp only[zFI];have hl:=hE.1;refine hf.bind (zC.ifT rfl (zC.pure (a:=List.replicate l.length default) ?_ ?_));·unfold gmk;rw[if_pos (by omega)];rfl
 ·exact(zJd l (List.replicate l.length default) (by simp) hE he l.length 0 [] (by omega) rfl).eq (by simp)
def zFM(l:List yE)(b:Bool):(Int)⊕(Int×List yE×List vY):=if b=true then .inr (0,l,nN l l.length 0)else .inl 5
theorem zQu(N:ByteArray->Bool)(hN:fX N)(l:List yE)(hl:l.length<=65535)(he:∀e∈l,oY e)(hc:∀e∈l,ECl e):∃b,zC (λq=>bD q l) b/\(b=true->vN N l)/\zC (λq=>e68 q l) (zFM l b):=by
 obtain⟨d,-,hd⟩:=E9 N hN l hl he;refine⟨_,hd,kY,?_⟩;simp only[e68];refine(aT l hl he hc).bind (hd.bind ?_);unfold zFM;by_cases h:fY N d l=true
 ·rw[if_pos h];have hA:=kY h;rw[lU hA];refine zC.ifT h ((zMU l (hd.eq h) hA he).bind ?_);exact zC.ifF (by simp) zC.ret
 ·rw[if_neg h];exact zC.ifF (by simpa using h) zC.ret
theorem zJc(t:Tm)(hg:xW t=true):uL t<=t.nodes:=by
 have key:∀(m:Nat)(t:Tm),t.nodes<=m->xW t=true->uL t<=t.nodes:=by intro m;induction m with|zero=>intro t h;have:=wJ t;omega|succ m ih=>
  intro t hm hg;by_cases k:t.k=3
  ·obtain⟨x,y,e,hx,hy⟩:=N5 hg k;rw[e]at hm⊢;rw[N6];rw[Tm.nodes,yU,yU,yU]at hm⊢;have:=wJ x;have:=ih y (by omega) hy;omega
  ·rw[zFk k];omega
 exact key t.nodes t (Nat.le_refl _) hg
def xZ(e:yE):Int:=if e.kind=1 then e.pars+2+e.cons.length+e.inds else 0
def tD(e:yE):Int:=if e.kind=2 then(uL e.type:Int)else 0
theorem zQt(l:List yE)(y3:Int×List yE×List vY)(v27:Int)(vb:List yE)(a o:List Int)(r:(Int)⊕(Int×List yE×List Int×List Int×List yE×List vY))(ha:a.length<=65535)(ho:o.length<=65535)(tot:Int)(ht:tot<=4611686018427387904)(hk:zC (λq=>kZ q l y3 (yI (v27+1)) vb (a++[0]) (o++[tot])) r):∀(t:Tm)(v:Int),xW t=true->0<=v->v+uL t=tot->zC (λq=>F2 q l y3 v27 vb a o v t.k t.n t.sub) r:=by
 have key:∀(m:Nat)(t:Tm)(v:Int),t.nodes<=m->xW t=true->0<=v->v+uL t=tot->zC (λq=>F2 q l y3 v27 vb a o v t.k t.n t.sub) r:=by intro m;induction m with|zero=>intro t v h;have:=wJ t;omega|succ m ih=>
  intro t v hm hg h0 hv;refine zC.succ ?_;simp only[F2];by_cases k:t.k=3
  ·obtain⟨x,y,e,hx,hy⟩:=N5 hg k;rw[e]at hv hm⊢;rw[N6]at hv;refine zC.ifT (by simp[Tm.k]) (zC.pure (a:=y) (by simp[zM,Tm.sub]) ?_);rw[zS (x:=v+1) (by omega) (by omega)];refine ih y (v+1) ?_ hy (by omega) (by omega);rw[Tm.nodes,yU,yU,yU]at hm;have:=wJ x;omega
  ·rw[zFk k]at hv;refine zC.ifF (by simp[k]) (zC.pure (zW (by simp<;>omega)) (zC.pure (zW (by simp<;>omega)) ?_));rw[show v=tot by omega];exact hk
 exactλt v=>key t.nodes t v (Nat.le_refl _)
theorem aU{N:ByteArray->Bool}(l vb:List yE)(y3:Int×List yE×List vY)(hE:vN N l):∀(r:List yE)(v:Nat)(a o:List Int),l.drop v=r->a.length<=v->o.length<=v->zC (λq=>kZ q l y3 (v:Int) vb a o) (.inr (0,vb,a++r.map xZ,o++r.map tD,y3.2.1,y3.2.2))
 |[],v,a,o,hd,ha,ho=>by refine zC.succ ?_;simp only[kZ];exact zC.ifF (yF hd) (zC.ret.eq (by simp))|x::r,v,a,o,hd,ha,ho=>by
  have hlt:=yK hd;have hl:=hE.1;have hx:zP l v=x:=by have h1:=yA hd;rw[yP (by omega) (by omega)]at h1;exact Option.some.inj h1
  have hs:=xT (hE.2 v (by omega) (by omega));rw[hx]at hs;refine zC.succ ?_;simp only[kZ];refine zC.ifT (yD hd) (zC.pure (yA hd) ?_);by_cases k1:x.kind=1
  ·have hf:=wO (hs.2.1 k1);rw[hx]at hf;rw[zS (x:=x.pars+2) (by omega) (by omega),zS (x:=x.pars+2+x.cons.length) (by omega) (by omega),zS (x:=x.pars+2+x.cons.length+x.inds) (by omega) (by omega),zV v (by omega)];refine zC.ifT (by simp[k1]) (zC.pure (zW (by simp<;>omega)) (zC.pure (zW (by simp<;>omega)) ?_));refine(aU l vb y3 hE r (v+1) _ _ (zU hd) (by simp<;>omega) (by simp<;>omega)).eq ?_;simp[xZ,tD,k1]
  ·refine zC.ifF (by simp[k1]) ?_;by_cases k2:x.kind=2
   ·refine zC.ifT (by simp[k2]) ?_;have hsh:=(zN (mU hs.1));have hp:uL x.type<=8192:=Nat.le_trans (zJc x.type hsh.2.2) hsh.1;refine zQt l y3 v vb a o _ (by omega) (by omega) (uL x.type) (by omega) ?_ x.type 0 hsh.2.2 (by omega) (by omega);rw[zV v (by omega)];refine(aU l vb y3 hE r (v+1) _ _ (zU hd) (by simp<;>omega) (by simp<;>omega)).eq ?_;simp[xZ,tD,k2]
   ·refine zC.ifF (by simp[k2]) (zC.pure (zW (by simp<;>omega)) (zC.pure (zW (by simp<;>omega)) ?_));rw[zV v (by omega)];refine(aU l vb y3 hE r (v+1) _ _ (zU hd) (by simp<;>omega) (by simp<;>omega)).eq ?_;simp[xZ,tD,k1,k2]
def wA(l:List yE):xU:=xU.mk l l (nN l l.length 0) (l.map xZ) (l.map tD)
def zTn(l:List yE)(b:Bool):(Int)⊕(Int×List yE×List Int×List Int×List yE×List vY):=if b=true then .inr (0,l,l.map xZ,l.map tD,l,nN l l.length 0)else .inl 5
theorem zQs(N:ByteArray->Bool)(hN:fX N)(l:List yE)(hl:l.length<=65535)(he:∀e∈l,oY e)(hc:∀e∈l,ECl e):∃b,zC (λq=>bD q l) b/\(b=true->vN N l)/\zC (λq=>e39 q l) (zTn l b):=by obtain⟨b,h1,h2,h3⟩:=zQu N hN l hl he hc;refine⟨b,h1,h2,?_⟩;simp only[e39];refine h3.bind ?_;unfold zFM zTn;cases b with|false=>exact zC.ifT (by decide) zC.ret|true=>refine zC.ifF (by simp) ((aT l hl he hc).bind ?_);rw[lU (h2 rfl)];exact(aU l l _ (h2 rfl) l 0 [] [] rfl (by simp) (by simp)).eq (by simp)
theorem aV{t:Tm}{k c:Int}(h:(vH t k c).2=0):zJ t=true/\0<=k/\0<=c/\zJ (U1 t 0 c k)=true/\(vH t k c).1=U1 t 0 c k:=by
 unfold vH at h⊢;by_cases a:zJ t=true/\dJ k=true/\dJ c=true
 ·rw[if_pos a]at h⊢;by_cases b:zJ (U1 t 0 c k)=true
  ·rw[if_pos b];have a2:=a.2.1;have a3:=a.2.2;unfold dJ at a2 a3;simp only[Bool.and_eq_true,decide_eq_true_eq]at a2 a3;exact⟨a.1,a2.1,a3.1,b,rfl⟩
  ·rw[if_neg b]at h;simp at h
 ·rw[if_neg a]at h;simp at h
theorem W7(t:Tm)(k c:Int):(vH t k c).2≠8:=by
 unfold vH;split;·split<;>simp
 ·simp
mutual def siT(ls:List Tm):Tm->Int->Tm|.mk kd n l,b=>if kd=1/\b<=n then(if h:(n-b).toNat<ls.length then U1 (ls[(n-b).toNat]) 0 0 b else .mk 1 (n-ls.length) [])else .mk kd n (siL ls l kd 0 b)def siL(ls:List Tm):List Tm->Int->Nat->Int->List Tm|[],_,_,_=>[]|t::l,kd,i,b=>siT ls t (tU kd i b)::siL ls l kd (i+1) b end
theorem zTl{a:Tm}{b left:Int}{long:Bool}(h:(raT a b left long).2.2=false):long=false/\(raT a b left long).1=U1 a 0 0 b:=by
 unfold raT at h⊢;by_cases h1:left-w7 a 0<0;·rw[if_pos h1]at h;simp at h
 ·rw[if_neg h1]at h⊢;by_cases h2:(vH a b 0).2≠0;·rw[if_pos h2]at h;simp at h
  ·rw[if_neg h2]at h⊢;exact⟨h,(aV (by simpa using h2)).2.2.2.2⟩
theorem zMV(ls:List Tm):∀(t:Tm)(b left:Int),(bC ls t b left true).2.2=true|.mk kd n l,b,left=>by rw[bC,if_pos rfl]
mutual theorem zMW(ls:List Tm):∀(t:Tm)(b left:Int)(long:Bool),(bC ls t b left long).2.2=false->long=false/\(bC ls t b left long).1=siT ls t b
 |.mk kd n l,b,left,long,h=>by cases long with|true=>rw[zMV]at h;cases h|false=>
  refine⟨rfl,?_⟩;rw[bC,if_neg (by simp)]at h⊢;rw[siT];by_cases h1:kd=1/\b<=n
  ·rw[if_pos h1]at h;rw[if_pos h1,if_pos h1];by_cases h2:(n-b).toNat<ls.length
   ·rw[dif_pos h2]at h;rw[dif_pos h2,dif_pos h2];exact(zTl h).2
   ·rw[dif_neg h2,dif_neg h2]
  ·rw[if_neg h1]at h;rw[if_neg h1,if_neg h1];exact congrArg (Tm.mk kd n) (zMX ls l kd 0 b (left-1) (decide (left-1<0)) h).2 theorem zMX(ls:List Tm):∀(l:List Tm)(kd:Int)(i:Nat)(b left:Int)(long:Bool),(J4 ls l kd i b left long).2.2=false->long=false/\(J4 ls l kd i b left long).1=siL ls l kd i b|[],kd,i,b,left,long,h=>by rw[J4]at h⊢;rw[siL];exact⟨h,rfl⟩|t::l,kd,i,b,left,long,h=>by rw[J4]at h⊢;have k:=zMX ls l kd (i+1) b (bC ls t (tU kd i b) left long).2.1 (bC ls t (tU kd i b) left long).2.2 h;have k2:=zMW ls t (tU kd i b) left long k.1;refine⟨k2.1,?_⟩;show(bC ls t (tU kd i b) left long).1::(J4 ls l kd (i+1) b (bC ls t (tU kd i b) left long).2.1 (bC ls t (tU kd i b) left long).2.2).1=_;rw[k2.2,k.2,siL]end
theorem zQr{t:Tm}{ls:List Tm}(h:(iR t ls).2=0):zJ t=true/\ls.all zJ=true/\zJ (siT ls t 0)=true/\(iR t ls).1=siT ls t 0:=by
 unfold iR at h⊢;by_cases a:zJ t=true/\ls.all zJ=true
 ·rw[if_pos a]at h⊢;by_cases b:(bC ls t 0 8192 false).2.2=true;·rw[if_pos b]at h;simp at h
  ·rw[if_neg b]at h⊢;have e:=(zMW ls t 0 8192 false (by simpa using b)).2;rw[e]at h⊢;by_cases c:zJ (siT ls t 0)=true;·rw[if_pos c];exact⟨a.1,a.2,c,rfl⟩
   ·rw[if_neg c]at h;simp at h
 ·rw[if_neg a]at h;simp at h
theorem zBo(t:Tm)(ls:List Tm):(iR t ls).2≠8:=by
 unfold iR;split
 ·split;·simp
  ·split<;>simp
 ·simp
mutual def zFN(P:Int->Int->Prop):Tm->Prop|.mk k n l=>(k=1\/P k n)/\K2 P l def K2(P:Int->Int->Prop):List Tm->Prop|[]=>True|t::l=>zFN P t/\K2 P l end
section
variable{P:Int->Int->Prop}
theorem zAv:∀{l:List Tm},K2 P l↔∀t∈l,zFN P t|[]=>by rw[K2];simp|t::l=>by rw[K2,zAv];simp
end
mutual theorem zDP{a b:Int}{Q:Int->Prop}(ha:a≠1)(hb:b≠1):∀t:Tm,(∀x∈iL t a b,Q x)↔zFN (λk n=>k=a\/k=b->Q n) t
 |.mk k n l=>by
  have ih:=zAu (Q:=Q) ha hb l;rw[iL,zFN,<-ih];constructor
  ·intro h;refine⟨?_,λx hx=>h x (List.mem_append_right _ hx)⟩;by_cases h1:k=a\/k=b;·exact .inr λ_=>h n (by rw[if_pos h1];simp)
   ·exact .inr λh2=>absurd h2 h1
  ·rintro⟨h1,h2⟩x hx;rcases List.mem_append.1 hx with hx|hx
   ·by_cases h3:k=a\/k=b
    ·rw[if_pos h3,List.mem_singleton]at hx;rcases h1 with h1|h1;·omega
     ·rw[hx];exact h1 h3
    ·rw[if_neg h3]at hx;cases hx
   ·exact h2 x hx theorem zAu{a b:Int}{Q:Int->Prop}(ha:a≠1)(hb:b≠1):∀l:List Tm,(∀x∈R0 l a b,Q x)↔K2 (λk n=>k=a\/k=b->Q n) l
 |[]=>by rw[R0,K2];simp|t::l=>by
  rw[R0,K2,<-zDP ha hb t,<-zAu ha hb l];constructor;·intro h;exact⟨λx hx=>h x (List.mem_append_left _ hx),λx hx=>h x (List.mem_append_right _ hx)⟩
  ·rintro⟨h1,h2⟩x hx;rcases List.mem_append.1 hx with hx|hx;·exact h1 x hx
   ·exact h2 x hx end
def zJb(c:Nat)(a b:Tm):Option (Tm):=zDz c 4 0 [a,b]>>=λr1=>some r1
theorem zTk{c a b}:Cz (zJb c a b) 244 [] [yJ a,yJ b] (λr=>yJ r) (λ_=>[]) 0:=fw func244<|rS (oS 2 (yR xF [a,b]))<|rC 0 [] zFq λ_=>fE 1
def sW:Nat->zZ->Int->Int->Int->zZ->Option (Tm×Int)|0,_,_,_,_,_=>none|e+1,d,g,a,b,c=>if decide (g<(d.length:Int))then zM d (yI ((yI ((d.length:Int)-1))-g))>>=λx12=>zJb e x12 (Tm.mk a b c)>>=λr14=>sW e d (yI (g+1)) r14.k r14.n r14.sub else rV e (Tm.mk a b c)>>=λr16=>if r16 then e96 e (Tm.mk a b c)>>=λr19=>some (r19,0)else some ((Tm.mk 0 0 []),2)
def sX:Nat->zZ->Tm->Int->Option (Tm×Int)|0,_,_,_=>none|e+1,d,f,m=>if decide (m<(d.length:Int))then zM d m>>=λx3=>rV e x3>>=λr5=>if r5 then sX e d f (yI (m+1))else some ((Tm.mk 0 0 []),5)else rV e f>>=λr8=>if r8 then sW e d 0 f.k f.n f.sub else some ((Tm.mk 0 0 []),5)
def W8(e:Nat)(d:zZ)(f:Tm):Option (Tm×Int):=if decide ((d.length:Int)>24)then some ((Tm.mk 0 0 []),2)else sX e d f 0
theorem zDQ:∀e:Nat,∀d g a b c,Lz (sW e d g a b c) 0 f186 (pt 65461 f186) (λj=>sp j 53 0 [(0,zB zA d .no),(2,.clo 244 [] []),(4,.mp 0 0),(6,.mp 1 0),(31,ai (d.length:Int)),(32,ai g)]) ⟨[(0,.cells [ai a,ai b,zB zA c .no]),(1,.cells [ai 0,ai 0,zB zA ([]:zZ) .nl])],2,[],0,[]⟩ (λr=>.tup [yJ r.1,ai r.2]) (λ_=>[]) 0 [.blk 2,.seq (pt 1023 f186)]:=xC (λ_ _ _ _ _=>lN) λe ih=>λd g a b c=>lw λ_=>rB 0 (rA 3 (yY (o:=.no)) λ_=>rC 2 [] zTk λ_=>lH 2 [] [0,1] [] [0,2,4,6,31,32] (ih _ _ _ _ _))<|rK 1 [] qU (λ_=>rC 2 [] c96 λ_=>lE 1) λ_=>lE 2
theorem zDR:∀e:Nat,∀d f m,Lz (sX e d f m) 0 f186 (pt 4021 f186) (λj=>sp j 53 0 [(0,zB zA d .no),(2,.clo 244 [] []),(4,.mp 0 0),(6,.mp 1 0),(15,zB zA d .no),(16,ai (d.length:Int)),(17,ai m)]) ⟨[(0,.cells [ai f.k,ai f.n,zB zA f.sub .no]),(1,.cells [ai 0,ai 0,zB zA ([]:zZ) .nl])],2,[],0,[]⟩ (λr=>.tup [yJ r.1,ai r.2]) (λ_=>[]) 0 [.blk 0,.seq (pt 63 f186)]:=xC (λ_ _ _=>lN) λe ih=>λd f m=>lw λ_=>rB 0 (rA 0 (yY (o:=.no)) λ_=>rK 3 [] qU (λ_=>lH 2 [] [0,1] [] [0,2,4,6,15,16,17] (ih _ _ _)) λ_=>lE 2)<|rK 1 [] qU (λ_=>lH 2 [] [0,1] [] [0,2,4,6,31,32] (zDQ _ _ _ _ _ _)) λ_=>lE 2
theorem zMY{e d f}:Cz (W8 e d f) 186 [] [zB zA d .no,yJ f,.clo 244 [] []] (λr=>.tup [yJ r.1,ai r.2]) (λ_=>[]) 0:=fw func186<|rB 1 (fE 1)<|fH 1 [] [0,1] [] [0,2,4,6,15,16,17] (zDR _ _ _ _)
def eA:Nat->zZ->Int->Option zZ|0,_,_=>none|a+1,c,b=>if decide (b>=0)then jQ a b>>=λr4=>yW 40 c [r4]>>=λl6=>eA a l6 (yI (b-1))else some c
def W9(a:Nat)(d:Int):Option zZ:=if decide (d<0)then some []else if decide (d>1048576)then some []else eA a [] (yI (d-1))
theorem zQq:∀a:Nat,∀c b,Lz (eA a c b) 0 f190 (pt 16309 f190) (λj=>sp j 23 0 [(3,zB zA c (.st 0 3)),(4,ai b)]) ⟨[],0,[0],1,[]⟩ (λr=>.sl (zI zA r) r.length .no) (λ_=>[]) 0 [.blk 0,.seq (pt 255 f190)]:=xC (λ_ _=>lN) λa ih=>λc b=>lw λ_=>rB 0 (rC 0 [] lL λr4=>rS (oS 0 (yR xF [r4]))<|rW (λh7=>oP 0 (xS h7 (by simp))) λ_=>lH 1 [] [] [1] [3,4] (ih _ _))<|lE 0
theorem cQ{a d}:Cz (W9 a d) 190 [] [ai d] (λr=>.sl (zI zA r) r.length .no) (λ_=>[]) 0:=fw func190<|rB 0 (fE 0)<|rB 0 (fE 0)<|fH 1 [(none,3,3)] [] [0] [3,4] (zQq _ _ _)
def zQp(d:Nat)(a:Int)(b:zZ)(c:Int):Option (zZ×Int):=if a==0 then some (b,c)else some (b,a)
theorem zYk{d a b c}:Cz (zQp d a b c) 303 [.cells [ai a]] [.mp 0 0,zB zA b .no,ai c] (λr=>.sl (zI zA r.1) r.1.length .no) (λr=>[.cells [ai r.2]]) 0:=fw func303<|rB 1 (fE 1)<|fE 0
def eB:Nat->zZ->Int->Int->Int->zZ->Option (zZ×Int)|0,_,_,_,_,_=>none|e+1,b,c,d,a,f=>if decide (a<(b.length:Int))then zM b a>>=λx2=>zLK e x2 c d>>=λr4=>if r4.2 !=0 then some ([],r4.2)else yW 40 f [r4.1]>>=λl7=>eB e b c d (yI (a+1)) l7 else some (f,0)
def zQo(e:Nat)(b:zZ)(c d:Int):Option (zZ×Int):=eB e b c d 0 []
theorem zQn:∀e:Nat,∀b c d a f,Lz (eB e b c d a f) 0 f304 (pt 4021 f304) (λj=>sp j 35 0 [(1,ai c),(2,ai d),(8,zB zA f (.st 0 3)),(13,zB zA b .no),(14,ai (b.length:Int)),(15,ai a)]) ⟨[],0,[0],1,[]⟩ (λr=>.tup [.sl (zI zA r.1) r.1.length .no,ai r.2]) (λ_=>[]) 0 [.blk 0,.seq (pt 63 f304)]:=xC (λ_ _ _ _ _=>lN) λe ih=>λb c d a f=>lw λ_=>rB 0 (rA 0 (yY (o:=.no)) λ_=>rC 3 [] zVj λr4=>rB 3 (lE 0)<|rS (oS 1 (yR xF [r4.1]))<|rW (λh8=>oP 0 (xS h8 (by simp))) λ_=>lH 1 [] [] [1] [1,2,8,13,14,15] (ih _ _ _ _ _))<|lE 0
theorem zYj{e b c d}:Cz (zQo e b c d) 304 [] [zB zA b .no,ai c,ai d] (λr=>.tup [.sl (zI zA r.1) r.1.length .no,ai r.2]) (λ_=>[]) 0:=fw func304<|fH 1 [(none,8,3)] [] [0] [1,2,8,13,14,15] (zQn _ _ _ _ _ _)
def M0(b:Nat)(a:Int)(c:zZ)(d:Int):Option (zZ×Int):=zQo b c d 0>>=λr1=>zQp b a r1.1 r1.2>>=λr3=>some (r3.1,r3.2)
theorem X0{b a c d}:Cz (M0 b a c d) 263 [.cells [ai a]] [.mp 0 0,zB zA c .no,ai d] (λr=>.sl (zI zA r.1) r.1.length .no) (λr=>[.cells [ai r.2]]) 0:=fw func263<|rC 0 [] zYj λ_=>rC 2 [0] zYk λ_=>fE 0
def X1(d:Nat)(a:Int)(b:Tm)(c:Int):Option (Tm×Int):=if a==0 then some (b,c)else some (b,a)
theorem s4{d a b c}:Cz (X1 d a b c) 266 [.cells [ai a]] [.mp 0 0,yJ b,ai c] (λr=>yJ r.1) (λr=>[.cells [ai r.2]]) 0:=fw func266<|rB 1 (fE 3)<|fE 2
def eC:Nat->Tm->(zZ×Int)->Int->zZ->Option (Tm×Int)|0,_,_,_,_=>none|c+1,b,r6,d,f=>if decide (d>=0)then zM r6.1 d>>=λx9=>yW 40 f [x9]>>=λl11=>eC c b r6 (yI (d-1)) l11 else zFn c b f>>=λr13=>X1 c r6.2 r13.1 r13.2>>=λr15=>some (r15.1,r15.2)
def eD:Nat->Int->Tm->Int->zZ->Int->zZ->Option (Tm×Int)|0,_,_,_,_,_,_=>none|c+1,a,b,g,m,e,f=>if decide (e<g)then jQ c e>>=λr2=>yW 40 f [r2]>>=λl4=>eD c a b g m (yI (e+1)) l4 else M0 c a m g>>=λr6=>eC c b r6 (yI ((r6.1.length:Int)-1)) f
def zFO(c:Nat)(a:Int)(b:Tm)(g:Int)(m:zZ):Option (Tm×Int):=eD c a b g m 0 []
theorem zQm:∀c:Nat,∀b r6 d f,Lz (eC c b r6 d f) 1 f302 (pt 65461 f302) (λj=>sp j 48 0 [(0,.mp 0 0),(5,.mp 1 0),(8,.mp 2 0),(9,zB zA f (.st 0 3)),(11,zB zA r6.1 .no),(12,ai d)]) ⟨[(0,.cells [ai r6.2]),(1,.cells [ai b.k,ai b.n,zB zA b.sub .no]),(2,.cells [ai 0,ai 0,zB zA ([]:zZ) .nl])],3,[0],1,[]⟩ (λr=>yJ r.1) (λr=>[.cells [ai r.2]]) 0 [.blk 2,.seq (pt 1023 f302)]:=xC (λ_ _ _ _=>lN) λc ih=>λb r6 d f=>lw λ_=>rB 0 (rA 0 (yY (o:=.no)) λx9=>rS (oS 1 (yR xF [x9]))<|rW (λh12=>oP 0 (xS h12 (by simp))) λ_=>lH 1 [] [0,1,2] [1] [0,5,8,9,11,12] (ih _ _ _ _))<|rC 1 [] zOV λ_=>rC 2 [0] s4 λ_=>lE 1
theorem zQl:∀c:Nat,∀a b g m e f,Lz (eD c a b g m e f) 1 f302 (pt 4021 f302) (λj=>sp j 48 0 [(0,.mp 0 0),(2,ai g),(3,zB zA m .no),(5,.mp 1 0),(8,.mp 2 0),(9,zB zA f (.st 0 3)),(13,ai g),(14,ai e)]) ⟨[(0,.cells [ai a]),(1,.cells [ai b.k,ai b.n,zB zA b.sub .no]),(2,.cells [ai 0,ai 0,zB zA ([]:zZ) .nl])],3,[0],1,[]⟩ (λr=>yJ r.1) (λr=>[.cells [ai r.2]]) 0 [.blk 0,.seq (pt 63 f302)]:=xC (λ_ _ _ _ _ _=>lN) λc ih=>λa b g m e f=>lw λ_=>rB 0 (rC 0 [] lL λr2=>rS (oS 0 (yR xF [r2]))<|rW (λh5=>oP 0 (xS h5 (by simp))) λ_=>lH 1 [] [0,1,2] [1] [0,2,3,5,8,9,13,14] (ih _ _ _ _ _ _))<|rC 0 [0] X0 λ_=>lH 2 [] [0,1,2] [0] [0,5,8,9,11,12] (zQm _ _ _ _ _)
theorem zJa{c a b g m}:Cz (zFO c a b g m) 302 [.cells [ai a]] [.mp 0 0,yJ b,ai g,zB zA m .no] (λr=>yJ r.1) (λr=>[.cells [ai r.2]]) 0:=fw func302<|fH 0 [(none,9,3)] [0,1,2] [0] [0,2,3,5,8,9,13,14] (zQl _ _ _ _ _ _ _)
def eE:Nat->zZ->zZ->Int->zZ->Int->Option (zZ×Int)|0,_,_,_,_,_=>none|f+1,d,e,b,g,a=>if decide (b<(d.length:Int))then zM d b>>=λx2=>zFO f a x2 b e>>=λr4=>yW 40 g [r4.1]>>=λl6=>eE f d e (yI (b+1)) l6 r4.2 else some (g,a)
def zDS(f:Nat)(c:Int)(d e:zZ):Option (zZ×Int):=eE f d e 0 [] c
theorem zQk:∀f:Nat,∀d e b g a,Lz (eE f d e b g a) 1 f264 (pt 4021 f264) (λj=>sp j 27 0 [(0,.mp 0 0),(2,zB zA e .no),(7,zB zA g (.st 0 3)),(10,zB zA d .no),(11,ai (d.length:Int)),(12,ai b)]) ⟨[(0,.cells [ai a])],1,[0],1,[]⟩ (λr=>zB zA r.1 (.st 0 3)) (λr=>[.cells [ai r.2]]) 1 [.blk 0,.seq (pt 63 f264)]:=xC (λ_ _ _ _ _=>lN) λf ih=>λd e b g a=>lw λ_=>rB 0 (rA 0 (yY (o:=.no)) λ_=>rC 3 [0] zJa λr4=>rS (oS 0 (yR xF [r4.1]))<|rW (λh7=>oP 0 (xS h7 (by simp))) λ_=>lH 1 [] [0] [1] [0,2,7,10,11,12] (ih _ _ _ _ _))<|lG 0 [] [0] [0] true
theorem zJA{f c d e}:Cz (zDS f c d e) 264 [.cells [ai c]] [.mp 0 0,zB zA d .no,zB zA e .no] (λr=>zB zA r.1 (.st 0 3)) (λr=>[.cells [ai r.2]]) 1:=fw func264<|fH 1 [(none,7,3)] [0] [0] [0,2,7,10,11,12] (zQk _ _ _ _ _ _)
def zMZ(c:Nat)(a:Int)(b:Tm):Option (Tm×Int×Int):=if a==0 then rV c b>>=λr2=>if r2 then if a !=0 then some ((Tm.mk 0 0 []),a,a)else some (b,0,a)else some ((Tm.mk 0 0 []),2,2)else if a !=0 then some ((Tm.mk 0 0 []),a,a)else some (b,0,a)
theorem zTj{c a b}:Cz (zMZ c a b) 265 [.cells [ai a]] [.mp 0 0,yJ b] (λr=>.tup [yJ r.1,ai r.2.1]) (λr=>[.cells [ai r.2.2]]) 0:=fw func265<|rB 1 (rK 1 [] qU (λ_=>rB 2 (fE 2)<|fE 2) λ_=>fE 6)<|rB 1 (fE 2)<|fE 2
def zFP(d:Nat)(b:zX)(a c:Int):Option (Bool):=if decide (a>=0)then if decide (a<(b.length:Int))then zM b a>>=λx3=>some (x3.kind==c)else some false else some false
theorem zQj{d b a c}:Cz (zFP d b a c) 298 [] [zB zO b .no,ai a,ai c] (λr=>ab r) (λ_=>[]) 0:=fw func298<|rB 0 (rB 1 (rA 0 (xP (o:=.no)) λ_=>fE 2)<|fE 0)<|fE 0
def zJB(b:Nat)(a:Int)(c:Tm)(d:Int):Option (Tm×Int):=zDx b c d>>=λr1=>X1 b a r1.1 r1.2>>=λr3=>some (r3.1,r3.2)
theorem zFQ{b a c d}:Cz (zJB b a c d) 301 [.cells [ai a]] [.mp 0 0,yJ c,ai d] (λr=>yJ r.1) (λr=>[.cells [ai r.2]]) 0:=fw func301<|rC 1 [] zLL λ_=>rC 2 [0] s4 λ_=>fE 1
def eF:Nat->zZ->Int->Option (Bool)|0,_,_=>none|b+1,a,c=>if decide (c<(a.length:Int))then zM a c>>=λx2=>rV b x2>>=λr4=>if r4 then eF b a (yI (c+1))else some false else some true
def zJC(b:Nat)(a:zZ):Option (Bool):=eF b a 0
theorem zQi:∀b:Nat,∀a c,Lz (eF b a c) 0 f340 (pt 949 f340) (λj=>sp j 15 0 [(5,zB zA a .no),(6,ai (a.length:Int)),(7,ai c)]) ⟨[],0,[],0,[]⟩ (λr=>ab r) (λ_=>[]) 0 [.blk 0,.seq (pt 15 f340)]:=xC (λ_ _=>lN) λb ih=>λa c=>lw λ_=>rB 0 (rA 0 (yY (o:=.no)) λ_=>rK 3 [] qU (λ_=>lH 2 [] [] [] [5,6,7] (ih _ _)) λ_=>lE 1)<|lE 0
theorem zTi{b a}:Cz (zJC b a) 340 [] [zB zA a .no] (λr=>ab r) (λ_=>[]) 0:=fw func340<|fH 1 [] [] [] [5,6,7] (zQi _ _ _)
def zQh(c:Nat)(a:zZ)(b:Tm):Option (Tm×Int):=W8 c a b>>=λr1=>some (r1.1,r1.2)
theorem zYi{c a b}:Cz (zQh c a b) 349 [] [zB zA a .no,yJ b] (λr=>.tup [yJ r.1,ai r.2]) (λ_=>[]) 0:=fw func349<|rC 1 [] zMY λ_=>fE 3
def eG:Nat->zZ->tC->Tm->Int->Int->Int->Int->zZ->Option (Tm×Int)|0,_,_,_,_,_,_,_,_=>none|f+1,q,e,p,g,a,b,c,d=>if decide (g<(e.at'.length:Int))then zM e.at' g>>=λx6=>zFO f a x6 (e.around.length:Int) q>>=λr8=>lI f (Tm.mk b c d) r8.1>>=λr10=>eG f q e p (yI (g+1)) r8.2 r10.k r10.n r10.sub else zJB f a p (e.around.length:Int)>>=λr12=>W9 f (e.around.length:Int)>>=λr14=>oI f r12.1 r14>>=λr16=>lI f (Tm.mk b c d) r16>>=λr18=>zDS f r12.2 e.around q>>=λr20=>zQh f r20.1 r18>>=λr22=>X1 f r20.2 r22.1 r22.2>>=λr24=>some (r24.1,r24.2)
def zQg(f:Nat)(m:Int)(s:Tm)(t q:zZ)(e:tC)(p:Tm):Option (Tm×Int):=M0 f m t (e.around.length:Int)>>=λr1=>oI f s r1.1>>=λr3=>eG f q e p 0 r1.2 r3.k r3.n r3.sub
theorem zQf:∀f:Nat,∀q e p g a b c d,Lz (eG f q e p g a b c d) 1 f341 (pt 16309 f341) (λj=>sp j 61 0 [(0,.mp 0 0),(3,zB zA q .no),(10,.mp 1 0),(11,.mp 2 0),(12,.mp 3 0),(13,ai (e.around.length:Int)),(14,.mp 4 0),(27,zB zA e.at' .no),(28,ai (e.at'.length:Int)),(29,ai g)]) ⟨[(0,.cells [ai a]),(1,.cells [ab e.is,zB zA e.around .no,zB zA e.at' .no]),(2,.cells [ai p.k,ai p.n,zB zA p.sub .no]),(3,.cells [ai 0,ai 0,zB zA ([]:zZ) .nl]),(4,.cells [ai b,ai c,zB zA d .no])],5,[],0,[]⟩ (λr=>yJ r.1) (λr=>[.cells [ai r.2]]) 0 [.blk 0,.seq (pt 255 f341)]:=xC (λ_ _ _ _ _ _ _ _=>lN) λf ih=>λq e p g a b c d=>lw λ_=>rB 0 (rA 0 (yY (o:=.no)) λ_=>rC 4 [0] zJa λ_=>rC 0 [] oH λ_=>lH 2 [] [0,1,2,3,4] [] [0,3,10,11,12,13,14,27,28,29] (ih _ _ _ _ _ _ _ _))<|rC 2 [0] zFQ λ_=>rC 0 [] cQ λ_=>rC 0 [] pJ λ_=>rC 0 [] oH λ_=>rC 2 [0] zJA λ_=>rC 1 [] zYi λ_=>rC 2 [0] s4 λ_=>lE 1
theorem zQe{f m s t q e p}:Cz (zQg f m s t q e p) 341 [.cells [ai m]] [.mp 0 0,yJ s,zB zA t .no,zB zA q .no,zSj e,yJ p] (λr=>yJ r.1) (λr=>[.cells [ai r.2]]) 0:=fw func341<|rC 3 [0] X0 λ_=>rC 0 [] pJ λ_=>fH 3 [] [0,2,3,4,5] [] [0,3,10,11,12,13,14,27,28,29] (zQf _ _ _ _ _ _ _ _ _)
def xQ(l:List Tm):Prop:=∀x∈l,x.Ok
theorem xQ.nil:xQ []:=λ_ h=>nomatch h
theorem xQ.app{l m:List Tm}(h:xQ l)(k:xQ m):xQ (l++m):=λx hx=>(List.mem_append.1 hx).elim (h x) (k x)
theorem xQ.one{t:Tm}(h:t.Ok):xQ [t]:=λx hx=>by rw[List.mem_singleton.1 hx];exact h
theorem xQ.drop{l:List Tm}(h:xQ l)(n:Nat):xQ (l.drop n):=λx hx=>h x (List.mem_of_mem_drop hx)
theorem xQ.take{l:List Tm}(h:xQ l)(n:Nat):xQ (l.take n):=λx hx=>h x (List.mem_of_mem_take hx)
theorem xQ.at{l r:List Tm}{v:Nat}{x:Tm}(h:xQ l)(hd:l.drop v=x::r):x.Ok:=h x (by
 have:x∈l.drop v:=by rw[hd];simp
 exact List.mem_of_mem_drop this)
theorem zTh{k n:Int}{a:Tm}(h:a.Ok):(Tm.mk k n [a]).Ok:=by rw[Tm.Ok,gL,gL];exact⟨by simp,h,trivial⟩
theorem sK{k n:Int}{a b:Tm}(h:a.Ok)(i:b.Ok):(Tm.mk k n [a,b]).Ok:=by rw[Tm.Ok,gL,gL,gL];exact⟨by simp,h,i,trivial⟩
theorem zBn{α:Type}{l:List α}{i:Int}(h0:0<=i)(h1:i<l.length):∃x,zM l i=some x/\x∈l:=by
 have:i.toNat<l.length:=by omega
 exact⟨l[i.toNat],by unfold zM;rw[if_pos h0,List.getElem?_eq_getElem this],List.getElem_mem this⟩
theorem eH{α:Type}{l:List α}{a b:Int}(h0:0<=a)(h1:a<=b)(h2:b<=l.length):tX l a b=some ((l.drop a.toNat).take (b-a).toNat):=by unfold tX;rw[if_pos ⟨h0,h1,h2⟩]
def MT(e:Int)(v:Tm)(x:Tm×Int):Prop:=x.1.Ok/\(e≠8->x.2≠8)/\(x.2=0->e=0/\x.1=v)
def ML(e:Int)(v:List Tm)(x:List Tm×Int):Prop:=xQ x.1/\(e≠8->x.2≠8)/\(x.2=0->e=0/\x.1=v)
def upI(k:Int)(l:List Tm):List Tm:=l.map λt=>U1 t 0 0 k
theorem zAt(p1 p2:Int):∀(r l acc:List Tm)(v:Nat),l.drop v=r->l.length<=1073741824->xQ l->xQ acc->acc.length+r.length<=l.length->zD (λq=>eB q l p1 p2 (v:Int) acc) (λx=>ML 0 (acc++r.map λt=>U1 t 0 p2 p1) x/\x.1.length<=l.length)
 |[],l,acc,v,hd,hl,ho,ha,hv=>by refine zD.succ ?_;simp only[eB];refine zD.ite (λh=>?_) λ_=>zD.ret ⟨⟨ha,by simp,by simp⟩,by simpa using hv⟩;rw[yF hd]at h;cases h|t::r,l,acc,v,hd,hl,ho,ha,hv=>by
  have hlt:=yK hd;refine zD.succ ?_;simp only[eB];refine zD.ite (λ_=>?_) λh=>?_
  ·refine zD.pure (yA hd) (zD.bind (P:=λr=>r=vH t p1 p2) ((zHl t p1 p2 (ho.at hd)).tot rfl) λr4 h4=>?_);subst h4;refine zD.ite (λh=>?_) λh=>?_
   ·have hne:(vH t p1 p2).2≠0:=by simpa using h
    exact zD.ret ⟨⟨xQ.nil,λ_=>W7 t p1 p2,λh0=>absurd h0 hne⟩,by simp⟩
   ·have he:(vH t p1 p2).2=0:=by simpa using h
    rw[List.length_cons]at hv;refine zD.pure (zW (by simp<;>omega)) ?_;rw[zV v (by omega)];refine(zAt p1 p2 r l _ (v+1) (zU hd) hl ho (ha.app (xQ.one (iQ t p1 p2 (ho.at hd)))) (by simp<;>omega)).mono λx hx=>?_;rw[(aV he).2.2.2.2]at hx;simpa using hx
  ·rw[yD hd]at h;cases h
theorem zNz(l:List Tm)(p1 p2:Int)(hl:l.length<=1073741824)(ho:xQ l):zD (λq=>zQo q l p1 p2) (λx=>ML 0 (l.map λt=>U1 t 0 p2 p1) x/\x.1.length<=l.length):=by simp only[zQo];exact zAt p1 p2 l l [] 0 rfl hl ho xQ.nil (by simp)
theorem N7(e:Int)(t:Tm)(p:Int):zD (λq=>X1 q e t p) (λx=>x.1=t/\x.2=if e=0 then p else e):=by
 simp only[X1];refine zD.ite (λh=>zD.ret ⟨rfl,?_⟩) λh=>zD.ret ⟨rfl,?_⟩;·rw[if_pos (by simpa using h)]
 ·rw[if_neg (by simpa using h)]
theorem zQd(e:Int)(t:List Tm)(p:Int):zD (λq=>zQp q e t p) (λx=>x.1=t/\x.2=if e=0 then p else e):=by
 simp only[zQp];refine zD.ite (λh=>zD.ret ⟨rfl,?_⟩) λh=>zD.ret ⟨rfl,?_⟩;·rw[if_pos (by simpa using h)]
 ·rw[if_neg (by simpa using h)]
theorem zFR{e:Int}{v:Tm}{r x:Tm×Int}(hr:MT 0 v r)(hx:x.1=r.1/\x.2=if e=0 then r.2 else e):MT e v x:=by
 obtain⟨h1,h2⟩:=hx;refine⟨by rw[h1];exact hr.1,?_,?_⟩
 ·intro he;rw[h2];split;·exact hr.2.1 (by decide)
  ·exact he
 ·intro he;rw[h2]at he;by_cases h:e=0
  ·rw[if_pos h]at he;exact⟨h,by rw[h1];exact(hr.2.2 he).2⟩
  ·rw[if_neg h]at he;exact absurd he h
theorem zTg{e:Int}{v:List Tm}{r x:List Tm×Int}(hr:ML 0 v r)(hx:x.1=r.1/\x.2=if e=0 then r.2 else e):ML e v x:=by
 obtain⟨h1,h2⟩:=hx;refine⟨by rw[h1];exact hr.1,?_,?_⟩
 ·intro he;rw[h2];split;·exact hr.2.1 (by decide)
  ·exact he
 ·intro he;rw[h2]at he;by_cases h:e=0
  ·rw[if_pos h]at he;exact⟨h,by rw[h1];exact(hr.2.2 he).2⟩
  ·rw[if_neg h]at he;exact absurd he h
theorem oO(e:Int)(l:List Tm)(p:Int)(hl:l.length<=1073741824)(ho:xQ l):zD (λq=>M0 q e l p) (λx=>ML e (upI p l) x/\x.1.length<=l.length):=by simp only[M0];exact(zNz l p 0 hl ho).bind λr h=>(zQd e r.1 r.2).bind λr3 h3=>zD.ret ⟨zTg h.1 h3,by rw[h3.1];exact h.2⟩
theorem zBm(t:Tm)(k c:Int)(h:t.Ok):MT 0 (U1 t 0 c k) (vH t k c):=⟨iQ t k c h,λ_=>W7 t k c,λh=>⟨rfl,(aV h).2.2.2.2⟩⟩
theorem zTf(t:Tm)(ls:List Tm)(h:t.Ok)(ho:xQ ls):MT 0 (siT ls t 0) (iR t ls):=⟨aG t ls h ho,λ_=>zBo t ls,λh=>⟨rfl,(zQr h).2.2.2⟩⟩
theorem zFS(e:Int)(t:Tm)(p:Int)(h:t.Ok):zD (λq=>zJB q e t p) (MT e (U1 t 0 0 p)):=by simp only[zJB];exact zD.bind (P:=λr=>r=vH t p 0) ((zDv t p h).tot rfl) λr hr=>(N7 e r.1 r.2).bind λr3 h3=>zD.ret (by subst hr;exact zFR (zBm t p 0 h) h3)
def jR:Nat->List Tm|0=>[]|m+1=>.mk 1 (m:Int) []::jR m
def vuT:Nat->Nat->List Tm|0,_=>[]|m+1,v=>.mk 1 (v:Int) []::vuT m (v+1)
theorem qF:∀m,xQ (jR m)
 |0=>xQ.nil|m+1=>λx hx=>by
  rcases List.mem_cons.1 hx with rfl|hx;·exact yX _ _
  ·exact qF m x hx
theorem vO:∀m,(jR m).length=m|0=>rfl|m+1=>congrArg (·+1) (vO m)
theorem zDT:∀(m:Nat)(acc:List Tm),m+acc.length<=1048576->zC (λq=>eA q acc ((m:Int)-1)) (acc++jR m)|0,acc,hm=>by refine zC.succ ?_;simp only[eA];exact zC.ifF (decide_eq_false (by omega)) (zC.ret.eq (by simp[jR]))|m+1,acc,hm=>by refine zC.succ ?_;simp only[eA];refine zC.ifT (decide_eq_true (by omega)) ((tY _).bind (zC.pure (zW (by simp<;>omega)) ?_));rw[zS (by omega) (by omega),show((m+1:Nat):Int)-1-1=(m:Int)-1 by omega];refine(zDT m _ (by simp<;>omega)).eq ?_;rw[jR,show((m+1:Nat):Int)-1=(m:Int)by omega];simp
theorem mG(n:Nat)(hn:n<=1048576):zC (λq=>W9 q (n:Int)) (jR n):=by simp only[W9];refine zC.ifF (decide_eq_false (by omega)) (zC.ifF (decide_eq_false (by omega)) ?_);rw[zS (by omega) (by omega)];exact(zDT n [] (by simpa using hn)).eq (by simp)
def zQc(t:Tm)(own:Nat)(outer:List Tm):Tm:=siT (vuT own 0++(upI own outer).reverse) t 0
def X2(outer:List Tm):List Tm->Nat->List Tm|[],_=>[]|t::r,v=>zQc t v outer::X2 outer r (v+1)
theorem zDU(p1:Tm)(r6:List Tm×Int)(h1:p1.Ok)(h6:xQ r6.1):∀(m:Nat)(acc:List Tm),m<=r6.1.length->m+acc.length<=4294967296->xQ acc->zD (λq=>eC q p1 r6 ((m:Int)-1) acc) (MT r6.2 (siT (acc++(r6.1.take m).reverse) p1 0))
 |0,acc,hm,hl,ho=>by
  refine zD.succ ?_;simp only[eC];refine zD.ite (λh=>?_) λ_=>?_;·have:=of_decide_eq_true h;omega
  ·refine zD.bind (P:=λr=>r=iR p1 acc) ((N4 p1 acc h1 ho (by omega)).tot rfl) λr h=>(N7 _ r.1 r.2).bind λx hx=>zD.ret ?_;subst h;have:=zFR (zTf p1 acc h1 ho) hx;simpa using this|m+1,acc,hm,hl,ho=>by
  refine zD.succ ?_;simp only[eC];refine zD.ite (λ_=>?_) λh=>?_
  ·have hlt:m<r6.1.length:=by omega
   have hx:zM r6.1 (((m+1:Nat):Int)-1)=some r6.1[m]:=by unfold zM;rw[if_pos (by omega),show(((m+1:Nat):Int)-1).toNat=m by omega,List.getElem?_eq_getElem hlt]
   refine zD.pure hx (zD.pure (zW (by simp<;>omega)) ?_);rw[zS (by omega) (by omega),show((m+1:Nat):Int)-1-1=(m:Int)-1 by omega];refine(zDU p1 r6 h1 h6 m _ (by omega) (by simp<;>omega) (ho.app (xQ.one (h6 _ (List.getElem_mem hlt))))).mono λx hx=>?_;have e:r6.1.take (m+1)=r6.1.take m++[r6.1[m]]:=by rw[List.take_add_one,List.getElem?_eq_getElem hlt];rfl
   rw[e,List.reverse_append];simpa using hx
  ·have:=of_decide_eq_false h;omega
theorem zNy(e:Int)(p1:Tm)(own:Nat)(p3:List Tm)(h1:p1.Ok)(h2:own<=1073741824)(h3:xQ p3)(hl:p3.length<=1073741824):∀(m v:Nat)(acc:List Tm),v+m=own->acc.length<=v->xQ acc->zD (λq=>eD q e p1 (own:Int) p3 (v:Int) acc) (MT e (siT (acc++vuT m v++(upI own p3).reverse) p1 0)):=by intro m;induction m with
 |zero=>
  intro v acc hm ha ho;refine zD.succ ?_;simp only[eD];refine zD.ite (λh=>?_) λ_=>(oO e p3 own hl h3).bind λr6 h6=>?_;·have:=of_decide_eq_true h;omega
  ·rw[zS (by omega) (by omega)];refine(zDU p1 r6 h1 h6.1.1 r6.1.length acc (Nat.le_refl _) (by omega) ho).mono λx hx=>⟨hx.1,λhe=>hx.2.1 (h6.1.2.1 he),λhe=>?_⟩;have k:=hx.2.2 he;have k6:=h6.1.2.2 k.1;refine⟨k6.1,?_⟩;rw[k.2,List.take_length,k6.2,vuT];simp|succ m ih=>
  intro v acc hm ha ho;refine zD.succ ?_;simp only[eD];refine zD.ite (λ_=>?_) λh=>?_
  ·refine zD.bind (P:=λr=>r=Tm.mk 1 (v:Int) []) ((tY v).tot rfl) λr h=>zD.pure (zW (by simp<;>omega)) ?_;subst h;rw[zV v (by omega)];refine(ih (v+1) _ (by omega) (by simp<;>omega) (ho.app (xQ.one (yX _ _)))).mono λx hx=>?_;rw[vuT];simpa using hx
  ·have:=of_decide_eq_false h;omega
theorem mH(e:Int)(p1:Tm)(own:Nat)(p3:List Tm)(h1:p1.Ok)(h2:own<=1073741824)(h3:xQ p3)(hl:p3.length<=1073741824):zD (λq=>zFO q e p1 (own:Int) p3) (MT e (zQc p1 own p3)):=by simp only[zFO];exact zNy e p1 own p3 h1 h2 h3 hl own 0 [] (by omega) (by simp) xQ.nil
theorem dO(p2:List Tm)(h2:xQ p2)(hl2:p2.length<=1073741824):∀(r l acc:List Tm)(v:Nat)(e:Int),l.drop v=r->l.length<=1073741824->xQ l->xQ acc->acc.length<=v->zD (λq=>eE q l p2 (v:Int) acc e) (λx=>xQ x.1/\x.1.length=acc.length+r.length/\(e≠8->x.2≠8)/\(x.2=0->e=0/\x.1=acc++X2 p2 r v))
 |[],l,acc,v,e,hd,hl,ho,ha,hv=>by refine zD.succ ?_;simp only[eE];refine zD.ite (λh=>?_) λ_=>zD.ret ⟨ha,by simp,id,λh=>⟨h,by simp[X2]⟩⟩;rw[yF hd]at h;cases h|t::r,l,acc,v,e,hd,hl,ho,ha,hv=>by
  have hlt:=yK hd;refine zD.succ ?_;simp only[eE];refine zD.ite (λ_=>?_) λh=>?_
  ·refine zD.pure (yA hd) ((mH e t v p2 (ho.at hd) (by omega) h2 hl2).bind λr4 h4=>?_);refine zD.pure (zW (by simp<;>omega)) ?_;rw[zV v (by omega)];refine(dO p2 h2 hl2 r l _ (v+1) r4.2 (zU hd) hl ho (ha.app (xQ.one h4.1)) (by simp<;>omega)).mono λx hx=>?_;obtain⟨a1,a2,a3,a4⟩:=hx;refine⟨a1,by rw[a2];simp<;>omega,λhe=>a3 (h4.2.1 he),λhe=>?_⟩;have k:=a4 he;have k4:=h4.2.2 k.1;refine⟨k4.1,?_⟩;rw[k.2,k4.2,X2];simp
  ·rw[yD hd]at h;cases h
theorem qG(e:Int)(l p2:List Tm)(h2:xQ p2)(hl2:p2.length<=1073741824)(hl:l.length<=1073741824)(ho:xQ l):zD (λq=>zDS q e l p2) (λx=>ML e (X2 p2 l 0) x/\x.1.length=l.length):=by simp only[zDS];refine(dO p2 h2 hl2 l l [] 0 e rfl hl ho xQ.nil (by simp)).mono λx hx=>?_;obtain⟨a1,a2,a3,a4⟩:=hx;exact⟨⟨a1,a3,λhe=>by simpa using a4 he⟩,by simpa using a2⟩
def zDV(l:List Tm)(t:Tm):Tm:=l.foldr (λa x=>.mk 4 0 [a,x]) t
theorem zNx(l:List Tm)(hl:l.length<=24)(ho:xQ l):∀(m v:Nat)(t:Tm),v+m=l.length->t.Ok->zD (λq=>sW q l (v:Int) t.k t.n t.sub) (MT 0 (zDV (l.take m) t)):=by intro m;induction m with
 |zero=>
  intro v t hm ht;refine zD.succ ?_;simp only[sW,vT];refine zD.ite (λh=>?_) λ_=>?_;·have:=of_decide_eq_true h;omega
  ·refine zD.bind (P:=λb=>b=zJ t) ((xM t ht).tot rfl) λr hr=>zD.ite (λh=>?_) λ_=>zD.ret ⟨yX 0 0,by simp,by simp⟩;refine zD.bind (P:=λx=>x=lJ t) ((oJ t ht).tot rfl) λx hx=>zD.ret ?_;subst hx;have e:lJ t=t:=by unfold lJ;rw[if_pos (by rw[<-hr];exact h)]
   rw[e];exact⟨ht,by simp,λ_=>⟨rfl,by simp[zDV]⟩⟩|succ m ih=>
  intro v t hm ht;refine zD.succ ?_;simp only[sW,vT];refine zD.ite (λ_=>?_) λh=>?_
  ·have hlt:m<l.length:=by omega
   rw[zS (x:=(l.length:Int)-1) (by omega) (by omega),zS (x:=(l.length:Int)-1-v) (by omega) (by omega)];have hx:zM l ((l.length:Int)-1-v)=some l[m]:=by unfold zM;rw[if_pos (by omega),show((l.length:Int)-1-v).toNat=m by omega,List.getElem?_eq_getElem hlt]
   refine zD.pure hx (zD.bind (P:=λr=>r=Tm.mk 4 0 [l[m],t]) (zC.tot (zC.mk λ_=>rfl) rfl) λr hr=>?_);subst hr;rw[zV v (by omega)];refine(ih (v+1) _ (by omega) (sK (ho _ (List.getElem_mem hlt)) ht)).mono λx hx=>?_;have e:l.take (m+1)=l.take m++[l[m]]:=by rw[List.take_add_one,List.getElem?_eq_getElem hlt];rfl
   rw[e];unfold zDV at hx⊢;rw[List.foldr_append];exact hx
  ·have:=of_decide_eq_false h;omega
theorem zHD(t:Tm)(ht:t.Ok):∀(r l:List Tm)(v:Nat),l.drop v=r->l.length<=24->xQ l->zD (λq=>sX q l t (v:Int)) (MT 0 (zDV l t))
 |[],l,v,hd,hl,ho=>by
  refine zD.succ ?_;simp only[sX];refine zD.ite (λh=>?_) λ_=>?_;·rw[yF hd]at h;cases h
  ·refine zD.bind (P:=λ_=>True) ((xM t ht).tot trivial) λr _=>zD.ite (λ_=>?_) λ_=>zD.ret ⟨yX 0 0,by simp,by simp⟩;have:=zNx l hl ho l.length 0 t (by omega) ht;rwa[List.take_length]at this|x::r,l,v,hd,hl,ho=>by
  have hlt:=yK hd;refine zD.succ ?_;simp only[sX];refine zD.ite (λ_=>?_) λh=>?_
  ·refine zD.pure (yA hd) (zD.bind (P:=λ_=>True) ((xM x (ho.at hd)).tot trivial) λ_ _=>zD.ite (λ_=>?_) λ_=>zD.ret ⟨yX 0 0,by simp,by simp⟩);rw[zV v (by omega)];exact zHD t ht r l (v+1) (zU hd) hl ho
  ·rw[yD hd]at h;cases h
theorem zNw(l:List Tm)(t:Tm)(ho:xQ l)(ht:t.Ok):zD (λq=>zQh q l t) (MT 0 (zDV l t)):=by simp only[zQh];refine zD.bind (P:=MT 0 (zDV l t)) ?_ λx hx=>zD.ret hx;simp only[W8];refine zD.ite (λ_=>zD.ret ⟨yX 0 0,by simp,by simp⟩) λh=>?_;have:=of_decide_eq_false h;exact zHD t ht l l 0 rfl (by omega) ho
def aW(r:tC):Prop:=xQ r.around/\xQ r.at'/\r.around.length<=1048576/\r.at'.length<=1048576
def zWy(head:Tm)(args outer:List Tm)(r:tC)(a:Tm):Tm:=zDV (X2 outer r.around 0) (.mk 5 0 [mQ (mQ head (upI r.around.length args)) (r.at'.map λt=>zQc t r.around.length outer),mQ (U1 a 0 0 r.around.length) (jR r.around.length)])
theorem zDW(p3:List Tm)(p4:tC)(p5:Tm)(h3:xQ p3)(hl3:p3.length<=1073741824)(h4:aW p4)(h5:p5.Ok):∀(r:List Tm)(v:Nat)(e:Int)(t:Tm),p4.at'.drop v=r->t.Ok->zD (λq=>eG q p3 p4 p5 (v:Int) e t.k t.n t.sub) (MT e (zDV (X2 p3 p4.around 0) (.mk 5 0 [mQ t (r.map λt=>zQc t p4.around.length p3),mQ (U1 p5 0 0 p4.around.length) (jR p4.around.length)])))
 |[],v,e,t,hd,ht=>by
  refine zD.succ ?_;simp only[eG,vT];refine zD.ite (λh=>?_) λ_=>?_;·rw[yF hd]at h;cases h
  ·have:=h4.2.2.1;refine(zFS e p5 _ h5).bind λr12 h12=>zD.bind (P:=λx=>x=jR p4.around.length) ((mG _ this).tot rfl) λr14 h14=>?_;subst h14;refine zD.bind (P:=λx=>x=mQ r12.1 (jR p4.around.length)) ((wS r12.1 _ (by rw[vO];omega)).tot rfl) λr16 h16=>?_;subst h16;refine zD.bind (P:=λx=>x=Tm.mk 5 0 [t,mQ r12.1 (jR p4.around.length)]) ((rX t _).tot rfl) λr18 h18=>?_;subst h18;refine(qG r12.2 p4.around p3 h3 hl3 (by omega) h4.1).bind λr20 h20=>(zNw r20.1 _ h20.1.1 (sK ht (uH _ _ h12.1 (qF _)))).bind λr22 h22=>(N7 r20.2 r22.1 r22.2).bind λr24 h24=>zD.ret ?_;have m:=zFR h22 h24;refine⟨m.1,λhe=>m.2.1 (h20.1.2.1 (h12.2.1 he)),λhe=>?_⟩;have k:=m.2.2 he;have k20:=h20.1.2.2 k.1;have k12:=h12.2.2 k20.1;refine⟨k12.1,?_⟩;rw[k.2,k20.2,k12.2];rfl|x::r,v,e,t,hd,ht=>by
  have hlt:=yK hd;have:=h4.2.2.1;have:=h4.2.2.2;refine zD.succ ?_;simp only[eG,vT];refine zD.ite (λ_=>?_) λh=>?_
  ·refine zD.pure (yA hd) ((mH e x _ p3 (h4.2.1.at hd) (by omega) h3 hl3).bind λr8 h8=>?_);refine zD.bind (P:=λx=>x=Tm.mk 5 0 [t,r8.1]) ((rX t r8.1).tot rfl) λr10 h10=>?_;subst h10;rw[zV v (by omega)];refine(zDW p3 p4 p5 h3 hl3 h4 h5 r (v+1) r8.2 (.mk 5 0 [t,r8.1]) (zU hd) (sK ht h8.1)).mono λy hy=>⟨hy.1,λhe=>hy.2.1 (h8.2.1 he),λhe=>?_⟩;have k:=hy.2.2 he;have k8:=h8.2.2 k.1;refine⟨k8.1,?_⟩;rw[k.2,k8.2,List.map_cons,mQ]
  ·rw[yD hd]at h;cases h
theorem X3(e:Int)(p1:Tm)(p2 p3:List Tm)(p4:tC)(p5:Tm)(h1:p1.Ok)(h2:xQ p2)(hl2:p2.length<=1073741824)(h3:xQ p3)(hl3:p3.length<=1073741824)(h4:aW p4)(h5:p5.Ok):zD (λq=>zQg q e p1 p2 p3 p4 p5) (MT e (zWy p1 p2 p3 p4 p5)):=by simp only[zQg];refine(oO e p2 _ hl2 h2).bind λr1 hr1=>?_;refine zD.bind (P:=λx=>x=mQ p1 r1.1) ((wS p1 r1.1 (by omega)).tot rfl) λr3 hr3=>?_;subst hr3;refine(zDW p3 p4 p5 h3 hl3 h4 h5 p4.at' 0 r1.2 (mQ p1 r1.1) rfl (uH _ _ h1 hr1.1.1)).mono λy hy=>⟨hy.1,λhe=>hy.2.1 (hr1.1.2.1 he),λhe=>?_⟩;have k:=hy.2.2 he;have k1:=hr1.1.2.2 k.1;refine⟨k1.1,?_⟩;rw[k.2,k1.2];rfl
theorem zDX(e:Int)(t:Tm)(h:t.Ok):zD (λq=>zMZ q e t) (λx=>x.1.Ok/\(e≠8->x.2.1≠8)/\(x.2.1=0->e=0/\x.1=t/\zJ t=true)):=by
 simp only[zMZ];refine zD.ite (λhe=>?_) λhe=>?_
 ·have he':e=0:=by simpa using he
  refine zD.bind (P:=λb=>b=zJ t) ((xM t h).tot rfl) λb hb=>zD.ite (λhs=>?_) λ_=>zD.ret ⟨yX 0 0,by simp,by simp⟩;refine zD.ite (λh2=>absurd he' (by simpa using h2)) λ_=>zD.ret ⟨h,by simp,λ_=>⟨he',rfl,by rw[<-hb];exact hs⟩⟩
 ·have he':e≠0:=by simpa using he
  exact zD.ite (λ_=>zD.ret ⟨yX 0 0,id,λh0=>absurd h0 he'⟩) λh2=>absurd (by simpa using h2) he'
theorem zBl(l:List yE)(n kind:Int):zC (λq=>zFP q l n kind) (fV l n kind):=by
 simp only[zFP];unfold fV;by_cases h:0<=n
 ·refine zC.ifT (decide_eq_true h) ?_;by_cases k:n<l.length;·exact zC.ifT (decide_eq_true k) (zC.pure (yP h k) (zC.ret.eq (by simp[h,k])))
  ·exact zC.ifF (decide_eq_false k) (zC.ret.eq (by simp[k]))
 ·exact zC.ifF (decide_eq_false h) (zC.ret.eq (by simp[h]))
theorem K3:∀(r l:List Tm)(v:Nat),l.drop v=r->l.length<=1073741824->xQ l->zC (λq=>eF q l (v:Int)) (r.all zJ)
 |[],l,v,hd,hl,ho=>by refine zC.succ ?_;simp only[eF];exact zC.ifF (yF hd) zC.ret|x::r,l,v,hd,hl,ho=>by
  have hlt:=yK hd;refine zC.succ ?_;simp only[eF];refine zC.ifT (yD hd) (zC.pure (yA hd) ((xM x (ho.at hd)).bind ?_));by_cases h:zJ x=true
  ·refine zC.ifT h ?_;rw[zV v (by omega)];exact(K3 r l (v+1) (zU hd) hl ho).eq (by simp[h])
  ·exact zC.ifF (by simpa using h) (zC.ret.eq (by simp[h]))
theorem cR(l:List Tm)(hl:l.length<=1073741824)(ho:xQ l):zC (λq=>zJC q l) (l.all zJ):=by simp only[zJC];exact K3 l l 0 rfl hl ho
def zFT(c:Nat)(rl:zX)(parts:tR)(b:Int)(a:zZ):Option (Tm×Int):=zFP c rl b 4>>=λr1=>if r1 then zM rl b>>=λx4=>zM rl x4.fam>>=λx6=>if(a.length:Int)!=(x6.fields.length:Int)then some ((Tm.mk 0 0 []),5)else zJC c a>>=λr9=>if r9 then zM a x4.place>>=λx12=>some (x12,0)else some ((Tm.mk 0 0 []),5)else some ((Tm.mk 0 0 []),16)
theorem zYh{c rl parts b a}:Cz (zFT c rl parts b a) 325 [qR rl parts] [.mp 0 0,ai b,zB zA a .no] (λr=>.tup [yJ r.1,ai r.2]) (λ_=>[qR rl parts]) 0:=fw func325<|rK 2 [] zQj (λ_=>rH λ_ h5=>rS (oA 2 (xP (o:=.no) h5))<|rA 1 (xP (o:=.no)) λ_=>rB 2 (fE 1)<|rK 0 [] zTi (λ_=>rS (oA 1 (xP (o:=.no) h5))<|rA 1 (yY (o:=.no)) λ_=>fE 2) λ_=>fE 2) λ_=>fE 2
def zWx(a:Nat)(b c:Int):Option (Tm):=L6 a c>>=λr1=>zDz a 7 b [r1]>>=λr3=>some r3
theorem zQb{a b c}:Cz (zWx a b c) 342 [] [ai b,ai c] (λr=>yJ r) (λ_=>[]) 0:=fw func342<|rC 0 [] zBz λr1=>rS (oS 0 (yR xF [r1]))<|rC 0 [] zFq λ_=>fE 1
def jA:Nat->zX->tR->Int->Int->zZ->zZ->vY->Int->Int->Int->Int->zZ->Option (Tm×Int)|0,_,_,_,_,_,_,_,_,_,_,_,_=>none|f+1,rl,parts,g,q,m,p,x12,a,b,c,d,e=>if decide (a<(x12.recs.length:Int))then zM x12.recs a>>=λx29=>if x29.is then zM rl g>>=λx32=>tX m 0 x32.pars>>=λx34=>yW 40 ([]:zZ) x34>>=λl36=>tX p 0 a>>=λx39=>yW 40 l36 x39>>=λl41=>zWx f g q>>=λr44=>zM p a>>=λx46=>zQg f b r44 m l41 x29 x46>>=λr48=>lI f (Tm.mk c d e) r48.1>>=λr50=>jA f rl parts g q m p x12 (yI (a+1)) r48.2 r50.k r50.n r50.sub else jA f rl parts g q m p x12 (yI (a+1)) b c d e else zMZ f b (Tm.mk c d e)>>=λr52=>some (r52.1,r52.2.1)
def zFU(f:Nat)(rl:zX)(parts:tR)(g q s:Int)(m p:zZ):Option (Tm×Int):=zFP f rl g 1>>=λr1=>if r1 then if decide (q<0)then some ((Tm.mk 0 0 []),16)else if decide (q>7)then some ((Tm.mk 0 0 []),16)else zFP f rl s 2>>=λr6=>if r6 then zM rl s>>=λx9=>if x9.fam !=g then some ((Tm.mk 0 0 []),16)else zM parts s>>=λx12=>zM rl g>>=λx14=>if(m.length:Int)!=(yI ((yI (x14.pars+1))+(x14.cons.length:Int)))then some ((Tm.mk 0 0 []),5)else if(p.length:Int)!=(x12.args.length:Int)then some ((Tm.mk 0 0 []),5)else zJC f m>>=λr18=>if r18 then zJC f p>>=λr21=>if r21 then zM m (yI ((yI (x14.pars+1))+x9.place))>>=λx24=>oI f x24 p>>=λr26=>jA f rl parts g q m p x12 0 0 r26.k r26.n r26.sub else some ((Tm.mk 0 0 []),5)else some ((Tm.mk 0 0 []),5)else some ((Tm.mk 0 0 []),16)else some ((Tm.mk 0 0 []),16)
theorem zQa:∀f:Nat,∀rl parts g q m p x12 a b c d e,Lz (jA f rl parts g q m p x12 a b c d e) 1 f326 (pt 16777141 f326) (λj=>sp j 160 0 [(1,ai g),(2,ai q),(4,zB zA m .no),(5,zB zA p .no),(12,.mp 1 0),(14,zB zO rl .no),(16,.mp 2 0),(17,.mp 3 0),(118,zB jP x12.recs .no),(119,ai (x12.recs.length:Int)),(120,ai a)]) ⟨[(0,qR rl parts),(1,.cells [ai 0,ai 0,zB zA ([]:zZ) .nl]),(2,.cells [ai b]),(3,.cells [ai c,ai d,zB zA e .no])],4,[],0,[]⟩ (λr=>.tup [yJ r.1,ai r.2]) (λ_=>[qR rl parts]) 0 [.blk 0,.seq (pt 262143 f326)]:=xC (λ_ _ _ _ _ _ _ _ _ _ _ _=>lN) λf ih=>λrl parts g q m p x12 a b c d e=>lw λ_=>rB 0 (rA 0 (zRR (o:=.no)) λ_=>rB 2 (rA 1 (xP (o:=.no)) λ_=>rA 1 rU λx34=>rH λ_ h37=>rZ (List.length x34=0) (λh38=>rS (oP 0 (rR h37 h38))<|rA 0 rU λx39=>rH λ_ h42=>rZ (List.length x39=0) (λh43=>rS (oP 0 (rR h42 h43))<|rC 1 [] zQb λ_=>rA 1 (yY (o:=.no)) λ_=>rC 1 [2] zQe λ_=>rC 0 [] oH λ_=>lH 2 [] [0,1,2,3] [] [1,2,4,5,12,14,16,17,118,119,120] (ih _ _ _ _ _ _ _ _ _ _ _ _)) λh43=>rS (oP 0 (xS h42 h43))<|rC 1 [] zQb λ_=>rA 1 (yY (o:=.no)) λ_=>rC 1 [2] zQe λ_=>rC 0 [] oH λ_=>lH 2 [] [0,1,2,3] [] [1,2,4,5,12,14,16,17,118,119,120] (ih _ _ _ _ _ _ _ _ _ _ _ _)) λh38=>rS (oP 0 (xS h37 h38))<|rA 0 rU λx39=>rH λ_ h42=>rZ (List.length x39=0) (λh43=>rS (oP 0 (rR h42 h43))<|rC 1 [] zQb λ_=>rA 1 (yY (o:=.no)) λ_=>rC 1 [2] zQe λ_=>rC 0 [] oH λ_=>lH 2 [] [0,1,2,3] [] [1,2,4,5,12,14,16,17,118,119,120] (ih _ _ _ _ _ _ _ _ _ _ _ _)) λh43=>rS (oP 0 (xS h42 h43))<|rC 1 [] zQb λ_=>rA 1 (yY (o:=.no)) λ_=>rC 1 [2] zQe λ_=>rC 0 [] oH λ_=>lH 2 [] [0,1,2,3] [] [1,2,4,5,12,14,16,17,118,119,120] (ih _ _ _ _ _ _ _ _ _ _ _ _))<|lH 1 [] [0,1,2,3] [] [1,2,4,5,12,14,16,17,118,119,120] (ih _ _ _ _ _ _ _ _ _ _ _ _))<|rC 1 [2] zTj λ_=>lE 3
theorem zYg{f rl parts g q s m p}:Cz (zFU f rl parts g q s m p) 326 [qR rl parts] [.mp 0 0,ai g,ai q,ai s,zB zA m .no,zB zA p .no] (λr=>.tup [yJ r.1,ai r.2]) (λ_=>[qR rl parts]) 0:=fw func326<|rK 2 [] zQj (λ_=>rB 1 (fE 1)<|rB 0 (fE 1)<|rK 0 [] zQj (λ_=>rH λ_ h10=>rS (oA 1 (xP (o:=.no) h10))<|rB 1 (fE 1)<|rA 1 (zVq (o:=.no)) λ_=>rH λ_ h15=>rS (oA 3 (xP (o:=.no) h15))<|rS (oA 2 (xP (o:=.no) h15))<|rB 3 (fE 1)<|rB 3 (fE 1)<|rK 0 [] zTi (λ_=>rK 1 [] zTi (λ_=>rS (oA 1 (xP (o:=.no) h15))<|rS (oA 2 (xP (o:=.no) h10))<|rA 2 (yY (o:=.no)) λ_=>rC 1 [] pJ λ_=>fH 3 [] [0,1,3,4] [] [1,2,4,5,12,14,16,17,118,119,120] (zQa _ _ _ _ _ _ _ _ _ _ _ _ _)) λ_=>fE 2) λ_=>fE 2) λ_=>fE 2) λ_=>fE 2
theorem zQA(l:List yE)(i:Int)(h0:0<=i)(h1:i<l.length)(hk:(zP l i).kind=2):zM (nN l l.length 0) i=some (vU l i):=by unfold zM;rw[if_pos h0,zHC l l.length 0 i.toNat (by omega),show((0+i.toNat:Nat):Int)=i by omega,if_pos hk]
theorem zTe(l:List yE)(t:Tm)(of b:Int):aW (zMT l t of b):=by
 unfold zMT;split
 ·rename_i h;have hw:=lO (t:=t) (l:=(xG t).1) (y:=(xG t).2.1) (by rw[<-h.1]);have hs:=zN hw.2.2.2.2.1;have hal:=qV _ hs.2.2;refine⟨λx hx=>yT (hw.2.2.2.2.2 x hx),λx hx=>yT (wC hw.2.2.2.2.1 (List.mem_of_mem_drop hx)),?_,?_⟩;·show(xG t).1.length<=_;omega
  ·show((xI (xG t).2.1).drop _).length<=_;rw[List.length_drop];omega
 ·exact⟨xQ.nil,xQ.nil,by simp,by simp⟩
theorem zBk(l:List yE)(of:Int):∀(r:List Tm)(b:Int),∀x∈K1 l of r b,aW x
 |[],_,x,h=>nomatch h|a::r,b,x,h=>by
  rcases List.mem_cons.1 h with h|h;·rw[h];exact zTe l a of b
  ·exact zBk l of r (b+1) x h
def zBj(l:List yE)(i:Int)(a:List Tm)(x:Tm×Int):Prop:=x.1.Ok/\x.2≠8/\(x.2=0->(a.length:Int)=(zP l (zP l i).fam).fields.length/\0<=(zP l i).place/\(zP l i).place<a.length/\x.1=tB a (zP l i).place)
theorem zJD{N:ByteArray->Bool}(l:List yE)(parts:List vY)(i:Int)(a:List Tm)(hE:vN N l)(ho:xQ a)(hl:a.length<=1073741824):zD (λq=>zFT q l parts i a) (zBj l i a):=by
 simp only[zFT];have bad:∀e:Int,e≠8->e≠0->zBj l i a (.mk 0 0 [],e):=λe h8 h0=>⟨yX 0 0,h8,λh=>absurd h h0⟩;refine zD.bind (P:=λb=>b=fV l i 4) ((zBl l i 4).tot rfl) λb hb=>zD.ite (λhT=>?_) λ_=>zD.ret (bad _ (by decide) (by decide));rw[hT]at hb;have hi:=vB hb.symm;have hp:=(xT (hE.2 i hi.1 hi.2.1)).2.2.2.1 hi.2.2;unfold K0 at hp;simp only[Bool.and_eq_true]at hp;have hw:=sV hp.1;have h6:=hw.2.2.2.2.2;unfold W4 at h6;rw[if_pos hi.2.2]at h6;refine zD.pure (yP hi.1 hi.2.1) (zD.pure (yP hw.1 (by omega)) (zD.ite (λ_=>zD.ret (bad _ (by decide) (by decide))) λhn=>?_));have hn':(a.length:Int)=(zP l (zP l i).fam).fields.length:=by simpa using hn
 refine zD.bind (P:=λ_=>True) ((cR a hl ho).tot trivial) λ_ _=>zD.ite (λ_=>?_) λ_=>zD.ret (bad _ (by decide) (by decide));have h7:(zP l i).place<a.length:=by omega
 have hx:=uJ (l:=a) hw.2.2.2.2.1 h7;exact zD.pure hx (zD.ret ⟨ho _ (qE hw.2.2.2.2.1 h7),by simp,λ_=>⟨hn',hw.2.2.2.2.1,h7,rfl⟩⟩)
def X4(d lev:Int)(args own:List Tm)(pars:Nat):List tC->Nat->Tm->Tm|[],_,t=>t|r::rs,v,t=>X4 d lev args own pars rs (v+1) (if r.is=true then .mk 5 0 [t,zWy (.mk 7 d [.mk 2 lev []]) args (args.take pars++own.take v) r (tB own v)]else t)
def zWw(l:List yE)(d lev c:Int)(args own:List Tm):Tm:=X4 d lev args own (zP l d).pars.toNat (vU l c).recs 0 (mQ (tB args ((zP l d).pars+1+(zP l c).place)) own)
theorem zJE{N:ByteArray->Bool}(l:List yE)(parts:List vY)(i p2:Int)(p4 p5:List Tm)(x:vY)(hE:vN N l)(h0:0<=i)(h1:i<l.length)(hk:(zP l i).kind=1)(hp:(zP l i).pars<=p4.length)(hl4:p4.length<=65535)(h5:p5.length=x.recs.length)(hl5:p5.length<=65535)(ho4:xQ p4)(ho5:xQ p5)(hx:∀r∈x.recs,aW r):∀(r:List tC)(v:Nat)(e:Int)(t:Tm),x.recs.drop v=r->t.Ok->zD (λq=>jA q l parts i p2 p4 p5 x (v:Int) e t.k t.n t.sub) (λy=>y.1.Ok/\(e≠8->y.2≠8)/\(y.2=0->e=0/\y.1=X4 i p2 p4 p5 (zP l i).pars.toNat r v t/\zJ y.1=true)):=by have hf:=wO ((xT (hE.2 i h0 h1)).2.1 hk);intro r;induction r with
 |nil=>
  intro v e t hd ht;refine zD.succ ?_;simp only[jA,vT];refine zD.ite (λh=>?_) λ_=>(zDX e t ht).bind λr h=>zD.ret ⟨h.1,h.2.1,λh0=>?_⟩;·rw[yF hd]at h;cases h
  ·have k:=h.2.2 h0;exact⟨k.1,k.2.1,by show zJ r.1=true;rw[k.2.1];exact k.2.2⟩|cons z r ih=>
  intro v e t hd ht;have hlt:=yK hd;have hz:z∈x.recs:=by
   have:z∈x.recs.drop v:=by rw[hd];simp
   exact List.mem_of_mem_drop this
  refine zD.succ ?_;simp only[jA,vT];refine zD.ite (λ_=>?_) λh=>?_
  ·refine zD.pure (yA hd) (zD.ite (λhzi=>?_) λhzi=>?_)
   ·refine zD.pure (yP h0 h1) (zD.pure (eH (by omega) (by omega) hp) (zD.pure (zW (by simp<;>omega)) (zD.pure (eH (by omega) (by omega) (by omega)) (zD.pure (zW (by simp<;>omega)) ?_))));refine zD.bind (P:=λy=>y=Tm.mk 7 i [Tm.mk 2 p2 []]) (zC.tot (r:=Tm.mk 7 i [Tm.mk 2 p2 []]) (zC.mk λ_=>rfl) rfl) λr44 h44=>?_;subst h44;have hnv:(v:Int)<p5.length:=by omega
    refine zD.pure (uJ (l:=p5) (n:=(v:Int)) (by omega) hnv) ?_;refine(X3 e (.mk 7 i [.mk 2 p2 []]) p4 _ z (tB p5 v) (zTh (yX _ _)) ho4 (by omega) ?_ ?_ (hx z hz) (ho5 _ (qE (by omega) hnv))).bind λr48 h48=>?_;·exact(xQ.nil.app ((ho4.drop _).take _)).app ((ho5.drop _).take _)
    ·simp only[List.length_append,List.length_take,List.length_drop,List.length_nil];omega
    refine zD.bind (P:=λy=>y=Tm.mk 5 0 [t,r48.1]) ((rX t r48.1).tot rfl) λr50 h50=>?_;subst h50;rw[zV v (by omega)];refine(ih (v+1) r48.2 (.mk 5 0 [t,r48.1]) (zU hd) (sK ht h48.1)).mono λy hy=>⟨hy.1,λhe=>hy.2.1 (h48.2.1 he),λhe=>?_⟩;have k:=hy.2.2 he;have k4:=h48.2.2 k.1;refine⟨k4.1,?_,k.2.2⟩;rw[k.2.1,k4.2,X4,if_pos hzi];simp
   ·rw[zV v (by omega)];refine(ih (v+1) e t (zU hd) ht).mono λy hy=>⟨hy.1,hy.2.1,λhe=>?_⟩;have k:=hy.2.2 he;refine⟨k.1,?_,k.2.2⟩;rw[k.2.1,X4,if_neg (by simpa using hzi)]
  ·rw[yD hd]at h;cases h
def zFV(l:List yE)(d lev c:Int)(args own:List Tm)(x:Tm×Int):Prop:=x.1.Ok/\x.2≠8/\(x.2=0->(0<=lev/\lev<=7)/\fV l d 1=true/\fV l c 2=true/\(zP l c).fam=d/\(args.length:Int)=(zP l d).pars+1+(zP l d).cons.length/\own.length=(vU l c).args.length/\args.all zJ=true/\own.all zJ=true/\x.1=zWw l d lev c args own/\zJ x.1=true)
theorem zNv{N:ByteArray->Bool}(l:List yE)(i p2 c:Int)(p4 p5:List Tm)(hE:vN N l)(ho4:xQ p4)(ho5:xQ p5)(hl4:p4.length<=65535)(hl5:p5.length<=65535):zD (λq=>zFU q l (nN l l.length 0) i p2 c p4 p5) (zFV l i p2 c p4 p5):=by
 have bad:∀e:Int,e≠8->e≠0->zFV l i p2 c p4 p5 (.mk 0 0 [],e):=λe h8 h0=>⟨yX 0 0,h8,λh=>absurd h h0⟩;simp only[zFU];refine zD.bind (P:=λb=>b=fV l i 1) ((zBl l i 1).tot rfl) λb hb=>zD.ite (λhT=>?_) λ_=>zD.ret (bad _ (by decide) (by decide));rw[hT]at hb;have hi:=vB hb.symm;refine zD.ite (λ_=>zD.ret (bad _ (by decide) (by decide))) λhv0=>zD.ite (λ_=>zD.ret (bad _ (by decide) (by decide))) λhv1=>?_;have hv0':=of_decide_eq_false hv0;have hv1':=of_decide_eq_false hv1;refine zD.bind (P:=λb=>b=fV l c 2) ((zBl l c 2).tot rfl) λb2 hb2=>zD.ite (λhT=>?_) λ_=>zD.ret (bad _ (by decide) (by decide));rw[hT]at hb2;have hc:=vB hb2.symm;have hf:=wO ((xT (hE.2 i hi.1 hi.2.1)).2.1 hi.2.2);obtain⟨A,y,hw,hy,hA,hAp,hA24,p0,p1,f0,f1,fk,fp,fi,fs,hap,q0,q1⟩:=tS hE hc.1 hc.2.1 hc.2.2;refine zD.pure (yP hc.1 hc.2.1) (zD.ite (λ_=>zD.ret (bad _ (by decide) (by decide))) λhn=>?_);have hfam:(zP l c).fam=i:=by simpa using hn
 refine zD.pure (zQA l c hc.1 hc.2.1 hc.2.2) (zD.pure (yP hi.1 hi.2.1) ?_);rw[hfam]at fp q1 fi fs;rw[zS (x:=(zP l i).pars+1) (by omega) (by omega),zS (x:=(zP l i).pars+1+(zP l i).cons.length) (by omega) (by omega),zS (x:=(zP l i).pars+1+(zP l c).place) (by omega) (by omega)];refine zD.ite (λ_=>zD.ret (bad _ (by decide) (by decide))) λhn4=>zD.ite (λ_=>zD.ret (bad _ (by decide) (by decide))) λhn5=>?_;have hn4':(p4.length:Int)=(zP l i).pars+1+(zP l i).cons.length:=by simpa using hn4
 have hn5':(p5.length:Int)=(vU l c).args.length:=by simpa using hn5
 refine zD.bind (P:=λb=>b=p4.all zJ) ((cR p4 (by omega) ho4).tot rfl) λb4 hb4=>zD.ite (λhs4=>?_) λ_=>zD.ret (bad _ (by decide) (by decide));refine zD.bind (P:=λb=>b=p5.all zJ) ((cR p5 (by omega) ho5).tot rfl) λb5 hb5=>zD.ite (λhs5=>?_) λ_=>zD.ret (bad _ (by decide) (by decide));have h7:(zP l i).pars+1+(zP l c).place<p4.length:=by omega
 refine zD.pure (uJ (l:=p4) (by omega) h7) (zD.bind (P:=λz=>z=mQ (tB p4 ((zP l i).pars+1+(zP l c).place)) p5) ((wS _ p5 (by omega)).tot rfl) λr26 h26=>?_);subst h26;have hlen:(vU l c).recs.length=(vU l c).args.length:=by unfold vU;exact F1 l _ _ _
 refine(zJE l _ i p2 p4 p5 (vU l c) hE hi.1 hi.2.1 hi.2.2 (by omega) hl4 (by omega) hl5 ho4 ho5 (by unfold vU;exact zBk l _ _ _) _ 0 0 _ rfl (uH _ _ (ho4 _ (qE (by omega) h7)) ho5)).mono λx hx=>⟨hx.1,hx.2.1 (by decide),λh0=>?_⟩;have k:=hx.2.2 h0;exact⟨⟨by omega,by omega⟩,hb.symm,hb2.symm,hfam,hn4',by omega,by rw[<-hb4];exact hs4,by rw[<-hb5];exact hs5,k.2.1,k.2.2⟩
section
variable{P:Int->Int->Prop}
theorem zQB{Q:Tm->Prop}{l:List Tm}{n:Int}(h:∀a∈l,Q a)(hz:Q zT):Q (tB l n):=by unfold tB;cases e:l[n.toNat]? with|none=>exact hz|some x=>exact h x (List.mem_of_getElem? e)
end
def X5(d:Nat)(a c b:Int):Option (Int×Int):=some ((yI (a+b)),(yI (a+b)))
theorem zNu{d a c b}:Cz (X5 d a c b) 322 [.cells [ai a,ai c]] [.mp 0 0,ai b] (λr=>ai r.1) (λr=>[.cells [ai r.2,ai c]]) 0:=fw func322<|fE 1
def X6(d:Nat)(c a b:Int):Option (Int×Int):=some ((yI (a+b)),(yI (a+b)))
theorem zNt{d c a b}:Cz (X6 d c a b) 322 [.cells [ai c,ai a]] [.mp 0 1,ai b] (λr=>ai r.1) (λr=>[.cells [ai c,ai r.2]]) 0:=fw func322<|fE 1
def zBi(c:Nat)(a b:Int):Option (Int):=some a
theorem zQC{c a b}:Cz (zBi c a b) 72 [.cells [ai a,ai b]] [.mp 0 0] (λr=>ai r) (λ_=>[.cells [ai a,ai b]]) 0:=fw func72<|fE 1
def zTd(d:Nat)(b a c:Int):Option (Int×Int×Int):=if decide (c<0)then some (8,b,a)else zBi d b a>>=λr2=>if decide (c>r2)then some (8,b,a)else X5 d b a (yI (0-c))>>=λr5=>X6 d r5.2 a c>>=λr7=>some (0,r5.2,r7.2)
theorem zYf{d b a c}:Cz (zTd d b a c) 305 [.cells [ai b,ai a]] [.mp 0 0,ai c] (λr=>ai r.1) (λr=>[.cells [ai r.2.1,ai r.2.2]]) 0:=fw func305<|rB 1 (fE 0)<|rC 0 [0] zQC λ_=>rB 0 (fE 0)<|rC 1 [0] zNu λ_=>rC 0 [0] zNt λ_=>fE 0
def aX(c:Nat)(a b:Int):Option (Int×Int×Int):=zTd c a b 1>>=λr1=>some (r1.1,r1.2.1,r1.2.2)
theorem zDY{c a b}:Cz (aX c a b) 268 [.cells [ai a,ai b]] [.mp 0 0] (λr=>ai r.1) (λr=>[.cells [ai r.2.1,ai r.2.2]]) 0:=fw func268<|rC 0 [0] zYf λ_=>fE 0
def zDZ(b:Nat)(M:xU)(a:Tm):Option (Int):=if a.k !=6 then some 0 else if decide (a.n>=(M.l.length:Int))then some 0 else zM M.l a.n>>=λx3=>some x3.kind
theorem zNs{b M a}:Cz (zDZ b M a) 308 [mB M 1,mR M] [.mp 0 0,yJ a] (λr=>ai r) (λ_=>[mB M 1,mR M]) 0:=fw func308<|rB 1 (fE 0)<|rB 3 (fE 0)<|rA 2 (xP (o:=.no)) λ_=>fE 1
def zJF(a:Nat)(M:xU)(b:Tm):Option (Int×zZ×Bool):=aC a b>>=λr1=>zDZ a M r1.1>>=λr3=>if r3 !=2 then some (0,[],false)else zM M.own r1.1.n>>=λx6=>if(r1.2.length:Int)!=x6 then some (0,[],false)else some (r1.1.n,r1.2,true)
theorem zTc{a M b}:Cz (zJF a M b) 295 [mB M 1,mR M] [.mp 0 0,yJ b] (λr=>.tup [ai r.1,.sl (zI zA r.2.1) r.2.1.length .no,ab r.2.2]) (λ_=>[mB M 1,mR M]) 0:=fw func295<|rC 1 [] zFr λ_=>rC 4 [0,1] zNs λ_=>rB 0 (fE 0)<|rA 3 (pZ (o:=.no)) λ_=>rB 1 (fE 0)<|fE 1
def M1(b:Nat)(a:Tm):Option (Tm×Int):=rV b a>>=λr1=>if r1 then some (a,0)else some ((Tm.mk 0 0 []),2)
theorem zFW{b a}:Cz (M1 b a) 311 [] [yJ a] (λr=>.tup [yJ r.1,ai r.2]) (λ_=>[]) 0:=fw func311<|rK 1 [] qU (λ_=>fE 3) λ_=>fE 2
def zWv{ρ:Type}(f:Int->Int->Nat->Option ρ)(er:ρ->Int)(R:Int->Int->ρ)(k:Int):Prop:=(∀L U,k<=L->0<=U->L+U<=1099511627776->zC (f L U) (R (L-k) (U+k)))/\(∀L U,0<=L->L<k->0<=U->L+U<=1099511627776->∃r,zC (f L U) r/\er r=8)
def zTb{ρ:Type}(f:Int->Int->Nat->Option ρ)(er:ρ->Int)(l:Int):Prop:=∀U,0<=U->l+U<=1099511627776->∃r,zC (f l U) r/\er r=8
def Ou{ρ:Type}(f:Int->Int->Nat->Option ρ)(er:ρ->Int)(Q:(Int->Int->ρ)->Int->Prop)(S:Prop)(l:Int):Prop:=(∃R k,0<=k/\k<=l/\Q R k/\zWv f er R k)\/(zTb f er l/\S)
section
variable{ρ σ τ:Type}{er:ρ->Int}{er':σ->Int}{Q:(Int->Int->ρ)->Int->Prop}{Q':(Int->Int->σ)->Int->Prop}{S S':Prop}{l:Int}
theorem Ou.imp{f g:Int->Int->Nat->Option ρ}(h:Ou f er Q S l)(k:∀L U r,zC (f L U) r->zC (g L U) r):Ou g er Q S l:=by
 rcases h with⟨R,n,h0,h1,h2,h3,h4⟩|⟨h,s⟩;·exact .inl ⟨R,n,h0,h1,h2,λL U a b c=>k _ _ _ (h3 L U a b c),λL U a b c d=>by obtain⟨r,x,y⟩:=h4 L U a b c d;exact⟨r,k _ _ _ x,y⟩⟩
 ·exact .inr ⟨λU a b=>by obtain⟨r,x,y⟩:=h U a b;exact⟨r,k _ _ _ x,y⟩,s⟩
theorem Ou.mono{f:Int->Int->Nat->Option ρ}{Q2:(Int->Int->ρ)->Int->Prop}(h:Ou f er Q S l)(k:∀R n,0<=n->n<=l->Q R n->Q2 R n)(hs:S->S'):Ou f er Q2 S' l:=by
 rcases h with⟨R,n,h0,h1,h2,h3⟩|⟨h,s⟩;·exact .inl ⟨R,n,h0,h1,k R n h0 h1 h2,h3⟩
 ·exact .inr ⟨h,hs s⟩
theorem Ou.succ{f:Int->Int->Nat->Option ρ}(h:Ou (λL U q=>f L U (q+1)) er Q S l):Ou f er Q S l:=h.imp λ_ _ _ h=>h.succ
theorem Ou.pure{x:Option τ}{a:τ}{c:Int->Int->Nat->τ->Option ρ}(h:x=some a)(g:Ou (λL U q=>c L U q a) er Q S l):Ou (λL U q=>x>>=c L U q) er Q S l:=g.imp λ_ _ _ k=>zC.pure h k
theorem Ou.evt{x:Nat->Option τ}{a:τ}{c:Int->Int->Nat->τ->Option ρ}(h:zC x a)(g:Ou (λL U q=>c L U q a) er Q S l):Ou (λL U q=>x q>>=c L U q) er Q S l:=g.imp λ_ _ _ k=>zC.bind h k
theorem Ou.tot{x:Nat->Option τ}{P:τ->Prop}{c:Int->Int->Nat->τ->Option ρ}(h:zD x P)(g:∀a,P a->Ou (λL U q=>c L U q a) er Q S l):Ou (λL U q=>x q>>=c L U q) er Q S l:=by obtain⟨a,h,p⟩:=h;exact(g a p).evt h
theorem Ou.ite{b:Bool}{f g:Int->Int->Nat->Option ρ}(h:b=true->Ou f er Q S l)(k:b=false->Ou g er Q S l):Ou (λL U q=>if b=true then f L U q else g L U q) er Q S l:=by cases b with|true=>exact(h rfl).imp λ_ _ _ x=>zC.ifT rfl x|false=>exact(k rfl).imp λ_ _ _ x=>zC.ifF rfl x
theorem Ou.ifT{b:Bool}{f g:Int->Int->Nat->Option ρ}(h:b=true)(k:Ou f er Q S l):Ou (λL U q=>if b=true then f L U q else g L U q) er Q S l:=Ou.ite (λ_=>k) λh'=>by rw[h]at h';cases h'
theorem Ou.ifF{b:Bool}{f g:Int->Int->Nat->Option ρ}(h:b=false)(k:Ou g er Q S l):Ou (λL U q=>if b=true then f L U q else g L U q) er Q S l:=Ou.ite (λh'=>by rw[h]at h';cases h') λ_=>k
theorem Ou.ret{R:Int->Int->ρ}(h:0<=l)(k:Q R 0):Ou (λL U _=>some (R L U)) er Q S l:=.inl ⟨R,0,by omega,h,k,λL U _ _ _=>by rw[show L-0=L by omega,show U+0=U by omega];exact zC.ret,λL U _ _=>by omega⟩
theorem Ou.bind{f:Int->Int->Nat->Option ρ}{c:Nat->ρ->Option σ}(h:Ou f er Q S l)(hs:S->S')(he:∀r,er r=8->∃r',zC (λq=>c q r) r'/\er' r'=8)(hg:∀R k,0<=k->k<=l->Q R k->Ou (λL U q=>c q (R L U)) er' (λR' n=>Q' R' (k+n)) S' (l-k)):Ou (λL U q=>f L U q>>=c q) er' Q' S' l:=by
 rcases h with⟨R,k,h0,h1,h2,h3,h4⟩|⟨h,s⟩
 ·rcases hg R k h0 h1 h2 with⟨R',n,g0,g1,g2,g3,g4⟩|⟨g,s⟩
  ·refine .inl ⟨R',k+n,by omega,by omega,g2,λL U a b c=>?_,λL U a b c d=>?_⟩
   ·have:=g3 (L-k) (U+k) (by omega) (by omega) (by omega);rw[show L-(k+n)=L-k-n by omega,show U+(k+n)=U+k+n by omega];exact(h3 L U (by omega) b c).bind this
   ·by_cases e:L<k
    ·obtain⟨r,x,y⟩:=h4 L U a e c d;obtain⟨r',x',y'⟩:=he r y;exact⟨r',x.bind x',y'⟩
    ·obtain⟨r',x',y'⟩:=g4 (L-k) (U+k) (by omega) (by omega) (by omega) (by omega);exact⟨r',(h3 L U (by omega) c d).bind x',y'⟩
  ·refine .inr ⟨λU a b=>?_,s⟩;obtain⟨r',x',y'⟩:=g (U+k) (by omega) (by omega);exact⟨r',(h3 l U h1 a b).bind x',y'⟩
 ·refine .inr ⟨λU a b=>?_,hs s⟩;obtain⟨r,x,y⟩:=h U a b;obtain⟨r',x',y'⟩:=he r y;exact⟨r',x.bind x',y'⟩
end
theorem X7(L U:Int)(h0:0<=L)(h1:0<=U)(h2:L+U<=1099511627776):zC (λq=>aX q L U) (if 1<=L then(0,L-1,U+1)else(8,L,U)):=by
 simp only[aX,zTd,zBi,X5,X6];refine zC.bind (a:=if 1<=L then(0,L-1,U+1)else(8,L,U)) ?_ zC.ret;refine zC.ifF (by decide) (zC.pure rfl ?_);by_cases h:1<=L
 ·rw[if_pos h];refine zC.ifF (decide_eq_false (by omega)) (zC.pure rfl (zC.pure rfl (zC.ret.eq ?_)));have e:yI (0-1)=-1:=by decide
  rw[e,zS (x:=U+1) (by omega) (by omega)];show((0:Int),yI (L+-1),U+1)=_;rw[zS (by omega) (by omega)];rfl
 ·rw[if_neg h];exact zC.ifT (decide_eq_true (by omega)) zC.ret
theorem zHE(l:Int)(h:0<=l):Ou (λL U q=>aX q L U) (λr=>r.1) (λR k=>k=1/\R=λL U=>(0,L,U)) (l<1) l:=by
 by_cases h1:1<=l;·refine .inl ⟨λL U=>(0,L,U),1,by omega,h1,⟨rfl,rfl⟩,λL U a b c=>(X7 L U (by omega) b c).eq (if_pos a),λL U a b c d=>⟨_,X7 L U a c d,?_⟩⟩;rw[if_neg (by omega)]
 ·refine .inr ⟨λU a b=>⟨_,X7 l U h a b,?_⟩,by omega⟩;rw[if_neg h1]
def qM(l:List yE)(t:Tm):Int:=if t.k=6 then(if t.n<l.length then(zP l t.n).kind else 0)else 0
theorem iV(l:List yE)(t:Tm)(h:0<=t.n):zC (λq=>zDZ q (wA l) t) (qM l t):=by
 simp only[zDZ,wA];unfold qM;by_cases k:t.k=6
 ·rw[if_pos k];refine zC.ifF (by simp[k]) ?_;by_cases n:t.n<l.length;·rw[if_pos n];exact zC.ifF (decide_eq_false (by omega)) (zC.pure (yP h n) zC.ret)
  ·rw[if_neg n];exact zC.ifT (decide_eq_true (by omega)) zC.ret
 ·rw[if_neg k];exact zC.ifT (by simp[k]) zC.ret
theorem tM{l:List yE}{t:Tm}{k:Int}(h:qM l t=k)(hk:k≠0):t.k=6/\t.n<l.length/\(zP l t.n).kind=k:=by
 unfold qM at h;split at h
 ·rename_i a;split at h;·rename_i b;exact⟨a,b,h⟩
  ·exact absurd h.symm hk
 ·exact absurd h.symm hk
def zFX(t:Tm):Tm×Int:=if zJ t=true then(t,0)else(zT,2)
theorem zFY(t:Tm)(ho:t.Ok):zC (λq=>M1 q t) (zFX t):=by
 simp only[M1];refine(xM t ho).bind ?_;unfold zFX;by_cases h:zJ t=true;·rw[if_pos h,if_pos h];exact zC.ret
 ·rw[if_neg h,if_neg h];exact zC.ret
theorem cS{t:Tm}(h:xW t=true):0<=t.n:=by obtain⟨k,n,l⟩:=t;exact(kT (wX h).1).1
theorem zQD{l:List yE}{i:Int}(h0:0<=i)(h1:i<l.length):zM (wA l).own i=some (tD (zP l i)):=by have h:=yP (l:=l) h0 h1;unfold zM at h⊢;rw[if_pos h0]at h⊢;show(l.map tD)[i.toNat]?=_;rw[List.getElem?_map,h];rfl
theorem zNr{l:List yE}{i:Int}(h0:0<=i)(h1:i<l.length):zM (wA l).args i=some (xZ (zP l i)):=by have h:=yP (l:=l) h0 h1;unfold zM at h⊢;rw[if_pos h0]at h⊢;show(l.map xZ)[i.toNat]?=_;rw[List.getElem?_map,h];rfl
def iW(l:List yE)(t:Tm):Prop:=qM l (yN t)=2/\(xI t).length=uL (zP l (yN t).n).type
instance(l:List yE)(t:Tm):Decidable (iW l t):=inferInstanceAs(Decidable (_/\_))
def zBh(l:List yE)(t:Tm):Int×List Tm×Bool:=if iW l t then((yN t).n,xI t,true)else(0,[],false)
theorem zBg(l:List yE)(t:Tm)(hs:zJ t=true):zC (λq=>zJF q (wA l) t) (zBh l t):=by
 simp only[zJF];have hn:=cS (zN (sS hs)).2.2;refine(lK t hs).bind ((iV l _ hn).bind ?_);by_cases h:qM l (yN t)=2
 ·have hk:=tM h (by decide);refine zC.ifF (by simp[h]) (zC.pure (zQD hn hk.2.1) ?_);have e:tD (zP l (yN t).n)=uL (zP l (yN t).n).type:=by unfold tD;rw[if_pos hk.2.2]
  by_cases h2:(xI t).length=uL (zP l (yN t).n).type
  ·have c:zBh l t=((yN t).n,xI t,true):=if_pos ⟨h,h2⟩;rw[c];exact zC.ifF (by rw[e];simp[h2]) zC.ret
  ·have c:zBh l t=(0,[],false):=if_neg (λh'=>h2 h'.2);rw[c];exact zC.ifT (by rw[e];simp;omega) zC.ret
 ·have c:zBh l t=(0,[],false):=if_neg (λh'=>h h'.1);rw[c];exact zC.ifT (by simp[h]) zC.ret
theorem sL{l:List yE}{t:Tm}(hs:zJ t=true)(h:iW l t):0<=(yN t).n/\(yN t).n<l.length/\(zP l (yN t).n).kind=2/\(xI t).length=uL (zP l (yN t).n).type:=by have hk:=tM h.1 (by decide);exact⟨cS (zN (sS hs)).2.2,hk.2.1,hk.2.2,h.2⟩
mutual def zEz:Nat->xU->Tm->Int->Int->Option (Tm×Int×Int×Int)|0,_,_,_,_=>none|b+1,M,a,c,d=>aY b M c d a.k a.n a.sub def aY:Nat->xU->Int->Int->Int->Int->zZ->Option (Tm×Int×Int×Int)
 |0,_,_,_,_,_,_=>none|b+1,M,m,p,e,f,g=>zQE b M (Tm.mk e f g) m p>>=λr1=>if r1.2.1 then if r1.2.2.1 !=0 then some ((Tm.mk 0 0 []),r1.2.2.1,r1.2.2.2.1,r1.2.2.2.2)else aY b M r1.2.2.2.1 r1.2.2.2.2 r1.1.k r1.1.n r1.1.sub else if r1.2.2.1 !=0 then some ((Tm.mk 0 0 []),r1.2.2.1,r1.2.2.2.1,r1.2.2.2.2)else some ((Tm.mk e f g),0,r1.2.2.2.1,r1.2.2.2.2)def zQE:Nat->xU->Tm->Int->Int->Option (Tm×Bool×Int×Int×Int)
 |0,_,_,_,_=>none|b+1,M,a,c,d=>aC b a>>=λr1=>if r1.1.k==4 then if decide ((r1.2.length:Int)>0)then zM r1.1.sub 1>>=λx5=>zM r1.2 0>>=λx7=>zLT b x5 x7>>=λr9=>tX r1.2 1 (r1.2.length:Int)>>=λx11=>oI b r9.1 x11>>=λr13=>if r9.2 !=0 then some (a,false,r9.2,c,d)else aX b c d>>=λr16=>if r16.1 !=0 then some (a,false,r16.1,r16.2.1,r16.2.2)else M1 b r13>>=λr19=>some (r19.1,true,r19.2,r16.2.1,r16.2.2)else zDZ b M r1.1>>=λr21=>if r21==3 then zM M.l r1.1.n>>=λx24=>oI b x24.body r1.2>>=λr26=>aX b c d>>=λr28=>if r28.1 !=0 then some (a,false,r28.1,r28.2.1,r28.2.2)else M1 b r26>>=λr31=>some (r31.1,true,r31.2,r28.2.1,r28.2.2)else zDZ b M r1.1>>=λr33=>if r33==4 then zNq b M r1.1 r1.2 c d>>=λr36=>if r36.2.1 then if r36.2.2.1 !=0 then some (a,false,r36.2.2.1,r36.2.2.2.1,r36.2.2.2.2)else aX b r36.2.2.2.1 r36.2.2.2.2>>=λr40=>if r40.1 !=0 then some (a,false,r40.1,r40.2.1,r40.2.2)else M1 b r36.1>>=λr43=>some (r43.1,true,r43.2,r40.2.1,r40.2.2)else if r36.2.2.1 !=0 then some (a,false,r36.2.2.1,r36.2.2.2.1,r36.2.2.2.2)else some (a,false,r36.2.2.1,r36.2.2.2.1,r36.2.2.2.2)else if r1.1.k==7 then zNp b M r1.1 r1.2 c d>>=λr47=>if r47.2.1 then if r47.2.2.1 !=0 then some (a,false,r47.2.2.1,r47.2.2.2.1,r47.2.2.2.2)else aX b r47.2.2.2.1 r47.2.2.2.2>>=λr51=>if r51.1 !=0 then some (a,false,r51.1,r51.2.1,r51.2.2)else M1 b r47.1>>=λr54=>some (r54.1,true,r54.2,r51.2.1,r51.2.2)else if r47.2.2.1 !=0 then some (a,false,r47.2.2.1,r47.2.2.2.1,r47.2.2.2.2)else some (a,false,r47.2.2.1,r47.2.2.2.1,r47.2.2.2.2)else some (a,false,0,c,d)else zDZ b M r1.1>>=λr57=>if r57==3 then zM M.l r1.1.n>>=λx60=>oI b x60.body r1.2>>=λr62=>aX b c d>>=λr64=>if r64.1 !=0 then some (a,false,r64.1,r64.2.1,r64.2.2)else M1 b r62>>=λr67=>some (r67.1,true,r67.2,r64.2.1,r64.2.2)else zDZ b M r1.1>>=λr69=>if r69==4 then zNq b M r1.1 r1.2 c d>>=λr72=>if r72.2.1 then if r72.2.2.1 !=0 then some (a,false,r72.2.2.1,r72.2.2.2.1,r72.2.2.2.2)else aX b r72.2.2.2.1 r72.2.2.2.2>>=λr76=>if r76.1 !=0 then some (a,false,r76.1,r76.2.1,r76.2.2)else M1 b r72.1>>=λr79=>some (r79.1,true,r79.2,r76.2.1,r76.2.2)else if r72.2.2.1 !=0 then some (a,false,r72.2.2.1,r72.2.2.2.1,r72.2.2.2.2)else some (a,false,r72.2.2.1,r72.2.2.2.1,r72.2.2.2.2)else if r1.1.k==7 then zNp b M r1.1 r1.2 c d>>=λr83=>if r83.2.1 then if r83.2.2.1 !=0 then some (a,false,r83.2.2.1,r83.2.2.2.1,r83.2.2.2.2)else aX b r83.2.2.2.1 r83.2.2.2.2>>=λr87=>if r87.1 !=0 then some (a,false,r87.1,r87.2.1,r87.2.2)else M1 b r83.1>>=λr90=>some (r90.1,true,r90.2,r87.2.1,r87.2.2)else if r83.2.2.1 !=0 then some (a,false,r83.2.2.1,r83.2.2.2.1,r83.2.2.2.2)else some (a,false,r83.2.2.1,r83.2.2.2.1,r83.2.2.2.2)else some (a,false,0,c,d)def zNq:Nat->xU->Tm->zZ->Int->Int->Option (Tm×Bool×Int×Int×Int)
 |0,_,_,_,_,_=>none|b+1,M,a,q,c,d=>zM M.l a.n>>=λx1=>if decide ((q.length:Int)<=x1.pars)then some ((Tm.mk 0 0 []),false,0,c,d)else zM q x1.pars>>=λx4=>zEz b M x4 c d>>=λr6=>if r6.2.1 !=0 then some ((Tm.mk 0 0 []),false,r6.2.1,r6.2.2.1,r6.2.2.2)else zJF b M r6.1>>=λr9=>if r9.2.2 then zM M.l r9.1>>=λx12=>if x12.fam !=x1.fam then some ((Tm.mk 0 0 []),false,0,r6.2.2.1,r6.2.2.2)else tX r9.2.1 x12.pars (r9.2.1.length:Int)>>=λx15=>zFT b M.rl M.parts a.n x15>>=λr17=>tX q (yI (x1.pars+1)) (q.length:Int)>>=λx19=>oI b r17.1 x19>>=λr21=>some (r21,true,r17.2,r6.2.2.1,r6.2.2.2)else some ((Tm.mk 0 0 []),false,0,r6.2.2.1,r6.2.2.2)def zNp:Nat->xU->Tm->zZ->Int->Int->Option (Tm×Bool×Int×Int×Int)
 |0,_,_,_,_,_=>none|b+1,M,a,q,c,d=>if decide (a.n>=(M.l.length:Int))then some ((Tm.mk 0 0 []),false,0,c,d)else zM M.l a.n>>=λx2=>if x2.kind !=1 then some ((Tm.mk 0 0 []),false,0,c,d)else zM M.args a.n>>=λx5=>if decide ((q.length:Int)<x5)then some ((Tm.mk 0 0 []),false,0,c,d)else zM q (yI (x5-1))>>=λx8=>zEz b M x8 c d>>=λr10=>if r10.2.1 !=0 then some ((Tm.mk 0 0 []),false,r10.2.1,r10.2.2.1,r10.2.2.2)else zJF b M r10.1>>=λr13=>if r13.2.2 then zM M.l r13.1>>=λx16=>if x16.fam !=a.n then some ((Tm.mk 0 0 []),false,0,r10.2.2.1,r10.2.2.2)else zM a.sub 0>>=λx19=>tX q 0 (yI ((yI (x2.pars+1))+(x2.cons.length:Int)))>>=λx21=>tX r13.2.1 x2.pars (r13.2.1.length:Int)>>=λx23=>zFU b M.rl M.parts a.n x19.n r13.1 x21 x23>>=λr25=>tX q x5 (q.length:Int)>>=λx27=>oI b r25.1 x27>>=λr29=>some (r29,true,r25.2,r10.2.2.1,r10.2.2.2)else some ((Tm.mk 0 0 []),false,0,r10.2.2.1,r10.2.2.2)end
theorem lV:∀b:Nat,(∀M a c d,Cz (zEz b M a c d) 219 [mB M 1,mR M,.cells [ai c,ai d]] [.mp 0 0,yJ a,.mp 2 0] (λr=>.tup [yJ r.1,ai r.2.1]) (λr=>[mB M 1,mR M,.cells [ai r.2.2.1,ai r.2.2.2]]) 0)/\(∀M m p e f g,Lz (aY b M m p e f g) 3 f219 (pt 885 f219) (λj=>sp j 28 0 [(0,.mp 0 0),(2,.mp 2 0),(4,.mp 3 0),(6,.mp 4 0)]) ⟨[(0,mB M 1),(1,mR M),(2,.cells [ai m,ai p]),(3,.cells [ai e,ai f,zB zA g .no]),(4,.cells [ai 0,ai 0,zB zA ([]:zZ) .nl])],5,[],0,[]⟩ (λr=>.tup [yJ r.1,ai r.2.1]) (λr=>[mB M 1,mR M,.cells [ai r.2.2.1,ai r.2.2.2]]) 0 [.blk 0])/\(∀M a c d,Cz (zQE b M a c d) 271 [mB M 1,mR M,.cells [ai c,ai d]] [.mp 0 0,yJ a,.mp 2 0] (λr=>.tup [yJ r.1,ab r.2.1,ai r.2.2.1]) (λr=>[mB M 1,mR M,.cells [ai r.2.2.2.1,ai r.2.2.2.2]]) 0)/\(∀M a q c d,Cz (zNq b M a q c d) 309 [mB M 1,mR M,.cells [ai c,ai d]] [.mp 0 0,yJ a,zB zA q .no,.mp 2 0] (λr=>.tup [yJ r.1,ab r.2.1,ai r.2.2.1]) (λr=>[mB M 1,mR M,.cells [ai r.2.2.2.1,ai r.2.2.2.2]]) 0)/\(∀M a q c d,Cz (zNp b M a q c d) 310 [mB M 1,mR M,.cells [ai c,ai d]] [.mp 0 0,yJ a,zB zA q .no,.mp 2 0] (λr=>.tup [yJ r.1,ab r.2.1,ai r.2.2.1]) (λr=>[mB M 1,mR M,.cells [ai r.2.2.2.1,ai r.2.2.2.2]]) 0):=xC ⟨λ_ _ _ _=>cN,λ_ _ _ _ _ _=>lN,λ_ _ _ _=>cN,λ_ _ _ _ _=>cN,λ_ _ _ _ _=>cN⟩ λb ih=>⟨λM a c d=>fw func219<|fH 0 [] [0,1,2,3,4] [] [0,2,4,6] (ih.2.1 _ _ _ _ _ _),λM m p e f g=>lw λ_=>rC 1 [0,1,2] (ih.2.2.1 _ _ _ _) λ_=>rB 1 (rB 2 (lE 1)<|lH 2 [] [0,1,2,3,4] [] [0,2,4,6] (ih.2.1 _ _ _ _ _ _))<|rB 2 (lE 1)<|lE 2,λM a c d=>fw func271<|rC 1 [] zFr λ_=>rB 5 (rB 1 (rA 1 (yY (o:=.no)) λ_=>rA 1 (yY (o:=.no)) λ_=>rC 1 [] zVi λ_=>rA 4 rT λ_=>rC 0 [] pJ λ_=>rB 1 (fE 2)<|rC 1 [2] zDY λ_=>rB 0 (fE 2)<|rC 1 [] zFW λ_=>fE 5)<|rC 1 [0,1] zNs λ_=>rB 0 (rA 2 (xP (o:=.no)) λ_=>rC 1 [] pJ λ_=>rC 3 [2] zDY λ_=>rB 0 (fE 2)<|rC 1 [] zFW λ_=>fE 5)<|rC 1 [0,1] zNs λ_=>rB 0 (rC 1 [0,1,2] (ih.2.2.2.1 _ _ _ _ _) λ_=>rB 1 (rB 2 (fE 2)<|rC 1 [2] zDY λ_=>rB 0 (fE 2)<|rC 1 [] zFW λ_=>fE 5)<|rB 2 (fE 2)<|fE 3)<|rB 1 (rC 1 [0,1,2] (ih.2.2.2.2 _ _ _ _ _) λ_=>rB 1 (rB 2 (fE 2)<|rC 1 [2] zDY λ_=>rB 0 (fE 2)<|rC 1 [] zFW λ_=>fE 5)<|rB 2 (fE 2)<|fE 3)<|fE 4)<|rC 1 [0,1] zNs λ_=>rB 0 (rA 2 (xP (o:=.no)) λ_=>rC 1 [] pJ λ_=>rC 3 [2] zDY λ_=>rB 0 (fE 2)<|rC 1 [] zFW λ_=>fE 5)<|rC 1 [0,1] zNs λ_=>rB 0 (rC 1 [0,1,2] (ih.2.2.2.1 _ _ _ _ _) λ_=>rB 1 (rB 2 (fE 2)<|rC 1 [2] zDY λ_=>rB 0 (fE 2)<|rC 1 [] zFW λ_=>fE 5)<|rB 2 (fE 2)<|fE 3)<|rB 1 (rC 1 [0,1,2] (ih.2.2.2.2 _ _ _ _ _) λ_=>rB 1 (rB 2 (fE 2)<|rC 1 [2] zDY λ_=>rB 0 (fE 2)<|rC 1 [] zFW λ_=>fE 5)<|rB 2 (fE 2)<|fE 3)<|fE 4,λM a q c d=>fw func309<|rH λ_ h2=>rS (oA 2 (xP (o:=.no) h2))<|rB 2 (fE 1)<|rA 0 (yY (o:=.no)) λ_=>rC 1 [0,1,2] (ih.1 _ _ _ _) λ_=>rB 3 (fE 1)<|rC 1 [0,1] zTc λ_=>rB 2 (rH λ_ h13=>rS (oA 2 (xP (o:=.no) h13))<|rS (oA 3 (xP (o:=.no) h2))<|rB 1 (fE 1)<|rS (oA 3 (xP (o:=.no) h13))<|rA 1 rT λ_=>rC 0 [1] zYh λ_=>rA 5 rT λ_=>rC 0 [] pJ λ_=>fE 1)<|fE 2,λM a q c d=>fw func310<|rB 3 (fE 1)<|rH λ_ h3=>rS (oA 2 (xP (o:=.no) h3))<|rB 1 (fE 1)<|rH λ_ h6=>rS (oA 3 (pZ (o:=.no) h6))<|rB 1 (fE 1)<|rS (oA 2 (pZ (o:=.no) h6))<|rA 2 (yY (o:=.no)) λ_=>rC 1 [0,1,2] (ih.1 _ _ _ _) λ_=>rB 3 (fE 1)<|rC 1 [0,1] zTc λ_=>rB 2 (rA 2 (xP (o:=.no)) λ_=>rB 2 (fE 1)<|rS (oA 2 (xP (o:=.no) h3))<|rA 5 (yY (o:=.no)) λ_=>rA 6 rU λ_=>rA 1 rT λ_=>rC 0 [1] zYg λ_=>rA 4 rT λ_=>rC 0 [] pJ λ_=>fE 1)<|fE 2⟩
theorem zYe{b M a c d}:Cz (zEz b M a c d) 219 [mB M 1,mR M,.cells [ai c,ai d]] [.mp 0 0,yJ a,.mp 2 0] (λr=>.tup [yJ r.1,ai r.2.1]) (λr=>[mB M 1,mR M,.cells [ai r.2.2.1,ai r.2.2.2]]) 0:=(lV _).1 _ _ _ _
abbrev er4(r:Tm×Int×Int×Int):Int:=r.2.1
abbrev er5(r:Tm×Bool×Int×Int×Int):Int:=r.2.2.1
theorem N8(l:List yE):(wA l).l=l:=rfl
theorem X8(l:List yE):(wA l).rl=l:=rfl
theorem iX(l:List yE):(wA l).parts=nN l l.length 0:=rfl
noncomputable def iY(l:List yE)(i:Int)(a:List Tm):Tm×Int:=open Classical in if h:∃r,zC (λq=>zFT q l (nN l l.length 0) i a) r then h.choose else(zT,5)
theorem K4{N:ByteArray->Bool}(l:List yE)(i:Int)(a:List Tm)(hE:vN N l)(ho:xQ a)(hl:a.length<=1073741824):zC (λq=>zFT q l (nN l l.length 0) i a) (iY l i a)/\zBj l i a (iY l i a):=by
 obtain⟨r,hr,hk⟩:=zJD l (nN l l.length 0) i a hE ho hl;have hx:∃r,zC (λq=>zFT q l (nN l l.length 0) i a) r:=⟨r,hr⟩;have e:iY l i a=r:=by unfold iY;rw[dif_pos hx];exact hx.choose_spec.det hr
 rw[e];exact⟨hr,hk⟩
noncomputable def K5(l:List yE)(d lev c:Int)(args own:List Tm):Tm×Int:=open Classical in if h:∃r,zC (λq=>zFU q l (nN l l.length 0) d lev c args own) r then h.choose else(zT,5)
theorem X9{N:ByteArray->Bool}(l:List yE)(d lev c:Int)(args own:List Tm)(hE:vN N l)(ho4:xQ args)(ho5:xQ own)(hl4:args.length<=65535)(hl5:own.length<=65535):zC (λq=>zFU q l (nN l l.length 0) d lev c args own) (K5 l d lev c args own)/\zFV l d lev c args own (K5 l d lev c args own):=by
 obtain⟨r,hr,hk⟩:=zNv l d lev c args own hE ho4 ho5 hl4 hl5;have hx:∃r,zC (λq=>zFU q l (nN l l.length 0) d lev c args own) r:=⟨r,hr⟩;have e:K5 l d lev c args own=r:=by unfold K5;rw[dif_pos hx];exact hx.choose_spec.det hr
 rw[e];exact⟨hr,hk⟩
inductive Act where|none|red(Y:Tm)(e:Int)|tgt(a:Tm)
noncomputable def uD(l:List yE)(x:Tm):Act:=if(yN x).k=4/\0<(xI x).length then .red (mQ (iR (tB (yN x).sub 1) [tB (xI x) 0]).1 ((xI x).drop 1)) (iR (tB (yN x).sub 1) [tB (xI x) 0]).2 else if qM l (yN x)=3 then .red (mQ (zP l (yN x).n).body (xI x)) 0 else if qM l (yN x)=4 then(if((xI x).length:Int)<=(zP l (yN x).n).pars then .none else .tgt (tB (xI x) (zP l (yN x).n).pars))else if(yN x).k=7 then(if fV l (yN x).n 1=true/\xZ (zP l (yN x).n)<=(xI x).length then .tgt (tB (xI x) (xZ (zP l (yN x).n)-1))else .none)else .none
noncomputable def tN(l:List yE)(x y:Tm):Option (Tm×Int):=if qM l (yN x)=4 then(if iW l y/\(zP l (yN y).n).fam=(zP l (yN x).n).fam then some (mQ (iY l (yN x).n ((xI y).drop (zP l (yN y).n).pars.toNat)).1 ((xI x).drop ((zP l (yN x).n).pars+1).toNat),(iY l (yN x).n ((xI y).drop (zP l (yN y).n).pars.toNat)).2)else none)else(if iW l y/\(zP l (yN y).n).fam=(yN x).n then some (mQ (K5 l (yN x).n (tB (yN x).sub 0).n (yN y).n ((xI x).take ((zP l (yN x).n).pars+1+(zP l (yN x).n).cons.length).toNat) ((xI y).drop (zP l (yN x).n).pars.toNat)).1 ((xI x).drop (xZ (zP l (yN x).n)).toNat),(K5 l (yN x).n (tB (yN x).sub 0).n (yN y).n ((xI x).take ((zP l (yN x).n).pars+1+(zP l (yN x).n).cons.length).toNat) ((xI y).drop (zP l (yN x).n).pars.toNat)).2)else none)
inductive Br(l:List yE):Tm->Tm->Int->Int->Prop|stop{x:Tm}:uD l x=.none->Br l x x 0 0|redE{x Y:Tm}{e:Int}:uD l x=.red Y e->e≠0->Br l x zT e 0|redL{x Y:Tm}:uD l x=.red Y 0->zJ Y=false->Br l x zT 2 1|red{x Y y:Tm}{e k:Int}:uD l x=.red Y 0->zJ Y=true->Br l Y y e k->Br l x y e (1+k)|tgtE{x a z:Tm}{e k:Int}:uD l x=.tgt a->Br l a z e k->e≠0->Br l x zT e k|tgtN{x a z:Tm}{k:Int}:uD l x=.tgt a->Br l a z 0 k->tN l x z=none->Br l x x 0 k|tgtRE{x a z Y:Tm}{e k:Int}:uD l x=.tgt a->Br l a z 0 k->tN l x z=some (Y,e)->e≠0->Br l x zT e k|tgtRL{x a z Y:Tm}{k:Int}:uD l x=.tgt a->Br l a z 0 k->tN l x z=some (Y,0)->zJ Y=false->Br l x zT 2 (k+1)|tgtR{x a z Y y:Tm}{e k k':Int}:uD l x=.tgt a->Br l a z 0 k->tN l x z=some (Y,0)->zJ Y=true->Br l Y y e k'->Br l x y e (k+1+k')
inductive On(l:List yE)(x:Tm):Tm->Bool->Int->Int->Prop|stop:uD l x=.none->On l x x false 0 0|redE{Y:Tm}{e:Int}:uD l x=.red Y e->e≠0->On l x x false e 0|redL{Y:Tm}:uD l x=.red Y 0->zJ Y=false->On l x zT true 2 1|red{Y:Tm}:uD l x=.red Y 0->zJ Y=true->On l x Y true 0 1|tgtE{a z:Tm}{e k:Int}:uD l x=.tgt a->Br l a z e k->e≠0->On l x x false e k|tgtN{a z:Tm}{k:Int}:uD l x=.tgt a->Br l a z 0 k->tN l x z=none->On l x x false 0 k|tgtRE{a z Y:Tm}{e k:Int}:uD l x=.tgt a->Br l a z 0 k->tN l x z=some (Y,e)->e≠0->On l x x false e k|tgtRL{a z Y:Tm}{k:Int}:uD l x=.tgt a->Br l a z 0 k->tN l x z=some (Y,0)->zJ Y=false->On l x zT true 2 (k+1)|tgtR{a z Y:Tm}{k:Int}:uD l x=.tgt a->Br l a z 0 k->tN l x z=some (Y,0)->zJ Y=true->On l x Y true 0 (k+1)
theorem Br.nn{l:List yE}{x y:Tm}{e k:Int}(h:Br l x y e k):0<=k:=by induction h<;>omega
theorem On.still{l:List yE}{x y:Tm}{k:Int}(h:On l x y false 0 k):y=x/\Br l x x 0 k:=by cases h with|stop h=>exact⟨rfl,.stop h⟩|redE _ h=>exact absurd rfl h|tgtE _ _ h=>exact absurd rfl h|tgtN a b c=>exact⟨rfl,.tgtN a b c⟩|tgtRE _ _ _ h=>exact absurd rfl h
theorem On.err{l:List yE}{x y:Tm}{d:Bool}{e k:Int}(h:On l x y d e k)(he:e≠0):Br l x zT e k:=by cases h with|redE a b=>exact .redE a b|redL a b=>exact .redL a b|tgtE a b c=>exact .tgtE a b c|tgtRE a b c d=>exact .tgtRE a b c d|tgtRL a b c d=>exact .tgtRL a b c d|_=>exact absurd rfl he
theorem On.step{l:List yE}{x Y:Tm}{k:Int}(h:On l x Y true 0 k):zJ Y=true/\1<=k/\∀y e k',Br l Y y e k'->Br l x y e (k+k'):=by cases h with|red a b=>exact⟨b,by omega,λy e k' h=>.red a b h⟩|tgtR a b c d=>exact⟨d,by have:=b.nn;omega,λy e k' h=>.tgtR a b c d h⟩
def HB(l:List yE)(x:Tm)(f:Int):Prop:=Ou (λL U q=>zEz q (wA l) x L U) er4 (λR k=>∃y e,Br l x y e k/\R=λL U=>(y,e,L,U)) (∀y e k,Br l x y e k->f<k) f
def QO(l:List yE)(x:Tm)(R:Int->Int->Tm×Bool×Int×Int×Int)(k:Int):Prop:=∃Y d e,On l x Y d e k/\R=λL U=>(Y,d,e,L,U)
def QF(l:List yE)(x:Tm)(R:Int->Int->Tm×Bool×Int×Int×Int)(k:Int):Prop:=(uD l x=.none/\k=0/\∃Y,R=λL U=>(Y,false,0,L,U))\/∃a z e,uD l x=.tgt a/\Br l a z e k/\((e≠0/\∃Y,R=λL U=>(Y,false,e,L,U))\/(e=0/\((tN l x z=none/\∃Y,R=λL U=>(Y,false,0,L,U))\/∃Y e',Y.Ok/\tN l x z=some (Y,e')/\R=λL U=>(Y,true,e',L,U))))
theorem uB{t:Tm}(hg:xW t=true)(h:t.k=3\/t.k=4\/t.k=5):∃a b,t.sub=[a,b]/\xW a=true/\xW b=true:=by obtain⟨k,n,l⟩:=t;have hh:=wX hg;obtain⟨a,b,rfl⟩:=zOR ((sR hh.1).2.2.2.2.2.1 h).1;have hc:=wU hh.2;exact⟨a,b,rfl,hc.1,(wU hc.2).1⟩
theorem zJG{N:ByteArray->Bool}(l:List yE)(hE:vN N l)(x:Tm)(hs:zJ x=true)(f:Int)(hf:0<=f)(h3:(yN x).k≠4)(hk:qM l (yN x)=4)(hb:∀a∈xI x,HB l a f)(hB:∀a y k,zJ a=true->Br l a y 0 k->zJ y=true):Ou (λL U q=>zNq q (wA l) (yN x) (xI x) L U) er5 (QF l x) (∃a,uD l x=.tgt a/\∀z e k,Br l a z e k->f<k) f:=by
 have hh:=sS hs;have h0:=cS (zN hh).2.2;have hks:=tM hk (by decide);have h1:=hks.2.1;have ho:xQ (xI x):=λy hy=>yT (wC hs hy);have hl:(xI x).length<=8192:=by have h:=zN hs;have:=qV _ h.2.2;omega
 have hp:=(xT (hE.2 _ h0 h1)).2.2.2.1 hks.2.2;unfold K0 at hp;simp only[Bool.and_eq_true]at hp;have hw:=sV hp.1;have hfam:=wO ((xT (hE.2 _ hw.1 (by omega))).2.1 hw.2.2.1);have hact:uD l x=if((xI x).length:Int)<=(zP l (yN x).n).pars then .none else .tgt (tB (xI x) (zP l (yN x).n).pars):=by unfold uD;rw[if_neg (λh=>h3 h.1),if_neg (by omega),if_pos hk]
 have hre:∀y,tN l x y=if iW l y/\(zP l (yN y).n).fam=(zP l (yN x).n).fam then some (mQ (iY l (yN x).n ((xI y).drop (zP l (yN y).n).pars.toNat)).1 ((xI x).drop ((zP l (yN x).n).pars+1).toNat),(iY l (yN x).n ((xI y).drop (zP l (yN y).n).pars.toNat)).2)else none:=λy=>by unfold tN;rw[if_pos hk]
 refine Ou.succ ?_;simp only[zNq,N8,X8,iX];refine Ou.pure (yP h0 h1) (Ou.ite (λhn=>Ou.ret hf (.inl ⟨by rw[hact,if_pos (of_decide_eq_true hn)],rfl,_,rfl⟩)) λhn=>?_);have hn':=of_decide_eq_false hn;rw[if_neg hn']at hact;have hlt:(zP l (yN x).n).pars<(xI x).length:=by omega
 have hp0:0<=(zP l (yN x).n).pars:=by omega
 refine Ou.pure (uJ hp0 hlt) (Ou.bind (hb _ (qE hp0 hlt)) (λh=>⟨_,hact,h⟩) (λr hr=>⟨_,zC.ifT (by show(r.2.1 !=0)=true;rw[show r.2.1=8 from hr];decide) zC.ret,hr⟩) ?_);rintro R k k0 k1⟨y,e,hbr,rfl⟩;dsimp only;refine Ou.ite (λh=>Ou.ret (by omega) (.inr ⟨_,y,e,hact,by rwa[Int.add_zero],.inl ⟨by simpa using h,_,rfl⟩⟩)) λh=>?_;have he:e=0:=by simpa using h
 subst he;have hy:=hB _ _ _ (wC hs (qE hp0 hlt)) hbr;refine Ou.evt (zBg l y hy) ?_;unfold zBh;by_cases hc:iW l y
 ·rw[if_pos hc];have hcs:=sL hy hc;obtain⟨A,z,a1,-,-,a4,a5,a6,a7,-⟩:=tS hE hcs.1 hcs.2.1 hcs.2.2.1;refine Ou.ifT rfl (Ou.pure (yP hcs.1 hcs.2.1) (Ou.ite (λhf'=>Ou.ret (by omega) (.inr ⟨_,y,0,hact,by rwa[Int.add_zero],.inr ⟨rfl,.inl ⟨?_,_,rfl⟩⟩⟩)) λhf'=>?_));·rw[hre,if_neg (λh=>by simp[h.2]at hf')]
  ·have hf2:(zP l (yN y).n).fam=(zP l (yN x).n).fam:=by simpa using hf'
   have hra:xQ (xI y):=λx hx=>yT (wC hy hx);have hrl:(xI y).length<=8192:=by have h:=zN hy;have:=qV _ h.2.2;omega
   have hlen:=hcs.2.2.2;have hX:=K4 l (yN x).n ((xI y).drop (zP l (yN y).n).pars.toNat) hE (hra.drop _) (by rw[List.length_drop];omega);refine Ou.pure (sD a6 (by show(zP l (yN y).n).pars<=((xI y).length:Int);omega)) (Ou.evt hX.1 ?_);rw[zS (x:=(zP l (yN x).n).pars+1) (by omega) (by omega)];refine Ou.pure (sD (by omega) (by omega)) (Ou.evt (wS _ _ (by rw[List.length_drop];omega)) (Ou.ret (by omega) (.inr ⟨_,y,0,hact,by rwa[Int.add_zero],.inr ⟨rfl,.inr ⟨_,_,?_,?_,rfl⟩⟩⟩)));·exact uH _ _ hX.2.1 (ho.drop _)
   ·rw[hre,if_pos ⟨hc,hf2⟩]
 ·rw[if_neg hc];refine Ou.ifF rfl (Ou.ret (by omega) (.inr ⟨_,y,0,hact,by rwa[Int.add_zero],.inr ⟨rfl,.inl ⟨?_,_,rfl⟩⟩⟩));rw[hre,if_neg (λh=>hc h.1)]
theorem zNo{N:ByteArray->Bool}(l:List yE)(hE:vN N l)(x:Tm)(hs:zJ x=true)(f:Int)(hf:0<=f)(hk:(yN x).k=7)(hb:∀a∈xI x,HB l a f)(hB:∀a y k,zJ a=true->Br l a y 0 k->zJ y=true):Ou (λL U q=>zNp q (wA l) (yN x) (xI x) L U) er5 (QF l x) (∃a,uD l x=.tgt a/\∀z e k,Br l a z e k->f<k) f:=by
 have hh:=sS hs;have hg:=(zN hh).2.2;have h0:=cS hg;have ho:xQ (xI x):=λy hy=>yT (wC hs hy);have hl:(xI x).length<=8192:=by have h:=zN hs;have:=qV _ h.2.2;omega
 have hkk:∀n:Int,n≠0->qM l (yN x)≠n:=λn hn e=>by have:=(tM e hn).1;omega
 have hact:uD l x=if fV l (yN x).n 1=true/\xZ (zP l (yN x).n)<=(xI x).length then .tgt (tB (xI x) (xZ (zP l (yN x).n)-1))else .none:=by unfold uD;rw[if_neg (λh=>by omega),if_neg (hkk 3 (by decide)),if_neg (hkk 4 (by decide)),if_pos hk]
 have hre:∀y,tN l x y=if iW l y/\(zP l (yN y).n).fam=(yN x).n then some (mQ (K5 l (yN x).n (tB (yN x).sub 0).n (yN y).n ((xI x).take ((zP l (yN x).n).pars+1+(zP l (yN x).n).cons.length).toNat) ((xI y).drop (zP l (yN x).n).pars.toNat)).1 ((xI x).drop (xZ (zP l (yN x).n)).toNat),(K5 l (yN x).n (tB (yN x).sub 0).n (yN y).n ((xI x).take ((zP l (yN x).n).pars+1+(zP l (yN x).n).cons.length).toNat) ((xI y).drop (zP l (yN x).n).pars.toNat)).2)else none:=λy=>by unfold tN;rw[if_neg (hkk 4 (by decide))]
 refine Ou.succ ?_;simp only[zNp,N8,X8,iX];refine Ou.ite (λhn=>Ou.ret hf (.inl ⟨?_,rfl,_,rfl⟩)) λhn=>?_
 ·rw[hact,if_neg];intro h;have:=(vB h.1).2.1;have:=of_decide_eq_true hn;omega
 have h1:(yN x).n<l.length:=by have:=of_decide_eq_false hn;omega
 refine Ou.pure (yP h0 h1) (Ou.ite (λhk1=>Ou.ret hf (.inl ⟨?_,rfl,_,rfl⟩)) λhk1=>?_)
 ·rw[hact,if_neg];intro h;have h2:=(vB h.1).2.2;rw[h2]at hk1;simp at hk1
 have hk1':(zP l (yN x).n).kind=1:=by simpa using hk1
 have hfam:=wO ((xT (hE.2 _ h0 h1)).2.1 hk1');have hisT:fV l (yN x).n 1=true:=by unfold fV;simp[h0,h1,hk1']
 have hargs:xZ (zP l (yN x).n)=(zP l (yN x).n).pars+2+(zP l (yN x).n).cons.length+(zP l (yN x).n).inds:=by unfold xZ;rw[if_pos hk1']
 refine Ou.pure (zNr h0 h1) (Ou.ite (λhn=>Ou.ret hf (.inl ⟨?_,rfl,_,rfl⟩)) λhn=>?_)
 ·rw[hact,if_neg];intro h;have:=of_decide_eq_true hn;omega
 have hn':=of_decide_eq_false hn;rw[if_pos ⟨hisT,by omega⟩]at hact;rw[zS (x:=xZ (zP l (yN x).n)-1) (by omega) (by omega)];have hp0:0<=xZ (zP l (yN x).n)-1:=by omega
 have hlt:xZ (zP l (yN x).n)-1<(xI x).length:=by omega
 refine Ou.pure (uJ hp0 hlt) (Ou.bind (hb _ (qE hp0 hlt)) (λh=>⟨_,hact,h⟩) (λr hr=>⟨_,zC.ifT (by show(r.2.1 !=0)=true;rw[show r.2.1=8 from hr];decide) zC.ret,hr⟩) ?_);rintro R k k0 k1⟨y,e,hbr,rfl⟩;dsimp only;refine Ou.ite (λh=>Ou.ret (by omega) (.inr ⟨_,y,e,hact,by rwa[Int.add_zero],.inl ⟨by simpa using h,_,rfl⟩⟩)) λh=>?_;have he:e=0:=by simpa using h
 subst he;have hy:=hB _ _ _ (wC hs (qE hp0 hlt)) hbr;refine Ou.evt (zBg l y hy) ?_;unfold zBh;by_cases hc:iW l y
 ·rw[if_pos hc];have hcs:=sL hy hc;obtain⟨A,z,a1,-,-,a4,a5,a6,a7,-,-,-,a8,-⟩:=tS hE hcs.1 hcs.2.1 hcs.2.2.1;refine Ou.ifT rfl (Ou.pure (yP hcs.1 hcs.2.1) (Ou.ite (λhf'=>Ou.ret (by omega) (.inr ⟨_,y,0,hact,by rwa[Int.add_zero],.inr ⟨rfl,.inl ⟨?_,_,rfl⟩⟩⟩)) λhf'=>?_));·rw[hre,if_neg (λh=>by simp[h.2]at hf')]
  ·have hf2:(zP l (yN y).n).fam=(yN x).n:=by simpa using hf'
   rw[hf2]at a8;have hra:xQ (xI y):=λx hx=>yT (wC hy hx);have hrl:(xI y).length<=8192:=by have h:=zN hy;have:=qV _ h.2.2;omega
   have hlen:=hcs.2.2.2;have hsub:∃s,(yN x).sub=[s]:=by revert hg hk;generalize yN x=y;intro hk hg;obtain⟨kk,nn,ss⟩:=y;obtain⟨s,hs,-⟩:=(sR (wX hg).1).2.2.2.2.2.2.1 hk;exact⟨s,hs⟩
   obtain⟨s,hsb⟩:=hsub;rw[zS (x:=(zP l (yN x).n).pars+1) (by omega) (by omega),zS (x:=(zP l (yN x).n).pars+1+(zP l (yN x).n).cons.length) (by omega) (by omega)];have hX:=X9 l (yN x).n (tB (yN x).sub 0).n (yN y).n ((xI x).take ((zP l (yN x).n).pars+1+(zP l (yN x).n).cons.length).toNat) ((xI y).drop (zP l (yN x).n).pars.toNat) hE (ho.take _) (hra.drop _) (by rw[List.length_take];omega) (by rw[List.length_drop];omega);refine Ou.pure (uJ (by omega) (by rw[hsb];simp)) (Ou.pure (a:=(xI x).take ((zP l (yN x).n).pars+1+(zP l (yN x).n).cons.length).toNat) ?_ (Ou.pure (sD (by omega) (by show _<=((xI y).length:Int);omega)) (Ou.evt hX.1 ?_)));·rw[eH (by omega) (by omega) (by omega)];simp
   refine Ou.pure (sD (by omega) (by omega)) (Ou.evt (wS _ _ (by rw[List.length_drop];omega)) (Ou.ret (by omega) (.inr ⟨_,y,0,hact,by rwa[Int.add_zero],.inr ⟨rfl,.inr ⟨_,_,?_,?_,rfl⟩⟩⟩)));·exact uH _ _ hX.2.1 (ho.drop _)
   ·rw[hre,if_pos ⟨hc,hf2⟩]
 ·rw[if_neg hc];refine Ou.ifF rfl (Ou.ret (by omega) (.inr ⟨_,y,0,hact,by rwa[Int.add_zero],.inr ⟨rfl,.inl ⟨?_,_,rfl⟩⟩⟩));rw[hre,if_neg (λh=>hc h.1)]
end Go.Proofs.YthncchbcdpbgaaaGreat
