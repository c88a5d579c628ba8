/- Parts of the proof that the law returns true: walks of the functions, plain laws. -/
import Derived.Test.YthncchbcdpbgaaaGreatAbB3
set_option linter.unusedVariables false
set_option linter.unusedSimpArgs false
set_option linter.unusedSectionVars false
namespace Go.Proofs.YthncchbcdpbgaaaGreat
open Go Go.Ab Go.Proofs.Tryz
def F2:Nat->ByteArray->(yH×Int×Int)->yH->(List zM)->Int->Option (List zM×Int×Int)
 |0,_,_,_,_,_=>none|c+1,b,r1,r4,d,a=>zVq c r1.1 r4 a>>=λr6=>if r6.2.1 then if decide (r6.2.2>=(r1.1.length:Int))then yT 32 d [(zM.mk 5 (⟨#[]⟩:ByteArray) (b.size:Int))]>>=λl10=>some (l10,(b.size:Int),0)else if decide ((d.length:Int)>=8192)then zO r4 r6.2.2>>=λx13=>some ([],x13,2)else zRf c r1.1 r4 r6.2.2>>=λr15=>if r15.2.1 then yT 32 d [r15.1]>>=λl18=>F2 c b r1 r4 l18 r15.2.2 else some ([],r15.1.at_,1)else some ([],r6.1,1)
def zRe(c:Nat)(b:ByteArray):Option (List zM×Int×Int):=zNQ c b>>=λr1=>if r1.2.2 !=0 then some ([],r1.2.1,r1.2.2)else zRp c r1.1>>=λr4=>F2 c b r1 r4 [] 0
theorem zRd:∀c:Nat,∀b r1 r4 d a,Lz (F2 c b r1 r4 d a) 0 f104 (pt 65509 f104) (λj=>sp j 81 0 [(0,at' b),(8,.mp 0 0),(9,zC zI d (.st 0 3))]) ⟨[(0,.cells [zC zQ r1.1 .no,zC zQ r4 .no,ai a])],1,[0],1,[]⟩ (λr=>.tup [.sl (zH zI r.1) r.1.length .no,ai r.2.1,ai r.2.2]) (λ_=>[]) 0 [.blk 0,.seq (pt 4095 f104)]:=xF (λ_ _ _ _ _=>lN) λc ih=>λb r1 r4 d a=>lw λ_=>rC 0 [0] yAm λ_=>rB 1 (rB 4 (rW (λh11=>oP 2 (zNu h11 (by simp))) λ_=>lE 1)<|rB 1 (rA 2 (sS (o:=.no)) λ_=>lE 1)<|rC 0 [0] yAk λ_=>rB 1 (rW (λh19=>oP 4 (zNu h19 (by simp))) λ_=>lH 0 [] [0] [1] [0,8,9] (ih _ _ _ _ _))<|lE 3)<|lE 1
theorem yAj{c b}:Cz (zRe c b) 104 [] [at' b] (λr=>.tup [.sl (zH zI r.1) r.1.length .no,ai r.2.1,ai r.2.2]) (λ_=>[]) 0:=fw func104<|rC 0 [] zXS λ_=>rB 3 (fE 0)<|rC 0 [] yAq λ_=>fH 0 [(none,9,3)] [0] [0] [0,8,9] (zRd _ _ _ _ _ _)
theorem zAL:∀(l:List Int)(b:ByteArray),(l.foldl (λr n=>r.push (UInt8.ofNat n.toNat)) b).size=b.size+l.length|[],b=>rfl|x::l,b=>by rw[List.foldl_cons,zAL l,ByteArray.size_push,List.length_cons];omega
theorem K4(l:List Int):(qK l).size=l.length:=by unfold qK;rw[zAL];show 0+_=_;omega
theorem zAM{α:Type}{l:List α}{k:Nat}(x:α)(h:k<l.length):cG l k x=some (l.set k x):=by unfold cG;rw[if_pos h]
theorem zAN{n v:Nat}(h:v<n):mO n (v:Int)=some v:=by unfold mO;rw[if_pos (by omega)];simp
theorem tS{α:Type}{l:List α}{i:Int}(h0:0<=i)(h1:i<l.length):∃x,zO l i=some x/\x∈l:=by
 unfold zO;rw[if_pos h0];have h:i.toNat<l.length:=by omega
 exact⟨_,List.getElem?_eq_getElem h,List.getElem_mem h⟩
theorem zGY(n:Int):zD (λq=>zGW q n) λr=>1<=r/\r<=4:=by simp only[zGW];repeat'(first|exact zD.ret (by simp)|refine zD.ite (λ_=>?_) (λ_=>?_))
theorem zEM(w:Int)(x:List U8)(hw:0<=w)(hx:x.length<=4):∀(m:Nat)(n:Int)(b:List U8),m<x.length->b.length=x.length->zD (λq=>eJ q w x n (m:Int) b) λr=>r.1.size<=4|0,n,b,hm,hb=>by refine zD.succ ?_;simp only[eJ];refine zD.ite (λh=>absurd (of_decide_eq_true h) (by simp)) λ_=>zD.pure (by unfold zQB;rw[if_neg (by omega)]) (zD.pure (zAN hm) (zD.pure (zAM _ (by rw[hb];exact hm)) (zD.pure (by unfold gtx;rw[if_pos (by rw[List.length_set];exact hb)]) (zD.ret ?_))));show(qK _).size<=4;rw[K4,List.length_set];omega|m+1,n,b,hm,hb=>by refine zD.succ ?_;simp only[eJ];refine zD.ite (λ_=>zD.pure (zAN hm) (zD.pure (zAM _ (by omega)) ?_)) λh=>absurd (of_decide_eq_false h) (by omega);rw[show yJ (((m+1:Nat):Int)-1)=(m:Int)by rw[zS (by omega) (by omega)];omega];exact zEM w x hw hx m _ _ (by omega) (by rw[List.length_set];exact hb)
theorem zIV(n:Int):zD (λq=>zNW q n) λr=>r.1.size<=4:=by
 simp only[zNW];refine(jQ n).bind λ_ _=>zD.ite (λ_=>(zGY n).bind λw hw=>zD.ite (λ_=>zD.ret (by show(qK _).size<=4;rw[K4];simp)) λh=>?_) λ_=>zD.ret (by decide);have h1:w≠1:=by simpa using h
 refine zD.pure (by unfold gmk;rw[if_pos ⟨by omega,by omega⟩]) ?_;obtain⟨k,rfl⟩:∃k:Nat,w=(k+1:Nat):=⟨(w-1).toNat,by omega⟩;rw[show yJ (((k+1:Nat):Int)-1)=(k:Int)by rw[zS (by omega) (by omega)];omega];exact zEM _ _ (by omega) (by simp;omega) k n _ (by simp) (by simp)
theorem zAO:∀(r l:List Int)(v:Nat)(acc:List U8),l.drop v=r->l.length<=65535->acc.length<=65535->zD (λq=>eL q l (v:Int) acc) λr=>r.1.size<=65535
 |[],l,v,acc,hd,hl,ha=>by refine zD.succ ?_;simp only[eL];refine zD.ite (λh=>?_) λ_=>zD.ret (by show(qK _).size<=65535;rw[K4];exact ha);rw[yE hd]at h;cases h|x::r,l,v,acc,hd,hl,ha=>by
  have hlt:=yK hd;refine zD.succ ?_;simp only[eL];refine zD.ite (λ_=>zD.pure (zY hd) ((zIV x).bind λb hb=>zD.ite (λ_=>zD.ret (by decide)) λh=>?_)) λh=>by rw[yD hd]at h;cases h
  have h1:=of_decide_eq_false h;rw[zS (by omega) (by omega)]at h1;refine zD.pure (zW (by rw[jP];omega)) ?_;rw[zV v (by omega)];exact zAO r l (v+1) _ (zR hd) hl (by rw[List.length_append,jP];omega)
theorem zAP:∀(r l:List Int)(v:Nat),l.drop v=r->l.length<=65535->zD (λq=>eM q l (v:Int)) λr=>r.1.size<=65535
 |[],l,v,hd,hl=>by refine zD.succ ?_;simp only[eM];refine zD.ite (λh=>?_) λ_=>zAO l l 0 [] rfl hl (by simp);rw[yE hd]at h;cases h|x::r,l,v,hd,hl=>by
  have hlt:=yK hd;refine zD.succ ?_;simp only[eM];refine zD.ite (λ_=>zD.pure (zY hd) ((jQ x).bind λb _=>zD.ite (λ_=>?_) λ_=>zD.ret (by decide))) λh=>by rw[yD hd]at h;cases h
  rw[zV v (by omega)];exact zAP r l (v+1) (zR hd) hl
theorem zEN(l:List Int)(hl:l.length<=65535):zD (λq=>zCd q l) λr=>r.1.size<=65535:=by simp only[zCd];exact zAP l l 0 rfl hl
theorem F3:∀(r l:List Int)(v:Nat)(acc:List Int)(at0:Int),l.drop v=r->l.length<=65535->v<=l.length->acc.length=v->zD (λq=>eK q l (v:Int) acc at0) λr=>r.length=l.length
 |[],l,v,acc,a,hd,hl,hv,ha=>by
  refine zD.succ ?_;simp only[eK];refine zD.ite (λh=>?_) λh=>zD.ret ?_;·rw[yE hd]at h;cases h
  ·have:=List.drop_eq_nil_iff.1 hd;omega|x::r,l,v,acc,a,hd,hl,hv,ha=>by
  have hlt:=yK hd;refine zD.succ ?_;simp only[eK];refine zD.ite (λ_=>zD.pure (zY hd) (zD.pure (zW (by simp;omega)) ((zIV x).bind λb hb=>?_))) λh=>by rw[yD hd]at h;cases h
  rw[zV v (by omega)];exact F3 r l (v+1) _ _ (zR hd) hl hlt (by simp[ha])
theorem zEO(l:List Int)(hl:l.length<=65535):zD (λq=>zRp q l) λr=>r.length=l.length:=by simp only[zRp];exact F3 l l 0 [] 0 rfl hl (by omega) rfl
def sgT(S:List Int)(i:Int):Int:=if i>=S.length then-1 else(S[i.toNat]?).getD 0
theorem zKQ(n:Int):zD (λq=>zRn q n) λ_=>True:=by simp only[zRn];repeat'(first|exact zD.ret trivial|refine zD.ite (λ_=>?_) (λ_=>?_))
theorem Z7(n:Int):zD (λq=>zNZ q n) λ_=>True:=by simp only[zNZ];repeat'(first|exact zD.ret trivial|refine zD.ite (λ_=>?_) (λ_=>?_)|refine zD.bind (jR n) (λ_ _=>?_)|refine zD.bind (kO n) (λ_ _=>?_))
theorem zGZ(s:ByteArray)(pos:Nat):1<=(Utf8.decode s pos).2:=by
 unfold Utf8.decode;dsimp only;repeat' split
 all_goals simp
theorem O9(s:ByteArray):∀(m:Nat)(n:Int)(p:Nat),s.size-p<=m->zD (λq=>eN q s n p) λ_=>True|m,n,p,hm=>by refine zD.succ ?_;simp only[eN];refine zD.ite (λh=>(kO _).bind λ_ _=>zD.ite (λ_=>?_) λ_=>zD.ret trivial) λ_=>zD.ret trivial;have h1:=of_decide_eq_true h;have:=zGZ s p;cases m with|zero=>omega|succ m=>exact O9 s m _ _ (by omega)
theorem Z8(s:ByteArray):zD (λq=>zOz q s) λ_=>True:=by
 simp only[zOz];refine zD.ite (λ_=>zD.ret trivial) λh=>zD.ite (λ_=>zD.ret trivial) λ_=>?_;have hp:0<s.size:=by
  rcases Nat.eq_zero_or_pos s.size with e|e
  ·have:s=⟨#[]⟩:=by cases s with|mk d=>simp only[ByteArray.size]at e;rw[Array.eq_empty_of_size_eq_zero e]
   rw[this]at h;simp at h
  ·exact e
 obtain⟨c,hc⟩:=Z5 (s:=s) (i:=0) (by omega) (by omega);refine zD.pure hc (zD.ite (λ_=>zD.ite (λ_=>zD.ret trivial) λ_=>?_) λ_=>?_)<;>exact O9 s _ 0 0 (Nat.le_refl _)
section
variable{S A:List Int}(hS:S.length<=65535)
include hS
theorem nO(i k:Int)(h0:0<=i)(h1:i<=100000)(hk:0<=k/\k<=1):zB (λq=>R0 q S A i k) (sgT S (i+k)):=by
 simp only[R0];rw[zS (by omega) (by omega)];unfold sgT;by_cases h:i+k>=S.length;·rw[if_pos h];exact zB.ifT (decide_eq_true h) zB.ret
 ·rw[if_neg h];refine zB.ifF (decide_eq_false h) (zB.pure (a:=(S[(i+k).toNat]?).getD 0) ?_ zB.ret);unfold zO;rw[if_pos (by omega),List.getElem?_eq_getElem (show(i+k).toNat<S.length by omega)];rfl
theorem Z9(i a b:Int)(h0:0<=i)(h1:i<=100000):zB (λq=>zEI q S A i a b) (sgT S i==a&&sgT S (i+1)==b):=by
 simp only[zEI];have e:=nO (A:=A) hS i 0 h0 h1 (by omega);rw[Int.add_zero]at e;refine e.bind ?_;by_cases h:sgT S i=a;·rw[show(sgT S i==a)=true by simpa using h,Bool.true_and];exact zB.ifT rfl ((nO hS i 1 h0 h1 (by omega)).bind zB.ret)
 ·rw[show(sgT S i==a)=false by simpa using h,Bool.false_and];exact zB.ifF rfl zB.ret
theorem zEP:∀(m:Nat)(i:Int),0<=i->i<=100000->(S.length:Int)-i<=m->zD (λq=>E9 q S A i) λr=>i<=r/\(r<=i\/r<=S.length)/\(i<S.length->sgT S i≠10->i<r)|m,i,h0,h1,hm=>by refine zD.succ ?_;simp only[E9];refine zD.ite (λh=>?_) λh=>zD.ret ⟨by omega,by omega,λh2=>absurd h2 (of_decide_eq_false h)⟩;have h2:=of_decide_eq_true h;have e:=nO (A:=A) hS i 0 h0 h1 (by omega);rw[Int.add_zero]at e;refine zD.bind (e.tot rfl) λx hx=>?_;subst hx;cases m with|zero=>omega|succ m=>refine zD.ite (λh3=>?_) λh3=>zD.ret ⟨by omega,by omega,λ_ h4=>absurd h4 (by simpa using h3)⟩;rw[zS (by omega) (by omega)];refine(zEP m (i+1) (by omega) (by omega) (by omega)).mono λr hr=>⟨by omega,by omega,λ_ _=>by omega⟩
theorem z8:∀(m:Nat)(d i:Int),0<=i->i<=100000->(S.length:Int)-i<=m->zD (λq=>lA q S A d i) λr=>i<=r.2/\(r.2<=i\/r.2<=S.length+1)/\(i<S.length->i<r.2)|m,d,i,h0,h1,hm=>by refine zD.succ ?_;simp only[lA];refine zD.ite (λh=>?_) λh=>zD.ret ⟨by show i<=i;omega,.inl (by show i<=i;omega),λh2=>absurd h2 (of_decide_eq_false h)⟩;have h2:=of_decide_eq_true h;cases m with|zero=>omega|succ m=>have go:∀(d j:Int),i<j->j<=i+2->zD (λq=>lA q S A d j) λr=>i<=r.2/\(r.2<=i\/r.2<=S.length+1)/\(i<S.length->i<r.2):=λd j hj hk=>(z8 m d j (by omega) (by omega) (by omega)).mono λr hr=>⟨by omega,by omega,λ_=>by omega⟩;refine zD.bind ((Z9 hS i 123 45 h0 h1).tot (P:=λ_=>True) trivial) λx _=>?_;rw[zS (x:=i+2) (by omega) (by omega),zS (x:=i+1) (by omega) (by omega)];refine zD.ite (λ_=>go _ _ (by omega) (by omega)) λ_=>zD.bind ((Z9 hS i 45 125 h0 h1).tot (P:=λ_=>True) trivial) λy _=>?_;refine zD.ite (λ_=>zD.ite (λ_=>zD.ret ⟨by show i<=i+2;omega,.inr (by show i+2<=_;omega),λ_=>by show i<i+2;omega⟩) λ_=>go _ _ (by omega) (by omega)) λ_=>go _ _ (by omega) (by omega)
theorem zEQ(hA:A.length=S.length):∀(m:Nat)(i:Int),0<=i->i<=70000->(S.length:Int)-i<=m->zD (λq=>lB q S A i) λr=>i<=r.2.2/\(r.2.2<=i\/r.2.2<=S.length+1)|m,i,h0,h1,hm=>by refine zD.succ ?_;simp only[lB,zVs,zVr];refine zD.ite (λh=>?_) λh=>zD.ret ⟨by show i<=i;omega,.inl (by show i<=i;omega)⟩;have h2:=of_decide_eq_true h;cases m with|zero=>omega|succ m=>
 have go:∀(j:Int),i<j->j<=S.length+2->(j<=i\/j<=S.length+1)->zD (λq=>lB q S A j) λr=>i<=r.2.2/\(r.2.2<=i\/r.2.2<=S.length+1):=λj hj hk hl=>(zEQ hA m j (by omega) (by omega) (by omega)).mono λr hr=>⟨by omega,by omega⟩;have ret:∀z:Int×Bool×Int,z.2.2=i->i<=z.2.2/\(z.2.2<=i\/z.2.2<=S.length+1):=λz hz=>⟨by omega,by omega⟩;refine zD.bind ((nO hS i 0 h0 (by omega) (by omega)).tot (P:=λ_=>True) trivial) λx _=>(zKQ x).bind λ_ _=>?_;rw[zS (x:=i+1) (by omega) (by omega)];refine zD.ite (λ_=>go _ (by omega) (by omega) (by omega)) λ_=>zD.bind ((Z9 hS i 45 45 h0 (by omega)).tot rfl) λy hy=>zD.ite (λh3=>?_) λ_=>?_;·subst hy;simp only[Bool.and_eq_true,beq_iff_eq]at h3;exact(zEP hS (m+1) i h0 (by omega) hm).bind λr hr=>go r (hr.2.2 h2 (by rw[h3.1];decide)) (by omega) (by omega)
 ·refine zD.bind ((Z9 hS i 123 45 h0 (by omega)).tot (P:=λ_=>True) trivial) λy _=>zD.ite (λ_=>?_) λ_=>zD.ret (ret _ rfl);refine(z8 hS (m+1) 0 i h0 (by omega) hm).bind λr hr=>zD.ite (λ_=>go _ (hr.2.2 h2) (by omega) (by omega)) λ_=>?_;obtain⟨z,hz,_⟩:=tS (l:=A) h0 (by omega);exact zD.pure hz (zD.ret ⟨by show i<=r.2;omega,by show r.2<=i\/r.2<=S.length+1;omega⟩)
theorem zOy(i:Int)(h0:0<=i)(h1:i<=70000):zD (λq=>zRg q S A i) λr=>0<=r.2/\r.2<=2:=by simp only[zRg];refine zD.bind ((nO hS i 0 h0 (by omega) (by omega)).tot (P:=λ_=>True) trivial) λx _=>?_;repeat'(first|exact zD.ret (by simp)|refine zD.ite (λ_=>?_) (λ_=>?_)|refine zD.bind ((Z9 hS i 45 62 h0 (by omega)).tot (P:=λ_=>True) trivial) (λ_ _=>?_))
theorem zER(f:Int):∀(m:Nat)(i:Int),0<=f->f<=i->i<=S.length->(S.length:Int)-i<=m->zD (λq=>oR q S A f i) λr=>i<=r.2/\r.2<=S.length|m,i,hf,h0,h1,hm=>by refine zD.succ ?_;simp only[oR];have fin:zD (λq=>sN S f i>>=λx=>zCd q x>>=λr=>some (r.1,i)) λr=>i<=r.2/\r.2<=S.length:=zD.pure (by unfold sN;rw[if_pos ⟨hf,h0,by omega⟩]) ((zEN _ (by rw[List.length_take,List.length_drop];omega)).bind λ_ _=>zD.ret ⟨by show i<=i;omega,h1⟩);refine zD.ite (λh=>?_) λh=>fin;have h2:=of_decide_eq_true h;cases m with|zero=>omega|succ m=>refine zD.bind ((nO hS i 0 (by omega) (by omega) (by omega)).tot (P:=λ_=>True) trivial) λx _=>(Z7 x).bind λ_ _=>zD.ite (λ_=>?_) λ_=>fin;rw[zS (x:=i+1) (by omega) (by omega)];exact(zER f m (i+1) hf (by omega) (by omega) (by omega)).mono λr hr=>⟨by omega,by omega⟩
theorem zES(f:Int):∀(m:Nat)(i:Int),0<=f->f<=i->i<=S.length->(S.length:Int)-i<=m->zD (λq=>oO q S A f i) λr=>i<=r.2/\r.2<=S.length|m,i,hf,h0,h1,hm=>by refine zD.succ ?_;simp only[oO];have fin:zD (λq=>sN S f i>>=λx=>zCd q x>>=λr=>some (r.1,i)) λr=>i<=r.2/\r.2<=S.length:=zD.pure (by unfold sN;rw[if_pos ⟨hf,h0,by omega⟩]) ((zEN _ (by rw[List.length_take,List.length_drop];omega)).bind λ_ _=>zD.ret ⟨by show i<=i;omega,h1⟩);refine zD.ite (λh=>?_) λh=>fin;have h2:=of_decide_eq_true h;cases m with|zero=>omega|succ m=>refine zD.bind ((nO hS i 0 (by omega) (by omega) (by omega)).tot (P:=λ_=>True) trivial) λx _=>(kO x).bind λ_ _=>zD.ite (λ_=>?_) λ_=>fin;rw[zS (x:=i+1) (by omega) (by omega)];exact(zES f m (i+1) hf (by omega) (by omega) (by omega)).mono λr hr=>⟨by omega,by omega⟩
theorem zKR(hA:A.length=S.length)(i:Int)(h0:0<=i)(h1:i<S.length):zD (λq=>zRf q S A i) λr=>i<=r.2.2/\r.2.2<=S.length+1:=by
 simp only[zRf,F1,Z6];obtain⟨z,hz,_⟩:=tS (l:=A) h0 (by omega);have I:=zER (A:=A) hS i (S.length-i.toNat) i h0 (by omega) (by omega) (by omega);have D:=zES (A:=A) hS i (S.length-i.toNat) i h0 (by omega) (by omega) (by omega);have rt:∀(t:zM)(b:Bool)(j:Int),i<=j/\j<=S.length->zD (λ_=>some (t,b,j)) λr:zM×Bool×Int=>i<=r.2.2/\r.2.2<=S.length+1:=λt b j hj=>zD.ret ⟨hj.1,by show j<=_;omega⟩;refine zD.pure hz (zD.bind ((nO hS i 0 h0 (by omega) (by omega)).tot (P:=λ_=>True) trivial) λx _=>(jR x).bind λ_ _=>?_);refine zD.ite (λ_=>I.bind λr hr=>(mZ _).bind λ_ _=>zD.ite (λ_=>rt _ _ _ hr) λ_=>zD.ite (λ_=>rt _ _ _ hr) λ_=>(sC _).bind λ_ _=>rt _ _ _ hr) λ_=>?_;refine zD.ite (λ_=>I.bind λr hr=>(mZ _).bind λ_ _=>zD.ite (λ_=>rt _ _ _ hr) λ_=>zD.ite (λ_=>rt _ _ _ hr) λ_=>(sC _).bind λ_ _=>rt _ _ _ hr) λ_=>(kO x).bind λ_ _=>?_;refine zD.ite (λ_=>D.bind λr hr=>(Z8 _).bind λ_ _=>zD.ite (λ_=>?_) λ_=>rt _ _ _ hr) λ_=>(zOy hS i h0 (by omega)).bind λr hr=>?_;·exact zD.bind ((nO hS r.2 0 (by omega) (by omega) (by omega)).tot (P:=λ_=>True) trivial) λx _=>(Z7 x).bind λ_ _=>rt _ _ _ hr
 ·rw[zS (by omega) (by omega)];exact zD.ret ⟨by show i<=i+r.2;omega,by show i+r.2<=_;omega⟩
end
def zKS(l:List zM):Prop:=1<=l.length/\l.length<=8193/\((l[l.length-1]?).getD default).kind_=5
theorem zAQ(s:ByteArray)(r1:List Int×Int×Int)(A:List Int)(hS:r1.1.length<=65535)(hA:A.length=r1.1.length):∀(m:Nat)(acc:List zM)(i:Int),acc.length<=8192->8192-acc.length<=m->0<=i->i<=r1.1.length+1->zD (λq=>F2 q s r1 A acc i) λr=>r.2.2=0->zKS r.1
 |m,acc,i,ha,hm,h0,h1=>by
  refine zD.succ ?_;simp only[F2,zVq];refine(zEQ hS hA r1.1.length i h0 (by omega) (by omega)).bind λr hr=>zD.ite (λ_=>?_) λ_=>zD.ret (by simp);refine zD.ite (λ_=>zD.pure (zW (by simp;omega)) (zD.ret λ_=>⟨by simp,by simp;omega,by simp⟩)) λh=>?_;have h2:=of_decide_eq_false h;refine zD.ite (λ_=>?_) λh=>?_
  ·obtain⟨z,hz,_⟩:=tS (l:=A) (i:=r.2.2) (by omega) (by omega);exact zD.pure hz (zD.ret (by simp))
  ·have h3:=of_decide_eq_false h;cases m with|zero=>omega|succ m=>refine(zKR hS hA r.2.2 (by omega) (by omega)).bind λt ht=>zD.ite (λ_=>zD.pure (zW (by simp;omega)) ?_) λ_=>zD.ret (by simp);exact zAQ s r1 A hS hA m _ _ (by simp;omega) (by simp;omega) (by omega) (by omega)
theorem zOx(s:ByteArray):zD (λq=>zRe q s) λr=>r.2.2=0->zKS r.1:=by simp only[zRe];refine(zCg s).bind λr hr=>zD.ite (λh=>zD.ret λh2=>?_) λ_=>(zEO r.1 hr).bind λA hA=>zAQ s r A hr hA 8192 [] 0 (by simp) (by simp) (by omega) (by omega);have h2:r.2.2=0:=h2;rw[h2]at h;cases h
mutual def zKT:Nat->zG->Int->Option (Int)|0,_,_=>none|c+1,a,d=>eO c a (yJ (d+1)) 0 def eO:Nat->zG->Int->Int->Option (Int)
 |0,_,_,_=>none|c+1,a,e,b=>if decide (b<(a.sub_.length:Int))then zO a.sub_ b>>=λx2=>if decide (e>8192)then some e else zKT c x2 e>>=λr5=>eO c a r5 (yJ (b+1))else some e end
theorem zET:∀c:Nat,(∀a d,Cz (zKT c a d) 312 [] [yX a,ai d] (λr=>ai r) (λ_=>[]) 0)/\(∀a e b,Lz (eO c a e b) 0 f312 (pt 4021 f312) (λj=>sp j 23 0 [(1,ai e),(10,zC zL a.sub_ .no),(11,ai (a.sub_.length:Int)),(12,ai b)]) ⟨[],0,[],0,[]⟩ (λr=>ai r) (λ_=>[]) 0 [.blk 0,.seq (pt 63 f312)]):=xF ⟨λ_ _=>cN,λ_ _ _=>lN⟩ λc ih=>⟨λa d=>fw func312<|fH 3 [] [] [] [1,10,11,12] (ih.2 _ _ _),λa e b=>lw λ_=>rB 0 (rA 0 (zEs (o:=.no)) λ_=>rB 2 (lE 0)<|rC 1 [] (ih.1 _ _) λ_=>lH 1 [] [] [] [1,10,11,12] (ih.2 _ _ _))<|lE 0⟩
theorem yAi{c a d}:Cz (zKT c a d) 312 [] [yX a,ai d] (λr=>ai r) (λ_=>[]) 0:=(zET _).1 _ _
def zVp(b:Nat)(a:zG):Option (Int):=zKT b a 0>>=λr1=>some r1
theorem yAh{b a}:Cz (zVp b a) 276 [] [yX a] (λr=>ai r) (λ_=>[]) 0:=fw func276<|rC 1 [] yAi λ_=>fE 0
mutual def zKU:Nat->zG->Int->Option (Int)
 |0,_,_=>none|d+1,b,a=>if decide (a>128)then some a else eP d b a 0 a def eP:Nat->zG->Int->Int->Int->Option (Int)
 |0,_,_,_,_=>none|d+1,b,a,c,e=>if decide (c<(b.sub_.length:Int))then zO b.sub_ c>>=λx3=>zKU d x3 (yJ (a+1))>>=λr5=>eP d b a (yJ (c+1)) (mN e r5)else some e end
theorem zEU:∀d:Nat,(∀b a,Cz (zKU d b a) 277 [] [yX b,ai a] (λr=>ai r) (λ_=>[]) 0)/\(∀b a c e,Lz (eP d b a c e) 0 f277 (pt 16309 f277) (λj=>sp j 27 0 [(1,ai a),(5,ai e),(13,zC zL b.sub_ .no),(14,ai (b.sub_.length:Int)),(15,ai c)]) ⟨[],0,[],0,[]⟩ (λr=>ai r) (λ_=>[]) 0 [.blk 0,.seq (pt 255 f277)]):=xF ⟨λ_ _=>cN,λ_ _ _ _=>lN⟩ λd ih=>⟨λb a=>fw func277<|rB 0 (fE 0)<|fH 2 [] [] [] [1,5,13,14,15] (ih.2 _ _ _ _),λb a c e=>lw λ_=>rB 0 (rA 0 (zEs (o:=.no)) λ_=>rC 4 [] (ih.1 _ _) λ_=>lH 2 [] [] [] [1,5,13,14,15] (ih.2 _ _ _ _))<|lE 0⟩
theorem yAg{d b a}:Cz (zKU d b a) 277 [] [yX b,ai a] (λr=>ai r) (λ_=>[]) 0:=(zEU _).1 _ _
def zOw(b:Nat)(a:zG):Option (Int):=zVp b a>>=λr1=>if decide (r1>8192)then some 129 else zKU b a 1>>=λr4=>some r4
theorem zXX{b a}:Cz (zOw b a) 234 [] [yX a] (λr=>ai r) (λ_=>[]) 0:=fw func234<|rC 1 [] yAh λ_=>rB 0 (fE 0)<|rC 1 [] yAg λ_=>fE 0
def zOv(b:Nat)(a:zG):Option (Bool):=zOw b a>>=λr1=>some (decide (r1<=128))
theorem zXY{b a}:Cz (zOv b a) 181 [] [yX a] (λr=>ab r) (λ_=>[]) 0:=fw func181<|rC 1 [] zXX λ_=>fE 1
def zRc(b:Nat)(a:Int):Option (Int):=if decide (a<1)then some (-2)else if decide (a>10)then some (-2)else zO ([0,0,0,2,2,2,0,0,(-1),0,1]:yH) a>>=λx3=>some x3
theorem yAf{b a}:Cz (zRc b a) 283 [] [ai a] (λr=>ai r) (λ_=>[]) 0:=fw func283<|rB 0 (fE 0)<|rB 0 (fE 0)<|rW (λh4=>oA 0 (zNo h4 rfl)) λ_=>fE 0
def zHz(b:Nat)(a:zG):Option (Bool):=if a.kind_==1 then kN b a.name_>>=λr2=>some r2 else if a.kind_==6 then kN b a.name_>>=λr5=>some r5 else if a.kind_==8 then kN b a.name_>>=λr8=>some r8 else if a.kind_==3 then if a.name_.toList==(⟨#[95]⟩:ByteArray).toList then some true else kN b a.name_>>=λr12=>some r12 else if a.kind_==4 then if a.name_.toList==(⟨#[95]⟩:ByteArray).toList then some true else kN b a.name_>>=λr16=>some r16 else some (a.name_.toList==(⟨#[]⟩:ByteArray).toList)
theorem zRb{b a}:Cz (zHz b a) 284 [] [yX a] (λr=>ab r) (λ_=>[]) 0:=fw func284<|rB 1 (rC 1 [] E8 λ_=>fE 0)<|rB 0 (rC 1 [] E8 λ_=>fE 0)<|rB 0 (rC 1 [] E8 λ_=>fE 0)<|rB 0 (rB 1 (fE 0)<|rC 1 [] E8 λ_=>fE 0)<|rB 0 (rB 1 (fE 0)<|rC 1 [] E8 λ_=>fE 0)<|fE 2
def zOu(b:Nat)(a:zG):Option (Bool):=zRc b a.kind_>>=λr1=>if r1==(-2)then some false else if decide (r1>=0)then if(a.sub_.length:Int)!=r1 then some false else if r1==(-1)then if(a.sub_.length:Int)==0 then some false else zHz b a>>=λr8=>if r8 then if a.kind_==2 then if decide (a.n_>=0)then some (decide (a.n_<=7))else some false else some (a.n_==0)else some false else zHz b a>>=λr13=>if r13 then if a.kind_==2 then if decide (a.n_>=0)then some (decide (a.n_<=7))else some false else some (a.n_==0)else some false else if r1==(-1)then if(a.sub_.length:Int)==0 then some false else zHz b a>>=λr20=>if r20 then if a.kind_==2 then if decide (a.n_>=0)then some (decide (a.n_<=7))else some false else some (a.n_==0)else some false else zHz b a>>=λr25=>if r25 then if a.kind_==2 then if decide (a.n_>=0)then some (decide (a.n_<=7))else some false else some (a.n_==0)else some false
theorem zXZ{b a}:Cz (zOu b a) 241 [] [yX a] (λr=>ab r) (λ_=>[]) 0:=fw func241<|rC 1 [] yAf λ_=>rB 0 (fE 0)<|rB 0 (rB 2 (fE 0)<|rB 0 (rB 2 (fE 0)<|rK 1 [] zRb (λ_=>rB 2 (rB 1 (fE 2)<|fE 0)<|fE 2) λ_=>fE 1)<|rK 1 [] zRb (λ_=>rB 2 (rB 1 (fE 2)<|fE 0)<|fE 2) λ_=>fE 1)<|rB 0 (rB 2 (fE 0)<|rK 1 [] zRb (λ_=>rB 2 (rB 1 (fE 2)<|fE 0)<|fE 2) λ_=>fE 1)<|rK 1 [] zRb (λ_=>rB 2 (rB 1 (fE 2)<|fE 0)<|fE 2) λ_=>fE 1
mutual def zEV:Nat->zG->Bool->Option (Bool)
 |0,_,_=>none|c+1,a,d=>if d then zOu c a>>=λr1=>if r1 then if !(decide (a.kind_>=6)==true)then some false else lC c a true 0 else some false else zOu c a>>=λr5=>if r5 then if !(decide (a.kind_>=6)==false)then some false else lC c a false 0 else some false def lC:Nat->zG->Bool->Int->Option (Bool)
 |0,_,_,_=>none|c+1,a,e,b=>if e then if decide (b<(a.sub_.length:Int))then zO a.sub_ b>>=λx6=>zEV c x6 (a.kind_ !=10)>>=λr8=>if r8 then lC c a true (yJ (b+1))else some false else some true else if decide (b<(a.sub_.length:Int))then zO a.sub_ b>>=λx12=>zEV c x12 false>>=λr14=>if r14 then lC c a false (yJ (b+1))else some false else some true end
theorem zEW:∀c:Nat,(∀a d,Cz (zEV c a d) 182 [] [yX a,ab d] (λr=>ab r) (λ_=>[]) 0)/\(∀a e b,Lz (lC c a e b) 0 f182 (pt 4021 f182) (λj=>sp j 34 0 [(1,ab e),(2,.mp 0 0),(18,zC zL a.sub_ .no),(19,ai (a.sub_.length:Int)),(20,ai b)]) ⟨[(0,.cells [ai a.kind_,ai a.at_,at' a.name_,ai a.n_,zC zL a.sub_ .no])],1,[],0,[]⟩ (λr=>ab r) (λ_=>[]) 0 [.blk 0,.seq (pt 63 f182)]):=xF ⟨λ_ _=>cN,λ_ _ _=>lN⟩ λc ih=>⟨λa d=>fw func182<|rI (λhb=>by subst hb;exact rK 1 [] zXZ (λ_=>rB 3 (fE 0)<|fH 2 [] [0] [] [1,2,18,19,20] (ih.2 _ _ _)) λ_=>fE 1) λhb=>by subst hb;exact rK 1 [] zXZ (λ_=>rB 3 (fE 0)<|fH 2 [] [0] [] [1,2,18,19,20] (ih.2 _ _ _)) λ_=>fE 1,λa e b=>lw λ_=>rI (λhb=>by subst hb;exact rB 0 (rA 0 (zEs (o:=.no)) λ_=>rK 5 [] (ih.1 _ _) (λ_=>lH 2 [] [0] [] [1,2,18,19,20] (ih.2 _ _ _)) λ_=>lE 1)<|lE 0) λhb=>by subst hb;exact rB 0 (rA 0 (zEs (o:=.no)) λ_=>rK 3 [] (ih.1 _ _) (λ_=>lH 2 [] [0] [] [1,2,18,19,20] (ih.2 _ _ _)) λ_=>lE 1)<|lE 0⟩
theorem zYz{c a d}:Cz (zEV c a d) 182 [] [yX a,ab d] (λr=>ab r) (λ_=>[]) 0:=(zEW _).1 _ _
def zHy(b:Nat)(a:zG):Option (Bool):=zOv b a>>=λr1=>if r1 then zEV b a false>>=λr4=>some r4 else some false
theorem zRa{b a}:Cz (zHy b a) 117 [] [yX a] (λr=>ab r) (λ_=>[]) 0:=fw func117<|rK 1 [] zXY (λ_=>rC 1 [] zYz λ_=>fE 0) λ_=>fE 0
def eQ:Nat->(List yC)->Int->Int->Option (Bool)
 |0,_,_,_=>none|c+1,a,b,d=>if decide (d<(a.length:Int))then zO a d>>=λx2=>if decide ((a.length:Int)>b)then some false else kN c x2.name_>>=λr5=>if r5 then zHy c x2.type_>>=λr8=>if r8 then eQ c a b (yJ (d+1))else some false else some false else some true
def zOt(c:Nat)(a:List yC)(b:Int):Option (Bool):=eQ c a b 0
theorem zRA:∀c:Nat,∀a b d,Lz (eQ c a b d) 0 f118 (pt 949 f118) (λj=>sp j 30 0 [(0,zC zF a .no),(1,ai b),(7,zC zF a .no),(8,ai (a.length:Int)),(9,ai d)]) ⟨[],0,[],0,[]⟩ (λr=>ab r) (λ_=>[]) 0 [.blk 0,.seq (pt 15 f118)]:=xF (λ_ _ _=>lN) λc ih=>λa b d=>lw λ_=>rB 0 (rA 0 (Y3 (o:=.no)) λ_=>rB 3 (lE 0)<|rK 1 [] E8 (λ_=>rK 2 [] zRa (λ_=>lH 2 [] [] [] [0,1,7,8,9] (ih _ _ _)) λ_=>lE 1) λ_=>lE 1)<|lE 0
theorem zYy{c a b}:Cz (zOt c a b) 118 [] [zC zF a .no,ai b] (λr=>ab r) (λ_=>[]) 0:=fw func118<|fH 1 [] [] [] [0,1,7,8,9] (zRA _ _ _ _)
def zRB(b:Nat)(a:zG):Option (Bool):=zOv b a>>=λr1=>if r1 then zEV b a true>>=λr4=>some r4 else some false
theorem yAe{b a}:Cz (zRB b a) 183 [] [yX a] (λr=>ab r) (λ_=>[]) 0:=fw func183<|rK 1 [] zXY (λ_=>rC 1 [] zYz λ_=>fE 0) λ_=>fE 0
def eR:Nat->xQ->Int->Option (Bool)
 |0,_,_=>none|c+1,a,b=>if decide (b<(a.pats_.length:Int))then zO a.pats_ b>>=λx3=>zRB c x3>>=λr5=>if r5 then eR c a (yJ (b+1))else some false else if a.has_ then zHy c a.body_>>=λr9=>some r9 else if a.body_.kind_==0 then if a.body_.at_==0 then if a.body_.name_.toList==(⟨#[]⟩:ByteArray).toList then if a.body_.n_==0 then some ((a.body_.sub_.length:Int)==0)else some false else some false else some false else some false
def zVo(c:Nat)(a:xQ):Option (Bool):=if decide ((a.pats_.length:Int)>24)then some false else eR c a 0
theorem zRC:∀c:Nat,∀a b,Lz (eR c a b) 0 f119 (pt 4021 f119) (λj=>sp j 52 0 [(1,.mp 0 0),(11,zC zL a.pats_ .no),(12,ai (a.pats_.length:Int)),(13,ai b)]) ⟨[(0,.cells [ai a.at_,zC zL a.pats_ .no,ab a.has_,ai a.body_.kind_,ai a.body_.at_,at' a.body_.name_,ai a.body_.n_,zC zL a.body_.sub_ .no])],1,[],0,[]⟩ (λr=>ab r) (λ_=>[]) 0 [.blk 0,.seq (pt 63 f119)]:=xF (λ_ _=>lN) λc ih=>λa b=>lw λ_=>rB 0 (rA 0 (zEs (o:=.no)) λ_=>rK 3 [] yAe (λ_=>lH 2 [] [0] [] [1,11,12,13] (ih _ _)) λ_=>lE 1)<|rB 0 (rC 1 [] zRa λ_=>lE 0)<|rB 3 (rB 1 (rB 1 (rB 1 (lE 3)<|lE 0)<|lE 0)<|lE 0)<|lE 0
theorem yAd{c a}:Cz (zVo c a) 119 [] [zEw a] (λr=>ab r) (λ_=>[]) 0:=fw func119<|rB 2 (fE 0)<|fH 2 [] [0] [] [1,11,12,13] (zRC _ _ _)
def lV:Nat->yM->Int->Option (Bool)|0,_,_=>none|b+1,a,c=>if decide (c<(a.rows_.length:Int))then zO a.rows_ c>>=λx21=>zVo b x21>>=λr23=>if r23 then lV b a (yJ (c+1))else some false else some true
def e56(b:Nat)(a:yM):Option (Bool):=if decide (a.kind_<1)then some false else if decide (a.kind_>3)then some false else kN b a.name_>>=λr3=>if r3 then zHy b a.type_>>=λr6=>if r6 then zOt b a.tele_ 24>>=λr9=>if r9 then zOt b a.cons_ 16>>=λr12=>if r12 then if a.kind_==3 then if decide ((yJ ((a.tele_.length:Int)+(a.cons_.length:Int)))>0)then some false else if a.kind_ !=3 then if decide ((a.rows_.length:Int)>0)then some false else if decide ((a.rows_.length:Int)>32)then some false else lV b a 0 else if decide ((a.rows_.length:Int)>32)then some false else lV b a 0 else if a.kind_ !=3 then if decide ((a.rows_.length:Int)>0)then some false else if decide ((a.rows_.length:Int)>32)then some false else lV b a 0 else if decide ((a.rows_.length:Int)>32)then some false else lV b a 0 else some false else some false else some false else some false
theorem zCc:∀b:Nat,∀a c,Lz (lV b a c) 0 f56 (pt 16309 f56) (λj=>sp j 78 0 [(68,zC zU a.rows_ .no),(69,ai (a.rows_.length:Int)),(70,ai c)]) ⟨[],0,[],0,[]⟩ (λr=>ab r) (λ_=>[]) 0 [.blk 0,.seq (pt 255 f56)]:=xF (λ_ _=>lN) λb ih=>λa c=>lw λ_=>rB 0 (rA 0 (zZT (o:=.no)) λ_=>rK 3 [] yAd (λ_=>lH 2 [] [] [] [68,69,70] (ih _ _)) λ_=>lE 1)<|lE 0
theorem c56{b a}:Cz (e56 b a) 56 [] [J9 a] (λr=>ab r) (λ_=>[]) 0:=fw func56<|rB 1 (fE 0)<|rB 1 (fE 0)<|rK 1 [] E8 (λ_=>rK 2 [] zRa (λ_=>rK 2 [] zYy (λ_=>rK 2 [] zYy (λ_=>rB 2 (rB 5 (fE 0)<|rB 1 (rB 2 (fE 0)<|rB 2 (fE 0)<|fH 2 [] [] [] [68,69,70] (zCc _ _ _))<|rB 2 (fE 0)<|fH 2 [] [] [] [68,69,70] (zCc _ _ _))<|rB 1 (rB 2 (fE 0)<|rB 2 (fE 0)<|fH 2 [] [] [] [68,69,70] (zCc _ _ _))<|rB 2 (fE 0)<|fH 2 [] [] [] [68,69,70] (zCc _ _ _)) λ_=>fE 1) λ_=>fE 1) λ_=>fE 1) λ_=>fE 1
mutual def gV:zG->Prop|.mk _ _ _ _ l=>l.length<=1099511627776/\zAs l def zAs:List zG->Prop|[]=>True|t::l=>gV t/\zAs l end
mutual def ndN:zG->Nat|.mk _ _ _ _ l=>1+ndL l def ndL:List zG->Nat|[]=>0|t::l=>ndN t+ndL l end
inductive XOk:zG->Prop where|leaf{k a n m l}(h:k=1\/k=2):XOk (.mk k a n m l)|two{k a n m x y}(h:k=3\/k=4\/k=5)(hx:XOk x)(hy:XOk y):XOk (.mk k a n m [x,y])
def xL:List zG->Prop|[]=>True|x::l=>XOk x/\xL l
mutual theorem zAR:∀(t:zG)(h:Int),gV t->0<=h->h<=8192->zD (λq=>zKT q t h) λr=>h<r/\r<=8193/\(r<=8192->h+ndN t<=r)|.mk k a n m l,h,ho,h0,h1=>by refine zD.succ ?_;simp only[zKT];rw[zS (by omega) (by omega)];refine(y4 l (.mk k a n m l) 0 (h+1) rfl ho.1 ho.2 (by omega) (by omega)).mono λr hr=>⟨by omega,hr.2.1,λh2=>?_⟩;have:=hr.2.2 h2;rw[ndN];omega theorem y4:∀(l:List zG)(p:zG)(v:Nat)(h:Int),p.sub_.drop v=l->p.sub_.length<=1099511627776->zAs l->0<=h->h<=8193->zD (λq=>eO q p h (v:Int)) λr=>h<=r/\r<=8193/\(r<=8192->h+ndL l<=r)
 |[],p,v,h,hd,hl,ho,h0,h1=>by refine zD.succ ?_;simp only[eO];refine zD.ite (λh=>?_) λ_=>zD.ret ⟨by omega,h1,λ_=>by rw[ndL];omega⟩;rw[yE hd]at h;cases h|t::l,p,v,h,hd,hl,ho,h0,h1=>by
  have:=yK hd;refine zD.succ ?_;simp only[eO];refine zD.ite (λ_=>zD.pure (zY hd) (zD.ite (λh2=>zD.ret ⟨by omega,h1,λh3=>absurd h3 (by have:=of_decide_eq_true h2;omega)⟩) λh2=>?_)) λh=>by rw[yD hd]at h;cases h
  have h3:=of_decide_eq_false h2;refine(zAR t h ho.1 h0 (by omega)).bind λr hr=>?_;rw[zV v (by omega)];refine(y4 l p (v+1) r (zR hd) hl ho.2 (by omega) hr.2.1).mono λs hs=>⟨by omega,hs.2.1,λh4=>?_⟩;have:=hs.2.2 h4;have:=hr.2.2 (by omega);rw[ndL];omega end
mutual theorem zAS:∀(t:zG)(a:Int),gV t->zD (λq=>zKU q t a) λ_=>True|.mk k b n m l,a,ho=>by refine zD.succ ?_;simp only[zKU];exact zD.ite (λ_=>zD.ret trivial) λ_=>y9 l (.mk k b n m l) 0 a a rfl ho.1 ho.2 theorem y9:∀(l:List zG)(p:zG)(v:Nat)(a m:Int),p.sub_.drop v=l->p.sub_.length<=1099511627776->zAs l->zD (λq=>eP q p a (v:Int) m) λ_=>True
 |[],p,v,a,m,hd,hl,ho=>by refine zD.succ ?_;simp only[eP];refine zD.ite (λh=>?_) λ_=>zD.ret trivial;rw[yE hd]at h;cases h|t::l,p,v,a,m,hd,hl,ho=>by
  have:=yK hd;refine zD.succ ?_;simp only[eP];refine zD.ite (λ_=>zD.pure (zY hd) ((zAS t _ ho.1).bind λr _=>?_)) λh=>by rw[yD hd]at h;cases h
  rw[zV v (by omega)];exact y9 l p (v+1) a _ (zR hd) hl ho.2 end
theorem w3(t:zG)(ho:gV t):zD (λq=>zOw q t) λr=>r<=128->ndN t<=8192:=by simp only[zOw,zVp];refine((zAR t 0 ho (by omega) (by omega)).bind (Q:=λr:Int=>r<=8192->ndN t<=8192) λr hr=>zD.ret λh=>by have:=hr.2.2 h;omega).bind λr hr=>zD.ite (λ_=>zD.ret λh=>absurd h (by decide)) λh=>?_;have h2:=of_decide_eq_false h;exact(zAS t 1 ho).bind λs _=>zD.ret λ_=>hr (by omega)
theorem zAT(t:zG)(ho:gV t):zD (λq=>zOv q t) λb=>b=true->ndN t<=8192:=by simp only[zOv];exact(w3 t ho).bind λr hr=>zD.ret λh=>hr (of_decide_eq_true h)
theorem zKV(k:Int):zD (λq=>zRc q k) λr=>(k=3\/k=4\/k=5->r=2)/\(k<1\/10<k->r=-2):=by
 simp only[zRc];refine zD.ite (λh=>zD.ret ⟨λh2=>absurd (of_decide_eq_true h) (by omega),λ_=>rfl⟩) λh=>zD.ite (λh=>zD.ret ⟨λh2=>absurd (of_decide_eq_true h) (by omega),λ_=>rfl⟩) λh2=>?_;have h3:=of_decide_eq_false h;have h4:=of_decide_eq_false h2;have:k=1\/k=2\/k=3\/k=4\/k=5\/k=6\/k=7\/k=8\/k=9\/k=10:=by omega
 rcases this with rfl|rfl|rfl|rfl|rfl|rfl|rfl|rfl|rfl|rfl<;>exact zD.pure rfl (zD.ret (by decide))
theorem zAU(t:zG):zD (λq=>zHz q t) λ_=>True:=by simp only[zHz];repeat'(first|exact zD.ret trivial|refine zD.ite (λ_=>?_) (λ_=>?_)|refine zD.bind (sC _) (λ_ _=>?_))
theorem zAV(t:zG):zD (λq=>zOu q t) λb=>b=true->(1<=t.kind_/\t.kind_<=10)/\(t.kind_=3\/t.kind_=4\/t.kind_=5->t.sub_.length=2):=by
 simp only[zOu];refine(zKV t.kind_).bind λr hr=>zD.ite (λ_=>zD.ret (by simp)) λh=>?_;have h1:r≠-2:=by simpa using h
 have k1:1<=t.kind_/\t.kind_<=10:=⟨Int.not_lt.1 λh=>h1 (hr.2 (.inl h)),Int.not_lt.1 λh=>h1 (hr.2 (.inr h))⟩;have go:((t.kind_=3\/t.kind_=4\/t.kind_=5)->t.sub_.length=2)->∀b:Bool,zD (λ_=>some b) λb=>b=true->(1<=t.kind_/\t.kind_<=10)/\(t.kind_=3\/t.kind_=4\/t.kind_=5->t.sub_.length=2):=λh b=>zD.ret λ_=>⟨k1,h⟩;refine zD.ite (λh2=>zD.ite (λ_=>zD.ret (by simp)) λh3=>?_) λh2=>?_
 ·have h4:(t.sub_.length:Int)=r:=by simpa using h3
  have e:(t.kind_=3\/t.kind_=4\/t.kind_=5)->t.sub_.length=2:=λh=>by have:=hr.1 h;omega
  repeat'(first|exact go e _|refine zD.ite (λ_=>?_) (λ_=>?_)|refine zD.bind (zAU _) (λ_ _=>?_))
 ·have e:(t.kind_=3\/t.kind_=4\/t.kind_=5)->t.sub_.length=2:=λh=>by have:=hr.1 h;have:=of_decide_eq_false h2;omega
  repeat'(first|exact go e _|refine zD.ite (λ_=>?_) (λ_=>?_)|refine zD.bind (zAU _) (λ_ _=>?_))
mutual theorem eS:∀(t:zG)(p:Bool),gV t->zD (λq=>zEV q t p) λb=>b=true->p=false->XOk t|.mk k a n m l,p,ho=>by refine zD.succ ?_;simp only[zEV];cases p with|true=>refine zD.ite (λ_=>(zAV _).bind λ_ _=>zD.ite (λ_=>zD.ite (λ_=>zD.ret (by simp)) λ_=>?_) λ_=>zD.ret (by simp)) λh=>nomatch h;exact(jS l (.mk k a n m l) 0 true rfl ho.1 ho.2).mono λ_ _ _ h=>nomatch h|false=>
  refine zD.ite (λh=>nomatch h) λ_=>(zAV _).bind λb hb=>zD.ite (λh1=>zD.ite (λ_=>zD.ret (by simp)) λh2=>?_) λ_=>zD.ret (by simp);refine(jS l (.mk k a n m l) 0 false rfl ho.1 ho.2).mono λc hc h3 _=>?_;have hk:=hb h1;have hx:=hc h3 rfl;simp only[zG.kind_,zG.sub_]at hk h2;have h4:k<6:=by simpa using h2
  have:(k=1\/k=2)\/(k=3\/k=4\/k=5):=by omega
  rcases this with h5|h5;·exact .leaf h5
  ·have hl:=hk.2 h5;match l,hl,hx with|[x,y],_,hx=>exact .two h5 hx.1 hx.2.1 theorem jS:∀(l:List zG)(t:zG)(v:Nat)(p:Bool),t.sub_.drop v=l->t.sub_.length<=1099511627776->zAs l->zD (λq=>lC q t p (v:Int)) λb=>b=true->p=false->xL l
 |[],t,v,p,hd,hl,ho=>by refine zD.succ ?_;simp only[lC];cases p<;>refine zD.ite (λh=>zD.ite (λh=>?_) λ_=>zD.ret λ_ _=>trivial) λh=>zD.ite (λh=>?_) λ_=>zD.ret λ_ _=>trivial<;>first|(rw[yE hd]at h;cases h)|cases h
 |x::l,t,v,p,hd,hl,ho=>by have:=yK hd;refine zD.succ ?_;simp only[lC];rw[zV v (by omega)];cases p with|true=>refine zD.ite (λ_=>zD.ite (λ_=>zD.pure (zY hd) ((eS x _ ho.1).bind λ_ _=>zD.ite (λ_=>?_) λ_=>zD.ret (by simp))) λh=>by rw[yD hd]at h;cases h) λh=>nomatch h;exact(jS l t (v+1) true (zR hd) hl ho.2).mono λ_ _ _ h=>nomatch h|false=>
  refine zD.ite (λh=>nomatch h) λ_=>zD.ite (λ_=>zD.pure (zY hd) ((eS x _ ho.1).bind λb hb=>zD.ite (λh1=>?_) λ_=>zD.ret (by simp))) λh=>by rw[yD hd]at h;cases h
  exact(jS l t (v+1) false (zR hd) hl ho.2).mono λc hc h2 h3=>⟨hb h1 rfl,hc h2 h3⟩end
theorem F4(t:zG)(ho:gV t):zD (λq=>zHy q t) λb=>b=true->XOk t/\ndN t<=8192:=by simp only[zHy];exact(zAT t ho).bind λb hb=>zD.ite (λh=>(eS t false ho).bind λc hc=>zD.ret λh2=>⟨hc h2 rfl,hb h⟩) λ_=>zD.ret (by simp)
theorem zEX(t:zG)(ho:gV t):zD (λq=>zRB q t) λ_=>True:=by simp only[zRB];exact(zAT t ho).bind λb hb=>zD.ite (λh=>(eS t true ho).bind λc hc=>zD.ret trivial) λ_=>zD.ret trivial
def bOk(l:List yC):Prop:=∀b∈l,gV b.type_
theorem w5(most:Int):∀(r l:List yC)(v:Nat),l.drop v=r->l.length<=1099511627776->bOk l->zD (λq=>eQ q l most (v:Int)) λb=>b=true->r≠[]->l.length<=most
 |[],l,v,hd,hl,ho=>by refine zD.succ ?_;simp only[eQ];refine zD.ite (λh=>?_) λ_=>zD.ret λ_ h=>absurd rfl h;rw[yE hd]at h;cases h|x::r,l,v,hd,hl,ho=>by
  have:=yK hd;have hm:x∈l:=List.mem_of_mem_drop (hd▸List.mem_cons_self ..);refine zD.succ ?_;simp only[eQ];refine zD.ite (λ_=>zD.pure (zY hd) (zD.ite (λ_=>zD.ret (by simp)) λh=>(sC _).bind λ_ _=>zD.ite (λ_=>(F4 _ (ho x hm)).bind λ_ _=>zD.ite (λ_=>?_) λ_=>zD.ret (by simp)) λ_=>zD.ret (by simp))) λh=>by rw[yD hd]at h;cases h
  rw[zV v (by omega)];have h2:=of_decide_eq_false h;exact(w5 most r l (v+1) (zR hd) hl ho).mono λ_ _ _ _=>by omega
theorem zAW(l:List yC)(most:Int)(hm:0<=most)(hl:l.length<=1099511627776)(ho:bOk l):zD (λq=>zOt q l most) λb=>b=true->l.length<=most:=by simp only[zOt];refine(w5 most l l 0 rfl hl ho).mono λb hb h=>?_;cases l with|nil=>exact hm|cons x l=>exact hb h (by simp)
def F5(r:xQ):Prop:=r.pats_.length<=1099511627776/\(∀p∈r.pats_,gV p)/\gV r.body_
theorem zAX(x:xQ)(ho:F5 x):∀(r:List zG)(v:Nat),x.pats_.drop v=r->zD (λq=>eR q x (v:Int)) λ_=>True
 |[],v,hd=>by
  refine zD.succ ?_;simp only[eR];refine zD.ite (λh=>?_) λ_=>?_;·rw[yE hd]at h;cases h
  ·repeat'(first|exact zD.ret trivial|refine zD.ite (λ_=>?_) (λ_=>?_)|refine zD.bind (F4 _ ho.2.2) (λ_ _=>?_))|y::r,v,hd=>by
  have:=yK hd;have:=ho.1;have hm:y∈x.pats_:=List.mem_of_mem_drop (hd▸List.mem_cons_self ..);refine zD.succ ?_;simp only[eR];refine zD.ite (λ_=>zD.pure (zY hd) ((zEX _ (ho.2.1 y hm)).bind λ_ _=>zD.ite (λ_=>?_) λ_=>zD.ret trivial)) λh=>by rw[yD hd]at h;cases h
  rw[zV v (by omega)];exact zAX x ho r (v+1) (zR hd)
def dOk(d:yM):Prop:=gV d.type_/\(d.tele_.length<=100000/\bOk d.tele_)/\(d.cons_.length<=100000/\bOk d.cons_)/\d.rows_.length<=100000/\∀r∈d.rows_,F5 r
theorem w6(d:yM)(ho:dOk d):∀(r:List xQ)(v:Nat),d.rows_.drop v=r->zD (λq=>lV q d (v:Int)) λ_=>True
 |[],v,hd=>by refine zD.succ ?_;simp only[lV];refine zD.ite (λh=>?_) λ_=>zD.ret trivial;rw[yE hd]at h;cases h|y::r,v,hd=>by
  have:=yK hd;have:=ho.2.2.2.1;have hm:y∈d.rows_:=List.mem_of_mem_drop (hd▸List.mem_cons_self ..);refine zD.succ ?_;simp only[lV,zVo];refine zD.ite (λ_=>zD.pure (zY hd) (zD.bind (P:=λ_=>True) (zD.ite (λ_=>zD.ret trivial) λ_=>zAX y (ho.2.2.2.2 y hm) y.pats_ 0 rfl) λ_ _=>zD.ite (λ_=>?_) λ_=>zD.ret trivial)) λh=>by rw[yD hd]at h;cases h
  rw[zV v (by omega)];exact w6 d ho r (v+1) (zR hd)
def R1(g:Nat)(c:List zM)(d b a e f:Int):Option (Int×Int):=if a==0 then some (f,e)else some (b,a)
theorem zCb{g c d b a e f}:Cz (R1 g c d b a e f) 106 [.cells [zC zI c .no,ai d,ai b,ai a]] [.mp 0 0,ai e,ai f] (λ_=>.tup []) (λr=>[.cells [zC zI c .no,ai d,ai r.1,ai r.2]]) 0:=fw func106<|rB 1 (fE 2)<|fE 0
def eT(f:Nat)(a:List zM)(c d b e:Int):Option (zM):=if decide ((yJ (c+e))>=(a.length:Int))then zO a (yJ ((a.length:Int)-1))>>=λx2=>some x2 else zO a (yJ (c+e))>>=λx4=>some x4
theorem aM{f a c d b e}:Cz (eT f a c d b e) 54 [.cells [zC zI a .no,ai c,ai d,ai b]] [.mp 0 0,ai e] (λr=>O5 r) (λ_=>[.cells [zC zI a .no,ai c,ai d,ai b]]) 0:=fw func54<|rB 4 (rA 4 (zUv (o:=.no)) λ_=>fE 2)<|rA 3 (zUv (o:=.no)) λ_=>fE 2
def zKW(f:Nat)(c:List zM)(d b a e:Int):Option (Bool):=eT f c d b a e>>=λr1=>if r1.kind_==1 then eT f c d b a e>>=λr4=>some (!(r4.text_.toList==(⟨#[95]⟩:ByteArray).toList))else some false
theorem zVn{f c d b a e}:Cz (zKW f c d b a e) 173 [.cells [zC zI c .no,ai d,ai b,ai a]] [.mp 0 0,ai e] (λr=>ab r) (λ_=>[.cells [zC zI c .no,ai d,ai b,ai a]]) 0:=fw func173<|rC 0 [0] aM λ_=>rB 0 (rC 0 [0] aM λ_=>fE 1)<|fE 0
def w7(e:Nat)(d:List zM)(c b a:Int):Option (ByteArray×Int×Int×Int):=zKW e d c b a 0>>=λr1=>if r1 then if a !=0 then some ((⟨#[]⟩:ByteArray),c,b,a)else eT e d (yJ (c+1)) b a (-1)>>=λr5=>some (r5.text_,(yJ (c+1)),b,a)else eT e d c b a 0>>=λr7=>R1 e d c b a 1 r7.at_>>=λr9=>if r9.2 !=0 then some ((⟨#[]⟩:ByteArray),c,r9.1,r9.2)else eT e d (yJ (c+1)) r9.1 r9.2 (-1)>>=λr12=>some (r12.text_,(yJ (c+1)),r9.1,r9.2)
theorem zEY{e d c b a}:Cz (w7 e d c b a) 107 [.cells [zC zI d .no,ai c,ai b,ai a]] [.mp 0 0] (λr=>at' r.1) (λr=>[.cells [zC zI d .no,ai r.2.1,ai r.2.2.1,ai r.2.2.2]]) 0:=fw func107<|rK 0 [0] zVn (λ_=>rB 2 (fE 0)<|rC 3 [0] aM λ_=>fE 0) λ_=>rC 1 [0] aM λ_=>rC 0 [0] zCb λ_=>rB 1 (fE 0)<|rC 3 [0] aM λ_=>fE 0
def mH(g:Nat)(c:List zM)(d b a f:Int)(e:ByteArray):Option (Bool):=eT g c d b a f>>=λr1=>if r1.kind_==4 then some (r1.text_.toList==e.toList)else if r1.kind_==2 then some (r1.text_.toList==e.toList)else some false
theorem kP{g c d b a f e}:Cz (mH g c d b a f e) 172 [.cells [zC zI c .no,ai d,ai b,ai a]] [.mp 0 0,ai f,at' e] (λr=>ab r) (λ_=>[.cells [zC zI c .no,ai d,ai b,ai a]]) 0:=fw func172<|rC 0 [0] aM λ_=>rB 2 (fE 2)<|rB 1 (fE 2)<|fE 0
def qI(e:Nat)(d:List zM)(c b a:Int)(f:ByteArray):Option (Int×Int×Int):=mH e d c b a 0 f>>=λr1=>if r1 then if a==0 then some ((yJ (c+1)),b,a)else some (c,b,a)else eT e d c b a 0>>=λr5=>R1 e d c b a 1 r5.at_>>=λr7=>if r7.2==0 then some ((yJ (c+1)),r7.1,r7.2)else some (c,r7.1,r7.2)
theorem mI{e d c b a f}:Cz (qI e d c b a f) 111 [.cells [zC zI d .no,ai c,ai b,ai a]] [.mp 0 0,at' f] (λ_=>.tup []) (λr=>[.cells [zC zI d .no,ai r.1,ai r.2.1,ai r.2.2]]) 0:=fw func111<|rK 0 [0] kP (λ_=>rB 2 (fE 3)<|fE 0) λ_=>rC 1 [0] aM λ_=>rC 0 [0] zCb λ_=>rB 1 (fE 3)<|fE 0
def zOs(e:Nat)(c:List zM)(d b a:Int):Option (Bool):=mH e c d b a 0 (⟨#[40]⟩:ByteArray)>>=λr1=>if r1 then eT e c d b a 1>>=λr4=>if r4.kind_==1 then mH e c d b a 2 (⟨#[58]⟩:ByteArray)>>=λr7=>some r7 else some false else some false
theorem zYx{e c d b a}:Cz (zOs e c d b a) 236 [.cells [zC zI c .no,ai d,ai b,ai a]] [.mp 0 0] (λr=>ab r) (λ_=>[.cells [zC zI c .no,ai d,ai b,ai a]]) 0:=fw func236<|rK 0 [0] kP (λ_=>rC 0 [0] aM λ_=>rB 0 (rC 0 [0] kP λ_=>fE 0)<|fE 0) λ_=>fE 0
def zRD(e:Nat)(c:List zM)(d b a:Int):Option (ByteArray×Int×Int×Int):=eT e c d b a 0>>=λr1=>if r1.kind_==1 then if a==0 then eT e c (yJ (d+1)) b a (-1)>>=λr5=>some (r5.text_,(yJ (d+1)),b,a)else w7 e c d b a>>=λr7=>some (r7.1,r7.2.1,r7.2.2.1,r7.2.2.2)else w7 e c d b a>>=λr9=>some (r9.1,r9.2.1,r9.2.2.1,r9.2.2.2)
theorem yAc{e c d b a}:Cz (zRD e c d b a) 278 [.cells [zC zI c .no,ai d,ai b,ai a]] [.mp 0 0] (λr=>at' r.1) (λr=>[.cells [zC zI c .no,ai r.2.1,ai r.2.2.1,ai r.2.2.2]]) 0:=fw func278<|rC 0 [0] aM λ_=>rB 0 (rB 1 (rC 3 [0] aM λ_=>fE 0)<|rC 0 [0] zEY λ_=>fE 0)<|rC 0 [0] zEY λ_=>fE 0
def zRE(e:Nat)(c:List zM)(d b a:Int):Option (Bool):=zKW e c d b a 0>>=λr1=>if r1 then some true else mH e c d b a 0 (⟨#[83,101,116]⟩:ByteArray)>>=λr4=>if r4 then some true else mH e c d b a 0 (⟨#[40]⟩:ByteArray)>>=λr7=>if r7 then zOs e c d b a>>=λr10=>some (!r10)else some false
theorem zYw{e c d b a}:Cz (zRE e c d b a) 280 [.cells [zC zI c .no,ai d,ai b,ai a]] [.mp 0 0] (λr=>ab r) (λ_=>[.cells [zC zI c .no,ai d,ai b,ai a]]) 0:=fw func280<|rK 0 [0] zVn (λ_=>fE 0) λ_=>rK 0 [0] kP (λ_=>fE 0) λ_=>rK 0 [0] kP (λ_=>rC 0 [0] zYx λ_=>fE 1) λ_=>fE 0
def zRF(e:Nat)(d:List zM)(c b a:Int):Option (zG×Int×Int×Int):=eT e d c b a 0>>=λr1=>eT e d (yJ (c+1)) b a 0>>=λr3=>if r3.kind_==3 then eT e d (yJ (c+1)) b a 0>>=λr6=>zOz e r6.text_>>=λr8=>if decide (r8.1>7)then eT e d (yJ (c+1)) b a 0>>=λr11=>R1 e d (yJ (c+1)) b a 1 r11.at_>>=λr13=>some ((zG.mk 2 r1.at_ (⟨#[]⟩:ByteArray) r8.1 []),(yJ ((yJ (c+1))+1)),r13.1,r13.2)else some ((zG.mk 2 r1.at_ (⟨#[]⟩:ByteArray) r8.1 []),(yJ ((yJ (c+1))+1)),b,a)else some ((zG.mk 2 r1.at_ (⟨#[]⟩:ByteArray) 0 []),(yJ (c+1)),b,a)
theorem yAb{e d c b a}:Cz (zRF e d c b a) 313 [.cells [zC zI d .no,ai c,ai b,ai a]] [.mp 0 0] (λr=>yX r.1) (λr=>[.cells [zC zI d .no,ai r.2.1,ai r.2.2.1,ai r.2.2.2]]) 0:=fw func313<|rC 0 [0] aM λ_=>rC 4 [0] aM λ_=>rB 0 (rC 0 [0] aM λ_=>rC 0 [] zXW λ_=>rB 2 (rC 0 [0] aM λ_=>rC 0 [0] zCb λ_=>fE 6)<|fE 6)<|fE 2
mutual def zAr:Nat->(List zM)->Int->Int->Int->Option (zG×Int×Int×Int)
 |0,_,_,_,_=>none|p+1,b,d,c,a=>eT p b d c a 0>>=λr1=>if a !=0 then some ((zG.mk 0 0 (⟨#[]⟩:ByteArray) 0 []),d,c,a)else mH p b d c a 0 (⟨#[92]⟩:ByteArray)>>=λr4=>if r4 then zOr p b (yJ (d+1)) c a 4 r1.at_>>=λr7=>some (r7.1,r7.2.1,r7.2.2.1,r7.2.2.2)else zOs p b d c a>>=λr9=>if r9 then zOr p b d c a 3 r1.at_>>=λr12=>some (r12.1,r12.2.1,r12.2.2.1,r12.2.2.2)else zRG p b d c a>>=λr14=>if r14.2.2.2==0 then mH p b r14.2.1 r14.2.2.1 r14.2.2.2 0 (⟨#[45,62]⟩:ByteArray)>>=λr17=>if r17 then zAr p b (yJ (r14.2.1+1)) r14.2.2.1 r14.2.2.2>>=λr20=>some ((zG.mk 3 r14.1.at_ (⟨#[95]⟩:ByteArray) 0 [r14.1,r20.1]),r20.2.1,r20.2.2.1,r20.2.2.2)else some (r14.1,r14.2.1,r14.2.2.1,r14.2.2.2)else some (r14.1,r14.2.1,r14.2.2.1,r14.2.2.2)def zOr:Nat->(List zM)->Int->Int->Int->Int->Int->Option (zG×Int×Int×Int)|0,_,_,_,_,_,_=>none|p+1,b,d,c,a,t,u=>qI p b d c a (⟨#[40]⟩:ByteArray)>>=λr1=>zRD p b r1.1 r1.2.1 r1.2.2>>=λr3=>qI p b r3.2.1 r3.2.2.1 r3.2.2.2 (⟨#[58]⟩:ByteArray)>>=λr5=>zAr p b r5.1 r5.2.1 r5.2.2>>=λr7=>qI p b r7.2.1 r7.2.2.1 r7.2.2.2 (⟨#[41]⟩:ByteArray)>>=λr9=>qI p b r9.1 r9.2.1 r9.2.2 (⟨#[45,62]⟩:ByteArray)>>=λr11=>zAr p b r11.1 r11.2.1 r11.2.2>>=λr13=>some ((zG.mk t u r3.1 0 [r7.1,r13.1]),r13.2.1,r13.2.2.1,r13.2.2.2)def zRG:Nat->(List zM)->Int->Int->Int->Option (zG×Int×Int×Int)|0,_,_,_,_=>none|p+1,b,d,c,a=>zHw p b d c a>>=λr1=>eU p b r1 r1.2.1 r1.2.2.1 r1.2.2.2 r1.1.kind_ r1.1.name_ r1.1.n_ r1.1.sub_ def eU:Nat->(List zM)->(zG×Int×Int×Int)->Int->Int->Int->Int->ByteArray->Int->(List zG)->Option (zG×Int×Int×Int)
 |0,_,_,_,_,_,_,_,_,_=>none|p+1,b,r1,q,s,e,f,g,m,n=>if e==0 then zRE p b q s e>>=λr4=>if r4 then zHw p b q s e>>=λr7=>eU p b r1 r7.2.1 r7.2.2.1 r7.2.2.2 5 (⟨#[]⟩:ByteArray) 0 [(zG.mk f r1.1.at_ g m n),r7.1]else some ((zG.mk f r1.1.at_ g m n),q,s,e)else some ((zG.mk f r1.1.at_ g m n),q,s,e)def zHw:Nat->(List zM)->Int->Int->Int->Option (zG×Int×Int×Int)
 |0,_,_,_,_=>none|p+1,b,d,c,a=>if a !=0 then some ((zG.mk 0 0 (⟨#[]⟩:ByteArray) 0 []),d,c,a)else mH p b d c a 0 (⟨#[83,101,116]⟩:ByteArray)>>=λr2=>if r2 then zRF p b d c a>>=λr5=>some (r5.1,r5.2.1,r5.2.2.1,r5.2.2.2)else mH p b d c a 0 (⟨#[40]⟩:ByteArray)>>=λr7=>if r7 then zAr p b (yJ (d+1)) c a>>=λr10=>qI p b r10.2.1 r10.2.2.1 r10.2.2.2 (⟨#[41]⟩:ByteArray)>>=λr12=>some (r10.1,r12.1,r12.2.1,r12.2.2)else eT p b d c a 0>>=λr14=>w7 p b d c a>>=λr16=>some ((zG.mk 1 r14.at_ r16.1 0 []),r16.2.1,r16.2.2.1,r16.2.2.2)end
theorem rX:∀p:Nat,(∀b d c a,Cz (zAr p b d c a) 176 [.cells [zC zI b .no,ai d,ai c,ai a]] [.mp 0 0] (λr=>yX r.1) (λr=>[.cells [zC zI b .no,ai r.2.1,ai r.2.2.1,ai r.2.2.2]]) 0)/\(∀b d c a t u,Cz (zOr p b d c a t u) 235 [.cells [zC zI b .no,ai d,ai c,ai a]] [.mp 0 0,ai t,ai u] (λr=>yX r.1) (λr=>[.cells [zC zI b .no,ai r.2.1,ai r.2.2.1,ai r.2.2.2]]) 0)/\(∀b d c a,Cz (zRG p b d c a) 237 [.cells [zC zI b .no,ai d,ai c,ai a]] [.mp 0 0] (λr=>yX r.1) (λr=>[.cells [zC zI b .no,ai r.2.1,ai r.2.2.1,ai r.2.2.2]]) 0)/\(∀b r1 q s e f g m n,Lz (eU p b r1 q s e f g m n) 1 f237 (pt 997 f237) (λj=>sp j 23 0 [(0,.mp 0 0),(2,.mp 1 0),(3,.mp 2 0)]) ⟨[(0,.cells [zC zI b .no,ai q,ai s,ai e]),(1,.cells [ai 0,ai 0,at' (⟨#[]⟩:ByteArray),ai 0,zC zL ([]:List zG) .nl]),(2,.cells [ai f,ai r1.1.at_,at' g,ai m,zC zL n .no])],3,[],0,[]⟩ (λr=>yX r.1) (λr=>[.cells [zC zI b .no,ai r.2.1,ai r.2.2.1,ai r.2.2.2]]) 0 [.blk 0,.seq (pt 63 f237)]/\Lz (eU p b r1 q s e f g m n) 1 f237 (pt 997 f237) (λj=>sp j 23 0 [(0,.mp 0 0),(2,.mp 1 0),(3,.mp 2 0)]) ⟨[(0,.cells [zC zI b .no,ai q,ai s,ai e]),(1,.cells [ai 0,ai 0,at' (⟨#[]⟩:ByteArray),ai 0,zC zL ([]:List zG) .nl]),(2,.cells [ai f,ai r1.1.at_,at' g,ai m,zC zL n .full])],3,[],0,[]⟩ (λr=>yX r.1) (λr=>[.cells [zC zI b .no,ai r.2.1,ai r.2.2.1,ai r.2.2.2]]) 0 [.blk 0,.seq (pt 63 f237)])/\(∀b d c a,Cz (zHw p b d c a) 279 [.cells [zC zI b .no,ai d,ai c,ai a]] [.mp 0 0] (λr=>yX r.1) (λr=>[.cells [zC zI b .no,ai r.2.1,ai r.2.2.1,ai r.2.2.2]]) 0):=xF ⟨λ_ _ _ _=>cN,λ_ _ _ _ _ _=>cN,λ_ _ _ _=>cN,λ_ _ _ _ _ _ _ _ _=>⟨lN,lN⟩,λ_ _ _ _=>cN⟩ λp ih=>⟨λb d c a=>fw func176<|rC 0 [0] aM λ_=>rB 1 (fE 1)<|rK 0 [0] kP (λ_=>rC 3 [0] (ih.2.1 _ _ _ _ _ _) λ_=>fE 1) λ_=>rK 0 [0] zYx (λ_=>rC 0 [0] (ih.2.1 _ _ _ _ _ _) λ_=>fE 1) λ_=>rC 0 [0] (ih.2.2.1 _ _ _ _) λr14=>rB 2 (rK 0 [0] kP (λ_=>rS (b9 3)<|rC 1 [0] (ih.1 _ _ _ _) λr20=>rS (oS 0 (yU vT [r14.1,r20.1]))<|fE 1) λ_=>fE 2)<|fE 2,λb d c a t u=>fw func235<|rC 1 [0] mI λ_=>rC 0 [0] yAc λ_=>rC 1 [0] mI λ_=>rC 0 [0] (ih.1 _ _ _ _) λr7=>rC 1 [0] mI λ_=>rC 0 [0] mI λ_=>rC 1 [0] (ih.1 _ _ _ _) λr13=>rS (oS 0 (yU vT [r7.1,r13.1]))<|fE 3,λb d c a=>fw func237<|rC 0 [0] (ih.2.2.2.2 _ _ _ _) λ_=>fH 1 [] [0,1,2] [] [0,2,3] ((ih.2.2.2.1 _ _ _ _ _ _ _ _ _).1),λb r1 q s e f g m n=>⟨lw λ_=>rB 1 (rK 0 [0] zYw (λ_=>rS (b9 0)<|rC 1 [0] (ih.2.2.2.2 _ _ _ _) λr7=>rS (oS 0 (yU vT [(zG.mk f r1.1.at_ g m n),r7.1]))<|lH 1 [] [0,1,2] [] [0,2,3] ((ih.2.2.2.1 _ _ _ _ _ _ _ _ _).2)) λ_=>lE 2)<|lE 2,lw λ_=>rB 1 (rK 0 [0] zYw (λ_=>rS (b9 0)<|rC 1 [0] (ih.2.2.2.2 _ _ _ _) λr7=>rS (oS 0 (yU vT [(zG.mk f r1.1.at_ g m n),r7.1]))<|lH 1 [] [0,1,2] [] [0,2,3] ((ih.2.2.2.1 _ _ _ _ _ _ _ _ _).2)) λ_=>lE 2)<|lE 2⟩,λb d c a=>fw func279<|rB 1 (fE 1)<|rK 0 [0] kP (λ_=>rC 0 [0] yAb λ_=>fE 1) λ_=>rK 0 [0] kP (λ_=>rC 3 [0] (ih.1 _ _ _ _) λ_=>rC 1 [0] mI λ_=>fE 2) λ_=>rC 0 [0] aM λ_=>rC 0 [0] zEY λ_=>fE 1⟩
theorem yAa{p b d c a}:Cz (zAr p b d c a) 176 [.cells [zC zI b .no,ai d,ai c,ai a]] [.mp 0 0] (λr=>yX r.1) (λr=>[.cells [zC zI b .no,ai r.2.1,ai r.2.2.1,ai r.2.2.2]]) 0:=(rX _).1 _ _ _ _
theorem yAA{p b d c a}:Cz (zHw p b d c a) 279 [.cells [zC zI b .no,ai d,ai c,ai a]] [.mp 0 0] (λr=>yX r.1) (λr=>[.cells [zC zI b .no,ai r.2.1,ai r.2.2.1,ai r.2.2.2]]) 0:=(rX _).2.2.2.2 _ _ _ _
def tk(l:List zM)(i:Int):zM:=(l[if i>=l.length then l.length-1 else i.toNat]?).getD default
section
variable{l:List zM}(hl:zKS l)
include hl
theorem vJ(i a b k:Int)(h0:0<=i+k)(h1:i+k<=100000):zB (λq=>eT q l i a b k) (tk l (i+k)):=by
 have:=hl.1;have:=hl.2.1;simp only[eT];rw[zS (by omega) (by omega)];unfold tk;by_cases h:i+k>=l.length
 ·rw[if_pos h,zS (by omega) (by omega)];refine zB.ifT (decide_eq_true h) (zB.pure ?_ zB.ret);unfold zO;rw[if_pos (by omega),show((l.length:Int)-1).toNat=l.length-1 by omega,List.getElem?_eq_getElem (by omega)];rfl
 ·rw[if_neg h];refine zB.ifF (decide_eq_false h) (zB.pure ?_ zB.ret);unfold zO;rw[if_pos (by omega),List.getElem?_eq_getElem (by omega)];rfl
theorem K5{i:Int}(h0:0<=i)(h:(tk l i).kind_≠5):i+1<l.length:=by
 have:=hl.1;by_cases h1:i+1<l.length;·exact h1
 ·refine absurd ?_ h;rw[<-hl.2.2];unfold tk;by_cases h2:i>=l.length;·rw[if_pos h2]
  ·rw[if_neg h2,show i.toNat=l.length-1 by omega]
theorem uW(i a b k:Int)(s:ByteArray)(h0:0<=i+k)(h1:i+k<=100000):zD (λq=>mH q l i a b k s) λr=>r=true->i+k+1<l.length:=by simp only[mH];refine zD.bind ((vJ hl i a b k h0 h1).tot rfl) λt ht=>?_;subst ht;refine zD.ite (λh=>zD.ret λ_=>K5 hl h0 ?_) λ_=>zD.ite (λh=>zD.ret λ_=>K5 hl h0 ?_) λ_=>zD.ret (by simp)<;>·have:=eq_of_beq h;omega
theorem aN(i a b k:Int)(h0:0<=i+k)(h1:i+k<=100000):zD (λq=>zKW q l i a b k) λr=>r=true->i+k+1<l.length:=by simp only[zKW];have e:=vJ hl i a b k h0 h1;refine zD.bind (e.tot rfl) λt ht=>?_;subst ht;refine zD.ite (λh=>zD.bind (e.tot (P:=λ_=>True) trivial) λ_ _=>zD.ret λ_=>K5 hl h0 ?_) λ_=>zD.ret (by simp);have:=eq_of_beq h;omega
omit hl in theorem pA(i a b e p:Int)(he:e≠0):zD (λq=>R1 q l i a b e p) λr=>r.2≠0:=by simp only[R1];exact zD.ite (λ_=>zD.ret he) λh=>zD.ret (by simpa using h)
theorem kQ(i a b:Int)(h0:0<=i)(h1:i<l.length):zD (λq=>w7 q l i a b) λr=>i<=r.2.1/\r.2.1<l.length/\(r.2.2.2=0->b=0/\i<r.2.1):=by
 have:=hl.2.1;simp only[w7];rw[zS (x:=i+1) (by omega) (by omega)];refine(aN hl i a b 0 (by omega) (by omega)).bind λc hc=>zD.ite (λh=>zD.ite (λh2=>zD.ret ⟨by show i<=i;omega,h1,λh3=>?_⟩) λh2=>?_) λ_=>?_;·exact absurd h3 (by simpa using h2)
 ·have:=hc h;refine zD.bind ((vJ hl (i+1) a b (-1) (by omega) (by omega)).tot (P:=λ_=>True) trivial) λ_ _=>zD.ret ⟨by show i<=i+1;omega,by show i+1<_;omega,λ_=>⟨by simpa using h2,by show i<i+1;omega⟩⟩
 ·refine zD.bind ((vJ hl i a b 0 (by omega) (by omega)).tot (P:=λ_=>True) trivial) λt _=>(pA i a b 1 _ (by decide)).bind λr hr=>zD.ite (λ_=>zD.ret ⟨by show i<=i;omega,h1,λh3=>absurd h3 hr⟩) λh=>?_;exact absurd (by simpa using h) hr
theorem vK(i a b:Int)(s:ByteArray)(h0:0<=i)(h1:i<l.length):zD (λq=>qI q l i a b s) λr=>i<=r.1/\r.1<l.length/\(r.2.2=0->b=0/\i<r.1):=by
 have:=hl.2.1;simp only[qI];rw[zS (x:=i+1) (by omega) (by omega)];refine(uW hl i a b 0 s (by omega) (by omega)).bind λc hc=>zD.ite (λh=>zD.ite (λh2=>?_) λh2=>zD.ret ⟨by show i<=i;omega,h1,λh3=>?_⟩) λ_=>?_
 ·have:=hc h;exact zD.ret ⟨by show i<=i+1;omega,by show i+1<_;omega,λ_=>⟨by simpa using h2,by show i<i+1;omega⟩⟩
 ·exact absurd h3 (by simpa using h2)
 ·refine zD.bind ((vJ hl i a b 0 (by omega) (by omega)).tot (P:=λ_=>True) trivial) λt _=>(pA i a b 1 _ (by decide)).bind λr hr=>zD.ite (λh=>?_) λ_=>zD.ret ⟨by show i<=i;omega,h1,λh3=>absurd h3 hr⟩;exact absurd (by simpa using h) hr
theorem zAq(i a b:Int)(h0:0<=i)(h1:i<l.length):zD (λq=>zRD q l i a b) λr=>i<=r.2.1/\r.2.1<l.length/\(r.2.2.2=0->b=0/\i<r.2.1):=by have:=hl.2.1;simp only[zRD];rw[zS (x:=i+1) (by omega) (by omega)];have N:=(kQ hl i a b h0 h1).bind (k:=λ_ r9=>some (r9.1,r9.2.1,r9.2.2.1,r9.2.2.2)) (Q:=λr:ByteArray×Int×Int×Int=>i<=r.2.1/\r.2.1<(l.length:Int)/\(r.2.2.2=0->b=0/\i<r.2.1)) λr hr=>⟨_,zB.ret,hr⟩;refine zD.bind ((vJ hl i a b 0 (by omega) (by omega)).tot rfl) λt ht=>zD.ite (λh=>zD.ite (λh2=>?_) λ_=>N) λ_=>N;subst ht;have:=K5 hl (i:=i+0) (by omega) (by have:=eq_of_beq h;omega);exact zD.bind ((vJ hl (i+1) a b (-1) (by omega) (by omega)).tot (P:=λ_=>True) trivial) λ_ _=>zD.ret ⟨by show i<=i+1;omega,by show i+1<_;omega,λ_=>⟨by simpa using h2,by show i<i+1;omega⟩⟩
theorem w8(i a b:Int)(h0:0<=i)(h1:i<l.length):zD (λq=>zOs q l i a b) λ_=>True:=by have:=hl.2.1;simp only[zOs];exact(uW hl i a b 0 _ (by omega) (by omega)).bind λ_ _=>zD.ite (λ_=>zD.bind ((vJ hl i a b 1 (by omega) (by omega)).tot (P:=λ_=>True) trivial) λ_ _=>zD.ite (λ_=>(uW hl i a b 2 _ (by omega) (by omega)).bind λ_ _=>zD.ret trivial) λ_=>zD.ret trivial) λ_=>zD.ret trivial
theorem zOq(i a b:Int)(h0:0<=i)(h1:i+1<l.length):zD (λq=>zRF q l i a b) λr=>gV r.1/\i<r.2.1/\r.2.1<l.length:=by have:=hl.2.1;simp only[zRF];rw[zS (x:=i+1) (by omega) (by omega),zS (x:=i+1+1) (by omega) (by omega)];have e:=vJ hl (i+1) a b 0 (by omega) (by omega);have z:∀k a n m,gV (.mk k a n m []):=λ_ _ _ _=>⟨by simp,trivial⟩;refine zD.bind ((vJ hl i a b 0 (by omega) (by omega)).tot (P:=λ_=>True) trivial) λ_ _=>zD.bind (e.tot rfl) λt ht=>zD.ite (λh=>?_) λ_=>zD.ret ⟨z _ _ _ _,by show i<i+1;omega,h1⟩;subst ht;have:=K5 hl (i:=i+1+0) (by omega) (by have:=eq_of_beq h;omega);refine zD.bind (e.tot (P:=λ_=>True) trivial) λ_ _=>(Z8 _).bind λ_ _=>zD.ite (λ_=>zD.bind (e.tot (P:=λ_=>True) trivial) λ_ _=>(pA _ a b 1 _ (by decide)).bind λ_ _=>zD.ret ⟨z _ _ _ _,?_,?_⟩) λ_=>zD.ret ⟨z _ _ _ _,?_,?_⟩<;>first|(show i<i+1+1;omega)|(show i+1+1<_;omega)
theorem zHv(i a b:Int)(h0:0<=i)(h1:i<l.length):zD (λq=>zRE q l i a b) λ_=>True:=by have:=hl.2.1;simp only[zRE];exact(aN hl i a b 0 (by omega) (by omega)).bind λ_ _=>zD.ite (λ_=>zD.ret trivial) λ_=>(uW hl i a b 0 _ (by omega) (by omega)).bind λ_ _=>zD.ite (λ_=>zD.ret trivial) λ_=>(uW hl i a b 0 _ (by omega) (by omega)).bind λ_ _=>zD.ite (λ_=>(w8 hl i a b h0 h1).bind λ_ _=>zD.ret trivial) λ_=>zD.ret trivial
omit hl in def NR(l:List zM)(i b:Int)(r:zG×Int×Int×Int):Prop:=gV r.1/\i<=r.2.1/\r.2.1<l.length/\(r.2.2.2=0->b=0/\i<r.2.1)
omit hl in def w9(l:List zM)(m:Nat):Prop:=∀i a b:Int,0<=i->i<l.length->(b=0->(l.length:Int)-i<=m)->zD (λq=>zAr q l i a b) (NR l i b)
omit hl in theorem zVm{x y:zG}(hx:gV x)(hy:gV y)(k a:Int)(n:ByteArray)(m:Int):gV (.mk k a n m [x,y]):=⟨by simp,hx,hy,trivial⟩
omit hl in theorem zAp(k a:Int)(n:ByteArray)(m:Int):gV (.mk k a n m []):=⟨by simp,trivial⟩
theorem zAY(m:Nat)(IH:w9 l m)(i a b k p:Int)(h0:0<=i)(h1:i<l.length)(hb:b=0->(l.length:Int)-i<=m+1):zD (λq=>zOr q l i a b k p) (NR l i b):=by refine zD.succ ?_;simp only[zOr];refine(vK hl i a b _ h0 h1).bind λr1 g1=>(zAq hl _ _ _ (by omega) g1.2.1).bind λr3 g3=>(vK hl _ _ _ _ (by omega) g3.2.1).bind λr5 g5=>(IH _ _ _ (by omega) g5.2.1 (by omega)).bind λr7 g7=>?_;obtain⟨o7,g7⟩:=g7;refine(vK hl _ _ _ _ (by omega) g7.2.1).bind λr9 g9=>(vK hl _ _ _ _ (by omega) g9.2.1).bind λr11 g11=>(IH _ _ _ (by omega) g11.2.1 (by omega)).bind λr13 g13=>?_;obtain⟨o13,g13⟩:=g13;exact zD.ret ⟨zVm o7 o13 _ _ _ _,by show i<=r13.2.1;omega,g13.2.1,λh=>by have:r13.2.2.2=0:=h;show b=0/\i<r13.2.1;omega⟩
theorem v6(m:Nat)(IH:w9 l m)(i a b:Int)(h0:0<=i)(h1:i<l.length)(hb:b=0->(l.length:Int)-i<=m+1):zD (λq=>zHw q l i a b) (NR l i b):=by
 have:=hl.2.1;refine zD.succ ?_;simp only[zHw];rw[zS (x:=i+1) (by omega) (by omega)];refine zD.ite (λh=>zD.ret ⟨zAp _ _ _ _,by show i<=i;omega,h1,λh2=>absurd h2 (by simpa using h)⟩) λh=>?_;have hb0:b=0:=by simpa using h
 refine(uW hl i a b 0 _ (by omega) (by omega)).bind λc hc=>zD.ite (λh2=>(zOq hl i a b h0 (by have:=hc h2;omega)).bind λr hr=>zD.ret ⟨hr.1,by show i<=r.2.1;omega,hr.2.2,λ_=>⟨hb0,hr.2.1⟩⟩) λ_=>?_;refine(uW hl i a b 0 _ (by omega) (by omega)).bind λc hc=>zD.ite (λh2=>?_) λ_=>?_
 ·have:=hc h2;refine(IH (i+1) a b (by omega) (by omega) (by omega)).bind λr hr=>(vK hl _ _ _ _ (by have:=hr.2.1;omega) hr.2.2.1).bind λs hs=>?_;obtain⟨o,hr⟩:=hr;exact zD.ret ⟨o,by show i<=s.1;omega,hs.2.1,λ_=>⟨hb0,by show i<s.1;omega⟩⟩
 ·refine zD.bind ((vJ hl i a b 0 (by omega) (by omega)).tot (P:=λ_=>True) trivial) λt _=>(kQ hl i a b h0 h1).bind λr hr=>zD.ret ⟨zAp _ _ _ _,hr.1,hr.2.1,hr.2.2⟩
theorem zEZ(m:Nat)(IH:w9 l m)(r1:zG×Int×Int×Int):∀(k:Nat)(i a b kd:Int)(nm:ByteArray)(n:Int)(sub:List zG),0<=i->i<l.length->(b=0->(l.length:Int)-i<=k)->(b=0->(l.length:Int)-i<=m+1)->gV (.mk kd r1.1.at_ nm n sub)->zD (λq=>eU q l r1 i a b kd nm n sub) λr=>gV r.1/\i<=r.2.1/\r.2.1<l.length/\(r.2.2.2=0->b=0)
 |k,i,a,b,kd,nm,n,sub,h0,h1,hk,hb,ho=>by
  refine zD.succ ?_;simp only[eU];have fin:zD (λ_=>some (zG.mk kd r1.1.at_ nm n sub,i,a,b)) λr:zG×Int×Int×Int=>gV r.1/\i<=r.2.1/\r.2.1<l.length/\(r.2.2.2=0->b=0):=zD.ret ⟨ho,by show i<=i;omega,h1,id⟩;refine zD.ite (λh=>(zHv hl i a b h0 h1).bind λ_ _=>zD.ite (λ_=>(v6 hl m IH i a b h0 h1 hb).bind λr hr=>?_) λ_=>fin) λ_=>fin;have hb0:b=0:=by simpa using h
  obtain⟨o,hr⟩:=hr;cases k with|zero=>have:=hk hb0;omega|succ k=>exact(zEZ m IH r1 k r.2.1 _ _ 5 _ 0 _ (by omega) hr.2.1 (by omega) (by omega) (zVm ho o _ _ _ _)).mono λs hs=>⟨hs.1,by omega,hs.2.2.1,λ_=>hb0⟩
theorem zRH(m:Nat)(IH:w9 l m)(i a b:Int)(h0:0<=i)(h1:i<l.length)(hb:b=0->(l.length:Int)-i<=m+1):zD (λq=>zRG q l i a b) (NR l i b):=by refine zD.succ ?_;simp only[zRG];refine(v6 hl m IH i a b h0 h1 hb).bind λr hr=>?_;have ho:=hr.1;have g:=hr.2;refine(zEZ hl m IH r (m+1) r.2.1 _ _ _ _ _ _ (by omega) g.2.1 (by omega) (by omega) (by cases h:r.1;rw[h]at ho;exact ho)).mono λs hs=>⟨hs.1,by omega,hs.2.2.1,λh=>?_⟩;have:=g.2.2 (hs.2.2.2 h);omega
theorem v7:∀m:Nat,w9 l m
 |0,i,a,b,h0,h1,hb=>by
  have:=hl.2.1;refine zD.succ ?_;simp only[zAr];refine zD.bind ((vJ hl i a b 0 (by omega) (by omega)).tot (P:=λ_=>True) trivial) λt _=>zD.ite (λh=>zD.ret ⟨zAp _ _ _ _,by show i<=i;omega,h1,λh2=>absurd h2 (by simpa using h)⟩) λh=>?_;have hb0:b=0:=by simpa using h
  have:=hb hb0;omega|m+1,i,a,b,h0,h1,hb=>by
  have:=hl.2.1;have IH:=v7 m;refine zD.succ ?_;simp only[zAr];rw[zS (x:=i+1) (by omega) (by omega)];refine zD.bind ((vJ hl i a b 0 (by omega) (by omega)).tot (P:=λ_=>True) trivial) λt _=>zD.ite (λh=>zD.ret ⟨zAp _ _ _ _,by show i<=i;omega,h1,λh2=>absurd h2 (by simpa using h)⟩) λh=>?_;have hb0:b=0:=by simpa using h
  refine(uW hl i a b 0 _ (by omega) (by omega)).bind λc hc=>zD.ite (λh2=>(zAY hl m IH (i+1) a b 4 _ (by omega) (by have:=hc h2;omega) (by omega)).bind λr hr=>zD.ret ⟨hr.1,by have:=hr.2.1;show i<=r.2.1;omega,hr.2.2.1,λh=>⟨hb0,by have:=hr.2.1;show i<r.2.1;omega⟩⟩) λ_=>?_;refine(w8 hl i a b h0 h1).bind λc hc=>zD.ite (λh2=>(zAY hl m IH i a b 3 _ (by omega) h1 (by omega)).bind λr hr=>zD.ret hr) λ_=>?_;refine(zRH hl m IH i a b h0 h1 (by omega)).bind λr hr=>zD.ite (λh2=>?_) λ_=>zD.ret hr;have ho:=hr.1;have g:=hr.2;have hr0:r.2.2.2=0:=by simpa using h2
  rw[zS (x:=r.2.1+1) (by omega) (by omega)];refine(uW hl _ _ _ 0 _ (by omega) (by omega)).bind λc hc=>zD.ite (λh3=>?_) λ_=>zD.ret ⟨ho,g⟩;have:=hc h3;refine(IH (r.2.1+1) _ _ (by omega) (by omega) (by omega)).bind λs hs=>?_;have gs:=hs.2;exact zD.ret ⟨zVm ho hs.1 _ _ _ _,by show i<=s.2.1;omega,gs.2.1,λ_=>⟨hb0,by show i<s.2.1;omega⟩⟩
end
def zRI(e:Nat)(c:List zM)(d b a:Int):Option (Int):=mH e c d b a 0 (⟨#[100,97,116,97]⟩:ByteArray)>>=λr1=>if r1 then some 1 else mH e c d b a 0 (⟨#[114,101,99,111,114,100]⟩:ByteArray)>>=λr4=>if r4 then some 2 else mH e c d b a 0 (⟨#[100,101,102]⟩:ByteArray)>>=λr7=>if r7 then some 3 else some 0
theorem yAB{e c d b a}:Cz (zRI e c d b a) 105 [.cells [zC zI c .no,ai d,ai b,ai a]] [.mp 0 0] (λr=>ai r) (λ_=>[.cells [zC zI c .no,ai d,ai b,ai a]]) 0:=fw func105<|rK 0 [0] kP (λ_=>fE 0) λ_=>rK 0 [0] kP (λ_=>fE 0) λ_=>rK 0 [0] kP (λ_=>fE 0) λ_=>fE 0
def zOp(e:Nat)(c:List zM)(d b a:Int):Option (Bool):=mH e c d b a 0 (⟨#[125]⟩:ByteArray)>>=λr1=>some (!r1)
theorem zYv{e c d b a}:Cz (zOp e c d b a) 114 [.cells [zC zI c .no,ai d,ai b,ai a]] [.mp 0 0] (λr=>ab r) (λ_=>[.cells [zC zI c .no,ai d,ai b,ai a]]) 0:=fw func114<|rC 0 [0] kP λ_=>fE 1
def zOo(f:Nat)(c:List zM)(d b a:Int)(e:zG)(g:Int):Option (zG×Int×Int):=if a==0 then zOw f e>>=λr2=>if decide (r2>128)then R1 f c d b a 2 g>>=λr5=>some (e,r5.1,r5.2)else some (e,b,a)else some (e,b,a)
theorem zYu{f c d b a e g}:Cz (zOo f c d b a e g) 175 [.cells [zC zI c .no,ai d,ai b,ai a]] [.mp 0 0,yX e,ai g] (λr=>yX r.1) (λr=>[.cells [zC zI c .no,ai d,ai r.2.1,ai r.2.2]]) 0:=fw func175<|rB 1 (rC 1 [] zXX λ_=>rB 0 (rC 0 [0] zCb λ_=>fE 2)<|fE 2)<|fE 2
def zFz(e:Nat)(b:List zM)(d c a:Int):Option (zG×Int×Int×Int):=eT e b d c a 0>>=λr1=>zAr e b d c a>>=λr3=>zOo e b r3.2.1 r3.2.2.1 r3.2.2.2 r3.1 r1.at_>>=λr5=>some (r5.1,r3.2.1,r5.2.1,r5.2.2)
theorem zRJ{e b d c a}:Cz (zFz e b d c a) 112 [.cells [zC zI b .no,ai d,ai c,ai a]] [.mp 0 0] (λr=>yX r.1) (λr=>[.cells [zC zI b .no,ai r.2.1,ai r.2.2.1,ai r.2.2.2]]) 0:=fw func112<|rC 0 [0] aM λ_=>rC 0 [0] yAa λ_=>rC 0 [0] zYu λ_=>fE 1
def zOn(e:Nat)(b:List zM)(d c a:Int):Option (yC×Int×Int×Int):=eT e b d c a 0>>=λr1=>w7 e b d c a>>=λr3=>qI e b r3.2.1 r3.2.2.1 r3.2.2.2 (⟨#[58]⟩:ByteArray)>>=λr5=>zFz e b r5.1 r5.2.1 r5.2.2>>=λr7=>some ((yC.mk r3.1 r1.at_ r7.1),r7.2.1,r7.2.2.1,r7.2.2.2)
theorem zYt{e b d c a}:Cz (zOn e b d c a) 174 [.cells [zC zI b .no,ai d,ai c,ai a]] [.mp 0 0] (λr=>J8 r.1) (λr=>[.cells [zC zI b .no,ai r.2.1,ai r.2.2.1,ai r.2.2.2]]) 0:=fw func174<|rC 0 [0] aM λ_=>rC 0 [0] zEY λ_=>rC 1 [0] mI λ_=>rC 0 [0] zRJ λ_=>fE 3
def zRK(e:Nat)(b:List zM)(d c a:Int):Option (yC×Int×Int×Int):=zOn e b d c a>>=λr1=>qI e b r1.2.1 r1.2.2.1 r1.2.2.2 (⟨#[59]⟩:ByteArray)>>=λr3=>some (r1.1,r3.1,r3.2.1,r3.2.2)
theorem yAC{e b d c a}:Cz (zRK e b d c a) 115 [.cells [zC zI b .no,ai d,ai c,ai a]] [.mp 0 0] (λr=>J8 r.1) (λr=>[.cells [zC zI b .no,ai r.2.1,ai r.2.2.1,ai r.2.2.2]]) 0:=fw func115<|rC 0 [0] zYt λ_=>rC 1 [0] mI λ_=>fE 2
def rY:Nat->(List zM)->Int->(List yC)->Int->Int->Int->Option (List yC×Int×Int×Int)|0,_,_,_,_,_,_=>none|e+1,d,f,g,a,c,b=>if b==0 then zOp e d a c b>>=λr2=>if r2 then if decide ((g.length:Int)>=f)then eT e d a c b 0>>=λr6=>R1 e d a c b 2 r6.at_>>=λr8=>some (g,a,r8.1,r8.2)else zRK e d a c b>>=λr10=>yT 88 g [r10.1]>>=λl12=>rY e d f l12 r10.2.1 r10.2.2.1 r10.2.2.2 else some (g,a,c,b)else some (g,a,c,b)
def F6(e:Nat)(d:List zM)(m n p f:Int):Option (List yC×Int×Int×Int):=rY e d f [] m n p
theorem zFy:∀e:Nat,∀d f g a c b,Lz (rY e d f g a c b) 1 f108 (pt 997 f108) (λj=>sp j 34 0 [(0,.mp 0 0),(1,ai f),(2,.clo 114 [.mp 0 0] []),(3,.clo 115 [.mp 0 0] []),(9,zC zF g (.st 0 7))]) ⟨[(0,.cells [zC zI d .no,ai a,ai c,ai b])],1,[0],1,[]⟩ (λr=>.sl (zH zF r.1) r.1.length .no) (λr=>[.cells [zC zI d .no,ai r.2.1,ai r.2.2.1,ai r.2.2.2]]) 0 [.blk 0,.seq (pt 63 f108)]:=xF (λ_ _ _ _ _ _=>lN) λe ih=>λd f g a c b=>lw λ_=>rB 1 (rK 0 [0] zYv (λ_=>rB 1 (rC 0 [0] aM λ_=>rC 0 [0] zCb λ_=>lE 0)<|rC 0 [0] yAC λ_=>rW (λh13=>oP 1 (zNs h13 (by simp))) λ_=>lH 0 [] [0] [1] [0,1,2,3,9] (ih _ _ _ _ _ _)) λ_=>lE 0)<|lE 0
theorem zFx{e d m n p f}:Cz (F6 e d m n p f) 108 [.cells [zC zI d .no,ai m,ai n,ai p]] [.mp 0 0,ai f,.clo 114 [.mp 0 0] [],.clo 115 [.mp 0 0] []] (λr=>.sl (zH zF r.1) r.1.length .no) (λr=>[.cells [zC zI d .no,ai r.2.1,ai r.2.2.1,ai r.2.2.2]]) 0:=fw func108<|fH 0 [(none,9,7)] [0] [0] [0,1,2,3,9] (zFy _ _ _ _ _ _ _)
def zRL(e:Nat)(c:List zM)(d b a:Int):Option (Bool):=mH e c d b a 0 (⟨#[40]⟩:ByteArray)>>=λr1=>some r1
theorem yAD{e c d b a}:Cz (zRL e c d b a) 109 [.cells [zC zI c .no,ai d,ai b,ai a]] [.mp 0 0] (λr=>ab r) (λ_=>[.cells [zC zI c .no,ai d,ai b,ai a]]) 0:=fw func109<|rC 0 [0] kP λ_=>fE 0
def zRM(e:Nat)(b:List zM)(d c a:Int):Option (yC×Int×Int×Int):=qI e b d c a (⟨#[40]⟩:ByteArray)>>=λr1=>zOn e b r1.1 r1.2.1 r1.2.2>>=λr3=>qI e b r3.2.1 r3.2.2.1 r3.2.2.2 (⟨#[41]⟩:ByteArray)>>=λr5=>some (r3.1,r5.1,r5.2.1,r5.2.2)
theorem yAE{e b d c a}:Cz (zRM e b d c a) 110 [.cells [zC zI b .no,ai d,ai c,ai a]] [.mp 0 0] (λr=>J8 r.1) (λr=>[.cells [zC zI b .no,ai r.2.1,ai r.2.2.1,ai r.2.2.2]]) 0:=fw func110<|rC 0 [0] mI λ_=>rC 0 [0] zYt λ_=>rC 1 [0] mI λ_=>fE 2
def oT:Nat->(List zM)->Int->(List yC)->Int->Int->Int->Option (List yC×Int×Int×Int)|0,_,_,_,_,_,_=>none|e+1,d,f,g,a,c,b=>if b==0 then zRL e d a c b>>=λr2=>if r2 then if decide ((g.length:Int)>=f)then eT e d a c b 0>>=λr6=>R1 e d a c b 2 r6.at_>>=λr8=>some (g,a,r8.1,r8.2)else zRM e d a c b>>=λr10=>yT 88 g [r10.1]>>=λl12=>oT e d f l12 r10.2.1 r10.2.2.1 r10.2.2.2 else some (g,a,c,b)else some (g,a,c,b)
def v8(e:Nat)(d:List zM)(m n p f:Int):Option (List yC×Int×Int×Int):=oT e d f [] m n p
theorem zFw:∀e:Nat,∀d f g a c b,Lz (oT e d f g a c b) 1 f108 (pt 997 f108) (λj=>sp j 34 0 [(0,.mp 0 0),(1,ai f),(2,.clo 109 [.mp 0 0] []),(3,.clo 110 [.mp 0 0] []),(9,zC zF g (.st 0 7))]) ⟨[(0,.cells [zC zI d .no,ai a,ai c,ai b])],1,[0],1,[]⟩ (λr=>.sl (zH zF r.1) r.1.length .no) (λr=>[.cells [zC zI d .no,ai r.2.1,ai r.2.2.1,ai r.2.2.2]]) 0 [.blk 0,.seq (pt 63 f108)]:=xF (λ_ _ _ _ _ _=>lN) λe ih=>λd f g a c b=>lw λ_=>rB 1 (rK 0 [0] yAD (λ_=>rB 1 (rC 0 [0] aM λ_=>rC 0 [0] zCb λ_=>lE 0)<|rC 0 [0] yAE λ_=>rW (λh13=>oP 1 (zNs h13 (by simp))) λ_=>lH 0 [] [0] [1] [0,1,2,3,9] (ih _ _ _ _ _ _)) λ_=>lE 0)<|lE 0
theorem zOm{e d m n p f}:Cz (v8 e d m n p f) 108 [.cells [zC zI d .no,ai m,ai n,ai p]] [.mp 0 0,ai f,.clo 109 [.mp 0 0] [],.clo 110 [.mp 0 0] []] (λr=>.sl (zH zF r.1) r.1.length .no) (λr=>[.cells [zC zI d .no,ai r.2.1,ai r.2.2.1,ai r.2.2.2]]) 0:=fw func108<|fH 0 [(none,9,7)] [0] [0] [0,1,2,3,9] (zFw _ _ _ _ _ _ _)
def zOl(e:Nat)(c:List zM)(d b a:Int):Option (Bool):=eT e c d b a 0>>=λr1=>if r1.kind_==1 then some true else mH e c d b a 0 (⟨#[46]⟩:ByteArray)>>=λr4=>if r4 then some true else mH e c d b a 0 (⟨#[40]⟩:ByteArray)>>=λr7=>some r7
theorem zYs{e c d b a}:Cz (zOl e c d b a) 281 [.cells [zC zI c .no,ai d,ai b,ai a]] [.mp 0 0] (λr=>ab r) (λ_=>[.cells [zC zI c .no,ai d,ai b,ai a]]) 0:=fw func281<|rC 0 [0] aM λ_=>rB 0 (fE 0)<|rK 0 [0] kP (λ_=>fE 0) λ_=>rC 0 [0] kP λ_=>fE 0
mutual def zHu:Nat->(List zM)->Int->Int->Int->Option (zG×Int×Int×Int)
 |0,_,_,_,_=>none|m+1,b,d,c,a=>eT m b d c a 0>>=λr1=>if a !=0 then some ((zG.mk 0 0 (⟨#[]⟩:ByteArray) 0 []),d,c,a)else mH m b d c a 0 (⟨#[40]⟩:ByteArray)>>=λr4=>if r4 then zRN m b d c a>>=λr7=>some (r7.1,r7.2.1,r7.2.2.1,r7.2.2.2)else mH m b d c a 0 (⟨#[46]⟩:ByteArray)>>=λr9=>if r9 then zHw m b (yJ (d+1)) c a>>=λr12=>some ((zG.mk 10 r1.at_ (⟨#[]⟩:ByteArray) 0 [r12.1]),r12.2.1,r12.2.2.1,r12.2.2.2)else eT m b d c a 0>>=λr14=>if r14.kind_==1 then eT m b d c a 0>>=λr17=>if r17.text_.toList==(⟨#[95]⟩:ByteArray).toList then some ((zG.mk 7 r1.at_ (⟨#[]⟩:ByteArray) 0 []),(yJ (d+1)),c,a)else w7 m b d c a>>=λr20=>some ((zG.mk 6 r1.at_ r20.1 0 []),r20.2.1,r20.2.2.1,r20.2.2.2)else w7 m b d c a>>=λr22=>some ((zG.mk 6 r1.at_ r22.1 0 []),r22.2.1,r22.2.2.1,r22.2.2.2)def zRN:Nat->(List zM)->Int->Int->Int->Option (zG×Int×Int×Int)
 |0,_,_,_,_=>none|m+1,b,d,c,a=>eT m b d c a 0>>=λr1=>mH m b (yJ (d+1)) c a 0 (⟨#[41]⟩:ByteArray)>>=λr3=>if r3 then some ((zG.mk 9 r1.at_ (⟨#[]⟩:ByteArray) 0 []),(yJ ((yJ (d+1))+1)),c,a)else zKW m b (yJ (d+1)) c a 0>>=λr6=>if r6 then eT m b (yJ (d+1)) c a 0>>=λr9=>w7 m b (yJ (d+1)) c a>>=λr11=>F7 m b r1 r11 r11.2.1 r11.2.2.1 r11.2.2.2 6 r9.at_ []else zHu m b (yJ (d+1)) c a>>=λr13=>qI m b r13.2.1 r13.2.2.1 r13.2.2.2 (⟨#[41]⟩:ByteArray)>>=λr15=>some (r13.1,r15.1,r15.2.1,r15.2.2)def F7:Nat->(List zM)->zM->(ByteArray×Int×Int×Int)->Int->Int->Int->Int->Int->(List zG)->Option (zG×Int×Int×Int)|0,_,_,_,_,_,_,_,_,_=>none|m+1,b,r1,r11,f,g,e,p,q,n=>if e==0 then zOl m b f g e>>=λr14=>if r14 then zHu m b f g e>>=λr17=>yT 64 n [r17.1]>>=λl19=>F7 m b r1 r11 r17.2.1 r17.2.2.1 r17.2.2.2 8 r1.at_ l19 else qI m b f g e (⟨#[41]⟩:ByteArray)>>=λr21=>some ((zG.mk p q r11.1 0 n),r21.1,r21.2.1,r21.2.2)else qI m b f g e (⟨#[41]⟩:ByteArray)>>=λr23=>some ((zG.mk p q r11.1 0 n),r23.1,r23.2.1,r23.2.2)end
theorem R2:∀m:Nat,(∀b d c a,Cz (zHu m b d c a) 282 [.cells [zC zI b .no,ai d,ai c,ai a]] [.mp 0 0] (λr=>yX r.1) (λr=>[.cells [zC zI b .no,ai r.2.1,ai r.2.2.1,ai r.2.2.2]]) 0)/\(∀b d c a,Cz (zRN m b d c a) 314 [.cells [zC zI b .no,ai d,ai c,ai a]] [.mp 0 0] (λr=>yX r.1) (λr=>[.cells [zC zI b .no,ai r.2.1,ai r.2.2.1,ai r.2.2.2]]) 0)/\(∀b r1 r11 f g e p q n,Lz (F7 m b r1 r11 f g e p q n) 1 f314 (pt 262117 f314) (λj=>sp j 63 0 [(0,.mp 0 0),(2,.mp 1 0),(3,ai r1.at_),(5,.mp 2 0)]) ⟨[(0,.cells [zC zI b .no,ai f,ai g,ai e]),(1,.cells [ai 0,ai 0,at' (⟨#[]⟩:ByteArray),ai 0,zC zL ([]:List zG) .nl]),(2,.cells [ai p,ai q,at' r11.1,ai 0,zC zL n (.st 0 5)])],3,[0],1,[]⟩ (λr=>yX r.1) (λr=>[.cells [zC zI b .no,ai r.2.1,ai r.2.2.1,ai r.2.2.2]]) 0 [.blk 0,.seq (pt 16383 f314)]):=xF ⟨λ_ _ _ _=>cN,λ_ _ _ _=>cN,λ_ _ _ _ _ _ _ _ _=>lN⟩ λm ih=>⟨λb d c a=>fw func282<|rC 0 [0] aM λ_=>rB 1 (fE 1)<|rK 0 [0] kP (λ_=>rC 0 [0] (ih.2.1 _ _ _ _) λ_=>fE 1) λ_=>rK 0 [0] kP (λ_=>rC 3 [0] yAA λr12=>rS (oS 0 (yU vT [r12.1]))<|fE 1) λ_=>rC 0 [0] aM λ_=>rB 0 (rC 0 [0] aM λ_=>rB 0 (fE 4)<|rC 0 [0] zEY λ_=>fE 1)<|rC 0 [0] zEY λ_=>fE 1,λb d c a=>fw func314<|rC 0 [0] aM λ_=>rK 3 [0] kP (λ_=>fE 4) λ_=>rK 0 [0] zVn (λ_=>rC 1 [0] aM λ_=>rC 0 [0] zEY λ_=>fH 1 [(some 2,4,5)] [0,1,2] [0] [0,2,3,5] (ih.2.2 _ _ _ _ _ _ _ _ _)) λ_=>rC 1 [0] (ih.1 _ _ _ _) λ_=>rC 1 [0] mI λ_=>fE 2,λb r1 r11 f g e p q n=>lw λ_=>rB 1 (rK 0 [0] zYs (λ_=>rS (b9 2)<|rC 0 [0] (ih.1 _ _ _ _) λr17=>rS (oS 0 (yU vT [r17.1]))<|rW (λh20=>oP 0 (zUw h20 (by simp))) λ_=>lH 1 [] [0,1,2] [1] [0,2,3,5] (ih.2.2 _ _ _ _ _ _ _ _ _)) λ_=>rC 0 [0] mI λ_=>lE 2)<|rC 0 [0] mI λ_=>lE 2⟩
theorem yAF{m b d c a}:Cz (zHu m b d c a) 282 [.cells [zC zI b .no,ai d,ai c,ai a]] [.mp 0 0] (λr=>yX r.1) (λr=>[.cells [zC zI b .no,ai r.2.1,ai r.2.2.1,ai r.2.2.2]]) 0:=(R2 _).1 _ _ _ _
def F8:Nat->(List zM)->(List zG)->Int->Int->Int->Option (List zG×Int×Int×Int)|0,_,_,_,_,_=>none|m+1,a,n,b,d,c=>if c==0 then zOl m a b d c>>=λr2=>if r2 then eT m a b d c 0>>=λr5=>if decide ((n.length:Int)>=24)then R1 m a b d c 2 r5.at_>>=λr8=>some (n,b,r8.1,r8.2)else zHu m a b d c>>=λr10=>zOo m a r10.2.1 r10.2.2.1 r10.2.2.2 r10.1 r5.at_>>=λr12=>yT 64 n [r12.1]>>=λl14=>F8 m a l14 r10.2.1 r12.2.1 r12.2.2 else some (n,b,d,c)else some (n,b,d,c)
def zVl(m:Nat)(a:List zM)(g f e:Int):Option (List zG×Int×Int×Int):=F8 m a [] g f e
theorem zRO:∀m:Nat,∀a n b d c,Lz (F8 m a n b d c) 1 f238 (pt 997 f238) (λj=>sp j 32 0 [(0,.mp 0 0),(3,zC zL n (.st 0 5))]) ⟨[(0,.cells [zC zI a .no,ai b,ai d,ai c])],1,[0],1,[]⟩ (λr=>.sl (zH zL r.1) r.1.length .no) (λr=>[.cells [zC zI a .no,ai r.2.1,ai r.2.2.1,ai r.2.2.2]]) 0 [.blk 0,.seq (pt 63 f238)]:=xF (λ_ _ _ _ _=>lN) λm ih=>λa n b d c=>lw λ_=>rB 1 (rK 0 [0] zYs (λ_=>rC 0 [0] aM λ_=>rB 1 (rC 0 [0] zCb λ_=>lE 0)<|rC 0 [0] yAF λ_=>rC 0 [0] zYu λr12=>rS (oS 0 (yU vT [r12.1]))<|rW (λh15=>oP 0 (zUw h15 (by simp))) λ_=>lH 0 [] [0] [1] [0,3] (ih _ _ _ _ _)) λ_=>lE 0)<|lE 0
theorem yAG{m a g f e}:Cz (zVl m a g f e) 238 [.cells [zC zI a .no,ai g,ai f,ai e]] [.mp 0 0] (λr=>.sl (zH zL r.1) r.1.length .no) (λr=>[.cells [zC zI a .no,ai r.2.1,ai r.2.2.1,ai r.2.2.2]]) 0:=fw func238<|fH 0 [(none,3,5)] [0] [0] [0,3] (zRO _ _ _ _ _ _)
def zRP(e:Nat)(a:List zM)(d c b:Int):Option (xQ×Int×Int×Int):=eT e a d c b 0>>=λr1=>zVl e a d c b>>=λr3=>if r3.2.2.2==0 then mH e a r3.2.1 r3.2.2.1 r3.2.2.2 0 (⟨#[61]⟩:ByteArray)>>=λr6=>if r6 then zFz e a (yJ (r3.2.1+1)) r3.2.2.1 r3.2.2.2>>=λr9=>qI e a r9.2.1 r9.2.2.1 r9.2.2.2 (⟨#[59]⟩:ByteArray)>>=λr11=>some ((xQ.mk r1.at_ r3.1 true r9.1),r11.1,r11.2.1,r11.2.2)else qI e a r3.2.1 r3.2.2.1 r3.2.2.2 (⟨#[59]⟩:ByteArray)>>=λr13=>some ((xQ.mk r1.at_ r3.1 false (zG.mk 0 0 (⟨#[]⟩:ByteArray) 0 [])),r13.1,r13.2.1,r13.2.2)else qI e a r3.2.1 r3.2.2.1 r3.2.2.2 (⟨#[59]⟩:ByteArray)>>=λr15=>some ((xQ.mk r1.at_ r3.1 false (zG.mk 0 0 (⟨#[]⟩:ByteArray) 0 [])),r15.1,r15.2.1,r15.2.2)
theorem yAH{e a d c b}:Cz (zRP e a d c b) 177 [.cells [zC zI a .no,ai d,ai c,ai b]] [.mp 0 0] (λr=>zEw r.1) (λr=>[.cells [zC zI a .no,ai r.2.1,ai r.2.2.1,ai r.2.2.2]]) 0:=fw func177<|rC 0 [0] aM λ_=>rC 0 [0] yAG λ_=>rB 2 (rK 0 [0] kP (λ_=>rC 3 [0] zRJ λ_=>rC 2 [0] mI λ_=>fE 2) λ_=>rC 0 [0] mI λ_=>fE 2)<|rC 0 [0] mI λ_=>fE 2
def eV:Nat->(List zM)->(List xQ)->Int->Int->Int->Option (List xQ×Int×Int×Int)|0,_,_,_,_,_=>none|m+1,a,n,b,d,c=>if c==0 then zOp m a b d c>>=λr2=>if r2 then if decide ((n.length:Int)>=32)then eT m a b d c 0>>=λr6=>R1 m a b d c 2 r6.at_>>=λr8=>some (n,b,r8.1,r8.2)else zRP m a b d c>>=λr10=>yT 104 n [r10.1]>>=λl12=>eV m a l12 r10.2.1 r10.2.2.1 r10.2.2.2 else some (n,b,d,c)else some (n,b,d,c)
def zRQ(m:Nat)(a:List zM)(g f e:Int):Option (List xQ×Int×Int×Int):=eV m a [] g f e
theorem zRR:∀m:Nat,∀a n b d c,Lz (eV m a n b d c) 1 f113 (pt 997 f113) (λj=>sp j 27 0 [(0,.mp 0 0),(3,zC zU n (.st 0 8))]) ⟨[(0,.cells [zC zI a .no,ai b,ai d,ai c])],1,[0],1,[]⟩ (λr=>.sl (zH zU r.1) r.1.length .no) (λr=>[.cells [zC zI a .no,ai r.2.1,ai r.2.2.1,ai r.2.2.2]]) 0 [.blk 0,.seq (pt 63 f113)]:=xF (λ_ _ _ _ _=>lN) λm ih=>λa n b d c=>lw λ_=>rB 1 (rK 0 [0] zYv (λ_=>rB 1 (rC 0 [0] aM λ_=>rC 0 [0] zCb λ_=>lE 0)<|rC 0 [0] yAH λ_=>rW (λh13=>oP 1 (zXF h13 (by simp))) λ_=>lH 0 [] [0] [1] [0,3] (ih _ _ _ _ _)) λ_=>lE 0)<|lE 0
theorem zYr{m a g f e}:Cz (zRQ m a g f e) 113 [.cells [zC zI a .no,ai g,ai f,ai e]] [.mp 0 0] (λr=>.sl (zH zU r.1) r.1.length .no) (λr=>[.cells [zC zI a .no,ai r.2.1,ai r.2.2.1,ai r.2.2.2]]) 0:=fw func113<|fH 0 [(none,3,8)] [0] [0] [0,3] (zRR _ _ _ _ _ _)
def e53(b:Nat)(a:ByteArray):Option (List zM×Int×Int×Int):=zRe b a>>=λr1=>if r1.2.2 !=0 then some ([(zM.mk 5 (⟨#[]⟩:ByteArray) 0)],0,r1.2.1,r1.2.2)else some (r1.1,0,0,0)
theorem c53{b a}:Cz (e53 b a) 53 [] [at' a] (λ_=>.mp 0 0) (λr=>[.cells [zC zI r.1 .no,ai r.2.1,ai r.2.2.1,ai r.2.2.2]]) 0:=fw func53<|rC 0 [] yAj λ_=>rB 3 (fF 1 [0])<|fF 0 [0]
def e55(e:Nat)(a:List zM)(d c b:Int):Option (yM×Int×Int×Int):=zRI e a d c b>>=λr1=>eT e a d c b 0>>=λr3=>if r1==0 then R1 e a d c b 1 r3.at_>>=λr6=>some ((yM.mk r1 r3.at_ (⟨#[]⟩:ByteArray) [] (zG.mk 0 0 (⟨#[]⟩:ByteArray) 0 []) [] []),d,r6.1,r6.2)else w7 e a (yJ (d+1)) c b>>=λr8=>if r1 !=3 then v8 e a r8.2.1 r8.2.2.1 r8.2.2.2 24>>=λr11=>qI e a r11.2.1 r11.2.2.1 r11.2.2.2 (⟨#[58]⟩:ByteArray)>>=λr13=>zFz e a r13.1 r13.2.1 r13.2.2>>=λr15=>qI e a r15.2.1 r15.2.2.1 r15.2.2.2 (⟨#[123]⟩:ByteArray)>>=λr17=>if r1==3 then zRQ e a r17.1 r17.2.1 r17.2.2>>=λr20=>qI e a r20.2.1 r20.2.2.1 r20.2.2.2 (⟨#[125]⟩:ByteArray)>>=λr22=>some ((yM.mk r1 r3.at_ r8.1 r11.1 r15.1 [] r20.1),r22.1,r22.2.1,r22.2.2)else F6 e a r17.1 r17.2.1 r17.2.2 16>>=λr24=>qI e a r24.2.1 r24.2.2.1 r24.2.2.2 (⟨#[125]⟩:ByteArray)>>=λr26=>some ((yM.mk r1 r3.at_ r8.1 r11.1 r15.1 r24.1 []),r26.1,r26.2.1,r26.2.2)else qI e a r8.2.1 r8.2.2.1 r8.2.2.2 (⟨#[58]⟩:ByteArray)>>=λr28=>zFz e a r28.1 r28.2.1 r28.2.2>>=λr30=>qI e a r30.2.1 r30.2.2.1 r30.2.2.2 (⟨#[123]⟩:ByteArray)>>=λr32=>if r1==3 then zRQ e a r32.1 r32.2.1 r32.2.2>>=λr35=>qI e a r35.2.1 r35.2.2.1 r35.2.2.2 (⟨#[125]⟩:ByteArray)>>=λr37=>some ((yM.mk r1 r3.at_ r8.1 [] r30.1 [] r35.1),r37.1,r37.2.1,r37.2.2)else F6 e a r32.1 r32.2.1 r32.2.2 16>>=λr39=>qI e a r39.2.1 r39.2.2.1 r39.2.2.2 (⟨#[125]⟩:ByteArray)>>=λr41=>some ((yM.mk r1 r3.at_ r8.1 [] r30.1 r39.1 []),r41.1,r41.2.1,r41.2.2)
theorem c55{e a d c b}:Cz (e55 e a d c b) 55 [.cells [zC zI a .no,ai d,ai c,ai b]] [.mp 0 0] (λr=>J9 r.1) (λr=>[.cells [zC zI a .no,ai r.2.1,ai r.2.2.1,ai r.2.2.2]]) 0:=fw func55<|rC 0 [0] yAB λ_=>rC 0 [0] aM λ_=>rB 2 (rC 1 [0] zCb λ_=>fE 2)<|rC 3 [0] zEY λ_=>rB 2 (rC 0 [0] zOm λ_=>rC 1 [0] mI λ_=>rC 0 [0] zRJ λ_=>rC 1 [0] mI λ_=>rB 1 (rC 0 [0] zYr λ_=>rC 1 [0] mI λ_=>fE 2)<|rC 0 [0] zFx λ_=>rC 1 [0] mI λ_=>fE 2)<|rC 0 [0] mI λ_=>rC 0 [0] zRJ λ_=>rC 1 [0] mI λ_=>rB 1 (rC 0 [0] zYr λ_=>rC 1 [0] mI λ_=>fE 2)<|rC 0 [0] zFx λ_=>rC 1 [0] mI λ_=>fE 2
def K6:Nat->ByteArray->(List zM×Int×Int×Int)->(List yM)->Int->Int->Int->Option (List yM×Int×Int)
 |0,_,_,_,_,_,_=>none|e+1,d,r1,f,c,b,a=>if a==0 then eT e r1.1 c b a 0>>=λr4=>if r4.kind_ !=5 then e55 e r1.1 c b a>>=λr7=>yT 168 f [r7.1]>>=λl9=>K6 e d r1 l9 r7.2.1 r7.2.2.1 r7.2.2.2 else if a !=0 then some ([],b,a)else some (f,(d.size:Int),0)else if a !=0 then some ([],b,a)else some (f,(d.size:Int),0)
def e22(e:Nat)(d:ByteArray):Option (List yM×Int×Int):=e53 e d>>=λr1=>K6 e d r1 [] r1.2.1 r1.2.2.1 r1.2.2.2
theorem zVk:∀e:Nat,∀d r1 f c b a,Lz (K6 e d r1 f c b a) 0 f22 (pt 4069 f22) (λj=>sp j 41 0 [(0,at' d),(5,.mp 0 0),(6,zC uI f (.st 0 11))]) ⟨[(0,.cells [zC zI r1.1 .no,ai c,ai b,ai a])],1,[0],1,[]⟩ (λr=>.tup [.sl (zH uI r.1) r.1.length .no,ai r.2.1,ai r.2.2]) (λ_=>[]) 0 [.blk 0,.seq (pt 255 f22)]:=xF (λ_ _ _ _ _ _=>lN) λe ih=>λd r1 f c b a=>lw λ_=>rB 1 (rC 0 [0] aM λ_=>rB 0 (rC 0 [0] c55 λ_=>rW (λh10=>oP 1 (zXE h10 (by simp))) λ_=>lH 0 [] [0] [1] [0,5,6] (ih _ _ _ _ _ _))<|rB 1 (lE 2)<|lE 1)<|rB 1 (lE 2)<|lE 1
theorem c22{e d}:Cz (e22 e d) 22 [] [at' d] (λr=>.tup [.sl (zH uI r.1) r.1.length .no,ai r.2.1,ai r.2.2]) (λ_=>[]) 0:=fw func22<|rC 0 [] c53 λ_=>fH 0 [(none,6,11)] [0] [0] [0,5,6] (zVk _ _ _ _ _ _ _)
section
variable{l:List zM}(hl:zKS l)
theorem P0(i a b:Int)(t:zG)(p:Int)(ho:gV t):zD (λq=>zOo q l i a b t p) λr=>r.1=t/\(r.2.2=0->b=0):=by simp only[zOo];refine zD.ite (λh=>(w3 t ho).bind λ_ _=>zD.ite (λ_=>(pA i a b 2 _ (by decide)).bind λr hr=>zD.ret ⟨rfl,λh=>absurd h hr⟩) λ_=>zD.ret ⟨rfl,id⟩) λ_=>zD.ret ⟨rfl,id⟩
include hl
theorem u0(i a b:Int)(h0:0<=i)(h1:i<l.length):zD (λq=>zFz q l i a b) (NR l i b):=by have:=hl.2.1;simp only[zFz];refine zD.bind ((vJ hl i a b 0 (by omega) (by omega)).tot (P:=λ_=>True) trivial) λt _=>(v7 hl l.length i a b h0 h1 (by omega)).bind λr hr=>(P0 _ _ _ _ _ hr.1).bind λs hs=>zD.ret ⟨by show gV s.1;rw[hs.1];exact hr.1,hr.2.1,hr.2.2.1,λh=>hr.2.2.2 (hs.2 h)⟩
omit hl in def BR(l:List zM)(i b:Int)(r:yC×Int×Int×Int):Prop:=gV r.1.type_/\i<=r.2.1/\r.2.1<l.length/\(r.2.2.2=0->b=0/\i<r.2.1)
theorem zIW(i a b:Int)(h0:0<=i)(h1:i<l.length):zD (λq=>zOn q l i a b) (BR l i b):=by have:=hl.2.1;simp only[zOn];refine zD.bind ((vJ hl i a b 0 (by omega) (by omega)).tot (P:=λ_=>True) trivial) λt _=>(kQ hl i a b h0 h1).bind λr hr=>(vK hl _ _ _ _ (by omega) hr.2.1).bind λs hs=>(u0 hl _ _ _ (by omega) hs.2.1).bind λu hu=>?_;obtain⟨o,hu⟩:=hu;exact zD.ret ⟨o,by show i<=u.2.1;omega,hu.2.1,λh=>by have:u.2.2.2=0:=h;show b=0/\i<u.2.1;omega⟩
theorem zOk(i a b:Int)(h0:0<=i)(h1:i<l.length):zD (λq=>zRM q l i a b) (BR l i b):=by simp only[zRM];refine(vK hl i a b _ h0 h1).bind λr hr=>(zIW hl _ _ _ (by omega) hr.2.1).bind λs hs=>?_;obtain⟨o,hs⟩:=hs;exact(vK hl _ _ _ _ (by omega) hs.2.1).bind λu hu=>zD.ret ⟨o,by show i<=u.1;omega,hu.2.1,λh=>by have:u.2.2=0:=h;show b=0/\i<u.1;omega⟩
theorem zKX(i a b:Int)(h0:0<=i)(h1:i<l.length):zD (λq=>zRK q l i a b) (BR l i b):=by simp only[zRK];refine(zIW hl i a b h0 h1).bind λs hs=>?_;obtain⟨o,hs⟩:=hs;exact(vK hl _ _ _ _ (by omega) hs.2.1).bind λu hu=>zD.ret ⟨o,by show i<=u.1;omega,hu.2.1,λh=>by have:u.2.2=0:=h;show b=0/\i<u.1;omega⟩
theorem P1(i a b:Int)(h0:0<=i)(h1:i<l.length):zD (λq=>zOl q l i a b) λ_=>True:=by have:=hl.2.1;simp only[zOl];exact zD.bind ((vJ hl i a b 0 (by omega) (by omega)).tot (P:=λ_=>True) trivial) λt _=>zD.ite (λ_=>zD.ret trivial) λ_=>(uW hl i a b 0 _ (by omega) (by omega)).bind λ_ _=>zD.ite (λ_=>zD.ret trivial) λ_=>(uW hl i a b 0 _ (by omega) (by omega)).bind λ_ _=>zD.ret trivial
omit hl in def zOj(l:List zM)(m:Nat):Prop:=∀i a b:Int,0<=i->i<l.length->(b=0->(l.length:Int)-i<=m)->zD (λq=>zHu q l i a b) (NR l i b)
omit hl in theorem zFv:∀{x y:List zG},zAs x->zAs y->zAs (x++y)|[],_,_,h=>h|_::_,_,h,k=>⟨h.1,zFv h.2 k⟩
theorem u5(m:Nat)(IH:zOj l m)(t:zM)(nm:ByteArray×Int×Int×Int):∀(k:Nat)(i a b kd p:Int)(sub:List zG),0<=i->i<l.length->(b=0->(l.length:Int)-i<=k)->(b=0->(l.length:Int)-i<=m)->(sub.length<=i+1/\(b=0->sub.length<=i))->zAs sub->zD (λq=>F7 q l t nm i a b kd p sub) (NR l i b)
 |k,i,a,b,kd,p,sub,h0,h1,hk,hb,hs,ho=>by
  have:=hl.2.1;refine zD.succ ?_;simp only[F7];have oo:gV (zG.mk kd p nm.1 0 sub):=⟨by omega,ho⟩;have fin:=(vK hl i a b (⟨#[41]⟩:ByteArray) h0 h1).bind (k:=λ_ r=>some (zG.mk kd p nm.1 0 sub,r.1,r.2.1,r.2.2)) (Q:=NR l i b) λr hr=>⟨_,zB.ret,oo,hr⟩;refine zD.ite (λh=>(P1 hl i a b h0 h1).bind λ_ _=>zD.ite (λ_=>(IH i a b h0 h1 hb).bind λr hr=>zD.pure (zW (by simp;omega)) ?_) λ_=>fin) λ_=>fin;have hb0:b=0:=by simpa using h
  obtain⟨o,hr⟩:=hr;cases k with|zero=>have:=hk hb0;omega|succ k=>refine(u5 m IH t nm k r.2.1 _ _ 8 _ _ (by omega) hr.2.1 (by omega) (by omega) ⟨by simp;omega,by simp;omega⟩ (zFv ho (show zAs [r.1]from⟨o,trivial⟩))).mono λs hs=>?_;obtain⟨o2,hs⟩:=hs;exact⟨o2,by omega,hs.2.1,λh=>⟨hb0,by omega⟩⟩
theorem zKY(m:Nat)(IH:zOj l m)(i a b:Int)(h0:0<=i)(h1:i+1<l.length)(hb:(l.length:Int)-i<=m+1)(hb0:b=0):zD (λq=>zRN q l i a b) (NR l i b):=by
 have:=hl.2.1;refine zD.succ ?_;simp only[zRN];rw[zS (x:=i+1) (by omega) (by omega),zS (x:=i+1+1) (by omega) (by omega)];refine zD.bind ((vJ hl i a b 0 (by omega) (by omega)).tot (P:=λ_=>True) trivial) λt _=>(uW hl (i+1) a b 0 _ (by omega) (by omega)).bind λc hc=>zD.ite (λh=>?_) λ_=>?_;·have:=hc h;exact zD.ret ⟨zAp _ _ _ _,by show i<=i+1+1;omega,by show i+1+1<_;omega,λ_=>⟨hb0,by show i<i+1+1;omega⟩⟩
 ·refine(aN hl (i+1) a b 0 (by omega) (by omega)).bind λc hc=>zD.ite (λ_=>zD.bind ((vJ hl (i+1) a b 0 (by omega) (by omega)).tot (P:=λ_=>True) trivial) λu _=>(kQ hl (i+1) a b (by omega) h1).bind λr hr=>?_) λ_=>?_
  ·refine(u5 hl m IH t r l.length r.2.1 _ _ 6 _ [] (by omega) hr.2.1 (by omega) (by omega) ⟨by simp;omega,by simp;omega⟩ trivial).mono λs hs=>?_;obtain⟨o2,hs⟩:=hs;exact⟨o2,by omega,hs.2.1,λh=>⟨hb0,by omega⟩⟩
  ·refine(IH (i+1) a b (by omega) h1 (by omega)).bind λr hr=>?_;obtain⟨o,hr⟩:=hr;exact(vK hl _ _ _ _ (by omega) hr.2.1).bind λs hs=>zD.ret ⟨o,by show i<=s.1;omega,hs.2.1,λ_=>⟨hb0,by show i<s.1;omega⟩⟩
theorem zIX:∀m:Nat,zOj l m
 |m,i,a,b,h0,h1,hb=>by
  have:=hl.2.1;refine zD.succ ?_;simp only[zHu];rw[zS (x:=i+1) (by omega) (by omega)];have e:=vJ hl i a b 0 (by omega) (by omega);refine zD.bind (e.tot (P:=λ_=>True) trivial) λt _=>zD.ite (λh=>zD.ret ⟨zAp _ _ _ _,by show i<=i;omega,h1,λh2=>absurd h2 (by simpa using h)⟩) λh=>?_;have hb0:b=0:=by simpa using h
  cases m with|zero=>have:=hb hb0;omega|succ m=>
   have nm:=(kQ hl i a b h0 h1).bind (k:=λ_ r=>some (zG.mk 6 t.at_ r.1 0 [],r.2.1,r.2.2.1,r.2.2.2)) (Q:=NR l i b) λr hr=>⟨_,zB.ret,zAp _ _ _ _,hr⟩;refine(uW hl i a b 0 _ (by omega) (by omega)).bind λc hc=>zD.ite (λh2=>(zKY hl m (zIX m) i a b h0 (by have:=hc h2;omega) (by omega) hb0).bind λr hr=>⟨_,zB.ret,hr⟩) λ_=>?_;refine(uW hl i a b 0 _ (by omega) (by omega)).bind λc hc=>zD.ite (λh2=>(v6 hl l.length (v7 hl l.length) (i+1) a b (by omega) (by have:=hc h2;omega) (by omega)).bind λr hr=>zD.ret ?_) λ_=>?_;·obtain⟨o,hr⟩:=hr;exact⟨⟨by simp,o,trivial⟩,by show i<=r.2.1;omega,hr.2.1,λ_=>⟨hb0,by show i<r.2.1;omega⟩⟩
   ·refine zD.bind (e.tot rfl) λu hu=>zD.ite (λh2=>zD.bind (e.tot (P:=λ_=>True) trivial) λ_ _=>zD.ite (λ_=>zD.ret ⟨zAp _ _ _ _,?_⟩) λ_=>nm) λ_=>nm;subst hu;have:=K5 hl (i:=i+0) (by omega) (by have:=eq_of_beq h2;omega);exact⟨by show i<=i+1;omega,by show i+1<_;omega,λ_=>⟨hb0,by show i<i+1;omega⟩⟩
theorem zAZ:∀(k:Nat)(acc:List zG)(i a b:Int),0<=i->i<l.length->24-acc.length<=k->acc.length<=24->(∀p∈acc,gV p)->zD (λq=>F8 q l acc i a b) λr=>(r.1.length<=24/\∀p∈r.1,gV p)/\i<=r.2.1/\r.2.1<l.length/\(r.2.2.2=0->b=0)
 |k,acc,i,a,b,h0,h1,hk,hn,ho=>by
  have:=hl.2.1;refine zD.succ ?_;simp only[F8];have fin:zD (λ_=>some (acc,i,a,b)) λr:List zG×Int×Int×Int=>(r.1.length<=24/\∀p∈r.1,gV p)/\i<=r.2.1/\r.2.1<l.length/\(r.2.2.2=0->b=0):=zD.ret ⟨⟨hn,ho⟩,by show i<=i;omega,h1,id⟩;refine zD.ite (λh=>(P1 hl i a b h0 h1).bind λ_ _=>zD.ite (λ_=>zD.bind ((vJ hl i a b 0 (by omega) (by omega)).tot (P:=λ_=>True) trivial) λt _=>zD.ite (λ_=>(pA _ _ _ 2 _ (by decide)).bind λr hr=>zD.ret ⟨⟨hn,ho⟩,by show i<=i;omega,h1,λh=>absurd h hr⟩) λh2=>?_) λ_=>fin) λ_=>fin;have hb0:b=0:=by simpa using h
  have h3:=of_decide_eq_false h2;refine(zIX hl l.length i a b h0 h1 (by omega)).bind λr hr=>(P0 _ _ _ _ _ hr.1).bind λs hs=>zD.pure (zW (by simp;omega)) ?_;obtain⟨o,hr⟩:=hr;cases k with|zero=>omega|succ k=>exact(zAZ k _ r.2.1 _ _ (by omega) hr.2.1 (by simp;omega) (by simp;omega) (λp hp=>by rcases List.mem_append.1 hp with hp|hp;exact ho p hp;rw[List.mem_singleton.1 hp,hs.1];exact o)).mono λu hu=>⟨hu.1,by omega,hu.2.2.1,λ_=>hb0⟩
omit hl in theorem zYq{x:xQ}(h:x.pats_.length<=24)(k:∀p∈x.pats_,gV p)(o:gV x.body_):F5 x:=⟨Nat.le_trans h (by decide),k,o⟩
omit hl in theorem dI'{d:yM}(h:gV d.type_)(h1:d.tele_.length<=24/\bOk d.tele_)(h2:d.cons_.length<=16/\bOk d.cons_)(h3:d.rows_.length<=32/\∀r∈d.rows_,F5 r):dOk d:=⟨h,⟨Nat.le_trans h1.1 (by decide),h1.2⟩,⟨Nat.le_trans h2.1 (by decide),h2.2⟩,Nat.le_trans h3.1 (by decide),h3.2⟩
theorem zRS(i a b:Int)(h0:0<=i)(h1:i<l.length):zD (λq=>zRP q l i a b) λr=>F5 r.1/\i<=r.2.1/\r.2.1<l.length:=by have:=hl.2.1;simp only[zRP,zVl];refine zD.bind ((vJ hl i a b 0 (by omega) (by omega)).tot (P:=λ_=>True) trivial) λt _=>(zAZ hl 24 [] i a b h0 h1 (by simp) (by simp) (by simp)).bind λr hr=>?_;obtain⟨⟨o1,o2⟩,hr⟩:=hr;have fin:=(vK hl r.2.1 r.2.2.1 r.2.2.2 (⟨#[59]⟩:ByteArray) (by omega) hr.2.1).bind (k:=λ_ s=>some (xQ.mk t.at_ r.1 false (zG.mk 0 0 (⟨#[]⟩:ByteArray) 0 []),s.1,s.2.1,s.2.2)) (Q:=λr=>F5 r.1/\i<=r.2.1/\r.2.1<(l.length:Int)) λs hs=>⟨_,zB.ret,zYq o1 o2 (zAp _ _ _ _),by show i<=s.1;omega,hs.2.1⟩;refine zD.ite (λ_=>(uW hl _ _ _ 0 _ (by omega) (by omega)).bind λc hc=>zD.ite (λh2=>?_) λ_=>fin) λ_=>fin;have:=hc h2;rw[zS (x:=r.2.1+1) (by omega) (by omega)];refine(u0 hl _ _ _ (by omega) (by omega)).bind λs hs=>?_;obtain⟨o,hs⟩:=hs;exact(vK hl _ _ _ _ (by omega) hs.2.1).bind λu hu=>zD.ret ⟨zYq o1 o2 o,by show i<=u.1;omega,hu.2.1⟩
theorem zFu(i a b:Int)(h0:0<=i)(h1:i<l.length):zD (λq=>zOp q l i a b) λ_=>True:=by have:=hl.2.1;simp only[zOp];exact(uW hl i a b 0 _ (by omega) (by omega)).bind λ_ _=>zD.ret trivial
theorem zHt(i a b:Int)(h0:0<=i)(h1:i<l.length):zD (λq=>zRL q l i a b) λ_=>True:=by have:=hl.2.1;simp only[zRL];exact(uW hl i a b 0 _ (by omega) (by omega)).bind λ_ _=>zD.ret trivial
theorem zBz:∀(k:Nat)(acc:List xQ)(i a b:Int),0<=i->i<l.length->32-acc.length<=k->acc.length<=32->(∀p∈acc,F5 p)->zD (λq=>eV q l acc i a b) λr=>(r.1.length<=32/\∀p∈r.1,F5 p)/\i<=r.2.1/\r.2.1<l.length/\(r.2.2.2=0->b=0)
 |k,acc,i,a,b,h0,h1,hk,hn,ho=>by
  have:=hl.2.1;refine zD.succ ?_;simp only[eV];have fin:zD (λ_=>some (acc,i,a,b)) λr:List xQ×Int×Int×Int=>(r.1.length<=32/\∀p∈r.1,F5 p)/\i<=r.2.1/\r.2.1<l.length/\(r.2.2.2=0->b=0):=zD.ret ⟨⟨hn,ho⟩,by show i<=i;omega,h1,id⟩;refine zD.ite (λh=>(zFu hl i a b h0 h1).bind λ_ _=>zD.ite (λ_=>zD.ite (λ_=>zD.bind ((vJ hl i a b 0 (by omega) (by omega)).tot (P:=λ_=>True) trivial) λt _=>(pA _ _ _ 2 _ (by decide)).bind λr hr=>zD.ret ⟨⟨hn,ho⟩,by show i<=i;omega,h1,λh=>absurd h hr⟩) λh2=>?_) λ_=>fin) λ_=>fin;have hb0:b=0:=by simpa using h
  have h3:=of_decide_eq_false h2;refine(zRS hl i a b h0 h1).bind λr hr=>zD.pure (zW (by simp;omega)) ?_;obtain⟨o,hr⟩:=hr;cases k with|zero=>omega|succ k=>exact(zBz k _ r.2.1 _ _ (by omega) hr.2 (by simp;omega) (by simp;omega) (λp hp=>by rcases List.mem_append.1 hp with hp|hp;exact ho p hp;rw[List.mem_singleton.1 hp];exact o)).mono λu hu=>⟨hu.1,by omega,hu.2.2.1,λ_=>hb0⟩
omit hl in def LR(l:List zM)(i b most:Int)(r:List yC×Int×Int×Int):Prop:=(r.1.length<=most/\bOk r.1)/\i<=r.2.1/\r.2.1<l.length/\(r.2.2.2=0->b=0)
theorem zBy(most:Int)(hm:0<=most/\most<=24):∀(k:Nat)(acc:List yC)(i a b:Int),0<=i->i<l.length->most-acc.length<=k->acc.length<=most->bOk acc->zD (λq=>oT q l most acc i a b) (LR l i b most)
 |k,acc,i,a,b,h0,h1,hk,hn,ho=>by
  have:=hl.2.1;refine zD.succ ?_;simp only[oT];have fin:zD (λ_=>some (acc,i,a,b)) (LR l i b most):=zD.ret ⟨⟨hn,ho⟩,by show i<=i;omega,h1,id⟩;refine zD.ite (λh=>(zHt hl i a b h0 h1).bind λ_ _=>zD.ite (λ_=>zD.ite (λ_=>zD.bind ((vJ hl i a b 0 (by omega) (by omega)).tot (P:=λ_=>True) trivial) λt _=>(pA _ _ _ 2 _ (by decide)).bind λr hr=>zD.ret ⟨⟨hn,ho⟩,by show i<=i;omega,h1,λh=>absurd h hr⟩) λh2=>?_) λ_=>fin) λ_=>fin;have hb0:b=0:=by simpa using h
  have h3:=of_decide_eq_false h2;refine(zOk hl i a b h0 h1).bind λr hr=>zD.pure (zW (by simp;omega)) ?_;obtain⟨o,hr⟩:=hr;cases k with|zero=>omega|succ k=>exact(zBy most hm k _ r.2.1 _ _ (by omega) hr.2.1 (by simp;omega) (by simp;omega) (λp hp=>by rcases List.mem_append.1 hp with hp|hp;exact ho p hp;rw[List.mem_singleton.1 hp];exact o)).mono λu hu=>⟨hu.1,by have:=hu.2.1;omega,hu.2.2.1,λ_=>hb0⟩
theorem zBx(most:Int)(hm:0<=most/\most<=24):∀(k:Nat)(acc:List yC)(i a b:Int),0<=i->i<l.length->most-acc.length<=k->acc.length<=most->bOk acc->zD (λq=>rY q l most acc i a b) (LR l i b most)
 |k,acc,i,a,b,h0,h1,hk,hn,ho=>by
  have:=hl.2.1;refine zD.succ ?_;simp only[rY];have fin:zD (λ_=>some (acc,i,a,b)) (LR l i b most):=zD.ret ⟨⟨hn,ho⟩,by show i<=i;omega,h1,id⟩;refine zD.ite (λh=>(zFu hl i a b h0 h1).bind λ_ _=>zD.ite (λ_=>zD.ite (λ_=>zD.bind ((vJ hl i a b 0 (by omega) (by omega)).tot (P:=λ_=>True) trivial) λt _=>(pA _ _ _ 2 _ (by decide)).bind λr hr=>zD.ret ⟨⟨hn,ho⟩,by show i<=i;omega,h1,λh=>absurd h hr⟩) λh2=>?_) λ_=>fin) λ_=>fin;have hb0:b=0:=by simpa using h
  have h3:=of_decide_eq_false h2;refine(zKX hl i a b h0 h1).bind λr hr=>zD.pure (zW (by simp;omega)) ?_;obtain⟨o,hr⟩:=hr;cases k with|zero=>omega|succ k=>exact(zBx most hm k _ r.2.1 _ _ (by omega) hr.2.1 (by simp;omega) (by simp;omega) (λp hp=>by rcases List.mem_append.1 hp with hp|hp;exact ho p hp;rw[List.mem_singleton.1 hp];exact o)).mono λu hu=>⟨hu.1,by have:=hu.2.1;omega,hu.2.2.1,λ_=>hb0⟩
theorem zOi(i a b:Int)(h0:0<=i)(h1:i<l.length):zD (λq=>zRI q l i a b) λr=>r≠0->i+1<l.length:=by have:=hl.2.1;simp only[zRI];refine(uW hl i a b 0 _ (by omega) (by omega)).bind λc hc=>zD.ite (λh=>zD.ret λ_=>by have:=hc h;omega) λ_=>?_;refine(uW hl i a b 0 _ (by omega) (by omega)).bind λc hc=>zD.ite (λh=>zD.ret λ_=>by have:=hc h;omega) λ_=>?_;exact(uW hl i a b 0 _ (by omega) (by omega)).bind λc hc=>zD.ite (λh=>zD.ret λ_=>by have:=hc h;omega) λ_=>zD.ret λh=>absurd rfl h
omit hl in def DR(l:List zM)(i:Int)(r:yM×Int×Int×Int):Prop:=dOk r.1/\i<=r.2.1/\r.2.1<l.length/\(r.2.2.2=0->i<r.2.1)
theorem zOh(i a b:Int)(h0:0<=i)(h1:i<l.length):zD (λq=>e55 q l i a b) (DR l i):=by
 have:=hl.2.1;have z:bOk []:=λ_ h=>nomatch h;simp only[e55,v8,F6,zRQ];refine(zOi hl i a b h0 h1).bind λc hc=>zD.bind ((vJ hl i a b 0 (by omega) (by omega)).tot (P:=λ_=>True) trivial) λt _=>zD.ite (λh=>(pA _ _ _ 1 _ (by decide)).bind λr hr=>zD.ret ⟨⟨zAp _ _ _ _,⟨by simp,z⟩,⟨by simp,z⟩,by simp,λ_ h=>nomatch h⟩,by show i<=i;omega,h1,λh=>absurd h hr⟩) λh=>?_;have:=hc (by simpa using h);rw[zS (x:=i+1) (by omega) (by omega)];refine(kQ hl _ _ _ (by omega) (by omega)).bind λr hr=>?_;have rest:∀(T:List yC)(j e f:Int),i<j->j<l.length->(T.length<=24/\bOk T)->zD (λq=>qI q l j e f (⟨#[58]⟩:ByteArray)>>=λr13=>zFz q l r13.1 r13.2.1 r13.2.2>>=λr15=>qI q l r15.2.1 r15.2.2.1 r15.2.2.2 (⟨#[123]⟩:ByteArray)>>=λr17=>if(c==3)=true then eV q l [] r17.1 r17.2.1 r17.2.2>>=λr20=>qI q l r20.2.1 r20.2.2.1 r20.2.2.2 (⟨#[125]⟩:ByteArray)>>=λr22=>some ((yM.mk c t.at_ r.1 T r15.1 [] r20.1),r22.1,r22.2.1,r22.2.2)else rY q l 16 [] r17.1 r17.2.1 r17.2.2>>=λr24=>qI q l r24.2.1 r24.2.2.1 r24.2.2.2 (⟨#[125]⟩:ByteArray)>>=λr26=>some ((yM.mk c t.at_ r.1 T r15.1 r24.1 []),r26.1,r26.2.1,r26.2.2)) (DR l i):=by
  intro T j e f g0 g1 gT;refine(vK hl _ _ _ _ (by omega) g1).bind λu hu=>(u0 hl _ _ _ (by omega) hu.2.1).bind λv hv=>?_;obtain⟨ov,hv⟩:=hv;refine(vK hl _ _ _ _ (by omega) hv.2.1).bind λw hw=>zD.ite (λ_=>(zBz hl 32 [] _ _ _ (by omega) hw.2.1 (by simp) (by simp) (by simp)).bind λx hx=>?_) λ_=>(zBx hl 16 (by omega) 16 [] _ _ _ (by omega) hw.2.1 (by simp) (by simp) z).bind λx hx=>?_;·obtain⟨⟨x1,x2⟩,hx⟩:=hx;exact(vK hl _ _ _ _ (by omega) hx.2.1).bind λy hy=>zD.ret ⟨dI' ov gT ⟨by simp,z⟩ ⟨x1,x2⟩,by show i<=y.1;omega,hy.2.1,λ_=>by show i<y.1;omega⟩
  ·obtain⟨⟨x1,x2⟩,hx⟩:=hx;exact(vK hl _ _ _ _ (by omega) hx.2.1).bind λy hy=>zD.ret ⟨dI' ov gT ⟨Int.ofNat_le.1 x1,x2⟩ ⟨by simp,λ_ h=>nomatch h⟩,by show i<=y.1;omega,hy.2.1,λ_=>by show i<y.1;omega⟩
 refine zD.ite (λ_=>(zBy hl 24 (by omega) 24 [] _ _ _ (by omega) hr.2.1 (by simp) (by simp) z).bind λx hx=>?_) λ_=>rest [] _ _ _ (by omega) hr.2.1 ⟨by simp,z⟩;obtain⟨⟨x1,x2⟩,hx⟩:=hx;exact rest x.1 _ _ _ (by omega) hx.2.1 ⟨by omega,x2⟩
end
theorem zKZ(s:ByteArray):zD (λq=>e53 q s) λr=>zKS r.1/\r.2.1=0:=by simp only[e53];exact(zOx s).bind λr hr=>zD.ite (λ_=>zD.ret ⟨⟨by simp,by simp,by simp⟩,rfl⟩) λh=>zD.ret ⟨hr (by simpa using h),rfl⟩
theorem zBw(s:ByteArray)(r1:List zM×Int×Int×Int)(hl:zKS r1.1):∀(k:Nat)(acc:List yM)(i a b:Int),0<=i->i<r1.1.length->(r1.1.length:Int)-i<=k->acc.length<=i+1/\(b=0->acc.length<=i)->(∀d∈acc,dOk d)->zD (λq=>K6 q s r1 acc i a b) λr=>(∀d∈r.1,dOk d)/\r.1.length<=8194
 |k,acc,i,a,b,h0,h1,hk,hn,ho=>by
  have:=hl.2.1;refine zD.succ ?_;simp only[K6];have fin:zD (λ_:Nat=>if(b !=0)=true then some ([],a,b)else some (acc,(s.size:Int),0)) λr:List yM×Int×Int=>(∀d∈r.1,dOk d)/\r.1.length<=8194:=zD.ite (λ_=>zD.ret ⟨(λ_ h=>nomatch h),by simp⟩) λ_=>zD.ret ⟨ho,by show acc.length<=_;omega⟩;refine zD.ite (λh=>zD.bind ((vJ hl i a b 0 (by omega) (by omega)).tot (P:=λ_=>True) trivial) λt _=>zD.ite (λ_=>(zOh hl i a b h0 h1).bind λr hr=>zD.pure (zW (by simp;omega)) ?_) λ_=>fin) λ_=>fin;have hb0:b=0:=by simpa using h
  obtain⟨o,hr⟩:=hr;have ho2:∀d∈acc++[r.1],dOk d:=λp hp=>by rcases List.mem_append.1 hp with hp|hp;exact ho p hp;rw[List.mem_singleton.1 hp];exact o
  by_cases e:r.2.2.2=0;·cases k with|zero=>omega|succ k=>exact zBw s r1 hl k _ r.2.1 _ _ (by omega) hr.2.1 (by omega) ⟨by simp;omega,by simp;omega⟩ ho2
  ·refine zD.succ ?_;simp only[K6];exact zD.ite (λh=>absurd (by simpa using h) e) λ_=>zD.ite (λ_=>zD.ret ⟨(λ_ h=>nomatch h),by simp⟩) λh=>absurd (by simpa using h) e
theorem zOg(s:ByteArray):zD (λq=>e22 q s) λr=>(∀d∈r.1,dOk d)/\r.1.length<=8194:=by simp only[e22];refine(zKZ s).bind λr hr=>?_;have:=hr.1.1;exact zBw s r hr.1 r.1.length [] _ _ _ (by omega) (by omega) (by omega) ⟨by simp;omega,by simp;omega⟩ (λ_ h=>nomatch h)
def zOf(b:Nat)(a:Tm)(c:Int):Option (Bool):=Y4 b a 0 c>>=λr1=>if r1 then zKF b a>>=λr4=>some ((r4.length:Int)==0)else some false
theorem zYp{b a c}:Cz (zOf b a c) 153 [] [yL a,ai c] (λr=>ab r) (λ_=>[]) 0:=fw func153<|rK 1 [] zGN (λ_=>rC 1 [] yAx λ_=>fE 2) λ_=>fE 0
def zOe(b:Nat)(a:Tm):Option (Bool):=if a.k==0 then if a.n==0 then some ((a.sub.length:Int)==0)else some false else some false
theorem zYo{b a}:Cz (zOe b a) 205 [] [yL a] (λr=>ab r) (λ_=>[]) 0:=fw func205<|rB 1 (rB 1 (fE 3)<|fE 0)<|fE 0
def eW:Nat->yH->Int->Int->Option (Bool)|0,_,_,_=>none|c+1,a,b,d=>if decide (d<(a.length:Int))then zO a d>>=λx2=>if x2 !=(yJ (b+d))then some false else eW c a b (yJ (d+1))else some true
def zOd(c:Nat)(a:yH)(b:Int):Option (Bool):=eW c a b 0
theorem zRT:∀c:Nat,∀a b d,Lz (eW c a b d) 0 f206 (pt 949 f206) (λj=>sp j 20 0 [(1,ai b),(7,zC zQ a .no),(8,ai (a.length:Int)),(9,ai d)]) ⟨[],0,[],0,[]⟩ (λr=>ab r) (λ_=>[]) 0 [.blk 0,.seq (pt 15 f206)]:=xF (λ_ _ _=>lN) λc ih=>λa b d=>lw λ_=>rB 0 (rA 0 (sS (o:=.no)) λ_=>rB 2 (lE 0)<|lH 1 [] [] [] [1,7,8,9] (ih _ _ _))<|lE 0
theorem zYn{c a b}:Cz (zOd c a b) 206 [] [zC zQ a .no,ai b] (λr=>ab r) (λ_=>[]) 0:=fw func206<|fH 1 [] [] [] [1,7,8,9] (zRT _ _ _ _)
def e90(d:Nat)(b:yB)(a c:Int):Option (Bool):=if decide (a>=0)then if decide (a<(b.length:Int))then zO b a>>=λx3=>some (x3.kind==c)else some false else some false
theorem c90{d b a c}:Cz (e90 d b a c) 90 [] [zC zP b .no,ai a,ai c] (λr=>ab r) (λ_=>[]) 0:=fw func90<|rB 0 (rB 1 (rA 0 (xN (o:=.no)) λ_=>fE 2)<|fE 0)<|fE 0
def eX:Nat->yB->Int->yH->Int->Int->Option (Bool)
 |0,_,_,_,_,_=>none|f+1,c,d,b,e,a=>if decide (a<(b.length:Int))then zO b a>>=λx2=>e90 f c x2 e>>=λr4=>if r4 then zO c x2>>=λx7=>if x7.fam !=d then some false else if x7.place !=a then some false else eX f c d b e (yJ (a+1))else some false else some true
def zOc(f:Nat)(c:yB)(d:Int)(b:yH)(e:Int):Option (Bool):=eX f c d b e 0
theorem zRU:∀f:Nat,∀c d b e a,Lz (eX f c d b e a) 0 f207 (pt 949 f207) (λj=>sp j 42 0 [(0,zC zP c .no),(1,ai d),(3,ai e),(11,zC zQ b .no),(12,ai (b.length:Int)),(13,ai a)]) ⟨[],0,[],0,[]⟩ (λr=>ab r) (λ_=>[]) 0 [.blk 0,.seq (pt 15 f207)]:=xF (λ_ _ _ _ _=>lN) λf ih=>λc d b e a=>lw λ_=>rB 0 (rA 0 (sS (o:=.no)) λ_=>rK 1 [] c90 (λ_=>rH λ_ h8=>rS (oA 1 (xN (o:=.no) h8))<|rB 1 (lE 0)<|rS (oA 0 (xN (o:=.no) h8))<|rB 1 (lE 0)<|lH 1 [] [] [] [0,1,3,11,12,13] (ih _ _ _ _ _)) λ_=>lE 1)<|lE 0
theorem zYm{f c d b e}:Cz (zOc f c d b e) 207 [] [zC zP c .no,ai d,zC zQ b .no,ai e] (λr=>ab r) (λ_=>[]) 0:=fw func207<|fH 1 [] [] [] [0,1,3,11,12,13] (zRU _ _ _ _ _ _)
def zRV(a:Nat)(c:yB)(b:Int):Option (Bool):=zO c b>>=λx1=>if decide (x1.pars<0)then some false else if decide (x1.inds<0)then some false else if decide (x1.pars>24)then some false else if decide (x1.inds>(yJ (24-x1.pars)))then some false else if x1.fam !=0 then some false else if x1.place !=0 then some false else zOe a x1.body>>=λr9=>if r9 then e91 a x1.type (yJ (x1.pars+x1.inds))>>=λr12=>if r12.2.2 !=0 then some false else if r12.2.1.k !=2 then some false else if r12.2.1.n !=x1.level then some false else if decide ((x1.cons.length:Int)>16)then some false else zOd a x1.cons (yJ (b+1))>>=λr18=>if r18 then zOc a c b x1.cons 2>>=λr21=>if r21 then if(x1.fields.length:Int)==0 then some true else if x1.inds !=0 then some false else if(x1.cons.length:Int)!=1 then some false else zOd a x1.fields (yJ (b+2))>>=λr27=>if r27 then zOc a c b x1.fields 4>>=λr30=>if r30 then zO c (yJ (b+1))>>=λx33=>e99 a x33.type>>=λr35=>if r35.2.2==0 then some ((r35.1.length:Int)==(yJ (x1.pars+(x1.fields.length:Int))))else some false else some false else some false else some false else some false else some false
theorem yAI{a c b}:Cz (zRV a c b) 154 [] [zC zP c .no,ai b] (λr=>ab r) (λ_=>[]) 0:=fw func154<|rA 0 (xN (o:=.no)) λ_=>rB 3 (fE 0)<|rB 1 (fE 0)<|rB 1 (fE 0)<|rB 3 (fE 0)<|rB 1 (fE 0)<|rB 1 (fE 0)<|rK 1 [] zYo (λ_=>rC 5 [] c91 λ_=>rB 4 (fE 0)<|rB 1 (fE 0)<|rB 2 (fE 0)<|rB 2 (fE 0)<|rK 2 [] zYn (λ_=>rK 2 [] zYm (λ_=>rB 3 (fE 0)<|rB 1 (fE 0)<|rB 2 (fE 0)<|rK 2 [] zYn (λ_=>rK 2 [] zYm (λ_=>rA 2 (xN (o:=.no)) λ_=>rC 1 [] c99 λ_=>rB 4 (fE 6)<|fE 0) λ_=>fE 1) λ_=>fE 1) λ_=>fE 1) λ_=>fE 1) λ_=>fE 1
def nU(e:zX):Prop:=e.type.Ok/\e.body.Ok/\e.cons.length<=1152921504606846976/\e.fields.length<=1152921504606846976
def zE:zX:=zX.mk 0 ⟨#[]⟩ zT zT 0 0 0 0 0 [] []
def zN(l:List zX)(n:Int):zX:=(l[n.toNat]?).getD zE
theorem yO{l:List zX}{n:Int}(h0:0<=n)(h1:n<l.length):zO l n=some (zN l n):=by
 unfold zO zN;rw[if_pos h0];have:n.toNat<l.length:=by omega
 rw[List.getElem?_eq_getElem this];rfl
theorem pB{l:List zX}{n:Int}(h0:0<=n)(h1:n<l.length):zN l n∈l:=by
 unfold zN;have:n.toNat<l.length:=by omega
 rw[List.getElem?_eq_getElem this];exact List.getElem_mem this
def kY(l:List zX)(n kind:Int):Bool:=decide (0<=n)&&decide (n<l.length)&&(zN l n).kind==kind
theorem wJ{l:List zX}{n kind:Int}(h:kY l n kind=true):0<=n/\n<l.length/\(zN l n).kind=kind:=by unfold kY at h;simp only[Bool.and_eq_true,decide_eq_true_eq,beq_iff_eq]at h;exact⟨h.1.1,h.1.2,h.2⟩
theorem zIY(l:List zX)(n kind:Int):zB (λq=>e90 q l n kind) (kY l n kind):=by
 simp only[e90];unfold kY;by_cases h0:n>=0
 ·refine zB.ifT (decide_eq_true h0) ?_;by_cases h1:n<l.length;·exact zB.ifT (decide_eq_true h1) (zB.pure (yO h0 h1) (zB.ret.eq (by simp[show 0<=n from h0,h1])))
  ·exact zB.ifF (decide_eq_false h1) (zB.ret.eq (by simp[h1]))
 ·exact zB.ifF (decide_eq_false h0) (zB.ret.eq (by simp[show¬0<=n from h0]))
def bO(t:Tm):Bool:=t.k==0&&t.n==0&&(t.sub.length:Int)==0
theorem zCa(t:Tm):zB (λq=>zOe q t) (bO t):=by refine zB.mk λq=>?_;unfold zOe bO;by_cases h1:t.k=0<;>by_cases h2:t.n=0<;>by_cases h3:t.sub.length=0<;>simp[h1,h2,h3]
def tL(t:Tm)(n:Int):Bool:=qW t 0 n&&(lR t 8 8).isEmpty
theorem u6(t:Tm)(n:Int)(ho:t.Ok):zB (λq=>zOf q t n) (tL t n):=by
 simp only[zOf];refine(mD t 0 n ho).bind ?_;unfold tL;by_cases h:qW t 0 n=true
 ·refine zB.ifT h ((zNg t ho).bind (zB.ret.eq ?_));have hs:zJ t=true:=by unfold qW at h;simp at h;exact h.1.1
  unfold zAH;rw[if_pos hs,h,Bool.true_and,Bool.eq_iff_iff];simp only[beq_iff_eq,List.isEmpty_iff];constructor
  ·intro h6;have h6':vE (lR t 8 8)=[]:=List.length_eq_zero_iff.1 (by omega);refine List.eq_nil_iff_forall_not_mem.2 λx hx=>?_;rw[<-D8,h6']at hx;cases hx
  ·intro h6;rw[h6];rfl
 ·exact zB.ifF (by simpa using h) (zB.ret.eq (by simp[h]))
def u7:List Int->Int->Bool|[],_=>true|n::r,m=>n==m&&u7 r (m+1)
theorem zFt(l:List Int)(f:Int)(hf:0<=f/\f<=1048576)(hl:l.length<=1152921504606846976):∀(r:List Int)(v:Nat),l.drop v=r->zB (λq=>eW q l f (v:Int)) (u7 r (f+v))
 |[],v,hd=>by refine zB.succ ?_;simp only[eW];exact zB.ifF (yE hd) zB.ret|n::r,v,hd=>by
  have hlt:=yK hd;refine zB.succ ?_;simp only[eW];refine zB.ifT (yD hd) (zB.pure (zY hd) ?_);rw[zS (x:=f+v) (by omega) (by omega),u7];by_cases h:n=f+v
  ·refine zB.ifF (by simp[h]) ?_;rw[zV v (by omega)];exact(zFt l f hf hl r (v+1) (zR hd)).eq (by rw[show f+((v+1:Nat):Int)=f+v+1 by omega];simp[h])
  ·exact zB.ifT (by simp[h]) (zB.ret.eq (by simp[h]))
theorem zIZ(l:List Int)(f:Int)(hf:0<=f/\f<=1048576)(hl:l.length<=1152921504606846976):zB (λq=>zOd q l f) (u7 l f):=by simp only[zOd];exact(zFt l f hf hl l 0 rfl).eq (by simp)
def aO(l:List zX)(of kind:Int):List Int->Int->Bool|[],_=>true|n::r,k=>kY l n kind&&(zN l n).fam==of&&(zN l n).place==k&&aO l of kind r (k+1)
theorem P2(l:List zX)(of kind:Int)(p:List Int)(hp:p.length<=1152921504606846976):∀(r:List Int)(v:Nat),p.drop v=r->zB (λq=>eX q l of p kind (v:Int)) (aO l of kind r v)
 |[],v,hd=>by refine zB.succ ?_;simp only[eX];exact zB.ifF (yE hd) zB.ret|n::r,v,hd=>by
  have hlt:=yK hd;refine zB.succ ?_;simp only[eX];refine zB.ifT (yD hd) (zB.pure (zY hd) ((zIY l n kind).bind ?_));rw[aO];by_cases h:kY l n kind=true
  ·have hs:=wJ h;refine zB.ifT h (zB.pure (yO hs.1 hs.2.1) ?_);by_cases h2:(zN l n).fam=of
   ·refine zB.ifF (by simp[h2]) ?_;by_cases h3:(zN l n).place=v
    ·refine zB.ifF (by simp[h3]) ?_;rw[zV v (by omega)];exact(P2 l of kind p hp r (v+1) (zR hd)).eq (by simp[h,h2,h3])
    ·exact zB.ifT (by simp[h3]) (zB.ret.eq (by simp[h3]))
   ·exact zB.ifT (by simp[h2]) (zB.ret.eq (by simp[h2]))
  ·exact zB.ifF (by simpa using h) (zB.ret.eq (by simp[h]))
theorem u9(l:List zX)(of kind:Int)(p:List Int)(hp:p.length<=1152921504606846976):zB (λq=>zOc q l of p kind) (aO l of kind p 0):=by simp only[zOc];exact(P2 l of kind p hp p 0 rfl).eq (by simp)
def zHs(x:zX):Bool:=decide (0<=x.pars)&&decide (0<=x.inds)&&decide (x.pars<=24)&&decide (x.inds<=24-x.pars)&&x.fam==0&&x.place==0&&bO x.body
def zHr(x:zX):Bool:=(wN x.type (x.pars+x.inds)).2.2==0&&(wN x.type (x.pars+x.inds)).2.1.k==2&&(wN x.type (x.pars+x.inds)).2.1.n==x.level
def zAo(l:List zX)(i:Int)(x:zX):Bool:=decide (x.cons.length<=16)&&u7 x.cons (i+1)&&aO l i 2 x.cons 0
def zRW(l:List zX)(i:Int)(x:zX):Bool:=x.inds==0&&decide (x.cons.length=1)&&u7 x.fields (i+2)&&aO l i 4 x.fields 0&&(yY (zN l (i+1)).type).2.2==0&&((yY (zN l (i+1)).type).1.length:Int)==x.pars+x.fields.length
def pC(l:List zX)(i:Int):Bool:=zHs (zN l i)&&zHr (zN l i)&&zAo l i (zN l i)&&(decide ((zN l i).fields.length=0)||zRW l i (zN l i))
theorem zLz(l:List zX)(i:Int)(h0:0<=i)(h1:i<l.length)(hl:l.length<=65535)(he:∀e∈l,nU e):zB (λq=>zRV q l i) (pC l i):=by
 simp only[zRV];refine zB.pure (yO h0 h1) ?_;have hx:=he _ (pB h0 h1);have hfl:(zN l i).fields.length<=1152921504606846976:=hx.2.2.2;unfold pC;by_cases hA:zHs (zN l i)=true
 ·have hA':=hA;unfold zHs at hA';simp only[Bool.and_eq_true,decide_eq_true_eq,beq_iff_eq]at hA';obtain⟨⟨⟨⟨⟨⟨a1,a2⟩,a3⟩,a4⟩,a5⟩,a6⟩,a7⟩:=hA';refine zB.ifF (decide_eq_false (by omega)) (zB.ifF (decide_eq_false (by omega)) (zB.ifF (decide_eq_false (by omega)) (zB.ifF (decide_eq_false (by rw[zS (by omega) (by omega)];omega)) (zB.ifF (by simp[a5]) (zB.ifF (by simp[a6]) (((zCa _).eq a7).bind (zB.ifT rfl ?_)))))));rw[zS (by omega) (by omega)];refine(gS (zN l i).type _ hx.1).bind ?_;rw[hA];by_cases b1:(wN (zN l i).type ((zN l i).pars+(zN l i).inds)).2.2=0
  ·refine zB.ifF (by simp[b1]) ?_;by_cases b2:(wN (zN l i).type ((zN l i).pars+(zN l i).inds)).2.1.k=2
   ·refine zB.ifF (by simp[b2]) ?_;by_cases b3:(wN (zN l i).type ((zN l i).pars+(zN l i).inds)).2.1.n=(zN l i).level
    ·refine zB.ifF (by simp[b3]) ?_;have hB:zHr (zN l i)=true:=by unfold zHr;simp[b1,b2,b3]
     rw[hB];by_cases c1:(zN l i).cons.length<=16
     ·refine zB.ifF (decide_eq_false (by omega)) ?_;rw[zS (x:=i+1) (by omega) (by omega)];refine(zIZ (zN l i).cons (i+1) (by omega) (by omega)).bind ?_;by_cases c2:u7 (zN l i).cons (i+1)=true
      ·refine zB.ifT c2 ((u9 l i 2 (zN l i).cons (by omega)).bind ?_);by_cases c3:aO l i 2 (zN l i).cons 0=true
       ·refine zB.ifT c3 ?_;have hC:zAo l i (zN l i)=true:=by unfold zAo;simp[c1,c2,c3]
        rw[hC];by_cases d0:(zN l i).fields.length=0;·exact zB.ifT (by simp[d0]) (zB.ret.eq (by simp[d0]))
        ·refine zB.ifF (by have h:((zN l i).fields.length:Int)≠0:=(by omega);simpa using h) ?_;rw[show decide ((zN l i).fields.length=0)=false by simp[d0]];simp only[Bool.true_and,Bool.false_or];unfold zRW;by_cases d1:(zN l i).inds=0
         ·refine zB.ifF (by simp[d1]) ?_;by_cases d2:(zN l i).cons.length=1
          ·refine zB.ifF (by simp[d2]) ?_;rw[zS (x:=i+2) (by omega) (by omega)];refine(zIZ (zN l i).fields (i+2) (by omega) hx.2.2.2).bind ?_;by_cases d3:u7 (zN l i).fields (i+2)=true
           ·refine zB.ifT d3 ((u9 l i 4 (zN l i).fields hx.2.2.2).bind ?_);by_cases d4:aO l i 4 (zN l i).fields 0=true
            ·have hi:i+1<l.length:=by
              obtain⟨y,hy⟩:∃y,(zN l i).cons=[y]:=by rcases hc:(zN l i).cons with _|⟨y,_|⟨z,r⟩⟩<;>rw[hc]at d2<;>simp at d2;exact⟨y,rfl⟩
              rw[hy]at c2 c3;rw[u7]at c2;rw[aO]at c3;simp only[Bool.and_eq_true,beq_iff_eq]at c2 c3;have:=wJ c3.1.1.1;omega
             refine zB.ifT d4 (zB.pure (yO (by omega) hi) ((E7 _ (he _ (pB (by omega) hi)).1).bind ?_));by_cases d5:(yY (zN l (i+1)).type).2.2=0
             ·refine zB.ifT (by simp[d5]) (zB.ret.eq ?_);rw[zS (x:=(zN l i).pars+((zN l i).fields.length:Int)) (by omega) (by omega)];simp[d1,d2,d3,d4,d5]
             ·exact zB.ifF (by simp[d5]) (zB.ret.eq (by simp[d5]))
            ·exact zB.ifF (by simpa using d4) (zB.ret.eq (by simp[d4]))
           ·exact zB.ifF (by simpa using d3) (zB.ret.eq (by simp[d3]))
          ·exact zB.ifT (by simp<;>omega) (zB.ret.eq (by simp[d2]))
         ·exact zB.ifT (by simp[d1]) (zB.ret.eq (by simp[d1]))
       ·refine zB.ifF (by simpa using c3) (zB.ret.eq ?_);unfold zAo;simp[c3]
      ·refine zB.ifF (by simpa using c2) (zB.ret.eq ?_);unfold zAo;simp[c2]
     ·refine zB.ifT (decide_eq_true (by omega)) (zB.ret.eq ?_);unfold zAo;simp[c1]
    ·refine zB.ifT (by simp[b3]) (zB.ret.eq ?_);unfold zHr;simp[b3]
   ·refine zB.ifT (by simp[b2]) (zB.ret.eq ?_);unfold zHr;simp[b2]
  ·refine zB.ifT (by simp[b1]) (zB.ret.eq ?_);unfold zHr;simp[b1]
 ·rw[show zHs (zN l i)=false by simpa using hA];unfold zHs at hA;simp only[Bool.and_eq_true,decide_eq_true_eq,beq_iff_eq]at hA;by_cases a1:(zN l i).pars<0;·exact zB.ifT (decide_eq_true a1) zB.ret
  refine zB.ifF (decide_eq_false a1) ?_;by_cases a2:(zN l i).inds<0;·exact zB.ifT (decide_eq_true a2) zB.ret
  refine zB.ifF (decide_eq_false a2) ?_;by_cases a3:(zN l i).pars>24;·exact zB.ifT (decide_eq_true a3) zB.ret
  refine zB.ifF (decide_eq_false a3) ?_;rw[zS (x:=24-(zN l i).pars) (by omega) (by omega)];by_cases a4:(zN l i).inds>24-(zN l i).pars;·exact zB.ifT (decide_eq_true a4) zB.ret
  refine zB.ifF (decide_eq_false a4) ?_;by_cases a5:(zN l i).fam=0
  ·refine zB.ifF (by simp[a5]) ?_;by_cases a6:(zN l i).place=0
   ·refine zB.ifF (by simp[a6]) ((zCa _).bind ?_);by_cases a7:bO (zN l i).body=true;·exact absurd ⟨⟨⟨⟨⟨⟨by omega,by omega⟩,by omega⟩,by omega⟩,a5⟩,a6⟩,a7⟩ hA
    ·exact zB.ifF (by simpa using a7) zB.ret
   ·exact zB.ifT (by simp[a6]) zB.ret
  ·exact zB.ifT (by simp[a5]) zB.ret
def zOb(c:Nat)(b:yB)(a:Int):Option (Bool):=zO b a>>=λx1=>e90 c b x1.fam 1>>=λr3=>if r3 then if decide (x1.fam>=a)then some false else zO b x1.fam>>=λx7=>if x1.pars !=x7.pars then some false else zOe c x1.body>>=λr10=>if r10 then if x1.inds !=0 then some false else if x1.level !=0 then some false else if decide ((yJ ((x1.cons.length:Int)+(x1.fields.length:Int)))>0)then some false else if x1.kind==4 then if decide (x1.place>=0)then if decide (x1.place<(x7.fields.length:Int))then zO x7.fields x1.place>>=λx19=>some (x19==a)else some false else some false else if decide (x1.place>=0)then if decide (x1.place<(x7.cons.length:Int))then zO x7.cons x1.place>>=λx23=>some (x23==a)else some false else some false else some false else some false
theorem zYl{c b a}:Cz (zOb c b a) 208 [] [zC zP b .no,ai a] (λr=>ab r) (λ_=>[]) 0:=fw func208<|rA 0 (xN (o:=.no)) λ_=>rK 3 [] c90 (λ_=>rB 2 (fE 0)<|rH λ_ h8=>rS (oA 2 (xN (o:=.no) h8))<|rB 1 (fE 0)<|rK 1 [] zYo (λ_=>rB 2 (fE 0)<|rB 1 (fE 0)<|rB 5 (fE 0)<|rS (oA 1 (xN (o:=.no) h8))<|rB 2 (rS (oA 1 (xN (o:=.no) h8))<|rB 2 (rB 2 (rA 1 (sS (o:=.no)) λ_=>fE 2)<|fE 0)<|fE 0)<|rB 1 (rB 2 (rA 1 (sS (o:=.no)) λ_=>fE 2)<|fE 0)<|fE 0) λ_=>fE 1) λ_=>fE 1
def zRX(b:Nat)(a:yB)(c:Int):Option (Bool):=zO a c>>=λx1=>e99 b x1.type>>=λr3=>zOb b a c>>=λr5=>if r5 then if r3.2.2==0 then if decide ((r3.1.length:Int)>=x1.pars)then zO a x1.fam>>=λx10=>zKJ b r3.2.1 x1.fam x1.pars x10.inds (r3.1.length:Int)>>=λr12=>some r12 else some false else some false else some false
theorem yAJ{b a c}:Cz (zRX b a c) 155 [] [zC zP a .no,ai c] (λr=>ab r) (λ_=>[]) 0:=fw func155<|rH λ_ h2=>rS (oA 0 (xN (o:=.no) h2))<|rC 1 [] c99 λ_=>rK 4 [] zYl (λ_=>rB 0 (rS (oA 1 (xN (o:=.no) h2))<|rB 1 (rS (oA 1 (xN (o:=.no) h2))<|rS (oA 1 (xN (o:=.no) h2))<|rS (oA 1 (xN (o:=.no) h2))<|rA 1 (xN (o:=.no)) λ_=>rC 2 [] zVy λ_=>fE 0)<|fE 0)<|fE 0) λ_=>fE 0
def zRY(a:Nat)(b:yB)(c:Int):Option (Bool):=zOb a b c>>=λr1=>if r1 then zO b c>>=λx4=>e91 a x4.type (yJ (x4.pars+1))>>=λr6=>if r6.2.2==0 then zO r6.1 x4.pars>>=λx9=>zKJ a x9 x4.fam x4.pars 0 x4.pars>>=λr11=>some r11 else some false else some false
theorem yAK{a b c}:Cz (zRY a b c) 156 [] [zC zP b .no,ai c] (λr=>ab r) (λ_=>[]) 0:=fw func156<|rK 0 [] zYl (λ_=>rH λ_ h5=>rS (oA 1 (xN (o:=.no) h5))<|rS (oA 1 (xN (o:=.no) h5))<|rC 2 [] c91 λ_=>rB 4 (rS (oA 0 (xN (o:=.no) h5))<|rA 1 (xA (o:=.no)) λ_=>rS (oA 1 (xN (o:=.no) h5))<|rS (oA 1 (xN (o:=.no) h5))<|rS (oA 1 (xN (o:=.no) h5))<|rC 1 [] zVy λ_=>fE 0)<|fE 0) λ_=>fE 1
def zRZ(c:Nat)(b:yB)(a:Int):Option (Bool):=zO b a>>=λx1=>zOf c x1.body a>>=λr3=>if r3 then if x1.fam==0 then if x1.place==0 then if x1.pars==0 then if x1.inds==0 then if x1.level==0 then some ((yJ ((x1.cons.length:Int)+(x1.fields.length:Int)))==0)else some false else some false else some false else some false else some false else some false
theorem yAL{c b a}:Cz (zRZ c b a) 157 [] [zC zP b .no,ai a] (λr=>ab r) (λ_=>[]) 0:=fw func157<|rA 0 (xN (o:=.no)) λ_=>rK 3 [] zYp (λ_=>rB 1 (rB 1 (rB 1 (rB 1 (rB 1 (fE 6)<|fE 0)<|fE 0)<|fE 0)<|fE 0)<|fE 0) λ_=>fE 0
def K7(l:List zX)(x:zX):List Int:=if x.kind=4 then(zN l x.fam).fields else(zN l x.fam).cons
def zSz(l:List zX)(i:Int)(x:zX):Bool:=kY l x.fam 1&&decide (x.fam<i)&&x.pars==(zN l x.fam).pars&&bO x.body&&x.inds==0&&x.level==0&&decide (x.cons.length=0)&&decide (x.fields.length=0)
def zLy(l:List zX)(i:Int)(x:zX):Bool:=decide (0<=x.place)&&decide (x.place<(K7 l x).length)&&((K7 l x)[x.place.toNat]?).getD (-1)==i
def pQ(l:List zX)(i:Int):Bool:=zSz l i (zN l i)&&zLy l i (zN l i)
theorem zLx{L:List Int}{n:Int}(h0:0<=n)(h1:n<L.length):zO L n=some ((L[n.toNat]?).getD (-1)):=by
 unfold zO;rw[if_pos h0];have:n.toNat<L.length:=by omega
 rw[List.getElem?_eq_getElem this];rfl
theorem zFs(l:List zX)(i:Int)(h0:0<=i)(h1:i<l.length)(he:∀e∈l,nU e):zB (λq=>zOb q l i) (pQ l i):=by
 simp only[zOb];refine zB.pure (yO h0 h1) ((zIY l _ 1).bind ?_);have hx:=he _ (pB h0 h1);have hc:(zN l i).cons.length<=1152921504606846976:=hx.2.2.1;have hf:(zN l i).fields.length<=1152921504606846976:=hx.2.2.2;unfold pQ zSz;by_cases a1:kY l (zN l i).fam 1=true
 ·have hs:=wJ a1;refine zB.ifT a1 ?_;by_cases a2:(zN l i).fam>=i;·exact zB.ifT (decide_eq_true a2) (zB.ret.eq (by simp[show¬(zN l i).fam<i by omega]))
  refine zB.ifF (decide_eq_false a2) (zB.pure (yO hs.1 hs.2.1) ?_);by_cases a3:(zN l i).pars=(zN l (zN l i).fam).pars
  ·refine zB.ifF (by simp[a3]) ((zCa _).bind ?_);by_cases a4:bO (zN l i).body=true
   ·refine zB.ifT a4 ?_;by_cases a5:(zN l i).inds=0
    ·refine zB.ifF (by simp[a5]) ?_;by_cases a6:(zN l i).level=0
     ·refine zB.ifF (by simp[a6]) ?_;rw[zS (x:=((zN l i).cons.length:Int)+((zN l i).fields.length:Int)) (by omega) (by omega)];by_cases a7:(zN l i).cons.length=0/\(zN l i).fields.length=0
      ·refine zB.ifF (decide_eq_false (by omega)) ?_;have last:∀L:List Int,K7 l (zN l i)=L->zB (λ_=>if decide ((zN l i).place>=0)=true then if decide ((zN l i).place<(List.length L:Int))=true then(zO L (zN l i).place)>>=λx19=>some (x19==i)else some false else some false) (zLy l i (zN l i)):=λL hL=>by
        unfold zLy;rw[hL];by_cases b1:(zN l i).place>=0
        ·refine zB.ifT (decide_eq_true b1) ?_;by_cases b2:(zN l i).place<(L.length:Int);·exact zB.ifT (decide_eq_true b2) (zB.pure (zLx b1 b2) (zB.ret.eq (by simp[show 0<=(zN l i).place from b1,b2])))
         ·exact zB.ifF (decide_eq_false b2) (zB.ret.eq (by simp[b2]))
        ·exact zB.ifF (decide_eq_false b1) (zB.ret.eq (by simp[show¬0<=(zN l i).place from b1]))
       have e:(kY l (zN l i).fam 1&&decide ((zN l i).fam<i)&&(zN l i).pars==(zN l (zN l i).fam).pars&&bO (zN l i).body&&(zN l i).inds==0&&(zN l i).level==0&&decide ((zN l i).cons.length=0)&&decide ((zN l i).fields.length=0))=true:=by simp[a1,show(zN l i).fam<i by omega,a3,a4,a5,a6,a7.1,a7.2]
       rw[e,Bool.true_and];by_cases a8:(zN l i).kind=4;·exact zB.ifT (by simp[a8]) (last _ (by unfold K7;rw[if_pos a8]))
       ·exact zB.ifF (by simp[a8]) (last _ (by unfold K7;rw[if_neg a8]))
      ·refine zB.ifT (decide_eq_true (by omega)) (zB.ret.eq ?_);have:decide ((zN l i).cons.length=0)=false\/decide ((zN l i).fields.length=0)=false:=by
        by_cases h:(zN l i).cons.length=0;·exact .inr (decide_eq_false λh'=>a7 ⟨h,h'⟩)
        ·exact .inl (decide_eq_false h)
       rcases this with h|h<;>rw[h]<;>simp
     ·exact zB.ifT (by simp[a6]) (zB.ret.eq (by simp[a6]))
    ·exact zB.ifT (by simp[a5]) (zB.ret.eq (by simp[a5]))
   ·exact zB.ifF (by simpa using a4) (zB.ret.eq (by simp[a4]))
  ·exact zB.ifT (by simp[a3]) (zB.ret.eq (by simp[a3]))
 ·exact zB.ifF (by simpa using a1) (zB.ret.eq (by simp[a1]))
theorem wB{l:List zX}{i:Int}(h:pC l i=true):0<=(zN l i).pars/\0<=(zN l i).inds/\(zN l i).pars+(zN l i).inds<=24/\(zN l i).cons.length<=16:=by unfold pC zHs zAo at h;simp only[Bool.and_eq_true,decide_eq_true_eq]at h;exact⟨by omega,by omega,by omega,by omega⟩
theorem vV{l:List zX}{i:Int}(h:pQ l i=true):0<=(zN l i).fam/\(zN l i).fam<i/\(zN l (zN l i).fam).kind=1/\(zN l i).pars=(zN l (zN l i).fam).pars/\0<=(zN l i).place/\(zN l i).place<(K7 l (zN l i)).length:=by unfold pQ zSz zLy at h;simp only[Bool.and_eq_true,decide_eq_true_eq,beq_iff_eq]at h;have hs:=wJ h.1.1.1.1.1.1.1.1;exact⟨hs.1,h.1.1.1.1.1.1.1.2,hs.2.2,h.1.1.1.1.1.1.2,h.2.1.1,h.2.1.2⟩
def zCA(l:List zX)(i:Int):Prop:=∀j,0<=j->j<i->(zN l j).kind=1->pC l j=true
def zFr(l:List zX)(i:Int):Bool:=pQ l i&&((yY (zN l i).type).2.2==0&&(decide ((zN l i).pars<=(yY (zN l i).type).1.length)&&qZ (yY (zN l i).type).2.1 (zN l i).fam (zN l i).pars (zN l (zN l i).fam).inds (yY (zN l i).type).1.length))
theorem zVi(l:List zX)(i:Int)(h0:0<=i)(h1:i<l.length)(he:∀e∈l,nU e)(hF:zCA l i):zB (λq=>zRX q l i) (zFr l i):=by
 simp only[zRX];have hx:=he _ (pB h0 h1);refine zB.pure (yO h0 h1) ((E7 _ hx.1).bind ((zFs l i h0 h1 he).bind ?_));unfold zFr;by_cases a1:pQ l i=true
 ·have hs:=vV a1;have hf:=wB (hF _ hs.1 hs.2.1 hs.2.2.1);refine zB.ifT a1 ?_;rw[a1,Bool.true_and];by_cases a2:(yY (zN l i).type).2.2=0
  ·refine zB.ifT (by simp[a2]) ?_;have hw:=rV (t:=(zN l i).type) (l:=(yY (zN l i).type).1) (y:=(yY (zN l i).type).2.1) (by rw[<-a2]);by_cases a3:(zN l i).pars<=(yY (zN l i).type).1.length;·refine zB.ifT (decide_eq_true a3) (zB.pure (yO hs.1 (by omega)) ((aL _ _ _ _ _ hw.2.2.2.2.1 (by omega) (by omega) (by have:=hw.2.2.1;omega)).bind (zB.ret.eq (by simp[a2,a3]))))
   ·exact zB.ifF (decide_eq_false a3) (zB.ret.eq (by simp[a3]))
  ·exact zB.ifF (by simp[a2]) (zB.ret.eq (by simp[a2]))
 ·exact zB.ifF (by simpa using a1) (zB.ret.eq (by simp[a1]))
def vO(l:List Tm)(n:Int):Tm:=(l[n.toNat]?).getD zT
theorem uB{l:List Tm}{n:Int}(h0:0<=n)(h1:n<l.length):zO l n=some (vO l n):=by
 unfold zO vO;rw[if_pos h0];have:n.toNat<l.length:=by omega
 rw[List.getElem?_eq_getElem this];rfl
theorem sK{l:List Tm}{n:Int}(h0:0<=n)(h1:n<l.length):vO l n∈l:=by
 unfold vO;have:n.toNat<l.length:=by omega
 rw[List.getElem?_eq_getElem this];exact List.getElem_mem this
def bP(l:List zX)(i:Int):Bool:=pQ l i&&((wN (zN l i).type ((zN l i).pars+1)).2.2==0&&qZ (vO (wN (zN l i).type ((zN l i).pars+1)).1 (zN l i).pars) (zN l i).fam (zN l i).pars 0 (zN l i).pars)
theorem zSy(l:List zX)(i:Int)(h0:0<=i)(h1:i<l.length)(he:∀e∈l,nU e)(hF:zCA l i):zB (λq=>zRY q l i) (bP l i):=by
 simp only[zRY];have hx:=he _ (pB h0 h1);refine(zFs l i h0 h1 he).bind ?_;unfold bP;by_cases a1:pQ l i=true
 ·have hs:=vV a1;have hf:=wB (hF _ hs.1 hs.2.1 hs.2.2.1);refine zB.ifT a1 (zB.pure (yO h0 h1) ?_);rw[a1,Bool.true_and,zS (x:=(zN l i).pars+1) (by omega) (by omega)];refine(gS _ _ hx.1).bind ?_;by_cases a2:(wN (zN l i).type ((zN l i).pars+1)).2.2=0
  ·have hw:=K2 (t:=(zN l i).type) (n:=(zN l i).pars+1) (l:=(wN (zN l i).type ((zN l i).pars+1)).1) (y:=(wN (zN l i).type ((zN l i).pars+1)).2.1) (by rw[<-a2]);refine zB.ifT (by simp[a2]) (zB.pure (uB (by omega) (by omega)) ((aL _ _ _ _ _ (hw.2.2.2.2.2.2 _ (sK (by omega) (by omega))) (by omega) (by omega) (by omega)).bind (zB.ret.eq (by simp[a2]))))
  ·exact zB.ifF (by simp[a2]) (zB.ret.eq (by simp[a2]))
 ·exact zB.ifF (by simpa using a1) (zB.ret.eq (by simp[a1]))
def zLw(l:List zX)(i:Int):Bool:=tL (zN l i).body i&&((zN l i).fam==0&&((zN l i).place==0&&((zN l i).pars==0&&((zN l i).inds==0&&((zN l i).level==0&&(decide ((zN l i).cons.length=0)&&decide ((zN l i).fields.length=0)))))))
theorem zVh(l:List zX)(i:Int)(h0:0<=i)(h1:i<l.length)(he:∀e∈l,nU e):zB (λq=>zRZ q l i) (zLw l i):=by
 simp only[zRZ];have hx:=he _ (pB h0 h1);have hc:(zN l i).cons.length<=1152921504606846976:=hx.2.2.1;have hf:(zN l i).fields.length<=1152921504606846976:=hx.2.2.2;refine zB.pure (yO h0 h1) ((u6 _ i hx.2.1).bind ?_);unfold zLw;by_cases a1:tL (zN l i).body i=true
 ·refine zB.ifT a1 ?_;rw[a1,Bool.true_and,zS (x:=((zN l i).cons.length:Int)+((zN l i).fields.length:Int)) (by omega) (by omega)];have e:(((zN l i).cons.length:Int)+((zN l i).fields.length:Int)==0)=(decide ((zN l i).cons.length=0)&&decide ((zN l i).fields.length=0)):=by rw[Bool.eq_iff_iff];simp only[beq_iff_eq,Bool.and_eq_true,decide_eq_true_eq];omega
  rw[e];refine zB.mk λq=>?_;generalize(decide ((zN l i).cons.length=0)&&decide ((zN l i).fields.length=0))=z;by_cases b1:(zN l i).fam=0<;>by_cases b2:(zN l i).place=0<;>by_cases b3:(zN l i).pars=0<;>by_cases b4:(zN l i).inds=0<;>by_cases b5:(zN l i).level=0<;>simp[b1,b2,b3,b4,b5]
 ·exact zB.ifF (by simpa using a1) (zB.ret.eq (by simp[a1]))
def jT:Nat->yB->(List ByteArray)->Int->Option (List ByteArray)|0,_,_,_=>none|b+1,a,d,c=>if decide (c<(a.length:Int))then zO a c>>=λx2=>yT 16 d [x2.name]>>=λl4=>jT b a l4 (yJ (c+1))else some d
def e88(b:Nat)(a:yB):Option (List ByteArray):=jT b a [] 0
theorem zVg:∀b:Nat,∀a d c,Lz (jT b a d c) 0 f88 (pt 4021 f88) (λj=>sp j 19 0 [(3,zC xJ d (.st 0 1)),(6,zC zP a .no),(7,ai (a.length:Int)),(8,ai c)]) ⟨[],0,[0],1,[]⟩ (λr=>zC xJ r (.st 0 1)) (λ_=>[]) 1 [.blk 0,.seq (pt 63 f88)]:=xF (λ_ _ _=>lN) λb ih=>λa d c=>lw λ_=>rB 0 (rA 0 (xN (o:=.no)) λ_=>rW (λh5=>oP 4 (D6 h5 (by simp))) λ_=>lH 1 [] [] [1] [3,6,7,8] (ih _ _ _))<|lG 0 [] [] [0] true
theorem c88{b a}:Cz (e88 b a) 88 [] [zC zP a .no] (λr=>zC xJ r (.st 0 1)) (λ_=>[]) 1:=fw func88<|fH 1 [(none,3,1)] [] [0] [3,6,7,8] (zVg _ _ _ _)
def e89(b:Nat)(c:yB)(a:Int):Option (Bool):=zO c a>>=λx1=>kN b x1.name>>=λr3=>if r3 then zOf b x1.type a>>=λr6=>if r6 then if x1.kind==1 then zRV b c a>>=λr10=>some r10 else if x1.kind==2 then zRX b c a>>=λr13=>some r13 else if x1.kind==4 then zRY b c a>>=λr16=>some r16 else if x1.kind==3 then zRZ b c a>>=λr19=>some r19 else some false else some false else some false
theorem c89{b c a}:Cz (e89 b c a) 89 [] [zC zP c .no,ai a] (λr=>ab r) (λ_=>[]) 0:=fw func89<|rH λ_ h2=>rS (oA 0 (xN (o:=.no) h2))<|rK 1 [] E8 (λ_=>rS (oA 1 (xN (o:=.no) h2))<|rK 1 [] zYp (λ_=>rS (oA 1 (xN (o:=.no) h2))<|rB 1 (rC 0 [] yAI λ_=>fE 0)<|rB 0 (rC 0 [] yAJ λ_=>fE 0)<|rB 0 (rC 0 [] yAK λ_=>fE 0)<|rB 0 (rC 0 [] yAL λ_=>fE 0)<|fE 0) λ_=>fE 1) λ_=>fE 1
def K8:Nat->yB->Int->Option (Bool)|0,_,_=>none|c+1,a,b=>if decide (b<(a.length:Int))then e89 c a b>>=λr8=>if r8 then K8 c a (yJ (b+1))else some false else some true
def aP(c:Nat)(a:yB):Option (Bool):=if decide ((a.length:Int)>256)then some false else e88 c a>>=λr2=>e87 c r2>>=λr4=>if r4 then K8 c a 0 else some false
theorem zVf:∀c:Nat,∀a b,Lz (K8 c a b) 0 f47 (pt 4021 f47) (λj=>sp j 23 0 [(0,zC zP a .no),(14,ai (a.length:Int)),(15,ai b)]) ⟨[],0,[],0,[]⟩ (λr=>ab r) (λ_=>[]) 0 [.blk 0,.seq (pt 63 f47)]:=xF (λ_ _=>lN) λc ih=>λa b=>lw λ_=>rB 0 (rK 0 [] c89 (λ_=>lH 2 [] [] [] [0,14,15] (ih _ _)) λ_=>lE 1)<|lE 0
theorem c47{c a}:Cz (aP c a) 47 [] [zC zP a .no] (λr=>ab r) (λ_=>[]) 0:=fw func47<|rB 1 (fE 0)<|rC 0 [] c88 λ_=>rK 0 [] c87 (λ_=>fH 2 [] [] [] [0,14,15] (zVf _ _ _)) λ_=>fE 1
def zYk(qq:Nat)(p0:yH):Option yH:=some []
theorem zYj{qq p0}:Cz (zYk qq p0) 97 [] [zC zQ p0 .nl] (λr=>.sl (zH zQ r) r.length .no) (λ_=>[]) 0:=fw func97<|fE 1
def zOA(qq:Nat)(p0:yH):Option yH:=yT 8 ([]:yH) p0>>=λl1=>some l1
theorem zYi{qq p0}:Cz (zOA qq p0) 97 [] [zC zQ p0 .nn] (λr=>.sl (zH zQ r) r.length .no) (λ_=>[]) 0:=fw func97<|rH λ_ h2=>rZ (List.length p0=0) (λh3=>rS (oP 2 (zNv h2 h3))<|fE 0) λh3=>rS (oP 2 (sO h2 h3))<|fE 0
def zVe(qq:Nat)(p0:yH):Option (Unit):=some ()
theorem zVd{qq p0}:Cz (zVe qq p0) 97 [] [zC zQ p0 .nl] (λ_=>zC zQ ([]:yH) .full) (λ_=>[]) 0:=fw func97<|fG 1 [] [] [] true
def zOB(qq:Nat)(p0:yH):Option ((Unit)⊕yH):=if decide (List.length p0=0)then some (Sum.inl ())else yT 8 ([]:yH) p0>>=λl2=>some (Sum.inr l2)
theorem zOC{qq p0}:Cz (zOB qq p0) 97 [] [zC zQ p0 .nn] (Sum.elim (λ_=>zC zQ ([]:yH) .full) (λx=>.ms 0 0 x.length x.length 1)) (Sum.elim (λ_=>[]) (λx=>[.row (zH zQ x)])) 0:=fw func97<|rI (λh1=>rS (oQ 2 (zXC (of_decide_eq_true h1)))<|fG 0 [] [] [] true) λh1=>rW (λh3=>oM 2 (zXH h3 (of_decide_eq_false h1))) λ_=>fF 0 [0]
def e97(_qq:Nat)(p0:yH):Option yH:=yT 8 [] p0
theorem zYh{qq:Nat}{p0:yH}{r:yH}(h:e97 qq p0=some r):CT prog 97 [] [.sl (zH zQ p0) p0.length .no] (.sl (zH zQ r) r.length .no) [] 0:=by
 have hr:r=p0:=by have:=(rU h).2;simpa using this
 have h1:zOA qq p0=some r:=by unfold zOA;rw[show yT 8 ([]:yH) p0=some r from h];rfl
 have k1:=zYi _ h1;refine⟨uE.nilcase (λhn=>?_) k1.tri,⟨⟨trivial,dI _⟩,trivial⟩,(λ_ h=>nomatch h),dI _,(λ_ h=>nomatch h)⟩;have hp:p0=[]:=C9 lQ (by decide) hn;subst hr;subst hp;exact(zYj (qq:=qq) _ rfl).tri
def zUo(qq:Nat)(p0:yH):Option (Unit⊕yH):=if decide (List.length p0=0)=true then some (.inl ())else(yT 8 [] p0)>>=λr=>some (.inr r)
theorem zVc{qq:Nat}{p0:yH}{r:Unit⊕yH}(h:zUo qq p0=some r):(match(generalizing:=false)r with|.inl _=>CT prog 97 [] [.sl (zH zQ p0) p0.length .no] (.sl (zH zQ ([]:yH)) (List.length ([]:yH)) .full) [] 0|.inr x=>CT prog 97 [] [.sl (zH zQ p0) p0.length .no] (.ms 0 0 x.length x.length 1) [.row (zH zQ x)] 0):=by
 unfold zUo at h;rcases spl h with⟨h1,h⟩|⟨h1,h⟩
 ·obtain rfl:=sj h;have hp:p0=[]:=List.length_eq_zero_iff.1 (of_decide_eq_true h1);subst hp;have k0:=zVd (qq:=qq) (p0:=[]) (()) rfl;have k1:=zOC (qq:=qq) (p0:=[]) (.inl ()) rfl;exact⟨uE.nilcase (λ_=>k0.tri) k1.tri,⟨⟨trivial,dI _⟩,trivial⟩,(λ_ h=>nomatch h),dI _,(λ_ h=>nomatch h)⟩
 ·obtain⟨x,h2,h⟩:=wM h;obtain rfl:=sj h;have k1:=zOC (qq:=qq) (p0:=p0) (r:=.inr x) (by unfold zOB;rw[if_neg (by rw[h1];decide),h2];rfl);refine⟨uE.nilcase (λhn=>?_) k1.tri,⟨⟨trivial,dI _⟩,trivial⟩,(λ_ h=>nomatch h),(show 0<1 by decide),xD (dI _) xC⟩;have hp:p0=[]:=C9 lQ (by decide) hn;subst hp;cases h1
def zJz(_qq:Nat)(p0:yH):Option yH:=yT 8 [] p0
theorem zVb{qq:Nat}{p0:yH}{r:yH}(h:zJz qq p0=some r):CT prog 97 [] [.sl (zH zQ p0) p0.length .no] (.sl (zH zQ r) r.length .z) [] 0:=by
 have hr:r=p0:=by have:=(rU h).2;simpa using this
 subst hr;cases r with|nil=>exact CT.zfull (zVc (qq:=qq) (p0:=[]) (r:=.inl ()) rfl)|cons x l=>exact CT.zno (by simp) (dI _) (zYh (qq:=qq) h)
theorem c97{qq:Nat}{p0:yH}:Cz (e97 qq p0) 97 [] [.sl (zH zQ p0) p0.length .no] (λr=>.sl (zH zQ r) r.length .no) (λ_=>[]) 0:=λ_ h=>zYh h
theorem zUn{qq:Nat}{p0:yH}:Cz (zJz qq p0) 97 [] [.sl (zH zQ p0) p0.length .no] (λr=>.sl (zH zQ r) r.length .z) (λ_=>[]) 0:=λ_ h=>zVb h
def K9:Nat->yB->yB->Int->Option yB|0,_,_,_=>none|b+1,a,d,c=>if decide (c<(a.length:Int))then zO a c>>=λx2=>e96 b x2.type>>=λr4=>e96 b x2.body>>=λr6=>e97 b x2.cons>>=λr8=>e97 b x2.fields>>=λr10=>yT 192 d [(zX.mk x2.kind x2.name r4 r6 x2.fam x2.place x2.pars x2.inds x2.level r8 r10)]>>=λl12=>K9 b a l12 (yJ (c+1))else some d
def e51(b:Nat)(a:yB):Option yB:=K9 b a [] 0
theorem zVa:∀b:Nat,∀a d c,Lz (K9 b a d c) 0 f51 (pt 4021 f51) (λj=>sp j 34 0 [(3,zC zP d (.st 0 15)),(6,zC zP a .no),(7,ai (a.length:Int)),(8,ai c)]) ⟨[],0,[0],1,[]⟩ (λr=>.sl (zH zP r) r.length .no) (λ_=>[]) 0 [.blk 0,.seq (pt 63 f51)]:=xF (λ_ _ _=>lN) λb ih=>λa d c=>lw λ_=>rB 0 (rA 0 (xN (o:=.no)) λ_=>rC 3 [] c96 λ_=>rC 1 [] c96 λ_=>rC 3 [] c97 λ_=>rS (b9 0)<|rC 0 [] c97 λ_=>rW (λh13=>oP 4 (zUx h13 (by simp))) λ_=>lH 1 [] [] [1] [3,6,7,8] (ih _ _ _))<|lE 0
theorem c51{b a}:Cz (e51 b a) 51 [] [zC zP a .no] (λr=>.sl (zH zP r) r.length .no) (λ_=>[]) 0:=fw func51<|fH 1 [(none,3,15)] [] [0] [3,6,7,8] (zVa _ _ _ _)
def lX(N:ByteArray->Bool)(l:List zX)(i:Int):Bool:=N (zN l i).name&&(tL (zN l i).type i&&(if(zN l i).kind=1 then pC l i else if(zN l i).kind=2 then zFr l i else if(zN l i).kind=4 then bP l i else if(zN l i).kind=3 then zLw l i else false))
def zLv(N:ByteArray->Bool)(l:List zX):Nat->Nat->Bool|0,_=>true|m+1,v=>lX N l v&&zLv N l m (v+1)
def eY(N:ByteArray->Bool):Prop:=∀s,zB (λq=>kN q s) (N s)
theorem t6:∃N,eY N:=by
 have h:∀s,∃b,zB (λq=>kN q s) b:=λs=>by obtain⟨b,hb,_⟩:=sC s;exact⟨b,hb⟩
 exact⟨λs=>Classical.choose (h s),λs=>Classical.choose_spec (h s)⟩
theorem zOD(N:ByteArray->Bool)(hN:eY N)(l:List zX)(i:Int)(h0:0<=i)(h1:i<l.length)(hl:l.length<=65535)(he:∀e∈l,nU e)(hF:zCA l i):zB (λq=>e89 q l i) (lX N l i):=by
 simp only[e89];have hx:=he _ (pB h0 h1);refine zB.pure (yO h0 h1) ((hN _).bind ?_);unfold lX;by_cases a1:N (zN l i).name=true
 ·refine zB.ifT a1 ((u6 _ i hx.1).bind ?_);rw[a1,Bool.true_and];by_cases a2:tL (zN l i).type i=true
  ·refine zB.ifT a2 ?_;rw[a2,Bool.true_and];by_cases k1:(zN l i).kind=1;·rw[if_pos k1];exact zB.ifT (by simp[k1]) ((zLz l i h0 h1 hl he).bind zB.ret)
   rw[if_neg k1];refine zB.ifF (by simp[k1]) ?_;by_cases k2:(zN l i).kind=2;·rw[if_pos k2];exact zB.ifT (by simp[k2]) ((zVi l i h0 h1 he hF).bind zB.ret)
   rw[if_neg k2];refine zB.ifF (by simp[k2]) ?_;by_cases k4:(zN l i).kind=4;·rw[if_pos k4];exact zB.ifT (by simp[k4]) ((zSy l i h0 h1 he hF).bind zB.ret)
   rw[if_neg k4];refine zB.ifF (by simp[k4]) ?_;by_cases k3:(zN l i).kind=3;·rw[if_pos k3];exact zB.ifT (by simp[k3]) ((zVh l i h0 h1 he).bind zB.ret)
   ·rw[if_neg k3];exact zB.ifF (by simp[k3]) zB.ret
  ·exact zB.ifF (by simpa using a2) (zB.ret.eq (by simp[a2]))
 ·exact zB.ifF (by simpa using a1) (zB.ret.eq (by simp[a1]))
theorem zBv:∀(r l:List zX)(v:Nat)(acc:List ByteArray),l.drop v=r->l.length<=65535->acc.length<=v->zB (λq=>jT q l acc (v:Int)) (acc++r.map zX.name)|[],l,v,acc,hd,hl,ha=>by refine zB.succ ?_;simp only[jT];exact zB.ifF (yE hd) (zB.ret.eq (by simp))|x::r,l,v,acc,hd,hl,ha=>by have hlt:=yK hd;refine zB.succ ?_;simp only[jT];refine zB.ifT (yD hd) (zB.pure (zY hd) (zB.pure (zW (by simp<;>omega)) ?_));rw[zV v (by omega)];exact(zBv r l (v+1) _ (zR hd) hl (by simp<;>omega)).eq (by simp)
theorem zOE(l:List zX)(hl:l.length<=65535):zB (λq=>e88 q l) (l.map zX.name):=by simp only[e88];exact(zBv l l 0 [] rfl hl (by simp)).eq (by simp)
theorem zHq(N:ByteArray->Bool)(hN:eY N)(l:List zX)(hl:l.length<=65535)(he:∀e∈l,nU e):∀(m v:Nat),v+m=l.length->zCA l v->zB (λq=>K8 q l (v:Int)) (zLv N l m v):=by intro m;induction m with|zero=>intro v hm hF;refine zB.succ ?_;simp only[K8];exact zB.ifF (decide_eq_false (by omega)) zB.ret|succ m ih=>
 intro v hm hF;refine zB.succ ?_;simp only[K8];refine zB.ifT (decide_eq_true (by omega)) ((zOD N hN l v (by omega) (by omega) hl he hF).bind ?_);rw[zLv];by_cases h:lX N l v=true
 ·refine zB.ifT h ?_;rw[zV v (by omega),h,Bool.true_and];refine ih (v+1) (by omega) λj hj0 hj1 hk=>?_;by_cases e:j=v
  ·subst e;unfold lX at h;simp only[Bool.and_eq_true]at h;have:=h.2.2;rwa[if_pos hk]at this
  ·exact hF j hj0 (by omega) hk
 ·exact zB.ifF (by simpa using h) (zB.ret.eq (by simp[h]))
def eZ(N:ByteArray->Bool)(d:Bool)(l:List zX):Bool:=decide (l.length<=256)&&(d&&zLv N l l.length 0)
theorem L0(N:ByteArray->Bool)(hN:eY N)(l:List zX)(hl:l.length<=65535)(he:∀e∈l,nU e):∃d,zB (λq=>e87 q (l.map zX.name)) d/\zB (λq=>aP q l) (eZ N d l):=by
 obtain⟨d,hd,_⟩:=zCf (l.map zX.name) (by simpa using hl);refine⟨d,hd,?_⟩;simp only[aP];unfold eZ;by_cases h:l.length<=256
 ·refine zB.ifF (decide_eq_false (by omega)) ((zOE l hl).bind (hd.bind ?_));cases d with|false=>exact zB.ifF rfl (zB.ret.eq (by simp))|true=>exact zB.ifT rfl ((zHq N hN l hl he l.length 0 (by omega) (λj h0 h1=>by omega)).eq (by simp[h]))
 ·exact zB.ifT (decide_eq_true (by omega)) (zB.ret.eq (by simp[h]))
theorem zBu{N:ByteArray->Bool}{l:List zX}:∀{m v:Nat},zLv N l m v=true->∀j,v<=j->j<v+m->lX N l (j:Int)=true
 |0,v,_,j,h0,h1=>by omega|m+1,v,h,j,h0,h1=>by
  rw[zLv]at h;simp only[Bool.and_eq_true]at h;by_cases e:j=v;·subst e;exact h.1
  ·exact zBu h.2 j (by omega) (by omega)
def wP(N:ByteArray->Bool)(l:List zX):Prop:=l.length<=256/\∀i:Int,0<=i->i<l.length->lX N l i=true
theorem jU{N:ByteArray->Bool}{d:Bool}{l:List zX}(h:eZ N d l=true):wP N l:=by unfold eZ at h;simp only[Bool.and_eq_true,decide_eq_true_eq]at h;refine⟨h.1,λi h0 h1=>?_⟩;have:=zBu h.2.2 i.toNat (by omega) (by omega);rwa[show((i.toNat:Nat):Int)=i by omega]at this
theorem xB{N:ByteArray->Bool}{l:List zX}{i:Int}(h:lX N l i=true):tL (zN l i).type i=true/\((zN l i).kind=1->pC l i=true)/\((zN l i).kind=2->zFr l i=true)/\((zN l i).kind=4->bP l i=true)/\((zN l i).kind=3->zLw l i=true)/\((zN l i).kind=1\/(zN l i).kind=2\/(zN l i).kind=3\/(zN l i).kind=4):=by
 unfold lX at h;simp only[Bool.and_eq_true]at h;obtain⟨_,h2,h3⟩:=h;refine⟨h2,λk=>by rwa[if_pos k]at h3,λk=>?_,λk=>?_,λk=>?_,?_⟩;·rwa[if_neg (by omega),if_pos k]at h3
 ·rwa[if_neg (by omega),if_neg (by omega),if_pos k]at h3
 ·rwa[if_neg (by omega),if_neg (by omega),if_neg (by omega),if_pos k]at h3
 ·split at h3;·exact .inl (by assumption)
  ·split at h3;·exact .inr (.inl (by assumption))
   ·split at h3;·exact .inr (.inr (.inr (by assumption)))
    ·split at h3;·exact .inr (.inr (.inl (by assumption)))
     ·cases h3
def zFq(e:zX):zX:=zX.mk e.kind e.name (kJ e.type) (kJ e.body) e.fam e.place e.pars e.inds e.level e.cons e.fields
def ECl(e:zX):Prop:=e.cons.length<=17592186044416/\e.fields.length<=17592186044416
theorem zFp:∀(r l acc:List zX)(v:Nat),l.drop v=r->l.length<=65535->(∀e∈l,nU e)->(∀e∈l,ECl e)->acc.length<=v->zB (λq=>K9 q l acc (v:Int)) (acc++r.map zFq)
 |[],l,acc,v,hd,hl,he,hc,ha=>by refine zB.succ ?_;simp only[K9];exact zB.ifF (yE hd) (zB.ret.eq (by simp))|x::r,l,acc,v,hd,hl,he,hc,ha=>by
  have hlt:=yK hd;have hx:x∈l:=by
   have:x∈l.drop v:=by rw[hd];simp
   exact List.mem_of_mem_drop this
  have hE:=he x hx;have hC:=hc x hx;refine zB.succ ?_;simp only[K9];refine zB.ifT (yD hd) (zB.pure (zY hd) ((nN _ hE.1).bind ((nN _ hE.2.1).bind ?_)));refine zB.bind (a:=x.cons) (zB.mk λq=>(zW (by have:=hC.1;simp<;>omega)).trans (by simp)) (zB.bind (a:=x.fields) (zB.mk λq=>(zW (by have:=hC.2;simp<;>omega)).trans (by simp)) (zB.pure (zW (by simp<;>omega)) ?_));rw[zV v (by omega)];exact(zFp r l _ (v+1) (zR hd) hl he hc (by simp<;>omega)).eq (by simp[zFq])
theorem F9(l:List zX)(hl:l.length<=65535)(he:∀e∈l,nU e)(hc:∀e∈l,ECl e):zB (λq=>e51 q l) (l.map zFq):=by simp only[e51];exact(zFp l l [] 0 rfl hl he hc (by simp)).eq (by simp)
theorem lY{t:Tm}{n:Int}(h:tL t n=true):zJ t=true:=by unfold tL qW at h;simp only[Bool.and_eq_true]at h;exact h.1.1.1
theorem zHp{t:Tm}(h:bO t=true):t=zT:=by unfold bO at h;simp only[Bool.and_eq_true,beq_iff_eq]at h;obtain⟨k,n,l⟩:=t;have h1:k=0:=h.1.1;have h2:n=0:=h.1.2;have h3:l=[]:=List.length_eq_zero_iff.1 (by have:(l.length:Int)=0:=h.2;omega);subst h1;subst h2;subst h3;rfl
theorem zBs{t:Tm}(h:bO t=true):kJ t=t:=by
 rw[zHp h];unfold kJ;split;·rfl
 ·rfl
theorem zLu{N:ByteArray->Bool}{l:List zX}{i:Int}(h:lX N l i=true):zFq (zN l i)=zN l i:=by
 have hs:=xB h;have h1:kJ (zN l i).type=(zN l i).type:=by unfold kJ;rw[if_pos (lY hs.1)]
 have own:pQ l i=true->kJ (zN l i).body=(zN l i).body:=λho=>by unfold pQ zSz at ho;simp only[Bool.and_eq_true]at ho;exact zBs ho.1.1.1.1.1.2
 have h2:kJ (zN l i).body=(zN l i).body:=by
  rcases hs.2.2.2.2.2 with k|k|k|k
  ·have:=hs.2.1 k;unfold pC zHs at this;simp only[Bool.and_eq_true]at this;exact zBs this.1.1.1.2
  ·have:=hs.2.2.1 k;unfold zFr at this;simp only[Bool.and_eq_true]at this;exact own this.1
  ·have:=hs.2.2.2.2.1 k;unfold zLw at this;simp only[Bool.and_eq_true]at this;unfold kJ;rw[if_pos (lY this.1)]
  ·have:=hs.2.2.2.1 k;unfold bP at this;simp only[Bool.and_eq_true]at this;exact own this.1
 unfold zFq;rw[h1,h2]
theorem kR{N:ByteArray->Bool}{l:List zX}(h:wP N l):l.map zFq=l:=by
 refine List.ext_getElem (by simp) λi h1 h2=>?_;simp only[List.getElem_map];have:=zLu (h.2 (i:Int) (by omega) (by omega));have e:zN l (i:Int)=l[i]:=by unfold zN;rw[show(i:Int).toNat=i by omega,List.getElem?_eq_getElem h2];rfl
 rwa[e]at this
def zVA(qq:Nat)(p0:yA):Option yA:=some []
theorem zVB{qq p0}:Cz (zVA qq p0) 247 [] [zC zA p0 .nl] (λr=>.sl (zH zA r) r.length .no) (λ_=>[]) 0:=fw func247<|fE 1
def zHo(qq:Nat)(p0:yA):Option yA:=yT 40 ([]:yA) p0>>=λl1=>some l1
theorem zVC{qq p0}:Cz (zHo qq p0) 247 [] [zC zA p0 .nn] (λr=>.sl (zH zA r) r.length .no) (λ_=>[]) 0:=fw func247<|rH λ_ h2=>rZ (List.length p0=0) (λh3=>rS (oP 2 (qT h2 h3))<|fE 0) λh3=>rS (oP 2 (xY h2 h3))<|fE 0
def zSx(qq:Nat)(p0:yA):Option (Unit):=some ()
theorem zSw{qq p0}:Cz (zSx qq p0) 247 [] [zC zA p0 .nl] (λ_=>zC zA ([]:yA) .full) (λ_=>[]) 0:=fw func247<|fG 1 [] [] [] true
def zJy(qq:Nat)(p0:yA):Option ((Unit)⊕yA):=if decide (List.length p0=0)then some (Sum.inl ())else yT 40 ([]:yA) p0>>=λl2=>some (Sum.inr l2)
theorem zJx{qq p0}:Cz (zJy qq p0) 247 [] [zC zA p0 .nn] (Sum.elim (λ_=>zC zA ([]:yA) .full) (λx=>.ms 0 0 x.length x.length 3)) (Sum.elim (λ_=>[]) (λx=>[.row (zH zA x)])) 0:=fw func247<|rI (λh1=>rS (oQ 2 (zXB (of_decide_eq_true h1)))<|fG 0 [] [] [] true) λh1=>rW (λh3=>oM 2 (zXG h3 (of_decide_eq_false h1))) λ_=>fF 0 [0]
def zSv(_qq:Nat)(p0:yA):Option yA:=yT 40 [] p0
theorem zYg{qq:Nat}{p0:yA}{r:yA}(h:zSv qq p0=some r):CT prog 247 [] [.sl (zH zA p0) p0.length .no] (.sl (zH zA r) r.length .no) [] 0:=by
 have hr:r=p0:=by have:=(rU h).2;simpa using this
 have h1:zHo qq p0=some r:=by unfold zHo;rw[show yT 40 ([]:yA) p0=some r from h];rfl
 have k1:=zVC _ h1;refine⟨uE.nilcase (λhn=>?_) k1.tri,⟨⟨trivial,dT _⟩,trivial⟩,(λ_ h=>nomatch h),dT _,(λ_ h=>nomatch h)⟩;have hp:p0=[]:=C9 tV (by decide) hn;subst hr;subst hp;exact(zVB (qq:=qq) _ rfl).tri
def t7(qq:Nat)(p0:yA):Option (Unit⊕yA):=if decide (List.length p0=0)=true then some (.inl ())else(yT 40 [] p0)>>=λr=>some (.inr r)
theorem zSu{qq:Nat}{p0:yA}{r:Unit⊕yA}(h:t7 qq p0=some r):(match(generalizing:=false)r with|.inl _=>CT prog 247 [] [.sl (zH zA p0) p0.length .no] (.sl (zH zA ([]:yA)) (List.length ([]:yA)) .full) [] 0|.inr x=>CT prog 247 [] [.sl (zH zA p0) p0.length .no] (.ms 0 0 x.length x.length 3) [.row (zH zA x)] 0):=by
 unfold t7 at h;rcases spl h with⟨h1,h⟩|⟨h1,h⟩
 ·obtain rfl:=sj h;have hp:p0=[]:=List.length_eq_zero_iff.1 (of_decide_eq_true h1);subst hp;have k0:=zSw (qq:=qq) (p0:=[]) (()) rfl;have k1:=zJx (qq:=qq) (p0:=[]) (.inl ()) rfl;exact⟨uE.nilcase (λ_=>k0.tri) k1.tri,⟨⟨trivial,dT _⟩,trivial⟩,(λ_ h=>nomatch h),dT _,(λ_ h=>nomatch h)⟩
 ·obtain⟨x,h2,h⟩:=wM h;obtain rfl:=sj h;have k1:=zJx (qq:=qq) (p0:=p0) (r:=.inr x) (by unfold zJy;rw[if_neg (by rw[h1];decide),h2];rfl);refine⟨uE.nilcase (λhn=>?_) k1.tri,⟨⟨trivial,dT _⟩,trivial⟩,(λ_ h=>nomatch h),(show 0<1 by decide),xD (dT _) xC⟩;have hp:p0=[]:=C9 tV (by decide) hn;subst hp;cases h1
theorem zYf{qq:Nat}{p0:yA}:Cz (zSv qq p0) 247 [] [.sl (zH zA p0) p0.length .no] (λr=>.sl (zH zA r) r.length .no) (λ_=>[]) 0:=λ_ h=>zYg h
theorem zOF{qq:Nat}{p0:yA}:Cz (t7 qq p0) 247 [] [.sl (zH zA p0) p0.length .no] (Sum.elim (λ_=>.sl (zH zA ([]:yA)) (List.length ([]:yA)) .full) (λx=>.ms 0 0 x.length x.length 3)) (Sum.elim (λ_=>[]) (λx=>[.row (zH zA x)])) 0:=λr h=>by have k:=zSu h;rcases r with _|_<;>exact k
def zSt(a:Nat)(c:yB)(d:Tm)(b e:Int):Option (tK):=e99 a d>>=λr1=>E0 a r1.2.1>>=λr3=>if r1.2.2 !=0 then some (tK.mk false [] [])else if r3.1.k !=6 then some (tK.mk false [] [])else if r3.1.n !=b then some (tK.mk false [] [])else zO c b>>=λx8=>zKJ a r1.2.1 b x8.pars x8.inds (yJ (e+(r1.1.length:Int)))>>=λr10=>if r10 then sN r3.2 x8.pars (r3.2.length:Int)>>=λx13=>zSv a x13>>=λr15=>some (tK.mk true r1.1 r15)else some (tK.mk false [] [])
theorem yAN{a c d b e}:Cz (zSt a c d b e) 248 [] [zC zP c .no,yL d,ai b,ai e] (λr=>zUL r) (λ_=>[]) 0:=fw func248<|rC 1 [] c99 λ_=>rC 5 [] zGP λ_=>rB 3 (fE 1)<|rB 1 (fE 1)<|rB 1 (fE 1)<|rH λ_ h9=>rS (oA 1 (xN (o:=.no) h9))<|rS (oA 1 (xN (o:=.no) h9))<|rK 3 [] zVy (λ_=>rS (oA 1 (xN (o:=.no) h9))<|rA 1 qU λ_=>rC 0 [] zYf λ_=>fE 1) λ_=>fE 2
def dA:Nat->yB->zX->yA->yA->Int->(List tK)->Option (uK)|0,_,_,_,_,_,_=>none|c+1,d,x1,x7,r11,b,a=>if decide (b<(x7.length:Int))then zO x7 b>>=λx14=>zSt c d x14 x1.fam (yJ (x1.pars+b))>>=λr16=>yT 56 a [r16]>>=λl18=>dA c d x1 x7 r11 (yJ (b+1)) l18 else some (uK.mk x7 r11 a)
def zOG(c:Nat)(d:yB)(e:Int):Option (uK):=zO d e>>=λx1=>e99 c x1.type>>=λr3=>E0 c r3.2.1>>=λr5=>sN r3.1 x1.pars (r3.1.length:Int)>>=λx7=>sN r5.2 x1.pars (r5.2.length:Int)>>=λx9=>zSv c x9>>=λr11=>dA c d x1 x7 r11 0 []
theorem zSs:∀c:Nat,∀d x1 x7 r11 b a,Lz (dA c d x1 x7 r11 b a) 0 f193 (pt 262069 f193) (λj=>sp j 64 0 [(0,zC zP d .no),(4,.mp 0 0),(5,.mp 1 0),(11,.mp 2 0),(41,zC zA x7 .no),(42,ai (x7.length:Int)),(43,ai b)]) ⟨[(0,.cells [zC zA ([]:yA) .nl,zC zA ([]:yA) .nl,zC iS ([]:List tK) .nl]),(1,.cells [ai x1.kind,at' x1.name,ai x1.type.k,ai x1.type.n,zC zA x1.type.sub .no,ai x1.body.k,ai x1.body.n,zC zA x1.body.sub .no,ai x1.fam,ai x1.place,ai x1.pars,ai x1.inds,ai x1.level,zC zQ x1.cons .no,zC zQ x1.fields .no]),(2,.cells [zC zA x7 .no,zC zA r11 .no,zC iS a (.st 0 3)])],3,[0],1,[]⟩ (λr=>zUM r) (λ_=>[]) 0 [.blk 0,.seq (pt 4095 f193)]:=xF (λ_ _ _ _ _ _=>lN) λc ih=>λd x1 x7 r11 b a=>lw λ_=>rB 0 (rA 0 (xA (o:=.no)) λ_=>rS (b9 2)<|rC 4 [] yAN λ_=>rW (λh19=>oP 1 (zUT h19 (by simp))) λ_=>lH 2 [] [0,1,2] [1] [0,4,5,11,41,42,43] (ih _ _ _ _ _ _))<|lE 2
theorem zYe{c d e}:Cz (zOG c d e) 193 [] [zC zP d .no,ai e] (λr=>zUM r) (λ_=>[]) 0:=fw func193<|rA 0 (xN (o:=.no)) λ_=>rC 3 [] c99 λ_=>rC 5 [] zGP λ_=>rS (b9 3)<|rA 0 qU λ_=>rA 1 qU λ_=>rC 0 [] zYf λ_=>fH 3 [(some 4,2,3)] [0,1,4] [0] [0,4,5,11,41,42,43] (zSs _ _ _ _ _ _ _)
def lD:Nat->yB->sI->Int->sI->Option ((sI×Int)⊕(sI×Int))|0,_,_,_,_=>none|f+1,d,x4,e,a=>if decide (e<(d.length:Int))then zO d e>>=λx7=>if x7.kind==2 then zOG f d e>>=λr10=>mO x4.length e>>=λx12=>cG a x12 r10>>=λx14=>lD f d x4 (yJ (e+1)) x14 else lD f d x4 (yJ (e+1)) a else gfz x4.length a>>=λl16=>some (Sum.inr (l16,0))
def zHn(f:Nat)(d:yB):Option ((sI×Int)⊕(sI×Int)):=aP f d>>=λr1=>if r1 then gmk 72 (default:uK) (d.length:Int)>>=λx4=>lD f d x4 0 x4 else some (Sum.inl ([],5))
def zLt(j:Nat->Value)(d:yB)(x4:sI)(e:Int)(a:sI):=sp j 31 0 [(0,zC zP d .no),(4,.ms 0 0 x4.length x4.length 3),(13,ai (d.length:Int)),(14,ai e)]
def zLs(d:yB)(x4:sI)(e:Int)(a:sI):yN:=⟨[(0,.row (zH qS a))],1,[],0,[]⟩
abbrev zHm(d:yB)(r:sI×Int)(C:Cf):Prop:=C 135 [] [zC zP d .no] (.tup [.sl (zH qS r.1) r.1.length .no,ai r.2]) [] 0
abbrev zHl(d:yB)(r:sI×Int)(C:Cf):Prop:=C 135 [] [zC zP d .no] (.tup [.ms 0 0 r.1.length r.1.length 3,ai r.2]) [.row (zH qS r.1)] 0
theorem zVD:Qf 135 f135:=⟨func135,by kernel_rfl⟩
theorem zOH{d r}(h:zHm d r Ci):zHm d r Ct:=⟨h,⟨⟨tv,dE _⟩,tv⟩,xC,⟨dC _,tv,tv⟩,xC⟩
theorem zVE{d r}(h:zHl d r Ci):zHl d r Ct:=⟨h,⟨⟨tv,dE _⟩,tv⟩,xC,⟨(lz rfl),tv,tv⟩,(xD (dC _) xC)⟩
theorem zJw:∀f:Nat,(∀d x4 e a r,lD f d x4 e a=some r->(∀j,Dl prog 0 (pt 16309 f135) (zLt j d x4 e a) (zLs d x4 e a) (wC prog 0 ((match(generalizing:=false)r with|Sum.inl x=>jK prog 0 f135 (.tup [.sl (zH qS x.1) x.1.length .no,ai x.2]) [] 0|Sum.inr x=>jK prog 0 f135 (.tup [.ms 0 0 x.1.length x.1.length 3,ai x.2]) [.row (zH qS x.1)] 0)) [.blk 0,.seq (pt 255 f135)]))):=by intro f;induction f with|zero=>exactλ_ _ _ _ _ h=>nn h|succ f ih=>
 intro d x4 e a r h;rw[lD]at h;rcases spl h with⟨h6,h⟩|⟨h6,h⟩;obtain⟨x7,h8,h⟩:=wM h;have k:=oA 0 (xN (o:=.no) h8)<|oB 0 h6 o0;rcases spl h with⟨h9,h⟩|⟨h9,h⟩;obtain⟨r10,h11,h⟩:=wM h;obtain⟨x12,h13,h⟩:=wM h;obtain⟨x14,h15,h⟩:=wM h;exactλj=>olH 1 [] [0] [] [0,4,13,14] (oD (dE d)<|oD (dC x14)<|oW 0 (wtE (x:=r10) (cs:=[zC zA r10.args .no,zC zA r10.inds .no,zC iS r10.recs .no]) zCw rfl h15)<|oA 0 (zUW (b:=0) (c:=List.length x4) (z:=3) h13)<|oC 0 [] (zYe _ h11)<|oB 1 h9 k) (ih _ _ _ _ _ h);exactλj=>olH 1 [] [0] [] [0,4,13,14] (oD (dE d)<|oD (dC a)<|oB 1 h9 k) (ih _ _ _ _ _ h);obtain⟨l16,h17,h⟩:=wM h;obtain⟨h17a,h17b⟩:=gM h17;obtain rfl:=sj h;obtain rfl:=h17a.symm;try dsimp only
 rw[<-h17b];exactλj=>olF 0 [0] (oD (dC a)<|oB 0 h6 o0)
theorem zYd{f d r}(h:zHn f d=some r):(match(generalizing:=false)r with|Sum.inl x=>zHm d x Ct|Sum.inr x=>zHl d x Ct):=by unfold zHn at h;obtain⟨r1,h2,h⟩:=wM h;rcases spl h with⟨h3,h⟩|⟨h3,h⟩;obtain⟨x4,h5,h⟩:=wM h;rcases r with y0|y1;exact zOH (tH zVD 1 [] [0] [] [0,4,13,14] (oD (dE d)<|oD (dC x4)<|oM 2 (zNm h5)<|oK 0 [] h3 (c47 _ h2) o0) (zJw _ _ _ _ _ _ h));exact zVE (tH zVD 1 [] [0] [] [0,4,13,14] (oD (dE d)<|oD (dC x4)<|oM 2 (zNm h5)<|oK 0 [] h3 (c47 _ h2) o0) (zJw _ _ _ _ _ _ h));obtain rfl:=sj h;exact zOH (tF zVD 1 [] (oD (dC ([]:sI))<|oK 0 [] h3 (c47 _ h2) o0))
theorem zYc{f d r}(h:zHn f d=some r):(match(generalizing:=false)r with|Sum.inl x=>CT prog 135 [] [zC zP d .no] (.tup [.sl (zH qS x.1) x.1.length .no,ai x.2]) [] 0|Sum.inr x=>CT prog 135 [] [zC zP d .no] (.tup [.sl (zH qS x.1) x.1.length .no,ai x.2]) [] 0):=by
 have k:=zYd h;rcases r with y0|y1;·exact k
 ·exact CT.freeze (H1:=[]) (cs:=zH qS y1.1) (res':=(.tup [.sl (zH qS y1.1) y1.1.length .no,ai y1.2])) k (Nat.le_of_ble_eq_true rfl) xC (dC _) ⟨(.inl ⟨rfl,rfl⟩),trivial,tv⟩ (by rfl) rfl
theorem yAO{f d}:Cz (zHn f d) 135 [] [zC zP d .no] (Sum.elim (λx=>.tup [.sl (zH qS x.1) x.1.length .no,ai x.2]) (λx=>.tup [.sl (zH qS x.1) x.1.length .no,ai x.2])) (Sum.elim (λ_=>[]) (λ_=>[])) 0:=λr h=>by have k:=zYc h;rcases r with _|_<;>exact k
theorem zHk{t:Tm}{n:Int}(h:(wN t n).2.2≠0):(wN t n).2.1=zT/\(wN t n).1=[]:=by
 unfold wN at h⊢;split
 ·split;·exact⟨rfl,rfl⟩
  ·split;·exact⟨rfl,rfl⟩
   ·rename_i h1 h2 h3;rw[if_pos h1,if_neg h2,if_neg h3]at h;cases hr:iV n.toNat t with|none=>exact⟨rfl,rfl⟩|some r=>rw[hr]at h;exact absurd rfl h
 ·exact⟨rfl,rfl⟩
theorem zSr:zB (λq=>E0 q zT) (zZ zT,yW zT):=by simp only[E0,aK];refine zB.bind (a:=.inr ([],zT)) (zB.succ ?_) (zB.ret.eq (by rw[qX (by decide),sJ (by decide)];rfl));simp only[uL];exact zB.ifF rfl ((zNc [] (by simp)).bind (zB.pure (a:=[]) rfl zB.ret))
theorem zBr(t:Tm):zB (λq=>E0 q (yY t).2.1) (zZ (yY t).2.1,yW (yY t).2.1):=by
 by_cases h:(yY t).2.2=0;·have hw:=rV (t:=t) (l:=(yY t).1) (y:=(yY t).2.1) (by rw[<-h]);exact kK _ hw.2.2.2.2.1
 ·have:=(zHk (t:=t) (n:=((min (uS t) 25:Nat):Int)) h).1;have e:(yY t).2.1=zT:=this;rw[e];exact zSr
def zFo(l:List zX)(t:Tm)(of b:Int):tK:=if(yY t).2.2=0/\qZ (yY t).2.1 of (zN l of).pars (zN l of).inds (b+(yY t).1.length)=true then tK.mk true (yY t).1 ((yW (yY t).2.1).drop (zN l of).pars.toNat)else tK.mk false [] []
theorem sZ{α:Type}{L:List α}{n:Int}(h0:0<=n)(h1:n<=L.length):sN L n (L.length:Int)=some (L.drop n.toNat):=by unfold sN;rw[if_pos ⟨h0,h1,by omega⟩];congr 1;exact List.take_of_length_le (by simp;omega)
theorem bQ{t:Tm}{of pars more b:Int}(h:qZ t of pars more b=true):(zZ t).k=6/\(zZ t).n=of/\((yW t).length:Int)=pars+more:=by unfold qZ at h;simp only[Bool.and_eq_true,beq_iff_eq]at h;exact⟨h.1.1.1,h.1.1.2,h.1.2⟩
theorem zVF(l:List zX)(t:Tm)(of b:Int)(ho:t.Ok)(h0:0<=of)(h1:of<l.length)(hp:0<=(zN l of).pars/\0<=(zN l of).inds/\(zN l of).pars+(zN l of).inds<=24)(hb:0<=b/\b<=1048576):zB (λq=>zSt q l t of b) (zFo l t of b):=by
 simp only[zSt];refine(E7 t ho).bind ((zBr t).bind ?_);unfold zFo;by_cases a1:(yY t).2.2=0
 ·have hw:=rV (t:=t) (l:=(yY t).1) (y:=(yY t).2.1) (by rw[<-a1]);refine zB.ifF (by simp[a1]) ?_;have hlen:=hw.2.2.1;rw[zS (x:=b+((yY t).1.length:Int)) (by omega) (by omega)];have ha:=aL (yY t).2.1 of (zN l of).pars (zN l of).inds (b+(yY t).1.length) hw.2.2.2.2.1 (by omega) (by omega) (by omega);by_cases a2:qZ (yY t).2.1 of (zN l of).pars (zN l of).inds (b+(yY t).1.length)=true
  ·have hs:=bQ a2;rw[if_pos ⟨a1,a2⟩];refine zB.ifF (by simp[hs.1]) (zB.ifF (by simp[hs.2.1]) (zB.pure (yO h0 h1) (ha.bind (zB.ifT a2 (zB.pure (sZ hp.1 (by show _<=((yW (yY t).2.1).length:Int);omega)) ?_)))));have hal:=sT _ (zK hw.2.2.2.2.1).2.2;have hn:=(zK hw.2.2.2.2.1).1;refine zB.bind (a:=(yW (yY t).2.1).drop (zN l of).pars.toNat) (zB.mk λq=>(zW (by simp<;>omega)).trans (by simp)) zB.ret
  ·rw[if_neg (λh=>a2 h.2)];refine zB.iff (λ_=>zB.ret) λ_=>zB.iff (λ_=>zB.ret) λ_=>zB.pure (yO h0 h1) (ha.bind (zB.ifF (by simpa using a2) zB.ret))
 ·rw[if_neg (λh=>a1 h.1)];exact zB.ifT (by simp[a1]) zB.ret
def G3(l:List zX)(of:Int):List Tm->Int->List tK|[],_=>[]|a::r,b=>zFo l a of b::G3 l of r (b+1)
theorem L1(l:List zX)(of:Int):∀(r:List Tm)(b:Int),(G3 l of r b).length=r.length|[],_=>rfl|a::r,b=>congrArg (·+1) (L1 l of r (b+1))
def vL(l:List zX)(i:Int):uK:=uK.mk ((yY (zN l i).type).1.drop (zN l i).pars.toNat) ((yW (yY (zN l i).type).2.1).drop (zN l i).pars.toNat) (G3 l (zN l i).fam ((yY (zN l i).type).1.drop (zN l i).pars.toNat) (zN l i).pars)
theorem zBq(l:List zX)(x:zX)(A I:List Tm)(hA:∀t∈A,t.Ok)(hl:A.length<=24)(h0:0<=x.fam)(h1:x.fam<l.length)(hp:0<=(zN l x.fam).pars/\0<=(zN l x.fam).inds/\(zN l x.fam).pars+(zN l x.fam).inds<=24)(hb:0<=x.pars/\x.pars<=24):∀(r:List Tm)(v:Nat)(acc:List tK),A.drop v=r->acc.length<=v->zB (λq=>dA q l x A I (v:Int) acc) (uK.mk A I (acc++G3 l x.fam r (x.pars+v)))
 |[],v,acc,hd,ha=>by refine zB.succ ?_;simp only[dA];exact zB.ifF (yE hd) (zB.ret.eq (by simp[G3]))|t::r,v,acc,hd,ha=>by
  have hlt:=yK hd;have ht:t∈A:=by
   have:t∈A.drop v:=by rw[hd];simp
   exact List.mem_of_mem_drop this
  refine zB.succ ?_;simp only[dA];rw[zS (x:=x.pars+v) (by omega) (by omega)];refine zB.ifT (yD hd) (zB.pure (zY hd) ((zVF l t x.fam (x.pars+v) (hA t ht) h0 h1 hp (by omega)).bind (zB.pure (zW (by simp<;>omega)) ?_)));rw[zV v (by omega)];refine(zBq l x A I hA hl h0 h1 hp hb r (v+1) _ (zR hd) (by simp<;>omega)).eq ?_;rw[G3,show x.pars+((v+1:Nat):Int)=x.pars+v+1 by omega];simp
theorem tT{N:ByteArray->Bool}{l:List zX}{i:Int}(hE:wP N l)(h0:0<=i)(h1:i<l.length)(hk:(zN l i).kind=2):∃(A:List Tm)(y:Tm),yY (zN l i).type=(A,y,0)/\zJ y=true/\(∀t∈A,zJ t=true)/\A.length=uS (zN l i).type/\A.length<=24/\0<=(zN l i).pars/\(zN l i).pars<=A.length/\0<=(zN l i).fam/\(zN l i).fam<i/\(zN l (zN l i).fam).kind=1/\(zN l i).pars=(zN l (zN l i).fam).pars/\0<=(zN l (zN l i).fam).inds/\(zN l (zN l i).fam).pars+(zN l (zN l i).fam).inds<=24/\qZ y (zN l i).fam (zN l i).pars (zN l (zN l i).fam).inds A.length=true/\0<=(zN l i).place/\(zN l i).place<(zN l (zN l i).fam).cons.length:=by
 have hc:=(xB (hE.2 i h0 h1)).2.2.1 hk;unfold zFr at hc;simp only[Bool.and_eq_true,beq_iff_eq,decide_eq_true_eq]at hc;obtain⟨a1,a2,a3,a4⟩:=hc;have ho:=vV a1;have hf:=wB ((xB (hE.2 _ ho.1 (by omega))).2.1 ho.2.2.1);have hw:=rV (t:=(zN l i).type) (l:=(yY (zN l i).type).1) (y:=(yY (zN l i).type).2.1) (by rw[<-a2]);have hown:K7 l (zN l i)=(zN l (zN l i).fam).cons:=by unfold K7;rw[if_neg (by omega)]
 have h6:=ho.2.2.2.2.2;rw[hown]at h6;exact⟨_,_,by rw[<-a2],hw.2.2.2.2.1,hw.2.2.2.2.2,hw.2.1,hw.2.2.1,by omega,a3,ho.1,ho.2.1,ho.2.2.1,ho.2.2.2.1,hf.2.1,hf.2.2.1,a4,ho.2.2.2.2.1,h6⟩
theorem yQ{t:Tm}(h:zJ t=true):t.Ok:=wR t (zK h).2.2
theorem zFn{N:ByteArray->Bool}(l:List zX)(i:Int)(hE:wP N l)(h0:0<=i)(h1:i<l.length)(hk:(zN l i).kind=2)(he:∀e∈l,nU e):zB (λq=>zOG q l i) (vL l i):=by simp only[zOG];obtain⟨A,y,hw,hy,hA,hAp,hA24,p0,p1,f0,f1,fk,fp,fi,fs,hap,-,-⟩:=tT hE h0 h1 hk;have hsp:=bQ hap;refine zB.pure (yO h0 h1) ((E7 _ (he _ (pB h0 h1)).1).bind ((zBr _).bind ?_));unfold vL;rw[hw];have hal:=sT _ (zK hy).2.2;have hn:=(zK hy).1;refine zB.pure (sZ p0 p1) (zB.pure (sZ p0 (by show _<=((yW y).length:Int);omega)) (zB.bind (a:=(yW y).drop (zN l i).pars.toNat) (zB.mk λq=>(zW (by simp<;>omega)).trans (by simp)) ?_));refine(zBq l (zN l i) (A.drop (zN l i).pars.toNat) ((yW y).drop (zN l i).pars.toNat) (λt ht=>yQ (hA t (List.mem_of_mem_drop ht))) (by simp;omega) f0 (by omega) (by omega) (by omega) _ 0 [] rfl (by simp)).eq ?_;simp
def mJ(l:List zX):Nat->Nat->List uK|0,_=>[]|m+1,v=>(if(zN l v).kind=2 then vL l v else default)::mJ l m (v+1)
theorem zJv(l:List zX):∀(m v j:Nat),j<m->(mJ l m v)[j]?=some (if(zN l ((v+j:Nat):Int)).kind=2 then vL l ((v+j:Nat):Int)else default)|m+1,v,0,_=>by simp[mJ]|m+1,v,j+1,h=>by rw[mJ,List.getElem?_cons_succ,zJv l m (v+1) j (by omega),show v+1+j=v+(j+1)by omega]
theorem zLr{N:ByteArray->Bool}(l:List zX)(x4:List uK)(hx:x4.length=l.length)(hE:wP N l)(he:∀e∈l,nU e):∀(m v:Nat)(acc:List uK),v+m=l.length->acc.length=v->zB (λq=>lD q l x4 (v:Int) (acc++List.replicate m default)) (.inr (acc++mJ l m v,0)):=by intro m;induction m with|zero=>intro v acc hm ha;refine zB.succ ?_;simp only[lD];refine zB.ifF (decide_eq_false (by omega)) (zB.pure (a:=acc++List.replicate 0 default) (by unfold gfz;rw[if_pos (by simp;omega)]) (zB.ret.eq (by simp[mJ])))|succ m ih=>
 intro v acc hm ha;refine zB.succ ?_;simp only[lD];refine zB.ifT (decide_eq_true (by omega)) (zB.pure (yO (by omega) (by omega)) ?_);have hl:=hE.1;rw[zV v (by omega),mJ];by_cases k:(zN l v).kind=2
 ·rw[if_pos k];refine zB.ifT (by simp[k]) ((zFn l v hE (by omega) (by omega) k he).bind ?_);refine zB.pure (a:=v) (by unfold mO;rw[if_pos (by omega)];simp) ?_;refine zB.pure (a:=acc++vL l v::List.replicate m default) ?_ ?_;·unfold cG;rw[if_pos (by simp;omega),List.set_append_right _ _ (by omega),show v-acc.length=0 by omega,List.replicate_succ];rfl
  ·have:=ih (v+1) (acc++[vL l v]) (by omega) (by simp;omega);simpa using this
 ·rw[if_neg k];refine zB.ifF (by simp[k]) ?_;have:=ih (v+1) (acc++[default]) (by omega) (by simp;omega);rw[List.replicate_succ];simpa using this
def e68(a:Nat)(b:yB):Option ((Int)⊕(Int×yB×sI)):=e51 a b>>=λr1=>aP a b>>=λr3=>if r3 then zHn a r1>>=λr6=>match r6 with|Sum.inl y8=>if y8.2 !=0 then some (Sum.inl y8.2)else some (Sum.inr (0,r1,y8.1))|Sum.inr y10=>if y10.2 !=0 then some (Sum.inl y10.2)else some (Sum.inr (0,r1,y10.1))else some (Sum.inl 5)
theorem c68{a b}:Cz (e68 a b) 68 [] [zC zP b .no] (Sum.elim (λx=>.tup [.val (.pointer none),ai x]) (λx=>.tup [.mp 0 0,ai x.1])) (Sum.elim (λ_=>[]) (λx=>[.cells [zC zP x.2.1 .no,zC qS x.2.2 .no]])) 0:=fw func68<|rC 0 [] c51 λ_=>rK 0 [] c47 (λ_=>rC 1 [] yAO<|iT (λ_=>rB 2 (fE 0)<|fF 0 [0]) λ_=>rB 2 (fE 0)<|fF 0 [0]) λ_=>fE 1
mutual def jV:Nat->yB->(Int×yB×sI)->Int->yB->yH->yH->Option ((Int)⊕(Int×yB×yH×yH×yB×sI))
 |0,_,_,_,_,_,_=>none|p+1,e,y3,d,a,b,c=>if decide (d<(e.length:Int))then zO e d>>=λx8=>if x8.kind==1 then yT 8 b [(yJ ((yJ ((yJ (x8.pars+2))+(x8.cons.length:Int)))+x8.inds))]>>=λl11=>yT 8 c [0]>>=λl13=>jV p e y3 (yJ (d+1)) a l11 l13 else if x8.kind==2 then L2 p e y3 d a b c 0 x8.type.k x8.type.n x8.type.sub else yT 8 b [0]>>=λl16=>yT 8 c [0]>>=λl18=>jV p e y3 (yJ (d+1)) a l16 l18 else some (Sum.inr (0,a,b,c,y3.2.1,y3.2.2))def L2:Nat->yB->(Int×yB×sI)->Int->yB->yH->yH->Int->Int->Int->yA->Option ((Int)⊕(Int×yB×yH×yH×yB×sI))|0,_,_,_,_,_,_,_,_,_,_=>none|p+1,e,y3,d,a,b,c,q,f,m,g=>if f==3 then zO g 1>>=λx17=>L2 p e y3 d a b c (yJ (q+1)) x17.k x17.n x17.sub else yT 8 b [0]>>=λl19=>yT 8 c [q]>>=λl21=>jV p e y3 (yJ (d+1)) a l19 l21 end
def e39(p:Nat)(e:yB):Option ((Int)⊕(Int×yB×yH×yH×yB×sI)):=e68 p e>>=λr1=>match r1 with|Sum.inl y7=>if y7 !=0 then some (Sum.inl y7)else none|Sum.inr y3=>if y3.1 !=0 then some (Sum.inl y3.1)else e51 p e>>=λr5=>jV p e y3 0 r5 [] []
theorem zCB:∀p:Nat,(∀e y3 d a b c,Lz (jV p e y3 d a b c) 0 f39 (pt 65461 f39) (λj=>sp j 81 0 [(6,.mp 0 0),(25,zC zP e .no),(26,ai (e.length:Int)),(27,ai d)]) ⟨[(0,.cells [zC zP a .no,.mp 1 0,zC zQ b (.st 0 1),zC zQ c (.st 1 1)]),(1,.cells [zC zP y3.2.1 .no,zC qS y3.2.2 .no])],2,[0,1],2,[]⟩ (Sum.elim (λx=>.tup [.val (.pointer none),ai x]) (λx=>.tup [.mp 0 0,ai x.1])) (Sum.elim (λ_=>[]) (λx=>[.cells [zC zP x.2.1 .no,.mp 1 0,zC zQ x.2.2.1 .no,zC zQ x.2.2.2.1 .no],.cells [zC zP x.2.2.2.2.1 .no,zC qS x.2.2.2.2.2 .no]])) 0 [.blk 0,.seq (pt 1023 f39)])/\(∀e y3 d a b c q f m g,Lz (L2 p e y3 d a b c q f m g) 0 f39 (pt 281157048172469 f39) (λj=>sp j 81 0 [(6,.mp 0 0),(9,ai 0),(10,ai q),(11,.mp 1 0),(25,zC zP e .no),(26,ai (e.length:Int)),(27,ai d)]) ⟨[(0,.cells [zC zP a .no,.mp 2 0,zC zQ b (.st 0 1),zC zQ c (.st 1 1)]),(1,.cells [ai f,ai m,zC zA g .no]),(2,.cells [zC zP y3.2.1 .no,zC qS y3.2.2 .no])],3,[0,1],2,[]⟩ (Sum.elim (λx=>.tup [.val (.pointer none),ai x]) (λx=>.tup [.mp 0 0,ai x.1])) (Sum.elim (λ_=>[]) (λx=>[.cells [zC zP x.2.1 .no,.mp 1 0,zC zQ x.2.2.1 .no,zC zQ x.2.2.2.1 .no],.cells [zC zP x.2.2.2.2.1 .no,zC qS x.2.2.2.2.2 .no]])) 0 [.blk 3,.blk 2,.seq (pt 1072529023 f39),.blk 1,.seq (pt 4189567 f39),.loop (pt 65461 f39),.blk 0,.seq (pt 1023 f39)]):=xF ⟨λ_ _ _ _ _ _=>lN,λ_ _ _ _ _ _ _ _ _ _=>lN⟩ λp ih=>⟨λe y3 d a b c=>lw λ_=>rB 0 (rA 0 (xN (o:=.no)) λ_=>rB 3 (rW (λh12=>oP 9 (sO h12 (by simp))) λ_=>rW (λh14=>oP 2 (sO h14 (by simp))) λ_=>lH 3 [] [0,1] [2,3] [6,25,26,27] (ih.1 _ _ _ _ _ _))<|rB 0 (lH 2 [] [0,3,1] [0,1] [6,9,10,11,25,26,27] (ih.2 _ _ _ _ _ _ _ _ _ _))<|rW (λh17=>oP 2 (sO h17 (by simp))) λ_=>rW (λh19=>oP 2 (sO h19 (by simp))) λ_=>lH 3 [] [0,1] [2,3] [6,25,26,27] (ih.1 _ _ _ _ _ _))<|lF 0 [0,1],λe y3 d a b c q f m g=>lw λ_=>rB 1 (rA 4 (xA (o:=.no)) λ_=>lH 2 [] [0,3,2] [0,1] [6,9,10,11,25,26,27] (ih.2 _ _ _ _ _ _ _ _ _ _))<|rW (λh20=>oP 2 (sO h20 (by simp))) λ_=>rW (λh22=>oP 2 (sO h22 (by simp))) λ_=>lH 3 [] [0,2] [2,3] [6,25,26,27] (ih.1 _ _ _ _ _ _)⟩
theorem c39{p e}:Cz (e39 p e) 39 [] [zC zP e .no] (Sum.elim (λx=>.tup [.val (.pointer none),ai x]) (λx=>.tup [.mp 0 0,ai x.1])) (Sum.elim (λ_=>[]) (λx=>[.cells [zC zP x.2.1 .no,.mp 1 0,zC zQ x.2.2.1 .no,zC zQ x.2.2.2.1 .no],.cells [zC zP x.2.2.2.2.1 .no,zC qS x.2.2.2.2.2 .no]])) 0:=fw func39<|rC 0 [] c68<|iT (λ_=>rB 2 (fE 0) rN) λ_=>rB 2 (fE 0)<|rC 0 [] c51 λ_=>fH 1 [(some 1,2,1),(some 1,3,1)] [1,0] [0,1] [6,25,26,27] (((zCB _).1) _ _ _ _ _ _)
theorem zOI{N:ByteArray->Bool}(l:List zX)(hf:zB (λq=>aP q l) true)(hE:wP N l)(he:∀e∈l,nU e):zB (λq=>zHn q l) (.inr (mJ l l.length 0,0)):=by
 simp only[zHn];have hl:=hE.1;refine hf.bind (zB.ifT rfl (zB.pure (a:=List.replicate l.length default) ?_ ?_));·unfold gmk;rw[if_pos (by omega)];rfl
 ·exact(zLr l (List.replicate l.length default) (by simp) hE he l.length 0 [] (by omega) rfl).eq (by simp)
def zHj(l:List zX)(b:Bool):(Int)⊕(Int×List zX×List uK):=if b=true then .inr (0,l,mJ l l.length 0)else .inl 5
theorem zSq(N:ByteArray->Bool)(hN:eY N)(l:List zX)(hl:l.length<=65535)(he:∀e∈l,nU e)(hc:∀e∈l,ECl e):∃b,zB (λq=>aP q l) b/\(b=true->wP N l)/\zB (λq=>e68 q l) (zHj l b):=by
 obtain⟨d,-,hd⟩:=L0 N hN l hl he;refine⟨_,hd,jU,?_⟩;simp only[e68];refine(F9 l hl he hc).bind (hd.bind ?_);unfold zHj;by_cases h:eZ N d l=true
 ·rw[if_pos h];have hA:=jU h;rw[kR hA];refine zB.ifT h ((zOI l (hd.eq h) hA he).bind ?_);exact zB.ifF (by simp) zB.ret
 ·rw[if_neg h];exact zB.ifF (by simpa using h) zB.ret
theorem zLq(t:Tm)(hg:xP t=true):uS t<=t.nodes:=by
 have key:∀(m:Nat)(t:Tm),t.nodes<=m->xP t=true->uS t<=t.nodes:=by intro m;induction m with|zero=>intro t h;have:=wO t;omega|succ m ih=>
  intro t hm hg;by_cases k:t.k=3
  ·obtain⟨x,y,e,hx,hy⟩:=E6 hg k;rw[e]at hm⊢;rw[S7];rw[Tm.nodes,yR,yR,yR]at hm⊢;have:=wO x;have:=ih y (by omega) hy;omega
  ·rw[zGU k];omega
 exact key t.nodes t (Nat.le_refl _) hg
def xZ(e:zX):Int:=if e.kind=1 then e.pars+2+e.cons.length+e.inds else 0
def tW(e:zX):Int:=if e.kind=2 then(uS e.type:Int)else 0
theorem zSp(l:List zX)(y3:Int×List zX×List uK)(v27:Int)(vb:List zX)(a o:List Int)(r:(Int)⊕(Int×List zX×List Int×List Int×List zX×List uK))(ha:a.length<=65535)(ho:o.length<=65535)(tot:Int)(ht:tot<=4611686018427387904)(hk:zB (λq=>jV q l y3 (yJ (v27+1)) vb (a++[0]) (o++[tot])) r):∀(t:Tm)(v:Int),xP t=true->0<=v->v+uS t=tot->zB (λq=>L2 q l y3 v27 vb a o v t.k t.n t.sub) r:=by
 have key:∀(m:Nat)(t:Tm)(v:Int),t.nodes<=m->xP t=true->0<=v->v+uS t=tot->zB (λq=>L2 q l y3 v27 vb a o v t.k t.n t.sub) r:=by intro m;induction m with|zero=>intro t v h;have:=wO t;omega|succ m ih=>
  intro t v hm hg h0 hv;refine zB.succ ?_;simp only[L2];by_cases k:t.k=3
  ·obtain⟨x,y,e,hx,hy⟩:=E6 hg k;rw[e]at hv hm⊢;rw[S7]at hv;refine zB.ifT (by simp[Tm.k]) (zB.pure (a:=y) (by simp[zO,Tm.sub]) ?_);rw[zS (x:=v+1) (by omega) (by omega)];refine ih y (v+1) ?_ hy (by omega) (by omega);rw[Tm.nodes,yR,yR,yR]at hm;have:=wO x;omega
  ·rw[zGU k]at hv;refine zB.ifF (by simp[k]) (zB.pure (zW (by simp<;>omega)) (zB.pure (zW (by simp<;>omega)) ?_));rw[show v=tot by omega];exact hk
 exactλt v=>key t.nodes t v (Nat.le_refl _)
theorem G5{N:ByteArray->Bool}(l vb:List zX)(y3:Int×List zX×List uK)(hE:wP N l):∀(r:List zX)(v:Nat)(a o:List Int),l.drop v=r->a.length<=v->o.length<=v->zB (λq=>jV q l y3 (v:Int) vb a o) (.inr (0,vb,a++r.map xZ,o++r.map tW,y3.2.1,y3.2.2))
 |[],v,a,o,hd,ha,ho=>by refine zB.succ ?_;simp only[jV];exact zB.ifF (yE hd) (zB.ret.eq (by simp))|x::r,v,a,o,hd,ha,ho=>by
  have hlt:=yK hd;have hl:=hE.1;have hx:zN l v=x:=by have h1:=zY hd;rw[yO (by omega) (by omega)]at h1;exact Option.some.inj h1
  have hs:=xB (hE.2 v (by omega) (by omega));rw[hx]at hs;refine zB.succ ?_;simp only[jV];refine zB.ifT (yD hd) (zB.pure (zY hd) ?_);by_cases k1:x.kind=1
  ·have hf:=wB (hs.2.1 k1);rw[hx]at hf;rw[zS (x:=x.pars+2) (by omega) (by omega),zS (x:=x.pars+2+x.cons.length) (by omega) (by omega),zS (x:=x.pars+2+x.cons.length+x.inds) (by omega) (by omega),zV v (by omega)];refine zB.ifT (by simp[k1]) (zB.pure (zW (by simp<;>omega)) (zB.pure (zW (by simp<;>omega)) ?_));refine(G5 l vb y3 hE r (v+1) _ _ (zR hd) (by simp<;>omega) (by simp<;>omega)).eq ?_;simp[xZ,tW,k1]
  ·refine zB.ifF (by simp[k1]) ?_;by_cases k2:x.kind=2
   ·refine zB.ifT (by simp[k2]) ?_;have hsh:=(zK (lY hs.1));have hp:uS x.type<=8192:=Nat.le_trans (zLq x.type hsh.2.2) hsh.1;refine zSp l y3 v vb a o _ (by omega) (by omega) (uS x.type) (by omega) ?_ x.type 0 hsh.2.2 (by omega) (by omega);rw[zV v (by omega)];refine(G5 l vb y3 hE r (v+1) _ _ (zR hd) (by simp<;>omega) (by simp<;>omega)).eq ?_;simp[xZ,tW,k2]
   ·refine zB.ifF (by simp[k2]) (zB.pure (zW (by simp<;>omega)) (zB.pure (zW (by simp<;>omega)) ?_));rw[zV v (by omega)];refine(G5 l vb y3 hE r (v+1) _ _ (zR hd) (by simp<;>omega) (by simp<;>omega)).eq ?_;simp[xZ,tW,k1,k2]
def wF(l:List zX):wA:=wA.mk l l (mJ l l.length 0) (l.map xZ) (l.map tW)
def zOJ(l:List zX)(b:Bool):(Int)⊕(Int×List zX×List Int×List Int×List zX×List uK):=if b=true then .inr (0,l,l.map xZ,l.map tW,l,mJ l l.length 0)else .inl 5
theorem zSo(N:ByteArray->Bool)(hN:eY N)(l:List zX)(hl:l.length<=65535)(he:∀e∈l,nU e)(hc:∀e∈l,ECl e):∃b,zB (λq=>aP q l) b/\(b=true->wP N l)/\zB (λq=>e39 q l) (zOJ l b):=by obtain⟨b,h1,h2,h3⟩:=zSq N hN l hl he hc;refine⟨b,h1,h2,?_⟩;simp only[e39];refine h3.bind ?_;unfold zHj zOJ;cases b with|false=>exact zB.ifT (by decide) zB.ret|true=>refine zB.ifF (by simp) ((F9 l hl he hc).bind ?_);rw[kR (h2 rfl)];exact(G5 l l _ (h2 rfl) l 0 [] [] rfl (by simp) (by simp)).eq (by simp)
theorem G6{t:Tm}{k c:Int}(h:(vU t k c).2=0):zJ t=true/\0<=k/\0<=c/\zJ (Q9 t 0 c k)=true/\(vU t k c).1=Q9 t 0 c k:=by
 unfold vU at h⊢;by_cases a:zJ t=true/\bM k=true/\bM c=true
 ·rw[if_pos a]at h⊢;by_cases b:zJ (Q9 t 0 c k)=true
  ·rw[if_pos b];have a2:=a.2.1;have a3:=a.2.2;unfold bM at a2 a3;simp only[Bool.and_eq_true,decide_eq_true_eq]at a2 a3;exact⟨a.1,a2.1,a3.1,b,rfl⟩
  ·rw[if_neg b]at h;simp at h
 ·rw[if_neg a]at h;simp at h
theorem t8(t:Tm)(k c:Int):(vU t k c).2≠8:=by
 unfold vU;split;·split<;>simp
 ·simp
mutual def siT(ls:List Tm):Tm->Int->Tm|.mk kd n l,b=>if kd=1/\b<=n then(if h:(n-b).toNat<ls.length then Q9 (ls[(n-b).toNat]) 0 0 b else .mk 1 (n-ls.length) [])else .mk kd n (siL ls l kd 0 b)def siL(ls:List Tm):List Tm->Int->Nat->Int->List Tm|[],_,_,_=>[]|t::l,kd,i,b=>siT ls t (sP kd i b)::siL ls l kd (i+1) b end
theorem zVG{a:Tm}{b left:Int}{long:Bool}(h:(raT a b left long).2.2=false):long=false/\(raT a b left long).1=Q9 a 0 0 b:=by
 unfold raT at h⊢;by_cases h1:left-b8 a 0<0;·rw[if_pos h1]at h;simp at h
 ·rw[if_neg h1]at h⊢;by_cases h2:(vU a b 0).2≠0;·rw[if_pos h2]at h;simp at h
  ·rw[if_neg h2]at h⊢;exact⟨h,(G6 (by simpa using h2)).2.2.2.2⟩
theorem zOK(ls:List Tm):∀(t:Tm)(b left:Int),(B1 ls t b left true).2.2=true|.mk kd n l,b,left=>by rw[B1,if_pos rfl]
mutual theorem zOL(ls:List Tm):∀(t:Tm)(b left:Int)(long:Bool),(B1 ls t b left long).2.2=false->long=false/\(B1 ls t b left long).1=siT ls t b
 |.mk kd n l,b,left,long,h=>by cases long with|true=>rw[zOK]at h;cases h|false=>
  refine⟨rfl,?_⟩;rw[B1,if_neg (by simp)]at h⊢;rw[siT];by_cases h1:kd=1/\b<=n
  ·rw[if_pos h1]at h;rw[if_pos h1,if_pos h1];by_cases h2:(n-b).toNat<ls.length
   ·rw[dif_pos h2]at h;rw[dif_pos h2,dif_pos h2];exact(zVG h).2
   ·rw[dif_neg h2,dif_neg h2]
  ·rw[if_neg h1]at h;rw[if_neg h1,if_neg h1];exact congrArg (Tm.mk kd n) (zOM ls l kd 0 b (left-1) (decide (left-1<0)) h).2 theorem zOM(ls:List Tm):∀(l:List Tm)(kd:Int)(i:Nat)(b left:Int)(long:Bool),(O7 ls l kd i b left long).2.2=false->long=false/\(O7 ls l kd i b left long).1=siL ls l kd i b|[],kd,i,b,left,long,h=>by rw[O7]at h⊢;rw[siL];exact⟨h,rfl⟩|t::l,kd,i,b,left,long,h=>by rw[O7]at h⊢;have k:=zOM ls l kd (i+1) b (B1 ls t (sP kd i b) left long).2.1 (B1 ls t (sP kd i b) left long).2.2 h;have k2:=zOL ls t (sP kd i b) left long k.1;refine⟨k2.1,?_⟩;show(B1 ls t (sP kd i b) left long).1::(O7 ls l kd (i+1) b (B1 ls t (sP kd i b) left long).2.1 (B1 ls t (sP kd i b) left long).2.2).1=_;rw[k2.2,k.2,siL]end
theorem zJu{t:Tm}{ls:List Tm}(h:(gR t ls).2=0):zJ t=true/\ls.all zJ=true/\zJ (siT ls t 0)=true/\(gR t ls).1=siT ls t 0:=by
 unfold gR at h⊢;by_cases a:zJ t=true/\ls.all zJ=true
 ·rw[if_pos a]at h⊢;by_cases b:(B1 ls t 0 8192 false).2.2=true;·rw[if_pos b]at h;simp at h
  ·rw[if_neg b]at h⊢;have e:=(zOL ls t 0 8192 false (by simpa using b)).2;rw[e]at h⊢;by_cases c:zJ (siT ls t 0)=true;·rw[if_pos c];exact⟨a.1,a.2,c,rfl⟩
   ·rw[if_neg c]at h;simp at h
 ·rw[if_neg a]at h;simp at h
theorem zCC(t:Tm)(ls:List Tm):(gR t ls).2≠8:=by
 unfold gR;split
 ·split;·simp
  ·split<;>simp
 ·simp
mutual def xM(P:Int->Int->Prop):Tm->Prop|.mk k n l=>(k=1\/P k n)/\wZ P l def wZ(P:Int->Int->Prop):List Tm->Prop|[]=>True|t::l=>xM P t/\wZ P l end
section
variable{P:Int->Int->Prop}
theorem L3:∀{l:List Tm},wZ P l↔∀t∈l,xM P t|[]=>by rw[wZ];simp|t::l=>by rw[wZ,L3];simp
theorem zCD{k n:Int}{a b:Tm}(h:k=1\/P k n)(ha:xM P a)(hb:xM P b):xM P (.mk k n [a,b]):=by rw[xM,wZ,wZ,wZ];exact⟨h,ha,hb,trivial⟩
theorem zVH{k n:Int}{a:Tm}(h:k=1\/P k n)(ha:xM P a):xM P (.mk k n [a]):=by rw[xM,wZ,wZ];exact⟨h,ha,trivial⟩
theorem aQ{k n:Int}(h:k=1\/P k n):xM P (.mk k n []):=by rw[xM,wZ];exact⟨h,trivial⟩
mutual theorem S8:∀(t:Tm)(b c k:Int),xM P t->xM P (Q9 t b c k)
 |.mk kd n l,b,c,k,h=>by
  rw[xM]at h;rw[Q9];split;·exact aQ (.inl rfl)
  ·rw[xM];exact⟨h.1,zFm l kd 0 b c k h.2⟩theorem zFm:∀(l:List Tm)(kd:Int)(i:Nat)(b c k:Int),wZ P l->wZ P (lfL l kd i b c k)|[],_,_,_,_,_,_=>by rw[lfL,wZ];trivial|t::l,kd,i,b,c,k,h=>by rw[wZ]at h;rw[lfL,wZ];exact⟨S8 t _ c k h.1,zFm l kd (i+1) b c k h.2⟩end
mutual theorem zCE(ls:List Tm)(hls:∀a∈ls,xM P a):∀(t:Tm)(b:Int),xM P t->xM P (siT ls t b)
 |.mk kd n l,b,h=>by
  rw[xM]at h;rw[siT];split
  ·split;·exact S8 _ 0 0 b (hls _ (List.getElem_mem _))
   ·exact aQ (.inl rfl)
  ·rw[xM];exact⟨h.1,zFl ls hls l kd 0 b h.2⟩theorem zFl(ls:List Tm)(hls:∀a∈ls,xM P a):∀(l:List Tm)(kd:Int)(i:Nat)(b:Int),wZ P l->wZ P (siL ls l kd i b)|[],_,_,_,_=>by rw[siL,wZ];trivial|t::l,kd,i,b,h=>by rw[wZ]at h;rw[siL,wZ];exact⟨zCE ls hls t _ h.1,zFl ls hls l kd (i+1) b h.2⟩end
theorem jW:∀(l:List Tm)(f:Tm),P 5 0->xM P f->(∀a∈l,xM P a)->xM P (tJ f l)|[],f,_,hf,_=>by rw[tJ];exact hf|a::l,f,h5,hf,hl=>by rw[tJ];exact jW l _ h5 (zCD (.inr h5) hf (hl a (by simp))) λx hx=>hl x (by simp[hx])
theorem aR:∀t:Tm,xP t=true->xM P t->xM P (zZ t)/\∀a∈yW t,xM P a:=by
 refine E1 ?_ ?_
 ·intro t hg hk h;rw[qX hk,sJ hk];exact⟨h,λx hx=>by cases hx⟩
 ·intro n a b hg ha hb ih h;rw[eC,mX];rw[xM,wZ,wZ,wZ]at h;refine⟨(ih h.2.1).1,λx hx=>?_⟩;rcases List.mem_append.1 hx with hx|hx;·exact(ih h.2.1).2 x hx
  ·rw[List.mem_singleton.1 hx];exact h.2.2.1
theorem s4:∀(n:Nat)(t:Tm)(r:List Tm×Tm),xP t=true->iV n t=some r->xM P t->xM P r.2/\∀x∈r.1,xM P x
 |0,t,r,hg,h,ha=>by rw[iV]at h;cases h;exact⟨ha,λx hx=>by cases hx⟩|n+1,t,r,hg,h,ha=>by
  by_cases h3:t.k=3
  ·obtain⟨a,b,hx,hga,hgb⟩:=E6 hg h3;rw[hx]at h ha;rw[zCi]at h;obtain⟨r',h1,rfl⟩:=Option.map_eq_some_iff.1 h;rw[xM,wZ,wZ,wZ]at ha;have ih:=s4 n b r' hgb h1 ha.2.2.1;refine⟨ih.1,λx hx=>?_⟩;rcases List.mem_cons.1 hx with rfl|hx;·exact ha.2.1
   ·exact ih.2 x hx
  ·rw[Z4 h3]at h;cases h
end
mutual theorem L4{P Q R:Int->Int->Prop}(h:∀k n,P k n->Q k n->R k n):∀t:Tm,xM P t->xM Q t->xM R t
 |.mk k n l,hp,hq=>by
  rw[xM]at hp hq⊢;refine⟨?_,s5 h l hp.2 hq.2⟩;rcases hp.1 with h1|h1;·exact .inl h1
  ·rcases hq.1 with h2|h2;·exact .inl h2
   ·exact .inr (h k n h1 h2)theorem s5{P Q R:Int->Int->Prop}(h:∀k n,P k n->Q k n->R k n):∀l:List Tm,wZ P l->wZ Q l->wZ R l|[],_,_=>by rw[wZ];trivial|t::l,hp,hq=>by rw[wZ]at hp hq⊢;exact⟨L4 h t hp.1 hq.1,s5 h l hp.2 hq.2⟩end
theorem zBp{P R:Int->Int->Prop}{t:Tm}(h:∀k n,P k n->R k n)(hp:xM P t):xM R t:=L4 (λk n a _=>h k n a) t hp hp
mutual theorem G7{a b:Int}{Q:Int->Prop}(ha:a≠1)(hb:b≠1):∀t:Tm,(∀x∈lR t a b,Q x)↔xM (λk n=>k=a\/k=b->Q n) t
 |.mk k n l=>by
  have ih:=zBo (Q:=Q) ha hb l;rw[lR,xM,<-ih];constructor
  ·intro h;refine⟨?_,λx hx=>h x (List.mem_append_right _ hx)⟩;by_cases h1:k=a\/k=b;·exact .inr λ_=>h n (by rw[if_pos h1];simp)
   ·exact .inr λh2=>absurd h2 h1
  ·rintro⟨h1,h2⟩x hx;rcases List.mem_append.1 hx with hx|hx
   ·by_cases h3:k=a\/k=b
    ·rw[if_pos h3,List.mem_singleton]at hx;rcases h1 with h1|h1;·omega
     ·rw[hx];exact h1 h3
    ·rw[if_neg h3]at hx;cases hx
   ·exact h2 x hx theorem zBo{a b:Int}{Q:Int->Prop}(ha:a≠1)(hb:b≠1):∀l:List Tm,(∀x∈C8 l a b,Q x)↔wZ (λk n=>k=a\/k=b->Q n) l
 |[]=>by rw[C8,wZ];simp|t::l=>by
  rw[C8,wZ,<-G7 ha hb t,<-zBo ha hb l];constructor;·intro h;exact⟨λx hx=>h x (List.mem_append_left _ hx),λx hx=>h x (List.mem_append_right _ hx)⟩
  ·rintro⟨h1,h2⟩x hx;rcases List.mem_append.1 hx with hx|hx;·exact h1 x hx
   ·exact h2 x hx end
theorem G8{t:Tm}{n:Int}(h:tL t n=true):xM (λk x=>(k=6\/k=7->x<n)/\k≠8) t:=by
 have h6:xM (λk x=>k=6\/k=7->x<n) t:=by refine(G7 (by decide) (by decide) t).1 ?_;unfold tL qW at h;simp only[Bool.and_eq_true,List.all_eq_true,decide_eq_true_eq]at h;exact h.1.2
 have h8:xM (λk x=>k=8\/k=8->False) t:=by refine(G7 (Q:=λ_=>False) (by decide) (by decide) t).1 ?_;unfold tL at h;simp only[Bool.and_eq_true,List.isEmpty_iff]at h;rw[h.2];exactλx hx=>by cases hx
 exact L4 (λk n a b=>⟨a,λh=>b (.inl h)⟩) t h6 h8
def zLo(c:Nat)(a b:Tm):Option (Tm):=zEc c 4 0 [a,b]>>=λr1=>some r1
theorem zVI{c a b}:Cz (zLo c a b) 244 [] [yL a,yL b] (λr=>yL r) (λ_=>[]) 0:=fw func244<|rS (oS 2 (yU xH [a,b]))<|rC 0 [] zGQ λ_=>fE 1
def qA:Nat->yA->Int->Int->Int->yA->Option (Tm×Int)|0,_,_,_,_,_=>none|e+1,d,g,a,b,c=>if decide (g<(d.length:Int))then zO d (yJ ((yJ ((d.length:Int)-1))-g))>>=λx12=>zLo e x12 (Tm.mk a b c)>>=λr14=>qA e d (yJ (g+1)) r14.k r14.n r14.sub else qV e (Tm.mk a b c)>>=λr16=>if r16 then e96 e (Tm.mk a b c)>>=λr19=>some (r19,0)else some ((Tm.mk 0 0 []),2)
def qC:Nat->yA->Tm->Int->Option (Tm×Int)|0,_,_,_=>none|e+1,d,f,m=>if decide (m<(d.length:Int))then zO d m>>=λx3=>qV e x3>>=λr5=>if r5 then qC e d f (yJ (m+1))else some ((Tm.mk 0 0 []),5)else qV e f>>=λr8=>if r8 then qA e d 0 f.k f.n f.sub else some ((Tm.mk 0 0 []),5)
def s6(e:Nat)(d:yA)(f:Tm):Option (Tm×Int):=if decide ((d.length:Int)>24)then some ((Tm.mk 0 0 []),2)else qC e d f 0
theorem zFk:∀e:Nat,∀d g a b c,Lz (qA e d g a b c) 0 f186 (pt 65461 f186) (λj=>sp j 53 0 [(0,zC zA d .no),(2,.clo 244 [] []),(4,.mp 0 0),(6,.mp 1 0),(31,ai (d.length:Int)),(32,ai g)]) ⟨[(0,.cells [ai a,ai b,zC zA c .no]),(1,.cells [ai 0,ai 0,zC zA ([]:yA) .nl])],2,[],0,[]⟩ (λr=>.tup [yL r.1,ai r.2]) (λ_=>[]) 0 [.blk 2,.seq (pt 1023 f186)]:=xF (λ_ _ _ _ _=>lN) λe ih=>λd g a b c=>lw λ_=>rB 0 (rA 3 (xA (o:=.no)) λ_=>rC 2 [] zVI λ_=>lH 2 [] [0,1] [] [0,2,4,6,31,32] (ih _ _ _ _ _))<|rK 1 [] pP (λ_=>rC 2 [] c96 λ_=>lE 1) λ_=>lE 2
theorem zFj:∀e:Nat,∀d f m,Lz (qC e d f m) 0 f186 (pt 4021 f186) (λj=>sp j 53 0 [(0,zC zA d .no),(2,.clo 244 [] []),(4,.mp 0 0),(6,.mp 1 0),(15,zC zA d .no),(16,ai (d.length:Int)),(17,ai m)]) ⟨[(0,.cells [ai f.k,ai f.n,zC zA f.sub .no]),(1,.cells [ai 0,ai 0,zC zA ([]:yA) .nl])],2,[],0,[]⟩ (λr=>.tup [yL r.1,ai r.2]) (λ_=>[]) 0 [.blk 0,.seq (pt 63 f186)]:=xF (λ_ _ _=>lN) λe ih=>λd f m=>lw λ_=>rB 0 (rA 0 (xA (o:=.no)) λ_=>rK 3 [] pP (λ_=>lH 2 [] [0,1] [] [0,2,4,6,15,16,17] (ih _ _ _)) λ_=>lE 2)<|rK 1 [] pP (λ_=>lH 2 [] [0,1] [] [0,2,4,6,31,32] (zFk _ _ _ _ _ _)) λ_=>lE 2
theorem zON{e d f}:Cz (s6 e d f) 186 [] [zC zA d .no,yL f,.clo 244 [] []] (λr=>.tup [yL r.1,ai r.2]) (λ_=>[]) 0:=fw func186<|rB 1 (fE 1)<|fH 1 [] [0,1] [] [0,2,4,6,15,16,17] (zFj _ _ _ _)
def dB:Nat->yA->Int->Option yA|0,_,_=>none|a+1,c,b=>if decide (b>=0)then iU a b>>=λr4=>yT 40 c [r4]>>=λl6=>dB a l6 (yJ (b-1))else some c
def s7(a:Nat)(d:Int):Option yA:=if decide (d<0)then some []else if decide (d>1048576)then some []else dB a [] (yJ (d-1))
theorem zSn:∀a:Nat,∀c b,Lz (dB a c b) 0 f190 (pt 16309 f190) (λj=>sp j 23 0 [(3,zC zA c (.st 0 3)),(4,ai b)]) ⟨[],0,[0],1,[]⟩ (λr=>.sl (zH zA r) r.length .no) (λ_=>[]) 0 [.blk 0,.seq (pt 255 f190)]:=xF (λ_ _=>lN) λa ih=>λc b=>lw λ_=>rB 0 (rC 0 [] kL λr4=>rS (oS 0 (yU xH [r4]))<|rW (λh7=>oP 0 (xY h7 (by simp))) λ_=>lH 1 [] [] [1] [3,4] (ih _ _))<|lE 0
theorem aS{a d}:Cz (s7 a d) 190 [] [ai d] (λr=>.sl (zH zA r) r.length .no) (λ_=>[]) 0:=fw func190<|rB 0 (fE 0)<|rB 0 (fE 0)<|fH 1 [(none,3,3)] [] [0] [3,4] (zSn _ _ _)
def zSm(d:Nat)(a:Int)(b:yA)(c:Int):Option (yA×Int):=if a==0 then some (b,c)else some (b,a)
theorem yAQ{d a b c}:Cz (zSm d a b c) 303 [.cells [ai a]] [.mp 0 0,zC zA b .no,ai c] (λr=>.sl (zH zA r.1) r.1.length .no) (λr=>[.cells [ai r.2]]) 0:=fw func303<|rB 1 (fE 1)<|fE 0
def dD:Nat->yA->Int->Int->Int->yA->Option (yA×Int)|0,_,_,_,_,_=>none|e+1,b,c,d,a,f=>if decide (a<(b.length:Int))then zO b a>>=λx2=>zNB e x2 c d>>=λr4=>if r4.2 !=0 then some ([],r4.2)else yT 40 f [r4.1]>>=λl7=>dD e b c d (yJ (a+1)) l7 else some (f,0)
def zSl(e:Nat)(b:yA)(c d:Int):Option (yA×Int):=dD e b c d 0 []
theorem zSk:∀e:Nat,∀b c d a f,Lz (dD e b c d a f) 0 f304 (pt 4021 f304) (λj=>sp j 35 0 [(1,ai c),(2,ai d),(8,zC zA f (.st 0 3)),(13,zC zA b .no),(14,ai (b.length:Int)),(15,ai a)]) ⟨[],0,[0],1,[]⟩ (λr=>.tup [.sl (zH zA r.1) r.1.length .no,ai r.2]) (λ_=>[]) 0 [.blk 0,.seq (pt 63 f304)]:=xF (λ_ _ _ _ _=>lN) λe ih=>λb c d a f=>lw λ_=>rB 0 (rA 0 (xA (o:=.no)) λ_=>rC 3 [] zXP λr4=>rB 3 (lE 0)<|rS (oS 1 (yU xH [r4.1]))<|rW (λh8=>oP 0 (xY h8 (by simp))) λ_=>lH 1 [] [] [1] [1,2,8,13,14,15] (ih _ _ _ _ _))<|lE 0
theorem yAR{e b c d}:Cz (zSl e b c d) 304 [] [zC zA b .no,ai c,ai d] (λr=>.tup [.sl (zH zA r.1) r.1.length .no,ai r.2]) (λ_=>[]) 0:=fw func304<|fH 1 [(none,8,3)] [] [0] [1,2,8,13,14,15] (zSk _ _ _ _ _ _)
def R3(b:Nat)(a:Int)(c:yA)(d:Int):Option (yA×Int):=zSl b c d 0>>=λr1=>zSm b a r1.1 r1.2>>=λr3=>some (r3.1,r3.2)
theorem s8{b a c d}:Cz (R3 b a c d) 263 [.cells [ai a]] [.mp 0 0,zC zA c .no,ai d] (λr=>.sl (zH zA r.1) r.1.length .no) (λr=>[.cells [ai r.2]]) 0:=fw func263<|rC 0 [] yAR λ_=>rC 2 [0] yAQ λ_=>fE 0
def s9(d:Nat)(a:Int)(b:Tm)(c:Int):Option (Tm×Int):=if a==0 then some (b,c)else some (b,a)
theorem zAn{d a b c}:Cz (s9 d a b c) 266 [.cells [ai a]] [.mp 0 0,yL b,ai c] (λr=>yL r.1) (λr=>[.cells [ai r.2]]) 0:=fw func266<|rB 1 (fE 3)<|fE 2
def dF:Nat->Tm->(yA×Int)->Int->yA->Option (Tm×Int)|0,_,_,_,_=>none|c+1,b,r6,d,f=>if decide (d>=0)then zO r6.1 d>>=λx9=>yT 40 f [x9]>>=λl11=>dF c b r6 (yJ (d-1)) l11 else zGS c b f>>=λr13=>s9 c r6.2 r13.1 r13.2>>=λr15=>some (r15.1,r15.2)
def dG:Nat->Int->Tm->Int->yA->Int->yA->Option (Tm×Int)|0,_,_,_,_,_,_=>none|c+1,a,b,g,m,e,f=>if decide (e<g)then iU c e>>=λr2=>yT 40 f [r2]>>=λl4=>dG c a b g m (yJ (e+1)) l4 else R3 c a m g>>=λr6=>dF c b r6 (yJ ((r6.1.length:Int)-1)) f
def zHi(c:Nat)(a:Int)(b:Tm)(g:Int)(m:yA):Option (Tm×Int):=dG c a b g m 0 []
theorem zSj:∀c:Nat,∀b r6 d f,Lz (dF c b r6 d f) 1 f302 (pt 65461 f302) (λj=>sp j 48 0 [(0,.mp 0 0),(5,.mp 1 0),(8,.mp 2 0),(9,zC zA f (.st 0 3)),(11,zC zA r6.1 .no),(12,ai d)]) ⟨[(0,.cells [ai r6.2]),(1,.cells [ai b.k,ai b.n,zC zA b.sub .no]),(2,.cells [ai 0,ai 0,zC zA ([]:yA) .nl])],3,[0],1,[]⟩ (λr=>yL r.1) (λr=>[.cells [ai r.2]]) 0 [.blk 2,.seq (pt 1023 f302)]:=xF (λ_ _ _ _=>lN) λc ih=>λb r6 d f=>lw λ_=>rB 0 (rA 0 (xA (o:=.no)) λx9=>rS (oS 1 (yU xH [x9]))<|rW (λh12=>oP 0 (xY h12 (by simp))) λ_=>lH 1 [] [0,1,2] [1] [0,5,8,9,11,12] (ih _ _ _ _))<|rC 1 [] zQY λ_=>rC 2 [0] zAn λ_=>lE 1
theorem zSi:∀c:Nat,∀a b g m e f,Lz (dG c a b g m e f) 1 f302 (pt 4021 f302) (λj=>sp j 48 0 [(0,.mp 0 0),(2,ai g),(3,zC zA m .no),(5,.mp 1 0),(8,.mp 2 0),(9,zC zA f (.st 0 3)),(13,ai g),(14,ai e)]) ⟨[(0,.cells [ai a]),(1,.cells [ai b.k,ai b.n,zC zA b.sub .no]),(2,.cells [ai 0,ai 0,zC zA ([]:yA) .nl])],3,[0],1,[]⟩ (λr=>yL r.1) (λr=>[.cells [ai r.2]]) 0 [.blk 0,.seq (pt 63 f302)]:=xF (λ_ _ _ _ _ _=>lN) λc ih=>λa b g m e f=>lw λ_=>rB 0 (rC 0 [] kL λr2=>rS (oS 0 (yU xH [r2]))<|rW (λh5=>oP 0 (xY h5 (by simp))) λ_=>lH 1 [] [0,1,2] [1] [0,2,3,5,8,9,13,14] (ih _ _ _ _ _ _))<|rC 0 [0] s8 λ_=>lH 2 [] [0,1,2] [0] [0,5,8,9,11,12] (zSj _ _ _ _ _)
theorem zLn{c a b g m}:Cz (zHi c a b g m) 302 [.cells [ai a]] [.mp 0 0,yL b,ai g,zC zA m .no] (λr=>yL r.1) (λr=>[.cells [ai r.2]]) 0:=fw func302<|fH 0 [(none,9,3)] [0,1,2] [0] [0,2,3,5,8,9,13,14] (zSi _ _ _ _ _ _ _)
def dH:Nat->yA->yA->Int->yA->Int->Option (yA×Int)|0,_,_,_,_,_=>none|f+1,d,e,b,g,a=>if decide (b<(d.length:Int))then zO d b>>=λx2=>zHi f a x2 b e>>=λr4=>yT 40 g [r4.1]>>=λl6=>dH f d e (yJ (b+1)) l6 r4.2 else some (g,a)
def zFi(f:Nat)(c:Int)(d e:yA):Option (yA×Int):=dH f d e 0 [] c
theorem zSh:∀f:Nat,∀d e b g a,Lz (dH f d e b g a) 1 f264 (pt 4021 f264) (λj=>sp j 27 0 [(0,.mp 0 0),(2,zC zA e .no),(7,zC zA g (.st 0 3)),(10,zC zA d .no),(11,ai (d.length:Int)),(12,ai b)]) ⟨[(0,.cells [ai a])],1,[0],1,[]⟩ (λr=>zC zA r.1 (.st 0 3)) (λr=>[.cells [ai r.2]]) 1 [.blk 0,.seq (pt 63 f264)]:=xF (λ_ _ _ _ _=>lN) λf ih=>λd e b g a=>lw λ_=>rB 0 (rA 0 (xA (o:=.no)) λ_=>rC 3 [0] zLn λr4=>rS (oS 0 (yU xH [r4.1]))<|rW (λh7=>oP 0 (xY h7 (by simp))) λ_=>lH 1 [] [0] [1] [0,2,7,10,11,12] (ih _ _ _ _ _))<|lG 0 [] [0] [0] true
theorem zLm{f c d e}:Cz (zFi f c d e) 264 [.cells [ai c]] [.mp 0 0,zC zA d .no,zC zA e .no] (λr=>zC zA r.1 (.st 0 3)) (λr=>[.cells [ai r.2]]) 1:=fw func264<|fH 1 [(none,7,3)] [0] [0] [0,2,7,10,11,12] (zSh _ _ _ _ _ _)
def zOO(c:Nat)(a:Int)(b:Tm):Option (Tm×Int×Int):=if a==0 then qV c b>>=λr2=>if r2 then if a !=0 then some ((Tm.mk 0 0 []),a,a)else some (b,0,a)else some ((Tm.mk 0 0 []),2,2)else if a !=0 then some ((Tm.mk 0 0 []),a,a)else some (b,0,a)
theorem zVJ{c a b}:Cz (zOO c a b) 265 [.cells [ai a]] [.mp 0 0,yL b] (λr=>.tup [yL r.1,ai r.2.1]) (λr=>[.cells [ai r.2.2]]) 0:=fw func265<|rB 1 (rK 1 [] pP (λ_=>rB 2 (fE 2)<|fE 2) λ_=>fE 6)<|rB 1 (fE 2)<|fE 2
def zHh(d:Nat)(b:yB)(a c:Int):Option (Bool):=if decide (a>=0)then if decide (a<(b.length:Int))then zO b a>>=λx3=>some (x3.kind==c)else some false else some false
theorem zSg{d b a c}:Cz (zHh d b a c) 298 [] [zC zP b .no,ai a,ai c] (λr=>ab r) (λ_=>[]) 0:=fw func298<|rB 0 (rB 1 (rA 0 (xN (o:=.no)) λ_=>fE 2)<|fE 0)<|fE 0
def zLl(b:Nat)(a:Int)(c:Tm)(d:Int):Option (Tm×Int):=zEa b c d>>=λr1=>s9 b a r1.1 r1.2>>=λr3=>some (r3.1,r3.2)
theorem zHg{b a c d}:Cz (zLl b a c d) 301 [.cells [ai a]] [.mp 0 0,yL c,ai d] (λr=>yL r.1) (λr=>[.cells [ai r.2]]) 0:=fw func301<|rC 1 [] zNC λ_=>rC 2 [0] zAn λ_=>fE 1
def dJ:Nat->yA->Int->Option (Bool)|0,_,_=>none|b+1,a,c=>if decide (c<(a.length:Int))then zO a c>>=λx2=>qV b x2>>=λr4=>if r4 then dJ b a (yJ (c+1))else some false else some true
def zLk(b:Nat)(a:yA):Option (Bool):=dJ b a 0
theorem zSf:∀b:Nat,∀a c,Lz (dJ b a c) 0 f340 (pt 949 f340) (λj=>sp j 15 0 [(5,zC zA a .no),(6,ai (a.length:Int)),(7,ai c)]) ⟨[],0,[],0,[]⟩ (λr=>ab r) (λ_=>[]) 0 [.blk 0,.seq (pt 15 f340)]:=xF (λ_ _=>lN) λb ih=>λa c=>lw λ_=>rB 0 (rA 0 (xA (o:=.no)) λ_=>rK 3 [] pP (λ_=>lH 2 [] [] [] [5,6,7] (ih _ _)) λ_=>lE 1)<|lE 0
theorem zVK{b a}:Cz (zLk b a) 340 [] [zC zA a .no] (λr=>ab r) (λ_=>[]) 0:=fw func340<|fH 1 [] [] [] [5,6,7] (zSf _ _ _)
def zSe(c:Nat)(a:yA)(b:Tm):Option (Tm×Int):=s6 c a b>>=λr1=>some (r1.1,r1.2)
theorem yAS{c a b}:Cz (zSe c a b) 349 [] [zC zA a .no,yL b] (λr=>.tup [yL r.1,ai r.2]) (λ_=>[]) 0:=fw func349<|rC 1 [] zON λ_=>fE 3
def dK:Nat->yA->tK->Tm->Int->Int->Int->Int->yA->Option (Tm×Int)|0,_,_,_,_,_,_,_,_=>none|f+1,q,e,p,g,a,b,c,d=>if decide (g<(e.at'.length:Int))then zO e.at' g>>=λx6=>zHi f a x6 (e.around.length:Int) q>>=λr8=>kI f (Tm.mk b c d) r8.1>>=λr10=>dK f q e p (yJ (g+1)) r8.2 r10.k r10.n r10.sub else zLl f a p (e.around.length:Int)>>=λr12=>s7 f (e.around.length:Int)>>=λr14=>nM f r12.1 r14>>=λr16=>kI f (Tm.mk b c d) r16>>=λr18=>zFi f r12.2 e.around q>>=λr20=>zSe f r20.1 r18>>=λr22=>s9 f r20.2 r22.1 r22.2>>=λr24=>some (r24.1,r24.2)
def zSd(f:Nat)(m:Int)(s:Tm)(t q:yA)(e:tK)(p:Tm):Option (Tm×Int):=R3 f m t (e.around.length:Int)>>=λr1=>nM f s r1.1>>=λr3=>dK f q e p 0 r1.2 r3.k r3.n r3.sub
theorem zSc:∀f:Nat,∀q e p g a b c d,Lz (dK f q e p g a b c d) 1 f341 (pt 16309 f341) (λj=>sp j 61 0 [(0,.mp 0 0),(3,zC zA q .no),(10,.mp 1 0),(11,.mp 2 0),(12,.mp 3 0),(13,ai (e.around.length:Int)),(14,.mp 4 0),(27,zC zA e.at' .no),(28,ai (e.at'.length:Int)),(29,ai g)]) ⟨[(0,.cells [ai a]),(1,.cells [ab e.is,zC zA e.around .no,zC zA e.at' .no]),(2,.cells [ai p.k,ai p.n,zC zA p.sub .no]),(3,.cells [ai 0,ai 0,zC zA ([]:yA) .nl]),(4,.cells [ai b,ai c,zC zA d .no])],5,[],0,[]⟩ (λr=>yL r.1) (λr=>[.cells [ai r.2]]) 0 [.blk 0,.seq (pt 255 f341)]:=xF (λ_ _ _ _ _ _ _ _=>lN) λf ih=>λq e p g a b c d=>lw λ_=>rB 0 (rA 0 (xA (o:=.no)) λ_=>rC 4 [0] zLn λ_=>rC 0 [] nL λ_=>lH 2 [] [0,1,2,3,4] [] [0,3,10,11,12,13,14,27,28,29] (ih _ _ _ _ _ _ _ _))<|rC 2 [0] zHg λ_=>rC 0 [] aS λ_=>rC 0 [] oI λ_=>rC 0 [] nL λ_=>rC 2 [0] zLm λ_=>rC 1 [] yAS λ_=>rC 2 [0] zAn λ_=>lE 1
theorem zSb{f m s t q e p}:Cz (zSd f m s t q e p) 341 [.cells [ai m]] [.mp 0 0,yL s,zC zA t .no,zC zA q .no,zUL e,yL p] (λr=>yL r.1) (λr=>[.cells [ai r.2]]) 0:=fw func341<|rC 3 [0] s8 λ_=>rC 0 [] oI λ_=>fH 3 [] [0,2,3,4,5] [] [0,3,10,11,12,13,14,27,28,29] (zSc _ _ _ _ _ _ _ _ _)
def xW(l:List Tm):Prop:=∀x∈l,x.Ok
theorem xW.nil:xW []:=λ_ h=>nomatch h
theorem xW.app{l m:List Tm}(h:xW l)(k:xW m):xW (l++m):=λx hx=>(List.mem_append.1 hx).elim (h x) (k x)
theorem xW.one{t:Tm}(h:t.Ok):xW [t]:=λx hx=>by rw[List.mem_singleton.1 hx];exact h
theorem xW.drop{l:List Tm}(h:xW l)(n:Nat):xW (l.drop n):=λx hx=>h x (List.mem_of_mem_drop hx)
theorem xW.take{l:List Tm}(h:xW l)(n:Nat):xW (l.take n):=λx hx=>h x (List.mem_of_mem_take hx)
theorem xW.at{l r:List Tm}{v:Nat}{x:Tm}(h:xW l)(hd:l.drop v=x::r):x.Ok:=h x (by
 have:x∈l.drop v:=by rw[hd];simp
 exact List.mem_of_mem_drop this)
theorem zVL{k n:Int}{a:Tm}(h:a.Ok):(Tm.mk k n [a]).Ok:=by rw[Tm.Ok,mU,mU];exact⟨by simp,h,trivial⟩
theorem rO{k n:Int}{a b:Tm}(h:a.Ok)(i:b.Ok):(Tm.mk k n [a,b]).Ok:=by rw[Tm.Ok,mU,mU,mU];exact⟨by simp,h,i,trivial⟩
theorem zCF{α:Type}{l:List α}{i:Int}(h0:0<=i)(h1:i<l.length):∃x,zO l i=some x/\x∈l:=by
 have:i.toNat<l.length:=by omega
 exact⟨l[i.toNat],by unfold zO;rw[if_pos h0,List.getElem?_eq_getElem this],List.getElem_mem this⟩
theorem dM{α:Type}{l:List α}{a b:Int}(h0:0<=a)(h1:a<=b)(h2:b<=l.length):sN l a b=some ((l.drop a.toNat).take (b-a).toNat):=by unfold sN;rw[if_pos ⟨h0,h1,h2⟩]
def MT(e:Int)(v:Tm)(x:Tm×Int):Prop:=x.1.Ok/\(e≠8->x.2≠8)/\(x.2=0->e=0/\x.1=v)
def ML(e:Int)(v:List Tm)(x:List Tm×Int):Prop:=xW x.1/\(e≠8->x.2≠8)/\(x.2=0->e=0/\x.1=v)
def upI(k:Int)(l:List Tm):List Tm:=l.map λt=>Q9 t 0 0 k
theorem zBn(p1 p2:Int):∀(r l acc:List Tm)(v:Nat),l.drop v=r->l.length<=1073741824->xW l->xW acc->acc.length+r.length<=l.length->zD (λq=>dD q l p1 p2 (v:Int) acc) (λx=>ML 0 (acc++r.map λt=>Q9 t 0 p2 p1) x/\x.1.length<=l.length)
 |[],l,acc,v,hd,hl,ho,ha,hv=>by refine zD.succ ?_;simp only[dD];refine zD.ite (λh=>?_) λ_=>zD.ret ⟨⟨ha,by simp,by simp⟩,by simpa using hv⟩;rw[yE hd]at h;cases h|t::r,l,acc,v,hd,hl,ho,ha,hv=>by
  have hlt:=yK hd;refine zD.succ ?_;simp only[dD];refine zD.ite (λ_=>?_) λh=>?_
  ·refine zD.pure (zY hd) (zD.bind (P:=λr=>r=vU t p1 p2) ((zIR t p1 p2 (ho.at hd)).tot rfl) λr4 h4=>?_);subst h4;refine zD.ite (λh=>?_) λh=>?_
   ·have hne:(vU t p1 p2).2≠0:=by simpa using h
    exact zD.ret ⟨⟨xW.nil,λ_=>t8 t p1 p2,λh0=>absurd h0 hne⟩,by simp⟩
   ·have he:(vU t p1 p2).2=0:=by simpa using h
    rw[List.length_cons]at hv;refine zD.pure (zW (by simp<;>omega)) ?_;rw[zV v (by omega)];refine(zBn p1 p2 r l _ (v+1) (zR hd) hl ho (ha.app (xW.one (gQ t p1 p2 (ho.at hd)))) (by simp<;>omega)).mono λx hx=>?_;rw[(G6 he).2.2.2.2]at hx;simpa using hx
  ·rw[yD hd]at h;cases h
theorem zOP(l:List Tm)(p1 p2:Int)(hl:l.length<=1073741824)(ho:xW l):zD (λq=>zSl q l p1 p2) (λx=>ML 0 (l.map λt=>Q9 t 0 p2 p1) x/\x.1.length<=l.length):=by simp only[zSl];exact zBn p1 p2 l l [] 0 rfl hl ho xW.nil (by simp)
theorem S9(e:Int)(t:Tm)(p:Int):zD (λq=>s9 q e t p) (λx=>x.1=t/\x.2=if e=0 then p else e):=by
 simp only[s9];refine zD.ite (λh=>zD.ret ⟨rfl,?_⟩) λh=>zD.ret ⟨rfl,?_⟩;·rw[if_pos (by simpa using h)]
 ·rw[if_neg (by simpa using h)]
theorem zSa(e:Int)(t:List Tm)(p:Int):zD (λq=>zSm q e t p) (λx=>x.1=t/\x.2=if e=0 then p else e):=by
 simp only[zSm];refine zD.ite (λh=>zD.ret ⟨rfl,?_⟩) λh=>zD.ret ⟨rfl,?_⟩;·rw[if_pos (by simpa using h)]
 ·rw[if_neg (by simpa using h)]
theorem zHf{e:Int}{v:Tm}{r x:Tm×Int}(hr:MT 0 v r)(hx:x.1=r.1/\x.2=if e=0 then r.2 else e):MT e v x:=by
 obtain⟨h1,h2⟩:=hx;refine⟨by rw[h1];exact hr.1,?_,?_⟩
 ·intro he;rw[h2];split;·exact hr.2.1 (by decide)
  ·exact he
 ·intro he;rw[h2]at he;by_cases h:e=0
  ·rw[if_pos h]at he;exact⟨h,by rw[h1];exact(hr.2.2 he).2⟩
  ·rw[if_neg h]at he;exact absurd he h
theorem zVM{e:Int}{v:List Tm}{r x:List Tm×Int}(hr:ML 0 v r)(hx:x.1=r.1/\x.2=if e=0 then r.2 else e):ML e v x:=by
 obtain⟨h1,h2⟩:=hx;refine⟨by rw[h1];exact hr.1,?_,?_⟩
 ·intro he;rw[h2];split;·exact hr.2.1 (by decide)
  ·exact he
 ·intro he;rw[h2]at he;by_cases h:e=0
  ·rw[if_pos h]at he;exact⟨h,by rw[h1];exact(hr.2.2 he).2⟩
  ·rw[if_neg h]at he;exact absurd he h
theorem nP(e:Int)(l:List Tm)(p:Int)(hl:l.length<=1073741824)(ho:xW l):zD (λq=>R3 q e l p) (λx=>ML e (upI p l) x/\x.1.length<=l.length):=by simp only[R3];exact(zOP l p 0 hl ho).bind λr h=>(zSa e r.1 r.2).bind λr3 h3=>zD.ret ⟨zVM h.1 h3,by rw[h3.1];exact h.2⟩
theorem zCG(t:Tm)(k c:Int)(h:t.Ok):MT 0 (Q9 t 0 c k) (vU t k c):=⟨gQ t k c h,λ_=>t8 t k c,λh=>⟨rfl,(G6 h).2.2.2.2⟩⟩
theorem zVN(t:Tm)(ls:List Tm)(h:t.Ok)(ho:xW ls):MT 0 (siT ls t 0) (gR t ls):=⟨E5 t ls h ho,λ_=>zCC t ls,λh=>⟨rfl,(zJu h).2.2.2⟩⟩
theorem zHe(e:Int)(t:Tm)(p:Int)(h:t.Ok):zD (λq=>zLl q e t p) (MT e (Q9 t 0 0 p)):=by simp only[zLl];exact zD.bind (P:=λr=>r=vU t p 0) ((zEB t p h).tot rfl) λr hr=>(S9 e r.1 r.2).bind λr3 h3=>zD.ret (by subst hr;exact zHf (zCG t p 0 h) h3)
def jX:Nat->List Tm|0=>[]|m+1=>.mk 1 (m:Int) []::jX m
def vuT:Nat->Nat->List Tm|0,_=>[]|m+1,v=>.mk 1 (v:Int) []::vuT m (v+1)
theorem pD:∀m,xW (jX m)
 |0=>xW.nil|m+1=>λx hx=>by
  rcases List.mem_cons.1 hx with rfl|hx;·exact yZ _ _
  ·exact pD m x hx
theorem uC:∀m,(jX m).length=m|0=>rfl|m+1=>congrArg (·+1) (uC m)
theorem zFh:∀(m:Nat)(acc:List Tm),m+acc.length<=1048576->zB (λq=>dB q acc ((m:Int)-1)) (acc++jX m)|0,acc,hm=>by refine zB.succ ?_;simp only[dB];exact zB.ifF (decide_eq_false (by omega)) (zB.ret.eq (by simp[jX]))|m+1,acc,hm=>by refine zB.succ ?_;simp only[dB];refine zB.ifT (decide_eq_true (by omega)) ((sU _).bind (zB.pure (zW (by simp<;>omega)) ?_));rw[zS (by omega) (by omega),show((m+1:Nat):Int)-1-1=(m:Int)-1 by omega];refine(zFh m _ (by simp<;>omega)).eq ?_;rw[jX,show((m+1:Nat):Int)-1=(m:Int)by omega];simp
theorem lI(n:Nat)(hn:n<=1048576):zB (λq=>s7 q (n:Int)) (jX n):=by simp only[s7];refine zB.ifF (decide_eq_false (by omega)) (zB.ifF (decide_eq_false (by omega)) ?_);rw[zS (by omega) (by omega)];exact(zFh n [] (by simpa using hn)).eq (by simp)
def zOQ(t:Tm)(own:Nat)(outer:List Tm):Tm:=siT (vuT own 0++(upI own outer).reverse) t 0
def P3(outer:List Tm):List Tm->Nat->List Tm|[],_=>[]|t::r,v=>zOQ t v outer::P3 outer r (v+1)
theorem zFg(p1:Tm)(r6:List Tm×Int)(h1:p1.Ok)(h6:xW r6.1):∀(m:Nat)(acc:List Tm),m<=r6.1.length->m+acc.length<=4294967296->xW acc->zD (λq=>dF q p1 r6 ((m:Int)-1) acc) (MT r6.2 (siT (acc++(r6.1.take m).reverse) p1 0))
 |0,acc,hm,hl,ho=>by
  refine zD.succ ?_;simp only[dF];refine zD.ite (λh=>?_) λ_=>?_;·have:=of_decide_eq_true h;omega
  ·refine zD.bind (P:=λr=>r=gR p1 acc) ((S6 p1 acc h1 ho (by omega)).tot rfl) λr h=>(S9 _ r.1 r.2).bind λx hx=>zD.ret ?_;subst h;have:=zHf (zVN p1 acc h1 ho) hx;simpa using this|m+1,acc,hm,hl,ho=>by
  refine zD.succ ?_;simp only[dF];refine zD.ite (λ_=>?_) λh=>?_
  ·have hlt:m<r6.1.length:=by omega
   have hx:zO r6.1 (((m+1:Nat):Int)-1)=some r6.1[m]:=by unfold zO;rw[if_pos (by omega),show(((m+1:Nat):Int)-1).toNat=m by omega,List.getElem?_eq_getElem hlt]
   refine zD.pure hx (zD.pure (zW (by simp<;>omega)) ?_);rw[zS (by omega) (by omega),show((m+1:Nat):Int)-1-1=(m:Int)-1 by omega];refine(zFg p1 r6 h1 h6 m _ (by omega) (by simp<;>omega) (ho.app (xW.one (h6 _ (List.getElem_mem hlt))))).mono λx hx=>?_;have e:r6.1.take (m+1)=r6.1.take m++[r6.1[m]]:=by rw[List.take_add_one,List.getElem?_eq_getElem hlt];rfl
   rw[e,List.reverse_append];simpa using hx
  ·have:=of_decide_eq_false h;omega
theorem zOR(e:Int)(p1:Tm)(own:Nat)(p3:List Tm)(h1:p1.Ok)(h2:own<=1073741824)(h3:xW p3)(hl:p3.length<=1073741824):∀(m v:Nat)(acc:List Tm),v+m=own->acc.length<=v->xW acc->zD (λq=>dG q e p1 (own:Int) p3 (v:Int) acc) (MT e (siT (acc++vuT m v++(upI own p3).reverse) p1 0)):=by intro m;induction m with
 |zero=>
  intro v acc hm ha ho;refine zD.succ ?_;simp only[dG];refine zD.ite (λh=>?_) λ_=>(nP e p3 own hl h3).bind λr6 h6=>?_;·have:=of_decide_eq_true h;omega
  ·rw[zS (by omega) (by omega)];refine(zFg p1 r6 h1 h6.1.1 r6.1.length acc (Nat.le_refl _) (by omega) ho).mono λx hx=>⟨hx.1,λhe=>hx.2.1 (h6.1.2.1 he),λhe=>?_⟩;have k:=hx.2.2 he;have k6:=h6.1.2.2 k.1;refine⟨k6.1,?_⟩;rw[k.2,List.take_length,k6.2,vuT];simp|succ m ih=>
  intro v acc hm ha ho;refine zD.succ ?_;simp only[dG];refine zD.ite (λ_=>?_) λh=>?_
  ·refine zD.bind (P:=λr=>r=Tm.mk 1 (v:Int) []) ((sU v).tot rfl) λr h=>zD.pure (zW (by simp<;>omega)) ?_;subst h;rw[zV v (by omega)];refine(ih (v+1) _ (by omega) (by simp<;>omega) (ho.app (xW.one (yZ _ _)))).mono λx hx=>?_;rw[vuT];simpa using hx
  ·have:=of_decide_eq_false h;omega
theorem lJ(e:Int)(p1:Tm)(own:Nat)(p3:List Tm)(h1:p1.Ok)(h2:own<=1073741824)(h3:xW p3)(hl:p3.length<=1073741824):zD (λq=>zHi q e p1 (own:Int) p3) (MT e (zOQ p1 own p3)):=by simp only[zHi];exact zOR e p1 own p3 h1 h2 h3 hl own 0 [] (by omega) (by simp) xW.nil
theorem bR(p2:List Tm)(h2:xW p2)(hl2:p2.length<=1073741824):∀(r l acc:List Tm)(v:Nat)(e:Int),l.drop v=r->l.length<=1073741824->xW l->xW acc->acc.length<=v->zD (λq=>dH q l p2 (v:Int) acc e) (λx=>xW x.1/\x.1.length=acc.length+r.length/\(e≠8->x.2≠8)/\(x.2=0->e=0/\x.1=acc++P3 p2 r v))
 |[],l,acc,v,e,hd,hl,ho,ha,hv=>by refine zD.succ ?_;simp only[dH];refine zD.ite (λh=>?_) λ_=>zD.ret ⟨ha,by simp,id,λh=>⟨h,by simp[P3]⟩⟩;rw[yE hd]at h;cases h|t::r,l,acc,v,e,hd,hl,ho,ha,hv=>by
  have hlt:=yK hd;refine zD.succ ?_;simp only[dH];refine zD.ite (λ_=>?_) λh=>?_
  ·refine zD.pure (zY hd) ((lJ e t v p2 (ho.at hd) (by omega) h2 hl2).bind λr4 h4=>?_);refine zD.pure (zW (by simp<;>omega)) ?_;rw[zV v (by omega)];refine(bR p2 h2 hl2 r l _ (v+1) r4.2 (zR hd) hl ho (ha.app (xW.one h4.1)) (by simp<;>omega)).mono λx hx=>?_;obtain⟨a1,a2,a3,a4⟩:=hx;refine⟨a1,by rw[a2];simp<;>omega,λhe=>a3 (h4.2.1 he),λhe=>?_⟩;have k:=a4 he;have k4:=h4.2.2 k.1;refine⟨k4.1,?_⟩;rw[k.2,k4.2,P3];simp
  ·rw[yD hd]at h;cases h
theorem pE(e:Int)(l p2:List Tm)(h2:xW p2)(hl2:p2.length<=1073741824)(hl:l.length<=1073741824)(ho:xW l):zD (λq=>zFi q e l p2) (λx=>ML e (P3 p2 l 0) x/\x.1.length=l.length):=by simp only[zFi];refine(bR p2 h2 hl2 l l [] 0 e rfl hl ho xW.nil (by simp)).mono λx hx=>?_;obtain⟨a1,a2,a3,a4⟩:=hx;exact⟨⟨a1,a3,λhe=>by simpa using a4 he⟩,by simpa using a2⟩
def zCH(l:List Tm)(t:Tm):Tm:=l.foldr (λa x=>.mk 4 0 [a,x]) t
theorem zOS(l:List Tm)(hl:l.length<=24)(ho:xW l):∀(m v:Nat)(t:Tm),v+m=l.length->t.Ok->zD (λq=>qA q l (v:Int) t.k t.n t.sub) (MT 0 (zCH (l.take m) t)):=by intro m;induction m with
 |zero=>
  intro v t hm ht;refine zD.succ ?_;simp only[qA,vF];refine zD.ite (λh=>?_) λ_=>?_;·have:=of_decide_eq_true h;omega
  ·refine zD.bind (P:=λb=>b=zJ t) ((xR t ht).tot rfl) λr hr=>zD.ite (λh=>?_) λ_=>zD.ret ⟨yZ 0 0,by simp,by simp⟩;refine zD.bind (P:=λx=>x=kJ t) ((nN t ht).tot rfl) λx hx=>zD.ret ?_;subst hx;have e:kJ t=t:=by unfold kJ;rw[if_pos (by rw[<-hr];exact h)]
   rw[e];exact⟨ht,by simp,λ_=>⟨rfl,by simp[zCH]⟩⟩|succ m ih=>
  intro v t hm ht;refine zD.succ ?_;simp only[qA,vF];refine zD.ite (λ_=>?_) λh=>?_
  ·have hlt:m<l.length:=by omega
   rw[zS (x:=(l.length:Int)-1) (by omega) (by omega),zS (x:=(l.length:Int)-1-v) (by omega) (by omega)];have hx:zO l ((l.length:Int)-1-v)=some l[m]:=by unfold zO;rw[if_pos (by omega),show((l.length:Int)-1-v).toNat=m by omega,List.getElem?_eq_getElem hlt]
   refine zD.pure hx (zD.bind (P:=λr=>r=Tm.mk 4 0 [l[m],t]) (zB.tot (zB.mk λ_=>rfl) rfl) λr hr=>?_);subst hr;rw[zV v (by omega)];refine(ih (v+1) _ (by omega) (rO (ho _ (List.getElem_mem hlt)) ht)).mono λx hx=>?_;have e:l.take (m+1)=l.take m++[l[m]]:=by rw[List.take_add_one,List.getElem?_eq_getElem hlt];rfl
   rw[e];unfold zCH at hx⊢;rw[List.foldr_append];exact hx
  ·have:=of_decide_eq_false h;omega
theorem zJt(t:Tm)(ht:t.Ok):∀(r l:List Tm)(v:Nat),l.drop v=r->l.length<=24->xW l->zD (λq=>qC q l t (v:Int)) (MT 0 (zCH l t))
 |[],l,v,hd,hl,ho=>by
  refine zD.succ ?_;simp only[qC];refine zD.ite (λh=>?_) λ_=>?_;·rw[yE hd]at h;cases h
  ·refine zD.bind (P:=λ_=>True) ((xR t ht).tot trivial) λr _=>zD.ite (λ_=>?_) λ_=>zD.ret ⟨yZ 0 0,by simp,by simp⟩;have:=zOS l hl ho l.length 0 t (by omega) ht;rwa[List.take_length]at this|x::r,l,v,hd,hl,ho=>by
  have hlt:=yK hd;refine zD.succ ?_;simp only[qC];refine zD.ite (λ_=>?_) λh=>?_
  ·refine zD.pure (zY hd) (zD.bind (P:=λ_=>True) ((xR x (ho.at hd)).tot trivial) λ_ _=>zD.ite (λ_=>?_) λ_=>zD.ret ⟨yZ 0 0,by simp,by simp⟩);rw[zV v (by omega)];exact zJt t ht r l (v+1) (zR hd) hl ho
  ·rw[yD hd]at h;cases h
theorem zOT(l:List Tm)(t:Tm)(ho:xW l)(ht:t.Ok):zD (λq=>zSe q l t) (MT 0 (zCH l t)):=by simp only[zSe];refine zD.bind (P:=MT 0 (zCH l t)) ?_ λx hx=>zD.ret hx;simp only[s6];refine zD.ite (λ_=>zD.ret ⟨yZ 0 0,by simp,by simp⟩) λh=>?_;have:=of_decide_eq_false h;exact zJt t ht l l 0 rfl (by omega) ho
def G9(r:tK):Prop:=xW r.around/\xW r.at'/\r.around.length<=1048576/\r.at'.length<=1048576
def zVO(head:Tm)(args outer:List Tm)(r:tK)(a:Tm):Tm:=zCH (P3 outer r.around 0) (.mk 5 0 [tJ (tJ head (upI r.around.length args)) (r.at'.map λt=>zOQ t r.around.length outer),tJ (Q9 a 0 0 r.around.length) (jX r.around.length)])
theorem zFf(p3:List Tm)(p4:tK)(p5:Tm)(h3:xW p3)(hl3:p3.length<=1073741824)(h4:G9 p4)(h5:p5.Ok):∀(r:List Tm)(v:Nat)(e:Int)(t:Tm),p4.at'.drop v=r->t.Ok->zD (λq=>dK q p3 p4 p5 (v:Int) e t.k t.n t.sub) (MT e (zCH (P3 p3 p4.around 0) (.mk 5 0 [tJ t (r.map λt=>zOQ t p4.around.length p3),tJ (Q9 p5 0 0 p4.around.length) (jX p4.around.length)])))
 |[],v,e,t,hd,ht=>by
  refine zD.succ ?_;simp only[dK,vF];refine zD.ite (λh=>?_) λ_=>?_;·rw[yE hd]at h;cases h
  ·have:=h4.2.2.1;refine(zHe e p5 _ h5).bind λr12 h12=>zD.bind (P:=λx=>x=jX p4.around.length) ((lI _ this).tot rfl) λr14 h14=>?_;subst h14;refine zD.bind (P:=λx=>x=tJ r12.1 (jX p4.around.length)) ((vD r12.1 _ (by rw[uC];omega)).tot rfl) λr16 h16=>?_;subst h16;refine zD.bind (P:=λx=>x=Tm.mk 5 0 [t,tJ r12.1 (jX p4.around.length)]) ((qY t _).tot rfl) λr18 h18=>?_;subst h18;refine(pE r12.2 p4.around p3 h3 hl3 (by omega) h4.1).bind λr20 h20=>(zOT r20.1 _ h20.1.1 (rO ht (uH _ _ h12.1 (pD _)))).bind λr22 h22=>(S9 r20.2 r22.1 r22.2).bind λr24 h24=>zD.ret ?_;have m:=zHf h22 h24;refine⟨m.1,λhe=>m.2.1 (h20.1.2.1 (h12.2.1 he)),λhe=>?_⟩;have k:=m.2.2 he;have k20:=h20.1.2.2 k.1;have k12:=h12.2.2 k20.1;refine⟨k12.1,?_⟩;rw[k.2,k20.2,k12.2];rfl|x::r,v,e,t,hd,ht=>by
  have hlt:=yK hd;have:=h4.2.2.1;have:=h4.2.2.2;refine zD.succ ?_;simp only[dK,vF];refine zD.ite (λ_=>?_) λh=>?_
  ·refine zD.pure (zY hd) ((lJ e x _ p3 (h4.2.1.at hd) (by omega) h3 hl3).bind λr8 h8=>?_);refine zD.bind (P:=λx=>x=Tm.mk 5 0 [t,r8.1]) ((qY t r8.1).tot rfl) λr10 h10=>?_;subst h10;rw[zV v (by omega)];refine(zFf p3 p4 p5 h3 hl3 h4 h5 r (v+1) r8.2 (.mk 5 0 [t,r8.1]) (zR hd) (rO ht h8.1)).mono λy hy=>⟨hy.1,λhe=>hy.2.1 (h8.2.1 he),λhe=>?_⟩;have k:=hy.2.2 he;have k8:=h8.2.2 k.1;refine⟨k8.1,?_⟩;rw[k.2,k8.2,List.map_cons,tJ]
  ·rw[yD hd]at h;cases h
theorem p7(e:Int)(p1:Tm)(p2 p3:List Tm)(p4:tK)(p5:Tm)(h1:p1.Ok)(h2:xW p2)(hl2:p2.length<=1073741824)(h3:xW p3)(hl3:p3.length<=1073741824)(h4:G9 p4)(h5:p5.Ok):zD (λq=>zSd q e p1 p2 p3 p4 p5) (MT e (zVO p1 p2 p3 p4 p5)):=by simp only[zSd];refine(nP e p2 _ hl2 h2).bind λr1 hr1=>?_;refine zD.bind (P:=λx=>x=tJ p1 r1.1) ((vD p1 r1.1 (by omega)).tot rfl) λr3 hr3=>?_;subst hr3;refine(zFf p3 p4 p5 h3 hl3 h4 h5 p4.at' 0 r1.2 (tJ p1 r1.1) rfl (uH _ _ h1 hr1.1.1)).mono λy hy=>⟨hy.1,λhe=>hy.2.1 (hr1.1.2.1 he),λhe=>?_⟩;have k:=hy.2.2 he;have k1:=hr1.1.2.2 k.1;refine⟨k1.1,?_⟩;rw[k.2,k1.2];rfl
theorem zFe(e:Int)(t:Tm)(h:t.Ok):zD (λq=>zOO q e t) (λx=>x.1.Ok/\(e≠8->x.2.1≠8)/\(x.2.1=0->e=0/\x.1=t/\zJ t=true)):=by
 simp only[zOO];refine zD.ite (λhe=>?_) λhe=>?_
 ·have he':e=0:=by simpa using he
  refine zD.bind (P:=λb=>b=zJ t) ((xR t h).tot rfl) λb hb=>zD.ite (λhs=>?_) λ_=>zD.ret ⟨yZ 0 0,by simp,by simp⟩;refine zD.ite (λh2=>absurd he' (by simpa using h2)) λ_=>zD.ret ⟨h,by simp,λ_=>⟨he',rfl,by rw[<-hb];exact hs⟩⟩
 ·have he':e≠0:=by simpa using he
  exact zD.ite (λ_=>zD.ret ⟨yZ 0 0,id,λh0=>absurd h0 he'⟩) λh2=>absurd (by simpa using h2) he'
theorem zCI(l:List zX)(n kind:Int):zB (λq=>zHh q l n kind) (kY l n kind):=by
 simp only[zHh];unfold kY;by_cases h:0<=n
 ·refine zB.ifT (decide_eq_true h) ?_;by_cases k:n<l.length;·exact zB.ifT (decide_eq_true k) (zB.pure (yO h k) (zB.ret.eq (by simp[h,k])))
  ·exact zB.ifF (decide_eq_false k) (zB.ret.eq (by simp[k]))
 ·exact zB.ifF (decide_eq_false h) (zB.ret.eq (by simp[h]))
theorem P4:∀(r l:List Tm)(v:Nat),l.drop v=r->l.length<=1073741824->xW l->zB (λq=>dJ q l (v:Int)) (r.all zJ)
 |[],l,v,hd,hl,ho=>by refine zB.succ ?_;simp only[dJ];exact zB.ifF (yE hd) zB.ret|x::r,l,v,hd,hl,ho=>by
  have hlt:=yK hd;refine zB.succ ?_;simp only[dJ];refine zB.ifT (yD hd) (zB.pure (zY hd) ((xR x (ho.at hd)).bind ?_));by_cases h:zJ x=true
  ·refine zB.ifT h ?_;rw[zV v (by omega)];exact(P4 r l (v+1) (zR hd) hl ho).eq (by simp[h])
  ·exact zB.ifF (by simpa using h) (zB.ret.eq (by simp[h]))
theorem aT(l:List Tm)(hl:l.length<=1073741824)(ho:xW l):zB (λq=>zLk q l) (l.all zJ):=by simp only[zLk];exact P4 l l 0 rfl hl ho
def zHd(c:Nat)(rl:yB)(parts:sI)(b:Int)(a:yA):Option (Tm×Int):=zHh c rl b 4>>=λr1=>if r1 then zO rl b>>=λx4=>zO rl x4.fam>>=λx6=>if(a.length:Int)!=(x6.fields.length:Int)then some ((Tm.mk 0 0 []),5)else zLk c a>>=λr9=>if r9 then zO a x4.place>>=λx12=>some (x12,0)else some ((Tm.mk 0 0 []),5)else some ((Tm.mk 0 0 []),16)
theorem yAT{c rl parts b a}:Cz (zHd c rl parts b a) 325 [qR rl parts] [.mp 0 0,ai b,zC zA a .no] (λr=>.tup [yL r.1,ai r.2]) (λ_=>[qR rl parts]) 0:=fw func325<|rK 2 [] zSg (λ_=>rH λ_ h5=>rS (oA 2 (xN (o:=.no) h5))<|rA 1 (xN (o:=.no)) λ_=>rB 2 (fE 1)<|rK 0 [] zVK (λ_=>rS (oA 1 (xN (o:=.no) h5))<|rA 1 (xA (o:=.no)) λ_=>fE 2) λ_=>fE 2) λ_=>fE 2
def zYa(a:Nat)(b c:Int):Option (Tm):=Q8 a c>>=λr1=>zEc a 7 b [r1]>>=λr3=>some r3
theorem zSA{a b c}:Cz (zYa a b c) 342 [] [ai b,ai c] (λr=>yL r) (λ_=>[]) 0:=fw func342<|rC 0 [] zCj λr1=>rS (oS 0 (yU xH [r1]))<|rC 0 [] zGQ λ_=>fE 1
def jY:Nat->yB->sI->Int->Int->yA->yA->uK->Int->Int->Int->Int->yA->Option (Tm×Int)|0,_,_,_,_,_,_,_,_,_,_,_,_=>none|f+1,rl,parts,g,q,m,p,x12,a,b,c,d,e=>if decide (a<(x12.recs.length:Int))then zO x12.recs a>>=λx29=>if x29.is then zO rl g>>=λx32=>sN m 0 x32.pars>>=λx34=>yT 40 ([]:yA) x34>>=λl36=>sN p 0 a>>=λx39=>yT 40 l36 x39>>=λl41=>zYa f g q>>=λr44=>zO p a>>=λx46=>zSd f b r44 m l41 x29 x46>>=λr48=>kI f (Tm.mk c d e) r48.1>>=λr50=>jY f rl parts g q m p x12 (yJ (a+1)) r48.2 r50.k r50.n r50.sub else jY f rl parts g q m p x12 (yJ (a+1)) b c d e else zOO f b (Tm.mk c d e)>>=λr52=>some (r52.1,r52.2.1)
def zHc(f:Nat)(rl:yB)(parts:sI)(g q s:Int)(m p:yA):Option (Tm×Int):=zHh f rl g 1>>=λr1=>if r1 then if decide (q<0)then some ((Tm.mk 0 0 []),16)else if decide (q>7)then some ((Tm.mk 0 0 []),16)else zHh f rl s 2>>=λr6=>if r6 then zO rl s>>=λx9=>if x9.fam !=g then some ((Tm.mk 0 0 []),16)else zO parts s>>=λx12=>zO rl g>>=λx14=>if(m.length:Int)!=(yJ ((yJ (x14.pars+1))+(x14.cons.length:Int)))then some ((Tm.mk 0 0 []),5)else if(p.length:Int)!=(x12.args.length:Int)then some ((Tm.mk 0 0 []),5)else zLk f m>>=λr18=>if r18 then zLk f p>>=λr21=>if r21 then zO m (yJ ((yJ (x14.pars+1))+x9.place))>>=λx24=>nM f x24 p>>=λr26=>jY f rl parts g q m p x12 0 0 r26.k r26.n r26.sub else some ((Tm.mk 0 0 []),5)else some ((Tm.mk 0 0 []),5)else some ((Tm.mk 0 0 []),16)else some ((Tm.mk 0 0 []),16)
theorem zSB:∀f:Nat,∀rl parts g q m p x12 a b c d e,Lz (jY f rl parts g q m p x12 a b c d e) 1 f326 (pt 16777141 f326) (λj=>sp j 160 0 [(1,ai g),(2,ai q),(4,zC zA m .no),(5,zC zA p .no),(12,.mp 1 0),(14,zC zP rl .no),(16,.mp 2 0),(17,.mp 3 0),(118,zC iS x12.recs .no),(119,ai (x12.recs.length:Int)),(120,ai a)]) ⟨[(0,qR rl parts),(1,.cells [ai 0,ai 0,zC zA ([]:yA) .nl]),(2,.cells [ai b]),(3,.cells [ai c,ai d,zC zA e .no])],4,[],0,[]⟩ (λr=>.tup [yL r.1,ai r.2]) (λ_=>[qR rl parts]) 0 [.blk 0,.seq (pt 262143 f326)]:=xF (λ_ _ _ _ _ _ _ _ _ _ _ _=>lN) λf ih=>λrl parts g q m p x12 a b c d e=>lw λ_=>rB 0 (rA 0 (zUt (o:=.no)) λ_=>rB 2 (rA 1 (xN (o:=.no)) λ_=>rA 1 rM λx34=>rH λ_ h37=>rZ (List.length x34=0) (λh38=>rS (oP 0 (qT h37 h38))<|rA 0 rM λx39=>rH λ_ h42=>rZ (List.length x39=0) (λh43=>rS (oP 0 (qT h42 h43))<|rC 1 [] zSA λ_=>rA 1 (xA (o:=.no)) λ_=>rC 1 [2] zSb λ_=>rC 0 [] nL λ_=>lH 2 [] [0,1,2,3] [] [1,2,4,5,12,14,16,17,118,119,120] (ih _ _ _ _ _ _ _ _ _ _ _ _)) λh43=>rS (oP 0 (xY h42 h43))<|rC 1 [] zSA λ_=>rA 1 (xA (o:=.no)) λ_=>rC 1 [2] zSb λ_=>rC 0 [] nL λ_=>lH 2 [] [0,1,2,3] [] [1,2,4,5,12,14,16,17,118,119,120] (ih _ _ _ _ _ _ _ _ _ _ _ _)) λh38=>rS (oP 0 (xY h37 h38))<|rA 0 rM λx39=>rH λ_ h42=>rZ (List.length x39=0) (λh43=>rS (oP 0 (qT h42 h43))<|rC 1 [] zSA λ_=>rA 1 (xA (o:=.no)) λ_=>rC 1 [2] zSb λ_=>rC 0 [] nL λ_=>lH 2 [] [0,1,2,3] [] [1,2,4,5,12,14,16,17,118,119,120] (ih _ _ _ _ _ _ _ _ _ _ _ _)) λh43=>rS (oP 0 (xY h42 h43))<|rC 1 [] zSA λ_=>rA 1 (xA (o:=.no)) λ_=>rC 1 [2] zSb λ_=>rC 0 [] nL λ_=>lH 2 [] [0,1,2,3] [] [1,2,4,5,12,14,16,17,118,119,120] (ih _ _ _ _ _ _ _ _ _ _ _ _))<|lH 1 [] [0,1,2,3] [] [1,2,4,5,12,14,16,17,118,119,120] (ih _ _ _ _ _ _ _ _ _ _ _ _))<|rC 1 [2] zVJ λ_=>lE 3
theorem yAU{f rl parts g q s m p}:Cz (zHc f rl parts g q s m p) 326 [qR rl parts] [.mp 0 0,ai g,ai q,ai s,zC zA m .no,zC zA p .no] (λr=>.tup [yL r.1,ai r.2]) (λ_=>[qR rl parts]) 0:=fw func326<|rK 2 [] zSg (λ_=>rB 1 (fE 1)<|rB 0 (fE 1)<|rK 0 [] zSg (λ_=>rH λ_ h10=>rS (oA 1 (xN (o:=.no) h10))<|rB 1 (fE 1)<|rA 1 (zXI (o:=.no)) λ_=>rH λ_ h15=>rS (oA 3 (xN (o:=.no) h15))<|rS (oA 2 (xN (o:=.no) h15))<|rB 3 (fE 1)<|rB 3 (fE 1)<|rK 0 [] zVK (λ_=>rK 1 [] zVK (λ_=>rS (oA 1 (xN (o:=.no) h15))<|rS (oA 2 (xN (o:=.no) h10))<|rA 2 (xA (o:=.no)) λ_=>rC 1 [] oI λ_=>fH 3 [] [0,1,3,4] [] [1,2,4,5,12,14,16,17,118,119,120] (zSB _ _ _ _ _ _ _ _ _ _ _ _ _)) λ_=>fE 2) λ_=>fE 2) λ_=>fE 2) λ_=>fE 2
theorem zSC(l:List zX)(i:Int)(h0:0<=i)(h1:i<l.length)(hk:(zN l i).kind=2):zO (mJ l l.length 0) i=some (vL l i):=by unfold zO;rw[if_pos h0,zJv l l.length 0 i.toNat (by omega),show((0+i.toNat:Nat):Int)=i by omega,if_pos hk]
theorem zVP(l:List zX)(t:Tm)(of b:Int):G9 (zFo l t of b):=by
 unfold zFo;split
 ·rename_i h;have hw:=rV (t:=t) (l:=(yY t).1) (y:=(yY t).2.1) (by rw[<-h.1]);have hs:=zK hw.2.2.2.2.1;have hal:=sT _ hs.2.2;refine⟨λx hx=>yQ (hw.2.2.2.2.2 x hx),λx hx=>yQ (xS hw.2.2.2.2.1 (List.mem_of_mem_drop hx)),?_,?_⟩;·show(yY t).1.length<=_;omega
  ·show((yW (yY t).2.1).drop _).length<=_;rw[List.length_drop];omega
 ·exact⟨xW.nil,xW.nil,by simp,by simp⟩
theorem zCJ(l:List zX)(of:Int):∀(r:List Tm)(b:Int),∀x∈G3 l of r b,G9 x
 |[],_,x,h=>nomatch h|a::r,b,x,h=>by
  rcases List.mem_cons.1 h with h|h;·rw[h];exact zVP l a of b
  ·exact zCJ l of r (b+1) x h
def zCK(l:List zX)(i:Int)(a:List Tm)(x:Tm×Int):Prop:=x.1.Ok/\x.2≠8/\(x.2=0->(a.length:Int)=(zN l (zN l i).fam).fields.length/\0<=(zN l i).place/\(zN l i).place<a.length/\x.1=vO a (zN l i).place)
theorem zLj{N:ByteArray->Bool}(l:List zX)(parts:List uK)(i:Int)(a:List Tm)(hE:wP N l)(ho:xW a)(hl:a.length<=1073741824):zD (λq=>zHd q l parts i a) (zCK l i a):=by
 simp only[zHd];have bad:∀e:Int,e≠8->e≠0->zCK l i a (.mk 0 0 [],e):=λe h8 h0=>⟨yZ 0 0,h8,λh=>absurd h h0⟩;refine zD.bind (P:=λb=>b=kY l i 4) ((zCI l i 4).tot rfl) λb hb=>zD.ite (λhT=>?_) λ_=>zD.ret (bad _ (by decide) (by decide));rw[hT]at hb;have hi:=wJ hb.symm;have hp:=(xB (hE.2 i hi.1 hi.2.1)).2.2.2.1 hi.2.2;unfold bP at hp;simp only[Bool.and_eq_true]at hp;have hw:=vV hp.1;have h6:=hw.2.2.2.2.2;unfold K7 at h6;rw[if_pos hi.2.2]at h6;refine zD.pure (yO hi.1 hi.2.1) (zD.pure (yO hw.1 (by omega)) (zD.ite (λ_=>zD.ret (bad _ (by decide) (by decide))) λhn=>?_));have hn':(a.length:Int)=(zN l (zN l i).fam).fields.length:=by simpa using hn
 refine zD.bind (P:=λ_=>True) ((aT a hl ho).tot trivial) λ_ _=>zD.ite (λ_=>?_) λ_=>zD.ret (bad _ (by decide) (by decide));have h7:(zN l i).place<a.length:=by omega
 have hx:=uB (l:=a) hw.2.2.2.2.1 h7;exact zD.pure hx (zD.ret ⟨ho _ (sK hw.2.2.2.2.1 h7),by simp,λ_=>⟨hn',hw.2.2.2.2.1,h7,rfl⟩⟩)
def aU(d lev:Int)(args own:List Tm)(pars:Nat):List tK->Nat->Tm->Tm|[],_,t=>t|r::rs,v,t=>aU d lev args own pars rs (v+1) (if r.is=true then .mk 5 0 [t,zVO (.mk 7 d [.mk 2 lev []]) args (args.take pars++own.take v) r (vO own v)]else t)
def zOU(l:List zX)(d lev c:Int)(args own:List Tm):Tm:=aU d lev args own (zN l d).pars.toNat (vL l c).recs 0 (tJ (vO args ((zN l d).pars+1+(zN l c).place)) own)
theorem zLi{N:ByteArray->Bool}(l:List zX)(parts:List uK)(i p2:Int)(p4 p5:List Tm)(x:uK)(hE:wP N l)(h0:0<=i)(h1:i<l.length)(hk:(zN l i).kind=1)(hp:(zN l i).pars<=p4.length)(hl4:p4.length<=65535)(h5:p5.length=x.recs.length)(hl5:p5.length<=65535)(ho4:xW p4)(ho5:xW p5)(hx:∀r∈x.recs,G9 r):∀(r:List tK)(v:Nat)(e:Int)(t:Tm),x.recs.drop v=r->t.Ok->zD (λq=>jY q l parts i p2 p4 p5 x (v:Int) e t.k t.n t.sub) (λy=>y.1.Ok/\(e≠8->y.2≠8)/\(y.2=0->e=0/\y.1=aU i p2 p4 p5 (zN l i).pars.toNat r v t/\zJ y.1=true)):=by have hf:=wB ((xB (hE.2 i h0 h1)).2.1 hk);intro r;induction r with
 |nil=>
  intro v e t hd ht;refine zD.succ ?_;simp only[jY,vF];refine zD.ite (λh=>?_) λ_=>(zFe e t ht).bind λr h=>zD.ret ⟨h.1,h.2.1,λh0=>?_⟩;·rw[yE hd]at h;cases h
  ·have k:=h.2.2 h0;exact⟨k.1,k.2.1,by show zJ r.1=true;rw[k.2.1];exact k.2.2⟩|cons z r ih=>
  intro v e t hd ht;have hlt:=yK hd;have hz:z∈x.recs:=by
   have:z∈x.recs.drop v:=by rw[hd];simp
   exact List.mem_of_mem_drop this
  refine zD.succ ?_;simp only[jY,vF];refine zD.ite (λ_=>?_) λh=>?_
  ·refine zD.pure (zY hd) (zD.ite (λhzi=>?_) λhzi=>?_)
   ·refine zD.pure (yO h0 h1) (zD.pure (dM (by omega) (by omega) hp) (zD.pure (zW (by simp<;>omega)) (zD.pure (dM (by omega) (by omega) (by omega)) (zD.pure (zW (by simp<;>omega)) ?_))));refine zD.bind (P:=λy=>y=Tm.mk 7 i [Tm.mk 2 p2 []]) (zB.tot (r:=Tm.mk 7 i [Tm.mk 2 p2 []]) (zB.mk λ_=>rfl) rfl) λr44 h44=>?_;subst h44;have hnv:(v:Int)<p5.length:=by omega
    refine zD.pure (uB (l:=p5) (n:=(v:Int)) (by omega) hnv) ?_;refine(p7 e (.mk 7 i [.mk 2 p2 []]) p4 _ z (vO p5 v) (zVL (yZ _ _)) ho4 (by omega) ?_ ?_ (hx z hz) (ho5 _ (sK (by omega) hnv))).bind λr48 h48=>?_;·exact(xW.nil.app ((ho4.drop _).take _)).app ((ho5.drop _).take _)
    ·simp only[List.length_append,List.length_take,List.length_drop,List.length_nil];omega
    refine zD.bind (P:=λy=>y=Tm.mk 5 0 [t,r48.1]) ((qY t r48.1).tot rfl) λr50 h50=>?_;subst h50;rw[zV v (by omega)];refine(ih (v+1) r48.2 (.mk 5 0 [t,r48.1]) (zR hd) (rO ht h48.1)).mono λy hy=>⟨hy.1,λhe=>hy.2.1 (h48.2.1 he),λhe=>?_⟩;have k:=hy.2.2 he;have k4:=h48.2.2 k.1;refine⟨k4.1,?_,k.2.2⟩;rw[k.2.1,k4.2,aU,if_pos hzi];simp
   ·rw[zV v (by omega)];refine(ih (v+1) e t (zR hd) ht).mono λy hy=>⟨hy.1,hy.2.1,λhe=>?_⟩;have k:=hy.2.2 he;refine⟨k.1,?_,k.2.2⟩;rw[k.2.1,aU,if_neg (by simpa using hzi)]
  ·rw[yD hd]at h;cases h
def zHb(l:List zX)(d lev c:Int)(args own:List Tm)(x:Tm×Int):Prop:=x.1.Ok/\x.2≠8/\(x.2=0->(0<=lev/\lev<=7)/\kY l d 1=true/\kY l c 2=true/\(zN l c).fam=d/\(args.length:Int)=(zN l d).pars+1+(zN l d).cons.length/\own.length=(vL l c).args.length/\args.all zJ=true/\own.all zJ=true/\x.1=zOU l d lev c args own/\zJ x.1=true)
theorem zOV{N:ByteArray->Bool}(l:List zX)(i p2 c:Int)(p4 p5:List Tm)(hE:wP N l)(ho4:xW p4)(ho5:xW p5)(hl4:p4.length<=65535)(hl5:p5.length<=65535):zD (λq=>zHc q l (mJ l l.length 0) i p2 c p4 p5) (zHb l i p2 c p4 p5):=by
 have bad:∀e:Int,e≠8->e≠0->zHb l i p2 c p4 p5 (.mk 0 0 [],e):=λe h8 h0=>⟨yZ 0 0,h8,λh=>absurd h h0⟩;simp only[zHc];refine zD.bind (P:=λb=>b=kY l i 1) ((zCI l i 1).tot rfl) λb hb=>zD.ite (λhT=>?_) λ_=>zD.ret (bad _ (by decide) (by decide));rw[hT]at hb;have hi:=wJ hb.symm;refine zD.ite (λ_=>zD.ret (bad _ (by decide) (by decide))) λhv0=>zD.ite (λ_=>zD.ret (bad _ (by decide) (by decide))) λhv1=>?_;have hv0':=of_decide_eq_false hv0;have hv1':=of_decide_eq_false hv1;refine zD.bind (P:=λb=>b=kY l c 2) ((zCI l c 2).tot rfl) λb2 hb2=>zD.ite (λhT=>?_) λ_=>zD.ret (bad _ (by decide) (by decide));rw[hT]at hb2;have hc:=wJ hb2.symm;have hf:=wB ((xB (hE.2 i hi.1 hi.2.1)).2.1 hi.2.2);obtain⟨A,y,hw,hy,hA,hAp,hA24,p0,p1,f0,f1,fk,fp,fi,fs,hap,q0,q1⟩:=tT hE hc.1 hc.2.1 hc.2.2;refine zD.pure (yO hc.1 hc.2.1) (zD.ite (λ_=>zD.ret (bad _ (by decide) (by decide))) λhn=>?_);have hfam:(zN l c).fam=i:=by simpa using hn
 refine zD.pure (zSC l c hc.1 hc.2.1 hc.2.2) (zD.pure (yO hi.1 hi.2.1) ?_);rw[hfam]at fp q1 fi fs;rw[zS (x:=(zN l i).pars+1) (by omega) (by omega),zS (x:=(zN l i).pars+1+(zN l i).cons.length) (by omega) (by omega),zS (x:=(zN l i).pars+1+(zN l c).place) (by omega) (by omega)];refine zD.ite (λ_=>zD.ret (bad _ (by decide) (by decide))) λhn4=>zD.ite (λ_=>zD.ret (bad _ (by decide) (by decide))) λhn5=>?_;have hn4':(p4.length:Int)=(zN l i).pars+1+(zN l i).cons.length:=by simpa using hn4
 have hn5':(p5.length:Int)=(vL l c).args.length:=by simpa using hn5
 refine zD.bind (P:=λb=>b=p4.all zJ) ((aT p4 (by omega) ho4).tot rfl) λb4 hb4=>zD.ite (λhs4=>?_) λ_=>zD.ret (bad _ (by decide) (by decide));refine zD.bind (P:=λb=>b=p5.all zJ) ((aT p5 (by omega) ho5).tot rfl) λb5 hb5=>zD.ite (λhs5=>?_) λ_=>zD.ret (bad _ (by decide) (by decide));have h7:(zN l i).pars+1+(zN l c).place<p4.length:=by omega
 refine zD.pure (uB (l:=p4) (by omega) h7) (zD.bind (P:=λz=>z=tJ (vO p4 ((zN l i).pars+1+(zN l c).place)) p5) ((vD _ p5 (by omega)).tot rfl) λr26 h26=>?_);subst h26;have hlen:(vL l c).recs.length=(vL l c).args.length:=by unfold vL;exact L1 l _ _ _
 refine(zLi l _ i p2 p4 p5 (vL l c) hE hi.1 hi.2.1 hi.2.2 (by omega) hl4 (by omega) hl5 ho4 ho5 (by unfold vL;exact zCJ l _ _ _) _ 0 0 _ rfl (uH _ _ (ho4 _ (sK (by omega) h7)) ho5)).mono λx hx=>⟨hx.1,hx.2.1 (by decide),λh0=>?_⟩;have k:=hx.2.2 h0;exact⟨⟨by omega,by omega⟩,hb.symm,hb2.symm,hfam,hn4',by omega,by rw[<-hb4];exact hs4,by rw[<-hb5];exact hs5,k.2.1,k.2.2⟩
section
variable{P:Int->Int->Prop}
theorem zJs{k:Int}{l:List Tm}(h:∀a∈l,xM P a):∀a∈upI k l,xM P a:=λa ha=>by obtain⟨x,hx,rfl⟩:=List.mem_map.1 ha;exact S8 x 0 0 k (h x hx)
theorem zFd:∀m,∀a∈jX m,xM P a
 |0,a,h=>nomatch h|m+1,a,h=>by
  rcases List.mem_cons.1 h with rfl|h;·exact aQ (.inl rfl)
  ·exact zFd m a h
theorem zJr:∀m v,∀a∈vuT m v,xM P a
 |0,_,a,h=>nomatch h|m+1,v,a,h=>by
  rcases List.mem_cons.1 h with rfl|h;·exact aQ (.inl rfl)
  ·exact zJr m (v+1) a h
theorem zFc{t:Tm}{own:Nat}{outer:List Tm}(h:xM P t)(ho:∀a∈outer,xM P a):xM P (zOQ t own outer):=by
 refine zCE _ (λa ha=>?_) t 0 h;rcases List.mem_append.1 ha with ha|ha;·exact zJr _ _ a ha
 ·exact zJs ho a (List.mem_reverse.1 ha)
theorem zBm{outer:List Tm}(ho:∀a∈outer,xM P a):∀(l:List Tm)(v:Nat),(∀a∈l,xM P a)->∀a∈P3 outer l v,xM P a
 |[],v,h,a,ha=>nomatch ha|t::l,v,h,a,ha=>by
  rcases List.mem_cons.1 ha with rfl|ha;·exact zFc (h t (by simp)) ho
  ·exact zBm ho l (v+1) (λx hx=>h x (by simp[hx])) a ha
theorem zFb(h4:P 4 0):∀(l:List Tm)(t:Tm),(∀a∈l,xM P a)->xM P t->xM P (zCH l t)|[],t,_,ht=>ht|a::l,t,h,ht=>zCD (.inr h4) (h a (by simp)) (zFb h4 l t (λx hx=>h x (by simp[hx])) ht)
theorem zOW{head:Tm}{args outer:List Tm}{r:tK}{a:Tm}(h4:P 4 0)(h5:P 5 0)(hh:xM P head)(hargs:∀a∈args,xM P a)(hout:∀a∈outer,xM P a)(hr:(∀t∈r.around,xM P t)/\∀t∈r.at',xM P t)(ha:xM P a):xM P (zVO head args outer r a):=by
 refine zFb h4 _ _ (zBm hout _ 0 hr.1) (zCD (.inr h5) ?_ ?_)
 ·refine jW _ _ h5 (jW _ _ h5 hh (zJs hargs)) λx hx=>?_;obtain⟨t,ht,rfl⟩:=List.mem_map.1 hx;exact zFc (hr.2 t ht) hout
 ·exact jW _ _ h5 (S8 a 0 0 _ ha) (zFd _)
theorem zCL{Q:Tm->Prop}{l:List Tm}{n:Int}(h:∀a∈l,Q a)(hz:Q zT):Q (vO l n):=by unfold vO;cases e:l[n.toNat]? with|none=>exact hz|some x=>exact h x (List.mem_of_getElem? e)
theorem p8{d lev:Int}{args own:List Tm}{pars:Nat}(h4:P 4 0)(h5:P 5 0)(h0:P 0 0)(h2:P 2 lev)(h7:P 7 d)(hargs:∀a∈args,xM P a)(hown:∀a∈own,xM P a):∀(rs:List tK)(v:Nat)(t:Tm),(∀r∈rs,(∀t∈r.around,xM P t)/\∀t∈r.at',xM P t)->xM P t->xM P (aU d lev args own pars rs v t)
 |[],v,t,_,ht=>ht|r::rs,v,t,hr,ht=>by
  rw[aU];refine p8 h4 h5 h0 h2 h7 hargs hown rs (v+1) _ (λx hx=>hr x (by simp[hx])) ?_;split
  ·refine zCD (.inr h5) ht (zOW h4 h5 (zVH (.inr h7) (aQ (.inr h2))) hargs ?_ (hr r (by simp)) (zCL hown (aQ (.inr h0))));intro a ha;rcases List.mem_append.1 ha with ha|ha;·exact hargs a (List.mem_of_mem_take ha)
   ·exact hown a (List.mem_of_mem_take ha)
  ·exact ht
theorem zLh{l:List zX}{d lev c:Int}{args own:List Tm}(h4:P 4 0)(h5:P 5 0)(h0:P 0 0)(h2:P 2 lev)(h7:P 7 d)(hargs:∀a∈args,xM P a)(hown:∀a∈own,xM P a)(hr:∀r∈(vL l c).recs,(∀t∈r.around,xM P t)/\∀t∈r.at',xM P t):xM P (zOU l d lev c args own):=p8 h4 h5 h0 h2 h7 hargs hown _ 0 _ hr (jW _ _ h5 (zCL hargs (aQ (.inr h0))) hown)
theorem zBl{t:Tm}{l:List Tm}{y:Tm}(h:yY t=(l,y,0)):xP t=true/\iV l.length t=some (l,y):=by have hw:=rV h;have hg:=(zK hw.1).2.2;unfold yY wN at h;rw[if_pos hw.1,if_neg (by omega),if_neg (by omega)]at h;rw[show(((min (uS t) 25:Nat):Int)).toNat=l.length by omega]at h;cases e:iV l.length t with|none=>rw[e]at h;simp[zCh]at h|some r=>rw[e]at h;simp only[zCh,List.nil_append,Prod.mk.injEq,and_true]at h;exact⟨hg,by rw[<-h.1,<-h.2]⟩
theorem zOX{l:List zX}{t:Tm}{of b:Int}(h:xM P t):(∀x∈(zFo l t of b).around,xM P x)/\∀x∈(zFo l t of b).at',xM P x:=by
 unfold zFo;split
 ·rename_i a;have hw:=zBl (t:=t) (l:=(yY t).1) (y:=(yY t).2.1) (by rw[<-a.1]);have hs:=s4 _ _ _ hw.1 hw.2 h;have hy:=(zK (rV (t:=t) (l:=(yY t).1) (y:=(yY t).2.1) (by rw[<-a.1])).2.2.2.2.1).2.2;exact⟨hs.2,λx hx=>(aR _ hy hs.1).2 x (List.mem_of_mem_drop hx)⟩
 ·exact⟨λx hx=>(nomatch hx),λx hx=>(nomatch hx)⟩
theorem zBk{l:List zX}{of:Int}:∀(r:List Tm)(b:Int),(∀t∈r,xM P t)->∀x∈G3 l of r b,(∀t∈x.around,xM P t)/\∀t∈x.at',xM P t
 |[],b,h,x,hx=>nomatch hx|a::r,b,h,x,hx=>by
  rcases List.mem_cons.1 hx with hx|hx;·rw[hx];exact zOX (h a (by simp))
  ·exact zBk r (b+1) (λt ht=>h t (by simp[ht])) x hx
theorem zHa{l:List zX}{i:Int}(hw:(yY (zN l i).type).2.2=0)(h:xM P (zN l i).type):∀r∈(vL l i).recs,(∀t∈r.around,xM P t)/\∀t∈r.at',xM P t:=by have hs:=zBl (t:=(zN l i).type) (l:=(yY (zN l i).type).1) (y:=(yY (zN l i).type).2.1) (by rw[<-hw]);have ha:=s4 _ _ _ hs.1 hs.2 h;unfold vL;exact zBk _ _ λt ht=>ha.2 t (List.mem_of_mem_drop ht)
end
def p9(d:Nat)(a c b:Int):Option (Int×Int):=some ((yJ (a+b)),(yJ (a+b)))
theorem zOY{d a c b}:Cz (p9 d a c b) 322 [.cells [ai a,ai c]] [.mp 0 0,ai b] (λr=>ai r.1) (λr=>[.cells [ai r.2,ai c]]) 0:=fw func322<|fE 1
def o5(d:Nat)(c a b:Int):Option (Int×Int):=some ((yJ (a+b)),(yJ (a+b)))
theorem zOZ{d c a b}:Cz (o5 d c a b) 322 [.cells [ai c,ai a]] [.mp 0 1,ai b] (λr=>ai r.1) (λr=>[.cells [ai c,ai r.2]]) 0:=fw func322<|fE 1
def T3(c:Nat)(a b:Int):Option (Int):=some a
theorem zSD{c a b}:Cz (T3 c a b) 72 [.cells [ai a,ai b]] [.mp 0 0] (λr=>ai r) (λ_=>[.cells [ai a,ai b]]) 0:=fw func72<|fE 1
def zVQ(d:Nat)(b a c:Int):Option (Int×Int×Int):=if decide (c<0)then some (8,b,a)else T3 d b a>>=λr2=>if decide (c>r2)then some (8,b,a)else p9 d b a (yJ (0-c))>>=λr5=>o5 d r5.2 a c>>=λr7=>some (0,r5.2,r7.2)
theorem yAV{d b a c}:Cz (zVQ d b a c) 305 [.cells [ai b,ai a]] [.mp 0 0,ai c] (λr=>ai r.1) (λr=>[.cells [ai r.2.1,ai r.2.2]]) 0:=fw func305<|rB 1 (fE 0)<|rC 0 [0] zSD λ_=>rB 0 (fE 0)<|rC 1 [0] zOY λ_=>rC 0 [0] zOZ λ_=>fE 0
def H2(c:Nat)(a b:Int):Option (Int×Int×Int):=zVQ c a b 1>>=λr1=>some (r1.1,r1.2.1,r1.2.2)
theorem zFa{c a b}:Cz (H2 c a b) 268 [.cells [ai a,ai b]] [.mp 0 0] (λr=>ai r.1) (λr=>[.cells [ai r.2.1,ai r.2.2]]) 0:=fw func268<|rC 0 [0] yAV λ_=>fE 0
def zFA(b:Nat)(M:wA)(a:Tm):Option (Int):=if a.k !=6 then some 0 else if decide (a.n>=(M.l.length:Int))then some 0 else zO M.l a.n>>=λx3=>some x3.kind
theorem zPz{b M a}:Cz (zFA b M a) 308 [mB M 1,mR M] [.mp 0 0,yL a] (λr=>ai r) (λ_=>[mB M 1,mR M]) 0:=fw func308<|rB 1 (fE 0)<|rB 3 (fE 0)<|rA 2 (xN (o:=.no)) λ_=>fE 1
def zLg(a:Nat)(M:wA)(b:Tm):Option (Int×yA×Bool):=E0 a b>>=λr1=>zFA a M r1.1>>=λr3=>if r3 !=2 then some (0,[],false)else zO M.own r1.1.n>>=λx6=>if(r1.2.length:Int)!=x6 then some (0,[],false)else some (r1.1.n,r1.2,true)
theorem zVR{a M b}:Cz (zLg a M b) 295 [mB M 1,mR M] [.mp 0 0,yL b] (λr=>.tup [ai r.1,.sl (zH zA r.2.1) r.2.1.length .no,ab r.2.2]) (λ_=>[mB M 1,mR M]) 0:=fw func295<|rC 1 [] zGP λ_=>rC 4 [0,1] zPz λ_=>rB 0 (fE 0)<|rA 3 (sS (o:=.no)) λ_=>rB 1 (fE 0)<|fE 1
def R4(b:Nat)(a:Tm):Option (Tm×Int):=qV b a>>=λr1=>if r1 then some (a,0)else some ((Tm.mk 0 0 []),2)
theorem zHA{b a}:Cz (R4 b a) 311 [] [yL a] (λr=>.tup [yL r.1,ai r.2]) (λ_=>[]) 0:=fw func311<|rK 1 [] pP (λ_=>fE 3) λ_=>fE 2
def zYA{ρ:Type}(f:Int->Int->Nat->Option ρ)(er:ρ->Int)(R:Int->Int->ρ)(k:Int):Prop:=(∀L U,k<=L->0<=U->L+U<=1099511627776->zB (f L U) (R (L-k) (U+k)))/\(∀L U,0<=L->L<k->0<=U->L+U<=1099511627776->∃r,zB (f L U) r/\er r=8)
def zVS{ρ:Type}(f:Int->Int->Nat->Option ρ)(er:ρ->Int)(l:Int):Prop:=∀U,0<=U->l+U<=1099511627776->∃r,zB (f l U) r/\er r=8
def Ou{ρ:Type}(f:Int->Int->Nat->Option ρ)(er:ρ->Int)(Q:(Int->Int->ρ)->Int->Prop)(S:Prop)(l:Int):Prop:=(∃R k,0<=k/\k<=l/\Q R k/\zYA f er R k)\/(zVS f er l/\S)
section
variable{ρ σ τ:Type}{er:ρ->Int}{er':σ->Int}{Q:(Int->Int->ρ)->Int->Prop}{Q':(Int->Int->σ)->Int->Prop}{S S':Prop}{l:Int}
theorem Ou.imp{f g:Int->Int->Nat->Option ρ}(h:Ou f er Q S l)(k:∀L U r,zB (f L U) r->zB (g L U) r):Ou g er Q S l:=by
 rcases h with⟨R,n,h0,h1,h2,h3,h4⟩|⟨h,s⟩;·exact .inl ⟨R,n,h0,h1,h2,λL U a b c=>k _ _ _ (h3 L U a b c),λL U a b c d=>by obtain⟨r,x,y⟩:=h4 L U a b c d;exact⟨r,k _ _ _ x,y⟩⟩
 ·exact .inr ⟨λU a b=>by obtain⟨r,x,y⟩:=h U a b;exact⟨r,k _ _ _ x,y⟩,s⟩
theorem Ou.mono{f:Int->Int->Nat->Option ρ}{Q2:(Int->Int->ρ)->Int->Prop}(h:Ou f er Q S l)(k:∀R n,0<=n->n<=l->Q R n->Q2 R n)(hs:S->S'):Ou f er Q2 S' l:=by
 rcases h with⟨R,n,h0,h1,h2,h3⟩|⟨h,s⟩;·exact .inl ⟨R,n,h0,h1,k R n h0 h1 h2,h3⟩
 ·exact .inr ⟨h,hs s⟩
theorem Ou.succ{f:Int->Int->Nat->Option ρ}(h:Ou (λL U q=>f L U (q+1)) er Q S l):Ou f er Q S l:=h.imp λ_ _ _ h=>h.succ
theorem Ou.pure{x:Option τ}{a:τ}{c:Int->Int->Nat->τ->Option ρ}(h:x=some a)(g:Ou (λL U q=>c L U q a) er Q S l):Ou (λL U q=>x>>=c L U q) er Q S l:=g.imp λ_ _ _ k=>zB.pure h k
theorem Ou.evt{x:Nat->Option τ}{a:τ}{c:Int->Int->Nat->τ->Option ρ}(h:zB x a)(g:Ou (λL U q=>c L U q a) er Q S l):Ou (λL U q=>x q>>=c L U q) er Q S l:=g.imp λ_ _ _ k=>zB.bind h k
theorem Ou.tot{x:Nat->Option τ}{P:τ->Prop}{c:Int->Int->Nat->τ->Option ρ}(h:zD x P)(g:∀a,P a->Ou (λL U q=>c L U q a) er Q S l):Ou (λL U q=>x q>>=c L U q) er Q S l:=by obtain⟨a,h,p⟩:=h;exact(g a p).evt h
theorem Ou.ite{b:Bool}{f g:Int->Int->Nat->Option ρ}(h:b=true->Ou f er Q S l)(k:b=false->Ou g er Q S l):Ou (λL U q=>if b=true then f L U q else g L U q) er Q S l:=by cases b with|true=>exact(h rfl).imp λ_ _ _ x=>zB.ifT rfl x|false=>exact(k rfl).imp λ_ _ _ x=>zB.ifF rfl x
theorem Ou.ifT{b:Bool}{f g:Int->Int->Nat->Option ρ}(h:b=true)(k:Ou f er Q S l):Ou (λL U q=>if b=true then f L U q else g L U q) er Q S l:=Ou.ite (λ_=>k) λh'=>by rw[h]at h';cases h'
theorem Ou.ifF{b:Bool}{f g:Int->Int->Nat->Option ρ}(h:b=false)(k:Ou g er Q S l):Ou (λL U q=>if b=true then f L U q else g L U q) er Q S l:=Ou.ite (λh'=>by rw[h]at h';cases h') λ_=>k
theorem Ou.ret{R:Int->Int->ρ}(h:0<=l)(k:Q R 0):Ou (λL U _=>some (R L U)) er Q S l:=.inl ⟨R,0,by omega,h,k,λL U _ _ _=>by rw[show L-0=L by omega,show U+0=U by omega];exact zB.ret,λL U _ _=>by omega⟩
theorem Ou.bind{f:Int->Int->Nat->Option ρ}{c:Nat->ρ->Option σ}(h:Ou f er Q S l)(hs:S->S')(he:∀r,er r=8->∃r',zB (λq=>c q r) r'/\er' r'=8)(hg:∀R k,0<=k->k<=l->Q R k->Ou (λL U q=>c q (R L U)) er' (λR' n=>Q' R' (k+n)) S' (l-k)):Ou (λL U q=>f L U q>>=c q) er' Q' S' l:=by
 rcases h with⟨R,k,h0,h1,h2,h3,h4⟩|⟨h,s⟩
 ·rcases hg R k h0 h1 h2 with⟨R',n,g0,g1,g2,g3,g4⟩|⟨g,s⟩
  ·refine .inl ⟨R',k+n,by omega,by omega,g2,λL U a b c=>?_,λL U a b c d=>?_⟩
   ·have:=g3 (L-k) (U+k) (by omega) (by omega) (by omega);rw[show L-(k+n)=L-k-n by omega,show U+(k+n)=U+k+n by omega];exact(h3 L U (by omega) b c).bind this
   ·by_cases e:L<k
    ·obtain⟨r,x,y⟩:=h4 L U a e c d;obtain⟨r',x',y'⟩:=he r y;exact⟨r',x.bind x',y'⟩
    ·obtain⟨r',x',y'⟩:=g4 (L-k) (U+k) (by omega) (by omega) (by omega) (by omega);exact⟨r',(h3 L U (by omega) c d).bind x',y'⟩
  ·refine .inr ⟨λU a b=>?_,s⟩;obtain⟨r',x',y'⟩:=g (U+k) (by omega) (by omega);exact⟨r',(h3 l U h1 a b).bind x',y'⟩
 ·refine .inr ⟨λU a b=>?_,hs s⟩;obtain⟨r,x,y⟩:=h U a b;obtain⟨r',x',y'⟩:=he r y;exact⟨r',x.bind x',y'⟩
end
theorem o6(L U:Int)(h0:0<=L)(h1:0<=U)(h2:L+U<=1099511627776):zB (λq=>H2 q L U) (if 1<=L then(0,L-1,U+1)else(8,L,U)):=by
 simp only[H2,zVQ,T3,p9,o5];refine zB.bind (a:=if 1<=L then(0,L-1,U+1)else(8,L,U)) ?_ zB.ret;refine zB.ifF (by decide) (zB.pure rfl ?_);by_cases h:1<=L
 ·rw[if_pos h];refine zB.ifF (decide_eq_false (by omega)) (zB.pure rfl (zB.pure rfl (zB.ret.eq ?_)));have e:yJ (0-1)=-1:=by decide
  rw[e,zS (x:=U+1) (by omega) (by omega)];show((0:Int),yJ (L+-1),U+1)=_;rw[zS (by omega) (by omega)];rfl
 ·rw[if_neg h];exact zB.ifT (decide_eq_true (by omega)) zB.ret
theorem zJq(l:Int)(h:0<=l):Ou (λL U q=>H2 q L U) (λr=>r.1) (λR k=>k=1/\R=λL U=>(0,L,U)) (l<1) l:=by
 by_cases h1:1<=l;·refine .inl ⟨λL U=>(0,L,U),1,by omega,h1,⟨rfl,rfl⟩,λL U a b c=>(o6 L U (by omega) b c).eq (if_pos a),λL U a b c d=>⟨_,o6 L U a c d,?_⟩⟩;rw[if_neg (by omega)]
 ·refine .inr ⟨λU a b=>⟨_,o6 l U h a b,?_⟩,by omega⟩;rw[if_neg h1]
def uN(l:List zX)(t:Tm):Int:=if t.k=6 then(if t.n<l.length then(zN l t.n).kind else 0)else 0
theorem gW(l:List zX)(t:Tm)(h:0<=t.n):zB (λq=>zFA q (wF l) t) (uN l t):=by
 simp only[zFA,wF];unfold uN;by_cases k:t.k=6
 ·rw[if_pos k];refine zB.ifF (by simp[k]) ?_;by_cases n:t.n<l.length;·rw[if_pos n];exact zB.ifF (decide_eq_false (by omega)) (zB.pure (yO h n) zB.ret)
  ·rw[if_neg n];exact zB.ifT (decide_eq_true (by omega)) zB.ret
 ·rw[if_neg k];exact zB.ifT (by simp[k]) zB.ret
theorem vP{l:List zX}{t:Tm}{k:Int}(h:uN l t=k)(hk:k≠0):t.k=6/\t.n<l.length/\(zN l t.n).kind=k:=by
 unfold uN at h;split at h
 ·rename_i a;split at h;·rename_i b;exact⟨a,b,h⟩
  ·exact absurd h.symm hk
 ·exact absurd h.symm hk
def zHB(t:Tm):Tm×Int:=if zJ t=true then(t,0)else(zT,2)
theorem zHC(t:Tm)(ho:t.Ok):zB (λq=>R4 q t) (zHB t):=by
 simp only[R4];refine(xR t ho).bind ?_;unfold zHB;by_cases h:zJ t=true;·rw[if_pos h,if_pos h];exact zB.ret
 ·rw[if_neg h,if_neg h];exact zB.ret
theorem jZ{t:Tm}(h:xP t=true):0<=t.n:=by obtain⟨k,n,l⟩:=t;exact(mC (wU h).1).1
theorem zSE{l:List zX}{i:Int}(h0:0<=i)(h1:i<l.length):zO (wF l).own i=some (tW (zN l i)):=by have h:=yO (l:=l) h0 h1;unfold zO at h⊢;rw[if_pos h0]at h⊢;show(l.map tW)[i.toNat]?=_;rw[List.getElem?_map,h];rfl
theorem zPy{l:List zX}{i:Int}(h0:0<=i)(h1:i<l.length):zO (wF l).args i=some (xZ (zN l i)):=by have h:=yO (l:=l) h0 h1;unfold zO at h⊢;rw[if_pos h0]at h⊢;show(l.map xZ)[i.toNat]?=_;rw[List.getElem?_map,h];rfl
def tM(l:List zX)(t:Tm):Prop:=uN l (zZ t)=2/\(yW t).length=uS (zN l (zZ t).n).type
instance(l:List zX)(t:Tm):Decidable (tM l t):=inferInstanceAs(Decidable (_/\_))
def zCM(l:List zX)(t:Tm):Int×List Tm×Bool:=if tM l t then((zZ t).n,yW t,true)else(0,[],false)
theorem zCN(l:List zX)(t:Tm)(hs:zJ t=true):zB (λq=>zLg q (wF l) t) (zCM l t):=by
 simp only[zLg];have hn:=jZ (zK (uV hs)).2.2;refine(kK t hs).bind ((gW l _ hn).bind ?_);by_cases h:uN l (zZ t)=2
 ·have hk:=vP h (by decide);refine zB.ifF (by simp[h]) (zB.pure (zSE hn hk.2.1) ?_);have e:tW (zN l (zZ t).n)=uS (zN l (zZ t).n).type:=by unfold tW;rw[if_pos hk.2.2]
  by_cases h2:(yW t).length=uS (zN l (zZ t).n).type
  ·have c:zCM l t=((zZ t).n,yW t,true):=if_pos ⟨h,h2⟩;rw[c];exact zB.ifF (by rw[e];simp[h2]) zB.ret
  ·have c:zCM l t=(0,[],false):=if_neg (λh'=>h2 h'.2);rw[c];exact zB.ifT (by rw[e];simp;omega) zB.ret
 ·have c:zCM l t=(0,[],false):=if_neg (λh'=>h h'.1);rw[c];exact zB.ifT (by simp[h]) zB.ret
theorem sD{l:List zX}{t:Tm}(hs:zJ t=true)(h:tM l t):0<=(zZ t).n/\(zZ t).n<l.length/\(zN l (zZ t).n).kind=2/\(yW t).length=uS (zN l (zZ t).n).type:=by have hk:=vP h.1 (by decide);exact⟨jZ (zK (uV hs)).2.2,hk.2.1,hk.2.2,h.2⟩
mutual def zFB:Nat->wA->Tm->Int->Int->Option (Tm×Int×Int×Int)|0,_,_,_,_=>none|b+1,M,a,c,d=>H3 b M c d a.k a.n a.sub def H3:Nat->wA->Int->Int->Int->Int->yA->Option (Tm×Int×Int×Int)
 |0,_,_,_,_,_,_=>none|b+1,M,m,p,e,f,g=>zSF b M (Tm.mk e f g) m p>>=λr1=>if r1.2.1 then if r1.2.2.1 !=0 then some ((Tm.mk 0 0 []),r1.2.2.1,r1.2.2.2.1,r1.2.2.2.2)else H3 b M r1.2.2.2.1 r1.2.2.2.2 r1.1.k r1.1.n r1.1.sub else if r1.2.2.1 !=0 then some ((Tm.mk 0 0 []),r1.2.2.1,r1.2.2.2.1,r1.2.2.2.2)else some ((Tm.mk e f g),0,r1.2.2.2.1,r1.2.2.2.2)def zSF:Nat->wA->Tm->Int->Int->Option (Tm×Bool×Int×Int×Int)
 |0,_,_,_,_=>none|b+1,M,a,c,d=>E0 b a>>=λr1=>if r1.1.k==4 then if decide ((r1.2.length:Int)>0)then zO r1.1.sub 1>>=λx5=>zO r1.2 0>>=λx7=>zNK b x5 x7>>=λr9=>sN r1.2 1 (r1.2.length:Int)>>=λx11=>nM b r9.1 x11>>=λr13=>if r9.2 !=0 then some (a,false,r9.2,c,d)else H2 b c d>>=λr16=>if r16.1 !=0 then some (a,false,r16.1,r16.2.1,r16.2.2)else R4 b r13>>=λr19=>some (r19.1,true,r19.2,r16.2.1,r16.2.2)else zFA b M r1.1>>=λr21=>if r21==3 then zO M.l r1.1.n>>=λx24=>nM b x24.body r1.2>>=λr26=>H2 b c d>>=λr28=>if r28.1 !=0 then some (a,false,r28.1,r28.2.1,r28.2.2)else R4 b r26>>=λr31=>some (r31.1,true,r31.2,r28.2.1,r28.2.2)else zFA b M r1.1>>=λr33=>if r33==4 then zPx b M r1.1 r1.2 c d>>=λr36=>if r36.2.1 then if r36.2.2.1 !=0 then some (a,false,r36.2.2.1,r36.2.2.2.1,r36.2.2.2.2)else H2 b r36.2.2.2.1 r36.2.2.2.2>>=λr40=>if r40.1 !=0 then some (a,false,r40.1,r40.2.1,r40.2.2)else R4 b r36.1>>=λr43=>some (r43.1,true,r43.2,r40.2.1,r40.2.2)else if r36.2.2.1 !=0 then some (a,false,r36.2.2.1,r36.2.2.2.1,r36.2.2.2.2)else some (a,false,r36.2.2.1,r36.2.2.2.1,r36.2.2.2.2)else if r1.1.k==7 then zPw b M r1.1 r1.2 c d>>=λr47=>if r47.2.1 then if r47.2.2.1 !=0 then some (a,false,r47.2.2.1,r47.2.2.2.1,r47.2.2.2.2)else H2 b r47.2.2.2.1 r47.2.2.2.2>>=λr51=>if r51.1 !=0 then some (a,false,r51.1,r51.2.1,r51.2.2)else R4 b r47.1>>=λr54=>some (r54.1,true,r54.2,r51.2.1,r51.2.2)else if r47.2.2.1 !=0 then some (a,false,r47.2.2.1,r47.2.2.2.1,r47.2.2.2.2)else some (a,false,r47.2.2.1,r47.2.2.2.1,r47.2.2.2.2)else some (a,false,0,c,d)else zFA b M r1.1>>=λr57=>if r57==3 then zO M.l r1.1.n>>=λx60=>nM b x60.body r1.2>>=λr62=>H2 b c d>>=λr64=>if r64.1 !=0 then some (a,false,r64.1,r64.2.1,r64.2.2)else R4 b r62>>=λr67=>some (r67.1,true,r67.2,r64.2.1,r64.2.2)else zFA b M r1.1>>=λr69=>if r69==4 then zPx b M r1.1 r1.2 c d>>=λr72=>if r72.2.1 then if r72.2.2.1 !=0 then some (a,false,r72.2.2.1,r72.2.2.2.1,r72.2.2.2.2)else H2 b r72.2.2.2.1 r72.2.2.2.2>>=λr76=>if r76.1 !=0 then some (a,false,r76.1,r76.2.1,r76.2.2)else R4 b r72.1>>=λr79=>some (r79.1,true,r79.2,r76.2.1,r76.2.2)else if r72.2.2.1 !=0 then some (a,false,r72.2.2.1,r72.2.2.2.1,r72.2.2.2.2)else some (a,false,r72.2.2.1,r72.2.2.2.1,r72.2.2.2.2)else if r1.1.k==7 then zPw b M r1.1 r1.2 c d>>=λr83=>if r83.2.1 then if r83.2.2.1 !=0 then some (a,false,r83.2.2.1,r83.2.2.2.1,r83.2.2.2.2)else H2 b r83.2.2.2.1 r83.2.2.2.2>>=λr87=>if r87.1 !=0 then some (a,false,r87.1,r87.2.1,r87.2.2)else R4 b r83.1>>=λr90=>some (r90.1,true,r90.2,r87.2.1,r87.2.2)else if r83.2.2.1 !=0 then some (a,false,r83.2.2.1,r83.2.2.2.1,r83.2.2.2.2)else some (a,false,r83.2.2.1,r83.2.2.2.1,r83.2.2.2.2)else some (a,false,0,c,d)def zPx:Nat->wA->Tm->yA->Int->Int->Option (Tm×Bool×Int×Int×Int)
 |0,_,_,_,_,_=>none|b+1,M,a,q,c,d=>zO M.l a.n>>=λx1=>if decide ((q.length:Int)<=x1.pars)then some ((Tm.mk 0 0 []),false,0,c,d)else zO q x1.pars>>=λx4=>zFB b M x4 c d>>=λr6=>if r6.2.1 !=0 then some ((Tm.mk 0 0 []),false,r6.2.1,r6.2.2.1,r6.2.2.2)else zLg b M r6.1>>=λr9=>if r9.2.2 then zO M.l r9.1>>=λx12=>if x12.fam !=x1.fam then some ((Tm.mk 0 0 []),false,0,r6.2.2.1,r6.2.2.2)else sN r9.2.1 x12.pars (r9.2.1.length:Int)>>=λx15=>zHd b M.rl M.parts a.n x15>>=λr17=>sN q (yJ (x1.pars+1)) (q.length:Int)>>=λx19=>nM b r17.1 x19>>=λr21=>some (r21,true,r17.2,r6.2.2.1,r6.2.2.2)else some ((Tm.mk 0 0 []),false,0,r6.2.2.1,r6.2.2.2)def zPw:Nat->wA->Tm->yA->Int->Int->Option (Tm×Bool×Int×Int×Int)
 |0,_,_,_,_,_=>none|b+1,M,a,q,c,d=>if decide (a.n>=(M.l.length:Int))then some ((Tm.mk 0 0 []),false,0,c,d)else zO M.l a.n>>=λx2=>if x2.kind !=1 then some ((Tm.mk 0 0 []),false,0,c,d)else zO M.args a.n>>=λx5=>if decide ((q.length:Int)<x5)then some ((Tm.mk 0 0 []),false,0,c,d)else zO q (yJ (x5-1))>>=λx8=>zFB b M x8 c d>>=λr10=>if r10.2.1 !=0 then some ((Tm.mk 0 0 []),false,r10.2.1,r10.2.2.1,r10.2.2.2)else zLg b M r10.1>>=λr13=>if r13.2.2 then zO M.l r13.1>>=λx16=>if x16.fam !=a.n then some ((Tm.mk 0 0 []),false,0,r10.2.2.1,r10.2.2.2)else zO a.sub 0>>=λx19=>sN q 0 (yJ ((yJ (x2.pars+1))+(x2.cons.length:Int)))>>=λx21=>sN r13.2.1 x2.pars (r13.2.1.length:Int)>>=λx23=>zHc b M.rl M.parts a.n x19.n r13.1 x21 x23>>=λr25=>sN q x5 (q.length:Int)>>=λx27=>nM b r25.1 x27>>=λr29=>some (r29,true,r25.2,r10.2.2.1,r10.2.2.2)else some ((Tm.mk 0 0 []),false,0,r10.2.2.1,r10.2.2.2)end
theorem kS:∀b:Nat,(∀M a c d,Cz (zFB b M a c d) 219 [mB M 1,mR M,.cells [ai c,ai d]] [.mp 0 0,yL a,.mp 2 0] (λr=>.tup [yL r.1,ai r.2.1]) (λr=>[mB M 1,mR M,.cells [ai r.2.2.1,ai r.2.2.2]]) 0)/\(∀M m p e f g,Lz (H3 b M m p e f g) 3 f219 (pt 885 f219) (λj=>sp j 28 0 [(0,.mp 0 0),(2,.mp 2 0),(4,.mp 3 0),(6,.mp 4 0)]) ⟨[(0,mB M 1),(1,mR M),(2,.cells [ai m,ai p]),(3,.cells [ai e,ai f,zC zA g .no]),(4,.cells [ai 0,ai 0,zC zA ([]:yA) .nl])],5,[],0,[]⟩ (λr=>.tup [yL r.1,ai r.2.1]) (λr=>[mB M 1,mR M,.cells [ai r.2.2.1,ai r.2.2.2]]) 0 [.blk 0])/\(∀M a c d,Cz (zSF b M a c d) 271 [mB M 1,mR M,.cells [ai c,ai d]] [.mp 0 0,yL a,.mp 2 0] (λr=>.tup [yL r.1,ab r.2.1,ai r.2.2.1]) (λr=>[mB M 1,mR M,.cells [ai r.2.2.2.1,ai r.2.2.2.2]]) 0)/\(∀M a q c d,Cz (zPx b M a q c d) 309 [mB M 1,mR M,.cells [ai c,ai d]] [.mp 0 0,yL a,zC zA q .no,.mp 2 0] (λr=>.tup [yL r.1,ab r.2.1,ai r.2.2.1]) (λr=>[mB M 1,mR M,.cells [ai r.2.2.2.1,ai r.2.2.2.2]]) 0)/\(∀M a q c d,Cz (zPw b M a q c d) 310 [mB M 1,mR M,.cells [ai c,ai d]] [.mp 0 0,yL a,zC zA q .no,.mp 2 0] (λr=>.tup [yL r.1,ab r.2.1,ai r.2.2.1]) (λr=>[mB M 1,mR M,.cells [ai r.2.2.2.1,ai r.2.2.2.2]]) 0):=xF ⟨λ_ _ _ _=>cN,λ_ _ _ _ _ _=>lN,λ_ _ _ _=>cN,λ_ _ _ _ _=>cN,λ_ _ _ _ _=>cN⟩ λb ih=>⟨λM a c d=>fw func219<|fH 0 [] [0,1,2,3,4] [] [0,2,4,6] (ih.2.1 _ _ _ _ _ _),λM m p e f g=>lw λ_=>rC 1 [0,1,2] (ih.2.2.1 _ _ _ _) λ_=>rB 1 (rB 2 (lE 1)<|lH 2 [] [0,1,2,3,4] [] [0,2,4,6] (ih.2.1 _ _ _ _ _ _))<|rB 2 (lE 1)<|lE 2,λM a c d=>fw func271<|rC 1 [] zGP λ_=>rB 5 (rB 1 (rA 1 (xA (o:=.no)) λ_=>rA 1 (xA (o:=.no)) λ_=>rC 1 [] zXQ λ_=>rA 4 qU λ_=>rC 0 [] oI λ_=>rB 1 (fE 2)<|rC 1 [2] zFa λ_=>rB 0 (fE 2)<|rC 1 [] zHA λ_=>fE 5)<|rC 1 [0,1] zPz λ_=>rB 0 (rA 2 (xN (o:=.no)) λ_=>rC 1 [] oI λ_=>rC 3 [2] zFa λ_=>rB 0 (fE 2)<|rC 1 [] zHA λ_=>fE 5)<|rC 1 [0,1] zPz λ_=>rB 0 (rC 1 [0,1,2] (ih.2.2.2.1 _ _ _ _ _) λ_=>rB 1 (rB 2 (fE 2)<|rC 1 [2] zFa λ_=>rB 0 (fE 2)<|rC 1 [] zHA λ_=>fE 5)<|rB 2 (fE 2)<|fE 3)<|rB 1 (rC 1 [0,1,2] (ih.2.2.2.2 _ _ _ _ _) λ_=>rB 1 (rB 2 (fE 2)<|rC 1 [2] zFa λ_=>rB 0 (fE 2)<|rC 1 [] zHA λ_=>fE 5)<|rB 2 (fE 2)<|fE 3)<|fE 4)<|rC 1 [0,1] zPz λ_=>rB 0 (rA 2 (xN (o:=.no)) λ_=>rC 1 [] oI λ_=>rC 3 [2] zFa λ_=>rB 0 (fE 2)<|rC 1 [] zHA λ_=>fE 5)<|rC 1 [0,1] zPz λ_=>rB 0 (rC 1 [0,1,2] (ih.2.2.2.1 _ _ _ _ _) λ_=>rB 1 (rB 2 (fE 2)<|rC 1 [2] zFa λ_=>rB 0 (fE 2)<|rC 1 [] zHA λ_=>fE 5)<|rB 2 (fE 2)<|fE 3)<|rB 1 (rC 1 [0,1,2] (ih.2.2.2.2 _ _ _ _ _) λ_=>rB 1 (rB 2 (fE 2)<|rC 1 [2] zFa λ_=>rB 0 (fE 2)<|rC 1 [] zHA λ_=>fE 5)<|rB 2 (fE 2)<|fE 3)<|fE 4,λM a q c d=>fw func309<|rH λ_ h2=>rS (oA 2 (xN (o:=.no) h2))<|rB 2 (fE 1)<|rA 0 (xA (o:=.no)) λ_=>rC 1 [0,1,2] (ih.1 _ _ _ _) λ_=>rB 3 (fE 1)<|rC 1 [0,1] zVR λ_=>rB 2 (rH λ_ h13=>rS (oA 2 (xN (o:=.no) h13))<|rS (oA 3 (xN (o:=.no) h2))<|rB 1 (fE 1)<|rS (oA 3 (xN (o:=.no) h13))<|rA 1 qU λ_=>rC 0 [1] yAT λ_=>rA 5 qU λ_=>rC 0 [] oI λ_=>fE 1)<|fE 2,λM a q c d=>fw func310<|rB 3 (fE 1)<|rH λ_ h3=>rS (oA 2 (xN (o:=.no) h3))<|rB 1 (fE 1)<|rH λ_ h6=>rS (oA 3 (sS (o:=.no) h6))<|rB 1 (fE 1)<|rS (oA 2 (sS (o:=.no) h6))<|rA 2 (xA (o:=.no)) λ_=>rC 1 [0,1,2] (ih.1 _ _ _ _) λ_=>rB 3 (fE 1)<|rC 1 [0,1] zVR λ_=>rB 2 (rA 2 (xN (o:=.no)) λ_=>rB 2 (fE 1)<|rS (oA 2 (xN (o:=.no) h3))<|rA 5 (xA (o:=.no)) λ_=>rA 6 rM λ_=>rA 1 qU λ_=>rC 0 [1] yAU λ_=>rA 4 qU λ_=>rC 0 [] oI λ_=>fE 1)<|fE 2⟩
theorem yAW{b M a c d}:Cz (zFB b M a c d) 219 [mB M 1,mR M,.cells [ai c,ai d]] [.mp 0 0,yL a,.mp 2 0] (λr=>.tup [yL r.1,ai r.2.1]) (λr=>[mB M 1,mR M,.cells [ai r.2.2.1,ai r.2.2.2]]) 0:=(kS _).1 _ _ _ _
end Go.Proofs.YthncchbcdpbgaaaGreat
