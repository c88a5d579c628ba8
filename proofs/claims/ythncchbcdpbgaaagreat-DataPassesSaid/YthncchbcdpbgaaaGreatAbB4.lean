/- Parts of the proof that the law returns true: walks of the functions, plain laws. -/
import Derived.Test.YthncchbcdpbgaaaGreatAbB3
set_option linter.unusedVariables false
set_option linter.unusedSimpArgs false
set_option linter.unusedSectionVars false
namespace Go.Proofs.YthncchbcdpbgaaaGreat
open Go Go.Ab Go.Proofs.Tryz
theorem zCv:∀(l:List Int)(b:ByteArray),(l.foldl (λr n=>r.push (UInt8.ofNat n.toNat)) b).size=b.size+l.length|[],b=>rfl|x::l,b=>by rw[List.foldl_cons,zCv l,ByteArray.size_push,List.length_cons];omega
theorem N6(l:List Int):(tN l).size=l.length:=by unfold tN;rw[zCv];show 0+_=_;omega
theorem zCu{α:Type}{l:List α}{k:Nat}(x:α)(h:k<l.length):E7 l k x=some (l.set k x):=by unfold E7;rw[if_pos h]
theorem zCt{n v:Nat}(h:v<n):fY n (v:Int)=some v:=by unfold fY;rw[if_pos (by omega)];simp
theorem pQ{α:Type}{l:List α}{i:Int}(h0:0<=i)(h1:i<l.length):∃x,zL l i=some x/\x∈l:=by
 unfold zL;rw[if_pos h0];have h:i.toNat<l.length:=by omega
 exact⟨_,List.getElem?_eq_getElem h,List.getElem_mem h⟩
theorem zIS(n:Int):zD (λq=>zDW q n) λr=>1<=r/\r<=4:=by simp only[zDW];repeat'(first|exact zD.ret (by simp)|refine zD.ite (λ_=>?_) (λ_=>?_))
theorem zGi(w:Int)(x:List U8)(hw:0<=w)(hx:x.length<=4):∀(m:Nat)(n:Int)(b:List U8),m<x.length->b.length=x.length->zD (λq=>cC q w x n (m:Int) b) λr=>r.1.size<=4|0,n,b,hm,hb=>by refine zD.succ ?_;simp only[cC];refine zD.ite (λh=>absurd (of_decide_eq_true h) (by simp)) λ_=>zD.pure (by unfold zST;rw[if_neg (by omega)]) (zD.pure (zCt hm) (zD.pure (zCu _ (by rw[hb];exact hm)) (zD.pure (by unfold gtx;rw[if_pos (by rw[List.length_set];exact hb)]) (zD.ret ?_))));show(tN _).size<=4;rw[N6,List.length_set];omega|m+1,n,b,hm,hb=>by refine zD.succ ?_;simp only[cC];refine zD.ite (λ_=>zD.pure (zCt hm) (zD.pure (zCu _ (by omega)) ?_)) λh=>absurd (of_decide_eq_false h) (by omega);rw[show yB (((m+1:Nat):Int)-1)=(m:Int)by rw[zR (by omega) (by omega)];omega];exact zGi w x hw hx m _ _ (by omega) (by rw[List.length_set];exact hb)
theorem zKW(n:Int):zD (λq=>zQp q n) λr=>r.1.size<=4:=by
 simp only[zQp];refine(iO n).bind λ_ _=>zD.ite (λ_=>(zIS n).bind λw hw=>zD.ite (λ_=>zD.ret (by show(tN _).size<=4;rw[N6];simp)) λh=>?_) λ_=>zD.ret (by decide);have h1:w≠1:=by simpa using h
 refine zD.pure (by unfold gmk;rw[if_pos ⟨by omega,by omega⟩]) ?_;obtain⟨k,rfl⟩:∃k:Nat,w=(k+1:Nat):=⟨(w-1).toNat,by omega⟩;rw[show yB (((k+1:Nat):Int)-1)=(k:Int)by rw[zR (by omega) (by omega)];omega];exact zGi _ _ (by omega) (by simp;omega) k n _ (by simp) (by simp)
theorem zCs:∀(r l:List Int)(v:Nat)(acc:List U8),l.drop v=r->l.length<=65535->acc.length<=65535->zD (λq=>cE q l (v:Int) acc) λr=>r.1.size<=65535
 |[],l,v,acc,hd,hl,ha=>by refine zD.succ ?_;simp only[cE];refine zD.ite (λh=>?_) λ_=>zD.ret (by show(tN _).size<=65535;rw[N6];exact ha);rw[zZ hd]at h;cases h|x::r,l,v,acc,hd,hl,ha=>by
  have hlt:=yC hd;refine zD.succ ?_;simp only[cE];refine zD.ite (λ_=>zD.pure (zU hd) ((zKW x).bind λb hb=>zD.ite (λ_=>zD.ret (by decide)) λh=>?_)) λh=>by rw[zX hd]at h;cases h
  have h1:=of_decide_eq_false h;rw[zR (by omega) (by omega)]at h1;refine zD.pure (yA (by rw[iJ];omega)) ?_;rw[zS v (by omega)];exact zCs r l (v+1) _ (zP hd) hl (by rw[List.length_append,iJ];omega)
theorem zCr:∀(r l:List Int)(v:Nat),l.drop v=r->l.length<=65535->zD (λq=>cG q l (v:Int)) λr=>r.1.size<=65535
 |[],l,v,hd,hl=>by refine zD.succ ?_;simp only[cG];refine zD.ite (λh=>?_) λ_=>zCs l l 0 [] rfl hl (by simp);rw[zZ hd]at h;cases h|x::r,l,v,hd,hl=>by
  have hlt:=yC hd;refine zD.succ ?_;simp only[cG];refine zD.ite (λ_=>zD.pure (zU hd) ((iO x).bind λb _=>zD.ite (λ_=>?_) λ_=>zD.ret (by decide))) λh=>by rw[zX hd]at h;cases h
  rw[zS v (by omega)];exact zCr r l (v+1) (zP hd) hl
theorem zGh(l:List Int)(hl:l.length<=65535):zD (λq=>zEz q l) λr=>r.1.size<=65535:=by simp only[zEz];exact zCr l l 0 rfl hl
theorem G3:∀(r l:List Int)(v:Nat)(acc:List Int)(at0:Int),l.drop v=r->l.length<=65535->v<=l.length->acc.length=v->zD (λq=>cD q l (v:Int) acc at0) λr=>r.length=l.length
 |[],l,v,acc,a,hd,hl,hv,ha=>by
  refine zD.succ ?_;simp only[cD];refine zD.ite (λh=>?_) λh=>zD.ret ?_;·rw[zZ hd]at h;cases h
  ·have:=List.drop_eq_nil_iff.1 hd;omega|x::r,l,v,acc,a,hd,hl,hv,ha=>by
  have hlt:=yC hd;refine zD.succ ?_;simp only[cD];refine zD.ite (λ_=>zD.pure (zU hd) (zD.pure (yA (by simp;omega)) ((zKW x).bind λb hb=>?_))) λh=>by rw[zX hd]at h;cases h
  rw[zS v (by omega)];exact G3 r l (v+1) _ _ (zP hd) hl hlt (by simp[ha])
theorem zGg(l:List Int)(hl:l.length<=65535):zD (λq=>zTg q l) λr=>r.length=l.length:=by simp only[zTg];exact G3 l l 0 [] 0 rfl hl (by omega) rfl
def sgT(S:List Int)(i:Int):Int:=if i>=S.length then-1 else(S[i.toNat]?).getD 0
theorem zMP(n:Int):zD (λq=>zTe q n) λ_=>True:=by simp only[zTe];repeat'(first|exact zD.ret trivial|refine zD.ite (λ_=>?_) (λ_=>?_))
theorem i8(n:Int):zD (λq=>zQm q n) λ_=>True:=by simp only[zQm];repeat'(first|exact zD.ret trivial|refine zD.ite (λ_=>?_) (λ_=>?_)|refine zD.bind (iP n) (λ_ _=>?_)|refine zD.bind (jJ n) (λ_ _=>?_))
theorem zIT(s:ByteArray)(pos:Nat):1<=(Utf8.decode s pos).2:=by
 unfold Utf8.decode;dsimp only;repeat' split
 all_goals simp
theorem T3(s:ByteArray):∀(m:Nat)(n:Int)(p:Nat),s.size-p<=m->zD (λq=>cH q s n p) λ_=>True|m,n,p,hm=>by refine zD.succ ?_;simp only[cH];refine zD.ite (λh=>(jJ _).bind λ_ _=>zD.ite (λ_=>?_) λ_=>zD.ret trivial) λ_=>zD.ret trivial;have h1:=of_decide_eq_true h;have:=zIT s p;cases m with|zero=>omega|succ m=>exact T3 s m _ _ (by omega)
theorem i9(s:ByteArray):zD (λq=>zQl q s) λ_=>True:=by
 simp only[zQl];refine zD.ite (λ_=>zD.ret trivial) λh=>zD.ite (λ_=>zD.ret trivial) λ_=>?_;have hp:0<s.size:=by
  rcases Nat.eq_zero_or_pos s.size with e|e
  ·have:s=⟨#[]⟩:=by cases s with|mk d=>simp only[ByteArray.size]at e;rw[Array.eq_empty_of_size_eq_zero e]
   rw[this]at h;simp at h
  ·exact e
 obtain⟨c,hc⟩:=i6 (s:=s) (i:=0) (by omega) (by omega);refine zD.pure hc (zD.ite (λ_=>zD.ite (λ_=>zD.ret trivial) λ_=>?_) λ_=>?_)<;>exact T3 s _ 0 0 (Nat.le_refl _)
section
variable{S A:List Int}(hS:S.length<=65535)
include hS
theorem mA(i k:Int)(h0:0<=i)(h1:i<=100000)(hk:0<=k/\k<=1):zB (λq=>V6 q S A i k) (sgT S (i+k)):=by
 simp only[V6];rw[zR (by omega) (by omega)];unfold sgT;by_cases h:i+k>=S.length;·rw[if_pos h];exact zB.ifT (decide_eq_true h) zB.ret
 ·rw[if_neg h];refine zB.ifF (decide_eq_false h) (zB.pure (a:=(S[(i+k).toNat]?).getD 0) ?_ zB.ret);unfold zL;rw[if_pos (by omega),List.getElem?_eq_getElem (show(i+k).toNat<S.length by omega)];rfl
theorem g6(i a b:Int)(h0:0<=i)(h1:i<=100000):zB (λq=>zGm q S A i a b) (sgT S i==a&&sgT S (i+1)==b):=by
 simp only[zGm];have e:=mA (A:=A) hS i 0 h0 h1 (by omega);rw[Int.add_zero]at e;refine e.bind ?_;by_cases h:sgT S i=a;·rw[show(sgT S i==a)=true by simpa using h,Bool.true_and];exact zB.ifT rfl ((mA hS i 1 h0 h1 (by omega)).bind zB.ret)
 ·rw[show(sgT S i==a)=false by simpa using h,Bool.false_and];exact zB.ifF rfl zB.ret
theorem zGf:∀(m:Nat)(i:Int),0<=i->i<=100000->(S.length:Int)-i<=m->zD (λq=>F7 q S A i) λr=>i<=r/\(r<=i\/r<=S.length)/\(i<S.length->sgT S i≠10->i<r)|m,i,h0,h1,hm=>by refine zD.succ ?_;simp only[F7];refine zD.ite (λh=>?_) λh=>zD.ret ⟨by omega,by omega,λh2=>absurd h2 (of_decide_eq_false h)⟩;have h2:=of_decide_eq_true h;have e:=mA (A:=A) hS i 0 h0 h1 (by omega);rw[Int.add_zero]at e;refine zD.bind (e.tot rfl) λx hx=>?_;subst hx;cases m with|zero=>omega|succ m=>refine zD.ite (λh3=>?_) λh3=>zD.ret ⟨by omega,by omega,λ_ h4=>absurd h4 (by simpa using h3)⟩;rw[zR (by omega) (by omega)];refine(zGf m (i+1) (by omega) (by omega) (by omega)).mono λr hr=>⟨by omega,by omega,λ_ _=>by omega⟩
theorem f9:∀(m:Nat)(d i:Int),0<=i->i<=100000->(S.length:Int)-i<=m->zD (λq=>lY q S A d i) λr=>i<=r.2/\(r.2<=i\/r.2<=S.length+1)/\(i<S.length->i<r.2)|m,d,i,h0,h1,hm=>by refine zD.succ ?_;simp only[lY];refine zD.ite (λh=>?_) λh=>zD.ret ⟨by show i<=i;omega,.inl (by show i<=i;omega),λh2=>absurd h2 (of_decide_eq_false h)⟩;have h2:=of_decide_eq_true h;cases m with|zero=>omega|succ m=>have go:∀(d j:Int),i<j->j<=i+2->zD (λq=>lY q S A d j) λr=>i<=r.2/\(r.2<=i\/r.2<=S.length+1)/\(i<S.length->i<r.2):=λd j hj hk=>(f9 m d j (by omega) (by omega) (by omega)).mono λr hr=>⟨by omega,by omega,λ_=>by omega⟩;refine zD.bind ((g6 hS i 123 45 h0 h1).tot (P:=λ_=>True) trivial) λx _=>?_;rw[zR (x:=i+2) (by omega) (by omega),zR (x:=i+1) (by omega) (by omega)];refine zD.ite (λ_=>go _ _ (by omega) (by omega)) λ_=>zD.bind ((g6 hS i 45 125 h0 h1).tot (P:=λ_=>True) trivial) λy _=>?_;refine zD.ite (λ_=>zD.ite (λ_=>zD.ret ⟨by show i<=i+2;omega,.inr (by show i+2<=_;omega),λ_=>by show i<i+2;omega⟩) λ_=>go _ _ (by omega) (by omega)) λ_=>go _ _ (by omega) (by omega)
theorem zGe(hA:A.length=S.length):∀(m:Nat)(i:Int),0<=i->i<=70000->(S.length:Int)-i<=m->zD (λq=>lZ q S A i) λr=>i<=r.2.2/\(r.2.2<=i\/r.2.2<=S.length+1)|m,i,h0,h1,hm=>by refine zD.succ ?_;simp only[lZ,zXW,zXX];refine zD.ite (λh=>?_) λh=>zD.ret ⟨by show i<=i;omega,.inl (by show i<=i;omega)⟩;have h2:=of_decide_eq_true h;cases m with|zero=>omega|succ m=>
 have go:∀(j:Int),i<j->j<=S.length+2->(j<=i\/j<=S.length+1)->zD (λq=>lZ q S A j) λr=>i<=r.2.2/\(r.2.2<=i\/r.2.2<=S.length+1):=λj hj hk hl=>(zGe hA m j (by omega) (by omega) (by omega)).mono λr hr=>⟨by omega,by omega⟩;have ret:∀z:Int×Bool×Int,z.2.2=i->i<=z.2.2/\(z.2.2<=i\/z.2.2<=S.length+1):=λz hz=>⟨by omega,by omega⟩;refine zD.bind ((mA hS i 0 h0 (by omega) (by omega)).tot (P:=λ_=>True) trivial) λx _=>(zMP x).bind λ_ _=>?_;rw[zR (x:=i+1) (by omega) (by omega)];refine zD.ite (λ_=>go _ (by omega) (by omega) (by omega)) λ_=>zD.bind ((g6 hS i 45 45 h0 (by omega)).tot rfl) λy hy=>zD.ite (λh3=>?_) λ_=>?_;·subst hy;simp only[Bool.and_eq_true,beq_iff_eq]at h3;exact(zGf hS (m+1) i h0 (by omega) hm).bind λr hr=>go r (hr.2.2 h2 (by rw[h3.1];decide)) (by omega) (by omega)
 ·refine zD.bind ((g6 hS i 123 45 h0 (by omega)).tot (P:=λ_=>True) trivial) λy _=>zD.ite (λ_=>?_) λ_=>zD.ret (ret _ rfl);refine(f9 hS (m+1) 0 i h0 (by omega) hm).bind λr hr=>zD.ite (λ_=>go _ (hr.2.2 h2) (by omega) (by omega)) λ_=>?_;obtain⟨z,hz,_⟩:=pQ (l:=A) h0 (by omega);exact zD.pure hz (zD.ret ⟨by show i<=r.2;omega,by show r.2<=i\/r.2<=S.length+1;omega⟩)
theorem zQk(i:Int)(h0:0<=i)(h1:i<=70000):zD (λq=>zTC q S A i) λr=>0<=r.2/\r.2<=2:=by simp only[zTC];refine zD.bind ((mA hS i 0 h0 (by omega) (by omega)).tot (P:=λ_=>True) trivial) λx _=>?_;repeat'(first|exact zD.ret (by simp)|refine zD.ite (λ_=>?_) (λ_=>?_)|refine zD.bind ((g6 hS i 45 62 h0 (by omega)).tot (P:=λ_=>True) trivial) (λ_ _=>?_))
theorem zGd(f:Int):∀(m:Nat)(i:Int),0<=f->f<=i->i<=S.length->(S.length:Int)-i<=m->zD (λq=>nC q S A f i) λr=>i<=r.2/\r.2<=S.length|m,i,hf,h0,h1,hm=>by refine zD.succ ?_;simp only[nC];have fin:zD (λq=>uL S f i>>=λx=>zEz q x>>=λr=>some (r.1,i)) λr=>i<=r.2/\r.2<=S.length:=zD.pure (by unfold uL;rw[if_pos ⟨hf,h0,by omega⟩]) ((zGh _ (by rw[List.length_take,List.length_drop];omega)).bind λ_ _=>zD.ret ⟨by show i<=i;omega,h1⟩);refine zD.ite (λh=>?_) λh=>fin;have h2:=of_decide_eq_true h;cases m with|zero=>omega|succ m=>refine zD.bind ((mA hS i 0 (by omega) (by omega) (by omega)).tot (P:=λ_=>True) trivial) λx _=>(i8 x).bind λ_ _=>zD.ite (λ_=>?_) λ_=>fin;rw[zR (x:=i+1) (by omega) (by omega)];exact(zGd f m (i+1) hf (by omega) (by omega) (by omega)).mono λr hr=>⟨by omega,by omega⟩
theorem zGc(f:Int):∀(m:Nat)(i:Int),0<=f->f<=i->i<=S.length->(S.length:Int)-i<=m->zD (λq=>nB q S A f i) λr=>i<=r.2/\r.2<=S.length|m,i,hf,h0,h1,hm=>by refine zD.succ ?_;simp only[nB];have fin:zD (λq=>uL S f i>>=λx=>zEz q x>>=λr=>some (r.1,i)) λr=>i<=r.2/\r.2<=S.length:=zD.pure (by unfold uL;rw[if_pos ⟨hf,h0,by omega⟩]) ((zGh _ (by rw[List.length_take,List.length_drop];omega)).bind λ_ _=>zD.ret ⟨by show i<=i;omega,h1⟩);refine zD.ite (λh=>?_) λh=>fin;have h2:=of_decide_eq_true h;cases m with|zero=>omega|succ m=>refine zD.bind ((mA hS i 0 (by omega) (by omega) (by omega)).tot (P:=λ_=>True) trivial) λx _=>(jJ x).bind λ_ _=>zD.ite (λ_=>?_) λ_=>fin;rw[zR (x:=i+1) (by omega) (by omega)];exact(zGc f m (i+1) hf (by omega) (by omega) (by omega)).mono λr hr=>⟨by omega,by omega⟩
theorem zMQ(hA:A.length=S.length)(i:Int)(h0:0<=i)(h1:i<S.length):zD (λq=>zTD q S A i) λr=>i<=r.2.2/\r.2.2<=S.length+1:=by
 simp only[zTD,F8,i7];obtain⟨z,hz,_⟩:=pQ (l:=A) h0 (by omega);have I:=zGd (A:=A) hS i (S.length-i.toNat) i h0 (by omega) (by omega) (by omega);have D:=zGc (A:=A) hS i (S.length-i.toNat) i h0 (by omega) (by omega) (by omega);have rt:∀(t:zQ)(b:Bool)(j:Int),i<=j/\j<=S.length->zD (λ_=>some (t,b,j)) λr:zQ×Bool×Int=>i<=r.2.2/\r.2.2<=S.length+1:=λt b j hj=>zD.ret ⟨hj.1,by show j<=_;omega⟩;refine zD.pure hz (zD.bind ((mA hS i 0 h0 (by omega) (by omega)).tot (P:=λ_=>True) trivial) λx _=>(iP x).bind λ_ _=>?_);refine zD.ite (λ_=>I.bind λr hr=>(eH _).bind λ_ _=>zD.ite (λ_=>rt _ _ _ hr) λ_=>zD.ite (λ_=>rt _ _ _ hr) λ_=>(sA _).bind λ_ _=>rt _ _ _ hr) λ_=>?_;refine zD.ite (λ_=>I.bind λr hr=>(eH _).bind λ_ _=>zD.ite (λ_=>rt _ _ _ hr) λ_=>zD.ite (λ_=>rt _ _ _ hr) λ_=>(sA _).bind λ_ _=>rt _ _ _ hr) λ_=>(jJ x).bind λ_ _=>?_;refine zD.ite (λ_=>D.bind λr hr=>(i9 _).bind λ_ _=>zD.ite (λ_=>?_) λ_=>rt _ _ _ hr) λ_=>(zQk hS i h0 (by omega)).bind λr hr=>?_;·exact zD.bind ((mA hS r.2 0 (by omega) (by omega) (by omega)).tot (P:=λ_=>True) trivial) λx _=>(i8 x).bind λ_ _=>rt _ _ _ hr
 ·rw[zR (by omega) (by omega)];exact zD.ret ⟨by show i<=i+r.2;omega,by show i+r.2<=_;omega⟩
end
def zMR(l:List zQ):Prop:=1<=l.length/\l.length<=8193/\((l[l.length-1]?).getD default).kind_=5
theorem zCq(s:ByteArray)(r1:List Int×Int×Int)(A:List Int)(hS:r1.1.length<=65535)(hA:A.length=r1.1.length):∀(m:Nat)(acc:List zQ)(i:Int),acc.length<=8192->8192-acc.length<=m->0<=i->i<=r1.1.length+1->zD (λq=>F9 q s r1 A acc i) λr=>r.2.2=0->zMR r.1
 |m,acc,i,ha,hm,h0,h1=>by
  refine zD.succ ?_;simp only[F9,zXY];refine(zGe hS hA r1.1.length i h0 (by omega) (by omega)).bind λr hr=>zD.ite (λ_=>?_) λ_=>zD.ret (by simp);refine zD.ite (λ_=>zD.pure (yA (by simp;omega)) (zD.ret λ_=>⟨by simp,by simp;omega,by simp⟩)) λh=>?_;have h2:=of_decide_eq_false h;refine zD.ite (λ_=>?_) λh=>?_
  ·obtain⟨z,hz,_⟩:=pQ (l:=A) (i:=r.2.2) (by omega) (by omega);exact zD.pure hz (zD.ret (by simp))
  ·have h3:=of_decide_eq_false h;cases m with|zero=>omega|succ m=>refine(zMQ hS hA r.2.2 (by omega) (by omega)).bind λt ht=>zD.ite (λ_=>zD.pure (yA (by simp;omega)) ?_) λ_=>zD.ret (by simp);exact zCq s r1 A hS hA m _ _ (by simp;omega) (by simp;omega) (by omega) (by omega)
theorem zQj(s:ByteArray):zD (λq=>zTE q s) λr=>r.2.2=0->zMR r.1:=by simp only[zTE];refine(zKU s).bind λr hr=>zD.ite (λh=>zD.ret λh2=>?_) λ_=>(zGg r.1 hr).bind λA hA=>zCq s r A hr hA 8192 [] 0 (by simp) (by simp) (by omega) (by omega);have h2:r.2.2=0:=h2;rw[h2]at h;cases h
mutual def zMS:Nat->zG->Int->Option (Int)|0,_,_=>none|c+1,a,d=>cI c a (yB (d+1)) 0 def cI:Nat->zG->Int->Int->Option (Int)
 |0,_,_,_=>none|c+1,a,e,b=>if decide (b<(a.sub_.length:Int))then zL a.sub_ b>>=λx2=>if decide (e>8192)then some e else zMS c x2 e>>=λr5=>cI c a r5 (yB (b+1))else some e end
theorem zGb:∀c:Nat,(∀a d,Cz (zMS c a d) 312 [] [xB a,ai d] (λr=>ai r) (λ_=>[]) 0)/\(∀a e b,Lz (cI c a e b) 0 f312 (pt 4021 f312) (λj=>sp j 23 0 [(1,ai e),(10,zC zK a.sub_ .no),(11,ai (a.sub_.length:Int)),(12,ai b)]) ⟨[],0,[],0,[]⟩ (λr=>ai r) (λ_=>[]) 0 [.blk 0,.seq (pt 63 f312)]):=yS ⟨λ_ _=>cN,λ_ _ _=>lN⟩ λc ih=>⟨λa d=>fw func312<|fH 3 [] [] [] [1,10,11,12] (ih.2 _ _ _),λa e b=>lw λ_=>rB 0 (rA 0 (zFJ (o:=.no)) λ_=>rB 2 (lE 0)<|rC 1 [] (ih.1 _ _) λ_=>lH 1 [] [] [] [1,10,11,12] (ih.2 _ _ _))<|lE 0⟩
theorem yDa{c a d}:Cz (zMS c a d) 312 [] [xB a,ai d] (λr=>ai r) (λ_=>[]) 0:=(zGb _).1 _ _
def zXZ(b:Nat)(a:zG):Option (Int):=zMS b a 0>>=λr1=>some r1
theorem yDA{b a}:Cz (zXZ b a) 276 [] [xB a] (λr=>ai r) (λ_=>[]) 0:=fw func276<|rC 1 [] yDa λ_=>fE 0
mutual def zMT:Nat->zG->Int->Option (Int)
 |0,_,_=>none|d+1,b,a=>if decide (a>128)then some a else cJ d b a 0 a def cJ:Nat->zG->Int->Int->Int->Option (Int)
 |0,_,_,_,_=>none|d+1,b,a,c,e=>if decide (c<(b.sub_.length:Int))then zL b.sub_ c>>=λx3=>zMT d x3 (yB (a+1))>>=λr5=>cJ d b a (yB (c+1)) (nI e r5)else some e end
theorem zGa:∀d:Nat,(∀b a,Cz (zMT d b a) 277 [] [xB b,ai a] (λr=>ai r) (λ_=>[]) 0)/\(∀b a c e,Lz (cJ d b a c e) 0 f277 (pt 16309 f277) (λj=>sp j 27 0 [(1,ai a),(5,ai e),(13,zC zK b.sub_ .no),(14,ai (b.sub_.length:Int)),(15,ai c)]) ⟨[],0,[],0,[]⟩ (λr=>ai r) (λ_=>[]) 0 [.blk 0,.seq (pt 255 f277)]):=yS ⟨λ_ _=>cN,λ_ _ _ _=>lN⟩ λd ih=>⟨λb a=>fw func277<|rB 0 (fE 0)<|fH 2 [] [] [] [1,5,13,14,15] (ih.2 _ _ _ _),λb a c e=>lw λ_=>rB 0 (rA 0 (zFJ (o:=.no)) λ_=>rC 4 [] (ih.1 _ _) λ_=>lH 2 [] [] [] [1,5,13,14,15] (ih.2 _ _ _ _))<|lE 0⟩
theorem yDB{d b a}:Cz (zMT d b a) 277 [] [xB b,ai a] (λr=>ai r) (λ_=>[]) 0:=(zGa _).1 _ _
def zQi(b:Nat)(a:zG):Option (Int):=zXZ b a>>=λr1=>if decide (r1>8192)then some 129 else zMT b a 1>>=λr4=>some r4
theorem yAU{b a}:Cz (zQi b a) 234 [] [xB a] (λr=>ai r) (λ_=>[]) 0:=fw func234<|rC 1 [] yDA λ_=>rB 0 (fE 0)<|rC 1 [] yDB λ_=>fE 0
def zQh(b:Nat)(a:zG):Option (Bool):=zQi b a>>=λr1=>some (decide (r1<=128))
theorem yAV{b a}:Cz (zQh b a) 181 [] [xB a] (λr=>ab r) (λ_=>[]) 0:=fw func181<|rC 1 [] yAU λ_=>fE 1
def zTG(b:Nat)(a:Int):Option (Int):=if decide (a<1)then some (-2)else if decide (a>10)then some (-2)else zL ([0,0,0,2,2,2,0,0,(-1),0,1]:yH) a>>=λx3=>some x3
theorem yDC{b a}:Cz (zTG b a) 283 [] [ai a] (λr=>ai r) (λ_=>[]) 0:=fw func283<|rB 0 (fE 0)<|rB 0 (fE 0)<|rW (λh4=>oA 0 (zPc h4 rfl)) λ_=>fE 0
def zIU(b:Nat)(a:zG):Option (Bool):=if a.kind_==1 then iM b a.name_>>=λr2=>some r2 else if a.kind_==6 then iM b a.name_>>=λr5=>some r5 else if a.kind_==8 then iM b a.name_>>=λr8=>some r8 else if a.kind_==3 then if a.name_.toList==(⟨#[95]⟩:ByteArray).toList then some true else iM b a.name_>>=λr12=>some r12 else if a.kind_==4 then if a.name_.toList==(⟨#[95]⟩:ByteArray).toList then some true else iM b a.name_>>=λr16=>some r16 else some (a.name_.toList==(⟨#[]⟩:ByteArray).toList)
theorem zTH{b a}:Cz (zIU b a) 284 [] [xB a] (λr=>ab r) (λ_=>[]) 0:=fw func284<|rB 1 (rC 1 [] N5 λ_=>fE 0)<|rB 0 (rC 1 [] N5 λ_=>fE 0)<|rB 0 (rC 1 [] N5 λ_=>fE 0)<|rB 0 (rB 1 (fE 0)<|rC 1 [] N5 λ_=>fE 0)<|rB 0 (rB 1 (fE 0)<|rC 1 [] N5 λ_=>fE 0)<|fE 2
def zQg(b:Nat)(a:zG):Option (Bool):=zTG b a.kind_>>=λr1=>if r1==(-2)then some false else if decide (r1>=0)then if(a.sub_.length:Int)!=r1 then some false else if r1==(-1)then if(a.sub_.length:Int)==0 then some false else zIU b a>>=λr8=>if r8 then if a.kind_==2 then if decide (a.n_>=0)then some (decide (a.n_<=7))else some false else some (a.n_==0)else some false else zIU b a>>=λr13=>if r13 then if a.kind_==2 then if decide (a.n_>=0)then some (decide (a.n_<=7))else some false else some (a.n_==0)else some false else if r1==(-1)then if(a.sub_.length:Int)==0 then some false else zIU b a>>=λr20=>if r20 then if a.kind_==2 then if decide (a.n_>=0)then some (decide (a.n_<=7))else some false else some (a.n_==0)else some false else zIU b a>>=λr25=>if r25 then if a.kind_==2 then if decide (a.n_>=0)then some (decide (a.n_<=7))else some false else some (a.n_==0)else some false
theorem yAW{b a}:Cz (zQg b a) 241 [] [xB a] (λr=>ab r) (λ_=>[]) 0:=fw func241<|rC 1 [] yDC λ_=>rB 0 (fE 0)<|rB 0 (rB 2 (fE 0)<|rB 0 (rB 2 (fE 0)<|rK 1 [] zTH (λ_=>rB 2 (rB 1 (fE 2)<|fE 0)<|fE 2) λ_=>fE 1)<|rK 1 [] zTH (λ_=>rB 2 (rB 1 (fE 2)<|fE 0)<|fE 2) λ_=>fE 1)<|rB 0 (rB 2 (fE 0)<|rK 1 [] zTH (λ_=>rB 2 (rB 1 (fE 2)<|fE 0)<|fE 2) λ_=>fE 1)<|rK 1 [] zTH (λ_=>rB 2 (rB 1 (fE 2)<|fE 0)<|fE 2) λ_=>fE 1
mutual def zGA:Nat->zG->Bool->Option (Bool)
 |0,_,_=>none|c+1,a,d=>if d then zQg c a>>=λr1=>if r1 then if !(decide (a.kind_>=6)==true)then some false else kA c a true 0 else some false else zQg c a>>=λr5=>if r5 then if !(decide (a.kind_>=6)==false)then some false else kA c a false 0 else some false def kA:Nat->zG->Bool->Int->Option (Bool)
 |0,_,_,_=>none|c+1,a,e,b=>if e then if decide (b<(a.sub_.length:Int))then zL a.sub_ b>>=λx6=>zGA c x6 (a.kind_ !=10)>>=λr8=>if r8 then kA c a true (yB (b+1))else some false else some true else if decide (b<(a.sub_.length:Int))then zL a.sub_ b>>=λx12=>zGA c x12 false>>=λr14=>if r14 then kA c a false (yB (b+1))else some false else some true end
theorem zGB:∀c:Nat,(∀a d,Cz (zGA c a d) 182 [] [xB a,ab d] (λr=>ab r) (λ_=>[]) 0)/\(∀a e b,Lz (kA c a e b) 0 f182 (pt 4021 f182) (λj=>sp j 34 0 [(1,ab e),(2,.mp 0 0),(18,zC zK a.sub_ .no),(19,ai (a.sub_.length:Int)),(20,ai b)]) ⟨[(0,.cells [ai a.kind_,ai a.at_,at' a.name_,ai a.n_,zC zK a.sub_ .no])],1,[],0,[]⟩ (λr=>ab r) (λ_=>[]) 0 [.blk 0,.seq (pt 63 f182)]):=yS ⟨λ_ _=>cN,λ_ _ _=>lN⟩ λc ih=>⟨λa d=>fw func182<|rI (λhb=>by subst hb;exact rK 1 [] yAW (λ_=>rB 3 (fE 0)<|fH 2 [] [0] [] [1,2,18,19,20] (ih.2 _ _ _)) λ_=>fE 1) λhb=>by subst hb;exact rK 1 [] yAW (λ_=>rB 3 (fE 0)<|fH 2 [] [0] [] [1,2,18,19,20] (ih.2 _ _ _)) λ_=>fE 1,λa e b=>lw λ_=>rI (λhb=>by subst hb;exact rB 0 (rA 0 (zFJ (o:=.no)) λ_=>rK 5 [] (ih.1 _ _) (λ_=>lH 2 [] [0] [] [1,2,18,19,20] (ih.2 _ _ _)) λ_=>lE 1)<|lE 0) λhb=>by subst hb;exact rB 0 (rA 0 (zFJ (o:=.no)) λ_=>rK 3 [] (ih.1 _ _) (λ_=>lH 2 [] [0] [] [1,2,18,19,20] (ih.2 _ _ _)) λ_=>lE 1)<|lE 0⟩
theorem yAX{c a d}:Cz (zGA c a d) 182 [] [xB a,ab d] (λr=>ab r) (λ_=>[]) 0:=(zGB _).1 _ _
def zIV(b:Nat)(a:zG):Option (Bool):=zQh b a>>=λr1=>if r1 then zGA b a false>>=λr4=>some r4 else some false
theorem zTI{b a}:Cz (zIV b a) 117 [] [xB a] (λr=>ab r) (λ_=>[]) 0:=fw func117<|rK 1 [] yAV (λ_=>rC 1 [] yAX λ_=>fE 0) λ_=>fE 0
def cL:Nat->(List zM)->Int->Int->Option (Bool)
 |0,_,_,_=>none|c+1,a,b,d=>if decide (d<(a.length:Int))then zL a d>>=λx2=>if decide ((a.length:Int)>b)then some false else iM c x2.name_>>=λr5=>if r5 then zIV c x2.type_>>=λr8=>if r8 then cL c a b (yB (d+1))else some false else some false else some true
def zQf(c:Nat)(a:List zM)(b:Int):Option (Bool):=cL c a b 0
theorem zTJ:∀c:Nat,∀a b d,Lz (cL c a b d) 0 f118 (pt 949 f118) (λj=>sp j 30 0 [(0,zC zF a .no),(1,ai b),(7,zC zF a .no),(8,ai (a.length:Int)),(9,ai d)]) ⟨[],0,[],0,[]⟩ (λr=>ab r) (λ_=>[]) 0 [.blk 0,.seq (pt 15 f118)]:=yS (λ_ _ _=>lN) λc ih=>λa b d=>lw λ_=>rB 0 (rA 0 (zIJ (o:=.no)) λ_=>rB 3 (lE 0)<|rK 1 [] N5 (λ_=>rK 2 [] zTI (λ_=>lH 2 [] [] [] [0,1,7,8,9] (ih _ _ _)) λ_=>lE 1) λ_=>lE 1)<|lE 0
theorem yAY{c a b}:Cz (zQf c a b) 118 [] [zC zF a .no,ai b] (λr=>ab r) (λ_=>[]) 0:=fw func118<|fH 1 [] [] [] [0,1,7,8,9] (zTJ _ _ _ _)
def zTK(b:Nat)(a:zG):Option (Bool):=zQh b a>>=λr1=>if r1 then zGA b a true>>=λr4=>some r4 else some false
theorem yDD{b a}:Cz (zTK b a) 183 [] [xB a] (λr=>ab r) (λ_=>[]) 0:=fw func183<|rK 1 [] yAV (λ_=>rC 1 [] yAX λ_=>fE 0) λ_=>fE 0
def cM:Nat->yO->Int->Option (Bool)
 |0,_,_=>none|c+1,a,b=>if decide (b<(a.pats_.length:Int))then zL a.pats_ b>>=λx3=>zTK c x3>>=λr5=>if r5 then cM c a (yB (b+1))else some false else if a.has_ then zIV c a.body_>>=λr9=>some r9 else if a.body_.kind_==0 then if a.body_.at_==0 then if a.body_.name_.toList==(⟨#[]⟩:ByteArray).toList then if a.body_.n_==0 then some ((a.body_.sub_.length:Int)==0)else some false else some false else some false else some false
def zYz(c:Nat)(a:yO):Option (Bool):=if decide ((a.pats_.length:Int)>24)then some false else cM c a 0
theorem zTL:∀c:Nat,∀a b,Lz (cM c a b) 0 f119 (pt 4021 f119) (λj=>sp j 52 0 [(1,.mp 0 0),(11,zC zK a.pats_ .no),(12,ai (a.pats_.length:Int)),(13,ai b)]) ⟨[(0,.cells [ai a.at_,zC zK a.pats_ .no,ab a.has_,ai a.body_.kind_,ai a.body_.at_,at' a.body_.name_,ai a.body_.n_,zC zK a.body_.sub_ .no])],1,[],0,[]⟩ (λr=>ab r) (λ_=>[]) 0 [.blk 0,.seq (pt 63 f119)]:=yS (λ_ _=>lN) λc ih=>λa b=>lw λ_=>rB 0 (rA 0 (zFJ (o:=.no)) λ_=>rK 3 [] yDD (λ_=>lH 2 [] [0] [] [1,11,12,13] (ih _ _)) λ_=>lE 1)<|rB 0 (rC 1 [] zTI λ_=>lE 0)<|rB 3 (rB 1 (rB 1 (rB 1 (lE 3)<|lE 0)<|lE 0)<|lE 0)<|lE 0
theorem yDE{c a}:Cz (zYz c a) 119 [] [zFF a] (λr=>ab r) (λ_=>[]) 0:=fw func119<|rB 2 (fE 0)<|fH 2 [] [0] [] [1,11,12,13] (zTL _ _ _)
def kP:Nat->xD->Int->Option (Bool)|0,_,_=>none|b+1,a,c=>if decide (c<(a.rows_.length:Int))then zL a.rows_ c>>=λx21=>zYz b x21>>=λr23=>if r23 then kP b a (yB (c+1))else some false else some true
def e56(b:Nat)(a:xD):Option (Bool):=if decide (a.kind_<1)then some false else if decide (a.kind_>3)then some false else iM b a.name_>>=λr3=>if r3 then zIV b a.type_>>=λr6=>if r6 then zQf b a.tele_ 24>>=λr9=>if r9 then zQf b a.cons_ 16>>=λr12=>if r12 then if a.kind_==3 then if decide ((yB ((a.tele_.length:Int)+(a.cons_.length:Int)))>0)then some false else if a.kind_ !=3 then if decide ((a.rows_.length:Int)>0)then some false else if decide ((a.rows_.length:Int)>32)then some false else kP b a 0 else if decide ((a.rows_.length:Int)>32)then some false else kP b a 0 else if a.kind_ !=3 then if decide ((a.rows_.length:Int)>0)then some false else if decide ((a.rows_.length:Int)>32)then some false else kP b a 0 else if decide ((a.rows_.length:Int)>32)then some false else kP b a 0 else some false else some false else some false else some false
theorem zEy:∀b:Nat,∀a c,Lz (kP b a c) 0 f56 (pt 16309 f56) (λj=>sp j 78 0 [(68,zC zY a.rows_ .no),(69,ai (a.rows_.length:Int)),(70,ai c)]) ⟨[],0,[],0,[]⟩ (λr=>ab r) (λ_=>[]) 0 [.blk 0,.seq (pt 255 f56)]:=yS (λ_ _=>lN) λb ih=>λa c=>lw λ_=>rB 0 (rA 0 (yDx (o:=.no)) λ_=>rK 3 [] yDE (λ_=>lH 2 [] [] [] [68,69,70] (ih _ _)) λ_=>lE 1)<|lE 0
theorem c56{b a}:Cz (e56 b a) 56 [] [N1 a] (λr=>ab r) (λ_=>[]) 0:=fw func56<|rB 1 (fE 0)<|rB 1 (fE 0)<|rK 1 [] N5 (λ_=>rK 2 [] zTI (λ_=>rK 2 [] yAY (λ_=>rK 2 [] yAY (λ_=>rB 2 (rB 5 (fE 0)<|rB 1 (rB 2 (fE 0)<|rB 2 (fE 0)<|fH 2 [] [] [] [68,69,70] (zEy _ _ _))<|rB 2 (fE 0)<|fH 2 [] [] [] [68,69,70] (zEy _ _ _))<|rB 1 (rB 2 (fE 0)<|rB 2 (fE 0)<|fH 2 [] [] [] [68,69,70] (zEy _ _ _))<|rB 2 (fE 0)<|fH 2 [] [] [] [68,69,70] (zEy _ _ _)) λ_=>fE 1) λ_=>fE 1) λ_=>fE 1) λ_=>fE 1
mutual def cO:zG->Prop|.mk _ _ _ _ l=>l.length<=1099511627776/\zBh l def zBh:List zG->Prop|[]=>True|t::l=>cO t/\zBh l end
mutual def ndN:zG->Nat|.mk _ _ _ _ l=>1+ndL l def ndL:List zG->Nat|[]=>0|t::l=>ndN t+ndL l end
inductive XOk:zG->Prop where|leaf{k a n m l}(h:k=1\/k=2):XOk (.mk k a n m l)|two{k a n m x y}(h:k=3\/k=4\/k=5)(hx:XOk x)(hy:XOk y):XOk (.mk k a n m [x,y])
def xL:List zG->Prop|[]=>True|x::l=>XOk x/\xL l
mutual theorem zCp:∀(t:zG)(h:Int),cO t->0<=h->h<=8192->zD (λq=>zMS q t h) λr=>h<r/\r<=8193/\(r<=8192->h+ndN t<=r)|.mk k a n m l,h,ho,h0,h1=>by refine zD.succ ?_;simp only[zMS];rw[zR (by omega) (by omega)];refine(d7 l (.mk k a n m l) 0 (h+1) rfl ho.1 ho.2 (by omega) (by omega)).mono λr hr=>⟨by omega,hr.2.1,λh2=>?_⟩;have:=hr.2.2 h2;rw[ndN];omega theorem d7:∀(l:List zG)(p:zG)(v:Nat)(h:Int),p.sub_.drop v=l->p.sub_.length<=1099511627776->zBh l->0<=h->h<=8193->zD (λq=>cI q p h (v:Int)) λr=>h<=r/\r<=8193/\(r<=8192->h+ndL l<=r)
 |[],p,v,h,hd,hl,ho,h0,h1=>by refine zD.succ ?_;simp only[cI];refine zD.ite (λh=>?_) λ_=>zD.ret ⟨by omega,h1,λ_=>by rw[ndL];omega⟩;rw[zZ hd]at h;cases h|t::l,p,v,h,hd,hl,ho,h0,h1=>by
  have:=yC hd;refine zD.succ ?_;simp only[cI];refine zD.ite (λ_=>zD.pure (zU hd) (zD.ite (λh2=>zD.ret ⟨by omega,h1,λh3=>absurd h3 (by have:=of_decide_eq_true h2;omega)⟩) λh2=>?_)) λh=>by rw[zX hd]at h;cases h
  have h3:=of_decide_eq_false h2;refine(zCp t h ho.1 h0 (by omega)).bind λr hr=>?_;rw[zS v (by omega)];refine(d7 l p (v+1) r (zP hd) hl ho.2 (by omega) hr.2.1).mono λs hs=>⟨by omega,hs.2.1,λh4=>?_⟩;have:=hs.2.2 h4;have:=hr.2.2 (by omega);rw[ndL];omega end
mutual theorem zCo:∀(t:zG)(a:Int),cO t->zD (λq=>zMT q t a) λ_=>True|.mk k b n m l,a,ho=>by refine zD.succ ?_;simp only[zMT];exact zD.ite (λ_=>zD.ret trivial) λ_=>d8 l (.mk k b n m l) 0 a a rfl ho.1 ho.2 theorem d8:∀(l:List zG)(p:zG)(v:Nat)(a m:Int),p.sub_.drop v=l->p.sub_.length<=1099511627776->zBh l->zD (λq=>cJ q p a (v:Int) m) λ_=>True
 |[],p,v,a,m,hd,hl,ho=>by refine zD.succ ?_;simp only[cJ];refine zD.ite (λh=>?_) λ_=>zD.ret trivial;rw[zZ hd]at h;cases h|t::l,p,v,a,m,hd,hl,ho=>by
  have:=yC hd;refine zD.succ ?_;simp only[cJ];refine zD.ite (λ_=>zD.pure (zU hd) ((zCo t _ ho.1).bind λr _=>?_)) λh=>by rw[zX hd]at h;cases h
  rw[zS v (by omega)];exact d8 l p (v+1) a _ (zP hd) hl ho.2 end
theorem d9(t:zG)(ho:cO t):zD (λq=>zQi q t) λr=>r<=128->ndN t<=8192:=by simp only[zQi,zXZ];refine((zCp t 0 ho (by omega) (by omega)).bind (Q:=λr:Int=>r<=8192->ndN t<=8192) λr hr=>zD.ret λh=>by have:=hr.2.2 h;omega).bind λr hr=>zD.ite (λ_=>zD.ret λh=>absurd h (by decide)) λh=>?_;have h2:=of_decide_eq_false h;exact(zCo t 1 ho).bind λs _=>zD.ret λ_=>hr (by omega)
theorem zCn(t:zG)(ho:cO t):zD (λq=>zQh q t) λb=>b=true->ndN t<=8192:=by simp only[zQh];exact(d9 t ho).bind λr hr=>zD.ret λh=>hr (of_decide_eq_true h)
theorem zMU(k:Int):zD (λq=>zTG q k) λr=>(k=3\/k=4\/k=5->r=2)/\(k<1\/10<k->r=-2):=by
 simp only[zTG];refine zD.ite (λh=>zD.ret ⟨λh2=>absurd (of_decide_eq_true h) (by omega),λ_=>rfl⟩) λh=>zD.ite (λh=>zD.ret ⟨λh2=>absurd (of_decide_eq_true h) (by omega),λ_=>rfl⟩) λh2=>?_;have h3:=of_decide_eq_false h;have h4:=of_decide_eq_false h2;have:k=1\/k=2\/k=3\/k=4\/k=5\/k=6\/k=7\/k=8\/k=9\/k=10:=by omega
 rcases this with rfl|rfl|rfl|rfl|rfl|rfl|rfl|rfl|rfl|rfl<;>exact zD.pure rfl (zD.ret (by decide))
theorem zCm(t:zG):zD (λq=>zIU q t) λ_=>True:=by simp only[zIU];repeat'(first|exact zD.ret trivial|refine zD.ite (λ_=>?_) (λ_=>?_)|refine zD.bind (sA _) (λ_ _=>?_))
theorem zCl(t:zG):zD (λq=>zQg q t) λb=>b=true->(1<=t.kind_/\t.kind_<=10)/\(t.kind_=3\/t.kind_=4\/t.kind_=5->t.sub_.length=2):=by
 simp only[zQg];refine(zMU t.kind_).bind λr hr=>zD.ite (λ_=>zD.ret (by simp)) λh=>?_;have h1:r≠-2:=by simpa using h
 have k1:1<=t.kind_/\t.kind_<=10:=⟨Int.not_lt.1 λh=>h1 (hr.2 (.inl h)),Int.not_lt.1 λh=>h1 (hr.2 (.inr h))⟩;have go:((t.kind_=3\/t.kind_=4\/t.kind_=5)->t.sub_.length=2)->∀b:Bool,zD (λ_=>some b) λb=>b=true->(1<=t.kind_/\t.kind_<=10)/\(t.kind_=3\/t.kind_=4\/t.kind_=5->t.sub_.length=2):=λh b=>zD.ret λ_=>⟨k1,h⟩;refine zD.ite (λh2=>zD.ite (λ_=>zD.ret (by simp)) λh3=>?_) λh2=>?_
 ·have h4:(t.sub_.length:Int)=r:=by simpa using h3
  have e:(t.kind_=3\/t.kind_=4\/t.kind_=5)->t.sub_.length=2:=λh=>by have:=hr.1 h;omega
  repeat'(first|exact go e _|refine zD.ite (λ_=>?_) (λ_=>?_)|refine zD.bind (zCm _) (λ_ _=>?_))
 ·have e:(t.kind_=3\/t.kind_=4\/t.kind_=5)->t.sub_.length=2:=λh=>by have:=hr.1 h;have:=of_decide_eq_false h2;omega
  repeat'(first|exact go e _|refine zD.ite (λ_=>?_) (λ_=>?_)|refine zD.bind (zCm _) (λ_ _=>?_))
mutual theorem cP:∀(t:zG)(p:Bool),cO t->zD (λq=>zGA q t p) λb=>b=true->p=false->XOk t|.mk k a n m l,p,ho=>by refine zD.succ ?_;simp only[zGA];cases p with|true=>refine zD.ite (λ_=>(zCl _).bind λ_ _=>zD.ite (λ_=>zD.ite (λ_=>zD.ret (by simp)) λ_=>?_) λ_=>zD.ret (by simp)) λh=>nomatch h;exact(iQ l (.mk k a n m l) 0 true rfl ho.1 ho.2).mono λ_ _ _ h=>nomatch h|false=>
  refine zD.ite (λh=>nomatch h) λ_=>(zCl _).bind λb hb=>zD.ite (λh1=>zD.ite (λ_=>zD.ret (by simp)) λh2=>?_) λ_=>zD.ret (by simp);refine(iQ l (.mk k a n m l) 0 false rfl ho.1 ho.2).mono λc hc h3 _=>?_;have hk:=hb h1;have hx:=hc h3 rfl;simp only[zG.kind_,zG.sub_]at hk h2;have h4:k<6:=by simpa using h2
  have:(k=1\/k=2)\/(k=3\/k=4\/k=5):=by omega
  rcases this with h5|h5;·exact .leaf h5
  ·have hl:=hk.2 h5;match l,hl,hx with|[x,y],_,hx=>exact .two h5 hx.1 hx.2.1 theorem iQ:∀(l:List zG)(t:zG)(v:Nat)(p:Bool),t.sub_.drop v=l->t.sub_.length<=1099511627776->zBh l->zD (λq=>kA q t p (v:Int)) λb=>b=true->p=false->xL l
 |[],t,v,p,hd,hl,ho=>by refine zD.succ ?_;simp only[kA];cases p<;>refine zD.ite (λh=>zD.ite (λh=>?_) λ_=>zD.ret λ_ _=>trivial) λh=>zD.ite (λh=>?_) λ_=>zD.ret λ_ _=>trivial<;>first|(rw[zZ hd]at h;cases h)|cases h
 |x::l,t,v,p,hd,hl,ho=>by have:=yC hd;refine zD.succ ?_;simp only[kA];rw[zS v (by omega)];cases p with|true=>refine zD.ite (λ_=>zD.ite (λ_=>zD.pure (zU hd) ((cP x _ ho.1).bind λ_ _=>zD.ite (λ_=>?_) λ_=>zD.ret (by simp))) λh=>by rw[zX hd]at h;cases h) λh=>nomatch h;exact(iQ l t (v+1) true (zP hd) hl ho.2).mono λ_ _ _ h=>nomatch h|false=>
  refine zD.ite (λh=>nomatch h) λ_=>zD.ite (λ_=>zD.pure (zU hd) ((cP x _ ho.1).bind λb hb=>zD.ite (λh1=>?_) λ_=>zD.ret (by simp))) λh=>by rw[zX hd]at h;cases h
  exact(iQ l t (v+1) false (zP hd) hl ho.2).mono λc hc h2 h3=>⟨hb h1 rfl,hc h2 h3⟩end
theorem G5(t:zG)(ho:cO t):zD (λq=>zIV q t) λb=>b=true->XOk t/\ndN t<=8192:=by simp only[zIV];exact(zCn t ho).bind λb hb=>zD.ite (λh=>(cP t false ho).bind λc hc=>zD.ret λh2=>⟨hc h2 rfl,hb h⟩) λ_=>zD.ret (by simp)
theorem zGC(t:zG)(ho:cO t):zD (λq=>zTK q t) λ_=>True:=by simp only[zTK];exact(zCn t ho).bind λb hb=>zD.ite (λh=>(cP t true ho).bind λc hc=>zD.ret trivial) λ_=>zD.ret trivial
def bOk(l:List zM):Prop:=∀b∈l,cO b.type_
theorem b8(most:Int):∀(r l:List zM)(v:Nat),l.drop v=r->l.length<=1099511627776->bOk l->zD (λq=>cL q l most (v:Int)) λb=>b=true->r≠[]->l.length<=most
 |[],l,v,hd,hl,ho=>by refine zD.succ ?_;simp only[cL];refine zD.ite (λh=>?_) λ_=>zD.ret λ_ h=>absurd rfl h;rw[zZ hd]at h;cases h|x::r,l,v,hd,hl,ho=>by
  have:=yC hd;have hm:x∈l:=List.mem_of_mem_drop (hd▸List.mem_cons_self ..);refine zD.succ ?_;simp only[cL];refine zD.ite (λ_=>zD.pure (zU hd) (zD.ite (λ_=>zD.ret (by simp)) λh=>(sA _).bind λ_ _=>zD.ite (λ_=>(G5 _ (ho x hm)).bind λ_ _=>zD.ite (λ_=>?_) λ_=>zD.ret (by simp)) λ_=>zD.ret (by simp))) λh=>by rw[zX hd]at h;cases h
  rw[zS v (by omega)];have h2:=of_decide_eq_false h;exact(b8 most r l (v+1) (zP hd) hl ho).mono λ_ _ _ _=>by omega
theorem zCk(l:List zM)(most:Int)(hm:0<=most)(hl:l.length<=1099511627776)(ho:bOk l):zD (λq=>zQf q l most) λb=>b=true->l.length<=most:=by simp only[zQf];refine(b8 most l l 0 rfl hl ho).mono λb hb h=>?_;cases l with|nil=>exact hm|cons x l=>exact hb h (by simp)
def G6(r:yO):Prop:=r.pats_.length<=1099511627776/\(∀p∈r.pats_,cO p)/\cO r.body_
theorem zCj(x:yO)(ho:G6 x):∀(r:List zG)(v:Nat),x.pats_.drop v=r->zD (λq=>cM q x (v:Int)) λ_=>True
 |[],v,hd=>by
  refine zD.succ ?_;simp only[cM];refine zD.ite (λh=>?_) λ_=>?_;·rw[zZ hd]at h;cases h
  ·repeat'(first|exact zD.ret trivial|refine zD.ite (λ_=>?_) (λ_=>?_)|refine zD.bind (G5 _ ho.2.2) (λ_ _=>?_))|y::r,v,hd=>by
  have:=yC hd;have:=ho.1;have hm:y∈x.pats_:=List.mem_of_mem_drop (hd▸List.mem_cons_self ..);refine zD.succ ?_;simp only[cM];refine zD.ite (λ_=>zD.pure (zU hd) ((zGC _ (ho.2.1 y hm)).bind λ_ _=>zD.ite (λ_=>?_) λ_=>zD.ret trivial)) λh=>by rw[zX hd]at h;cases h
  rw[zS v (by omega)];exact zCj x ho r (v+1) (zP hd)
def dOk(d:xD):Prop:=cO d.type_/\(d.tele_.length<=100000/\bOk d.tele_)/\(d.cons_.length<=100000/\bOk d.cons_)/\d.rows_.length<=100000/\∀r∈d.rows_,G6 r
theorem b9(d:xD)(ho:dOk d):∀(r:List yO)(v:Nat),d.rows_.drop v=r->zD (λq=>kP q d (v:Int)) λ_=>True
 |[],v,hd=>by refine zD.succ ?_;simp only[kP];refine zD.ite (λh=>?_) λ_=>zD.ret trivial;rw[zZ hd]at h;cases h|y::r,v,hd=>by
  have:=yC hd;have:=ho.2.2.2.1;have hm:y∈d.rows_:=List.mem_of_mem_drop (hd▸List.mem_cons_self ..);refine zD.succ ?_;simp only[kP,zYz];refine zD.ite (λ_=>zD.pure (zU hd) (zD.bind (P:=λ_=>True) (zD.ite (λ_=>zD.ret trivial) λ_=>zCj y (ho.2.2.2.2 y hm) y.pats_ 0 rfl) λ_ _=>zD.ite (λ_=>?_) λ_=>zD.ret trivial)) λh=>by rw[zX hd]at h;cases h
  rw[zS v (by omega)];exact b9 d ho r (v+1) (zP hd)
theorem zMV(d:xD)(ho:dOk d):zD (λq=>e56 q d) λb=>b=true->d.tele_.length<=24/\d.cons_.length<=16:=by simp only[e56];have F:zD (λ_=>some false) λb=>b=true->d.tele_.length<=24/\d.cons_.length<=16:=zD.ret (by simp);refine zD.ite (λ_=>F) λ_=>zD.ite (λ_=>F) λ_=>(sA _).bind λ_ _=>zD.ite (λ_=>(G5 _ ho.1).bind λ_ _=>zD.ite (λ_=>(zCk _ 24 (by omega) (by have:=ho.2.1.1;omega) ho.2.1.2).bind λa ha=>zD.ite (λh1=>(zCk _ 16 (by omega) (by have:=ho.2.2.1.1;omega) ho.2.2.1.2).bind λb hb=>zD.ite (λh2=>?_) λ_=>F) λ_=>F) λ_=>F) λ_=>F;have L:zD (λq=>kP q d 0) λb=>b=true->d.tele_.length<=24/\d.cons_.length<=16:=(b9 d ho d.rows_ 0 rfl).mono λ_ _ _=>⟨by have:=ha h1;omega,by have:=hb h2;omega⟩;repeat'(first|exact F|exact L|refine zD.ite (λ_=>?_) (λ_=>?_))
def V7(g:Nat)(c:List zQ)(d b a e f:Int):Option (Int×Int):=if a==0 then some (f,e)else some (b,a)
theorem zEx{g c d b a e f}:Cz (V7 g c d b a e f) 106 [.cells [zC zI c .no,ai d,ai b,ai a]] [.mp 0 0,ai e,ai f] (λ_=>.tup []) (λr=>[.cells [zC zI c .no,ai d,ai r.1,ai r.2]]) 0:=fw func106<|rB 1 (fE 2)<|fE 0
def cQ(f:Nat)(a:List zQ)(c d b e:Int):Option (zQ):=if decide ((yB (c+e))>=(a.length:Int))then zL a (yB ((a.length:Int)-1))>>=λx2=>some x2 else zL a (yB (c+e))>>=λx4=>some x4
theorem B2{f a c d b e}:Cz (cQ f a c d b e) 54 [.cells [zC zI a .no,ai c,ai d,ai b]] [.mp 0 0,ai e] (λr=>S4 r) (λ_=>[.cells [zC zI a .no,ai c,ai d,ai b]]) 0:=fw func54<|rB 4 (rA 4 (zWN (o:=.no)) λ_=>fE 2)<|rA 3 (zWN (o:=.no)) λ_=>fE 2
def zMW(f:Nat)(c:List zQ)(d b a e:Int):Option (Bool):=cQ f c d b a e>>=λr1=>if r1.kind_==1 then cQ f c d b a e>>=λr4=>some (!(r4.text_.toList==(⟨#[95]⟩:ByteArray).toList))else some false
theorem zYy{f c d b a e}:Cz (zMW f c d b a e) 173 [.cells [zC zI c .no,ai d,ai b,ai a]] [.mp 0 0,ai e] (λr=>ab r) (λ_=>[.cells [zC zI c .no,ai d,ai b,ai a]]) 0:=fw func173<|rC 0 [0] B2 λ_=>rB 0 (rC 0 [0] B2 λ_=>fE 1)<|fE 0
def zAz(e:Nat)(d:List zQ)(c b a:Int):Option (ByteArray×Int×Int×Int):=zMW e d c b a 0>>=λr1=>if r1 then if a !=0 then some ((⟨#[]⟩:ByteArray),c,b,a)else cQ e d (yB (c+1)) b a (-1)>>=λr5=>some (r5.text_,(yB (c+1)),b,a)else cQ e d c b a 0>>=λr7=>V7 e d c b a 1 r7.at_>>=λr9=>if r9.2 !=0 then some ((⟨#[]⟩:ByteArray),c,r9.1,r9.2)else cQ e d (yB (c+1)) r9.1 r9.2 (-1)>>=λr12=>some (r12.text_,(yB (c+1)),r9.1,r9.2)
theorem zGD{e d c b a}:Cz (zAz e d c b a) 107 [.cells [zC zI d .no,ai c,ai b,ai a]] [.mp 0 0] (λr=>at' r.1) (λr=>[.cells [zC zI d .no,ai r.2.1,ai r.2.2.1,ai r.2.2.2]]) 0:=fw func107<|rK 0 [0] zYy (λ_=>rB 2 (fE 0)<|rC 3 [0] B2 λ_=>fE 0) λ_=>rC 1 [0] B2 λ_=>rC 0 [0] zEx λ_=>rB 1 (fE 0)<|rC 3 [0] B2 λ_=>fE 0
def lA(g:Nat)(c:List zQ)(d b a f:Int)(e:ByteArray):Option (Bool):=cQ g c d b a f>>=λr1=>if r1.kind_==4 then some (r1.text_.toList==e.toList)else if r1.kind_==2 then some (r1.text_.toList==e.toList)else some false
theorem jK{g c d b a f e}:Cz (lA g c d b a f e) 172 [.cells [zC zI c .no,ai d,ai b,ai a]] [.mp 0 0,ai f,at' e] (λr=>ab r) (λ_=>[.cells [zC zI c .no,ai d,ai b,ai a]]) 0:=fw func172<|rC 0 [0] B2 λ_=>rB 2 (fE 2)<|rB 1 (fE 2)<|fE 0
def qS(e:Nat)(d:List zQ)(c b a:Int)(f:ByteArray):Option (Int×Int×Int):=lA e d c b a 0 f>>=λr1=>if r1 then if a==0 then some ((yB (c+1)),b,a)else some (c,b,a)else cQ e d c b a 0>>=λr5=>V7 e d c b a 1 r5.at_>>=λr7=>if r7.2==0 then some ((yB (c+1)),r7.1,r7.2)else some (c,r7.1,r7.2)
theorem lB{e d c b a f}:Cz (qS e d c b a f) 111 [.cells [zC zI d .no,ai c,ai b,ai a]] [.mp 0 0,at' f] (λ_=>.tup []) (λr=>[.cells [zC zI d .no,ai r.1,ai r.2.1,ai r.2.2]]) 0:=fw func111<|rK 0 [0] jK (λ_=>rB 2 (fE 3)<|fE 0) λ_=>rC 1 [0] B2 λ_=>rC 0 [0] zEx λ_=>rB 1 (fE 3)<|fE 0
def zQe(e:Nat)(c:List zQ)(d b a:Int):Option (Bool):=lA e c d b a 0 (⟨#[40]⟩:ByteArray)>>=λr1=>if r1 then cQ e c d b a 1>>=λr4=>if r4.kind_==1 then lA e c d b a 2 (⟨#[58]⟩:ByteArray)>>=λr7=>some r7 else some false else some false
theorem yAZ{e c d b a}:Cz (zQe e c d b a) 236 [.cells [zC zI c .no,ai d,ai b,ai a]] [.mp 0 0] (λr=>ab r) (λ_=>[.cells [zC zI c .no,ai d,ai b,ai a]]) 0:=fw func236<|rK 0 [0] jK (λ_=>rC 0 [0] B2 λ_=>rB 0 (rC 0 [0] jK λ_=>fE 0)<|fE 0) λ_=>fE 0
def zTM(e:Nat)(c:List zQ)(d b a:Int):Option (ByteArray×Int×Int×Int):=cQ e c d b a 0>>=λr1=>if r1.kind_==1 then if a==0 then cQ e c (yB (d+1)) b a (-1)>>=λr5=>some (r5.text_,(yB (d+1)),b,a)else zAz e c d b a>>=λr7=>some (r7.1,r7.2.1,r7.2.2.1,r7.2.2.2)else zAz e c d b a>>=λr9=>some (r9.1,r9.2.1,r9.2.2.1,r9.2.2.2)
theorem yDF{e c d b a}:Cz (zTM e c d b a) 278 [.cells [zC zI c .no,ai d,ai b,ai a]] [.mp 0 0] (λr=>at' r.1) (λr=>[.cells [zC zI c .no,ai r.2.1,ai r.2.2.1,ai r.2.2.2]]) 0:=fw func278<|rC 0 [0] B2 λ_=>rB 0 (rB 1 (rC 3 [0] B2 λ_=>fE 0)<|rC 0 [0] zGD λ_=>fE 0)<|rC 0 [0] zGD λ_=>fE 0
def zTN(e:Nat)(c:List zQ)(d b a:Int):Option (Bool):=zMW e c d b a 0>>=λr1=>if r1 then some true else lA e c d b a 0 (⟨#[83,101,116]⟩:ByteArray)>>=λr4=>if r4 then some true else lA e c d b a 0 (⟨#[40]⟩:ByteArray)>>=λr7=>if r7 then zQe e c d b a>>=λr10=>some (!r10)else some false
theorem yBz{e c d b a}:Cz (zTN e c d b a) 280 [.cells [zC zI c .no,ai d,ai b,ai a]] [.mp 0 0] (λr=>ab r) (λ_=>[.cells [zC zI c .no,ai d,ai b,ai a]]) 0:=fw func280<|rK 0 [0] zYy (λ_=>fE 0) λ_=>rK 0 [0] jK (λ_=>fE 0) λ_=>rK 0 [0] jK (λ_=>rC 0 [0] yAZ λ_=>fE 1) λ_=>fE 0
def zTO(e:Nat)(d:List zQ)(c b a:Int):Option (zG×Int×Int×Int):=cQ e d c b a 0>>=λr1=>cQ e d (yB (c+1)) b a 0>>=λr3=>if r3.kind_==3 then cQ e d (yB (c+1)) b a 0>>=λr6=>zQl e r6.text_>>=λr8=>if decide (r8.1>7)then cQ e d (yB (c+1)) b a 0>>=λr11=>V7 e d (yB (c+1)) b a 1 r11.at_>>=λr13=>some ((zG.mk 2 r1.at_ (⟨#[]⟩:ByteArray) r8.1 []),(yB ((yB (c+1))+1)),r13.1,r13.2)else some ((zG.mk 2 r1.at_ (⟨#[]⟩:ByteArray) r8.1 []),(yB ((yB (c+1))+1)),b,a)else some ((zG.mk 2 r1.at_ (⟨#[]⟩:ByteArray) 0 []),(yB (c+1)),b,a)
theorem yDG{e d c b a}:Cz (zTO e d c b a) 313 [.cells [zC zI d .no,ai c,ai b,ai a]] [.mp 0 0] (λr=>xB r.1) (λr=>[.cells [zC zI d .no,ai r.2.1,ai r.2.2.1,ai r.2.2.2]]) 0:=fw func313<|rC 0 [0] B2 λ_=>rC 4 [0] B2 λ_=>rB 0 (rC 0 [0] B2 λ_=>rC 0 [] yAT λ_=>rB 2 (rC 0 [0] B2 λ_=>rC 0 [0] zEx λ_=>fE 6)<|fE 6)<|fE 2
mutual def zBg:Nat->(List zQ)->Int->Int->Int->Option (zG×Int×Int×Int)
 |0,_,_,_,_=>none|p+1,b,d,c,a=>cQ p b d c a 0>>=λr1=>if a !=0 then some ((zG.mk 0 0 (⟨#[]⟩:ByteArray) 0 []),d,c,a)else lA p b d c a 0 (⟨#[92]⟩:ByteArray)>>=λr4=>if r4 then zQd p b (yB (d+1)) c a 4 r1.at_>>=λr7=>some (r7.1,r7.2.1,r7.2.2.1,r7.2.2.2)else zQe p b d c a>>=λr9=>if r9 then zQd p b d c a 3 r1.at_>>=λr12=>some (r12.1,r12.2.1,r12.2.2.1,r12.2.2.2)else zTP p b d c a>>=λr14=>if r14.2.2.2==0 then lA p b r14.2.1 r14.2.2.1 r14.2.2.2 0 (⟨#[45,62]⟩:ByteArray)>>=λr17=>if r17 then zBg p b (yB (r14.2.1+1)) r14.2.2.1 r14.2.2.2>>=λr20=>some ((zG.mk 3 r14.1.at_ (⟨#[95]⟩:ByteArray) 0 [r14.1,r20.1]),r20.2.1,r20.2.2.1,r20.2.2.2)else some (r14.1,r14.2.1,r14.2.2.1,r14.2.2.2)else some (r14.1,r14.2.1,r14.2.2.1,r14.2.2.2)def zQd:Nat->(List zQ)->Int->Int->Int->Int->Int->Option (zG×Int×Int×Int)|0,_,_,_,_,_,_=>none|p+1,b,d,c,a,t,u=>qS p b d c a (⟨#[40]⟩:ByteArray)>>=λr1=>zTM p b r1.1 r1.2.1 r1.2.2>>=λr3=>qS p b r3.2.1 r3.2.2.1 r3.2.2.2 (⟨#[58]⟩:ByteArray)>>=λr5=>zBg p b r5.1 r5.2.1 r5.2.2>>=λr7=>qS p b r7.2.1 r7.2.2.1 r7.2.2.2 (⟨#[41]⟩:ByteArray)>>=λr9=>qS p b r9.1 r9.2.1 r9.2.2 (⟨#[45,62]⟩:ByteArray)>>=λr11=>zBg p b r11.1 r11.2.1 r11.2.2>>=λr13=>some ((zG.mk t u r3.1 0 [r7.1,r13.1]),r13.2.1,r13.2.2.1,r13.2.2.2)def zTP:Nat->(List zQ)->Int->Int->Int->Option (zG×Int×Int×Int)|0,_,_,_,_=>none|p+1,b,d,c,a=>zIX p b d c a>>=λr1=>cR p b r1 r1.2.1 r1.2.2.1 r1.2.2.2 r1.1.kind_ r1.1.name_ r1.1.n_ r1.1.sub_ def cR:Nat->(List zQ)->(zG×Int×Int×Int)->Int->Int->Int->Int->ByteArray->Int->(List zG)->Option (zG×Int×Int×Int)
 |0,_,_,_,_,_,_,_,_,_=>none|p+1,b,r1,q,s,e,f,g,m,n=>if e==0 then zTN p b q s e>>=λr4=>if r4 then zIX p b q s e>>=λr7=>cR p b r1 r7.2.1 r7.2.2.1 r7.2.2.2 5 (⟨#[]⟩:ByteArray) 0 [(zG.mk f r1.1.at_ g m n),r7.1]else some ((zG.mk f r1.1.at_ g m n),q,s,e)else some ((zG.mk f r1.1.at_ g m n),q,s,e)def zIX:Nat->(List zQ)->Int->Int->Int->Option (zG×Int×Int×Int)
 |0,_,_,_,_=>none|p+1,b,d,c,a=>if a !=0 then some ((zG.mk 0 0 (⟨#[]⟩:ByteArray) 0 []),d,c,a)else lA p b d c a 0 (⟨#[83,101,116]⟩:ByteArray)>>=λr2=>if r2 then zTO p b d c a>>=λr5=>some (r5.1,r5.2.1,r5.2.2.1,r5.2.2.2)else lA p b d c a 0 (⟨#[40]⟩:ByteArray)>>=λr7=>if r7 then zBg p b (yB (d+1)) c a>>=λr10=>qS p b r10.2.1 r10.2.2.1 r10.2.2.2 (⟨#[41]⟩:ByteArray)>>=λr12=>some (r10.1,r12.1,r12.2.1,r12.2.2)else cQ p b d c a 0>>=λr14=>zAz p b d c a>>=λr16=>some ((zG.mk 1 r14.at_ r16.1 0 []),r16.2.1,r16.2.2.1,r16.2.2.2)end
theorem qI:∀p:Nat,(∀b d c a,Cz (zBg p b d c a) 176 [.cells [zC zI b .no,ai d,ai c,ai a]] [.mp 0 0] (λr=>xB r.1) (λr=>[.cells [zC zI b .no,ai r.2.1,ai r.2.2.1,ai r.2.2.2]]) 0)/\(∀b d c a t u,Cz (zQd p b d c a t u) 235 [.cells [zC zI b .no,ai d,ai c,ai a]] [.mp 0 0,ai t,ai u] (λr=>xB r.1) (λr=>[.cells [zC zI b .no,ai r.2.1,ai r.2.2.1,ai r.2.2.2]]) 0)/\(∀b d c a,Cz (zTP p b d c a) 237 [.cells [zC zI b .no,ai d,ai c,ai a]] [.mp 0 0] (λr=>xB r.1) (λr=>[.cells [zC zI b .no,ai r.2.1,ai r.2.2.1,ai r.2.2.2]]) 0)/\(∀b r1 q s e f g m n,Lz (cR p b r1 q s e f g m n) 1 f237 (pt 997 f237) (λj=>sp j 23 0 [(0,.mp 0 0),(2,.mp 1 0),(3,.mp 2 0)]) ⟨[(0,.cells [zC zI b .no,ai q,ai s,ai e]),(1,.cells [ai 0,ai 0,at' (⟨#[]⟩:ByteArray),ai 0,zC zK ([]:List zG) .nl]),(2,.cells [ai f,ai r1.1.at_,at' g,ai m,zC zK n .no])],3,[],0,[]⟩ (λr=>xB r.1) (λr=>[.cells [zC zI b .no,ai r.2.1,ai r.2.2.1,ai r.2.2.2]]) 0 [.blk 0,.seq (pt 63 f237)]/\Lz (cR p b r1 q s e f g m n) 1 f237 (pt 997 f237) (λj=>sp j 23 0 [(0,.mp 0 0),(2,.mp 1 0),(3,.mp 2 0)]) ⟨[(0,.cells [zC zI b .no,ai q,ai s,ai e]),(1,.cells [ai 0,ai 0,at' (⟨#[]⟩:ByteArray),ai 0,zC zK ([]:List zG) .nl]),(2,.cells [ai f,ai r1.1.at_,at' g,ai m,zC zK n .full])],3,[],0,[]⟩ (λr=>xB r.1) (λr=>[.cells [zC zI b .no,ai r.2.1,ai r.2.2.1,ai r.2.2.2]]) 0 [.blk 0,.seq (pt 63 f237)])/\(∀b d c a,Cz (zIX p b d c a) 279 [.cells [zC zI b .no,ai d,ai c,ai a]] [.mp 0 0] (λr=>xB r.1) (λr=>[.cells [zC zI b .no,ai r.2.1,ai r.2.2.1,ai r.2.2.2]]) 0):=yS ⟨λ_ _ _ _=>cN,λ_ _ _ _ _ _=>cN,λ_ _ _ _=>cN,λ_ _ _ _ _ _ _ _ _=>⟨lN,lN⟩,λ_ _ _ _=>cN⟩ λp ih=>⟨λb d c a=>fw func176<|rC 0 [0] B2 λ_=>rB 1 (fE 1)<|rK 0 [0] jK (λ_=>rC 3 [0] (ih.2.1 _ _ _ _ _ _) λ_=>fE 1) λ_=>rK 0 [0] yAZ (λ_=>rC 0 [0] (ih.2.1 _ _ _ _ _ _) λ_=>fE 1) λ_=>rC 0 [0] (ih.2.2.1 _ _ _ _) λr14=>rB 2 (rK 0 [0] jK (λ_=>rS (gR 3)<|rC 1 [0] (ih.1 _ _ _ _) λr20=>rS (oS 0 (yZ vL [r14.1,r20.1]))<|fE 1) λ_=>fE 2)<|fE 2,λb d c a t u=>fw func235<|rC 1 [0] lB λ_=>rC 0 [0] yDF λ_=>rC 1 [0] lB λ_=>rC 0 [0] (ih.1 _ _ _ _) λr7=>rC 1 [0] lB λ_=>rC 0 [0] lB λ_=>rC 1 [0] (ih.1 _ _ _ _) λr13=>rS (oS 0 (yZ vL [r7.1,r13.1]))<|fE 3,λb d c a=>fw func237<|rC 0 [0] (ih.2.2.2.2 _ _ _ _) λ_=>fH 1 [] [0,1,2] [] [0,2,3] ((ih.2.2.2.1 _ _ _ _ _ _ _ _ _).1),λb r1 q s e f g m n=>⟨lw λ_=>rB 1 (rK 0 [0] yBz (λ_=>rS (gR 0)<|rC 1 [0] (ih.2.2.2.2 _ _ _ _) λr7=>rS (oS 0 (yZ vL [(zG.mk f r1.1.at_ g m n),r7.1]))<|lH 1 [] [0,1,2] [] [0,2,3] ((ih.2.2.2.1 _ _ _ _ _ _ _ _ _).2)) λ_=>lE 2)<|lE 2,lw λ_=>rB 1 (rK 0 [0] yBz (λ_=>rS (gR 0)<|rC 1 [0] (ih.2.2.2.2 _ _ _ _) λr7=>rS (oS 0 (yZ vL [(zG.mk f r1.1.at_ g m n),r7.1]))<|lH 1 [] [0,1,2] [] [0,2,3] ((ih.2.2.2.1 _ _ _ _ _ _ _ _ _).2)) λ_=>lE 2)<|lE 2⟩,λb d c a=>fw func279<|rB 1 (fE 1)<|rK 0 [0] jK (λ_=>rC 0 [0] yDG λ_=>fE 1) λ_=>rK 0 [0] jK (λ_=>rC 3 [0] (ih.1 _ _ _ _) λ_=>rC 1 [0] lB λ_=>fE 2) λ_=>rC 0 [0] B2 λ_=>rC 0 [0] zGD λ_=>fE 1⟩
theorem yDH{p b d c a}:Cz (zBg p b d c a) 176 [.cells [zC zI b .no,ai d,ai c,ai a]] [.mp 0 0] (λr=>xB r.1) (λr=>[.cells [zC zI b .no,ai r.2.1,ai r.2.2.1,ai r.2.2.2]]) 0:=(qI _).1 _ _ _ _
theorem yDI{p b d c a}:Cz (zIX p b d c a) 279 [.cells [zC zI b .no,ai d,ai c,ai a]] [.mp 0 0] (λr=>xB r.1) (λr=>[.cells [zC zI b .no,ai r.2.1,ai r.2.2.1,ai r.2.2.2]]) 0:=(qI _).2.2.2.2 _ _ _ _
def tk(l:List zQ)(i:Int):zQ:=(l[if i>=l.length then l.length-1 else i.toNat]?).getD default
section
variable{l:List zQ}(hl:zMR l)
include hl
theorem vD(i a b k:Int)(h0:0<=i+k)(h1:i+k<=100000):zB (λq=>cQ q l i a b k) (tk l (i+k)):=by
 have:=hl.1;have:=hl.2.1;simp only[cQ];rw[zR (by omega) (by omega)];unfold tk;by_cases h:i+k>=l.length
 ·rw[if_pos h,zR (by omega) (by omega)];refine zB.ifT (decide_eq_true h) (zB.pure ?_ zB.ret);unfold zL;rw[if_pos (by omega),show((l.length:Int)-1).toNat=l.length-1 by omega,List.getElem?_eq_getElem (by omega)];rfl
 ·rw[if_neg h];refine zB.ifF (decide_eq_false h) (zB.pure ?_ zB.ret);unfold zL;rw[if_pos (by omega),List.getElem?_eq_getElem (by omega)];rfl
theorem N7{i:Int}(h0:0<=i)(h:(tk l i).kind_≠5):i+1<l.length:=by
 have:=hl.1;by_cases h1:i+1<l.length;·exact h1
 ·refine absurd ?_ h;rw[<-hl.2.2];unfold tk;by_cases h2:i>=l.length;·rw[if_pos h2]
  ·rw[if_neg h2,show i.toNat=l.length-1 by omega]
theorem uQ(i a b k:Int)(s:ByteArray)(h0:0<=i+k)(h1:i+k<=100000):zD (λq=>lA q l i a b k s) λr=>r=true->i+k+1<l.length:=by simp only[lA];refine zD.bind ((vD hl i a b k h0 h1).tot rfl) λt ht=>?_;subst ht;refine zD.ite (λh=>zD.ret λ_=>N7 hl h0 ?_) λ_=>zD.ite (λh=>zD.ret λ_=>N7 hl h0 ?_) λ_=>zD.ret (by simp)<;>·have:=eq_of_beq h;omega
theorem B3(i a b k:Int)(h0:0<=i+k)(h1:i+k<=100000):zD (λq=>zMW q l i a b k) λr=>r=true->i+k+1<l.length:=by simp only[zMW];have e:=vD hl i a b k h0 h1;refine zD.bind (e.tot rfl) λt ht=>?_;subst ht;refine zD.ite (λh=>zD.bind (e.tot (P:=λ_=>True) trivial) λ_ _=>zD.ret λ_=>N7 hl h0 ?_) λ_=>zD.ret (by simp);have:=eq_of_beq h;omega
omit hl in theorem qZ(i a b e p:Int)(he:e≠0):zD (λq=>V7 q l i a b e p) λr=>r.2≠0:=by simp only[V7];exact zD.ite (λ_=>zD.ret he) λh=>zD.ret (by simpa using h)
theorem jL(i a b:Int)(h0:0<=i)(h1:i<l.length):zD (λq=>zAz q l i a b) λr=>i<=r.2.1/\r.2.1<l.length/\(r.2.2.2=0->b=0/\i<r.2.1):=by
 have:=hl.2.1;simp only[zAz];rw[zR (x:=i+1) (by omega) (by omega)];refine(B3 hl i a b 0 (by omega) (by omega)).bind λc hc=>zD.ite (λh=>zD.ite (λh2=>zD.ret ⟨by show i<=i;omega,h1,λh3=>?_⟩) λh2=>?_) λ_=>?_;·exact absurd h3 (by simpa using h2)
 ·have:=hc h;refine zD.bind ((vD hl (i+1) a b (-1) (by omega) (by omega)).tot (P:=λ_=>True) trivial) λ_ _=>zD.ret ⟨by show i<=i+1;omega,by show i+1<_;omega,λ_=>⟨by simpa using h2,by show i<i+1;omega⟩⟩
 ·refine zD.bind ((vD hl i a b 0 (by omega) (by omega)).tot (P:=λ_=>True) trivial) λt _=>(qZ i a b 1 _ (by decide)).bind λr hr=>zD.ite (λ_=>zD.ret ⟨by show i<=i;omega,h1,λh3=>absurd h3 hr⟩) λh=>?_;exact absurd (by simpa using h) hr
theorem vE(i a b:Int)(s:ByteArray)(h0:0<=i)(h1:i<l.length):zD (λq=>qS q l i a b s) λr=>i<=r.1/\r.1<l.length/\(r.2.2=0->b=0/\i<r.1):=by
 have:=hl.2.1;simp only[qS];rw[zR (x:=i+1) (by omega) (by omega)];refine(uQ hl i a b 0 s (by omega) (by omega)).bind λc hc=>zD.ite (λh=>zD.ite (λh2=>?_) λh2=>zD.ret ⟨by show i<=i;omega,h1,λh3=>?_⟩) λ_=>?_
 ·have:=hc h;exact zD.ret ⟨by show i<=i+1;omega,by show i+1<_;omega,λ_=>⟨by simpa using h2,by show i<i+1;omega⟩⟩
 ·exact absurd h3 (by simpa using h2)
 ·refine zD.bind ((vD hl i a b 0 (by omega) (by omega)).tot (P:=λ_=>True) trivial) λt _=>(qZ i a b 1 _ (by decide)).bind λr hr=>zD.ite (λh=>?_) λ_=>zD.ret ⟨by show i<=i;omega,h1,λh3=>absurd h3 hr⟩;exact absurd (by simpa using h) hr
theorem zBf(i a b:Int)(h0:0<=i)(h1:i<l.length):zD (λq=>zTM q l i a b) λr=>i<=r.2.1/\r.2.1<l.length/\(r.2.2.2=0->b=0/\i<r.2.1):=by have:=hl.2.1;simp only[zTM];rw[zR (x:=i+1) (by omega) (by omega)];have N:=(jL hl i a b h0 h1).bind (k:=λ_ r9=>some (r9.1,r9.2.1,r9.2.2.1,r9.2.2.2)) (Q:=λr:ByteArray×Int×Int×Int=>i<=r.2.1/\r.2.1<(l.length:Int)/\(r.2.2.2=0->b=0/\i<r.2.1)) λr hr=>⟨_,zB.ret,hr⟩;refine zD.bind ((vD hl i a b 0 (by omega) (by omega)).tot rfl) λt ht=>zD.ite (λh=>zD.ite (λh2=>?_) λ_=>N) λ_=>N;subst ht;have:=N7 hl (i:=i+0) (by omega) (by have:=eq_of_beq h;omega);exact zD.bind ((vD hl (i+1) a b (-1) (by omega) (by omega)).tot (P:=λ_=>True) trivial) λ_ _=>zD.ret ⟨by show i<=i+1;omega,by show i+1<_;omega,λ_=>⟨by simpa using h2,by show i<i+1;omega⟩⟩
theorem zAy(i a b:Int)(h0:0<=i)(h1:i<l.length):zD (λq=>zQe q l i a b) λ_=>True:=by have:=hl.2.1;simp only[zQe];exact(uQ hl i a b 0 _ (by omega) (by omega)).bind λ_ _=>zD.ite (λ_=>zD.bind ((vD hl i a b 1 (by omega) (by omega)).tot (P:=λ_=>True) trivial) λ_ _=>zD.ite (λ_=>(uQ hl i a b 2 _ (by omega) (by omega)).bind λ_ _=>zD.ret trivial) λ_=>zD.ret trivial) λ_=>zD.ret trivial
theorem zQc(i a b:Int)(h0:0<=i)(h1:i+1<l.length):zD (λq=>zTO q l i a b) λr=>cO r.1/\i<r.2.1/\r.2.1<l.length:=by have:=hl.2.1;simp only[zTO];rw[zR (x:=i+1) (by omega) (by omega),zR (x:=i+1+1) (by omega) (by omega)];have e:=vD hl (i+1) a b 0 (by omega) (by omega);have z:∀k a n m,cO (.mk k a n m []):=λ_ _ _ _=>⟨by simp,trivial⟩;refine zD.bind ((vD hl i a b 0 (by omega) (by omega)).tot (P:=λ_=>True) trivial) λ_ _=>zD.bind (e.tot rfl) λt ht=>zD.ite (λh=>?_) λ_=>zD.ret ⟨z _ _ _ _,by show i<i+1;omega,h1⟩;subst ht;have:=N7 hl (i:=i+1+0) (by omega) (by have:=eq_of_beq h;omega);refine zD.bind (e.tot (P:=λ_=>True) trivial) λ_ _=>(i9 _).bind λ_ _=>zD.ite (λ_=>zD.bind (e.tot (P:=λ_=>True) trivial) λ_ _=>(qZ _ a b 1 _ (by decide)).bind λ_ _=>zD.ret ⟨z _ _ _ _,?_,?_⟩) λ_=>zD.ret ⟨z _ _ _ _,?_,?_⟩<;>first|(show i<i+1+1;omega)|(show i+1+1<_;omega)
theorem zIY(i a b:Int)(h0:0<=i)(h1:i<l.length):zD (λq=>zTN q l i a b) λ_=>True:=by have:=hl.2.1;simp only[zTN];exact(B3 hl i a b 0 (by omega) (by omega)).bind λ_ _=>zD.ite (λ_=>zD.ret trivial) λ_=>(uQ hl i a b 0 _ (by omega) (by omega)).bind λ_ _=>zD.ite (λ_=>zD.ret trivial) λ_=>(uQ hl i a b 0 _ (by omega) (by omega)).bind λ_ _=>zD.ite (λ_=>(zAy hl i a b h0 h1).bind λ_ _=>zD.ret trivial) λ_=>zD.ret trivial
omit hl in def NR(l:List zQ)(i b:Int)(r:zG×Int×Int×Int):Prop:=cO r.1/\i<=r.2.1/\r.2.1<l.length/\(r.2.2.2=0->b=0/\i<r.2.1)
omit hl in def zAx(l:List zQ)(m:Nat):Prop:=∀i a b:Int,0<=i->i<l.length->(b=0->(l.length:Int)-i<=m)->zD (λq=>zBg q l i a b) (NR l i b)
omit hl in theorem zYx{x y:zG}(hx:cO x)(hy:cO y)(k a:Int)(n:ByteArray)(m:Int):cO (.mk k a n m [x,y]):=⟨by simp,hx,hy,trivial⟩
omit hl in theorem zBe(k a:Int)(n:ByteArray)(m:Int):cO (.mk k a n m []):=⟨by simp,trivial⟩
theorem zCi(m:Nat)(IH:zAx l m)(i a b k p:Int)(h0:0<=i)(h1:i<l.length)(hb:b=0->(l.length:Int)-i<=m+1):zD (λq=>zQd q l i a b k p) (NR l i b):=by refine zD.succ ?_;simp only[zQd];refine(vE hl i a b _ h0 h1).bind λr1 g1=>(zBf hl _ _ _ (by omega) g1.2.1).bind λr3 g3=>(vE hl _ _ _ _ (by omega) g3.2.1).bind λr5 g5=>(IH _ _ _ (by omega) g5.2.1 (by omega)).bind λr7 g7=>?_;obtain⟨o7,g7⟩:=g7;refine(vE hl _ _ _ _ (by omega) g7.2.1).bind λr9 g9=>(vE hl _ _ _ _ (by omega) g9.2.1).bind λr11 g11=>(IH _ _ _ (by omega) g11.2.1 (by omega)).bind λr13 g13=>?_;obtain⟨o13,g13⟩:=g13;exact zD.ret ⟨zYx o7 o13 _ _ _ _,by show i<=r13.2.1;omega,g13.2.1,λh=>by have:r13.2.2.2=0:=h;show b=0/\i<r13.2.1;omega⟩
theorem zAw(m:Nat)(IH:zAx l m)(i a b:Int)(h0:0<=i)(h1:i<l.length)(hb:b=0->(l.length:Int)-i<=m+1):zD (λq=>zIX q l i a b) (NR l i b):=by
 have:=hl.2.1;refine zD.succ ?_;simp only[zIX];rw[zR (x:=i+1) (by omega) (by omega)];refine zD.ite (λh=>zD.ret ⟨zBe _ _ _ _,by show i<=i;omega,h1,λh2=>absurd h2 (by simpa using h)⟩) λh=>?_;have hb0:b=0:=by simpa using h
 refine(uQ hl i a b 0 _ (by omega) (by omega)).bind λc hc=>zD.ite (λh2=>(zQc hl i a b h0 (by have:=hc h2;omega)).bind λr hr=>zD.ret ⟨hr.1,by show i<=r.2.1;omega,hr.2.2,λ_=>⟨hb0,hr.2.1⟩⟩) λ_=>?_;refine(uQ hl i a b 0 _ (by omega) (by omega)).bind λc hc=>zD.ite (λh2=>?_) λ_=>?_
 ·have:=hc h2;refine(IH (i+1) a b (by omega) (by omega) (by omega)).bind λr hr=>(vE hl _ _ _ _ (by have:=hr.2.1;omega) hr.2.2.1).bind λs hs=>?_;obtain⟨o,hr⟩:=hr;exact zD.ret ⟨o,by show i<=s.1;omega,hs.2.1,λ_=>⟨hb0,by show i<s.1;omega⟩⟩
 ·refine zD.bind ((vD hl i a b 0 (by omega) (by omega)).tot (P:=λ_=>True) trivial) λt _=>(jL hl i a b h0 h1).bind λr hr=>zD.ret ⟨zBe _ _ _ _,hr.1,hr.2.1,hr.2.2⟩
theorem zGE(m:Nat)(IH:zAx l m)(r1:zG×Int×Int×Int):∀(k:Nat)(i a b kd:Int)(nm:ByteArray)(n:Int)(sub:List zG),0<=i->i<l.length->(b=0->(l.length:Int)-i<=k)->(b=0->(l.length:Int)-i<=m+1)->cO (.mk kd r1.1.at_ nm n sub)->zD (λq=>cR q l r1 i a b kd nm n sub) λr=>cO r.1/\i<=r.2.1/\r.2.1<l.length/\(r.2.2.2=0->b=0)
 |k,i,a,b,kd,nm,n,sub,h0,h1,hk,hb,ho=>by
  refine zD.succ ?_;simp only[cR];have fin:zD (λ_=>some (zG.mk kd r1.1.at_ nm n sub,i,a,b)) λr:zG×Int×Int×Int=>cO r.1/\i<=r.2.1/\r.2.1<l.length/\(r.2.2.2=0->b=0):=zD.ret ⟨ho,by show i<=i;omega,h1,id⟩;refine zD.ite (λh=>(zIY hl i a b h0 h1).bind λ_ _=>zD.ite (λ_=>(zAw hl m IH i a b h0 h1 hb).bind λr hr=>?_) λ_=>fin) λ_=>fin;have hb0:b=0:=by simpa using h
  obtain⟨o,hr⟩:=hr;cases k with|zero=>have:=hk hb0;omega|succ k=>exact(zGE m IH r1 k r.2.1 _ _ 5 _ 0 _ (by omega) hr.2.1 (by omega) (by omega) (zYx ho o _ _ _ _)).mono λs hs=>⟨hs.1,by omega,hs.2.2.1,λ_=>hb0⟩
theorem zTQ(m:Nat)(IH:zAx l m)(i a b:Int)(h0:0<=i)(h1:i<l.length)(hb:b=0->(l.length:Int)-i<=m+1):zD (λq=>zTP q l i a b) (NR l i b):=by refine zD.succ ?_;simp only[zTP];refine(zAw hl m IH i a b h0 h1 hb).bind λr hr=>?_;have ho:=hr.1;have g:=hr.2;refine(zGE hl m IH r (m+1) r.2.1 _ _ _ _ _ _ (by omega) g.2.1 (by omega) (by omega) (by cases h:r.1;rw[h]at ho;exact ho)).mono λs hs=>⟨hs.1,by omega,hs.2.2.1,λh=>?_⟩;have:=g.2.2 (hs.2.2.2 h);omega
theorem zAv:∀m:Nat,zAx l m
 |0,i,a,b,h0,h1,hb=>by
  have:=hl.2.1;refine zD.succ ?_;simp only[zBg];refine zD.bind ((vD hl i a b 0 (by omega) (by omega)).tot (P:=λ_=>True) trivial) λt _=>zD.ite (λh=>zD.ret ⟨zBe _ _ _ _,by show i<=i;omega,h1,λh2=>absurd h2 (by simpa using h)⟩) λh=>?_;have hb0:b=0:=by simpa using h
  have:=hb hb0;omega|m+1,i,a,b,h0,h1,hb=>by
  have:=hl.2.1;have IH:=zAv m;refine zD.succ ?_;simp only[zBg];rw[zR (x:=i+1) (by omega) (by omega)];refine zD.bind ((vD hl i a b 0 (by omega) (by omega)).tot (P:=λ_=>True) trivial) λt _=>zD.ite (λh=>zD.ret ⟨zBe _ _ _ _,by show i<=i;omega,h1,λh2=>absurd h2 (by simpa using h)⟩) λh=>?_;have hb0:b=0:=by simpa using h
  refine(uQ hl i a b 0 _ (by omega) (by omega)).bind λc hc=>zD.ite (λh2=>(zCi hl m IH (i+1) a b 4 _ (by omega) (by have:=hc h2;omega) (by omega)).bind λr hr=>zD.ret ⟨hr.1,by have:=hr.2.1;show i<=r.2.1;omega,hr.2.2.1,λh=>⟨hb0,by have:=hr.2.1;show i<r.2.1;omega⟩⟩) λ_=>?_;refine(zAy hl i a b h0 h1).bind λc hc=>zD.ite (λh2=>(zCi hl m IH i a b 3 _ (by omega) h1 (by omega)).bind λr hr=>zD.ret hr) λ_=>?_;refine(zTQ hl m IH i a b h0 h1 (by omega)).bind λr hr=>zD.ite (λh2=>?_) λ_=>zD.ret hr;have ho:=hr.1;have g:=hr.2;have hr0:r.2.2.2=0:=by simpa using h2
  rw[zR (x:=r.2.1+1) (by omega) (by omega)];refine(uQ hl _ _ _ 0 _ (by omega) (by omega)).bind λc hc=>zD.ite (λh3=>?_) λ_=>zD.ret ⟨ho,g⟩;have:=hc h3;refine(IH (r.2.1+1) _ _ (by omega) (by omega) (by omega)).bind λs hs=>?_;have gs:=hs.2;exact zD.ret ⟨zYx ho hs.1 _ _ _ _,by show i<=s.2.1;omega,gs.2.1,λ_=>⟨hb0,by show i<s.2.1;omega⟩⟩
end
def zTR(e:Nat)(c:List zQ)(d b a:Int):Option (Int):=lA e c d b a 0 (⟨#[100,97,116,97]⟩:ByteArray)>>=λr1=>if r1 then some 1 else lA e c d b a 0 (⟨#[114,101,99,111,114,100]⟩:ByteArray)>>=λr4=>if r4 then some 2 else lA e c d b a 0 (⟨#[100,101,102]⟩:ByteArray)>>=λr7=>if r7 then some 3 else some 0
theorem yDJ{e c d b a}:Cz (zTR e c d b a) 105 [.cells [zC zI c .no,ai d,ai b,ai a]] [.mp 0 0] (λr=>ai r) (λ_=>[.cells [zC zI c .no,ai d,ai b,ai a]]) 0:=fw func105<|rK 0 [0] jK (λ_=>fE 0) λ_=>rK 0 [0] jK (λ_=>fE 0) λ_=>rK 0 [0] jK (λ_=>fE 0) λ_=>fE 0
def zQb(e:Nat)(c:List zQ)(d b a:Int):Option (Bool):=lA e c d b a 0 (⟨#[125]⟩:ByteArray)>>=λr1=>some (!r1)
theorem yBy{e c d b a}:Cz (zQb e c d b a) 114 [.cells [zC zI c .no,ai d,ai b,ai a]] [.mp 0 0] (λr=>ab r) (λ_=>[.cells [zC zI c .no,ai d,ai b,ai a]]) 0:=fw func114<|rC 0 [0] jK λ_=>fE 1
def zQa(f:Nat)(c:List zQ)(d b a:Int)(e:zG)(g:Int):Option (zG×Int×Int):=if a==0 then zQi f e>>=λr2=>if decide (r2>128)then V7 f c d b a 2 g>>=λr5=>some (e,r5.1,r5.2)else some (e,b,a)else some (e,b,a)
theorem yBx{f c d b a e g}:Cz (zQa f c d b a e g) 175 [.cells [zC zI c .no,ai d,ai b,ai a]] [.mp 0 0,xB e,ai g] (λr=>xB r.1) (λr=>[.cells [zC zI c .no,ai d,ai r.2.1,ai r.2.2]]) 0:=fw func175<|rB 1 (rC 1 [] yAU λ_=>rB 0 (rC 0 [0] zEx λ_=>fE 2)<|fE 2)<|fE 2
def zGF(e:Nat)(b:List zQ)(d c a:Int):Option (zG×Int×Int×Int):=cQ e b d c a 0>>=λr1=>zBg e b d c a>>=λr3=>zQa e b r3.2.1 r3.2.2.1 r3.2.2.2 r3.1 r1.at_>>=λr5=>some (r5.1,r3.2.1,r5.2.1,r5.2.2)
theorem zTS{e b d c a}:Cz (zGF e b d c a) 112 [.cells [zC zI b .no,ai d,ai c,ai a]] [.mp 0 0] (λr=>xB r.1) (λr=>[.cells [zC zI b .no,ai r.2.1,ai r.2.2.1,ai r.2.2.2]]) 0:=fw func112<|rC 0 [0] B2 λ_=>rC 0 [0] yDH λ_=>rC 0 [0] yBx λ_=>fE 1
def zQA(e:Nat)(b:List zQ)(d c a:Int):Option (zM×Int×Int×Int):=cQ e b d c a 0>>=λr1=>zAz e b d c a>>=λr3=>qS e b r3.2.1 r3.2.2.1 r3.2.2.2 (⟨#[58]⟩:ByteArray)>>=λr5=>zGF e b r5.1 r5.2.1 r5.2.2>>=λr7=>some ((zM.mk r3.1 r1.at_ r7.1),r7.2.1,r7.2.2.1,r7.2.2.2)
theorem yBw{e b d c a}:Cz (zQA e b d c a) 174 [.cells [zC zI b .no,ai d,ai c,ai a]] [.mp 0 0] (λr=>N0 r.1) (λr=>[.cells [zC zI b .no,ai r.2.1,ai r.2.2.1,ai r.2.2.2]]) 0:=fw func174<|rC 0 [0] B2 λ_=>rC 0 [0] zGD λ_=>rC 1 [0] lB λ_=>rC 0 [0] zTS λ_=>fE 3
def zTT(e:Nat)(b:List zQ)(d c a:Int):Option (zM×Int×Int×Int):=zQA e b d c a>>=λr1=>qS e b r1.2.1 r1.2.2.1 r1.2.2.2 (⟨#[59]⟩:ByteArray)>>=λr3=>some (r1.1,r3.1,r3.2.1,r3.2.2)
theorem yDK{e b d c a}:Cz (zTT e b d c a) 115 [.cells [zC zI b .no,ai d,ai c,ai a]] [.mp 0 0] (λr=>N0 r.1) (λr=>[.cells [zC zI b .no,ai r.2.1,ai r.2.2.1,ai r.2.2.2]]) 0:=fw func115<|rC 0 [0] yBw λ_=>rC 1 [0] lB λ_=>fE 2
def qJ:Nat->(List zQ)->Int->(List zM)->Int->Int->Int->Option (List zM×Int×Int×Int)|0,_,_,_,_,_,_=>none|e+1,d,f,g,a,c,b=>if b==0 then zQb e d a c b>>=λr2=>if r2 then if decide ((g.length:Int)>=f)then cQ e d a c b 0>>=λr6=>V7 e d a c b 2 r6.at_>>=λr8=>some (g,a,r8.1,r8.2)else zTT e d a c b>>=λr10=>yR 88 g [r10.1]>>=λl12=>qJ e d f l12 r10.2.1 r10.2.2.1 r10.2.2.2 else some (g,a,c,b)else some (g,a,c,b)
def G7(e:Nat)(d:List zQ)(m n p f:Int):Option (List zM×Int×Int×Int):=qJ e d f [] m n p
theorem zGG:∀e:Nat,∀d f g a c b,Lz (qJ e d f g a c b) 1 f108 (pt 997 f108) (λj=>sp j 34 0 [(0,.mp 0 0),(1,ai f),(2,.clo 114 [.mp 0 0] []),(3,.clo 115 [.mp 0 0] []),(9,zC zF g (.st 0 7))]) ⟨[(0,.cells [zC zI d .no,ai a,ai c,ai b])],1,[0],1,[]⟩ (λr=>.sl (zH zF r.1) r.1.length .no) (λr=>[.cells [zC zI d .no,ai r.2.1,ai r.2.2.1,ai r.2.2.2]]) 0 [.blk 0,.seq (pt 63 f108)]:=yS (λ_ _ _ _ _ _=>lN) λe ih=>λd f g a c b=>lw λ_=>rB 1 (rK 0 [0] yBy (λ_=>rB 1 (rC 0 [0] B2 λ_=>rC 0 [0] zEx λ_=>lE 0)<|rC 0 [0] yDK λ_=>rW (λh13=>oP 1 (zPg h13 (by simp))) λ_=>lH 0 [] [0] [1] [0,1,2,3,9] (ih _ _ _ _ _ _)) λ_=>lE 0)<|lE 0
theorem zGH{e d m n p f}:Cz (G7 e d m n p f) 108 [.cells [zC zI d .no,ai m,ai n,ai p]] [.mp 0 0,ai f,.clo 114 [.mp 0 0] [],.clo 115 [.mp 0 0] []] (λr=>.sl (zH zF r.1) r.1.length .no) (λr=>[.cells [zC zI d .no,ai r.2.1,ai r.2.2.1,ai r.2.2.2]]) 0:=fw func108<|fH 0 [(none,9,7)] [0] [0] [0,1,2,3,9] (zGG _ _ _ _ _ _ _)
def zTU(e:Nat)(c:List zQ)(d b a:Int):Option (Bool):=lA e c d b a 0 (⟨#[40]⟩:ByteArray)>>=λr1=>some r1
theorem yDL{e c d b a}:Cz (zTU e c d b a) 109 [.cells [zC zI c .no,ai d,ai b,ai a]] [.mp 0 0] (λr=>ab r) (λ_=>[.cells [zC zI c .no,ai d,ai b,ai a]]) 0:=fw func109<|rC 0 [0] jK λ_=>fE 0
def zTV(e:Nat)(b:List zQ)(d c a:Int):Option (zM×Int×Int×Int):=qS e b d c a (⟨#[40]⟩:ByteArray)>>=λr1=>zQA e b r1.1 r1.2.1 r1.2.2>>=λr3=>qS e b r3.2.1 r3.2.2.1 r3.2.2.2 (⟨#[41]⟩:ByteArray)>>=λr5=>some (r3.1,r5.1,r5.2.1,r5.2.2)
theorem yDM{e b d c a}:Cz (zTV e b d c a) 110 [.cells [zC zI b .no,ai d,ai c,ai a]] [.mp 0 0] (λr=>N0 r.1) (λr=>[.cells [zC zI b .no,ai r.2.1,ai r.2.2.1,ai r.2.2.2]]) 0:=fw func110<|rC 0 [0] lB λ_=>rC 0 [0] yBw λ_=>rC 1 [0] lB λ_=>fE 2
def nD:Nat->(List zQ)->Int->(List zM)->Int->Int->Int->Option (List zM×Int×Int×Int)|0,_,_,_,_,_,_=>none|e+1,d,f,g,a,c,b=>if b==0 then zTU e d a c b>>=λr2=>if r2 then if decide ((g.length:Int)>=f)then cQ e d a c b 0>>=λr6=>V7 e d a c b 2 r6.at_>>=λr8=>some (g,a,r8.1,r8.2)else zTV e d a c b>>=λr10=>yR 88 g [r10.1]>>=λl12=>nD e d f l12 r10.2.1 r10.2.2.1 r10.2.2.2 else some (g,a,c,b)else some (g,a,c,b)
def zAu(e:Nat)(d:List zQ)(m n p f:Int):Option (List zM×Int×Int×Int):=nD e d f [] m n p
theorem zGI:∀e:Nat,∀d f g a c b,Lz (nD e d f g a c b) 1 f108 (pt 997 f108) (λj=>sp j 34 0 [(0,.mp 0 0),(1,ai f),(2,.clo 109 [.mp 0 0] []),(3,.clo 110 [.mp 0 0] []),(9,zC zF g (.st 0 7))]) ⟨[(0,.cells [zC zI d .no,ai a,ai c,ai b])],1,[0],1,[]⟩ (λr=>.sl (zH zF r.1) r.1.length .no) (λr=>[.cells [zC zI d .no,ai r.2.1,ai r.2.2.1,ai r.2.2.2]]) 0 [.blk 0,.seq (pt 63 f108)]:=yS (λ_ _ _ _ _ _=>lN) λe ih=>λd f g a c b=>lw λ_=>rB 1 (rK 0 [0] yDL (λ_=>rB 1 (rC 0 [0] B2 λ_=>rC 0 [0] zEx λ_=>lE 0)<|rC 0 [0] yDM λ_=>rW (λh13=>oP 1 (zPg h13 (by simp))) λ_=>lH 0 [] [0] [1] [0,1,2,3,9] (ih _ _ _ _ _ _)) λ_=>lE 0)<|lE 0
theorem zQB{e d m n p f}:Cz (zAu e d m n p f) 108 [.cells [zC zI d .no,ai m,ai n,ai p]] [.mp 0 0,ai f,.clo 109 [.mp 0 0] [],.clo 110 [.mp 0 0] []] (λr=>.sl (zH zF r.1) r.1.length .no) (λr=>[.cells [zC zI d .no,ai r.2.1,ai r.2.2.1,ai r.2.2.2]]) 0:=fw func108<|fH 0 [(none,9,7)] [0] [0] [0,1,2,3,9] (zGI _ _ _ _ _ _ _)
def zQC(e:Nat)(c:List zQ)(d b a:Int):Option (Bool):=cQ e c d b a 0>>=λr1=>if r1.kind_==1 then some true else lA e c d b a 0 (⟨#[46]⟩:ByteArray)>>=λr4=>if r4 then some true else lA e c d b a 0 (⟨#[40]⟩:ByteArray)>>=λr7=>some r7
theorem yBv{e c d b a}:Cz (zQC e c d b a) 281 [.cells [zC zI c .no,ai d,ai b,ai a]] [.mp 0 0] (λr=>ab r) (λ_=>[.cells [zC zI c .no,ai d,ai b,ai a]]) 0:=fw func281<|rC 0 [0] B2 λ_=>rB 0 (fE 0)<|rK 0 [0] jK (λ_=>fE 0) λ_=>rC 0 [0] jK λ_=>fE 0
mutual def zIZ:Nat->(List zQ)->Int->Int->Int->Option (zG×Int×Int×Int)
 |0,_,_,_,_=>none|m+1,b,d,c,a=>cQ m b d c a 0>>=λr1=>if a !=0 then some ((zG.mk 0 0 (⟨#[]⟩:ByteArray) 0 []),d,c,a)else lA m b d c a 0 (⟨#[40]⟩:ByteArray)>>=λr4=>if r4 then zTW m b d c a>>=λr7=>some (r7.1,r7.2.1,r7.2.2.1,r7.2.2.2)else lA m b d c a 0 (⟨#[46]⟩:ByteArray)>>=λr9=>if r9 then zIX m b (yB (d+1)) c a>>=λr12=>some ((zG.mk 10 r1.at_ (⟨#[]⟩:ByteArray) 0 [r12.1]),r12.2.1,r12.2.2.1,r12.2.2.2)else cQ m b d c a 0>>=λr14=>if r14.kind_==1 then cQ m b d c a 0>>=λr17=>if r17.text_.toList==(⟨#[95]⟩:ByteArray).toList then some ((zG.mk 7 r1.at_ (⟨#[]⟩:ByteArray) 0 []),(yB (d+1)),c,a)else zAz m b d c a>>=λr20=>some ((zG.mk 6 r1.at_ r20.1 0 []),r20.2.1,r20.2.2.1,r20.2.2.2)else zAz m b d c a>>=λr22=>some ((zG.mk 6 r1.at_ r22.1 0 []),r22.2.1,r22.2.2.1,r22.2.2.2)def zTW:Nat->(List zQ)->Int->Int->Int->Option (zG×Int×Int×Int)
 |0,_,_,_,_=>none|m+1,b,d,c,a=>cQ m b d c a 0>>=λr1=>lA m b (yB (d+1)) c a 0 (⟨#[41]⟩:ByteArray)>>=λr3=>if r3 then some ((zG.mk 9 r1.at_ (⟨#[]⟩:ByteArray) 0 []),(yB ((yB (d+1))+1)),c,a)else zMW m b (yB (d+1)) c a 0>>=λr6=>if r6 then cQ m b (yB (d+1)) c a 0>>=λr9=>zAz m b (yB (d+1)) c a>>=λr11=>G8 m b r1 r11 r11.2.1 r11.2.2.1 r11.2.2.2 6 r9.at_ []else zIZ m b (yB (d+1)) c a>>=λr13=>qS m b r13.2.1 r13.2.2.1 r13.2.2.2 (⟨#[41]⟩:ByteArray)>>=λr15=>some (r13.1,r15.1,r15.2.1,r15.2.2)def G8:Nat->(List zQ)->zQ->(ByteArray×Int×Int×Int)->Int->Int->Int->Int->Int->(List zG)->Option (zG×Int×Int×Int)|0,_,_,_,_,_,_,_,_,_=>none|m+1,b,r1,r11,f,g,e,p,q,n=>if e==0 then zQC m b f g e>>=λr14=>if r14 then zIZ m b f g e>>=λr17=>yR 64 n [r17.1]>>=λl19=>G8 m b r1 r11 r17.2.1 r17.2.2.1 r17.2.2.2 8 r1.at_ l19 else qS m b f g e (⟨#[41]⟩:ByteArray)>>=λr21=>some ((zG.mk p q r11.1 0 n),r21.1,r21.2.1,r21.2.2)else qS m b f g e (⟨#[41]⟩:ByteArray)>>=λr23=>some ((zG.mk p q r11.1 0 n),r23.1,r23.2.1,r23.2.2)end
theorem V8:∀m:Nat,(∀b d c a,Cz (zIZ m b d c a) 282 [.cells [zC zI b .no,ai d,ai c,ai a]] [.mp 0 0] (λr=>xB r.1) (λr=>[.cells [zC zI b .no,ai r.2.1,ai r.2.2.1,ai r.2.2.2]]) 0)/\(∀b d c a,Cz (zTW m b d c a) 314 [.cells [zC zI b .no,ai d,ai c,ai a]] [.mp 0 0] (λr=>xB r.1) (λr=>[.cells [zC zI b .no,ai r.2.1,ai r.2.2.1,ai r.2.2.2]]) 0)/\(∀b r1 r11 f g e p q n,Lz (G8 m b r1 r11 f g e p q n) 1 f314 (pt 262117 f314) (λj=>sp j 63 0 [(0,.mp 0 0),(2,.mp 1 0),(3,ai r1.at_),(5,.mp 2 0)]) ⟨[(0,.cells [zC zI b .no,ai f,ai g,ai e]),(1,.cells [ai 0,ai 0,at' (⟨#[]⟩:ByteArray),ai 0,zC zK ([]:List zG) .nl]),(2,.cells [ai p,ai q,at' r11.1,ai 0,zC zK n (.st 0 5)])],3,[0],1,[]⟩ (λr=>xB r.1) (λr=>[.cells [zC zI b .no,ai r.2.1,ai r.2.2.1,ai r.2.2.2]]) 0 [.blk 0,.seq (pt 16383 f314)]):=yS ⟨λ_ _ _ _=>cN,λ_ _ _ _=>cN,λ_ _ _ _ _ _ _ _ _=>lN⟩ λm ih=>⟨λb d c a=>fw func282<|rC 0 [0] B2 λ_=>rB 1 (fE 1)<|rK 0 [0] jK (λ_=>rC 0 [0] (ih.2.1 _ _ _ _) λ_=>fE 1) λ_=>rK 0 [0] jK (λ_=>rC 3 [0] yDI λr12=>rS (oS 0 (yZ vL [r12.1]))<|fE 1) λ_=>rC 0 [0] B2 λ_=>rB 0 (rC 0 [0] B2 λ_=>rB 0 (fE 4)<|rC 0 [0] zGD λ_=>fE 1)<|rC 0 [0] zGD λ_=>fE 1,λb d c a=>fw func314<|rC 0 [0] B2 λ_=>rK 3 [0] jK (λ_=>fE 4) λ_=>rK 0 [0] zYy (λ_=>rC 1 [0] B2 λ_=>rC 0 [0] zGD λ_=>fH 1 [(some 2,4,5)] [0,1,2] [0] [0,2,3,5] (ih.2.2 _ _ _ _ _ _ _ _ _)) λ_=>rC 1 [0] (ih.1 _ _ _ _) λ_=>rC 1 [0] lB λ_=>fE 2,λb r1 r11 f g e p q n=>lw λ_=>rB 1 (rK 0 [0] yBv (λ_=>rS (gR 2)<|rC 0 [0] (ih.1 _ _ _ _) λr17=>rS (oS 0 (yZ vL [r17.1]))<|rW (λh20=>oP 0 (zWM h20 (by simp))) λ_=>lH 1 [] [0,1,2] [1] [0,2,3,5] (ih.2.2 _ _ _ _ _ _ _ _ _)) λ_=>rC 0 [0] lB λ_=>lE 2)<|rC 0 [0] lB λ_=>lE 2⟩
theorem yDN{m b d c a}:Cz (zIZ m b d c a) 282 [.cells [zC zI b .no,ai d,ai c,ai a]] [.mp 0 0] (λr=>xB r.1) (λr=>[.cells [zC zI b .no,ai r.2.1,ai r.2.2.1,ai r.2.2.2]]) 0:=(V8 _).1 _ _ _ _
def G9:Nat->(List zQ)->(List zG)->Int->Int->Int->Option (List zG×Int×Int×Int)|0,_,_,_,_,_=>none|m+1,a,n,b,d,c=>if c==0 then zQC m a b d c>>=λr2=>if r2 then cQ m a b d c 0>>=λr5=>if decide ((n.length:Int)>=24)then V7 m a b d c 2 r5.at_>>=λr8=>some (n,b,r8.1,r8.2)else zIZ m a b d c>>=λr10=>zQa m a r10.2.1 r10.2.2.1 r10.2.2.2 r10.1 r5.at_>>=λr12=>yR 64 n [r12.1]>>=λl14=>G9 m a l14 r10.2.1 r12.2.1 r12.2.2 else some (n,b,d,c)else some (n,b,d,c)
def zYw(m:Nat)(a:List zQ)(g f e:Int):Option (List zG×Int×Int×Int):=G9 m a [] g f e
theorem zTX:∀m:Nat,∀a n b d c,Lz (G9 m a n b d c) 1 f238 (pt 997 f238) (λj=>sp j 32 0 [(0,.mp 0 0),(3,zC zK n (.st 0 5))]) ⟨[(0,.cells [zC zI a .no,ai b,ai d,ai c])],1,[0],1,[]⟩ (λr=>.sl (zH zK r.1) r.1.length .no) (λr=>[.cells [zC zI a .no,ai r.2.1,ai r.2.2.1,ai r.2.2.2]]) 0 [.blk 0,.seq (pt 63 f238)]:=yS (λ_ _ _ _ _=>lN) λm ih=>λa n b d c=>lw λ_=>rB 1 (rK 0 [0] yBv (λ_=>rC 0 [0] B2 λ_=>rB 1 (rC 0 [0] zEx λ_=>lE 0)<|rC 0 [0] yDN λ_=>rC 0 [0] yBx λr12=>rS (oS 0 (yZ vL [r12.1]))<|rW (λh15=>oP 0 (zWM h15 (by simp))) λ_=>lH 0 [] [0] [1] [0,3] (ih _ _ _ _ _)) λ_=>lE 0)<|lE 0
theorem yDO{m a g f e}:Cz (zYw m a g f e) 238 [.cells [zC zI a .no,ai g,ai f,ai e]] [.mp 0 0] (λr=>.sl (zH zK r.1) r.1.length .no) (λr=>[.cells [zC zI a .no,ai r.2.1,ai r.2.2.1,ai r.2.2.2]]) 0:=fw func238<|fH 0 [(none,3,5)] [0] [0] [0,3] (zTX _ _ _ _ _ _)
def zTY(e:Nat)(a:List zQ)(d c b:Int):Option (yO×Int×Int×Int):=cQ e a d c b 0>>=λr1=>zYw e a d c b>>=λr3=>if r3.2.2.2==0 then lA e a r3.2.1 r3.2.2.1 r3.2.2.2 0 (⟨#[61]⟩:ByteArray)>>=λr6=>if r6 then zGF e a (yB (r3.2.1+1)) r3.2.2.1 r3.2.2.2>>=λr9=>qS e a r9.2.1 r9.2.2.1 r9.2.2.2 (⟨#[59]⟩:ByteArray)>>=λr11=>some ((yO.mk r1.at_ r3.1 true r9.1),r11.1,r11.2.1,r11.2.2)else qS e a r3.2.1 r3.2.2.1 r3.2.2.2 (⟨#[59]⟩:ByteArray)>>=λr13=>some ((yO.mk r1.at_ r3.1 false (zG.mk 0 0 (⟨#[]⟩:ByteArray) 0 [])),r13.1,r13.2.1,r13.2.2)else qS e a r3.2.1 r3.2.2.1 r3.2.2.2 (⟨#[59]⟩:ByteArray)>>=λr15=>some ((yO.mk r1.at_ r3.1 false (zG.mk 0 0 (⟨#[]⟩:ByteArray) 0 [])),r15.1,r15.2.1,r15.2.2)
theorem yDP{e a d c b}:Cz (zTY e a d c b) 177 [.cells [zC zI a .no,ai d,ai c,ai b]] [.mp 0 0] (λr=>zFF r.1) (λr=>[.cells [zC zI a .no,ai r.2.1,ai r.2.2.1,ai r.2.2.2]]) 0:=fw func177<|rC 0 [0] B2 λ_=>rC 0 [0] yDO λ_=>rB 2 (rK 0 [0] jK (λ_=>rC 3 [0] zTS λ_=>rC 2 [0] lB λ_=>fE 2) λ_=>rC 0 [0] lB λ_=>fE 2)<|rC 0 [0] lB λ_=>fE 2
def cS:Nat->(List zQ)->(List yO)->Int->Int->Int->Option (List yO×Int×Int×Int)|0,_,_,_,_,_=>none|m+1,a,n,b,d,c=>if c==0 then zQb m a b d c>>=λr2=>if r2 then if decide ((n.length:Int)>=32)then cQ m a b d c 0>>=λr6=>V7 m a b d c 2 r6.at_>>=λr8=>some (n,b,r8.1,r8.2)else zTY m a b d c>>=λr10=>yR 104 n [r10.1]>>=λl12=>cS m a l12 r10.2.1 r10.2.2.1 r10.2.2.2 else some (n,b,d,c)else some (n,b,d,c)
def zTZ(m:Nat)(a:List zQ)(g f e:Int):Option (List yO×Int×Int×Int):=cS m a [] g f e
theorem zUz:∀m:Nat,∀a n b d c,Lz (cS m a n b d c) 1 f113 (pt 997 f113) (λj=>sp j 27 0 [(0,.mp 0 0),(3,zC zY n (.st 0 8))]) ⟨[(0,.cells [zC zI a .no,ai b,ai d,ai c])],1,[0],1,[]⟩ (λr=>.sl (zH zY r.1) r.1.length .no) (λr=>[.cells [zC zI a .no,ai r.2.1,ai r.2.2.1,ai r.2.2.2]]) 0 [.blk 0,.seq (pt 63 f113)]:=yS (λ_ _ _ _ _=>lN) λm ih=>λa n b d c=>lw λ_=>rB 1 (rK 0 [0] yBy (λ_=>rB 1 (rC 0 [0] B2 λ_=>rC 0 [0] zEx λ_=>lE 0)<|rC 0 [0] yDP λ_=>rW (λh13=>oP 1 (yAB h13 (by simp))) λ_=>lH 0 [] [0] [1] [0,3] (ih _ _ _ _ _)) λ_=>lE 0)<|lE 0
theorem yBu{m a g f e}:Cz (zTZ m a g f e) 113 [.cells [zC zI a .no,ai g,ai f,ai e]] [.mp 0 0] (λr=>.sl (zH zY r.1) r.1.length .no) (λr=>[.cells [zC zI a .no,ai r.2.1,ai r.2.2.1,ai r.2.2.2]]) 0:=fw func113<|fH 0 [(none,3,8)] [0] [0] [0,3] (zUz _ _ _ _ _ _)
def e53(b:Nat)(a:ByteArray):Option (List zQ×Int×Int×Int):=zTE b a>>=λr1=>if r1.2.2 !=0 then some ([(zQ.mk 5 (⟨#[]⟩:ByteArray) 0)],0,r1.2.1,r1.2.2)else some (r1.1,0,0,0)
theorem c53{b a}:Cz (e53 b a) 53 [] [at' a] (λ_=>.mp 0 0) (λr=>[.cells [zC zI r.1 .no,ai r.2.1,ai r.2.2.1,ai r.2.2.2]]) 0:=fw func53<|rC 0 [] yDb λ_=>rB 3 (fF 1 [0])<|fF 0 [0]
def e55(e:Nat)(a:List zQ)(d c b:Int):Option (xD×Int×Int×Int):=zTR e a d c b>>=λr1=>cQ e a d c b 0>>=λr3=>if r1==0 then V7 e a d c b 1 r3.at_>>=λr6=>some ((xD.mk r1 r3.at_ (⟨#[]⟩:ByteArray) [] (zG.mk 0 0 (⟨#[]⟩:ByteArray) 0 []) [] []),d,r6.1,r6.2)else zAz e a (yB (d+1)) c b>>=λr8=>if r1 !=3 then zAu e a r8.2.1 r8.2.2.1 r8.2.2.2 24>>=λr11=>qS e a r11.2.1 r11.2.2.1 r11.2.2.2 (⟨#[58]⟩:ByteArray)>>=λr13=>zGF e a r13.1 r13.2.1 r13.2.2>>=λr15=>qS e a r15.2.1 r15.2.2.1 r15.2.2.2 (⟨#[123]⟩:ByteArray)>>=λr17=>if r1==3 then zTZ e a r17.1 r17.2.1 r17.2.2>>=λr20=>qS e a r20.2.1 r20.2.2.1 r20.2.2.2 (⟨#[125]⟩:ByteArray)>>=λr22=>some ((xD.mk r1 r3.at_ r8.1 r11.1 r15.1 [] r20.1),r22.1,r22.2.1,r22.2.2)else G7 e a r17.1 r17.2.1 r17.2.2 16>>=λr24=>qS e a r24.2.1 r24.2.2.1 r24.2.2.2 (⟨#[125]⟩:ByteArray)>>=λr26=>some ((xD.mk r1 r3.at_ r8.1 r11.1 r15.1 r24.1 []),r26.1,r26.2.1,r26.2.2)else qS e a r8.2.1 r8.2.2.1 r8.2.2.2 (⟨#[58]⟩:ByteArray)>>=λr28=>zGF e a r28.1 r28.2.1 r28.2.2>>=λr30=>qS e a r30.2.1 r30.2.2.1 r30.2.2.2 (⟨#[123]⟩:ByteArray)>>=λr32=>if r1==3 then zTZ e a r32.1 r32.2.1 r32.2.2>>=λr35=>qS e a r35.2.1 r35.2.2.1 r35.2.2.2 (⟨#[125]⟩:ByteArray)>>=λr37=>some ((xD.mk r1 r3.at_ r8.1 [] r30.1 [] r35.1),r37.1,r37.2.1,r37.2.2)else G7 e a r32.1 r32.2.1 r32.2.2 16>>=λr39=>qS e a r39.2.1 r39.2.2.1 r39.2.2.2 (⟨#[125]⟩:ByteArray)>>=λr41=>some ((xD.mk r1 r3.at_ r8.1 [] r30.1 r39.1 []),r41.1,r41.2.1,r41.2.2)
theorem c55{e a d c b}:Cz (e55 e a d c b) 55 [.cells [zC zI a .no,ai d,ai c,ai b]] [.mp 0 0] (λr=>N1 r.1) (λr=>[.cells [zC zI a .no,ai r.2.1,ai r.2.2.1,ai r.2.2.2]]) 0:=fw func55<|rC 0 [0] yDJ λ_=>rC 0 [0] B2 λ_=>rB 2 (rC 1 [0] zEx λ_=>fE 2)<|rC 3 [0] zGD λ_=>rB 2 (rC 0 [0] zQB λ_=>rC 1 [0] lB λ_=>rC 0 [0] zTS λ_=>rC 1 [0] lB λ_=>rB 1 (rC 0 [0] yBu λ_=>rC 1 [0] lB λ_=>fE 2)<|rC 0 [0] zGH λ_=>rC 1 [0] lB λ_=>fE 2)<|rC 0 [0] lB λ_=>rC 0 [0] zTS λ_=>rC 1 [0] lB λ_=>rB 1 (rC 0 [0] yBu λ_=>rC 1 [0] lB λ_=>fE 2)<|rC 0 [0] zGH λ_=>rC 1 [0] lB λ_=>fE 2
def N8:Nat->ByteArray->(List zQ×Int×Int×Int)->(List xD)->Int->Int->Int->Option (List xD×Int×Int)
 |0,_,_,_,_,_,_=>none|e+1,d,r1,f,c,b,a=>if a==0 then cQ e r1.1 c b a 0>>=λr4=>if r4.kind_ !=5 then e55 e r1.1 c b a>>=λr7=>yR 168 f [r7.1]>>=λl9=>N8 e d r1 l9 r7.2.1 r7.2.2.1 r7.2.2.2 else if a !=0 then some ([],b,a)else some (f,(d.size:Int),0)else if a !=0 then some ([],b,a)else some (f,(d.size:Int),0)
def e22(e:Nat)(d:ByteArray):Option (List xD×Int×Int):=e53 e d>>=λr1=>N8 e d r1 [] r1.2.1 r1.2.2.1 r1.2.2.2
theorem zYv:∀e:Nat,∀d r1 f c b a,Lz (N8 e d r1 f c b a) 0 f22 (pt 4069 f22) (λj=>sp j 41 0 [(0,at' d),(5,.mp 0 0),(6,zC vY f (.st 0 11))]) ⟨[(0,.cells [zC zI r1.1 .no,ai c,ai b,ai a])],1,[0],1,[]⟩ (λr=>.tup [.sl (zH vY r.1) r.1.length .no,ai r.2.1,ai r.2.2]) (λ_=>[]) 0 [.blk 0,.seq (pt 255 f22)]:=yS (λ_ _ _ _ _ _=>lN) λe ih=>λd r1 f c b a=>lw λ_=>rB 1 (rC 0 [0] B2 λ_=>rB 0 (rC 0 [0] c55 λ_=>rW (λh10=>oP 1 (yAA h10 (by simp))) λ_=>lH 0 [] [0] [1] [0,5,6] (ih _ _ _ _ _ _))<|rB 1 (lE 2)<|lE 1)<|rB 1 (lE 2)<|lE 1
theorem c22{e d}:Cz (e22 e d) 22 [] [at' d] (λr=>.tup [.sl (zH vY r.1) r.1.length .no,ai r.2.1,ai r.2.2]) (λ_=>[]) 0:=fw func22<|rC 0 [] c53 λ_=>fH 0 [(none,6,11)] [0] [0] [0,5,6] (zYv _ _ _ _ _ _ _)
section
variable{l:List zQ}(hl:zMR l)
theorem T4(i a b:Int)(t:zG)(p:Int)(ho:cO t):zD (λq=>zQa q l i a b t p) λr=>r.1=t/\(r.2.2=0->b=0):=by simp only[zQa];refine zD.ite (λh=>(d9 t ho).bind λ_ _=>zD.ite (λ_=>(qZ i a b 2 _ (by decide)).bind λr hr=>zD.ret ⟨rfl,λh=>absurd h hr⟩) λ_=>zD.ret ⟨rfl,id⟩) λ_=>zD.ret ⟨rfl,id⟩
include hl
theorem zAt(i a b:Int)(h0:0<=i)(h1:i<l.length):zD (λq=>zGF q l i a b) (NR l i b):=by have:=hl.2.1;simp only[zGF];refine zD.bind ((vD hl i a b 0 (by omega) (by omega)).tot (P:=λ_=>True) trivial) λt _=>(zAv hl l.length i a b h0 h1 (by omega)).bind λr hr=>(T4 _ _ _ _ _ hr.1).bind λs hs=>zD.ret ⟨by show cO s.1;rw[hs.1];exact hr.1,hr.2.1,hr.2.2.1,λh=>hr.2.2.2 (hs.2 h)⟩
omit hl in def BR(l:List zQ)(i b:Int)(r:zM×Int×Int×Int):Prop:=cO r.1.type_/\i<=r.2.1/\r.2.1<l.length/\(r.2.2.2=0->b=0/\i<r.2.1)
theorem zKX(i a b:Int)(h0:0<=i)(h1:i<l.length):zD (λq=>zQA q l i a b) (BR l i b):=by have:=hl.2.1;simp only[zQA];refine zD.bind ((vD hl i a b 0 (by omega) (by omega)).tot (P:=λ_=>True) trivial) λt _=>(jL hl i a b h0 h1).bind λr hr=>(vE hl _ _ _ _ (by omega) hr.2.1).bind λs hs=>(zAt hl _ _ _ (by omega) hs.2.1).bind λu hu=>?_;obtain⟨o,hu⟩:=hu;exact zD.ret ⟨o,by show i<=u.2.1;omega,hu.2.1,λh=>by have:u.2.2.2=0:=h;show b=0/\i<u.2.1;omega⟩
theorem zQD(i a b:Int)(h0:0<=i)(h1:i<l.length):zD (λq=>zTV q l i a b) (BR l i b):=by simp only[zTV];refine(vE hl i a b _ h0 h1).bind λr hr=>(zKX hl _ _ _ (by omega) hr.2.1).bind λs hs=>?_;obtain⟨o,hs⟩:=hs;exact(vE hl _ _ _ _ (by omega) hs.2.1).bind λu hu=>zD.ret ⟨o,by show i<=u.1;omega,hu.2.1,λh=>by have:u.2.2=0:=h;show b=0/\i<u.1;omega⟩
theorem zMX(i a b:Int)(h0:0<=i)(h1:i<l.length):zD (λq=>zTT q l i a b) (BR l i b):=by simp only[zTT];refine(zKX hl i a b h0 h1).bind λs hs=>?_;obtain⟨o,hs⟩:=hs;exact(vE hl _ _ _ _ (by omega) hs.2.1).bind λu hu=>zD.ret ⟨o,by show i<=u.1;omega,hu.2.1,λh=>by have:u.2.2=0:=h;show b=0/\i<u.1;omega⟩
theorem T5(i a b:Int)(h0:0<=i)(h1:i<l.length):zD (λq=>zQC q l i a b) λ_=>True:=by have:=hl.2.1;simp only[zQC];exact zD.bind ((vD hl i a b 0 (by omega) (by omega)).tot (P:=λ_=>True) trivial) λt _=>zD.ite (λ_=>zD.ret trivial) λ_=>(uQ hl i a b 0 _ (by omega) (by omega)).bind λ_ _=>zD.ite (λ_=>zD.ret trivial) λ_=>(uQ hl i a b 0 _ (by omega) (by omega)).bind λ_ _=>zD.ret trivial
omit hl in def zQE(l:List zQ)(m:Nat):Prop:=∀i a b:Int,0<=i->i<l.length->(b=0->(l.length:Int)-i<=m)->zD (λq=>zIZ q l i a b) (NR l i b)
omit hl in theorem zGJ:∀{x y:List zG},zBh x->zBh y->zBh (x++y)|[],_,_,h=>h|_::_,_,h,k=>⟨h.1,zGJ h.2 k⟩
theorem zAs(m:Nat)(IH:zQE l m)(t:zQ)(nm:ByteArray×Int×Int×Int):∀(k:Nat)(i a b kd p:Int)(sub:List zG),0<=i->i<l.length->(b=0->(l.length:Int)-i<=k)->(b=0->(l.length:Int)-i<=m)->(sub.length<=i+1/\(b=0->sub.length<=i))->zBh sub->zD (λq=>G8 q l t nm i a b kd p sub) (NR l i b)
 |k,i,a,b,kd,p,sub,h0,h1,hk,hb,hs,ho=>by
  have:=hl.2.1;refine zD.succ ?_;simp only[G8];have oo:cO (zG.mk kd p nm.1 0 sub):=⟨by omega,ho⟩;have fin:=(vE hl i a b (⟨#[41]⟩:ByteArray) h0 h1).bind (k:=λ_ r=>some (zG.mk kd p nm.1 0 sub,r.1,r.2.1,r.2.2)) (Q:=NR l i b) λr hr=>⟨_,zB.ret,oo,hr⟩;refine zD.ite (λh=>(T5 hl i a b h0 h1).bind λ_ _=>zD.ite (λ_=>(IH i a b h0 h1 hb).bind λr hr=>zD.pure (yA (by simp;omega)) ?_) λ_=>fin) λ_=>fin;have hb0:b=0:=by simpa using h
  obtain⟨o,hr⟩:=hr;cases k with|zero=>have:=hk hb0;omega|succ k=>refine(zAs m IH t nm k r.2.1 _ _ 8 _ _ (by omega) hr.2.1 (by omega) (by omega) ⟨by simp;omega,by simp;omega⟩ (zGJ ho (show zBh [r.1]from⟨o,trivial⟩))).mono λs hs=>?_;obtain⟨o2,hs⟩:=hs;exact⟨o2,by omega,hs.2.1,λh=>⟨hb0,by omega⟩⟩
theorem zMY(m:Nat)(IH:zQE l m)(i a b:Int)(h0:0<=i)(h1:i+1<l.length)(hb:(l.length:Int)-i<=m+1)(hb0:b=0):zD (λq=>zTW q l i a b) (NR l i b):=by
 have:=hl.2.1;refine zD.succ ?_;simp only[zTW];rw[zR (x:=i+1) (by omega) (by omega),zR (x:=i+1+1) (by omega) (by omega)];refine zD.bind ((vD hl i a b 0 (by omega) (by omega)).tot (P:=λ_=>True) trivial) λt _=>(uQ hl (i+1) a b 0 _ (by omega) (by omega)).bind λc hc=>zD.ite (λh=>?_) λ_=>?_;·have:=hc h;exact zD.ret ⟨zBe _ _ _ _,by show i<=i+1+1;omega,by show i+1+1<_;omega,λ_=>⟨hb0,by show i<i+1+1;omega⟩⟩
 ·refine(B3 hl (i+1) a b 0 (by omega) (by omega)).bind λc hc=>zD.ite (λ_=>zD.bind ((vD hl (i+1) a b 0 (by omega) (by omega)).tot (P:=λ_=>True) trivial) λu _=>(jL hl (i+1) a b (by omega) h1).bind λr hr=>?_) λ_=>?_
  ·refine(zAs hl m IH t r l.length r.2.1 _ _ 6 _ [] (by omega) hr.2.1 (by omega) (by omega) ⟨by simp;omega,by simp;omega⟩ trivial).mono λs hs=>?_;obtain⟨o2,hs⟩:=hs;exact⟨o2,by omega,hs.2.1,λh=>⟨hb0,by omega⟩⟩
  ·refine(IH (i+1) a b (by omega) h1 (by omega)).bind λr hr=>?_;obtain⟨o,hr⟩:=hr;exact(vE hl _ _ _ _ (by omega) hr.2.1).bind λs hs=>zD.ret ⟨o,by show i<=s.1;omega,hs.2.1,λ_=>⟨hb0,by show i<s.1;omega⟩⟩
theorem zKY:∀m:Nat,zQE l m
 |m,i,a,b,h0,h1,hb=>by
  have:=hl.2.1;refine zD.succ ?_;simp only[zIZ];rw[zR (x:=i+1) (by omega) (by omega)];have e:=vD hl i a b 0 (by omega) (by omega);refine zD.bind (e.tot (P:=λ_=>True) trivial) λt _=>zD.ite (λh=>zD.ret ⟨zBe _ _ _ _,by show i<=i;omega,h1,λh2=>absurd h2 (by simpa using h)⟩) λh=>?_;have hb0:b=0:=by simpa using h
  cases m with|zero=>have:=hb hb0;omega|succ m=>
   have nm:=(jL hl i a b h0 h1).bind (k:=λ_ r=>some (zG.mk 6 t.at_ r.1 0 [],r.2.1,r.2.2.1,r.2.2.2)) (Q:=NR l i b) λr hr=>⟨_,zB.ret,zBe _ _ _ _,hr⟩;refine(uQ hl i a b 0 _ (by omega) (by omega)).bind λc hc=>zD.ite (λh2=>(zMY hl m (zKY m) i a b h0 (by have:=hc h2;omega) (by omega) hb0).bind λr hr=>⟨_,zB.ret,hr⟩) λ_=>?_;refine(uQ hl i a b 0 _ (by omega) (by omega)).bind λc hc=>zD.ite (λh2=>(zAw hl l.length (zAv hl l.length) (i+1) a b (by omega) (by have:=hc h2;omega) (by omega)).bind λr hr=>zD.ret ?_) λ_=>?_;·obtain⟨o,hr⟩:=hr;exact⟨⟨by simp,o,trivial⟩,by show i<=r.2.1;omega,hr.2.1,λ_=>⟨hb0,by show i<r.2.1;omega⟩⟩
   ·refine zD.bind (e.tot rfl) λu hu=>zD.ite (λh2=>zD.bind (e.tot (P:=λ_=>True) trivial) λ_ _=>zD.ite (λ_=>zD.ret ⟨zBe _ _ _ _,?_⟩) λ_=>nm) λ_=>nm;subst hu;have:=N7 hl (i:=i+0) (by omega) (by have:=eq_of_beq h2;omega);exact⟨by show i<=i+1;omega,by show i+1<_;omega,λ_=>⟨hb0,by show i<i+1;omega⟩⟩
theorem zCh:∀(k:Nat)(acc:List zG)(i a b:Int),0<=i->i<l.length->24-acc.length<=k->acc.length<=24->(∀p∈acc,cO p)->zD (λq=>G9 q l acc i a b) λr=>(r.1.length<=24/\∀p∈r.1,cO p)/\i<=r.2.1/\r.2.1<l.length/\(r.2.2.2=0->b=0)
 |k,acc,i,a,b,h0,h1,hk,hn,ho=>by
  have:=hl.2.1;refine zD.succ ?_;simp only[G9];have fin:zD (λ_=>some (acc,i,a,b)) λr:List zG×Int×Int×Int=>(r.1.length<=24/\∀p∈r.1,cO p)/\i<=r.2.1/\r.2.1<l.length/\(r.2.2.2=0->b=0):=zD.ret ⟨⟨hn,ho⟩,by show i<=i;omega,h1,id⟩;refine zD.ite (λh=>(T5 hl i a b h0 h1).bind λ_ _=>zD.ite (λ_=>zD.bind ((vD hl i a b 0 (by omega) (by omega)).tot (P:=λ_=>True) trivial) λt _=>zD.ite (λ_=>(qZ _ _ _ 2 _ (by decide)).bind λr hr=>zD.ret ⟨⟨hn,ho⟩,by show i<=i;omega,h1,λh=>absurd h hr⟩) λh2=>?_) λ_=>fin) λ_=>fin;have hb0:b=0:=by simpa using h
  have h3:=of_decide_eq_false h2;refine(zKY hl l.length i a b h0 h1 (by omega)).bind λr hr=>(T4 _ _ _ _ _ hr.1).bind λs hs=>zD.pure (yA (by simp;omega)) ?_;obtain⟨o,hr⟩:=hr;cases k with|zero=>omega|succ k=>exact(zCh k _ r.2.1 _ _ (by omega) hr.2.1 (by simp;omega) (by simp;omega) (λp hp=>by rcases List.mem_append.1 hp with hp|hp;exact ho p hp;rw[List.mem_singleton.1 hp,hs.1];exact o)).mono λu hu=>⟨hu.1,by omega,hu.2.2.1,λ_=>hb0⟩
omit hl in theorem yBt{x:yO}(h:x.pats_.length<=24)(k:∀p∈x.pats_,cO p)(o:cO x.body_):G6 x:=⟨Nat.le_trans h (by decide),k,o⟩
omit hl in theorem dI'{d:xD}(h:cO d.type_)(h1:d.tele_.length<=24/\bOk d.tele_)(h2:d.cons_.length<=16/\bOk d.cons_)(h3:d.rows_.length<=32/\∀r∈d.rows_,G6 r):dOk d:=⟨h,⟨Nat.le_trans h1.1 (by decide),h1.2⟩,⟨Nat.le_trans h2.1 (by decide),h2.2⟩,Nat.le_trans h3.1 (by decide),h3.2⟩
theorem zUy(i a b:Int)(h0:0<=i)(h1:i<l.length):zD (λq=>zTY q l i a b) λr=>G6 r.1/\i<=r.2.1/\r.2.1<l.length:=by have:=hl.2.1;simp only[zTY,zYw];refine zD.bind ((vD hl i a b 0 (by omega) (by omega)).tot (P:=λ_=>True) trivial) λt _=>(zCh hl 24 [] i a b h0 h1 (by simp) (by simp) (by simp)).bind λr hr=>?_;obtain⟨⟨o1,o2⟩,hr⟩:=hr;have fin:=(vE hl r.2.1 r.2.2.1 r.2.2.2 (⟨#[59]⟩:ByteArray) (by omega) hr.2.1).bind (k:=λ_ s=>some (yO.mk t.at_ r.1 false (zG.mk 0 0 (⟨#[]⟩:ByteArray) 0 []),s.1,s.2.1,s.2.2)) (Q:=λr=>G6 r.1/\i<=r.2.1/\r.2.1<(l.length:Int)) λs hs=>⟨_,zB.ret,yBt o1 o2 (zBe _ _ _ _),by show i<=s.1;omega,hs.2.1⟩;refine zD.ite (λ_=>(uQ hl _ _ _ 0 _ (by omega) (by omega)).bind λc hc=>zD.ite (λh2=>?_) λ_=>fin) λ_=>fin;have:=hc h2;rw[zR (x:=r.2.1+1) (by omega) (by omega)];refine(zAt hl _ _ _ (by omega) (by omega)).bind λs hs=>?_;obtain⟨o,hs⟩:=hs;exact(vE hl _ _ _ _ (by omega) hs.2.1).bind λu hu=>zD.ret ⟨yBt o1 o2 o,by show i<=u.1;omega,hu.2.1⟩
theorem zGK(i a b:Int)(h0:0<=i)(h1:i<l.length):zD (λq=>zQb q l i a b) λ_=>True:=by have:=hl.2.1;simp only[zQb];exact(uQ hl i a b 0 _ (by omega) (by omega)).bind λ_ _=>zD.ret trivial
theorem zJz(i a b:Int)(h0:0<=i)(h1:i<l.length):zD (λq=>zTU q l i a b) λ_=>True:=by have:=hl.2.1;simp only[zTU];exact(uQ hl i a b 0 _ (by omega) (by omega)).bind λ_ _=>zD.ret trivial
theorem zCg:∀(k:Nat)(acc:List yO)(i a b:Int),0<=i->i<l.length->32-acc.length<=k->acc.length<=32->(∀p∈acc,G6 p)->zD (λq=>cS q l acc i a b) λr=>(r.1.length<=32/\∀p∈r.1,G6 p)/\i<=r.2.1/\r.2.1<l.length/\(r.2.2.2=0->b=0)
 |k,acc,i,a,b,h0,h1,hk,hn,ho=>by
  have:=hl.2.1;refine zD.succ ?_;simp only[cS];have fin:zD (λ_=>some (acc,i,a,b)) λr:List yO×Int×Int×Int=>(r.1.length<=32/\∀p∈r.1,G6 p)/\i<=r.2.1/\r.2.1<l.length/\(r.2.2.2=0->b=0):=zD.ret ⟨⟨hn,ho⟩,by show i<=i;omega,h1,id⟩;refine zD.ite (λh=>(zGK hl i a b h0 h1).bind λ_ _=>zD.ite (λ_=>zD.ite (λ_=>zD.bind ((vD hl i a b 0 (by omega) (by omega)).tot (P:=λ_=>True) trivial) λt _=>(qZ _ _ _ 2 _ (by decide)).bind λr hr=>zD.ret ⟨⟨hn,ho⟩,by show i<=i;omega,h1,λh=>absurd h hr⟩) λh2=>?_) λ_=>fin) λ_=>fin;have hb0:b=0:=by simpa using h
  have h3:=of_decide_eq_false h2;refine(zUy hl i a b h0 h1).bind λr hr=>zD.pure (yA (by simp;omega)) ?_;obtain⟨o,hr⟩:=hr;cases k with|zero=>omega|succ k=>exact(zCg k _ r.2.1 _ _ (by omega) hr.2 (by simp;omega) (by simp;omega) (λp hp=>by rcases List.mem_append.1 hp with hp|hp;exact ho p hp;rw[List.mem_singleton.1 hp];exact o)).mono λu hu=>⟨hu.1,by omega,hu.2.2.1,λ_=>hb0⟩
omit hl in def LR(l:List zQ)(i b most:Int)(r:List zM×Int×Int×Int):Prop:=(r.1.length<=most/\bOk r.1)/\i<=r.2.1/\r.2.1<l.length/\(r.2.2.2=0->b=0)
theorem zCf(most:Int)(hm:0<=most/\most<=24):∀(k:Nat)(acc:List zM)(i a b:Int),0<=i->i<l.length->most-acc.length<=k->acc.length<=most->bOk acc->zD (λq=>nD q l most acc i a b) (LR l i b most)
 |k,acc,i,a,b,h0,h1,hk,hn,ho=>by
  have:=hl.2.1;refine zD.succ ?_;simp only[nD];have fin:zD (λ_=>some (acc,i,a,b)) (LR l i b most):=zD.ret ⟨⟨hn,ho⟩,by show i<=i;omega,h1,id⟩;refine zD.ite (λh=>(zJz hl i a b h0 h1).bind λ_ _=>zD.ite (λ_=>zD.ite (λ_=>zD.bind ((vD hl i a b 0 (by omega) (by omega)).tot (P:=λ_=>True) trivial) λt _=>(qZ _ _ _ 2 _ (by decide)).bind λr hr=>zD.ret ⟨⟨hn,ho⟩,by show i<=i;omega,h1,λh=>absurd h hr⟩) λh2=>?_) λ_=>fin) λ_=>fin;have hb0:b=0:=by simpa using h
  have h3:=of_decide_eq_false h2;refine(zQD hl i a b h0 h1).bind λr hr=>zD.pure (yA (by simp;omega)) ?_;obtain⟨o,hr⟩:=hr;cases k with|zero=>omega|succ k=>exact(zCf most hm k _ r.2.1 _ _ (by omega) hr.2.1 (by simp;omega) (by simp;omega) (λp hp=>by rcases List.mem_append.1 hp with hp|hp;exact ho p hp;rw[List.mem_singleton.1 hp];exact o)).mono λu hu=>⟨hu.1,by have:=hu.2.1;omega,hu.2.2.1,λ_=>hb0⟩
theorem zCe(most:Int)(hm:0<=most/\most<=24):∀(k:Nat)(acc:List zM)(i a b:Int),0<=i->i<l.length->most-acc.length<=k->acc.length<=most->bOk acc->zD (λq=>qJ q l most acc i a b) (LR l i b most)
 |k,acc,i,a,b,h0,h1,hk,hn,ho=>by
  have:=hl.2.1;refine zD.succ ?_;simp only[qJ];have fin:zD (λ_=>some (acc,i,a,b)) (LR l i b most):=zD.ret ⟨⟨hn,ho⟩,by show i<=i;omega,h1,id⟩;refine zD.ite (λh=>(zGK hl i a b h0 h1).bind λ_ _=>zD.ite (λ_=>zD.ite (λ_=>zD.bind ((vD hl i a b 0 (by omega) (by omega)).tot (P:=λ_=>True) trivial) λt _=>(qZ _ _ _ 2 _ (by decide)).bind λr hr=>zD.ret ⟨⟨hn,ho⟩,by show i<=i;omega,h1,λh=>absurd h hr⟩) λh2=>?_) λ_=>fin) λ_=>fin;have hb0:b=0:=by simpa using h
  have h3:=of_decide_eq_false h2;refine(zMX hl i a b h0 h1).bind λr hr=>zD.pure (yA (by simp;omega)) ?_;obtain⟨o,hr⟩:=hr;cases k with|zero=>omega|succ k=>exact(zCe most hm k _ r.2.1 _ _ (by omega) hr.2.1 (by simp;omega) (by simp;omega) (λp hp=>by rcases List.mem_append.1 hp with hp|hp;exact ho p hp;rw[List.mem_singleton.1 hp];exact o)).mono λu hu=>⟨hu.1,by have:=hu.2.1;omega,hu.2.2.1,λ_=>hb0⟩
theorem zQF(i a b:Int)(h0:0<=i)(h1:i<l.length):zD (λq=>zTR q l i a b) λr=>r≠0->i+1<l.length:=by have:=hl.2.1;simp only[zTR];refine(uQ hl i a b 0 _ (by omega) (by omega)).bind λc hc=>zD.ite (λh=>zD.ret λ_=>by have:=hc h;omega) λ_=>?_;refine(uQ hl i a b 0 _ (by omega) (by omega)).bind λc hc=>zD.ite (λh=>zD.ret λ_=>by have:=hc h;omega) λ_=>?_;exact(uQ hl i a b 0 _ (by omega) (by omega)).bind λc hc=>zD.ite (λh=>zD.ret λ_=>by have:=hc h;omega) λ_=>zD.ret λh=>absurd rfl h
omit hl in def DR(l:List zQ)(i:Int)(r:xD×Int×Int×Int):Prop:=dOk r.1/\i<=r.2.1/\r.2.1<l.length/\(r.2.2.2=0->i<r.2.1)
theorem zQG(i a b:Int)(h0:0<=i)(h1:i<l.length):zD (λq=>e55 q l i a b) (DR l i):=by
 have:=hl.2.1;have z:bOk []:=λ_ h=>nomatch h;simp only[e55,zAu,G7,zTZ];refine(zQF hl i a b h0 h1).bind λc hc=>zD.bind ((vD hl i a b 0 (by omega) (by omega)).tot (P:=λ_=>True) trivial) λt _=>zD.ite (λh=>(qZ _ _ _ 1 _ (by decide)).bind λr hr=>zD.ret ⟨⟨zBe _ _ _ _,⟨by simp,z⟩,⟨by simp,z⟩,by simp,λ_ h=>nomatch h⟩,by show i<=i;omega,h1,λh=>absurd h hr⟩) λh=>?_;have:=hc (by simpa using h);rw[zR (x:=i+1) (by omega) (by omega)];refine(jL hl _ _ _ (by omega) (by omega)).bind λr hr=>?_;have rest:∀(T:List zM)(j e f:Int),i<j->j<l.length->(T.length<=24/\bOk T)->zD (λq=>qS q l j e f (⟨#[58]⟩:ByteArray)>>=λr13=>zGF q l r13.1 r13.2.1 r13.2.2>>=λr15=>qS q l r15.2.1 r15.2.2.1 r15.2.2.2 (⟨#[123]⟩:ByteArray)>>=λr17=>if(c==3)=true then cS q l [] r17.1 r17.2.1 r17.2.2>>=λr20=>qS q l r20.2.1 r20.2.2.1 r20.2.2.2 (⟨#[125]⟩:ByteArray)>>=λr22=>some ((xD.mk c t.at_ r.1 T r15.1 [] r20.1),r22.1,r22.2.1,r22.2.2)else qJ q l 16 [] r17.1 r17.2.1 r17.2.2>>=λr24=>qS q l r24.2.1 r24.2.2.1 r24.2.2.2 (⟨#[125]⟩:ByteArray)>>=λr26=>some ((xD.mk c t.at_ r.1 T r15.1 r24.1 []),r26.1,r26.2.1,r26.2.2)) (DR l i):=by
  intro T j e f g0 g1 gT;refine(vE hl _ _ _ _ (by omega) g1).bind λu hu=>(zAt hl _ _ _ (by omega) hu.2.1).bind λv hv=>?_;obtain⟨ov,hv⟩:=hv;refine(vE hl _ _ _ _ (by omega) hv.2.1).bind λw hw=>zD.ite (λ_=>(zCg hl 32 [] _ _ _ (by omega) hw.2.1 (by simp) (by simp) (by simp)).bind λx hx=>?_) λ_=>(zCe hl 16 (by omega) 16 [] _ _ _ (by omega) hw.2.1 (by simp) (by simp) z).bind λx hx=>?_;·obtain⟨⟨x1,x2⟩,hx⟩:=hx;exact(vE hl _ _ _ _ (by omega) hx.2.1).bind λy hy=>zD.ret ⟨dI' ov gT ⟨by simp,z⟩ ⟨x1,x2⟩,by show i<=y.1;omega,hy.2.1,λ_=>by show i<y.1;omega⟩
  ·obtain⟨⟨x1,x2⟩,hx⟩:=hx;exact(vE hl _ _ _ _ (by omega) hx.2.1).bind λy hy=>zD.ret ⟨dI' ov gT ⟨Int.ofNat_le.1 x1,x2⟩ ⟨by simp,λ_ h=>nomatch h⟩,by show i<=y.1;omega,hy.2.1,λ_=>by show i<y.1;omega⟩
 refine zD.ite (λ_=>(zCf hl 24 (by omega) 24 [] _ _ _ (by omega) hr.2.1 (by simp) (by simp) z).bind λx hx=>?_) λ_=>rest [] _ _ _ (by omega) hr.2.1 ⟨by simp,z⟩;obtain⟨⟨x1,x2⟩,hx⟩:=hx;exact rest x.1 _ _ _ (by omega) hx.2.1 ⟨by omega,x2⟩
end
theorem zMZ(s:ByteArray):zD (λq=>e53 q s) λr=>zMR r.1/\r.2.1=0:=by simp only[e53];exact(zQj s).bind λr hr=>zD.ite (λ_=>zD.ret ⟨⟨by simp,by simp,by simp⟩,rfl⟩) λh=>zD.ret ⟨hr (by simpa using h),rfl⟩
theorem zCd(s:ByteArray)(r1:List zQ×Int×Int×Int)(hl:zMR r1.1):∀(k:Nat)(acc:List xD)(i a b:Int),0<=i->i<r1.1.length->(r1.1.length:Int)-i<=k->acc.length<=i+1/\(b=0->acc.length<=i)->(∀d∈acc,dOk d)->zD (λq=>N8 q s r1 acc i a b) λr=>(∀d∈r.1,dOk d)/\r.1.length<=8194
 |k,acc,i,a,b,h0,h1,hk,hn,ho=>by
  have:=hl.2.1;refine zD.succ ?_;simp only[N8];have fin:zD (λ_:Nat=>if(b !=0)=true then some ([],a,b)else some (acc,(s.size:Int),0)) λr:List xD×Int×Int=>(∀d∈r.1,dOk d)/\r.1.length<=8194:=zD.ite (λ_=>zD.ret ⟨(λ_ h=>nomatch h),by simp⟩) λ_=>zD.ret ⟨ho,by show acc.length<=_;omega⟩;refine zD.ite (λh=>zD.bind ((vD hl i a b 0 (by omega) (by omega)).tot (P:=λ_=>True) trivial) λt _=>zD.ite (λ_=>(zQG hl i a b h0 h1).bind λr hr=>zD.pure (yA (by simp;omega)) ?_) λ_=>fin) λ_=>fin;have hb0:b=0:=by simpa using h
  obtain⟨o,hr⟩:=hr;have ho2:∀d∈acc++[r.1],dOk d:=λp hp=>by rcases List.mem_append.1 hp with hp|hp;exact ho p hp;rw[List.mem_singleton.1 hp];exact o
  by_cases e:r.2.2.2=0;·cases k with|zero=>omega|succ k=>exact zCd s r1 hl k _ r.2.1 _ _ (by omega) hr.2.1 (by omega) ⟨by simp;omega,by simp;omega⟩ ho2
  ·refine zD.succ ?_;simp only[N8];exact zD.ite (λh=>absurd (by simpa using h) e) λ_=>zD.ite (λ_=>zD.ret ⟨(λ_ h=>nomatch h),by simp⟩) λh=>absurd (by simpa using h) e
theorem zQH(s:ByteArray):zD (λq=>e22 q s) λr=>(∀d∈r.1,dOk d)/\r.1.length<=8194:=by simp only[e22];refine(zMZ s).bind λr hr=>?_;have:=hr.1.1;exact zCd s r hr.1 r.1.length [] _ _ _ (by omega) (by omega) (by omega) ⟨by simp;omega,by simp;omega⟩ (λ_ h=>nomatch h)
def zQI(b:Nat)(a:Tm)(c:Int):Option (Bool):=m8 b a 0 c>>=λr1=>if r1 then zMB b a>>=λr4=>some ((r4.length:Int)==0)else some false
theorem yBs{b a c}:Cz (zQI b a c) 153 [] [yL a,ai c] (λr=>ab r) (λ_=>[]) 0:=fw func153<|rK 1 [] zIM (λ_=>rC 1 [] yDp λ_=>fE 2) λ_=>fE 0
def zQJ(b:Nat)(a:Tm):Option (Bool):=if a.k==0 then if a.n==0 then some ((a.sub.length:Int)==0)else some false else some false
theorem yBr{b a}:Cz (zQJ b a) 205 [] [yL a] (λr=>ab r) (λ_=>[]) 0:=fw func205<|rB 1 (rB 1 (fE 3)<|fE 0)<|fE 0
def cT:Nat->yH->Int->Int->Option (Bool)|0,_,_,_=>none|c+1,a,b,d=>if decide (d<(a.length:Int))then zL a d>>=λx2=>if x2 !=(yB (b+d))then some false else cT c a b (yB (d+1))else some true
def zQK(c:Nat)(a:yH)(b:Int):Option (Bool):=cT c a b 0
theorem zUx:∀c:Nat,∀a b d,Lz (cT c a b d) 0 f206 (pt 949 f206) (λj=>sp j 20 0 [(1,ai b),(7,zC zW a .no),(8,ai (a.length:Int)),(9,ai d)]) ⟨[],0,[],0,[]⟩ (λr=>ab r) (λ_=>[]) 0 [.blk 0,.seq (pt 15 f206)]:=yS (λ_ _ _=>lN) λc ih=>λa b d=>lw λ_=>rB 0 (rA 0 (vQ (o:=.no)) λ_=>rB 2 (lE 0)<|lH 1 [] [] [] [1,7,8,9] (ih _ _ _))<|lE 0
theorem yBq{c a b}:Cz (zQK c a b) 206 [] [zC zW a .no,ai b] (λr=>ab r) (λ_=>[]) 0:=fw func206<|fH 1 [] [] [] [1,7,8,9] (zUx _ _ _ _)
def e90(d:Nat)(b:yD)(a c:Int):Option (Bool):=if decide (a>=0)then if decide (a<(b.length:Int))then zL b a>>=λx3=>some (x3.kind==c)else some false else some false
theorem c90{d b a c}:Cz (e90 d b a c) 90 [] [zC zV b .no,ai a,ai c] (λr=>ab r) (λ_=>[]) 0:=fw func90<|rB 0 (rB 1 (rA 0 (xA (o:=.no)) λ_=>fE 2)<|fE 0)<|fE 0
def cU:Nat->yD->Int->yH->Int->Int->Option (Bool)
 |0,_,_,_,_,_=>none|f+1,c,d,b,e,a=>if decide (a<(b.length:Int))then zL b a>>=λx2=>e90 f c x2 e>>=λr4=>if r4 then zL c x2>>=λx7=>if x7.fam !=d then some false else if x7.place !=a then some false else cU f c d b e (yB (a+1))else some false else some true
def zQL(f:Nat)(c:yD)(d:Int)(b:yH)(e:Int):Option (Bool):=cU f c d b e 0
theorem zUv:∀f:Nat,∀c d b e a,Lz (cU f c d b e a) 0 f207 (pt 949 f207) (λj=>sp j 42 0 [(0,zC zV c .no),(1,ai d),(3,ai e),(11,zC zW b .no),(12,ai (b.length:Int)),(13,ai a)]) ⟨[],0,[],0,[]⟩ (λr=>ab r) (λ_=>[]) 0 [.blk 0,.seq (pt 15 f207)]:=yS (λ_ _ _ _ _=>lN) λf ih=>λc d b e a=>lw λ_=>rB 0 (rA 0 (vQ (o:=.no)) λ_=>rK 1 [] c90 (λ_=>rH λ_ h8=>rS (oA 1 (xA (o:=.no) h8))<|rB 1 (lE 0)<|rS (oA 0 (xA (o:=.no) h8))<|rB 1 (lE 0)<|lH 1 [] [] [] [0,1,3,11,12,13] (ih _ _ _ _ _)) λ_=>lE 1)<|lE 0
theorem yBp{f c d b e}:Cz (zQL f c d b e) 207 [] [zC zV c .no,ai d,zC zW b .no,ai e] (λr=>ab r) (λ_=>[]) 0:=fw func207<|fH 1 [] [] [] [0,1,3,11,12,13] (zUv _ _ _ _ _ _)
def zUu(a:Nat)(c:yD)(b:Int):Option (Bool):=zL c b>>=λx1=>if decide (x1.pars<0)then some false else if decide (x1.inds<0)then some false else if decide (x1.pars>24)then some false else if decide (x1.inds>(yB (24-x1.pars)))then some false else if x1.fam !=0 then some false else if x1.place !=0 then some false else zQJ a x1.body>>=λr9=>if r9 then e91 a x1.type (yB (x1.pars+x1.inds))>>=λr12=>if r12.2.2 !=0 then some false else if r12.2.1.k !=2 then some false else if r12.2.1.n !=x1.level then some false else if decide ((x1.cons.length:Int)>16)then some false else zQK a x1.cons (yB (b+1))>>=λr18=>if r18 then zQL a c b x1.cons 2>>=λr21=>if r21 then if(x1.fields.length:Int)==0 then some true else if x1.inds !=0 then some false else if(x1.cons.length:Int)!=1 then some false else zQK a x1.fields (yB (b+2))>>=λr27=>if r27 then zQL a c b x1.fields 4>>=λr30=>if r30 then zL c (yB (b+1))>>=λx33=>e99 a x33.type>>=λr35=>if r35.2.2==0 then some ((r35.1.length:Int)==(yB (x1.pars+(x1.fields.length:Int))))else some false else some false else some false else some false else some false else some false
theorem yDQ{a c b}:Cz (zUu a c b) 154 [] [zC zV c .no,ai b] (λr=>ab r) (λ_=>[]) 0:=fw func154<|rA 0 (xA (o:=.no)) λ_=>rB 3 (fE 0)<|rB 1 (fE 0)<|rB 1 (fE 0)<|rB 3 (fE 0)<|rB 1 (fE 0)<|rB 1 (fE 0)<|rK 1 [] yBr (λ_=>rC 5 [] c91 λ_=>rB 4 (fE 0)<|rB 1 (fE 0)<|rB 2 (fE 0)<|rB 2 (fE 0)<|rK 2 [] yBq (λ_=>rK 2 [] yBp (λ_=>rB 3 (fE 0)<|rB 1 (fE 0)<|rB 2 (fE 0)<|rK 2 [] yBq (λ_=>rK 2 [] yBp (λ_=>rA 2 (xA (o:=.no)) λ_=>rC 1 [] c99 λ_=>rB 4 (fE 6)<|fE 0) λ_=>fE 1) λ_=>fE 1) λ_=>fE 1) λ_=>fE 1) λ_=>fE 1
def qK(e:yF):Prop:=e.type.Ok/\e.body.Ok/\e.cons.length<=1152921504606846976/\e.fields.length<=1152921504606846976
def zE:yF:=yF.mk 0 ⟨#[]⟩ zT zT 0 0 0 0 0 [] []
def zN(l:List yF)(n:Int):yF:=(l[n.toNat]?).getD zE
theorem yE{l:List yF}{n:Int}(h0:0<=n)(h1:n<l.length):zL l n=some (zN l n):=by
 unfold zL zN;rw[if_pos h0];have:n.toNat<l.length:=by omega
 rw[List.getElem?_eq_getElem this];rfl
theorem uD{l:List yF}{n:Int}(h0:0<=n)(h1:n<l.length):zN l n∈l:=by
 unfold zN;have:n.toNat<l.length:=by omega
 rw[List.getElem?_eq_getElem this];exact List.getElem_mem this
def gX(l:List yF)(n kind:Int):Bool:=decide (0<=n)&&decide (n<l.length)&&(zN l n).kind==kind
theorem wG{l:List yF}{n kind:Int}(h:gX l n kind=true):0<=n/\n<l.length/\(zN l n).kind=kind:=by unfold gX at h;simp only[Bool.and_eq_true,decide_eq_true_eq,beq_iff_eq]at h;exact⟨h.1.1,h.1.2,h.2⟩
theorem zKZ(l:List yF)(n kind:Int):zB (λq=>e90 q l n kind) (gX l n kind):=by
 simp only[e90];unfold gX;by_cases h0:n>=0
 ·refine zB.ifT (decide_eq_true h0) ?_;by_cases h1:n<l.length;·exact zB.ifT (decide_eq_true h1) (zB.pure (yE h0 h1) (zB.ret.eq (by simp[show 0<=n from h0,h1])))
  ·exact zB.ifF (decide_eq_false h1) (zB.ret.eq (by simp[h1]))
 ·exact zB.ifF (decide_eq_false h0) (zB.ret.eq (by simp[show¬0<=n from h0]))
def kB(t:Tm):Bool:=t.k==0&&t.n==0&&(t.sub.length:Int)==0
theorem zEw(t:Tm):zB (λq=>zQJ q t) (kB t):=by refine zB.mk λq=>?_;unfold zQJ kB;by_cases h1:t.k=0<;>by_cases h2:t.n=0<;>by_cases h3:t.sub.length=0<;>simp[h1,h2,h3]
def vS(t:Tm)(n:Int):Bool:=tO t 0 n&&(lK t 8 8).isEmpty
theorem zAr(t:Tm)(n:Int)(ho:t.Ok):zB (λq=>zQI q t n) (vS t n):=by
 simp only[zQI];refine(mV t 0 n ho).bind ?_;unfold vS;by_cases h:tO t 0 n=true
 ·refine zB.ifT h ((zPF t ho).bind (zB.ret.eq ?_));have hs:zJ t=true:=by unfold tO at h;simp at h;exact h.1.1
  unfold zCy;rw[if_pos hs,h,Bool.true_and,Bool.eq_iff_iff];simp only[beq_iff_eq,List.isEmpty_iff];constructor
  ·intro h6;have h6':wX (lK t 8 8)=[]:=List.length_eq_zero_iff.1 (by omega);refine List.eq_nil_iff_forall_not_mem.2 λx hx=>?_;rw[<-F1,h6']at hx;cases hx
  ·intro h6;rw[h6];rfl
 ·exact zB.ifF (by simpa using h) (zB.ret.eq (by simp[h]))
def jM:List Int->Int->Bool|[],_=>true|n::r,m=>n==m&&jM r (m+1)
theorem zGL(l:List Int)(f:Int)(hf:0<=f/\f<=1048576)(hl:l.length<=1152921504606846976):∀(r:List Int)(v:Nat),l.drop v=r->zB (λq=>cT q l f (v:Int)) (jM r (f+v))
 |[],v,hd=>by refine zB.succ ?_;simp only[cT];exact zB.ifF (zZ hd) zB.ret|n::r,v,hd=>by
  have hlt:=yC hd;refine zB.succ ?_;simp only[cT];refine zB.ifT (zX hd) (zB.pure (zU hd) ?_);rw[zR (x:=f+v) (by omega) (by omega),jM];by_cases h:n=f+v
  ·refine zB.ifF (by simp[h]) ?_;rw[zS v (by omega)];exact(zGL l f hf hl r (v+1) (zP hd)).eq (by rw[show f+((v+1:Nat):Int)=f+v+1 by omega];simp[h])
  ·exact zB.ifT (by simp[h]) (zB.ret.eq (by simp[h]))
theorem zLz(l:List Int)(f:Int)(hf:0<=f/\f<=1048576)(hl:l.length<=1152921504606846976):zB (λq=>zQK q l f) (jM l f):=by simp only[zQK];exact(zGL l f hf hl l 0 rfl).eq (by simp)
def nE(l:List yF)(of kind:Int):List Int->Int->Bool|[],_=>true|n::r,k=>gX l n kind&&(zN l n).fam==of&&(zN l n).place==k&&nE l of kind r (k+1)
theorem T6(l:List yF)(of kind:Int)(p:List Int)(hp:p.length<=1152921504606846976):∀(r:List Int)(v:Nat),p.drop v=r->zB (λq=>cU q l of p kind (v:Int)) (nE l of kind r v)
 |[],v,hd=>by refine zB.succ ?_;simp only[cU];exact zB.ifF (zZ hd) zB.ret|n::r,v,hd=>by
  have hlt:=yC hd;refine zB.succ ?_;simp only[cU];refine zB.ifT (zX hd) (zB.pure (zU hd) ((zKZ l n kind).bind ?_));rw[nE];by_cases h:gX l n kind=true
  ·have hs:=wG h;refine zB.ifT h (zB.pure (yE hs.1 hs.2.1) ?_);by_cases h2:(zN l n).fam=of
   ·refine zB.ifF (by simp[h2]) ?_;by_cases h3:(zN l n).place=v
    ·refine zB.ifF (by simp[h3]) ?_;rw[zS v (by omega)];exact(T6 l of kind p hp r (v+1) (zP hd)).eq (by simp[h,h2,h3])
    ·exact zB.ifT (by simp[h3]) (zB.ret.eq (by simp[h3]))
   ·exact zB.ifT (by simp[h2]) (zB.ret.eq (by simp[h2]))
  ·exact zB.ifF (by simpa using h) (zB.ret.eq (by simp[h]))
theorem zAq(l:List yF)(of kind:Int)(p:List Int)(hp:p.length<=1152921504606846976):zB (λq=>zQL q l of p kind) (nE l of kind p 0):=by simp only[zQL];exact(T6 l of kind p hp p 0 rfl).eq (by simp)
def jN(x:yF):Bool:=decide (0<=x.pars)&&decide (0<=x.inds)&&decide (x.pars<=24)&&decide (x.inds<=24-x.pars)&&x.fam==0&&x.place==0&&kB x.body
def H2(x:yF):Bool:=(xJ x.type (x.pars+x.inds)).2.2==0&&(xJ x.type (x.pars+x.inds)).2.1.k==2&&(xJ x.type (x.pars+x.inds)).2.1.n==x.level
def aF(l:List yF)(i:Int)(x:yF):Bool:=decide (x.cons.length<=16)&&jM x.cons (i+1)&&nE l i 2 x.cons 0
def zNz(l:List yF)(i:Int)(x:yF):Bool:=x.inds==0&&decide (x.cons.length=1)&&jM x.fields (i+2)&&nE l i 4 x.fields 0&&(yX (zN l (i+1)).type).2.2==0&&((yX (zN l (i+1)).type).1.length:Int)==x.pars+x.fields.length
def rO(l:List yF)(i:Int):Bool:=jN (zN l i)&&H2 (zN l i)&&aF l i (zN l i)&&(decide ((zN l i).fields.length=0)||zNz l i (zN l i))
theorem zNy(l:List yF)(i:Int)(h0:0<=i)(h1:i<l.length)(hl:l.length<=65535)(he:∀e∈l,qK e):zB (λq=>zUu q l i) (rO l i):=by
 simp only[zUu];refine zB.pure (yE h0 h1) ?_;have hx:=he _ (uD h0 h1);have hfl:(zN l i).fields.length<=1152921504606846976:=hx.2.2.2;unfold rO;by_cases hA:jN (zN l i)=true
 ·have hA':=hA;unfold jN at hA';simp only[Bool.and_eq_true,decide_eq_true_eq,beq_iff_eq]at hA';obtain⟨⟨⟨⟨⟨⟨a1,a2⟩,a3⟩,a4⟩,a5⟩,a6⟩,a7⟩:=hA';refine zB.ifF (decide_eq_false (by omega)) (zB.ifF (decide_eq_false (by omega)) (zB.ifF (decide_eq_false (by omega)) (zB.ifF (decide_eq_false (by rw[zR (by omega) (by omega)];omega)) (zB.ifF (by simp[a5]) (zB.ifF (by simp[a6]) (((zEw _).eq a7).bind (zB.ifT rfl ?_)))))));rw[zR (by omega) (by omega)];refine(jI (zN l i).type _ hx.1).bind ?_;rw[hA];by_cases b1:(xJ (zN l i).type ((zN l i).pars+(zN l i).inds)).2.2=0
  ·refine zB.ifF (by simp[b1]) ?_;by_cases b2:(xJ (zN l i).type ((zN l i).pars+(zN l i).inds)).2.1.k=2
   ·refine zB.ifF (by simp[b2]) ?_;by_cases b3:(xJ (zN l i).type ((zN l i).pars+(zN l i).inds)).2.1.n=(zN l i).level
    ·refine zB.ifF (by simp[b3]) ?_;have hB:H2 (zN l i)=true:=by unfold H2;simp[b1,b2,b3]
     rw[hB];by_cases c1:(zN l i).cons.length<=16
     ·refine zB.ifF (decide_eq_false (by omega)) ?_;rw[zR (x:=i+1) (by omega) (by omega)];refine(zLz (zN l i).cons (i+1) (by omega) (by omega)).bind ?_;by_cases c2:jM (zN l i).cons (i+1)=true
      ·refine zB.ifT c2 ((zAq l i 2 (zN l i).cons (by omega)).bind ?_);by_cases c3:nE l i 2 (zN l i).cons 0=true
       ·refine zB.ifT c3 ?_;have hC:aF l i (zN l i)=true:=by unfold aF;simp[c1,c2,c3]
        rw[hC];by_cases d0:(zN l i).fields.length=0;·exact zB.ifT (by simp[d0]) (zB.ret.eq (by simp[d0]))
        ·refine zB.ifF (by have h:((zN l i).fields.length:Int)≠0:=(by omega);simpa using h) ?_;rw[show decide ((zN l i).fields.length=0)=false by simp[d0]];simp only[Bool.true_and,Bool.false_or];unfold zNz;by_cases d1:(zN l i).inds=0
         ·refine zB.ifF (by simp[d1]) ?_;by_cases d2:(zN l i).cons.length=1
          ·refine zB.ifF (by simp[d2]) ?_;rw[zR (x:=i+2) (by omega) (by omega)];refine(zLz (zN l i).fields (i+2) (by omega) hx.2.2.2).bind ?_;by_cases d3:jM (zN l i).fields (i+2)=true
           ·refine zB.ifT d3 ((zAq l i 4 (zN l i).fields hx.2.2.2).bind ?_);by_cases d4:nE l i 4 (zN l i).fields 0=true
            ·have hi:i+1<l.length:=by
              obtain⟨y,hy⟩:∃y,(zN l i).cons=[y]:=by rcases hc:(zN l i).cons with _|⟨y,_|⟨z,r⟩⟩<;>rw[hc]at d2<;>simp at d2;exact⟨y,rfl⟩
              rw[hy]at c2 c3;rw[jM]at c2;rw[nE]at c3;simp only[Bool.and_eq_true,beq_iff_eq]at c2 c3;have:=wG c3.1.1.1;omega
             refine zB.ifT d4 (zB.pure (yE (by omega) hi) ((mZ _ (he _ (uD (by omega) hi)).1).bind ?_));by_cases d5:(yX (zN l (i+1)).type).2.2=0
             ·refine zB.ifT (by simp[d5]) (zB.ret.eq ?_);rw[zR (x:=(zN l i).pars+((zN l i).fields.length:Int)) (by omega) (by omega)];simp[d1,d2,d3,d4,d5]
             ·exact zB.ifF (by simp[d5]) (zB.ret.eq (by simp[d5]))
            ·exact zB.ifF (by simpa using d4) (zB.ret.eq (by simp[d4]))
           ·exact zB.ifF (by simpa using d3) (zB.ret.eq (by simp[d3]))
          ·exact zB.ifT (by simp<;>omega) (zB.ret.eq (by simp[d2]))
         ·exact zB.ifT (by simp[d1]) (zB.ret.eq (by simp[d1]))
       ·refine zB.ifF (by simpa using c3) (zB.ret.eq ?_);unfold aF;simp[c3]
      ·refine zB.ifF (by simpa using c2) (zB.ret.eq ?_);unfold aF;simp[c2]
     ·refine zB.ifT (decide_eq_true (by omega)) (zB.ret.eq ?_);unfold aF;simp[c1]
    ·refine zB.ifT (by simp[b3]) (zB.ret.eq ?_);unfold H2;simp[b3]
   ·refine zB.ifT (by simp[b2]) (zB.ret.eq ?_);unfold H2;simp[b2]
  ·refine zB.ifT (by simp[b1]) (zB.ret.eq ?_);unfold H2;simp[b1]
 ·rw[show jN (zN l i)=false by simpa using hA];unfold jN at hA;simp only[Bool.and_eq_true,decide_eq_true_eq,beq_iff_eq]at hA;by_cases a1:(zN l i).pars<0;·exact zB.ifT (decide_eq_true a1) zB.ret
  refine zB.ifF (decide_eq_false a1) ?_;by_cases a2:(zN l i).inds<0;·exact zB.ifT (decide_eq_true a2) zB.ret
  refine zB.ifF (decide_eq_false a2) ?_;by_cases a3:(zN l i).pars>24;·exact zB.ifT (decide_eq_true a3) zB.ret
  refine zB.ifF (decide_eq_false a3) ?_;rw[zR (x:=24-(zN l i).pars) (by omega) (by omega)];by_cases a4:(zN l i).inds>24-(zN l i).pars;·exact zB.ifT (decide_eq_true a4) zB.ret
  refine zB.ifF (decide_eq_false a4) ?_;by_cases a5:(zN l i).fam=0
  ·refine zB.ifF (by simp[a5]) ?_;by_cases a6:(zN l i).place=0
   ·refine zB.ifF (by simp[a6]) ((zEw _).bind ?_);by_cases a7:kB (zN l i).body=true;·exact absurd ⟨⟨⟨⟨⟨⟨by omega,by omega⟩,by omega⟩,by omega⟩,a5⟩,a6⟩,a7⟩ hA
    ·exact zB.ifF (by simpa using a7) zB.ret
   ·exact zB.ifT (by simp[a6]) zB.ret
  ·exact zB.ifT (by simp[a5]) zB.ret
def zQM(c:Nat)(b:yD)(a:Int):Option (Bool):=zL b a>>=λx1=>e90 c b x1.fam 1>>=λr3=>if r3 then if decide (x1.fam>=a)then some false else zL b x1.fam>>=λx7=>if x1.pars !=x7.pars then some false else zQJ c x1.body>>=λr10=>if r10 then if x1.inds !=0 then some false else if x1.level !=0 then some false else if decide ((yB ((x1.cons.length:Int)+(x1.fields.length:Int)))>0)then some false else if x1.kind==4 then if decide (x1.place>=0)then if decide (x1.place<(x7.fields.length:Int))then zL x7.fields x1.place>>=λx19=>some (x19==a)else some false else some false else if decide (x1.place>=0)then if decide (x1.place<(x7.cons.length:Int))then zL x7.cons x1.place>>=λx23=>some (x23==a)else some false else some false else some false else some false
theorem yBo{c b a}:Cz (zQM c b a) 208 [] [zC zV b .no,ai a] (λr=>ab r) (λ_=>[]) 0:=fw func208<|rA 0 (xA (o:=.no)) λ_=>rK 3 [] c90 (λ_=>rB 2 (fE 0)<|rH λ_ h8=>rS (oA 2 (xA (o:=.no) h8))<|rB 1 (fE 0)<|rK 1 [] yBr (λ_=>rB 2 (fE 0)<|rB 1 (fE 0)<|rB 5 (fE 0)<|rS (oA 1 (xA (o:=.no) h8))<|rB 2 (rS (oA 1 (xA (o:=.no) h8))<|rB 2 (rB 2 (rA 1 (vQ (o:=.no)) λ_=>fE 2)<|fE 0)<|fE 0)<|rB 1 (rB 2 (rA 1 (vQ (o:=.no)) λ_=>fE 2)<|fE 0)<|fE 0) λ_=>fE 1) λ_=>fE 1
def zUt(b:Nat)(a:yD)(c:Int):Option (Bool):=zL a c>>=λx1=>e99 b x1.type>>=λr3=>zQM b a c>>=λr5=>if r5 then if r3.2.2==0 then if decide ((r3.1.length:Int)>=x1.pars)then zL a x1.fam>>=λx10=>zMF b r3.2.1 x1.fam x1.pars x10.inds (r3.1.length:Int)>>=λr12=>some r12 else some false else some false else some false
theorem yDR{b a c}:Cz (zUt b a c) 155 [] [zC zV a .no,ai c] (λr=>ab r) (λ_=>[]) 0:=fw func155<|rH λ_ h2=>rS (oA 0 (xA (o:=.no) h2))<|rC 1 [] c99 λ_=>rK 4 [] yBo (λ_=>rB 0 (rS (oA 1 (xA (o:=.no) h2))<|rB 1 (rS (oA 1 (xA (o:=.no) h2))<|rS (oA 1 (xA (o:=.no) h2))<|rS (oA 1 (xA (o:=.no) h2))<|rA 1 (xA (o:=.no)) λ_=>rC 2 [] zXR λ_=>fE 0)<|fE 0)<|fE 0) λ_=>fE 0
def zUs(a:Nat)(b:yD)(c:Int):Option (Bool):=zQM a b c>>=λr1=>if r1 then zL b c>>=λx4=>e91 a x4.type (yB (x4.pars+1))>>=λr6=>if r6.2.2==0 then zL r6.1 x4.pars>>=λx9=>zMF a x9 x4.fam x4.pars 0 x4.pars>>=λr11=>some r11 else some false else some false
theorem yDS{a b c}:Cz (zUs a b c) 156 [] [zC zV b .no,ai c] (λr=>ab r) (λ_=>[]) 0:=fw func156<|rK 0 [] yBo (λ_=>rH λ_ h5=>rS (oA 1 (xA (o:=.no) h5))<|rS (oA 1 (xA (o:=.no) h5))<|rC 2 [] c91 λ_=>rB 4 (rS (oA 0 (xA (o:=.no) h5))<|rA 1 (yP (o:=.no)) λ_=>rS (oA 1 (xA (o:=.no) h5))<|rS (oA 1 (xA (o:=.no) h5))<|rS (oA 1 (xA (o:=.no) h5))<|rC 1 [] zXR λ_=>fE 0)<|fE 0) λ_=>fE 1
def zUr(c:Nat)(b:yD)(a:Int):Option (Bool):=zL b a>>=λx1=>zQI c x1.body a>>=λr3=>if r3 then if x1.fam==0 then if x1.place==0 then if x1.pars==0 then if x1.inds==0 then if x1.level==0 then some ((yB ((x1.cons.length:Int)+(x1.fields.length:Int)))==0)else some false else some false else some false else some false else some false else some false
theorem yDT{c b a}:Cz (zUr c b a) 157 [] [zC zV b .no,ai a] (λr=>ab r) (λ_=>[]) 0:=fw func157<|rA 0 (xA (o:=.no)) λ_=>rK 3 [] yBs (λ_=>rB 1 (rB 1 (rB 1 (rB 1 (rB 1 (fE 6)<|fE 0)<|fE 0)<|fE 0)<|fE 0)<|fE 0) λ_=>fE 0
def H3(l:List yF)(x:yF):List Int:=if x.kind=4 then(zN l x.fam).fields else(zN l x.fam).cons
def zJy(l:List yF)(i:Int)(x:yF):Bool:=gX l x.fam 1&&decide (x.fam<i)&&x.pars==(zN l x.fam).pars&&kB x.body&&x.inds==0&&x.level==0&&decide (x.cons.length=0)&&decide (x.fields.length=0)
def zNx(l:List yF)(i:Int)(x:yF):Bool:=decide (0<=x.place)&&decide (x.place<(H3 l x).length)&&((H3 l x)[x.place.toNat]?).getD (-1)==i
def sB(l:List yF)(i:Int):Bool:=zJy l i (zN l i)&&zNx l i (zN l i)
theorem zNw{L:List Int}{n:Int}(h0:0<=n)(h1:n<L.length):zL L n=some ((L[n.toNat]?).getD (-1)):=by
 unfold zL;rw[if_pos h0];have:n.toNat<L.length:=by omega
 rw[List.getElem?_eq_getElem this];rfl
theorem zGM(l:List yF)(i:Int)(h0:0<=i)(h1:i<l.length)(he:∀e∈l,qK e):zB (λq=>zQM q l i) (sB l i):=by
 simp only[zQM];refine zB.pure (yE h0 h1) ((zKZ l _ 1).bind ?_);have hx:=he _ (uD h0 h1);have hc:(zN l i).cons.length<=1152921504606846976:=hx.2.2.1;have hf:(zN l i).fields.length<=1152921504606846976:=hx.2.2.2;unfold sB zJy;by_cases a1:gX l (zN l i).fam 1=true
 ·have hs:=wG a1;refine zB.ifT a1 ?_;by_cases a2:(zN l i).fam>=i;·exact zB.ifT (decide_eq_true a2) (zB.ret.eq (by simp[show¬(zN l i).fam<i by omega]))
  refine zB.ifF (decide_eq_false a2) (zB.pure (yE hs.1 hs.2.1) ?_);by_cases a3:(zN l i).pars=(zN l (zN l i).fam).pars
  ·refine zB.ifF (by simp[a3]) ((zEw _).bind ?_);by_cases a4:kB (zN l i).body=true
   ·refine zB.ifT a4 ?_;by_cases a5:(zN l i).inds=0
    ·refine zB.ifF (by simp[a5]) ?_;by_cases a6:(zN l i).level=0
     ·refine zB.ifF (by simp[a6]) ?_;rw[zR (x:=((zN l i).cons.length:Int)+((zN l i).fields.length:Int)) (by omega) (by omega)];by_cases a7:(zN l i).cons.length=0/\(zN l i).fields.length=0
      ·refine zB.ifF (decide_eq_false (by omega)) ?_;have last:∀L:List Int,H3 l (zN l i)=L->zB (λ_=>if decide ((zN l i).place>=0)=true then if decide ((zN l i).place<(List.length L:Int))=true then(zL L (zN l i).place)>>=λx19=>some (x19==i)else some false else some false) (zNx l i (zN l i)):=λL hL=>by
        unfold zNx;rw[hL];by_cases b1:(zN l i).place>=0
        ·refine zB.ifT (decide_eq_true b1) ?_;by_cases b2:(zN l i).place<(L.length:Int);·exact zB.ifT (decide_eq_true b2) (zB.pure (zNw b1 b2) (zB.ret.eq (by simp[show 0<=(zN l i).place from b1,b2])))
         ·exact zB.ifF (decide_eq_false b2) (zB.ret.eq (by simp[b2]))
        ·exact zB.ifF (decide_eq_false b1) (zB.ret.eq (by simp[show¬0<=(zN l i).place from b1]))
       have e:(gX l (zN l i).fam 1&&decide ((zN l i).fam<i)&&(zN l i).pars==(zN l (zN l i).fam).pars&&kB (zN l i).body&&(zN l i).inds==0&&(zN l i).level==0&&decide ((zN l i).cons.length=0)&&decide ((zN l i).fields.length=0))=true:=by simp[a1,show(zN l i).fam<i by omega,a3,a4,a5,a6,a7.1,a7.2]
       rw[e,Bool.true_and];by_cases a8:(zN l i).kind=4;·exact zB.ifT (by simp[a8]) (last _ (by unfold H3;rw[if_pos a8]))
       ·exact zB.ifF (by simp[a8]) (last _ (by unfold H3;rw[if_neg a8]))
      ·refine zB.ifT (decide_eq_true (by omega)) (zB.ret.eq ?_);have:decide ((zN l i).cons.length=0)=false\/decide ((zN l i).fields.length=0)=false:=by
        by_cases h:(zN l i).cons.length=0;·exact .inr (decide_eq_false λh'=>a7 ⟨h,h'⟩)
        ·exact .inl (decide_eq_false h)
       rcases this with h|h<;>rw[h]<;>simp
     ·exact zB.ifT (by simp[a6]) (zB.ret.eq (by simp[a6]))
    ·exact zB.ifT (by simp[a5]) (zB.ret.eq (by simp[a5]))
   ·exact zB.ifF (by simpa using a4) (zB.ret.eq (by simp[a4]))
  ·exact zB.ifT (by simp[a3]) (zB.ret.eq (by simp[a3]))
 ·exact zB.ifF (by simpa using a1) (zB.ret.eq (by simp[a1]))
theorem wP{l:List yF}{i:Int}(h:rO l i=true):0<=(zN l i).pars/\0<=(zN l i).inds/\(zN l i).pars+(zN l i).inds<=24/\(zN l i).cons.length<=16:=by unfold rO jN aF at h;simp only[Bool.and_eq_true,decide_eq_true_eq]at h;exact⟨by omega,by omega,by omega,by omega⟩
theorem sC{l:List yF}{i:Int}(h:sB l i=true):0<=(zN l i).fam/\(zN l i).fam<i/\(zN l (zN l i).fam).kind=1/\(zN l i).pars=(zN l (zN l i).fam).pars/\0<=(zN l i).place/\(zN l i).place<(H3 l (zN l i)).length:=by unfold sB zJy zNx at h;simp only[Bool.and_eq_true,decide_eq_true_eq,beq_iff_eq]at h;have hs:=wG h.1.1.1.1.1.1.1.1;exact⟨hs.1,h.1.1.1.1.1.1.1.2,hs.2.2,h.1.1.1.1.1.1.2,h.2.1.1,h.2.1.2⟩
def zEv(l:List yF)(i:Int):Prop:=∀j,0<=j->j<i->(zN l j).kind=1->rO l j=true
def aG(l:List yF)(i:Int):Bool:=sB l i&&((yX (zN l i).type).2.2==0&&(decide ((zN l i).pars<=(yX (zN l i).type).1.length)&&uP (yX (zN l i).type).2.1 (zN l i).fam (zN l i).pars (zN l (zN l i).fam).inds (yX (zN l i).type).1.length))
theorem zYu(l:List yF)(i:Int)(h0:0<=i)(h1:i<l.length)(he:∀e∈l,qK e)(hF:zEv l i):zB (λq=>zUt q l i) (aG l i):=by
 simp only[zUt];have hx:=he _ (uD h0 h1);refine zB.pure (yE h0 h1) ((mZ _ hx.1).bind ((zGM l i h0 h1 he).bind ?_));unfold aG;by_cases a1:sB l i=true
 ·have hs:=sC a1;have hf:=wP (hF _ hs.1 hs.2.1 hs.2.2.1);refine zB.ifT a1 ?_;rw[a1,Bool.true_and];by_cases a2:(yX (zN l i).type).2.2=0
  ·refine zB.ifT (by simp[a2]) ?_;have hw:=tL (t:=(zN l i).type) (l:=(yX (zN l i).type).1) (y:=(yX (zN l i).type).2.1) (by rw[<-a2]);by_cases a3:(zN l i).pars<=(yX (zN l i).type).1.length;·refine zB.ifT (decide_eq_true a3) (zB.pure (yE hs.1 (by omega)) ((B1 _ _ _ _ _ hw.2.2.2.2.1 (by omega) (by omega) (by have:=hw.2.2.1;omega)).bind (zB.ret.eq (by simp[a2,a3]))))
   ·exact zB.ifF (decide_eq_false a3) (zB.ret.eq (by simp[a3]))
  ·exact zB.ifF (by simp[a2]) (zB.ret.eq (by simp[a2]))
 ·exact zB.ifF (by simpa using a1) (zB.ret.eq (by simp[a1]))
def tD(l:List Tm)(n:Int):Tm:=(l[n.toNat]?).getD zT
theorem uR{l:List Tm}{n:Int}(h0:0<=n)(h1:n<l.length):zL l n=some (tD l n):=by
 unfold zL tD;rw[if_pos h0];have:n.toNat<l.length:=by omega
 rw[List.getElem?_eq_getElem this];rfl
theorem pA{l:List Tm}{n:Int}(h0:0<=n)(h1:n<l.length):tD l n∈l:=by
 unfold tD;have:n.toNat<l.length:=by omega
 rw[List.getElem?_eq_getElem this];exact List.getElem_mem this
def lC(l:List yF)(i:Int):Bool:=sB l i&&((xJ (zN l i).type ((zN l i).pars+1)).2.2==0&&uP (tD (xJ (zN l i).type ((zN l i).pars+1)).1 (zN l i).pars) (zN l i).fam (zN l i).pars 0 (zN l i).pars)
theorem zUq(l:List yF)(i:Int)(h0:0<=i)(h1:i<l.length)(he:∀e∈l,qK e)(hF:zEv l i):zB (λq=>zUs q l i) (lC l i):=by
 simp only[zUs];have hx:=he _ (uD h0 h1);refine(zGM l i h0 h1 he).bind ?_;unfold lC;by_cases a1:sB l i=true
 ·have hs:=sC a1;have hf:=wP (hF _ hs.1 hs.2.1 hs.2.2.1);refine zB.ifT a1 (zB.pure (yE h0 h1) ?_);rw[a1,Bool.true_and,zR (x:=(zN l i).pars+1) (by omega) (by omega)];refine(jI _ _ hx.1).bind ?_;by_cases a2:(xJ (zN l i).type ((zN l i).pars+1)).2.2=0
  ·have hw:=N4 (t:=(zN l i).type) (n:=(zN l i).pars+1) (l:=(xJ (zN l i).type ((zN l i).pars+1)).1) (y:=(xJ (zN l i).type ((zN l i).pars+1)).2.1) (by rw[<-a2]);refine zB.ifT (by simp[a2]) (zB.pure (uR (by omega) (by omega)) ((B1 _ _ _ _ _ (hw.2.2.2.2.2.2 _ (pA (by omega) (by omega))) (by omega) (by omega) (by omega)).bind (zB.ret.eq (by simp[a2]))))
  ·exact zB.ifF (by simp[a2]) (zB.ret.eq (by simp[a2]))
 ·exact zB.ifF (by simpa using a1) (zB.ret.eq (by simp[a1]))
def V9(l:List yF)(i:Int):Bool:=vS (zN l i).body i&&((zN l i).fam==0&&((zN l i).place==0&&((zN l i).pars==0&&((zN l i).inds==0&&((zN l i).level==0&&(decide ((zN l i).cons.length=0)&&decide ((zN l i).fields.length=0)))))))
theorem zYt(l:List yF)(i:Int)(h0:0<=i)(h1:i<l.length)(he:∀e∈l,qK e):zB (λq=>zUr q l i) (V9 l i):=by
 simp only[zUr];have hx:=he _ (uD h0 h1);have hc:(zN l i).cons.length<=1152921504606846976:=hx.2.2.1;have hf:(zN l i).fields.length<=1152921504606846976:=hx.2.2.2;refine zB.pure (yE h0 h1) ((zAr _ i hx.2.1).bind ?_);unfold V9;by_cases a1:vS (zN l i).body i=true
 ·refine zB.ifT a1 ?_;rw[a1,Bool.true_and,zR (x:=((zN l i).cons.length:Int)+((zN l i).fields.length:Int)) (by omega) (by omega)];have e:(((zN l i).cons.length:Int)+((zN l i).fields.length:Int)==0)=(decide ((zN l i).cons.length=0)&&decide ((zN l i).fields.length=0)):=by rw[Bool.eq_iff_iff];simp only[beq_iff_eq,Bool.and_eq_true,decide_eq_true_eq];omega
  rw[e];refine zB.mk λq=>?_;generalize(decide ((zN l i).cons.length=0)&&decide ((zN l i).fields.length=0))=z;by_cases b1:(zN l i).fam=0<;>by_cases b2:(zN l i).place=0<;>by_cases b3:(zN l i).pars=0<;>by_cases b4:(zN l i).inds=0<;>by_cases b5:(zN l i).level=0<;>simp[b1,b2,b3,b4,b5]
 ·exact zB.ifF (by simpa using a1) (zB.ret.eq (by simp[a1]))
def iR:Nat->yD->(List ByteArray)->Int->Option (List ByteArray)|0,_,_,_=>none|b+1,a,d,c=>if decide (c<(a.length:Int))then zL a c>>=λx2=>yR 16 d [x2.name]>>=λl4=>iR b a l4 (yB (c+1))else some d
def e88(b:Nat)(a:yD):Option (List ByteArray):=iR b a [] 0
theorem zYs:∀b:Nat,∀a d c,Lz (iR b a d c) 0 f88 (pt 4021 f88) (λj=>sp j 19 0 [(3,zC xC d (.st 0 1)),(6,zC zV a .no),(7,ai (a.length:Int)),(8,ai c)]) ⟨[],0,[0],1,[]⟩ (λr=>zC xC r (.st 0 1)) (λ_=>[]) 1 [.blk 0,.seq (pt 63 f88)]:=yS (λ_ _ _=>lN) λb ih=>λa d c=>lw λ_=>rB 0 (rA 0 (xA (o:=.no)) λ_=>rW (λh5=>oP 4 (S5 h5 (by simp))) λ_=>lH 1 [] [] [1] [3,6,7,8] (ih _ _ _))<|lG 0 [] [] [0] true
theorem c88{b a}:Cz (e88 b a) 88 [] [zC zV a .no] (λr=>zC xC r (.st 0 1)) (λ_=>[]) 1:=fw func88<|fH 1 [(none,3,1)] [] [0] [3,6,7,8] (zYs _ _ _ _)
def e89(b:Nat)(c:yD)(a:Int):Option (Bool):=zL c a>>=λx1=>iM b x1.name>>=λr3=>if r3 then zQI b x1.type a>>=λr6=>if r6 then if x1.kind==1 then zUu b c a>>=λr10=>some r10 else if x1.kind==2 then zUt b c a>>=λr13=>some r13 else if x1.kind==4 then zUs b c a>>=λr16=>some r16 else if x1.kind==3 then zUr b c a>>=λr19=>some r19 else some false else some false else some false
theorem c89{b c a}:Cz (e89 b c a) 89 [] [zC zV c .no,ai a] (λr=>ab r) (λ_=>[]) 0:=fw func89<|rH λ_ h2=>rS (oA 0 (xA (o:=.no) h2))<|rK 1 [] N5 (λ_=>rS (oA 1 (xA (o:=.no) h2))<|rK 1 [] yBs (λ_=>rS (oA 1 (xA (o:=.no) h2))<|rB 1 (rC 0 [] yDQ λ_=>fE 0)<|rB 0 (rC 0 [] yDR λ_=>fE 0)<|rB 0 (rC 0 [] yDS λ_=>fE 0)<|rB 0 (rC 0 [] yDT λ_=>fE 0)<|fE 0) λ_=>fE 1) λ_=>fE 1
def N9:Nat->yD->Int->Option (Bool)|0,_,_=>none|c+1,a,b=>if decide (b<(a.length:Int))then e89 c a b>>=λr8=>if r8 then N9 c a (yB (b+1))else some false else some true
def cV(c:Nat)(a:yD):Option (Bool):=if decide ((a.length:Int)>256)then some false else e88 c a>>=λr2=>e87 c r2>>=λr4=>if r4 then N9 c a 0 else some false
theorem zYr:∀c:Nat,∀a b,Lz (N9 c a b) 0 f47 (pt 4021 f47) (λj=>sp j 23 0 [(0,zC zV a .no),(14,ai (a.length:Int)),(15,ai b)]) ⟨[],0,[],0,[]⟩ (λr=>ab r) (λ_=>[]) 0 [.blk 0,.seq (pt 63 f47)]:=yS (λ_ _=>lN) λc ih=>λa b=>lw λ_=>rB 0 (rK 0 [] c89 (λ_=>lH 2 [] [] [] [0,14,15] (ih _ _)) λ_=>lE 1)<|lE 0
theorem c47{c a}:Cz (cV c a) 47 [] [zC zV a .no] (λr=>ab r) (λ_=>[]) 0:=fw func47<|rB 1 (fE 0)<|rC 0 [] c88 λ_=>rK 0 [] c87 (λ_=>fH 2 [] [] [] [0,14,15] (zYr _ _ _)) λ_=>fE 1
def yBn(qq:Nat)(p0:yH):Option yH:=some []
theorem yBm{qq p0}:Cz (yBn qq p0) 97 [] [zC zW p0 .nl] (λr=>.sl (zH zW r) r.length .no) (λ_=>[]) 0:=fw func97<|fE 1
def zQN(qq:Nat)(p0:yH):Option yH:=yR 8 ([]:yH) p0>>=λl1=>some l1
theorem yBl{qq p0}:Cz (zQN qq p0) 97 [] [zC zW p0 .nn] (λr=>.sl (zH zW r) r.length .no) (λ_=>[]) 0:=fw func97<|rH λ_ h2=>rZ (List.length p0=0) (λh3=>rS (oP 2 (zPj h2 h3))<|fE 0) λh3=>rS (oP 2 (tY h2 h3))<|fE 0
def zYq(qq:Nat)(p0:yH):Option (Unit):=some ()
theorem zYp{qq p0}:Cz (zYq qq p0) 97 [] [zC zW p0 .nl] (λ_=>zC zW ([]:yH) .full) (λ_=>[]) 0:=fw func97<|fG 1 [] [] [] true
def zQO(qq:Nat)(p0:yH):Option ((Unit)⊕yH):=if decide (List.length p0=0)then some (Sum.inl ())else yR 8 ([]:yH) p0>>=λl2=>some (Sum.inr l2)
theorem zQP{qq p0}:Cz (zQO qq p0) 97 [] [zC zW p0 .nn] (Sum.elim (λ_=>zC zW ([]:yH) .full) (λx=>.ms 0 0 x.length x.length 1)) (Sum.elim (λ_=>[]) (λx=>[.row (zH zW x)])) 0:=fw func97<|rI (λh1=>rS (oQ 2 (yAb (of_decide_eq_true h1)))<|fG 0 [] [] [] true) λh1=>rW (λh3=>oM 2 (yAC h3 (of_decide_eq_false h1))) λ_=>fF 0 [0]
def e97(_qq:Nat)(p0:yH):Option yH:=yR 8 [] p0
theorem yBk{qq:Nat}{p0:yH}{r:yH}(h:e97 qq p0=some r):CT prog 97 [] [.sl (zH zW p0) p0.length .no] (.sl (zH zW r) r.length .no) [] 0:=by
 have hr:r=p0:=by have:=(qF h).2;simpa using this
 have h1:zQN qq p0=some r:=by unfold zQN;rw[show yR 8 ([]:yH) p0=some r from h];rfl
 have k1:=yBl _ h1;refine⟨uH.nilcase (λhn=>?_) k1.tri,⟨⟨trivial,dI _⟩,trivial⟩,(λ_ h=>nomatch h),dI _,(λ_ h=>nomatch h)⟩;have hp:p0=[]:=s4 kL (by decide) hn;subst hr;subst hp;exact(yBm (qq:=qq) _ rfl).tri
def zWV(qq:Nat)(p0:yH):Option (Unit⊕yH):=if decide (List.length p0=0)=true then some (.inl ())else(yR 8 [] p0)>>=λr=>some (.inr r)
theorem zYo{qq:Nat}{p0:yH}{r:Unit⊕yH}(h:zWV qq p0=some r):(match(generalizing:=false)r with|.inl _=>CT prog 97 [] [.sl (zH zW p0) p0.length .no] (.sl (zH zW ([]:yH)) (List.length ([]:yH)) .full) [] 0|.inr x=>CT prog 97 [] [.sl (zH zW p0) p0.length .no] (.ms 0 0 x.length x.length 1) [.row (zH zW x)] 0):=by
 unfold zWV at h;rcases spl h with⟨h1,h⟩|⟨h1,h⟩
 ·obtain rfl:=sj h;have hp:p0=[]:=List.length_eq_zero_iff.1 (of_decide_eq_true h1);subst hp;have k0:=zYp (qq:=qq) (p0:=[]) (()) rfl;have k1:=zQP (qq:=qq) (p0:=[]) (.inl ()) rfl;exact⟨uH.nilcase (λ_=>k0.tri) k1.tri,⟨⟨trivial,dI _⟩,trivial⟩,(λ_ h=>nomatch h),dI _,(λ_ h=>nomatch h)⟩
 ·obtain⟨x,h2,h⟩:=sS h;obtain rfl:=sj h;have k1:=zQP (qq:=qq) (p0:=p0) (r:=.inr x) (by unfold zQO;rw[if_neg (by rw[h1];decide),h2];rfl);refine⟨uH.nilcase (λhn=>?_) k1.tri,⟨⟨trivial,dI _⟩,trivial⟩,(λ_ h=>nomatch h),(show 0<1 by decide),wI (dI _) wA⟩;have hp:p0=[]:=s4 kL (by decide) hn;subst hp;cases h1
def zLy(_qq:Nat)(p0:yH):Option yH:=yR 8 [] p0
theorem zYn{qq:Nat}{p0:yH}{r:yH}(h:zLy qq p0=some r):CT prog 97 [] [.sl (zH zW p0) p0.length .no] (.sl (zH zW r) r.length .z) [] 0:=by
 have hr:r=p0:=by have:=(qF h).2;simpa using this
 subst hr;cases r with|nil=>exact CT.zfull (zYo (qq:=qq) (p0:=[]) (r:=.inl ()) rfl)|cons x l=>exact CT.zno (by simp) (dI _) (yBk (qq:=qq) h)
theorem c97{qq:Nat}{p0:yH}:Cz (e97 qq p0) 97 [] [.sl (zH zW p0) p0.length .no] (λr=>.sl (zH zW r) r.length .no) (λ_=>[]) 0:=λ_ h=>yBk h
theorem zWW{qq:Nat}{p0:yH}:Cz (zLy qq p0) 97 [] [.sl (zH zW p0) p0.length .no] (λr=>.sl (zH zW r) r.length .z) (λ_=>[]) 0:=λ_ h=>zYn h
def O0:Nat->yD->yD->Int->Option yD|0,_,_,_=>none|b+1,a,d,c=>if decide (c<(a.length:Int))then zL a c>>=λx2=>e96 b x2.type>>=λr4=>e96 b x2.body>>=λr6=>e97 b x2.cons>>=λr8=>e97 b x2.fields>>=λr10=>yR 192 d [(yF.mk x2.kind x2.name r4 r6 x2.fam x2.place x2.pars x2.inds x2.level r8 r10)]>>=λl12=>O0 b a l12 (yB (c+1))else some d
def e51(b:Nat)(a:yD):Option yD:=O0 b a [] 0
theorem zYm:∀b:Nat,∀a d c,Lz (O0 b a d c) 0 f51 (pt 4021 f51) (λj=>sp j 34 0 [(3,zC zV d (.st 0 15)),(6,zC zV a .no),(7,ai (a.length:Int)),(8,ai c)]) ⟨[],0,[0],1,[]⟩ (λr=>zC zV r (.st 0 15)) (λ_=>[]) 1 [.blk 0,.seq (pt 63 f51)]:=yS (λ_ _ _=>lN) λb ih=>λa d c=>lw λ_=>rB 0 (rA 0 (xA (o:=.no)) λ_=>rC 3 [] c96 λ_=>rC 1 [] c96 λ_=>rC 3 [] c97 λ_=>rS (gR 0)<|rC 0 [] c97 λ_=>rW (λh13=>oP 4 (n8 h13 (by simp))) λ_=>lH 1 [] [] [1] [3,6,7,8] (ih _ _ _))<|lG 0 [] [] [0] true
theorem c51{b a}:Cz (e51 b a) 51 [] [zC zV a .no] (λr=>zC zV r (.st 0 15)) (λ_=>[]) 1:=fw func51<|fH 1 [(none,3,15)] [] [0] [3,6,7,8] (zYm _ _ _ _)
def sD(N:ByteArray->Bool)(l:List yF)(i:Int):Bool:=N (zN l i).name&&(vS (zN l i).type i&&(if(zN l i).kind=1 then rO l i else if(zN l i).kind=2 then aG l i else if(zN l i).kind=4 then lC l i else if(zN l i).kind=3 then V9 l i else false))
def zEu(N:ByteArray->Bool)(l:List yF):Nat->Nat->Bool|0,_=>true|m+1,v=>sD N l v&&zEu N l m (v+1)
def mC(N:ByteArray->Bool):Prop:=∀s,zB (λq=>iM q s) (N s)
theorem eI:∃N,mC N:=by
 have h:∀s,∃b,zB (λq=>iM q s) b:=λs=>by obtain⟨b,hb,_⟩:=sA s;exact⟨b,hb⟩
 exact⟨λs=>Classical.choose (h s),λs=>Classical.choose_spec (h s)⟩
theorem zQQ(N:ByteArray->Bool)(hN:mC N)(l:List yF)(i:Int)(h0:0<=i)(h1:i<l.length)(hl:l.length<=65535)(he:∀e∈l,qK e)(hF:zEv l i):zB (λq=>e89 q l i) (sD N l i):=by
 simp only[e89];have hx:=he _ (uD h0 h1);refine zB.pure (yE h0 h1) ((hN _).bind ?_);unfold sD;by_cases a1:N (zN l i).name=true
 ·refine zB.ifT a1 ((zAr _ i hx.1).bind ?_);rw[a1,Bool.true_and];by_cases a2:vS (zN l i).type i=true
  ·refine zB.ifT a2 ?_;rw[a2,Bool.true_and];by_cases k1:(zN l i).kind=1;·rw[if_pos k1];exact zB.ifT (by simp[k1]) ((zNy l i h0 h1 hl he).bind zB.ret)
   rw[if_neg k1];refine zB.ifF (by simp[k1]) ?_;by_cases k2:(zN l i).kind=2;·rw[if_pos k2];exact zB.ifT (by simp[k2]) ((zYu l i h0 h1 he hF).bind zB.ret)
   rw[if_neg k2];refine zB.ifF (by simp[k2]) ?_;by_cases k4:(zN l i).kind=4;·rw[if_pos k4];exact zB.ifT (by simp[k4]) ((zUq l i h0 h1 he hF).bind zB.ret)
   rw[if_neg k4];refine zB.ifF (by simp[k4]) ?_;by_cases k3:(zN l i).kind=3;·rw[if_pos k3];exact zB.ifT (by simp[k3]) ((zYt l i h0 h1 he).bind zB.ret)
   ·rw[if_neg k3];exact zB.ifF (by simp[k3]) zB.ret
  ·exact zB.ifF (by simpa using a2) (zB.ret.eq (by simp[a2]))
 ·exact zB.ifF (by simpa using a1) (zB.ret.eq (by simp[a1]))
theorem zCc:∀(r l:List yF)(v:Nat)(acc:List ByteArray),l.drop v=r->l.length<=65535->acc.length<=v->zB (λq=>iR q l acc (v:Int)) (acc++r.map yF.name)|[],l,v,acc,hd,hl,ha=>by refine zB.succ ?_;simp only[iR];exact zB.ifF (zZ hd) (zB.ret.eq (by simp))|x::r,l,v,acc,hd,hl,ha=>by have hlt:=yC hd;refine zB.succ ?_;simp only[iR];refine zB.ifT (zX hd) (zB.pure (zU hd) (zB.pure (yA (by simp<;>omega)) ?_));rw[zS v (by omega)];exact(zCc r l (v+1) _ (zP hd) hl (by simp<;>omega)).eq (by simp)
theorem zQR(l:List yF)(hl:l.length<=65535):zB (λq=>e88 q l) (l.map yF.name):=by simp only[e88];exact(zCc l l 0 [] rfl hl (by simp)).eq (by simp)
theorem zJx(N:ByteArray->Bool)(hN:mC N)(l:List yF)(hl:l.length<=65535)(he:∀e∈l,qK e):∀(m v:Nat),v+m=l.length->zEv l v->zB (λq=>N9 q l (v:Int)) (zEu N l m v):=by intro m;induction m with|zero=>intro v hm hF;refine zB.succ ?_;simp only[N9];exact zB.ifF (decide_eq_false (by omega)) zB.ret|succ m ih=>
 intro v hm hF;refine zB.succ ?_;simp only[N9];refine zB.ifT (decide_eq_true (by omega)) ((zQQ N hN l v (by omega) (by omega) hl he hF).bind ?_);rw[zEu];by_cases h:sD N l v=true
 ·refine zB.ifT h ?_;rw[zS v (by omega),h,Bool.true_and];refine ih (v+1) (by omega) λj hj0 hj1 hk=>?_;by_cases e:j=v
  ·subst e;unfold sD at h;simp only[Bool.and_eq_true]at h;have:=h.2.2;rwa[if_pos hk]at this
  ·exact hF j hj0 (by omega) hk
 ·exact zB.ifF (by simpa using h) (zB.ret.eq (by simp[h]))
def kC(N:ByteArray->Bool)(d:Bool)(l:List yF):Bool:=decide (l.length<=256)&&(d&&zEu N l l.length 0)
theorem jO(N:ByteArray->Bool)(hN:mC N)(l:List yF)(hl:l.length<=65535)(he:∀e∈l,qK e):∃d,zB (λq=>e87 q (l.map yF.name)) d/\zB (λq=>cV q l) (kC N d l):=by
 obtain⟨d,hd,_⟩:=zDY (l.map yF.name) (by simpa using hl);refine⟨d,hd,?_⟩;simp only[cV];unfold kC;by_cases h:l.length<=256
 ·refine zB.ifF (decide_eq_false (by omega)) ((zQR l hl).bind (hd.bind ?_));cases d with|false=>exact zB.ifF rfl (zB.ret.eq (by simp))|true=>exact zB.ifT rfl ((zJx N hN l hl he l.length 0 (by omega) (λj h0 h1=>by omega)).eq (by simp[h]))
 ·exact zB.ifT (decide_eq_true (by omega)) (zB.ret.eq (by simp[h]))
theorem zCb{N:ByteArray->Bool}{l:List yF}:∀{m v:Nat},zEu N l m v=true->∀j,v<=j->j<v+m->sD N l (j:Int)=true
 |0,v,_,j,h0,h1=>by omega|m+1,v,h,j,h0,h1=>by
  rw[zEu]at h;simp only[Bool.and_eq_true]at h;by_cases e:j=v;·subst e;exact h.1
  ·exact zCb h.2 j (by omega) (by omega)
def vN(N:ByteArray->Bool)(l:List yF):Prop:=l.length<=256/\∀i:Int,0<=i->i<l.length->sD N l i=true
theorem mD{N:ByteArray->Bool}{d:Bool}{l:List yF}(h:kC N d l=true):vN N l:=by unfold kC at h;simp only[Bool.and_eq_true,decide_eq_true_eq]at h;refine⟨h.1,λi h0 h1=>?_⟩;have:=zCb h.2.2 i.toNat (by omega) (by omega);rwa[show((i.toNat:Nat):Int)=i by omega]at this
theorem xS{N:ByteArray->Bool}{l:List yF}{i:Int}(h:sD N l i=true):vS (zN l i).type i=true/\((zN l i).kind=1->rO l i=true)/\((zN l i).kind=2->aG l i=true)/\((zN l i).kind=4->lC l i=true)/\((zN l i).kind=3->V9 l i=true)/\((zN l i).kind=1\/(zN l i).kind=2\/(zN l i).kind=3\/(zN l i).kind=4):=by
 unfold sD at h;simp only[Bool.and_eq_true]at h;obtain⟨_,h2,h3⟩:=h;refine⟨h2,λk=>by rwa[if_pos k]at h3,λk=>?_,λk=>?_,λk=>?_,?_⟩;·rwa[if_neg (by omega),if_pos k]at h3
 ·rwa[if_neg (by omega),if_neg (by omega),if_pos k]at h3
 ·rwa[if_neg (by omega),if_neg (by omega),if_neg (by omega),if_pos k]at h3
 ·split at h3;·exact .inl (by assumption)
  ·split at h3;·exact .inr (.inl (by assumption))
   ·split at h3;·exact .inr (.inr (.inr (by assumption)))
    ·split at h3;·exact .inr (.inr (.inl (by assumption)))
     ·cases h3
def zGN(e:yF):yF:=yF.mk e.kind e.name (jG e.type) (jG e.body) e.fam e.place e.pars e.inds e.level e.cons e.fields
def M0(e:yF):Prop:=e.cons.length<=17592186044416/\e.fields.length<=17592186044416
theorem zGO:∀(r l acc:List yF)(v:Nat),l.drop v=r->l.length<=65535->(∀e∈l,qK e)->(∀e∈l,M0 e)->acc.length<=v->zB (λq=>O0 q l acc (v:Int)) (acc++r.map zGN)
 |[],l,acc,v,hd,hl,he,hc,ha=>by refine zB.succ ?_;simp only[O0];exact zB.ifF (zZ hd) (zB.ret.eq (by simp))|x::r,l,acc,v,hd,hl,he,hc,ha=>by
  have hlt:=yC hd;have hx:x∈l:=by
   have:x∈l.drop v:=by rw[hd];simp
   exact List.mem_of_mem_drop this
  have hE:=he x hx;have hC:=hc x hx;refine zB.succ ?_;simp only[O0];refine zB.ifT (zX hd) (zB.pure (zU hd) ((nY _ hE.1).bind ((nY _ hE.2.1).bind ?_)));refine zB.bind (a:=x.cons) (zB.mk λq=>(yA (by have:=hC.1;simp<;>omega)).trans (by simp)) (zB.bind (a:=x.fields) (zB.mk λq=>(yA (by have:=hC.2;simp<;>omega)).trans (by simp)) (zB.pure (yA (by simp<;>omega)) ?_));rw[zS v (by omega)];exact(zGO r l _ (v+1) (zP hd) hl he hc (by simp<;>omega)).eq (by simp[zGN])
theorem jP(l:List yF)(hl:l.length<=65535)(he:∀e∈l,qK e)(hc:∀e∈l,M0 e):zB (λq=>e51 q l) (l.map zGN):=by simp only[e51];exact(zGO l l [] 0 rfl hl he hc (by simp)).eq (by simp)
theorem oH{t:Tm}{n:Int}(h:vS t n=true):zJ t=true:=by unfold vS tO at h;simp only[Bool.and_eq_true]at h;exact h.1.1.1
theorem zJw{t:Tm}(h:kB t=true):t=zT:=by unfold kB at h;simp only[Bool.and_eq_true,beq_iff_eq]at h;obtain⟨k,n,l⟩:=t;have h1:k=0:=h.1.1;have h2:n=0:=h.1.2;have h3:l=[]:=List.length_eq_zero_iff.1 (by have:(l.length:Int)=0:=h.2;omega);subst h1;subst h2;subst h3;rfl
theorem zCa{t:Tm}(h:kB t=true):jG t=t:=by
 rw[zJw h];unfold jG;split;·rfl
 ·rfl
theorem zNv{N:ByteArray->Bool}{l:List yF}{i:Int}(h:sD N l i=true):zGN (zN l i)=zN l i:=by
 have hs:=xS h;have h1:jG (zN l i).type=(zN l i).type:=by unfold jG;rw[if_pos (oH hs.1)]
 have own:sB l i=true->jG (zN l i).body=(zN l i).body:=λho=>by unfold sB zJy at ho;simp only[Bool.and_eq_true]at ho;exact zCa ho.1.1.1.1.1.2
 have h2:jG (zN l i).body=(zN l i).body:=by
  rcases hs.2.2.2.2.2 with k|k|k|k
  ·have:=hs.2.1 k;unfold rO jN at this;simp only[Bool.and_eq_true]at this;exact zCa this.1.1.1.2
  ·have:=hs.2.2.1 k;unfold aG at this;simp only[Bool.and_eq_true]at this;exact own this.1
  ·have:=hs.2.2.2.2.1 k;unfold V9 at this;simp only[Bool.and_eq_true]at this;unfold jG;rw[if_pos (oH this.1)]
  ·have:=hs.2.2.2.1 k;unfold lC at this;simp only[Bool.and_eq_true]at this;exact own this.1
 unfold zGN;rw[h1,h2]
theorem pR{N:ByteArray->Bool}{l:List yF}(h:vN N l):l.map zGN=l:=by
 refine List.ext_getElem (by simp) λi h1 h2=>?_;simp only[List.getElem_map];have:=zNv (h.2 (i:Int) (by omega) (by omega));have e:zN l (i:Int)=l[i]:=by unfold zN;rw[show(i:Int).toNat=i by omega,List.getElem?_eq_getElem h2];rfl
 rwa[e]at this
def zYl(qq:Nat)(p0:yI):Option yI:=some []
theorem zYk{qq p0}:Cz (zYl qq p0) 247 [] [zC zA p0 .nl] (λr=>.sl (zH zA r) r.length .no) (λ_=>[]) 0:=fw func247<|fE 1
def zJv(qq:Nat)(p0:yI):Option yI:=yR 40 ([]:yI) p0>>=λl1=>some l1
theorem zYj{qq p0}:Cz (zJv qq p0) 247 [] [zC zA p0 .nn] (λr=>.sl (zH zA r) r.length .no) (λ_=>[]) 0:=fw func247<|rH λ_ h2=>rZ (List.length p0=0) (λh3=>rS (oP 2 (rG h2 h3))<|fE 0) λh3=>rS (oP 2 (xY h2 h3))<|fE 0
def zUp(_qq:Nat)(p0:yI):Option yI:=yR 40 [] p0
theorem yBi{qq:Nat}{p0:yI}{r:yI}(h:zUp qq p0=some r):CT prog 247 [] [.sl (zH zA p0) p0.length .no] (.sl (zH zA r) r.length .no) [] 0:=by
 have hr:r=p0:=by have:=(qF h).2;simpa using this
 have h1:zJv qq p0=some r:=by unfold zJv;rw[show yR 40 ([]:yI) p0=some r from h];rfl
 have k1:=zYj _ h1;refine⟨uH.nilcase (λhn=>?_) k1.tri,⟨⟨trivial,dT _⟩,trivial⟩,(λ_ h=>nomatch h),dT _,(λ_ h=>nomatch h)⟩;have hp:p0=[]:=s4 sY (by decide) hn;subst hr;subst hp;exact(zYk (qq:=qq) _ rfl).tri
theorem yBh{qq:Nat}{p0:yI}:Cz (zUp qq p0) 247 [] [.sl (zH zA p0) p0.length .no] (λr=>.sl (zH zA r) r.length .no) (λ_=>[]) 0:=λ_ h=>yBi h
def zUo(a:Nat)(c:yD)(d:Tm)(b e:Int):Option (tT):=e99 a d>>=λr1=>jF a r1.2.1>>=λr3=>if r1.2.2 !=0 then some (tT.mk false [] [])else if r3.1.k !=6 then some (tT.mk false [] [])else if r3.1.n !=b then some (tT.mk false [] [])else zL c b>>=λx8=>zMF a r1.2.1 b x8.pars x8.inds (yB (e+(r1.1.length:Int)))>>=λr10=>if r10 then uL r3.2 x8.pars (r3.2.length:Int)>>=λx13=>zUp a x13>>=λr15=>some (tT.mk true r1.1 r15)else some (tT.mk false [] [])
theorem yDU{a c d b e}:Cz (zUo a c d b e) 248 [] [zC zV c .no,yL d,ai b,ai e] (λr=>zXB r) (λ_=>[]) 0:=fw func248<|rC 1 [] c99 λ_=>rC 5 [] V4 λ_=>rB 3 (fE 1)<|rB 1 (fE 1)<|rB 1 (fE 1)<|rH λ_ h9=>rS (oA 1 (xA (o:=.no) h9))<|rS (oA 1 (xA (o:=.no) h9))<|rK 3 [] zXR (λ_=>rS (oA 1 (xA (o:=.no) h9))<|rA 1 tZ λ_=>rC 0 [] yBh λ_=>fE 1) λ_=>fE 2
def cW:Nat->yD->yF->yI->yI->Int->(List tT)->Option (uA)|0,_,_,_,_,_,_=>none|c+1,d,x1,x7,r11,b,a=>if decide (b<(x7.length:Int))then zL x7 b>>=λx14=>zUo c d x14 x1.fam (yB (x1.pars+b))>>=λr16=>yR 56 a [r16]>>=λl18=>cW c d x1 x7 r11 (yB (b+1)) l18 else some (uA.mk x7 r11 a)
def zQS(c:Nat)(d:yD)(e:Int):Option (uA):=zL d e>>=λx1=>e99 c x1.type>>=λr3=>jF c r3.2.1>>=λr5=>uL r3.1 x1.pars (r3.1.length:Int)>>=λx7=>uL r5.2 x1.pars (r5.2.length:Int)>>=λx9=>zUp c x9>>=λr11=>cW c d x1 x7 r11 0 []
theorem zUn:∀c:Nat,∀d x1 x7 r11 b a,Lz (cW c d x1 x7 r11 b a) 0 f193 (pt 262069 f193) (λj=>sp j 64 0 [(0,zC zV d .no),(4,.mp 0 0),(5,.mp 1 0),(11,.mp 2 0),(41,zC zA x7 .no),(42,ai (x7.length:Int)),(43,ai b)]) ⟨[(0,.cells [zC zA ([]:yI) .nl,zC zA ([]:yI) .nl,zC gU ([]:List tT) .nl]),(1,.cells [ai x1.kind,at' x1.name,ai x1.type.k,ai x1.type.n,zC zA x1.type.sub .no,ai x1.body.k,ai x1.body.n,zC zA x1.body.sub .no,ai x1.fam,ai x1.place,ai x1.pars,ai x1.inds,ai x1.level,zC zW x1.cons .no,zC zW x1.fields .no]),(2,.cells [zC zA x7 .no,zC zA r11 .no,zC gU a (.st 0 3)])],3,[0],1,[]⟩ (λr=>zXC r) (λ_=>[]) 0 [.blk 0,.seq (pt 4095 f193)]:=yS (λ_ _ _ _ _ _=>lN) λc ih=>λd x1 x7 r11 b a=>lw λ_=>rB 0 (rA 0 (yP (o:=.no)) λ_=>rS (gR 2)<|rC 4 [] yDU λ_=>rW (λh19=>oP 1 (zXI h19 (by simp))) λ_=>lH 2 [] [0,1,2] [1] [0,4,5,11,41,42,43] (ih _ _ _ _ _ _))<|lE 2
theorem yBg{c d e}:Cz (zQS c d e) 193 [] [zC zV d .no,ai e] (λr=>zXC r) (λ_=>[]) 0:=fw func193<|rA 0 (xA (o:=.no)) λ_=>rC 3 [] c99 λ_=>rC 5 [] V4 λ_=>rS (gR 3)<|rA 0 tZ λ_=>rA 1 tZ λ_=>rC 0 [] yBh λ_=>fH 3 [(some 4,2,3)] [0,1,4] [0] [0,4,5,11,41,42,43] (zUn _ _ _ _ _ _ _)
def kD:Nat->yD->tC->Int->tC->Option ((tC×Int)⊕(tC×Int))|0,_,_,_,_=>none|f+1,d,x4,e,a=>if decide (e<(d.length:Int))then zL d e>>=λx7=>if x7.kind==2 then zQS f d e>>=λr10=>fY x4.length e>>=λx12=>E7 a x12 r10>>=λx14=>kD f d x4 (yB (e+1)) x14 else kD f d x4 (yB (e+1)) a else gfz x4.length a>>=λl16=>some (Sum.inr (l16,0))
def zJu(f:Nat)(d:yD):Option ((tC×Int)⊕(tC×Int)):=cV f d>>=λr1=>if r1 then gmk 72 (default:uA) (d.length:Int)>>=λx4=>kD f d x4 0 x4 else some (Sum.inl ([],5))
def zNu(j:Nat->Value)(d:yD)(x4:tC)(e:Int)(a:tC):=sp j 31 0 [(0,zC zV d .no),(4,.ms 0 0 x4.length x4.length 3),(13,ai (d.length:Int)),(14,ai e)]
def zNt(d:yD)(x4:tC)(e:Int)(a:tC):yT:=⟨[(0,.row (zH sX a))],1,[],0,[]⟩
abbrev zJt(d:yD)(r:tC×Int)(C:Cf):Prop:=C 135 [] [zC zV d .no] (.tup [.sl (zH sX r.1) r.1.length .no,ai r.2]) [] 0
abbrev zJs(d:yD)(r:tC×Int)(C:Cf):Prop:=C 135 [] [zC zV d .no] (.tup [.ms 0 0 r.1.length r.1.length 3,ai r.2]) [.row (zH sX r.1)] 0
theorem zYi:Qf 135 f135:=⟨func135,by kernel_rfl⟩
theorem zQT{d r}(h:zJt d r Ci):zJt d r Ct:=⟨h,⟨⟨tv,dE _⟩,tv⟩,wA,⟨dC _,tv,tv⟩,wA⟩
theorem zYh{d r}(h:zJs d r Ci):zJs d r Ct:=⟨h,⟨⟨tv,dE _⟩,tv⟩,wA,⟨(lz rfl),tv,tv⟩,(wI (dC _) wA)⟩
theorem zLx:∀f:Nat,(∀d x4 e a r,kD f d x4 e a=some r->(∀j,Dl prog 0 (pt 16309 f135) (zNu j d x4 e a) (zNt d x4 e a) (wS prog 0 ((match(generalizing:=false)r with|Sum.inl x=>aA prog 0 f135 (.tup [.sl (zH sX x.1) x.1.length .no,ai x.2]) [] 0|Sum.inr x=>aA prog 0 f135 (.tup [.ms 0 0 x.1.length x.1.length 3,ai x.2]) [.row (zH sX x.1)] 0)) [.blk 0,.seq (pt 255 f135)]))):=by intro f;induction f with|zero=>exactλ_ _ _ _ _ h=>nn h|succ f ih=>
 intro d x4 e a r h;rw[kD]at h;rcases spl h with⟨h6,h⟩|⟨h6,h⟩;obtain⟨x7,h8,h⟩:=sS h;have k:=oA 0 (xA (o:=.no) h8)<|oB 0 h6 o0;rcases spl h with⟨h9,h⟩|⟨h9,h⟩;obtain⟨r10,h11,h⟩:=sS h;obtain⟨x12,h13,h⟩:=sS h;obtain⟨x14,h15,h⟩:=sS h;exactλj=>olH 1 [] [0] [] [0,4,13,14] (oD (dE d)<|oD (dC x14)<|oW 0 (wtE (x:=r10) (cs:=[zC zA r10.args .no,zC zA r10.inds .no,zC gU r10.recs .no]) zDD rfl h15)<|oA 0 (zXL (b:=0) (c:=List.length x4) (z:=3) h13)<|oC 0 [] (yBg _ h11)<|oB 1 h9 k) (ih _ _ _ _ _ h);exactλj=>olH 1 [] [0] [] [0,4,13,14] (oD (dE d)<|oD (dC a)<|oB 1 h9 k) (ih _ _ _ _ _ h);obtain⟨l16,h17,h⟩:=sS h;obtain⟨h17a,h17b⟩:=p9 h17;obtain rfl:=sj h;obtain rfl:=h17a.symm;try dsimp only
 rw[<-h17b];exactλj=>olF 0 [0] (oD (dC a)<|oB 0 h6 o0)
theorem yBf{f d r}(h:zJu f d=some r):(match(generalizing:=false)r with|Sum.inl x=>zJt d x Ct|Sum.inr x=>zJs d x Ct):=by unfold zJu at h;obtain⟨r1,h2,h⟩:=sS h;rcases spl h with⟨h3,h⟩|⟨h3,h⟩;obtain⟨x4,h5,h⟩:=sS h;rcases r with y0|y1;exact zQT (tH zYi 1 [] [0] [] [0,4,13,14] (oD (dE d)<|oD (dC x4)<|oM 2 (zPa h5)<|oK 0 [] h3 (c47 _ h2) o0) (zLx _ _ _ _ _ _ h));exact zYh (tH zYi 1 [] [0] [] [0,4,13,14] (oD (dE d)<|oD (dC x4)<|oM 2 (zPa h5)<|oK 0 [] h3 (c47 _ h2) o0) (zLx _ _ _ _ _ _ h));obtain rfl:=sj h;exact zQT (tF zYi 1 [] (oD (dC ([]:tC))<|oK 0 [] h3 (c47 _ h2) o0))
theorem yBe{f d r}(h:zJu f d=some r):(match(generalizing:=false)r with|Sum.inl x=>CT prog 135 [] [zC zV d .no] (.tup [.sl (zH sX x.1) x.1.length .no,ai x.2]) [] 0|Sum.inr x=>CT prog 135 [] [zC zV d .no] (.tup [.sl (zH sX x.1) x.1.length .no,ai x.2]) [] 0):=by
 have k:=yBf h;rcases r with y0|y1;·exact k
 ·exact CT.freeze (H1:=[]) (cs:=zH sX y1.1) (res':=(.tup [.sl (zH sX y1.1) y1.1.length .no,ai y1.2])) k (Nat.le_of_ble_eq_true rfl) wA (dC _) ⟨(.inl ⟨rfl,rfl⟩),trivial,tv⟩ (by rfl) rfl
theorem yDV{f d}:Cz (zJu f d) 135 [] [zC zV d .no] (Sum.elim (λx=>.tup [.sl (zH sX x.1) x.1.length .no,ai x.2]) (λx=>.tup [.sl (zH sX x.1) x.1.length .no,ai x.2])) (Sum.elim (λ_=>[]) (λ_=>[])) 0:=λr h=>by have k:=yBe h;rcases r with _|_<;>exact k
theorem zJr{t:Tm}{n:Int}(h:(xJ t n).2.2≠0):(xJ t n).2.1=zT/\(xJ t n).1=[]:=by
 unfold xJ at h⊢;split
 ·split;·exact⟨rfl,rfl⟩
  ·split;·exact⟨rfl,rfl⟩
   ·rename_i h1 h2 h3;rw[if_pos h1,if_neg h2,if_neg h3]at h;cases hr:uZ n.toNat t with|none=>exact⟨rfl,rfl⟩|some r=>rw[hr]at h;exact absurd rfl h
 ·exact⟨rfl,rfl⟩
theorem zUm:zB (λq=>jF q zT) (yQ zT,xH zT):=by simp only[jF,A9];refine zB.bind (a:=.inr ([],zT)) (zB.succ ?_) (zB.ret.eq (by rw[F3 (by decide),iL (by decide)];rfl));simp only[uB];exact zB.ifF rfl ((zPK [] (by simp)).bind (zB.pure (a:=[]) rfl zB.ret))
theorem zCA(t:Tm):zB (λq=>jF q (yX t).2.1) (yQ (yX t).2.1,xH (yX t).2.1):=by
 by_cases h:(yX t).2.2=0;·have hw:=tL (t:=t) (l:=(yX t).1) (y:=(yX t).2.1) (by rw[<-h]);exact qX _ hw.2.2.2.2.1
 ·have:=(zJr (t:=t) (n:=((min (wJ t) 25:Nat):Int)) h).1;have e:(yX t).2.1=zT:=this;rw[e];exact zUm
def zQU(l:List yF)(t:Tm)(of b:Int):tT:=if(yX t).2.2=0/\uP (yX t).2.1 of (zN l of).pars (zN l of).inds (b+(yX t).1.length)=true then tT.mk true (yX t).1 ((xH (yX t).2.1).drop (zN l of).pars.toNat)else tT.mk false [] []
theorem sE{α:Type}{L:List α}{n:Int}(h0:0<=n)(h1:n<=L.length):uL L n (L.length:Int)=some (L.drop n.toNat):=by unfold uL;rw[if_pos ⟨h0,h1,by omega⟩];congr 1;exact List.take_of_length_le (by simp;omega)
theorem aQ{t:Tm}{of pars more b:Int}(h:uP t of pars more b=true):(yQ t).k=6/\(yQ t).n=of/\((xH t).length:Int)=pars+more:=by unfold uP at h;simp only[Bool.and_eq_true,beq_iff_eq]at h;exact⟨h.1.1.1,h.1.1.2,h.1.2⟩
theorem zYg(l:List yF)(t:Tm)(of b:Int)(ho:t.Ok)(h0:0<=of)(h1:of<l.length)(hp:0<=(zN l of).pars/\0<=(zN l of).inds/\(zN l of).pars+(zN l of).inds<=24)(hb:0<=b/\b<=1048576):zB (λq=>zUo q l t of b) (zQU l t of b):=by
 simp only[zUo];refine(mZ t ho).bind ((zCA t).bind ?_);unfold zQU;by_cases a1:(yX t).2.2=0
 ·have hw:=tL (t:=t) (l:=(yX t).1) (y:=(yX t).2.1) (by rw[<-a1]);refine zB.ifF (by simp[a1]) ?_;have hlen:=hw.2.2.1;rw[zR (x:=b+((yX t).1.length:Int)) (by omega) (by omega)];have ha:=B1 (yX t).2.1 of (zN l of).pars (zN l of).inds (b+(yX t).1.length) hw.2.2.2.2.1 (by omega) (by omega) (by omega);by_cases a2:uP (yX t).2.1 of (zN l of).pars (zN l of).inds (b+(yX t).1.length)=true
  ·have hs:=aQ a2;rw[if_pos ⟨a1,a2⟩];refine zB.ifF (by simp[hs.1]) (zB.ifF (by simp[hs.2.1]) (zB.pure (yE h0 h1) (ha.bind (zB.ifT a2 (zB.pure (sE hp.1 (by show _<=((xH (yX t).2.1).length:Int);omega)) ?_)))));have hal:=rT _ (zO hw.2.2.2.2.1).2.2;have hn:=(zO hw.2.2.2.2.1).1;refine zB.bind (a:=(xH (yX t).2.1).drop (zN l of).pars.toNat) (zB.mk λq=>(yA (by simp<;>omega)).trans (by simp)) zB.ret
  ·rw[if_neg (λh=>a2 h.2)];refine zB.iff (λ_=>zB.ret) λ_=>zB.iff (λ_=>zB.ret) λ_=>zB.pure (yE h0 h1) (ha.bind (zB.ifF (by simpa using a2) zB.ret))
 ·rw[if_neg (λh=>a1 h.1)];exact zB.ifT (by simp[a1]) zB.ret
def T7(l:List yF)(of:Int):List Tm->Int->List tT|[],_=>[]|a::r,b=>zQU l a of b::T7 l of r (b+1)
theorem O1(l:List yF)(of:Int):∀(r:List Tm)(b:Int),(T7 l of r b).length=r.length|[],_=>rfl|a::r,b=>congrArg (·+1) (O1 l of r (b+1))
def vW(l:List yF)(i:Int):uA:=uA.mk ((yX (zN l i).type).1.drop (zN l i).pars.toNat) ((xH (yX (zN l i).type).2.1).drop (zN l i).pars.toNat) (T7 l (zN l i).fam ((yX (zN l i).type).1.drop (zN l i).pars.toNat) (zN l i).pars)
theorem zCB(l:List yF)(x:yF)(A I:List Tm)(hA:∀t∈A,t.Ok)(hl:A.length<=24)(h0:0<=x.fam)(h1:x.fam<l.length)(hp:0<=(zN l x.fam).pars/\0<=(zN l x.fam).inds/\(zN l x.fam).pars+(zN l x.fam).inds<=24)(hb:0<=x.pars/\x.pars<=24):∀(r:List Tm)(v:Nat)(acc:List tT),A.drop v=r->acc.length<=v->zB (λq=>cW q l x A I (v:Int) acc) (uA.mk A I (acc++T7 l x.fam r (x.pars+v)))
 |[],v,acc,hd,ha=>by refine zB.succ ?_;simp only[cW];exact zB.ifF (zZ hd) (zB.ret.eq (by simp[T7]))|t::r,v,acc,hd,ha=>by
  have hlt:=yC hd;have ht:t∈A:=by
   have:t∈A.drop v:=by rw[hd];simp
   exact List.mem_of_mem_drop this
  refine zB.succ ?_;simp only[cW];rw[zR (x:=x.pars+v) (by omega) (by omega)];refine zB.ifT (zX hd) (zB.pure (zU hd) ((zYg l t x.fam (x.pars+v) (hA t ht) h0 h1 hp (by omega)).bind (zB.pure (yA (by simp<;>omega)) ?_)));rw[zS v (by omega)];refine(zCB l x A I hA hl h0 h1 hp hb r (v+1) _ (zP hd) (by simp<;>omega)).eq ?_;rw[T7,show x.pars+((v+1:Nat):Int)=x.pars+v+1 by omega];simp
theorem sR{N:ByteArray->Bool}{l:List yF}{i:Int}(hE:vN N l)(h0:0<=i)(h1:i<l.length)(hk:(zN l i).kind=2):∃(A:List Tm)(y:Tm),yX (zN l i).type=(A,y,0)/\zJ y=true/\(∀t∈A,zJ t=true)/\A.length=wJ (zN l i).type/\A.length<=24/\0<=(zN l i).pars/\(zN l i).pars<=A.length/\0<=(zN l i).fam/\(zN l i).fam<i/\(zN l (zN l i).fam).kind=1/\(zN l i).pars=(zN l (zN l i).fam).pars/\0<=(zN l (zN l i).fam).inds/\(zN l (zN l i).fam).pars+(zN l (zN l i).fam).inds<=24/\uP y (zN l i).fam (zN l i).pars (zN l (zN l i).fam).inds A.length=true/\0<=(zN l i).place/\(zN l i).place<(zN l (zN l i).fam).cons.length:=by
 have hc:=(xS (hE.2 i h0 h1)).2.2.1 hk;unfold aG at hc;simp only[Bool.and_eq_true,beq_iff_eq,decide_eq_true_eq]at hc;obtain⟨a1,a2,a3,a4⟩:=hc;have ho:=sC a1;have hf:=wP ((xS (hE.2 _ ho.1 (by omega))).2.1 ho.2.2.1);have hw:=tL (t:=(zN l i).type) (l:=(yX (zN l i).type).1) (y:=(yX (zN l i).type).2.1) (by rw[<-a2]);have hown:H3 l (zN l i)=(zN l (zN l i).fam).cons:=by unfold H3;rw[if_neg (by omega)]
 have h6:=ho.2.2.2.2.2;rw[hown]at h6;exact⟨_,_,by rw[<-a2],hw.2.2.2.2.1,hw.2.2.2.2.2,hw.2.1,hw.2.2.1,by omega,a3,ho.1,ho.2.1,ho.2.2.1,ho.2.2.2.1,hf.2.1,hf.2.2.1,a4,ho.2.2.2.2.1,h6⟩
theorem yJ{t:Tm}(h:zJ t=true):t.Ok:=wL t (zO h).2.2
theorem zGP{N:ByteArray->Bool}(l:List yF)(i:Int)(hE:vN N l)(h0:0<=i)(h1:i<l.length)(hk:(zN l i).kind=2)(he:∀e∈l,qK e):zB (λq=>zQS q l i) (vW l i):=by simp only[zQS];obtain⟨A,y,hw,hy,hA,hAp,hA24,p0,p1,f0,f1,fk,fp,fi,fs,hap,-,-⟩:=sR hE h0 h1 hk;have hsp:=aQ hap;refine zB.pure (yE h0 h1) ((mZ _ (he _ (uD h0 h1)).1).bind ((zCA _).bind ?_));unfold vW;rw[hw];have hal:=rT _ (zO hy).2.2;have hn:=(zO hy).1;refine zB.pure (sE p0 p1) (zB.pure (sE p0 (by show _<=((xH y).length:Int);omega)) (zB.bind (a:=(xH y).drop (zN l i).pars.toNat) (zB.mk λq=>(yA (by simp<;>omega)).trans (by simp)) ?_));refine(zCB l (zN l i) (A.drop (zN l i).pars.toNat) ((xH y).drop (zN l i).pars.toNat) (λt ht=>yJ (hA t (List.mem_of_mem_drop ht))) (by simp;omega) f0 (by omega) (by omega) (by omega) _ 0 [] rfl (by simp)).eq ?_;simp
def nM(l:List yF):Nat->Nat->List uA|0,_=>[]|m+1,v=>(if(zN l v).kind=2 then vW l v else default)::nM l m (v+1)
theorem zLw(l:List yF):∀(m v j:Nat),j<m->(nM l m v)[j]?=some (if(zN l ((v+j:Nat):Int)).kind=2 then vW l ((v+j:Nat):Int)else default)|m+1,v,0,_=>by simp[nM]|m+1,v,j+1,h=>by rw[nM,List.getElem?_cons_succ,zLw l m (v+1) j (by omega),show v+1+j=v+(j+1)by omega]
theorem zNs{N:ByteArray->Bool}(l:List yF)(x4:List uA)(hx:x4.length=l.length)(hE:vN N l)(he:∀e∈l,qK e):∀(m v:Nat)(acc:List uA),v+m=l.length->acc.length=v->zB (λq=>kD q l x4 (v:Int) (acc++List.replicate m default)) (.inr (acc++nM l m v,0)):=by intro m;induction m with|zero=>intro v acc hm ha;refine zB.succ ?_;simp only[kD];refine zB.ifF (decide_eq_false (by omega)) (zB.pure (a:=acc++List.replicate 0 default) (by unfold gfz;rw[if_pos (by simp;omega)]) (zB.ret.eq (by simp[nM])))|succ m ih=>
 intro v acc hm ha;refine zB.succ ?_;simp only[kD];refine zB.ifT (decide_eq_true (by omega)) (zB.pure (yE (by omega) (by omega)) ?_);have hl:=hE.1;rw[zS v (by omega),nM];by_cases k:(zN l v).kind=2
 ·rw[if_pos k];refine zB.ifT (by simp[k]) ((zGP l v hE (by omega) (by omega) k he).bind ?_);refine zB.pure (a:=v) (by unfold fY;rw[if_pos (by omega)];simp) ?_;refine zB.pure (a:=acc++vW l v::List.replicate m default) ?_ ?_;·unfold E7;rw[if_pos (by simp;omega),List.set_append_right _ _ (by omega),show v-acc.length=0 by omega,List.replicate_succ];rfl
  ·have:=ih (v+1) (acc++[vW l v]) (by omega) (by simp;omega);simpa using this
 ·rw[if_neg k];refine zB.ifF (by simp[k]) ?_;have:=ih (v+1) (acc++[default]) (by omega) (by simp;omega);rw[List.replicate_succ];simpa using this
def e68(a:Nat)(b:yD):Option ((Int)⊕(Int×yD×tC)):=e51 a b>>=λr1=>cV a b>>=λr3=>if r3 then zJu a r1>>=λr6=>match r6 with|Sum.inl y8=>if y8.2 !=0 then some (Sum.inl y8.2)else some (Sum.inr (0,r1,y8.1))|Sum.inr y10=>if y10.2 !=0 then some (Sum.inl y10.2)else some (Sum.inr (0,r1,y10.1))else some (Sum.inl 5)
theorem c68{a b}:Cz (e68 a b) 68 [] [zC zV b .no] (Sum.elim (λx=>.tup [.val (.pointer none),ai x]) (λx=>.tup [.mp 0 0,ai x.1])) (Sum.elim (λ_=>[]) (λx=>[.cells [zC zV x.2.1 .no,zC sX x.2.2 .no]])) 0:=fw func68<|rC 0 [] c51 λ_=>rK 0 [] c47 (λ_=>rC 1 [] yDV<|pN (λ_=>rB 2 (fE 0)<|fF 0 [0]) λ_=>rB 2 (fE 0)<|fF 0 [0]) λ_=>fE 1
mutual def iS:Nat->yD->(Int×yD×tC)->Int->yD->yH->yH->Option ((Int)⊕(Int×yD×yH×yH×yD×tC))
 |0,_,_,_,_,_,_=>none|p+1,e,y3,d,a,b,c=>if decide (d<(e.length:Int))then zL e d>>=λx8=>if x8.kind==1 then yR 8 b [(yB ((yB ((yB (x8.pars+2))+(x8.cons.length:Int)))+x8.inds))]>>=λl11=>yR 8 c [0]>>=λl13=>iS p e y3 (yB (d+1)) a l11 l13 else if x8.kind==2 then O2 p e y3 d a b c 0 x8.type.k x8.type.n x8.type.sub else yR 8 b [0]>>=λl16=>yR 8 c [0]>>=λl18=>iS p e y3 (yB (d+1)) a l16 l18 else some (Sum.inr (0,a,b,c,y3.2.1,y3.2.2))def O2:Nat->yD->(Int×yD×tC)->Int->yD->yH->yH->Int->Int->Int->yI->Option ((Int)⊕(Int×yD×yH×yH×yD×tC))|0,_,_,_,_,_,_,_,_,_,_=>none|p+1,e,y3,d,a,b,c,q,f,m,g=>if f==3 then zL g 1>>=λx17=>O2 p e y3 d a b c (yB (q+1)) x17.k x17.n x17.sub else yR 8 b [0]>>=λl19=>yR 8 c [q]>>=λl21=>iS p e y3 (yB (d+1)) a l19 l21 end
def e39(p:Nat)(e:yD):Option ((Int)⊕(Int×yD×yH×yH×yD×tC)):=e68 p e>>=λr1=>match r1 with|Sum.inl y7=>if y7 !=0 then some (Sum.inl y7)else none|Sum.inr y3=>if y3.1 !=0 then some (Sum.inl y3.1)else e51 p e>>=λr5=>iS p e y3 0 r5 [] []
theorem zEt:∀p:Nat,(∀e y3 d a b c,Lz (iS p e y3 d a b c) 0 f39 (pt 65461 f39) (λj=>sp j 81 0 [(6,.mp 0 0),(25,zC zV e .no),(26,ai (e.length:Int)),(27,ai d)]) ⟨[(0,.cells [zC zV a (.st 0 15),.mp 1 0,zC zW b (.st 1 1),zC zW c (.st 2 1)]),(1,.cells [zC zV y3.2.1 .no,zC sX y3.2.2 .no])],2,[0,1,2],3,[]⟩ (Sum.elim (λx=>.tup [.val (.pointer none),ai x]) (λx=>.tup [.mp 0 0,ai x.1])) (Sum.elim (λ_=>[]) (λx=>[.cells [zC zV x.2.1 .no,.mp 1 0,zC zW x.2.2.1 .no,zC zW x.2.2.2.1 .no],.cells [zC zV x.2.2.2.2.1 .no,zC sX x.2.2.2.2.2 .no]])) 0 [.blk 0,.seq (pt 1023 f39)])/\(∀e y3 d a b c q f m g,Lz (O2 p e y3 d a b c q f m g) 0 f39 (pt 281157048172469 f39) (λj=>sp j 81 0 [(6,.mp 0 0),(9,ai 0),(10,ai q),(11,.mp 1 0),(25,zC zV e .no),(26,ai (e.length:Int)),(27,ai d)]) ⟨[(0,.cells [zC zV a (.st 0 15),.mp 2 0,zC zW b (.st 1 1),zC zW c (.st 2 1)]),(1,.cells [ai f,ai m,zC zA g .no]),(2,.cells [zC zV y3.2.1 .no,zC sX y3.2.2 .no])],3,[0,1,2],3,[]⟩ (Sum.elim (λx=>.tup [.val (.pointer none),ai x]) (λx=>.tup [.mp 0 0,ai x.1])) (Sum.elim (λ_=>[]) (λx=>[.cells [zC zV x.2.1 .no,.mp 1 0,zC zW x.2.2.1 .no,zC zW x.2.2.2.1 .no],.cells [zC zV x.2.2.2.2.1 .no,zC sX x.2.2.2.2.2 .no]])) 0 [.blk 3,.blk 2,.seq (pt 1072529023 f39),.blk 1,.seq (pt 4189567 f39),.loop (pt 65461 f39),.blk 0,.seq (pt 1023 f39)]):=yS ⟨λ_ _ _ _ _ _=>lN,λ_ _ _ _ _ _ _ _ _ _=>lN⟩ λp ih=>⟨λe y3 d a b c=>lw λ_=>rB 0 (rA 0 (xA (o:=.no)) λ_=>rB 3 (rW (λh12=>oP 9 (tY h12 (by simp))) λ_=>rW (λh14=>oP 2 (tY h14 (by simp))) λ_=>lH 3 [] [0,1] [0,3,4] [6,25,26,27] (ih.1 _ _ _ _ _ _))<|rB 0 (lH 2 [] [0,3,1] [0,1,2] [6,9,10,11,25,26,27] (ih.2 _ _ _ _ _ _ _ _ _ _))<|rW (λh17=>oP 2 (tY h17 (by simp))) λ_=>rW (λh19=>oP 2 (tY h19 (by simp))) λ_=>lH 3 [] [0,1] [0,3,4] [6,25,26,27] (ih.1 _ _ _ _ _ _))<|lF 0 [0,1],λe y3 d a b c q f m g=>lw λ_=>rB 1 (rA 4 (yP (o:=.no)) λ_=>lH 2 [] [0,3,2] [0,1,2] [6,9,10,11,25,26,27] (ih.2 _ _ _ _ _ _ _ _ _ _))<|rW (λh20=>oP 2 (tY h20 (by simp))) λ_=>rW (λh22=>oP 2 (tY h22 (by simp))) λ_=>lH 3 [] [0,2] [0,3,4] [6,25,26,27] (ih.1 _ _ _ _ _ _)⟩
theorem c39{p e}:Cz (e39 p e) 39 [] [zC zV e .no] (Sum.elim (λx=>.tup [.val (.pointer none),ai x]) (λx=>.tup [.mp 0 0,ai x.1])) (Sum.elim (λ_=>[]) (λx=>[.cells [zC zV x.2.1 .no,.mp 1 0,zC zW x.2.2.1 .no,zC zW x.2.2.2.1 .no],.cells [zC zV x.2.2.2.2.1 .no,zC sX x.2.2.2.2.2 .no]])) 0:=fw func39<|rC 0 [] c68<|pN (λ_=>rB 2 (fE 0) rN) λ_=>rB 2 (fE 0)<|rC 0 [] c51 λ_=>fH 1 [(some 1,2,1),(some 1,3,1)] [1,0] [0,1,2] [6,25,26,27] (((zEt _).1) _ _ _ _ _ _)
theorem zQV{N:ByteArray->Bool}(l:List yF)(hf:zB (λq=>cV q l) true)(hE:vN N l)(he:∀e∈l,qK e):zB (λq=>zJu q l) (.inr (nM l l.length 0,0)):=by
 simp only[zJu];have hl:=hE.1;refine hf.bind (zB.ifT rfl (zB.pure (a:=List.replicate l.length default) ?_ ?_));·unfold gmk;rw[if_pos (by omega)];rfl
 ·exact(zNs l (List.replicate l.length default) (by simp) hE he l.length 0 [] (by omega) rfl).eq (by simp)
def zJq(l:List yF)(b:Bool):(Int)⊕(Int×List yF×List uA):=if b=true then .inr (0,l,nM l l.length 0)else .inl 5
theorem zUl(N:ByteArray->Bool)(hN:mC N)(l:List yF)(hl:l.length<=65535)(he:∀e∈l,qK e)(hc:∀e∈l,M0 e):∃b,zB (λq=>cV q l) b/\(b=true->vN N l)/\zB (λq=>e68 q l) (zJq l b):=by
 obtain⟨d,-,hd⟩:=jO N hN l hl he;refine⟨_,hd,mD,?_⟩;simp only[e68];refine(jP l hl he hc).bind (hd.bind ?_);unfold zJq;by_cases h:kC N d l=true
 ·rw[if_pos h];have hA:=mD h;rw[pR hA];refine zB.ifT h ((zQV l (hd.eq h) hA he).bind ?_);exact zB.ifF (by simp) zB.ret
 ·rw[if_neg h];exact zB.ifF (by simpa using h) zB.ret
theorem zNr(t:Tm)(hg:xF t=true):wJ t<=t.nodes:=by
 have key:∀(m:Nat)(t:Tm),t.nodes<=m->xF t=true->wJ t<=t.nodes:=by intro m;induction m with|zero=>intro t h;have:=xM t;omega|succ m ih=>
  intro t hm hg;by_cases k:t.k=3
  ·obtain⟨x,y,e,hx,hy⟩:=rM hg k;rw[e]at hm⊢;rw[cA];rw[Tm.nodes,yN,yN,yN]at hm⊢;have:=xM x;have:=ih y (by omega) hy;omega
  ·rw[zDU k];omega
 exact key t.nodes t (Nat.le_refl _) hg
def xV(e:yF):Int:=if e.kind=1 then e.pars+2+e.cons.length+e.inds else 0
def uT(e:yF):Int:=if e.kind=2 then(wJ e.type:Int)else 0
theorem zUk(l:List yF)(y3:Int×List yF×List uA)(v27:Int)(vb:List yF)(a o:List Int)(r:(Int)⊕(Int×List yF×List Int×List Int×List yF×List uA))(ha:a.length<=65535)(ho:o.length<=65535)(tot:Int)(ht:tot<=4611686018427387904)(hk:zB (λq=>iS q l y3 (yB (v27+1)) vb (a++[0]) (o++[tot])) r):∀(t:Tm)(v:Int),xF t=true->0<=v->v+wJ t=tot->zB (λq=>O2 q l y3 v27 vb a o v t.k t.n t.sub) r:=by
 have key:∀(m:Nat)(t:Tm)(v:Int),t.nodes<=m->xF t=true->0<=v->v+wJ t=tot->zB (λq=>O2 q l y3 v27 vb a o v t.k t.n t.sub) r:=by intro m;induction m with|zero=>intro t v h;have:=xM t;omega|succ m ih=>
  intro t v hm hg h0 hv;refine zB.succ ?_;simp only[O2];by_cases k:t.k=3
  ·obtain⟨x,y,e,hx,hy⟩:=rM hg k;rw[e]at hv hm⊢;rw[cA]at hv;refine zB.ifT (by simp[Tm.k]) (zB.pure (a:=y) (by simp[zL,Tm.sub]) ?_);rw[zR (x:=v+1) (by omega) (by omega)];refine ih y (v+1) ?_ hy (by omega) (by omega);rw[Tm.nodes,yN,yN,yN]at hm;have:=xM x;omega
  ·rw[zDU k]at hv;refine zB.ifF (by simp[k]) (zB.pure (yA (by simp<;>omega)) (zB.pure (yA (by simp<;>omega)) ?_));rw[show v=tot by omega];exact hk
 exactλt v=>key t.nodes t v (Nat.le_refl _)
theorem H4{N:ByteArray->Bool}(l vb:List yF)(y3:Int×List yF×List uA)(hE:vN N l):∀(r:List yF)(v:Nat)(a o:List Int),l.drop v=r->a.length<=v->o.length<=v->zB (λq=>iS q l y3 (v:Int) vb a o) (.inr (0,vb,a++r.map xV,o++r.map uT,y3.2.1,y3.2.2))
 |[],v,a,o,hd,ha,ho=>by refine zB.succ ?_;simp only[iS];exact zB.ifF (zZ hd) (zB.ret.eq (by simp))|x::r,v,a,o,hd,ha,ho=>by
  have hlt:=yC hd;have hl:=hE.1;have hx:zN l v=x:=by have h1:=zU hd;rw[yE (by omega) (by omega)]at h1;exact Option.some.inj h1
  have hs:=xS (hE.2 v (by omega) (by omega));rw[hx]at hs;refine zB.succ ?_;simp only[iS];refine zB.ifT (zX hd) (zB.pure (zU hd) ?_);by_cases k1:x.kind=1
  ·have hf:=wP (hs.2.1 k1);rw[hx]at hf;rw[zR (x:=x.pars+2) (by omega) (by omega),zR (x:=x.pars+2+x.cons.length) (by omega) (by omega),zR (x:=x.pars+2+x.cons.length+x.inds) (by omega) (by omega),zS v (by omega)];refine zB.ifT (by simp[k1]) (zB.pure (yA (by simp<;>omega)) (zB.pure (yA (by simp<;>omega)) ?_));refine(H4 l vb y3 hE r (v+1) _ _ (zP hd) (by simp<;>omega) (by simp<;>omega)).eq ?_;simp[xV,uT,k1]
  ·refine zB.ifF (by simp[k1]) ?_;by_cases k2:x.kind=2
   ·refine zB.ifT (by simp[k2]) ?_;have hsh:=(zO (oH hs.1));have hp:wJ x.type<=8192:=Nat.le_trans (zNr x.type hsh.2.2) hsh.1;refine zUk l y3 v vb a o _ (by omega) (by omega) (wJ x.type) (by omega) ?_ x.type 0 hsh.2.2 (by omega) (by omega);rw[zS v (by omega)];refine(H4 l vb y3 hE r (v+1) _ _ (zP hd) (by simp<;>omega) (by simp<;>omega)).eq ?_;simp[xV,uT,k2]
   ·refine zB.ifF (by simp[k2]) (zB.pure (yA (by simp<;>omega)) (zB.pure (yA (by simp<;>omega)) ?_));rw[zS v (by omega)];refine(H4 l vb y3 hE r (v+1) _ _ (zP hd) (by simp<;>omega) (by simp<;>omega)).eq ?_;simp[xV,uT,k1,k2]
def xQ(l:List yF):xT:=xT.mk l l (nM l l.length 0) (l.map xV) (l.map uT)
def zYf(l:List yF)(b:Bool):(Int)⊕(Int×List yF×List Int×List Int×List yF×List uA):=if b=true then .inr (0,l,l.map xV,l.map uT,l,nM l l.length 0)else .inl 5
theorem zUj(N:ByteArray->Bool)(hN:mC N)(l:List yF)(hl:l.length<=65535)(he:∀e∈l,qK e)(hc:∀e∈l,M0 e):∃b,zB (λq=>cV q l) b/\(b=true->vN N l)/\zB (λq=>e39 q l) (zYf l b):=by obtain⟨b,h1,h2,h3⟩:=zUl N hN l hl he hc;refine⟨b,h1,h2,?_⟩;simp only[e39];refine h3.bind ?_;unfold zJq zYf;cases b with|false=>exact zB.ifT (by decide) zB.ret|true=>refine zB.ifF (by simp) ((jP l hl he hc).bind ?_);rw[pR (h2 rfl)];exact(H4 l l _ (h2 rfl) l 0 [] [] rfl (by simp) (by simp)).eq (by simp)
theorem H5{t:Tm}{k c:Int}(h:(vM t k c).2=0):zJ t=true/\0<=k/\0<=c/\zJ (i5 t 0 c k)=true/\(vM t k c).1=i5 t 0 c k:=by
 unfold vM at h⊢;by_cases a:zJ t=true/\aO k=true/\aO c=true
 ·rw[if_pos a]at h⊢;by_cases b:zJ (i5 t 0 c k)=true
  ·rw[if_pos b];have a2:=a.2.1;have a3:=a.2.2;unfold aO at a2 a3;simp only[Bool.and_eq_true,decide_eq_true_eq]at a2 a3;exact⟨a.1,a2.1,a3.1,b,rfl⟩
  ·rw[if_neg b]at h;simp at h
 ·rw[if_neg a]at h;simp at h
theorem zAp(t:Tm)(k c:Int):(vM t k c).2≠8:=by
 unfold vM;split;·split<;>simp
 ·simp
mutual def siT(ls:List Tm):Tm->Int->Tm|.mk kd n l,b=>if kd=1/\b<=n then(if h:(n-b).toNat<ls.length then i5 (ls[(n-b).toNat]) 0 0 b else .mk 1 (n-ls.length) [])else .mk kd n (siL ls l kd 0 b)def siL(ls:List Tm):List Tm->Int->Nat->Int->List Tm|[],_,_,_=>[]|t::l,kd,i,b=>siT ls t (sT kd i b)::siL ls l kd (i+1) b end
theorem zYe{a:Tm}{b left:Int}{long:Bool}(h:(raT a b left long).2.2=false):long=false/\(raT a b left long).1=i5 a 0 0 b:=by
 unfold raT at h⊢;by_cases h1:left-szT a 0<0;·rw[if_pos h1]at h;simp at h
 ·rw[if_neg h1]at h⊢;by_cases h2:(vM a b 0).2≠0;·rw[if_pos h2]at h;simp at h
  ·rw[if_neg h2]at h⊢;exact⟨h,(H5 (by simpa using h2)).2.2.2.2⟩
theorem zQW(ls:List Tm):∀(t:Tm)(b left:Int),(C8 ls t b left true).2.2=true|.mk kd n l,b,left=>by rw[C8,if_pos rfl]
mutual theorem zQX(ls:List Tm):∀(t:Tm)(b left:Int)(long:Bool),(C8 ls t b left long).2.2=false->long=false/\(C8 ls t b left long).1=siT ls t b
 |.mk kd n l,b,left,long,h=>by cases long with|true=>rw[zQW]at h;cases h|false=>
  refine⟨rfl,?_⟩;rw[C8,if_neg (by simp)]at h⊢;rw[siT];by_cases h1:kd=1/\b<=n
  ·rw[if_pos h1]at h;rw[if_pos h1,if_pos h1];by_cases h2:(n-b).toNat<ls.length
   ·rw[dif_pos h2]at h;rw[dif_pos h2,dif_pos h2];exact(zYe h).2
   ·rw[dif_neg h2,dif_neg h2]
  ·rw[if_neg h1]at h;rw[if_neg h1,if_neg h1];exact congrArg (Tm.mk kd n) (zQY ls l kd 0 b (left-1) (decide (left-1<0)) h).2 theorem zQY(ls:List Tm):∀(l:List Tm)(kd:Int)(i:Nat)(b left:Int)(long:Bool),(S7 ls l kd i b left long).2.2=false->long=false/\(S7 ls l kd i b left long).1=siL ls l kd i b|[],kd,i,b,left,long,h=>by rw[S7]at h⊢;rw[siL];exact⟨h,rfl⟩|t::l,kd,i,b,left,long,h=>by rw[S7]at h⊢;have k:=zQY ls l kd (i+1) b (C8 ls t (sT kd i b) left long).2.1 (C8 ls t (sT kd i b) left long).2.2 h;have k2:=zQX ls t (sT kd i b) left long k.1;refine⟨k2.1,?_⟩;show(C8 ls t (sT kd i b) left long).1::(S7 ls l kd (i+1) b (C8 ls t (sT kd i b) left long).2.1 (C8 ls t (sT kd i b) left long).2.2).1=_;rw[k2.2,k.2,siL]end
theorem zUi{t:Tm}{ls:List Tm}(h:(eG t ls).2=0):zJ t=true/\ls.all zJ=true/\zJ (siT ls t 0)=true/\(eG t ls).1=siT ls t 0:=by
 unfold eG at h⊢;by_cases a:zJ t=true/\ls.all zJ=true
 ·rw[if_pos a]at h⊢;by_cases b:(C8 ls t 0 8192 false).2.2=true;·rw[if_pos b]at h;simp at h
  ·rw[if_neg b]at h⊢;have e:=(zQX ls t 0 8192 false (by simpa using b)).2;rw[e]at h⊢;by_cases c:zJ (siT ls t 0)=true;·rw[if_pos c];exact⟨a.1,a.2,c,rfl⟩
   ·rw[if_neg c]at h;simp at h
 ·rw[if_neg a]at h;simp at h
theorem zEs(t:Tm)(ls:List Tm):(eG t ls).2≠8:=by
 unfold eG;split
 ·split;·simp
  ·split<;>simp
 ·simp
mutual def zJp(P:Int->Int->Prop):Tm->Prop|.mk k n l=>(k=1\/P k n)/\T8 P l def T8(P:Int->Int->Prop):List Tm->Prop|[]=>True|t::l=>zJp P t/\T8 P l end
section
variable{P:Int->Int->Prop}
theorem zCC:∀{l:List Tm},T8 P l↔∀t∈l,zJp P t|[]=>by rw[T8];simp|t::l=>by rw[T8,zCC];simp
end
mutual theorem zGQ{a b:Int}{Q:Int->Prop}(ha:a≠1)(hb:b≠1):∀t:Tm,(∀x∈lK t a b,Q x)↔zJp (λk n=>k=a\/k=b->Q n) t
 |.mk k n l=>by
  have ih:=zCD (Q:=Q) ha hb l;rw[lK,zJp,<-ih];constructor
  ·intro h;refine⟨?_,λx hx=>h x (List.mem_append_right _ hx)⟩;by_cases h1:k=a\/k=b;·exact .inr λ_=>h n (by rw[if_pos h1];simp)
   ·exact .inr λh2=>absurd h2 h1
  ·rintro⟨h1,h2⟩x hx;rcases List.mem_append.1 hx with hx|hx
   ·by_cases h3:k=a\/k=b
    ·rw[if_pos h3,List.mem_singleton]at hx;rcases h1 with h1|h1;·omega
     ·rw[hx];exact h1 h3
    ·rw[if_neg h3]at hx;cases hx
   ·exact h2 x hx theorem zCD{a b:Int}{Q:Int->Prop}(ha:a≠1)(hb:b≠1):∀l:List Tm,(∀x∈E1 l a b,Q x)↔T8 (λk n=>k=a\/k=b->Q n) l
 |[]=>by rw[E1,T8];simp|t::l=>by
  rw[E1,T8,<-zGQ ha hb t,<-zCD ha hb l];constructor;·intro h;exact⟨λx hx=>h x (List.mem_append_left _ hx),λx hx=>h x (List.mem_append_right _ hx)⟩
  ·rintro⟨h1,h2⟩x hx;rcases List.mem_append.1 hx with hx|hx;·exact h1 x hx
   ·exact h2 x hx end
def zNq(c:Nat)(a b:Tm):Option (Tm):=zGy c 4 0 [a,b]>>=λr1=>some r1
theorem zYd{c a b}:Cz (zNq c a b) 244 [] [yL a,yL b] (λr=>yL r) (λ_=>[]) 0:=fw func244<|rS (oS 2 (yZ xO [a,b]))<|rC 0 [] zIO λ_=>fE 1
def qL:Nat->yI->Int->Int->Int->yI->Option (Tm×Int)|0,_,_,_,_,_=>none|e+1,d,g,a,b,c=>if decide (g<(d.length:Int))then zL d (yB ((yB ((d.length:Int)-1))-g))>>=λx12=>zNq e x12 (Tm.mk a b c)>>=λr14=>qL e d (yB (g+1)) r14.k r14.n r14.sub else rJ e (Tm.mk a b c)>>=λr16=>if r16 then e96 e (Tm.mk a b c)>>=λr19=>some (r19,0)else some ((Tm.mk 0 0 []),2)
def qM:Nat->yI->Tm->Int->Option (Tm×Int)|0,_,_,_=>none|e+1,d,f,m=>if decide (m<(d.length:Int))then zL d m>>=λx3=>rJ e x3>>=λr5=>if r5 then qM e d f (yB (m+1))else some ((Tm.mk 0 0 []),5)else rJ e f>>=λr8=>if r8 then qL e d 0 f.k f.n f.sub else some ((Tm.mk 0 0 []),5)
def zAo(e:Nat)(d:yI)(f:Tm):Option (Tm×Int):=if decide ((d.length:Int)>24)then some ((Tm.mk 0 0 []),2)else qM e d f 0
theorem zGR:∀e:Nat,∀d g a b c,Lz (qL e d g a b c) 0 f186 (pt 65461 f186) (λj=>sp j 53 0 [(0,zC zA d .no),(2,.clo 244 [] []),(4,.mp 0 0),(6,.mp 1 0),(31,ai (d.length:Int)),(32,ai g)]) ⟨[(0,.cells [ai a,ai b,zC zA c .no]),(1,.cells [ai 0,ai 0,zC zA ([]:yI) .nl])],2,[],0,[]⟩ (λr=>.tup [yL r.1,ai r.2]) (λ_=>[]) 0 [.blk 2,.seq (pt 1023 f186)]:=yS (λ_ _ _ _ _=>lN) λe ih=>λd g a b c=>lw λ_=>rB 0 (rA 3 (yP (o:=.no)) λ_=>rC 2 [] zYd λ_=>lH 2 [] [0,1] [] [0,2,4,6,31,32] (ih _ _ _ _ _))<|rK 1 [] qQ (λ_=>rC 2 [] c96 λ_=>lE 1) λ_=>lE 2
theorem zGS:∀e:Nat,∀d f m,Lz (qM e d f m) 0 f186 (pt 4021 f186) (λj=>sp j 53 0 [(0,zC zA d .no),(2,.clo 244 [] []),(4,.mp 0 0),(6,.mp 1 0),(15,zC zA d .no),(16,ai (d.length:Int)),(17,ai m)]) ⟨[(0,.cells [ai f.k,ai f.n,zC zA f.sub .no]),(1,.cells [ai 0,ai 0,zC zA ([]:yI) .nl])],2,[],0,[]⟩ (λr=>.tup [yL r.1,ai r.2]) (λ_=>[]) 0 [.blk 0,.seq (pt 63 f186)]:=yS (λ_ _ _=>lN) λe ih=>λd f m=>lw λ_=>rB 0 (rA 0 (yP (o:=.no)) λ_=>rK 3 [] qQ (λ_=>lH 2 [] [0,1] [] [0,2,4,6,15,16,17] (ih _ _ _)) λ_=>lE 2)<|rK 1 [] qQ (λ_=>lH 2 [] [0,1] [] [0,2,4,6,31,32] (zGR _ _ _ _ _ _)) λ_=>lE 2
theorem zQZ{e d f}:Cz (zAo e d f) 186 [] [zC zA d .no,yL f,.clo 244 [] []] (λr=>.tup [yL r.1,ai r.2]) (λ_=>[]) 0:=fw func186<|rB 1 (fE 1)<|fH 1 [] [0,1] [] [0,2,4,6,15,16,17] (zGS _ _ _ _)
def cX:Nat->yI->Int->Option yI|0,_,_=>none|a+1,c,b=>if decide (b>=0)then B0 a b>>=λr4=>yR 40 c [r4]>>=λl6=>cX a l6 (yB (b-1))else some c
def zBd(a:Nat)(d:Int):Option yI:=if decide (d<0)then some []else if decide (d>1048576)then some []else cX a [] (yB (d-1))
theorem zUh:∀a:Nat,∀c b,Lz (cX a c b) 0 f190 (pt 16309 f190) (λj=>sp j 23 0 [(3,zC zA c (.st 0 3)),(4,ai b)]) ⟨[],0,[0],1,[]⟩ (λr=>.sl (zH zA r) r.length .no) (λ_=>[]) 0 [.blk 0,.seq (pt 255 f190)]:=yS (λ_ _=>lN) λa ih=>λc b=>lw λ_=>rB 0 (rC 0 [] eE λr4=>rS (oS 0 (yZ xO [r4]))<|rW (λh7=>oP 0 (xY h7 (by simp))) λ_=>lH 1 [] [] [1] [3,4] (ih _ _))<|lE 0
theorem H6{a d}:Cz (zBd a d) 190 [] [ai d] (λr=>.sl (zH zA r) r.length .no) (λ_=>[]) 0:=fw func190<|rB 0 (fE 0)<|rB 0 (fE 0)<|fH 1 [(none,3,3)] [] [0] [3,4] (zUh _ _ _)
def zUg(d:Nat)(a:Int)(b:yI)(c:Int):Option (yI×Int):=if a==0 then some (b,c)else some (b,a)
theorem yDW{d a b c}:Cz (zUg d a b c) 303 [.cells [ai a]] [.mp 0 0,zC zA b .no,ai c] (λr=>.sl (zH zA r.1) r.1.length .no) (λr=>[.cells [ai r.2]]) 0:=fw func303<|rB 1 (fE 1)<|fE 0
def cY:Nat->yI->Int->Int->Int->yI->Option (yI×Int)|0,_,_,_,_,_=>none|e+1,b,c,d,a,f=>if decide (a<(b.length:Int))then zL b a>>=λx2=>zPO e x2 c d>>=λr4=>if r4.2 !=0 then some ([],r4.2)else yR 40 f [r4.1]>>=λl7=>cY e b c d (yB (a+1)) l7 else some (f,0)
def zUf(e:Nat)(b:yI)(c d:Int):Option (yI×Int):=cY e b c d 0 []
theorem zUe:∀e:Nat,∀b c d a f,Lz (cY e b c d a f) 0 f304 (pt 4021 f304) (λj=>sp j 35 0 [(1,ai c),(2,ai d),(8,zC zA f (.st 0 3)),(13,zC zA b .no),(14,ai (b.length:Int)),(15,ai a)]) ⟨[],0,[0],1,[]⟩ (λr=>.tup [.sl (zH zA r.1) r.1.length .no,ai r.2]) (λ_=>[]) 0 [.blk 0,.seq (pt 63 f304)]:=yS (λ_ _ _ _ _=>lN) λe ih=>λb c d a f=>lw λ_=>rB 0 (rA 0 (yP (o:=.no)) λ_=>rC 3 [] yAM λr4=>rB 3 (lE 0)<|rS (oS 1 (yZ xO [r4.1]))<|rW (λh8=>oP 0 (xY h8 (by simp))) λ_=>lH 1 [] [] [1] [1,2,8,13,14,15] (ih _ _ _ _ _))<|lE 0
theorem yDX{e b c d}:Cz (zUf e b c d) 304 [] [zC zA b .no,ai c,ai d] (λr=>.tup [.sl (zH zA r.1) r.1.length .no,ai r.2]) (λ_=>[]) 0:=fw func304<|fH 1 [(none,8,3)] [] [0] [1,2,8,13,14,15] (zUe _ _ _ _ _ _)
def W0(b:Nat)(a:Int)(c:yI)(d:Int):Option (yI×Int):=zUf b c d 0>>=λr1=>zUg b a r1.1 r1.2>>=λr3=>some (r3.1,r3.2)
theorem zAn{b a c d}:Cz (W0 b a c d) 263 [.cells [ai a]] [.mp 0 0,zC zA c .no,ai d] (λr=>.sl (zH zA r.1) r.1.length .no) (λr=>[.cells [ai r.2]]) 0:=fw func263<|rC 0 [] yDX λ_=>rC 2 [0] yDW λ_=>fE 0
def zAm(d:Nat)(a:Int)(b:Tm)(c:Int):Option (Tm×Int):=if a==0 then some (b,c)else some (b,a)
theorem zBc{d a b c}:Cz (zAm d a b c) 266 [.cells [ai a]] [.mp 0 0,yL b,ai c] (λr=>yL r.1) (λr=>[.cells [ai r.2]]) 0:=fw func266<|rB 1 (fE 3)<|fE 2
def cZ:Nat->Tm->(yI×Int)->Int->yI->Option (Tm×Int)|0,_,_,_,_=>none|c+1,b,r6,d,f=>if decide (d>=0)then zL r6.1 d>>=λx9=>yR 40 f [x9]>>=λl11=>cZ c b r6 (yB (d-1)) l11 else zPX c b f>>=λr13=>zAm c r6.2 r13.1 r13.2>>=λr15=>some (r15.1,r15.2)
def bA:Nat->Int->Tm->Int->yI->Int->yI->Option (Tm×Int)|0,_,_,_,_,_,_=>none|c+1,a,b,g,m,e,f=>if decide (e<g)then B0 c e>>=λr2=>yR 40 f [r2]>>=λl4=>bA c a b g m (yB (e+1)) l4 else W0 c a m g>>=λr6=>cZ c b r6 (yB ((r6.1.length:Int)-1)) f
def zJo(c:Nat)(a:Int)(b:Tm)(g:Int)(m:yI):Option (Tm×Int):=bA c a b g m 0 []
theorem zUd:∀c:Nat,∀b r6 d f,Lz (cZ c b r6 d f) 1 f302 (pt 65461 f302) (λj=>sp j 48 0 [(0,.mp 0 0),(5,.mp 1 0),(8,.mp 2 0),(9,zC zA f (.st 0 3)),(11,zC zA r6.1 .no),(12,ai d)]) ⟨[(0,.cells [ai r6.2]),(1,.cells [ai b.k,ai b.n,zC zA b.sub .no]),(2,.cells [ai 0,ai 0,zC zA ([]:yI) .nl])],3,[0],1,[]⟩ (λr=>yL r.1) (λr=>[.cells [ai r.2]]) 0 [.blk 2,.seq (pt 1023 f302)]:=yS (λ_ _ _ _=>lN) λc ih=>λb r6 d f=>lw λ_=>rB 0 (rA 0 (yP (o:=.no)) λx9=>rS (oS 1 (yZ xO [x9]))<|rW (λh12=>oP 0 (xY h12 (by simp))) λ_=>lH 1 [] [0,1,2] [1] [0,5,8,9,11,12] (ih _ _ _ _))<|rC 1 [] yAN λ_=>rC 2 [0] zBc λ_=>lE 1
theorem zUc:∀c:Nat,∀a b g m e f,Lz (bA c a b g m e f) 1 f302 (pt 4021 f302) (λj=>sp j 48 0 [(0,.mp 0 0),(2,ai g),(3,zC zA m .no),(5,.mp 1 0),(8,.mp 2 0),(9,zC zA f (.st 0 3)),(13,ai g),(14,ai e)]) ⟨[(0,.cells [ai a]),(1,.cells [ai b.k,ai b.n,zC zA b.sub .no]),(2,.cells [ai 0,ai 0,zC zA ([]:yI) .nl])],3,[0],1,[]⟩ (λr=>yL r.1) (λr=>[.cells [ai r.2]]) 0 [.blk 0,.seq (pt 63 f302)]:=yS (λ_ _ _ _ _ _=>lN) λc ih=>λa b g m e f=>lw λ_=>rB 0 (rC 0 [] eE λr2=>rS (oS 0 (yZ xO [r2]))<|rW (λh5=>oP 0 (xY h5 (by simp))) λ_=>lH 1 [] [0,1,2] [1] [0,2,3,5,8,9,13,14] (ih _ _ _ _ _ _))<|rC 0 [0] zAn λ_=>lH 2 [] [0,1,2] [0] [0,5,8,9,11,12] (zUd _ _ _ _ _)
theorem zNp{c a b g m}:Cz (zJo c a b g m) 302 [.cells [ai a]] [.mp 0 0,yL b,ai g,zC zA m .no] (λr=>yL r.1) (λr=>[.cells [ai r.2]]) 0:=fw func302<|fH 0 [(none,9,3)] [0,1,2] [0] [0,2,3,5,8,9,13,14] (zUc _ _ _ _ _ _ _)
def bB:Nat->yI->yI->Int->yI->Int->Option (yI×Int)|0,_,_,_,_,_=>none|f+1,d,e,b,g,a=>if decide (b<(d.length:Int))then zL d b>>=λx2=>zJo f a x2 b e>>=λr4=>yR 40 g [r4.1]>>=λl6=>bB f d e (yB (b+1)) l6 r4.2 else some (g,a)
def zGT(f:Nat)(c:Int)(d e:yI):Option (yI×Int):=bB f d e 0 [] c
theorem zUb:∀f:Nat,∀d e b g a,Lz (bB f d e b g a) 1 f264 (pt 4021 f264) (λj=>sp j 27 0 [(0,.mp 0 0),(2,zC zA e .no),(7,zC zA g (.st 0 3)),(10,zC zA d .no),(11,ai (d.length:Int)),(12,ai b)]) ⟨[(0,.cells [ai a])],1,[0],1,[]⟩ (λr=>zC zA r.1 (.st 0 3)) (λr=>[.cells [ai r.2]]) 1 [.blk 0,.seq (pt 63 f264)]:=yS (λ_ _ _ _ _=>lN) λf ih=>λd e b g a=>lw λ_=>rB 0 (rA 0 (yP (o:=.no)) λ_=>rC 3 [0] zNp λr4=>rS (oS 0 (yZ xO [r4.1]))<|rW (λh7=>oP 0 (xY h7 (by simp))) λ_=>lH 1 [] [0] [1] [0,2,7,10,11,12] (ih _ _ _ _ _))<|lG 0 [] [0] [0] true
theorem zNo{f c d e}:Cz (zGT f c d e) 264 [.cells [ai c]] [.mp 0 0,zC zA d .no,zC zA e .no] (λr=>zC zA r.1 (.st 0 3)) (λr=>[.cells [ai r.2]]) 1:=fw func264<|fH 1 [(none,7,3)] [0] [0] [0,2,7,10,11,12] (zUb _ _ _ _ _ _)
def zRz(c:Nat)(a:Int)(b:Tm):Option (Tm×Int×Int):=if a==0 then rJ c b>>=λr2=>if r2 then if a !=0 then some ((Tm.mk 0 0 []),a,a)else some (b,0,a)else some ((Tm.mk 0 0 []),2,2)else if a !=0 then some ((Tm.mk 0 0 []),a,a)else some (b,0,a)
theorem zYc{c a b}:Cz (zRz c a b) 265 [.cells [ai a]] [.mp 0 0,yL b] (λr=>.tup [yL r.1,ai r.2.1]) (λr=>[.cells [ai r.2.2]]) 0:=fw func265<|rB 1 (rK 1 [] qQ (λ_=>rB 2 (fE 2)<|fE 2) λ_=>fE 6)<|rB 1 (fE 2)<|fE 2
def zJn(d:Nat)(b:yD)(a c:Int):Option (Bool):=if decide (a>=0)then if decide (a<(b.length:Int))then zL b a>>=λx3=>some (x3.kind==c)else some false else some false
theorem zUa{d b a c}:Cz (zJn d b a c) 298 [] [zC zV b .no,ai a,ai c] (λr=>ab r) (λ_=>[]) 0:=fw func298<|rB 0 (rB 1 (rA 0 (xA (o:=.no)) λ_=>fE 2)<|fE 0)<|fE 0
def zNn(b:Nat)(a:Int)(c:Tm)(d:Int):Option (Tm×Int):=zGv b c d>>=λr1=>zAm b a r1.1 r1.2>>=λr3=>some (r3.1,r3.2)
theorem zJm{b a c d}:Cz (zNn b a c d) 301 [.cells [ai a]] [.mp 0 0,yL c,ai d] (λr=>yL r.1) (λr=>[.cells [ai r.2]]) 0:=fw func301<|rC 1 [] zPP λ_=>rC 2 [0] zBc λ_=>fE 1
def bC:Nat->yI->Int->Option (Bool)|0,_,_=>none|b+1,a,c=>if decide (c<(a.length:Int))then zL a c>>=λx2=>rJ b x2>>=λr4=>if r4 then bC b a (yB (c+1))else some false else some true
def zNm(b:Nat)(a:yI):Option (Bool):=bC b a 0
theorem zUA:∀b:Nat,∀a c,Lz (bC b a c) 0 f340 (pt 949 f340) (λj=>sp j 15 0 [(5,zC zA a .no),(6,ai (a.length:Int)),(7,ai c)]) ⟨[],0,[],0,[]⟩ (λr=>ab r) (λ_=>[]) 0 [.blk 0,.seq (pt 15 f340)]:=yS (λ_ _=>lN) λb ih=>λa c=>lw λ_=>rB 0 (rA 0 (yP (o:=.no)) λ_=>rK 3 [] qQ (λ_=>lH 2 [] [] [] [5,6,7] (ih _ _)) λ_=>lE 1)<|lE 0
theorem zYb{b a}:Cz (zNm b a) 340 [] [zC zA a .no] (λr=>ab r) (λ_=>[]) 0:=fw func340<|fH 1 [] [] [] [5,6,7] (zUA _ _ _)
def zUB(c:Nat)(a:yI)(b:Tm):Option (Tm×Int):=zAo c a b>>=λr1=>some (r1.1,r1.2)
theorem yDY{c a b}:Cz (zUB c a b) 349 [] [zC zA a .no,yL b] (λr=>.tup [yL r.1,ai r.2]) (λ_=>[]) 0:=fw func349<|rC 1 [] zQZ λ_=>fE 3
def bD:Nat->yI->tT->Tm->Int->Int->Int->Int->yI->Option (Tm×Int)|0,_,_,_,_,_,_,_,_=>none|f+1,q,e,p,g,a,b,c,d=>if decide (g<(e.at'.length:Int))then zL e.at' g>>=λx6=>zJo f a x6 (e.around.length:Int) q>>=λr8=>gW f (Tm.mk b c d) r8.1>>=λr10=>bD f q e p (yB (g+1)) r8.2 r10.k r10.n r10.sub else zNn f a p (e.around.length:Int)>>=λr12=>zBd f (e.around.length:Int)>>=λr14=>lM f r12.1 r14>>=λr16=>gW f (Tm.mk b c d) r16>>=λr18=>zGT f r12.2 e.around q>>=λr20=>zUB f r20.1 r18>>=λr22=>zAm f r20.2 r22.1 r22.2>>=λr24=>some (r24.1,r24.2)
def zUC(f:Nat)(m:Int)(s:Tm)(t q:yI)(e:tT)(p:Tm):Option (Tm×Int):=W0 f m t (e.around.length:Int)>>=λr1=>lM f s r1.1>>=λr3=>bD f q e p 0 r1.2 r3.k r3.n r3.sub
theorem zUD:∀f:Nat,∀q e p g a b c d,Lz (bD f q e p g a b c d) 1 f341 (pt 16309 f341) (λj=>sp j 61 0 [(0,.mp 0 0),(3,zC zA q .no),(10,.mp 1 0),(11,.mp 2 0),(12,.mp 3 0),(13,ai (e.around.length:Int)),(14,.mp 4 0),(27,zC zA e.at' .no),(28,ai (e.at'.length:Int)),(29,ai g)]) ⟨[(0,.cells [ai a]),(1,.cells [ab e.is,zC zA e.around .no,zC zA e.at' .no]),(2,.cells [ai p.k,ai p.n,zC zA p.sub .no]),(3,.cells [ai 0,ai 0,zC zA ([]:yI) .nl]),(4,.cells [ai b,ai c,zC zA d .no])],5,[],0,[]⟩ (λr=>yL r.1) (λr=>[.cells [ai r.2]]) 0 [.blk 0,.seq (pt 255 f341)]:=yS (λ_ _ _ _ _ _ _ _=>lN) λf ih=>λq e p g a b c d=>lw λ_=>rB 0 (rA 0 (yP (o:=.no)) λ_=>rC 4 [0] zNp λ_=>rC 0 [] lL λ_=>lH 2 [] [0,1,2,3,4] [] [0,3,10,11,12,13,14,27,28,29] (ih _ _ _ _ _ _ _ _))<|rC 2 [0] zJm λ_=>rC 0 [] H6 λ_=>rC 0 [] nX λ_=>rC 0 [] lL λ_=>rC 2 [0] zNo λ_=>rC 1 [] yDY λ_=>rC 2 [0] zBc λ_=>lE 1
theorem zUE{f m s t q e p}:Cz (zUC f m s t q e p) 341 [.cells [ai m]] [.mp 0 0,yL s,zC zA t .no,zC zA q .no,zXB e,yL p] (λr=>yL r.1) (λr=>[.cells [ai r.2]]) 0:=fw func341<|rC 3 [0] zAn λ_=>rC 0 [] nX λ_=>fH 3 [] [0,2,3,4,5] [] [0,3,10,11,12,13,14,27,28,29] (zUD _ _ _ _ _ _ _ _ _)
def xW(l:List Tm):Prop:=∀x∈l,x.Ok
theorem xW.nil:xW []:=λ_ h=>nomatch h
theorem xW.app{l m:List Tm}(h:xW l)(k:xW m):xW (l++m):=λx hx=>(List.mem_append.1 hx).elim (h x) (k x)
theorem xW.one{t:Tm}(h:t.Ok):xW [t]:=λx hx=>by rw[List.mem_singleton.1 hx];exact h
theorem xW.drop{l:List Tm}(h:xW l)(n:Nat):xW (l.drop n):=λx hx=>h x (List.mem_of_mem_drop hx)
theorem xW.take{l:List Tm}(h:xW l)(n:Nat):xW (l.take n):=λx hx=>h x (List.mem_of_mem_take hx)
theorem xW.at{l r:List Tm}{v:Nat}{x:Tm}(h:xW l)(hd:l.drop v=x::r):x.Ok:=h x (by
 have:x∈l.drop v:=by rw[hd];simp
 exact List.mem_of_mem_drop this)
theorem zYa{k n:Int}{a:Tm}(h:a.Ok):(Tm.mk k n [a]).Ok:=by rw[Tm.Ok,gV,gV];exact⟨by simp,h,trivial⟩
theorem rU{k n:Int}{a b:Tm}(h:a.Ok)(i:b.Ok):(Tm.mk k n [a,b]).Ok:=by rw[Tm.Ok,gV,gV,gV];exact⟨by simp,h,i,trivial⟩
theorem zEr{α:Type}{l:List α}{i:Int}(h0:0<=i)(h1:i<l.length):∃x,zL l i=some x/\x∈l:=by
 have:i.toNat<l.length:=by omega
 exact⟨l[i.toNat],by unfold zL;rw[if_pos h0,List.getElem?_eq_getElem this],List.getElem_mem this⟩
theorem bE{α:Type}{l:List α}{a b:Int}(h0:0<=a)(h1:a<=b)(h2:b<=l.length):uL l a b=some ((l.drop a.toNat).take (b-a).toNat):=by unfold uL;rw[if_pos ⟨h0,h1,h2⟩]
def MT(e:Int)(v:Tm)(x:Tm×Int):Prop:=x.1.Ok/\(e≠8->x.2≠8)/\(x.2=0->e=0/\x.1=v)
def ML(e:Int)(v:List Tm)(x:List Tm×Int):Prop:=xW x.1/\(e≠8->x.2≠8)/\(x.2=0->e=0/\x.1=v)
def upI(k:Int)(l:List Tm):List Tm:=l.map λt=>i5 t 0 0 k
theorem zCE(p1 p2:Int):∀(r l acc:List Tm)(v:Nat),l.drop v=r->l.length<=1073741824->xW l->xW acc->acc.length+r.length<=l.length->zD (λq=>cY q l p1 p2 (v:Int) acc) (λx=>ML 0 (acc++r.map λt=>i5 t 0 p2 p1) x/\x.1.length<=l.length)
 |[],l,acc,v,hd,hl,ho,ha,hv=>by refine zD.succ ?_;simp only[cY];refine zD.ite (λh=>?_) λ_=>zD.ret ⟨⟨ha,by simp,by simp⟩,by simpa using hv⟩;rw[zZ hd]at h;cases h|t::r,l,acc,v,hd,hl,ho,ha,hv=>by
  have hlt:=yC hd;refine zD.succ ?_;simp only[cY];refine zD.ite (λ_=>?_) λh=>?_
  ·refine zD.pure (zU hd) (zD.bind (P:=λr=>r=vM t p1 p2) ((zKQ t p1 p2 (ho.at hd)).tot rfl) λr4 h4=>?_);subst h4;refine zD.ite (λh=>?_) λh=>?_
   ·have hne:(vM t p1 p2).2≠0:=by simpa using h
    exact zD.ret ⟨⟨xW.nil,λ_=>zAp t p1 p2,λh0=>absurd h0 hne⟩,by simp⟩
   ·have he:(vM t p1 p2).2=0:=by simpa using h
    rw[List.length_cons]at hv;refine zD.pure (yA (by simp<;>omega)) ?_;rw[zS v (by omega)];refine(zCE p1 p2 r l _ (v+1) (zP hd) hl ho (ha.app (xW.one (eF t p1 p2 (ho.at hd)))) (by simp<;>omega)).mono λx hx=>?_;rw[(H5 he).2.2.2.2]at hx;simpa using hx
  ·rw[zX hd]at h;cases h
theorem zRy(l:List Tm)(p1 p2:Int)(hl:l.length<=1073741824)(ho:xW l):zD (λq=>zUf q l p1 p2) (λx=>ML 0 (l.map λt=>i5 t 0 p2 p1) x/\x.1.length<=l.length):=by simp only[zUf];exact zCE p1 p2 l l [] 0 rfl hl ho xW.nil (by simp)
theorem X6(e:Int)(t:Tm)(p:Int):zD (λq=>zAm q e t p) (λx=>x.1=t/\x.2=if e=0 then p else e):=by
 simp only[zAm];refine zD.ite (λh=>zD.ret ⟨rfl,?_⟩) λh=>zD.ret ⟨rfl,?_⟩;·rw[if_pos (by simpa using h)]
 ·rw[if_neg (by simpa using h)]
theorem zUF(e:Int)(t:List Tm)(p:Int):zD (λq=>zUg q e t p) (λx=>x.1=t/\x.2=if e=0 then p else e):=by
 simp only[zUg];refine zD.ite (λh=>zD.ret ⟨rfl,?_⟩) λh=>zD.ret ⟨rfl,?_⟩;·rw[if_pos (by simpa using h)]
 ·rw[if_neg (by simpa using h)]
theorem zJl{e:Int}{v:Tm}{r x:Tm×Int}(hr:MT 0 v r)(hx:x.1=r.1/\x.2=if e=0 then r.2 else e):MT e v x:=by
 obtain⟨h1,h2⟩:=hx;refine⟨by rw[h1];exact hr.1,?_,?_⟩
 ·intro he;rw[h2];split;·exact hr.2.1 (by decide)
  ·exact he
 ·intro he;rw[h2]at he;by_cases h:e=0
  ·rw[if_pos h]at he;exact⟨h,by rw[h1];exact(hr.2.2 he).2⟩
  ·rw[if_neg h]at he;exact absurd he h
theorem zYA{e:Int}{v:List Tm}{r x:List Tm×Int}(hr:ML 0 v r)(hx:x.1=r.1/\x.2=if e=0 then r.2 else e):ML e v x:=by
 obtain⟨h1,h2⟩:=hx;refine⟨by rw[h1];exact hr.1,?_,?_⟩
 ·intro he;rw[h2];split;·exact hr.2.1 (by decide)
  ·exact he
 ·intro he;rw[h2]at he;by_cases h:e=0
  ·rw[if_pos h]at he;exact⟨h,by rw[h1];exact(hr.2.2 he).2⟩
  ·rw[if_neg h]at he;exact absurd he h
theorem mE(e:Int)(l:List Tm)(p:Int)(hl:l.length<=1073741824)(ho:xW l):zD (λq=>W0 q e l p) (λx=>ML e (upI p l) x/\x.1.length<=l.length):=by simp only[W0];exact(zRy l p 0 hl ho).bind λr h=>(zUF e r.1 r.2).bind λr3 h3=>zD.ret ⟨zYA h.1 h3,by rw[h3.1];exact h.2⟩
theorem zEq(t:Tm)(k c:Int)(h:t.Ok):MT 0 (i5 t 0 c k) (vM t k c):=⟨eF t k c h,λ_=>zAp t k c,λh=>⟨rfl,(H5 h).2.2.2.2⟩⟩
theorem zYB(t:Tm)(ls:List Tm)(h:t.Ok)(ho:xW ls):MT 0 (siT ls t 0) (eG t ls):=⟨zDT t ls h ho,λ_=>zEs t ls,λh=>⟨rfl,(zUi h).2.2.2⟩⟩
theorem zJk(e:Int)(t:Tm)(p:Int)(h:t.Ok):zD (λq=>zNn q e t p) (MT e (i5 t 0 0 p)):=by simp only[zNn];exact zD.bind (P:=λr=>r=vM t p 0) ((zGt t p h).tot rfl) λr hr=>(X6 e r.1 r.2).bind λr3 h3=>zD.ret (by subst hr;exact zJl (zEq t p 0 h) h3)
def gY:Nat->List Tm|0=>[]|m+1=>.mk 1 (m:Int) []::gY m
def vuT:Nat->Nat->List Tm|0,_=>[]|m+1,v=>.mk 1 (v:Int) []::vuT m (v+1)
theorem oI:∀m,xW (gY m)
 |0=>xW.nil|m+1=>λx hx=>by
  rcases List.mem_cons.1 hx with rfl|hx;·exact yW _ _
  ·exact oI m x hx
theorem uE:∀m,(gY m).length=m|0=>rfl|m+1=>congrArg (·+1) (uE m)
theorem zGU:∀(m:Nat)(acc:List Tm),m+acc.length<=1048576->zB (λq=>cX q acc ((m:Int)-1)) (acc++gY m)|0,acc,hm=>by refine zB.succ ?_;simp only[cX];exact zB.ifF (decide_eq_false (by omega)) (zB.ret.eq (by simp[gY]))|m+1,acc,hm=>by refine zB.succ ?_;simp only[cX];refine zB.ifT (decide_eq_true (by omega)) ((pP _).bind (zB.pure (yA (by simp<;>omega)) ?_));rw[zR (by omega) (by omega),show((m+1:Nat):Int)-1-1=(m:Int)-1 by omega];refine(zGU m _ (by simp<;>omega)).eq ?_;rw[gY,show((m+1:Nat):Int)-1=(m:Int)by omega];simp
theorem iT(n:Nat)(hn:n<=1048576):zB (λq=>zBd q (n:Int)) (gY n):=by simp only[zBd];refine zB.ifF (decide_eq_false (by omega)) (zB.ifF (decide_eq_false (by omega)) ?_);rw[zR (by omega) (by omega)];exact(zGU n [] (by simpa using hn)).eq (by simp)
def zUG(t:Tm)(own:Nat)(outer:List Tm):Tm:=siT (vuT own 0++(upI own outer).reverse) t 0
def zAl(outer:List Tm):List Tm->Nat->List Tm|[],_=>[]|t::r,v=>zUG t v outer::zAl outer r (v+1)
theorem zGV(p1:Tm)(r6:List Tm×Int)(h1:p1.Ok)(h6:xW r6.1):∀(m:Nat)(acc:List Tm),m<=r6.1.length->m+acc.length<=4294967296->xW acc->zD (λq=>cZ q p1 r6 ((m:Int)-1) acc) (MT r6.2 (siT (acc++(r6.1.take m).reverse) p1 0))
 |0,acc,hm,hl,ho=>by
  refine zD.succ ?_;simp only[cZ];refine zD.ite (λh=>?_) λ_=>?_;·have:=of_decide_eq_true h;omega
  ·refine zD.bind (P:=λr=>r=eG p1 acc) ((zKT p1 acc h1 ho (by omega)).tot rfl) λr h=>(X6 _ r.1 r.2).bind λx hx=>zD.ret ?_;subst h;have:=zJl (zYB p1 acc h1 ho) hx;simpa using this|m+1,acc,hm,hl,ho=>by
  refine zD.succ ?_;simp only[cZ];refine zD.ite (λ_=>?_) λh=>?_
  ·have hlt:m<r6.1.length:=by omega
   have hx:zL r6.1 (((m+1:Nat):Int)-1)=some r6.1[m]:=by unfold zL;rw[if_pos (by omega),show(((m+1:Nat):Int)-1).toNat=m by omega,List.getElem?_eq_getElem hlt]
   refine zD.pure hx (zD.pure (yA (by simp<;>omega)) ?_);rw[zR (by omega) (by omega),show((m+1:Nat):Int)-1-1=(m:Int)-1 by omega];refine(zGV p1 r6 h1 h6 m _ (by omega) (by simp<;>omega) (ho.app (xW.one (h6 _ (List.getElem_mem hlt))))).mono λx hx=>?_;have e:r6.1.take (m+1)=r6.1.take m++[r6.1[m]]:=by rw[List.take_add_one,List.getElem?_eq_getElem hlt];rfl
   rw[e,List.reverse_append];simpa using hx
  ·have:=of_decide_eq_false h;omega
theorem zRx(e:Int)(p1:Tm)(own:Nat)(p3:List Tm)(h1:p1.Ok)(h2:own<=1073741824)(h3:xW p3)(hl:p3.length<=1073741824):∀(m v:Nat)(acc:List Tm),v+m=own->acc.length<=v->xW acc->zD (λq=>bA q e p1 (own:Int) p3 (v:Int) acc) (MT e (siT (acc++vuT m v++(upI own p3).reverse) p1 0)):=by intro m;induction m with
 |zero=>
  intro v acc hm ha ho;refine zD.succ ?_;simp only[bA];refine zD.ite (λh=>?_) λ_=>(mE e p3 own hl h3).bind λr6 h6=>?_;·have:=of_decide_eq_true h;omega
  ·rw[zR (by omega) (by omega)];refine(zGV p1 r6 h1 h6.1.1 r6.1.length acc (Nat.le_refl _) (by omega) ho).mono λx hx=>⟨hx.1,λhe=>hx.2.1 (h6.1.2.1 he),λhe=>?_⟩;have k:=hx.2.2 he;have k6:=h6.1.2.2 k.1;refine⟨k6.1,?_⟩;rw[k.2,List.take_length,k6.2,vuT];simp|succ m ih=>
  intro v acc hm ha ho;refine zD.succ ?_;simp only[bA];refine zD.ite (λ_=>?_) λh=>?_
  ·refine zD.bind (P:=λr=>r=Tm.mk 1 (v:Int) []) ((pP v).tot rfl) λr h=>zD.pure (yA (by simp<;>omega)) ?_;subst h;rw[zS v (by omega)];refine(ih (v+1) _ (by omega) (by simp<;>omega) (ho.app (xW.one (yW _ _)))).mono λx hx=>?_;rw[vuT];simpa using hx
  ·have:=of_decide_eq_false h;omega
theorem kE(e:Int)(p1:Tm)(own:Nat)(p3:List Tm)(h1:p1.Ok)(h2:own<=1073741824)(h3:xW p3)(hl:p3.length<=1073741824):zD (λq=>zJo q e p1 (own:Int) p3) (MT e (zUG p1 own p3)):=by simp only[zJo];exact zRx e p1 own p3 h1 h2 h3 hl own 0 [] (by omega) (by simp) xW.nil
theorem aR(p2:List Tm)(h2:xW p2)(hl2:p2.length<=1073741824):∀(r l acc:List Tm)(v:Nat)(e:Int),l.drop v=r->l.length<=1073741824->xW l->xW acc->acc.length<=v->zD (λq=>bB q l p2 (v:Int) acc e) (λx=>xW x.1/\x.1.length=acc.length+r.length/\(e≠8->x.2≠8)/\(x.2=0->e=0/\x.1=acc++zAl p2 r v))
 |[],l,acc,v,e,hd,hl,ho,ha,hv=>by refine zD.succ ?_;simp only[bB];refine zD.ite (λh=>?_) λ_=>zD.ret ⟨ha,by simp,id,λh=>⟨h,by simp[zAl]⟩⟩;rw[zZ hd]at h;cases h|t::r,l,acc,v,e,hd,hl,ho,ha,hv=>by
  have hlt:=yC hd;refine zD.succ ?_;simp only[bB];refine zD.ite (λ_=>?_) λh=>?_
  ·refine zD.pure (zU hd) ((kE e t v p2 (ho.at hd) (by omega) h2 hl2).bind λr4 h4=>?_);refine zD.pure (yA (by simp<;>omega)) ?_;rw[zS v (by omega)];refine(aR p2 h2 hl2 r l _ (v+1) r4.2 (zP hd) hl ho (ha.app (xW.one h4.1)) (by simp<;>omega)).mono λx hx=>?_;obtain⟨a1,a2,a3,a4⟩:=hx;refine⟨a1,by rw[a2];simp<;>omega,λhe=>a3 (h4.2.1 he),λhe=>?_⟩;have k:=a4 he;have k4:=h4.2.2 k.1;refine⟨k4.1,?_⟩;rw[k.2,k4.2,zAl];simp
  ·rw[zX hd]at h;cases h
theorem pB(e:Int)(l p2:List Tm)(h2:xW p2)(hl2:p2.length<=1073741824)(hl:l.length<=1073741824)(ho:xW l):zD (λq=>zGT q e l p2) (λx=>ML e (zAl p2 l 0) x/\x.1.length=l.length):=by simp only[zGT];refine(aR p2 h2 hl2 l l [] 0 e rfl hl ho xW.nil (by simp)).mono λx hx=>?_;obtain⟨a1,a2,a3,a4⟩:=hx;exact⟨⟨a1,a3,λhe=>by simpa using a4 he⟩,by simpa using a2⟩
def zGW(l:List Tm)(t:Tm):Tm:=l.foldr (λa x=>.mk 4 0 [a,x]) t
theorem zRw(l:List Tm)(hl:l.length<=24)(ho:xW l):∀(m v:Nat)(t:Tm),v+m=l.length->t.Ok->zD (λq=>qL q l (v:Int) t.k t.n t.sub) (MT 0 (zGW (l.take m) t)):=by intro m;induction m with
 |zero=>
  intro v t hm ht;refine zD.succ ?_;simp only[qL,vR];refine zD.ite (λh=>?_) λ_=>?_;·have:=of_decide_eq_true h;omega
  ·refine zD.bind (P:=λb=>b=zJ t) ((xI t ht).tot rfl) λr hr=>zD.ite (λh=>?_) λ_=>zD.ret ⟨yW 0 0,by simp,by simp⟩;refine zD.bind (P:=λx=>x=jG t) ((nY t ht).tot rfl) λx hx=>zD.ret ?_;subst hx;have e:jG t=t:=by unfold jG;rw[if_pos (by rw[<-hr];exact h)]
   rw[e];exact⟨ht,by simp,λ_=>⟨rfl,by simp[zGW]⟩⟩|succ m ih=>
  intro v t hm ht;refine zD.succ ?_;simp only[qL,vR];refine zD.ite (λ_=>?_) λh=>?_
  ·have hlt:m<l.length:=by omega
   rw[zR (x:=(l.length:Int)-1) (by omega) (by omega),zR (x:=(l.length:Int)-1-v) (by omega) (by omega)];have hx:zL l ((l.length:Int)-1-v)=some l[m]:=by unfold zL;rw[if_pos (by omega),show((l.length:Int)-1-v).toNat=m by omega,List.getElem?_eq_getElem hlt]
   refine zD.pure hx (zD.bind (P:=λr=>r=Tm.mk 4 0 [l[m],t]) (zB.tot (zB.mk λ_=>rfl) rfl) λr hr=>?_);subst hr;rw[zS v (by omega)];refine(ih (v+1) _ (by omega) (rU (ho _ (List.getElem_mem hlt)) ht)).mono λx hx=>?_;have e:l.take (m+1)=l.take m++[l[m]]:=by rw[List.take_add_one,List.getElem?_eq_getElem hlt];rfl
   rw[e];unfold zGW at hx⊢;rw[List.foldr_append];exact hx
  ·have:=of_decide_eq_false h;omega
theorem zLv(t:Tm)(ht:t.Ok):∀(r l:List Tm)(v:Nat),l.drop v=r->l.length<=24->xW l->zD (λq=>qM q l t (v:Int)) (MT 0 (zGW l t))
 |[],l,v,hd,hl,ho=>by
  refine zD.succ ?_;simp only[qM];refine zD.ite (λh=>?_) λ_=>?_;·rw[zZ hd]at h;cases h
  ·refine zD.bind (P:=λ_=>True) ((xI t ht).tot trivial) λr _=>zD.ite (λ_=>?_) λ_=>zD.ret ⟨yW 0 0,by simp,by simp⟩;have:=zRw l hl ho l.length 0 t (by omega) ht;rwa[List.take_length]at this|x::r,l,v,hd,hl,ho=>by
  have hlt:=yC hd;refine zD.succ ?_;simp only[qM];refine zD.ite (λ_=>?_) λh=>?_
  ·refine zD.pure (zU hd) (zD.bind (P:=λ_=>True) ((xI x (ho.at hd)).tot trivial) λ_ _=>zD.ite (λ_=>?_) λ_=>zD.ret ⟨yW 0 0,by simp,by simp⟩);rw[zS v (by omega)];exact zLv t ht r l (v+1) (zP hd) hl ho
  ·rw[zX hd]at h;cases h
theorem zRv(l:List Tm)(t:Tm)(ho:xW l)(ht:t.Ok):zD (λq=>zUB q l t) (MT 0 (zGW l t)):=by simp only[zUB];refine zD.bind (P:=MT 0 (zGW l t)) ?_ λx hx=>zD.ret hx;simp only[zAo];refine zD.ite (λ_=>zD.ret ⟨yW 0 0,by simp,by simp⟩) λh=>?_;have:=of_decide_eq_false h;exact zLv t ht l l 0 rfl (by omega) ho
def H7(r:tT):Prop:=xW r.around/\xW r.at'/\r.around.length<=1048576/\r.at'.length<=1048576
def yBb(head:Tm)(args outer:List Tm)(r:tT)(a:Tm):Tm:=zGW (zAl outer r.around 0) (.mk 5 0 [kO (kO head (upI r.around.length args)) (r.at'.map λt=>zUG t r.around.length outer),kO (i5 a 0 0 r.around.length) (gY r.around.length)])
theorem zGX(p3:List Tm)(p4:tT)(p5:Tm)(h3:xW p3)(hl3:p3.length<=1073741824)(h4:H7 p4)(h5:p5.Ok):∀(r:List Tm)(v:Nat)(e:Int)(t:Tm),p4.at'.drop v=r->t.Ok->zD (λq=>bD q p3 p4 p5 (v:Int) e t.k t.n t.sub) (MT e (zGW (zAl p3 p4.around 0) (.mk 5 0 [kO t (r.map λt=>zUG t p4.around.length p3),kO (i5 p5 0 0 p4.around.length) (gY p4.around.length)])))
 |[],v,e,t,hd,ht=>by
  refine zD.succ ?_;simp only[bD,vR];refine zD.ite (λh=>?_) λ_=>?_;·rw[zZ hd]at h;cases h
  ·have:=h4.2.2.1;refine(zJk e p5 _ h5).bind λr12 h12=>zD.bind (P:=λx=>x=gY p4.around.length) ((iT _ this).tot rfl) λr14 h14=>?_;subst h14;refine zD.bind (P:=λx=>x=kO r12.1 (gY p4.around.length)) ((vI r12.1 _ (by rw[uE];omega)).tot rfl) λr16 h16=>?_;subst h16;refine zD.bind (P:=λx=>x=Tm.mk 5 0 [t,kO r12.1 (gY p4.around.length)]) ((nL t _).tot rfl) λr18 h18=>?_;subst h18;refine(pB r12.2 p4.around p3 h3 hl3 (by omega) h4.1).bind λr20 h20=>(zRv r20.1 _ h20.1.1 (rU ht (tP _ _ h12.1 (oI _)))).bind λr22 h22=>(X6 r20.2 r22.1 r22.2).bind λr24 h24=>zD.ret ?_;have m:=zJl h22 h24;refine⟨m.1,λhe=>m.2.1 (h20.1.2.1 (h12.2.1 he)),λhe=>?_⟩;have k:=m.2.2 he;have k20:=h20.1.2.2 k.1;have k12:=h12.2.2 k20.1;refine⟨k12.1,?_⟩;rw[k.2,k20.2,k12.2];rfl|x::r,v,e,t,hd,ht=>by
  have hlt:=yC hd;have:=h4.2.2.1;have:=h4.2.2.2;refine zD.succ ?_;simp only[bD,vR];refine zD.ite (λ_=>?_) λh=>?_
  ·refine zD.pure (zU hd) ((kE e x _ p3 (h4.2.1.at hd) (by omega) h3 hl3).bind λr8 h8=>?_);refine zD.bind (P:=λx=>x=Tm.mk 5 0 [t,r8.1]) ((nL t r8.1).tot rfl) λr10 h10=>?_;subst h10;rw[zS v (by omega)];refine(zGX p3 p4 p5 h3 hl3 h4 h5 r (v+1) r8.2 (.mk 5 0 [t,r8.1]) (zP hd) (rU ht h8.1)).mono λy hy=>⟨hy.1,λhe=>hy.2.1 (h8.2.1 he),λhe=>?_⟩;have k:=hy.2.2 he;have k8:=h8.2.2 k.1;refine⟨k8.1,?_⟩;rw[k.2,k8.2,List.map_cons,kO]
  ·rw[zX hd]at h;cases h
theorem zAk(e:Int)(p1:Tm)(p2 p3:List Tm)(p4:tT)(p5:Tm)(h1:p1.Ok)(h2:xW p2)(hl2:p2.length<=1073741824)(h3:xW p3)(hl3:p3.length<=1073741824)(h4:H7 p4)(h5:p5.Ok):zD (λq=>zUC q e p1 p2 p3 p4 p5) (MT e (yBb p1 p2 p3 p4 p5)):=by simp only[zUC];refine(mE e p2 _ hl2 h2).bind λr1 hr1=>?_;refine zD.bind (P:=λx=>x=kO p1 r1.1) ((vI p1 r1.1 (by omega)).tot rfl) λr3 hr3=>?_;subst hr3;refine(zGX p3 p4 p5 h3 hl3 h4 h5 p4.at' 0 r1.2 (kO p1 r1.1) rfl (tP _ _ h1 hr1.1.1)).mono λy hy=>⟨hy.1,λhe=>hy.2.1 (hr1.1.2.1 he),λhe=>?_⟩;have k:=hy.2.2 he;have k1:=hr1.1.2.2 k.1;refine⟨k1.1,?_⟩;rw[k.2,k1.2];rfl
theorem zGY(e:Int)(t:Tm)(h:t.Ok):zD (λq=>zRz q e t) (λx=>x.1.Ok/\(e≠8->x.2.1≠8)/\(x.2.1=0->e=0/\x.1=t/\zJ t=true)):=by
 simp only[zRz];refine zD.ite (λhe=>?_) λhe=>?_
 ·have he':e=0:=by simpa using he
  refine zD.bind (P:=λb=>b=zJ t) ((xI t h).tot rfl) λb hb=>zD.ite (λhs=>?_) λ_=>zD.ret ⟨yW 0 0,by simp,by simp⟩;refine zD.ite (λh2=>absurd he' (by simpa using h2)) λ_=>zD.ret ⟨h,by simp,λ_=>⟨he',rfl,by rw[<-hb];exact hs⟩⟩
 ·have he':e≠0:=by simpa using he
  exact zD.ite (λ_=>zD.ret ⟨yW 0 0,id,λh0=>absurd h0 he'⟩) λh2=>absurd (by simpa using h2) he'
theorem zEp(l:List yF)(n kind:Int):zB (λq=>zJn q l n kind) (gX l n kind):=by
 simp only[zJn];unfold gX;by_cases h:0<=n
 ·refine zB.ifT (decide_eq_true h) ?_;by_cases k:n<l.length;·exact zB.ifT (decide_eq_true k) (zB.pure (yE h k) (zB.ret.eq (by simp[h,k])))
  ·exact zB.ifF (decide_eq_false k) (zB.ret.eq (by simp[k]))
 ·exact zB.ifF (decide_eq_false h) (zB.ret.eq (by simp[h]))
theorem T9:∀(r l:List Tm)(v:Nat),l.drop v=r->l.length<=1073741824->xW l->zB (λq=>bC q l (v:Int)) (r.all zJ)
 |[],l,v,hd,hl,ho=>by refine zB.succ ?_;simp only[bC];exact zB.ifF (zZ hd) zB.ret|x::r,l,v,hd,hl,ho=>by
  have hlt:=yC hd;refine zB.succ ?_;simp only[bC];refine zB.ifT (zX hd) (zB.pure (zU hd) ((xI x (ho.at hd)).bind ?_));by_cases h:zJ x=true
  ·refine zB.ifT h ?_;rw[zS v (by omega)];exact(T9 r l (v+1) (zP hd) hl ho).eq (by simp[h])
  ·exact zB.ifF (by simpa using h) (zB.ret.eq (by simp[h]))
theorem B4(l:List Tm)(hl:l.length<=1073741824)(ho:xW l):zB (λq=>zNm q l) (l.all zJ):=by simp only[zNm];exact T9 l l 0 rfl hl ho
def zJj(c:Nat)(rl:yD)(parts:tC)(b:Int)(a:yI):Option (Tm×Int):=zJn c rl b 4>>=λr1=>if r1 then zL rl b>>=λx4=>zL rl x4.fam>>=λx6=>if(a.length:Int)!=(x6.fields.length:Int)then some ((Tm.mk 0 0 []),5)else zNm c a>>=λr9=>if r9 then zL a x4.place>>=λx12=>some (x12,0)else some ((Tm.mk 0 0 []),5)else some ((Tm.mk 0 0 []),16)
theorem yDZ{c rl parts b a}:Cz (zJj c rl parts b a) 325 [qR rl parts] [.mp 0 0,ai b,zC zA a .no] (λr=>.tup [yL r.1,ai r.2]) (λ_=>[qR rl parts]) 0:=fw func325<|rK 2 [] zUa (λ_=>rH λ_ h5=>rS (oA 2 (xA (o:=.no) h5))<|rA 1 (xA (o:=.no)) λ_=>rB 2 (fE 1)<|rK 0 [] zYb (λ_=>rS (oA 1 (xA (o:=.no) h5))<|rA 1 (yP (o:=.no)) λ_=>fE 2) λ_=>fE 2) λ_=>fE 2
def yBa(a:Nat)(b c:Int):Option (Tm):=V5 a c>>=λr1=>zGy a 7 b [r1]>>=λr3=>some r3
theorem zUH{a b c}:Cz (yBa a b c) 342 [] [ai b,ai c] (λr=>yL r) (λ_=>[]) 0:=fw func342<|rC 0 [] zGw λr1=>rS (oS 0 (yZ xO [r1]))<|rC 0 [] zIO λ_=>fE 1
def iU:Nat->yD->tC->Int->Int->yI->yI->uA->Int->Int->Int->Int->yI->Option (Tm×Int)|0,_,_,_,_,_,_,_,_,_,_,_,_=>none|f+1,rl,parts,g,q,m,p,x12,a,b,c,d,e=>if decide (a<(x12.recs.length:Int))then zL x12.recs a>>=λx29=>if x29.is then zL rl g>>=λx32=>uL m 0 x32.pars>>=λx34=>yR 40 ([]:yI) x34>>=λl36=>uL p 0 a>>=λx39=>yR 40 l36 x39>>=λl41=>yBa f g q>>=λr44=>zL p a>>=λx46=>zUC f b r44 m l41 x29 x46>>=λr48=>gW f (Tm.mk c d e) r48.1>>=λr50=>iU f rl parts g q m p x12 (yB (a+1)) r48.2 r50.k r50.n r50.sub else iU f rl parts g q m p x12 (yB (a+1)) b c d e else zRz f b (Tm.mk c d e)>>=λr52=>some (r52.1,r52.2.1)
def zJi(f:Nat)(rl:yD)(parts:tC)(g q s:Int)(m p:yI):Option (Tm×Int):=zJn f rl g 1>>=λr1=>if r1 then if decide (q<0)then some ((Tm.mk 0 0 []),16)else if decide (q>7)then some ((Tm.mk 0 0 []),16)else zJn f rl s 2>>=λr6=>if r6 then zL rl s>>=λx9=>if x9.fam !=g then some ((Tm.mk 0 0 []),16)else zL parts s>>=λx12=>zL rl g>>=λx14=>if(m.length:Int)!=(yB ((yB (x14.pars+1))+(x14.cons.length:Int)))then some ((Tm.mk 0 0 []),5)else if(p.length:Int)!=(x12.args.length:Int)then some ((Tm.mk 0 0 []),5)else zNm f m>>=λr18=>if r18 then zNm f p>>=λr21=>if r21 then zL m (yB ((yB (x14.pars+1))+x9.place))>>=λx24=>lM f x24 p>>=λr26=>iU f rl parts g q m p x12 0 0 r26.k r26.n r26.sub else some ((Tm.mk 0 0 []),5)else some ((Tm.mk 0 0 []),5)else some ((Tm.mk 0 0 []),16)else some ((Tm.mk 0 0 []),16)
theorem zUI:∀f:Nat,∀rl parts g q m p x12 a b c d e,Lz (iU f rl parts g q m p x12 a b c d e) 1 f326 (pt 16777141 f326) (λj=>sp j 160 0 [(1,ai g),(2,ai q),(4,zC zA m .no),(5,zC zA p .no),(12,.mp 1 0),(14,zC zV rl .no),(16,.mp 2 0),(17,.mp 3 0),(118,zC gU x12.recs .no),(119,ai (x12.recs.length:Int)),(120,ai a)]) ⟨[(0,qR rl parts),(1,.cells [ai 0,ai 0,zC zA ([]:yI) .nl]),(2,.cells [ai b]),(3,.cells [ai c,ai d,zC zA e .no])],4,[],0,[]⟩ (λr=>.tup [yL r.1,ai r.2]) (λ_=>[qR rl parts]) 0 [.blk 0,.seq (pt 262143 f326)]:=yS (λ_ _ _ _ _ _ _ _ _ _ _ _=>lN) λf ih=>λrl parts g q m p x12 a b c d e=>lw λ_=>rB 0 (rA 0 (zWP (o:=.no)) λ_=>rB 2 (rA 1 (xA (o:=.no)) λ_=>rA 1 sZ λx34=>rH λ_ h37=>rZ (List.length x34=0) (λh38=>rS (oP 0 (rG h37 h38))<|rA 0 sZ λx39=>rH λ_ h42=>rZ (List.length x39=0) (λh43=>rS (oP 0 (rG h42 h43))<|rC 1 [] zUH λ_=>rA 1 (yP (o:=.no)) λ_=>rC 1 [2] zUE λ_=>rC 0 [] lL λ_=>lH 2 [] [0,1,2,3] [] [1,2,4,5,12,14,16,17,118,119,120] (ih _ _ _ _ _ _ _ _ _ _ _ _)) λh43=>rS (oP 0 (xY h42 h43))<|rC 1 [] zUH λ_=>rA 1 (yP (o:=.no)) λ_=>rC 1 [2] zUE λ_=>rC 0 [] lL λ_=>lH 2 [] [0,1,2,3] [] [1,2,4,5,12,14,16,17,118,119,120] (ih _ _ _ _ _ _ _ _ _ _ _ _)) λh38=>rS (oP 0 (xY h37 h38))<|rA 0 sZ λx39=>rH λ_ h42=>rZ (List.length x39=0) (λh43=>rS (oP 0 (rG h42 h43))<|rC 1 [] zUH λ_=>rA 1 (yP (o:=.no)) λ_=>rC 1 [2] zUE λ_=>rC 0 [] lL λ_=>lH 2 [] [0,1,2,3] [] [1,2,4,5,12,14,16,17,118,119,120] (ih _ _ _ _ _ _ _ _ _ _ _ _)) λh43=>rS (oP 0 (xY h42 h43))<|rC 1 [] zUH λ_=>rA 1 (yP (o:=.no)) λ_=>rC 1 [2] zUE λ_=>rC 0 [] lL λ_=>lH 2 [] [0,1,2,3] [] [1,2,4,5,12,14,16,17,118,119,120] (ih _ _ _ _ _ _ _ _ _ _ _ _))<|lH 1 [] [0,1,2,3] [] [1,2,4,5,12,14,16,17,118,119,120] (ih _ _ _ _ _ _ _ _ _ _ _ _))<|rC 1 [2] zYc λ_=>lE 3
theorem yEz{f rl parts g q s m p}:Cz (zJi f rl parts g q s m p) 326 [qR rl parts] [.mp 0 0,ai g,ai q,ai s,zC zA m .no,zC zA p .no] (λr=>.tup [yL r.1,ai r.2]) (λ_=>[qR rl parts]) 0:=fw func326<|rK 2 [] zUa (λ_=>rB 1 (fE 1)<|rB 0 (fE 1)<|rK 0 [] zUa (λ_=>rH λ_ h10=>rS (oA 1 (xA (o:=.no) h10))<|rB 1 (fE 1)<|rA 1 (yAD (o:=.no)) λ_=>rH λ_ h15=>rS (oA 3 (xA (o:=.no) h15))<|rS (oA 2 (xA (o:=.no) h15))<|rB 3 (fE 1)<|rB 3 (fE 1)<|rK 0 [] zYb (λ_=>rK 1 [] zYb (λ_=>rS (oA 1 (xA (o:=.no) h15))<|rS (oA 2 (xA (o:=.no) h10))<|rA 2 (yP (o:=.no)) λ_=>rC 1 [] nX λ_=>fH 3 [] [0,1,3,4] [] [1,2,4,5,12,14,16,17,118,119,120] (zUI _ _ _ _ _ _ _ _ _ _ _ _ _)) λ_=>fE 2) λ_=>fE 2) λ_=>fE 2) λ_=>fE 2
theorem zUJ(l:List yF)(i:Int)(h0:0<=i)(h1:i<l.length)(hk:(zN l i).kind=2):zL (nM l l.length 0) i=some (vW l i):=by unfold zL;rw[if_pos h0,zLw l l.length 0 i.toNat (by omega),show((0+i.toNat:Nat):Int)=i by omega,if_pos hk]
theorem zYC(l:List yF)(t:Tm)(of b:Int):H7 (zQU l t of b):=by
 unfold zQU;split
 ·rename_i h;have hw:=tL (t:=t) (l:=(yX t).1) (y:=(yX t).2.1) (by rw[<-h.1]);have hs:=zO hw.2.2.2.2.1;have hal:=rT _ hs.2.2;refine⟨λx hx=>yJ (hw.2.2.2.2.2 x hx),λx hx=>yJ (xX hw.2.2.2.2.1 (List.mem_of_mem_drop hx)),?_,?_⟩;·show(yX t).1.length<=_;omega
  ·show((xH (yX t).2.1).drop _).length<=_;rw[List.length_drop];omega
 ·exact⟨xW.nil,xW.nil,by simp,by simp⟩
theorem zEo(l:List yF)(of:Int):∀(r:List Tm)(b:Int),∀x∈T7 l of r b,H7 x
 |[],_,x,h=>nomatch h|a::r,b,x,h=>by
  rcases List.mem_cons.1 h with h|h;·rw[h];exact zYC l a of b
  ·exact zEo l of r (b+1) x h
def zEn(l:List yF)(i:Int)(a:List Tm)(x:Tm×Int):Prop:=x.1.Ok/\x.2≠8/\(x.2=0->(a.length:Int)=(zN l (zN l i).fam).fields.length/\0<=(zN l i).place/\(zN l i).place<a.length/\x.1=tD a (zN l i).place)
theorem zNl{N:ByteArray->Bool}(l:List yF)(parts:List uA)(i:Int)(a:List Tm)(hE:vN N l)(ho:xW a)(hl:a.length<=1073741824):zD (λq=>zJj q l parts i a) (zEn l i a):=by
 simp only[zJj];have bad:∀e:Int,e≠8->e≠0->zEn l i a (.mk 0 0 [],e):=λe h8 h0=>⟨yW 0 0,h8,λh=>absurd h h0⟩;refine zD.bind (P:=λb=>b=gX l i 4) ((zEp l i 4).tot rfl) λb hb=>zD.ite (λhT=>?_) λ_=>zD.ret (bad _ (by decide) (by decide));rw[hT]at hb;have hi:=wG hb.symm;have hp:=(xS (hE.2 i hi.1 hi.2.1)).2.2.2.1 hi.2.2;unfold lC at hp;simp only[Bool.and_eq_true]at hp;have hw:=sC hp.1;have h6:=hw.2.2.2.2.2;unfold H3 at h6;rw[if_pos hi.2.2]at h6;refine zD.pure (yE hi.1 hi.2.1) (zD.pure (yE hw.1 (by omega)) (zD.ite (λ_=>zD.ret (bad _ (by decide) (by decide))) λhn=>?_));have hn':(a.length:Int)=(zN l (zN l i).fam).fields.length:=by simpa using hn
 refine zD.bind (P:=λ_=>True) ((B4 a hl ho).tot trivial) λ_ _=>zD.ite (λ_=>?_) λ_=>zD.ret (bad _ (by decide) (by decide));have h7:(zN l i).place<a.length:=by omega
 have hx:=uR (l:=a) hw.2.2.2.2.1 h7;exact zD.pure hx (zD.ret ⟨ho _ (pA hw.2.2.2.2.1 h7),by simp,λ_=>⟨hn',hw.2.2.2.2.1,h7,rfl⟩⟩)
def zAj(d lev:Int)(args own:List Tm)(pars:Nat):List tT->Nat->Tm->Tm|[],_,t=>t|r::rs,v,t=>zAj d lev args own pars rs (v+1) (if r.is=true then .mk 5 0 [t,yBb (.mk 7 d [.mk 2 lev []]) args (args.take pars++own.take v) r (tD own v)]else t)
def yBA(l:List yF)(d lev c:Int)(args own:List Tm):Tm:=zAj d lev args own (zN l d).pars.toNat (vW l c).recs 0 (kO (tD args ((zN l d).pars+1+(zN l c).place)) own)
theorem zNk{N:ByteArray->Bool}(l:List yF)(parts:List uA)(i p2:Int)(p4 p5:List Tm)(x:uA)(hE:vN N l)(h0:0<=i)(h1:i<l.length)(hk:(zN l i).kind=1)(hp:(zN l i).pars<=p4.length)(hl4:p4.length<=65535)(h5:p5.length=x.recs.length)(hl5:p5.length<=65535)(ho4:xW p4)(ho5:xW p5)(hx:∀r∈x.recs,H7 r):∀(r:List tT)(v:Nat)(e:Int)(t:Tm),x.recs.drop v=r->t.Ok->zD (λq=>iU q l parts i p2 p4 p5 x (v:Int) e t.k t.n t.sub) (λy=>y.1.Ok/\(e≠8->y.2≠8)/\(y.2=0->e=0/\y.1=zAj i p2 p4 p5 (zN l i).pars.toNat r v t/\zJ y.1=true)):=by have hf:=wP ((xS (hE.2 i h0 h1)).2.1 hk);intro r;induction r with
 |nil=>
  intro v e t hd ht;refine zD.succ ?_;simp only[iU,vR];refine zD.ite (λh=>?_) λ_=>(zGY e t ht).bind λr h=>zD.ret ⟨h.1,h.2.1,λh0=>?_⟩;·rw[zZ hd]at h;cases h
  ·have k:=h.2.2 h0;exact⟨k.1,k.2.1,by show zJ r.1=true;rw[k.2.1];exact k.2.2⟩|cons z r ih=>
  intro v e t hd ht;have hlt:=yC hd;have hz:z∈x.recs:=by
   have:z∈x.recs.drop v:=by rw[hd];simp
   exact List.mem_of_mem_drop this
  refine zD.succ ?_;simp only[iU,vR];refine zD.ite (λ_=>?_) λh=>?_
  ·refine zD.pure (zU hd) (zD.ite (λhzi=>?_) λhzi=>?_)
   ·refine zD.pure (yE h0 h1) (zD.pure (bE (by omega) (by omega) hp) (zD.pure (yA (by simp<;>omega)) (zD.pure (bE (by omega) (by omega) (by omega)) (zD.pure (yA (by simp<;>omega)) ?_))));refine zD.bind (P:=λy=>y=Tm.mk 7 i [Tm.mk 2 p2 []]) (zB.tot (r:=Tm.mk 7 i [Tm.mk 2 p2 []]) (zB.mk λ_=>rfl) rfl) λr44 h44=>?_;subst h44;have hnv:(v:Int)<p5.length:=by omega
    refine zD.pure (uR (l:=p5) (n:=(v:Int)) (by omega) hnv) ?_;refine(zAk e (.mk 7 i [.mk 2 p2 []]) p4 _ z (tD p5 v) (zYa (yW _ _)) ho4 (by omega) ?_ ?_ (hx z hz) (ho5 _ (pA (by omega) hnv))).bind λr48 h48=>?_;·exact(xW.nil.app ((ho4.drop _).take _)).app ((ho5.drop _).take _)
    ·simp only[List.length_append,List.length_take,List.length_drop,List.length_nil];omega
    refine zD.bind (P:=λy=>y=Tm.mk 5 0 [t,r48.1]) ((nL t r48.1).tot rfl) λr50 h50=>?_;subst h50;rw[zS v (by omega)];refine(ih (v+1) r48.2 (.mk 5 0 [t,r48.1]) (zP hd) (rU ht h48.1)).mono λy hy=>⟨hy.1,λhe=>hy.2.1 (h48.2.1 he),λhe=>?_⟩;have k:=hy.2.2 he;have k4:=h48.2.2 k.1;refine⟨k4.1,?_,k.2.2⟩;rw[k.2.1,k4.2,zAj,if_pos hzi];simp
   ·rw[zS v (by omega)];refine(ih (v+1) e t (zP hd) ht).mono λy hy=>⟨hy.1,hy.2.1,λhe=>?_⟩;have k:=hy.2.2 he;refine⟨k.1,?_,k.2.2⟩;rw[k.2.1,zAj,if_neg (by simpa using hzi)]
  ·rw[zX hd]at h;cases h
def zJh(l:List yF)(d lev c:Int)(args own:List Tm)(x:Tm×Int):Prop:=x.1.Ok/\x.2≠8/\(x.2=0->(0<=lev/\lev<=7)/\gX l d 1=true/\gX l c 2=true/\(zN l c).fam=d/\(args.length:Int)=(zN l d).pars+1+(zN l d).cons.length/\own.length=(vW l c).args.length/\args.all zJ=true/\own.all zJ=true/\x.1=yBA l d lev c args own/\zJ x.1=true)
theorem zRu{N:ByteArray->Bool}(l:List yF)(i p2 c:Int)(p4 p5:List Tm)(hE:vN N l)(ho4:xW p4)(ho5:xW p5)(hl4:p4.length<=65535)(hl5:p5.length<=65535):zD (λq=>zJi q l (nM l l.length 0) i p2 c p4 p5) (zJh l i p2 c p4 p5):=by
 have bad:∀e:Int,e≠8->e≠0->zJh l i p2 c p4 p5 (.mk 0 0 [],e):=λe h8 h0=>⟨yW 0 0,h8,λh=>absurd h h0⟩;simp only[zJi];refine zD.bind (P:=λb=>b=gX l i 1) ((zEp l i 1).tot rfl) λb hb=>zD.ite (λhT=>?_) λ_=>zD.ret (bad _ (by decide) (by decide));rw[hT]at hb;have hi:=wG hb.symm;refine zD.ite (λ_=>zD.ret (bad _ (by decide) (by decide))) λhv0=>zD.ite (λ_=>zD.ret (bad _ (by decide) (by decide))) λhv1=>?_;have hv0':=of_decide_eq_false hv0;have hv1':=of_decide_eq_false hv1;refine zD.bind (P:=λb=>b=gX l c 2) ((zEp l c 2).tot rfl) λb2 hb2=>zD.ite (λhT=>?_) λ_=>zD.ret (bad _ (by decide) (by decide));rw[hT]at hb2;have hc:=wG hb2.symm;have hf:=wP ((xS (hE.2 i hi.1 hi.2.1)).2.1 hi.2.2);obtain⟨A,y,hw,hy,hA,hAp,hA24,p0,p1,f0,f1,fk,fp,fi,fs,hap,q0,q1⟩:=sR hE hc.1 hc.2.1 hc.2.2;refine zD.pure (yE hc.1 hc.2.1) (zD.ite (λ_=>zD.ret (bad _ (by decide) (by decide))) λhn=>?_);have hfam:(zN l c).fam=i:=by simpa using hn
 refine zD.pure (zUJ l c hc.1 hc.2.1 hc.2.2) (zD.pure (yE hi.1 hi.2.1) ?_);rw[hfam]at fp q1 fi fs;rw[zR (x:=(zN l i).pars+1) (by omega) (by omega),zR (x:=(zN l i).pars+1+(zN l i).cons.length) (by omega) (by omega),zR (x:=(zN l i).pars+1+(zN l c).place) (by omega) (by omega)];refine zD.ite (λ_=>zD.ret (bad _ (by decide) (by decide))) λhn4=>zD.ite (λ_=>zD.ret (bad _ (by decide) (by decide))) λhn5=>?_;have hn4':(p4.length:Int)=(zN l i).pars+1+(zN l i).cons.length:=by simpa using hn4
 have hn5':(p5.length:Int)=(vW l c).args.length:=by simpa using hn5
 refine zD.bind (P:=λb=>b=p4.all zJ) ((B4 p4 (by omega) ho4).tot rfl) λb4 hb4=>zD.ite (λhs4=>?_) λ_=>zD.ret (bad _ (by decide) (by decide));refine zD.bind (P:=λb=>b=p5.all zJ) ((B4 p5 (by omega) ho5).tot rfl) λb5 hb5=>zD.ite (λhs5=>?_) λ_=>zD.ret (bad _ (by decide) (by decide));have h7:(zN l i).pars+1+(zN l c).place<p4.length:=by omega
 refine zD.pure (uR (l:=p4) (by omega) h7) (zD.bind (P:=λz=>z=kO (tD p4 ((zN l i).pars+1+(zN l c).place)) p5) ((vI _ p5 (by omega)).tot rfl) λr26 h26=>?_);subst h26;have hlen:(vW l c).recs.length=(vW l c).args.length:=by unfold vW;exact O1 l _ _ _
 refine(zNk l _ i p2 p4 p5 (vW l c) hE hi.1 hi.2.1 hi.2.2 (by omega) hl4 (by omega) hl5 ho4 ho5 (by unfold vW;exact zEo l _ _ _) _ 0 0 _ rfl (tP _ _ (ho4 _ (pA (by omega) h7)) ho5)).mono λx hx=>⟨hx.1,hx.2.1 (by decide),λh0=>?_⟩;have k:=hx.2.2 h0;exact⟨⟨by omega,by omega⟩,hb.symm,hb2.symm,hfam,hn4',by omega,by rw[<-hb4];exact hs4,by rw[<-hb5];exact hs5,k.2.1,k.2.2⟩
section
variable{P:Int->Int->Prop}
theorem zUK{Q:Tm->Prop}{l:List Tm}{n:Int}(h:∀a∈l,Q a)(hz:Q zT):Q (tD l n):=by unfold tD;cases e:l[n.toNat]? with|none=>exact hz|some x=>exact h x (List.mem_of_getElem? e)
end
def zAi(d:Nat)(a c b:Int):Option (Int×Int):=some ((yB (a+b)),(yB (a+b)))
theorem zRt{d a c b}:Cz (zAi d a c b) 322 [.cells [ai a,ai c]] [.mp 0 0,ai b] (λr=>ai r.1) (λr=>[.cells [ai r.2,ai c]]) 0:=fw func322<|fE 1
def zAh(d:Nat)(c a b:Int):Option (Int×Int):=some ((yB (a+b)),(yB (a+b)))
theorem zRs{d c a b}:Cz (zAh d c a b) 322 [.cells [ai c,ai a]] [.mp 0 1,ai b] (λr=>ai r.1) (λr=>[.cells [ai c,ai r.2]]) 0:=fw func322<|fE 1
def zEm(c:Nat)(a b:Int):Option (Int):=some a
theorem zUL{c a b}:Cz (zEm c a b) 72 [.cells [ai a,ai b]] [.mp 0 0] (λr=>ai r) (λ_=>[.cells [ai a,ai b]]) 0:=fw func72<|fE 1
def zYD(d:Nat)(b a c:Int):Option (Int×Int×Int):=if decide (c<0)then some (8,b,a)else zEm d b a>>=λr2=>if decide (c>r2)then some (8,b,a)else zAi d b a (yB (0-c))>>=λr5=>zAh d r5.2 a c>>=λr7=>some (0,r5.2,r7.2)
theorem yEy{d b a c}:Cz (zYD d b a c) 305 [.cells [ai b,ai a]] [.mp 0 0,ai c] (λr=>ai r.1) (λr=>[.cells [ai r.2.1,ai r.2.2]]) 0:=fw func305<|rB 1 (fE 0)<|rC 0 [0] zUL λ_=>rB 0 (fE 0)<|rC 1 [0] zRt λ_=>rC 0 [0] zRs λ_=>fE 0
def H8(c:Nat)(a b:Int):Option (Int×Int×Int):=zYD c a b 1>>=λr1=>some (r1.1,r1.2.1,r1.2.2)
theorem zGZ{c a b}:Cz (H8 c a b) 268 [.cells [ai a,ai b]] [.mp 0 0] (λr=>ai r.1) (λr=>[.cells [ai r.2.1,ai r.2.2]]) 0:=fw func268<|rC 0 [0] yEy λ_=>fE 0
def zHz(b:Nat)(M:xT)(a:Tm):Option (Int):=if a.k !=6 then some 0 else if decide (a.n>=(M.l.length:Int))then some 0 else zL M.l a.n>>=λx3=>some x3.kind
theorem zRr{b M a}:Cz (zHz b M a) 308 [mB M 1,mR M] [.mp 0 0,yL a] (λr=>ai r) (λ_=>[mB M 1,mR M]) 0:=fw func308<|rB 1 (fE 0)<|rB 3 (fE 0)<|rA 2 (xA (o:=.no)) λ_=>fE 1
def zNj(a:Nat)(M:xT)(b:Tm):Option (Int×yI×Bool):=jF a b>>=λr1=>zHz a M r1.1>>=λr3=>if r3 !=2 then some (0,[],false)else zL M.own r1.1.n>>=λx6=>if(r1.2.length:Int)!=x6 then some (0,[],false)else some (r1.1.n,r1.2,true)
theorem zYE{a M b}:Cz (zNj a M b) 295 [mB M 1,mR M] [.mp 0 0,yL b] (λr=>.tup [ai r.1,.sl (zH zA r.2.1) r.2.1.length .no,ab r.2.2]) (λ_=>[mB M 1,mR M]) 0:=fw func295<|rC 1 [] V4 λ_=>rC 4 [0,1] zRr λ_=>rB 0 (fE 0)<|rA 3 (vQ (o:=.no)) λ_=>rB 1 (fE 0)<|fE 1
def W1(b:Nat)(a:Tm):Option (Tm×Int):=rJ b a>>=λr1=>if r1 then some (a,0)else some ((Tm.mk 0 0 []),2)
theorem zJg{b a}:Cz (W1 b a) 311 [] [yL a] (λr=>.tup [yL r.1,ai r.2]) (λ_=>[]) 0:=fw func311<|rK 1 [] qQ (λ_=>fE 3) λ_=>fE 2
def zWZ{ρ:Type}(f:Int->Int->Nat->Option ρ)(er:ρ->Int)(R:Int->Int->ρ)(k:Int):Prop:=(∀L U,k<=L->0<=U->L+U<=1099511627776->zB (f L U) (R (L-k) (U+k)))/\(∀L U,0<=L->L<k->0<=U->L+U<=1099511627776->∃r,zB (f L U) r/\er r=8)
def zYF{ρ:Type}(f:Int->Int->Nat->Option ρ)(er:ρ->Int)(l:Int):Prop:=∀U,0<=U->l+U<=1099511627776->∃r,zB (f l U) r/\er r=8
def Ou{ρ:Type}(f:Int->Int->Nat->Option ρ)(er:ρ->Int)(Q:(Int->Int->ρ)->Int->Prop)(S:Prop)(l:Int):Prop:=(∃R k,0<=k/\k<=l/\Q R k/\zWZ f er R k)\/(zYF f er l/\S)
section
variable{ρ σ τ:Type}{er:ρ->Int}{er':σ->Int}{Q:(Int->Int->ρ)->Int->Prop}{Q':(Int->Int->σ)->Int->Prop}{S S':Prop}{l:Int}
theorem Ou.imp{f g:Int->Int->Nat->Option ρ}(h:Ou f er Q S l)(k:∀L U r,zB (f L U) r->zB (g L U) r):Ou g er Q S l:=by
 rcases h with⟨R,n,h0,h1,h2,h3,h4⟩|⟨h,s⟩;·exact .inl ⟨R,n,h0,h1,h2,λL U a b c=>k _ _ _ (h3 L U a b c),λL U a b c d=>by obtain⟨r,x,y⟩:=h4 L U a b c d;exact⟨r,k _ _ _ x,y⟩⟩
 ·exact .inr ⟨λU a b=>by obtain⟨r,x,y⟩:=h U a b;exact⟨r,k _ _ _ x,y⟩,s⟩
theorem Ou.mono{f:Int->Int->Nat->Option ρ}{Q2:(Int->Int->ρ)->Int->Prop}(h:Ou f er Q S l)(k:∀R n,0<=n->n<=l->Q R n->Q2 R n)(hs:S->S'):Ou f er Q2 S' l:=by
 rcases h with⟨R,n,h0,h1,h2,h3⟩|⟨h,s⟩;·exact .inl ⟨R,n,h0,h1,k R n h0 h1 h2,h3⟩
 ·exact .inr ⟨h,hs s⟩
theorem Ou.succ{f:Int->Int->Nat->Option ρ}(h:Ou (λL U q=>f L U (q+1)) er Q S l):Ou f er Q S l:=h.imp λ_ _ _ h=>h.succ
theorem Ou.pure{x:Option τ}{a:τ}{c:Int->Int->Nat->τ->Option ρ}(h:x=some a)(g:Ou (λL U q=>c L U q a) er Q S l):Ou (λL U q=>x>>=c L U q) er Q S l:=g.imp λ_ _ _ k=>zB.pure h k
theorem Ou.evt{x:Nat->Option τ}{a:τ}{c:Int->Int->Nat->τ->Option ρ}(h:zB x a)(g:Ou (λL U q=>c L U q a) er Q S l):Ou (λL U q=>x q>>=c L U q) er Q S l:=g.imp λ_ _ _ k=>zB.bind h k
theorem Ou.tot{x:Nat->Option τ}{P:τ->Prop}{c:Int->Int->Nat->τ->Option ρ}(h:zD x P)(g:∀a,P a->Ou (λL U q=>c L U q a) er Q S l):Ou (λL U q=>x q>>=c L U q) er Q S l:=by obtain⟨a,h,p⟩:=h;exact(g a p).evt h
theorem Ou.ite{b:Bool}{f g:Int->Int->Nat->Option ρ}(h:b=true->Ou f er Q S l)(k:b=false->Ou g er Q S l):Ou (λL U q=>if b=true then f L U q else g L U q) er Q S l:=by cases b with|true=>exact(h rfl).imp λ_ _ _ x=>zB.ifT rfl x|false=>exact(k rfl).imp λ_ _ _ x=>zB.ifF rfl x
theorem Ou.ifT{b:Bool}{f g:Int->Int->Nat->Option ρ}(h:b=true)(k:Ou f er Q S l):Ou (λL U q=>if b=true then f L U q else g L U q) er Q S l:=Ou.ite (λ_=>k) λh'=>by rw[h]at h';cases h'
theorem Ou.ifF{b:Bool}{f g:Int->Int->Nat->Option ρ}(h:b=false)(k:Ou g er Q S l):Ou (λL U q=>if b=true then f L U q else g L U q) er Q S l:=Ou.ite (λh'=>by rw[h]at h';cases h') λ_=>k
theorem Ou.ret{R:Int->Int->ρ}(h:0<=l)(k:Q R 0):Ou (λL U _=>some (R L U)) er Q S l:=.inl ⟨R,0,by omega,h,k,λL U _ _ _=>by rw[show L-0=L by omega,show U+0=U by omega];exact zB.ret,λL U _ _=>by omega⟩
theorem Ou.bind{f:Int->Int->Nat->Option ρ}{c:Nat->ρ->Option σ}(h:Ou f er Q S l)(hs:S->S')(he:∀r,er r=8->∃r',zB (λq=>c q r) r'/\er' r'=8)(hg:∀R k,0<=k->k<=l->Q R k->Ou (λL U q=>c q (R L U)) er' (λR' n=>Q' R' (k+n)) S' (l-k)):Ou (λL U q=>f L U q>>=c q) er' Q' S' l:=by
 rcases h with⟨R,k,h0,h1,h2,h3,h4⟩|⟨h,s⟩
 ·rcases hg R k h0 h1 h2 with⟨R',n,g0,g1,g2,g3,g4⟩|⟨g,s⟩
  ·refine .inl ⟨R',k+n,by omega,by omega,g2,λL U a b c=>?_,λL U a b c d=>?_⟩
   ·have:=g3 (L-k) (U+k) (by omega) (by omega) (by omega);rw[show L-(k+n)=L-k-n by omega,show U+(k+n)=U+k+n by omega];exact(h3 L U (by omega) b c).bind this
   ·by_cases e:L<k
    ·obtain⟨r,x,y⟩:=h4 L U a e c d;obtain⟨r',x',y'⟩:=he r y;exact⟨r',x.bind x',y'⟩
    ·obtain⟨r',x',y'⟩:=g4 (L-k) (U+k) (by omega) (by omega) (by omega) (by omega);exact⟨r',(h3 L U (by omega) c d).bind x',y'⟩
  ·refine .inr ⟨λU a b=>?_,s⟩;obtain⟨r',x',y'⟩:=g (U+k) (by omega) (by omega);exact⟨r',(h3 l U h1 a b).bind x',y'⟩
 ·refine .inr ⟨λU a b=>?_,hs s⟩;obtain⟨r,x,y⟩:=h U a b;obtain⟨r',x',y'⟩:=he r y;exact⟨r',x.bind x',y'⟩
end
theorem zAg(L U:Int)(h0:0<=L)(h1:0<=U)(h2:L+U<=1099511627776):zB (λq=>H8 q L U) (if 1<=L then(0,L-1,U+1)else(8,L,U)):=by
 simp only[H8,zYD,zEm,zAi,zAh];refine zB.bind (a:=if 1<=L then(0,L-1,U+1)else(8,L,U)) ?_ zB.ret;refine zB.ifF (by decide) (zB.pure rfl ?_);by_cases h:1<=L
 ·rw[if_pos h];refine zB.ifF (decide_eq_false (by omega)) (zB.pure rfl (zB.pure rfl (zB.ret.eq ?_)));have e:yB (0-1)=-1:=by decide
  rw[e,zR (x:=U+1) (by omega) (by omega)];show((0:Int),yB (L+-1),U+1)=_;rw[zR (by omega) (by omega)];rfl
 ·rw[if_neg h];exact zB.ifT (decide_eq_true (by omega)) zB.ret
theorem zLu(l:Int)(h:0<=l):Ou (λL U q=>H8 q L U) (λr=>r.1) (λR k=>k=1/\R=λL U=>(0,L,U)) (l<1) l:=by
 by_cases h1:1<=l;·refine .inl ⟨λL U=>(0,L,U),1,by omega,h1,⟨rfl,rfl⟩,λL U a b c=>(zAg L U (by omega) b c).eq (if_pos a),λL U a b c d=>⟨_,zAg L U a c d,?_⟩⟩;rw[if_neg (by omega)]
 ·refine .inr ⟨λU a b=>⟨_,zAg l U h a b,?_⟩,by omega⟩;rw[if_neg h1]
def pI(l:List yF)(t:Tm):Int:=if t.k=6 then(if t.n<l.length then(zN l t.n).kind else 0)else 0
theorem eJ(l:List yF)(t:Tm)(h:0<=t.n):zB (λq=>zHz q (xQ l) t) (pI l t):=by
 simp only[zHz,xQ];unfold pI;by_cases k:t.k=6
 ·rw[if_pos k];refine zB.ifF (by simp[k]) ?_;by_cases n:t.n<l.length;·rw[if_pos n];exact zB.ifF (decide_eq_false (by omega)) (zB.pure (yE h n) zB.ret)
  ·rw[if_neg n];exact zB.ifT (decide_eq_true (by omega)) zB.ret
 ·rw[if_neg k];exact zB.ifT (by simp[k]) zB.ret
theorem sF{l:List yF}{t:Tm}{k:Int}(h:pI l t=k)(hk:k≠0):t.k=6/\t.n<l.length/\(zN l t.n).kind=k:=by
 unfold pI at h;split at h
 ·rename_i a;split at h;·rename_i b;exact⟨a,b,h⟩
  ·exact absurd h.symm hk
 ·exact absurd h.symm hk
def zJf(t:Tm):Tm×Int:=if zJ t=true then(t,0)else(zT,2)
theorem zJe(t:Tm)(ho:t.Ok):zB (λq=>W1 q t) (zJf t):=by
 simp only[W1];refine(xI t ho).bind ?_;unfold zJf;by_cases h:zJ t=true;·rw[if_pos h,if_pos h];exact zB.ret
 ·rw[if_neg h,if_neg h];exact zB.ret
theorem B5{t:Tm}(h:xF t=true):0<=t.n:=by obtain⟨k,n,l⟩:=t;exact(mU (wO h).1).1
theorem zUM{l:List yF}{i:Int}(h0:0<=i)(h1:i<l.length):zL (xQ l).own i=some (uT (zN l i)):=by have h:=yE (l:=l) h0 h1;unfold zL at h⊢;rw[if_pos h0]at h⊢;show(l.map uT)[i.toNat]?=_;rw[List.getElem?_map,h];rfl
theorem zRq{l:List yF}{i:Int}(h0:0<=i)(h1:i<l.length):zL (xQ l).args i=some (xV (zN l i)):=by have h:=yE (l:=l) h0 h1;unfold zL at h⊢;rw[if_pos h0]at h⊢;show(l.map xV)[i.toNat]?=_;rw[List.getElem?_map,h];rfl
def eK(l:List yF)(t:Tm):Prop:=pI l (yQ t)=2/\(xH t).length=wJ (zN l (yQ t).n).type
instance(l:List yF)(t:Tm):Decidable (eK l t):=inferInstanceAs(Decidable (_/\_))
def zEl(l:List yF)(t:Tm):Int×List Tm×Bool:=if eK l t then((yQ t).n,xH t,true)else(0,[],false)
theorem zEk(l:List yF)(t:Tm)(hs:zJ t=true):zB (λq=>zNj q (xQ l) t) (zEl l t):=by
 simp only[zNj];have hn:=B5 (zO (qH hs)).2.2;refine(qX t hs).bind ((eJ l _ hn).bind ?_);by_cases h:pI l (yQ t)=2
 ·have hk:=sF h (by decide);refine zB.ifF (by simp[h]) (zB.pure (zUM hn hk.2.1) ?_);have e:uT (zN l (yQ t).n)=wJ (zN l (yQ t).n).type:=by unfold uT;rw[if_pos hk.2.2]
  by_cases h2:(xH t).length=wJ (zN l (yQ t).n).type
  ·have c:zEl l t=((yQ t).n,xH t,true):=if_pos ⟨h,h2⟩;rw[c];exact zB.ifF (by rw[e];simp[h2]) zB.ret
  ·have c:zEl l t=(0,[],false):=if_neg (λh'=>h2 h'.2);rw[c];exact zB.ifT (by rw[e];simp;omega) zB.ret
 ·have c:zEl l t=(0,[],false):=if_neg (λh'=>h h'.1);rw[c];exact zB.ifT (by simp[h]) zB.ret
theorem rV{l:List yF}{t:Tm}(hs:zJ t=true)(h:eK l t):0<=(yQ t).n/\(yQ t).n<l.length/\(zN l (yQ t).n).kind=2/\(xH t).length=wJ (zN l (yQ t).n).type:=by have hk:=sF h.1 (by decide);exact⟨B5 (zO (qH hs)).2.2,hk.2.1,hk.2.2,h.2⟩
mutual def zHy:Nat->xT->Tm->Int->Int->Option (Tm×Int×Int×Int)|0,_,_,_,_=>none|b+1,M,a,c,d=>H9 b M c d a.k a.n a.sub def H9:Nat->xT->Int->Int->Int->Int->yI->Option (Tm×Int×Int×Int)
 |0,_,_,_,_,_,_=>none|b+1,M,m,p,e,f,g=>zUN b M (Tm.mk e f g) m p>>=λr1=>if r1.2.1 then if r1.2.2.1 !=0 then some ((Tm.mk 0 0 []),r1.2.2.1,r1.2.2.2.1,r1.2.2.2.2)else H9 b M r1.2.2.2.1 r1.2.2.2.2 r1.1.k r1.1.n r1.1.sub else if r1.2.2.1 !=0 then some ((Tm.mk 0 0 []),r1.2.2.1,r1.2.2.2.1,r1.2.2.2.2)else some ((Tm.mk e f g),0,r1.2.2.2.1,r1.2.2.2.2)def zUN:Nat->xT->Tm->Int->Int->Option (Tm×Bool×Int×Int×Int)
 |0,_,_,_,_=>none|b+1,M,a,c,d=>jF b a>>=λr1=>if r1.1.k==4 then if decide ((r1.2.length:Int)>0)then zL r1.1.sub 1>>=λx5=>zL r1.2 0>>=λx7=>zPY b x5 x7>>=λr9=>uL r1.2 1 (r1.2.length:Int)>>=λx11=>lM b r9.1 x11>>=λr13=>if r9.2 !=0 then some (a,false,r9.2,c,d)else H8 b c d>>=λr16=>if r16.1 !=0 then some (a,false,r16.1,r16.2.1,r16.2.2)else W1 b r13>>=λr19=>some (r19.1,true,r19.2,r16.2.1,r16.2.2)else zHz b M r1.1>>=λr21=>if r21==3 then zL M.l r1.1.n>>=λx24=>lM b x24.body r1.2>>=λr26=>H8 b c d>>=λr28=>if r28.1 !=0 then some (a,false,r28.1,r28.2.1,r28.2.2)else W1 b r26>>=λr31=>some (r31.1,true,r31.2,r28.2.1,r28.2.2)else zHz b M r1.1>>=λr33=>if r33==4 then zRp b M r1.1 r1.2 c d>>=λr36=>if r36.2.1 then if r36.2.2.1 !=0 then some (a,false,r36.2.2.1,r36.2.2.2.1,r36.2.2.2.2)else H8 b r36.2.2.2.1 r36.2.2.2.2>>=λr40=>if r40.1 !=0 then some (a,false,r40.1,r40.2.1,r40.2.2)else W1 b r36.1>>=λr43=>some (r43.1,true,r43.2,r40.2.1,r40.2.2)else if r36.2.2.1 !=0 then some (a,false,r36.2.2.1,r36.2.2.2.1,r36.2.2.2.2)else some (a,false,r36.2.2.1,r36.2.2.2.1,r36.2.2.2.2)else if r1.1.k==7 then zRo b M r1.1 r1.2 c d>>=λr47=>if r47.2.1 then if r47.2.2.1 !=0 then some (a,false,r47.2.2.1,r47.2.2.2.1,r47.2.2.2.2)else H8 b r47.2.2.2.1 r47.2.2.2.2>>=λr51=>if r51.1 !=0 then some (a,false,r51.1,r51.2.1,r51.2.2)else W1 b r47.1>>=λr54=>some (r54.1,true,r54.2,r51.2.1,r51.2.2)else if r47.2.2.1 !=0 then some (a,false,r47.2.2.1,r47.2.2.2.1,r47.2.2.2.2)else some (a,false,r47.2.2.1,r47.2.2.2.1,r47.2.2.2.2)else some (a,false,0,c,d)else zHz b M r1.1>>=λr57=>if r57==3 then zL M.l r1.1.n>>=λx60=>lM b x60.body r1.2>>=λr62=>H8 b c d>>=λr64=>if r64.1 !=0 then some (a,false,r64.1,r64.2.1,r64.2.2)else W1 b r62>>=λr67=>some (r67.1,true,r67.2,r64.2.1,r64.2.2)else zHz b M r1.1>>=λr69=>if r69==4 then zRp b M r1.1 r1.2 c d>>=λr72=>if r72.2.1 then if r72.2.2.1 !=0 then some (a,false,r72.2.2.1,r72.2.2.2.1,r72.2.2.2.2)else H8 b r72.2.2.2.1 r72.2.2.2.2>>=λr76=>if r76.1 !=0 then some (a,false,r76.1,r76.2.1,r76.2.2)else W1 b r72.1>>=λr79=>some (r79.1,true,r79.2,r76.2.1,r76.2.2)else if r72.2.2.1 !=0 then some (a,false,r72.2.2.1,r72.2.2.2.1,r72.2.2.2.2)else some (a,false,r72.2.2.1,r72.2.2.2.1,r72.2.2.2.2)else if r1.1.k==7 then zRo b M r1.1 r1.2 c d>>=λr83=>if r83.2.1 then if r83.2.2.1 !=0 then some (a,false,r83.2.2.1,r83.2.2.2.1,r83.2.2.2.2)else H8 b r83.2.2.2.1 r83.2.2.2.2>>=λr87=>if r87.1 !=0 then some (a,false,r87.1,r87.2.1,r87.2.2)else W1 b r83.1>>=λr90=>some (r90.1,true,r90.2,r87.2.1,r87.2.2)else if r83.2.2.1 !=0 then some (a,false,r83.2.2.1,r83.2.2.2.1,r83.2.2.2.2)else some (a,false,r83.2.2.1,r83.2.2.2.1,r83.2.2.2.2)else some (a,false,0,c,d)def zRp:Nat->xT->Tm->yI->Int->Int->Option (Tm×Bool×Int×Int×Int)
 |0,_,_,_,_,_=>none|b+1,M,a,q,c,d=>zL M.l a.n>>=λx1=>if decide ((q.length:Int)<=x1.pars)then some ((Tm.mk 0 0 []),false,0,c,d)else zL q x1.pars>>=λx4=>zHy b M x4 c d>>=λr6=>if r6.2.1 !=0 then some ((Tm.mk 0 0 []),false,r6.2.1,r6.2.2.1,r6.2.2.2)else zNj b M r6.1>>=λr9=>if r9.2.2 then zL M.l r9.1>>=λx12=>if x12.fam !=x1.fam then some ((Tm.mk 0 0 []),false,0,r6.2.2.1,r6.2.2.2)else uL r9.2.1 x12.pars (r9.2.1.length:Int)>>=λx15=>zJj b M.rl M.parts a.n x15>>=λr17=>uL q (yB (x1.pars+1)) (q.length:Int)>>=λx19=>lM b r17.1 x19>>=λr21=>some (r21,true,r17.2,r6.2.2.1,r6.2.2.2)else some ((Tm.mk 0 0 []),false,0,r6.2.2.1,r6.2.2.2)def zRo:Nat->xT->Tm->yI->Int->Int->Option (Tm×Bool×Int×Int×Int)
 |0,_,_,_,_,_=>none|b+1,M,a,q,c,d=>if decide (a.n>=(M.l.length:Int))then some ((Tm.mk 0 0 []),false,0,c,d)else zL M.l a.n>>=λx2=>if x2.kind !=1 then some ((Tm.mk 0 0 []),false,0,c,d)else zL M.args a.n>>=λx5=>if decide ((q.length:Int)<x5)then some ((Tm.mk 0 0 []),false,0,c,d)else zL q (yB (x5-1))>>=λx8=>zHy b M x8 c d>>=λr10=>if r10.2.1 !=0 then some ((Tm.mk 0 0 []),false,r10.2.1,r10.2.2.1,r10.2.2.2)else zNj b M r10.1>>=λr13=>if r13.2.2 then zL M.l r13.1>>=λx16=>if x16.fam !=a.n then some ((Tm.mk 0 0 []),false,0,r10.2.2.1,r10.2.2.2)else zL a.sub 0>>=λx19=>uL q 0 (yB ((yB (x2.pars+1))+(x2.cons.length:Int)))>>=λx21=>uL r13.2.1 x2.pars (r13.2.1.length:Int)>>=λx23=>zJi b M.rl M.parts a.n x19.n r13.1 x21 x23>>=λr25=>uL q x5 (q.length:Int)>>=λx27=>lM b r25.1 x27>>=λr29=>some (r29,true,r25.2,r10.2.2.1,r10.2.2.2)else some ((Tm.mk 0 0 []),false,0,r10.2.2.1,r10.2.2.2)end
theorem jQ:∀b:Nat,(∀M a c d,Cz (zHy b M a c d) 219 [mB M 1,mR M,.cells [ai c,ai d]] [.mp 0 0,yL a,.mp 2 0] (λr=>.tup [yL r.1,ai r.2.1]) (λr=>[mB M 1,mR M,.cells [ai r.2.2.1,ai r.2.2.2]]) 0)/\(∀M m p e f g,Lz (H9 b M m p e f g) 3 f219 (pt 885 f219) (λj=>sp j 28 0 [(0,.mp 0 0),(2,.mp 2 0),(4,.mp 3 0),(6,.mp 4 0)]) ⟨[(0,mB M 1),(1,mR M),(2,.cells [ai m,ai p]),(3,.cells [ai e,ai f,zC zA g .no]),(4,.cells [ai 0,ai 0,zC zA ([]:yI) .nl])],5,[],0,[]⟩ (λr=>.tup [yL r.1,ai r.2.1]) (λr=>[mB M 1,mR M,.cells [ai r.2.2.1,ai r.2.2.2]]) 0 [.blk 0])/\(∀M a c d,Cz (zUN b M a c d) 271 [mB M 1,mR M,.cells [ai c,ai d]] [.mp 0 0,yL a,.mp 2 0] (λr=>.tup [yL r.1,ab r.2.1,ai r.2.2.1]) (λr=>[mB M 1,mR M,.cells [ai r.2.2.2.1,ai r.2.2.2.2]]) 0)/\(∀M a q c d,Cz (zRp b M a q c d) 309 [mB M 1,mR M,.cells [ai c,ai d]] [.mp 0 0,yL a,zC zA q .no,.mp 2 0] (λr=>.tup [yL r.1,ab r.2.1,ai r.2.2.1]) (λr=>[mB M 1,mR M,.cells [ai r.2.2.2.1,ai r.2.2.2.2]]) 0)/\(∀M a q c d,Cz (zRo b M a q c d) 310 [mB M 1,mR M,.cells [ai c,ai d]] [.mp 0 0,yL a,zC zA q .no,.mp 2 0] (λr=>.tup [yL r.1,ab r.2.1,ai r.2.2.1]) (λr=>[mB M 1,mR M,.cells [ai r.2.2.2.1,ai r.2.2.2.2]]) 0):=yS ⟨λ_ _ _ _=>cN,λ_ _ _ _ _ _=>lN,λ_ _ _ _=>cN,λ_ _ _ _ _=>cN,λ_ _ _ _ _=>cN⟩ λb ih=>⟨λM a c d=>fw func219<|fH 0 [] [0,1,2,3,4] [] [0,2,4,6] (ih.2.1 _ _ _ _ _ _),λM m p e f g=>lw λ_=>rC 1 [0,1,2] (ih.2.2.1 _ _ _ _) λ_=>rB 1 (rB 2 (lE 1)<|lH 2 [] [0,1,2,3,4] [] [0,2,4,6] (ih.2.1 _ _ _ _ _ _))<|rB 2 (lE 1)<|lE 2,λM a c d=>fw func271<|rC 1 [] V4 λ_=>rB 5 (rB 1 (rA 1 (yP (o:=.no)) λ_=>rA 1 (yP (o:=.no)) λ_=>rC 1 [] yAO λ_=>rA 4 tZ λ_=>rC 0 [] nX λ_=>rB 1 (fE 2)<|rC 1 [2] zGZ λ_=>rB 0 (fE 2)<|rC 1 [] zJg λ_=>fE 5)<|rC 1 [0,1] zRr λ_=>rB 0 (rA 2 (xA (o:=.no)) λ_=>rC 1 [] nX λ_=>rC 3 [2] zGZ λ_=>rB 0 (fE 2)<|rC 1 [] zJg λ_=>fE 5)<|rC 1 [0,1] zRr λ_=>rB 0 (rC 1 [0,1,2] (ih.2.2.2.1 _ _ _ _ _) λ_=>rB 1 (rB 2 (fE 2)<|rC 1 [2] zGZ λ_=>rB 0 (fE 2)<|rC 1 [] zJg λ_=>fE 5)<|rB 2 (fE 2)<|fE 3)<|rB 1 (rC 1 [0,1,2] (ih.2.2.2.2 _ _ _ _ _) λ_=>rB 1 (rB 2 (fE 2)<|rC 1 [2] zGZ λ_=>rB 0 (fE 2)<|rC 1 [] zJg λ_=>fE 5)<|rB 2 (fE 2)<|fE 3)<|fE 4)<|rC 1 [0,1] zRr λ_=>rB 0 (rA 2 (xA (o:=.no)) λ_=>rC 1 [] nX λ_=>rC 3 [2] zGZ λ_=>rB 0 (fE 2)<|rC 1 [] zJg λ_=>fE 5)<|rC 1 [0,1] zRr λ_=>rB 0 (rC 1 [0,1,2] (ih.2.2.2.1 _ _ _ _ _) λ_=>rB 1 (rB 2 (fE 2)<|rC 1 [2] zGZ λ_=>rB 0 (fE 2)<|rC 1 [] zJg λ_=>fE 5)<|rB 2 (fE 2)<|fE 3)<|rB 1 (rC 1 [0,1,2] (ih.2.2.2.2 _ _ _ _ _) λ_=>rB 1 (rB 2 (fE 2)<|rC 1 [2] zGZ λ_=>rB 0 (fE 2)<|rC 1 [] zJg λ_=>fE 5)<|rB 2 (fE 2)<|fE 3)<|fE 4,λM a q c d=>fw func309<|rH λ_ h2=>rS (oA 2 (xA (o:=.no) h2))<|rB 2 (fE 1)<|rA 0 (yP (o:=.no)) λ_=>rC 1 [0,1,2] (ih.1 _ _ _ _) λ_=>rB 3 (fE 1)<|rC 1 [0,1] zYE λ_=>rB 2 (rH λ_ h13=>rS (oA 2 (xA (o:=.no) h13))<|rS (oA 3 (xA (o:=.no) h2))<|rB 1 (fE 1)<|rS (oA 3 (xA (o:=.no) h13))<|rA 1 tZ λ_=>rC 0 [1] yDZ λ_=>rA 5 tZ λ_=>rC 0 [] nX λ_=>fE 1)<|fE 2,λM a q c d=>fw func310<|rB 3 (fE 1)<|rH λ_ h3=>rS (oA 2 (xA (o:=.no) h3))<|rB 1 (fE 1)<|rH λ_ h6=>rS (oA 3 (vQ (o:=.no) h6))<|rB 1 (fE 1)<|rS (oA 2 (vQ (o:=.no) h6))<|rA 2 (yP (o:=.no)) λ_=>rC 1 [0,1,2] (ih.1 _ _ _ _) λ_=>rB 3 (fE 1)<|rC 1 [0,1] zYE λ_=>rB 2 (rA 2 (xA (o:=.no)) λ_=>rB 2 (fE 1)<|rS (oA 2 (xA (o:=.no) h3))<|rA 5 (yP (o:=.no)) λ_=>rA 6 sZ λ_=>rA 1 tZ λ_=>rC 0 [1] yEz λ_=>rA 4 tZ λ_=>rC 0 [] nX λ_=>fE 1)<|fE 2⟩
theorem yEx{b M a c d}:Cz (zHy b M a c d) 219 [mB M 1,mR M,.cells [ai c,ai d]] [.mp 0 0,yL a,.mp 2 0] (λr=>.tup [yL r.1,ai r.2.1]) (λr=>[mB M 1,mR M,.cells [ai r.2.2.1,ai r.2.2.2]]) 0:=(jQ _).1 _ _ _ _
abbrev er4(r:Tm×Int×Int×Int):Int:=r.2.1
abbrev er5(r:Tm×Bool×Int×Int×Int):Int:=r.2.2.1
theorem X7(l:List yF):(xQ l).l=l:=rfl
theorem zAf(l:List yF):(xQ l).rl=l:=rfl
theorem eL(l:List yF):(xQ l).parts=nM l l.length 0:=rfl
noncomputable def eM(l:List yF)(i:Int)(a:List Tm):Tm×Int:=open Classical in if h:∃r,zB (λq=>zJj q l (nM l l.length 0) i a) r then h.choose else(zT,5)
theorem U0{N:ByteArray->Bool}(l:List yF)(i:Int)(a:List Tm)(hE:vN N l)(ho:xW a)(hl:a.length<=1073741824):zB (λq=>zJj q l (nM l l.length 0) i a) (eM l i a)/\zEn l i a (eM l i a):=by
 obtain⟨r,hr,hk⟩:=zNl l (nM l l.length 0) i a hE ho hl;have hx:∃r,zB (λq=>zJj q l (nM l l.length 0) i a) r:=⟨r,hr⟩;have e:eM l i a=r:=by unfold eM;rw[dif_pos hx];exact hx.choose_spec.det hr
 rw[e];exact⟨hr,hk⟩
noncomputable def U1(l:List yF)(d lev c:Int)(args own:List Tm):Tm×Int:=open Classical in if h:∃r,zB (λq=>zJi q l (nM l l.length 0) d lev c args own) r then h.choose else(zT,5)
theorem zAe{N:ByteArray->Bool}(l:List yF)(d lev c:Int)(args own:List Tm)(hE:vN N l)(ho4:xW args)(ho5:xW own)(hl4:args.length<=65535)(hl5:own.length<=65535):zB (λq=>zJi q l (nM l l.length 0) d lev c args own) (U1 l d lev c args own)/\zJh l d lev c args own (U1 l d lev c args own):=by
 obtain⟨r,hr,hk⟩:=zRu l d lev c args own hE ho4 ho5 hl4 hl5;have hx:∃r,zB (λq=>zJi q l (nM l l.length 0) d lev c args own) r:=⟨r,hr⟩;have e:U1 l d lev c args own=r:=by unfold U1;rw[dif_pos hx];exact hx.choose_spec.det hr
 rw[e];exact⟨hr,hk⟩
inductive Act where|none|red(Y:Tm)(e:Int)|tgt(a:Tm)
noncomputable def uI(l:List yF)(x:Tm):Act:=if(yQ x).k=4/\0<(xH x).length then .red (kO (eG (tD (yQ x).sub 1) [tD (xH x) 0]).1 ((xH x).drop 1)) (eG (tD (yQ x).sub 1) [tD (xH x) 0]).2 else if pI l (yQ x)=3 then .red (kO (zN l (yQ x).n).body (xH x)) 0 else if pI l (yQ x)=4 then(if((xH x).length:Int)<=(zN l (yQ x).n).pars then .none else .tgt (tD (xH x) (zN l (yQ x).n).pars))else if(yQ x).k=7 then(if gX l (yQ x).n 1=true/\xV (zN l (yQ x).n)<=(xH x).length then .tgt (tD (xH x) (xV (zN l (yQ x).n)-1))else .none)else .none
noncomputable def sG(l:List yF)(x y:Tm):Option (Tm×Int):=if pI l (yQ x)=4 then(if eK l y/\(zN l (yQ y).n).fam=(zN l (yQ x).n).fam then some (kO (eM l (yQ x).n ((xH y).drop (zN l (yQ y).n).pars.toNat)).1 ((xH x).drop ((zN l (yQ x).n).pars+1).toNat),(eM l (yQ x).n ((xH y).drop (zN l (yQ y).n).pars.toNat)).2)else none)else(if eK l y/\(zN l (yQ y).n).fam=(yQ x).n then some (kO (U1 l (yQ x).n (tD (yQ x).sub 0).n (yQ y).n ((xH x).take ((zN l (yQ x).n).pars+1+(zN l (yQ x).n).cons.length).toNat) ((xH y).drop (zN l (yQ x).n).pars.toNat)).1 ((xH x).drop (xV (zN l (yQ x).n)).toNat),(U1 l (yQ x).n (tD (yQ x).sub 0).n (yQ y).n ((xH x).take ((zN l (yQ x).n).pars+1+(zN l (yQ x).n).cons.length).toNat) ((xH y).drop (zN l (yQ x).n).pars.toNat)).2)else none)
inductive Br(l:List yF):Tm->Tm->Int->Int->Prop|stop{x:Tm}:uI l x=.none->Br l x x 0 0|redE{x Y:Tm}{e:Int}:uI l x=.red Y e->e≠0->Br l x zT e 0|redL{x Y:Tm}:uI l x=.red Y 0->zJ Y=false->Br l x zT 2 1|red{x Y y:Tm}{e k:Int}:uI l x=.red Y 0->zJ Y=true->Br l Y y e k->Br l x y e (1+k)|tgtE{x a z:Tm}{e k:Int}:uI l x=.tgt a->Br l a z e k->e≠0->Br l x zT e k|tgtN{x a z:Tm}{k:Int}:uI l x=.tgt a->Br l a z 0 k->sG l x z=none->Br l x x 0 k|tgtRE{x a z Y:Tm}{e k:Int}:uI l x=.tgt a->Br l a z 0 k->sG l x z=some (Y,e)->e≠0->Br l x zT e k|tgtRL{x a z Y:Tm}{k:Int}:uI l x=.tgt a->Br l a z 0 k->sG l x z=some (Y,0)->zJ Y=false->Br l x zT 2 (k+1)|tgtR{x a z Y y:Tm}{e k k':Int}:uI l x=.tgt a->Br l a z 0 k->sG l x z=some (Y,0)->zJ Y=true->Br l Y y e k'->Br l x y e (k+1+k')
inductive On(l:List yF)(x:Tm):Tm->Bool->Int->Int->Prop|stop:uI l x=.none->On l x x false 0 0|redE{Y:Tm}{e:Int}:uI l x=.red Y e->e≠0->On l x x false e 0|redL{Y:Tm}:uI l x=.red Y 0->zJ Y=false->On l x zT true 2 1|red{Y:Tm}:uI l x=.red Y 0->zJ Y=true->On l x Y true 0 1|tgtE{a z:Tm}{e k:Int}:uI l x=.tgt a->Br l a z e k->e≠0->On l x x false e k|tgtN{a z:Tm}{k:Int}:uI l x=.tgt a->Br l a z 0 k->sG l x z=none->On l x x false 0 k|tgtRE{a z Y:Tm}{e k:Int}:uI l x=.tgt a->Br l a z 0 k->sG l x z=some (Y,e)->e≠0->On l x x false e k|tgtRL{a z Y:Tm}{k:Int}:uI l x=.tgt a->Br l a z 0 k->sG l x z=some (Y,0)->zJ Y=false->On l x zT true 2 (k+1)|tgtR{a z Y:Tm}{k:Int}:uI l x=.tgt a->Br l a z 0 k->sG l x z=some (Y,0)->zJ Y=true->On l x Y true 0 (k+1)
theorem Br.nn{l:List yF}{x y:Tm}{e k:Int}(h:Br l x y e k):0<=k:=by induction h<;>omega
theorem On.still{l:List yF}{x y:Tm}{k:Int}(h:On l x y false 0 k):y=x/\Br l x x 0 k:=by cases h with|stop h=>exact⟨rfl,.stop h⟩|redE _ h=>exact absurd rfl h|tgtE _ _ h=>exact absurd rfl h|tgtN a b c=>exact⟨rfl,.tgtN a b c⟩|tgtRE _ _ _ h=>exact absurd rfl h
theorem On.err{l:List yF}{x y:Tm}{d:Bool}{e k:Int}(h:On l x y d e k)(he:e≠0):Br l x zT e k:=by cases h with|redE a b=>exact .redE a b|redL a b=>exact .redL a b|tgtE a b c=>exact .tgtE a b c|tgtRE a b c d=>exact .tgtRE a b c d|tgtRL a b c d=>exact .tgtRL a b c d|_=>exact absurd rfl he
theorem On.step{l:List yF}{x Y:Tm}{k:Int}(h:On l x Y true 0 k):zJ Y=true/\1<=k/\∀y e k',Br l Y y e k'->Br l x y e (k+k'):=by cases h with|red a b=>exact⟨b,by omega,λy e k' h=>.red a b h⟩|tgtR a b c d=>exact⟨d,by have:=b.nn;omega,λy e k' h=>.tgtR a b c d h⟩
def HB(l:List yF)(x:Tm)(f:Int):Prop:=Ou (λL U q=>zHy q (xQ l) x L U) er4 (λR k=>∃y e,Br l x y e k/\R=λL U=>(y,e,L,U)) (∀y e k,Br l x y e k->f<k) f
def QO(l:List yF)(x:Tm)(R:Int->Int->Tm×Bool×Int×Int×Int)(k:Int):Prop:=∃Y d e,On l x Y d e k/\R=λL U=>(Y,d,e,L,U)
def QF(l:List yF)(x:Tm)(R:Int->Int->Tm×Bool×Int×Int×Int)(k:Int):Prop:=(uI l x=.none/\k=0/\∃Y,R=λL U=>(Y,false,0,L,U))\/∃a z e,uI l x=.tgt a/\Br l a z e k/\((e≠0/\∃Y,R=λL U=>(Y,false,e,L,U))\/(e=0/\((sG l x z=none/\∃Y,R=λL U=>(Y,false,0,L,U))\/∃Y e',Y.Ok/\sG l x z=some (Y,e')/\R=λL U=>(Y,true,e',L,U))))
theorem uF{t:Tm}(hg:xF t=true)(h:t.k=3\/t.k=4\/t.k=5):∃a b,t.sub=[a,b]/\xF a=true/\xF b=true:=by obtain⟨k,n,l⟩:=t;have hh:=wO hg;obtain⟨a,b,rfl⟩:=zPJ ((tK hh.1).2.2.2.2.2.1 h).1;have hc:=wD hh.2;exact⟨a,b,rfl,hc.1,(wD hc.2).1⟩
theorem zNi{N:ByteArray->Bool}(l:List yF)(hE:vN N l)(x:Tm)(hs:zJ x=true)(f:Int)(hf:0<=f)(h3:(yQ x).k≠4)(hk:pI l (yQ x)=4)(hb:∀a∈xH x,HB l a f)(hB:∀a y k,zJ a=true->Br l a y 0 k->zJ y=true):Ou (λL U q=>zRp q (xQ l) (yQ x) (xH x) L U) er5 (QF l x) (∃a,uI l x=.tgt a/\∀z e k,Br l a z e k->f<k) f:=by
 have hh:=qH hs;have h0:=B5 (zO hh).2.2;have hks:=sF hk (by decide);have h1:=hks.2.1;have ho:xW (xH x):=λy hy=>yJ (xX hs hy);have hl:(xH x).length<=8192:=by have h:=zO hs;have:=rT _ h.2.2;omega
 have hp:=(xS (hE.2 _ h0 h1)).2.2.2.1 hks.2.2;unfold lC at hp;simp only[Bool.and_eq_true]at hp;have hw:=sC hp.1;have hfam:=wP ((xS (hE.2 _ hw.1 (by omega))).2.1 hw.2.2.1);have hact:uI l x=if((xH x).length:Int)<=(zN l (yQ x).n).pars then .none else .tgt (tD (xH x) (zN l (yQ x).n).pars):=by unfold uI;rw[if_neg (λh=>h3 h.1),if_neg (by omega),if_pos hk]
 have hre:∀y,sG l x y=if eK l y/\(zN l (yQ y).n).fam=(zN l (yQ x).n).fam then some (kO (eM l (yQ x).n ((xH y).drop (zN l (yQ y).n).pars.toNat)).1 ((xH x).drop ((zN l (yQ x).n).pars+1).toNat),(eM l (yQ x).n ((xH y).drop (zN l (yQ y).n).pars.toNat)).2)else none:=λy=>by unfold sG;rw[if_pos hk]
 refine Ou.succ ?_;simp only[zRp,X7,zAf,eL];refine Ou.pure (yE h0 h1) (Ou.ite (λhn=>Ou.ret hf (.inl ⟨by rw[hact,if_pos (of_decide_eq_true hn)],rfl,_,rfl⟩)) λhn=>?_);have hn':=of_decide_eq_false hn;rw[if_neg hn']at hact;have hlt:(zN l (yQ x).n).pars<(xH x).length:=by omega
 have hp0:0<=(zN l (yQ x).n).pars:=by omega
 refine Ou.pure (uR hp0 hlt) (Ou.bind (hb _ (pA hp0 hlt)) (λh=>⟨_,hact,h⟩) (λr hr=>⟨_,zB.ifT (by show(r.2.1 !=0)=true;rw[show r.2.1=8 from hr];decide) zB.ret,hr⟩) ?_);rintro R k k0 k1⟨y,e,hbr,rfl⟩;dsimp only;refine Ou.ite (λh=>Ou.ret (by omega) (.inr ⟨_,y,e,hact,by rwa[Int.add_zero],.inl ⟨by simpa using h,_,rfl⟩⟩)) λh=>?_;have he:e=0:=by simpa using h
 subst he;have hy:=hB _ _ _ (xX hs (pA hp0 hlt)) hbr;refine Ou.evt (zEk l y hy) ?_;unfold zEl;by_cases hc:eK l y
 ·rw[if_pos hc];have hcs:=rV hy hc;obtain⟨A,z,a1,-,-,a4,a5,a6,a7,-⟩:=sR hE hcs.1 hcs.2.1 hcs.2.2.1;refine Ou.ifT rfl (Ou.pure (yE hcs.1 hcs.2.1) (Ou.ite (λhf'=>Ou.ret (by omega) (.inr ⟨_,y,0,hact,by rwa[Int.add_zero],.inr ⟨rfl,.inl ⟨?_,_,rfl⟩⟩⟩)) λhf'=>?_));·rw[hre,if_neg (λh=>by simp[h.2]at hf')]
  ·have hf2:(zN l (yQ y).n).fam=(zN l (yQ x).n).fam:=by simpa using hf'
   have hra:xW (xH y):=λx hx=>yJ (xX hy hx);have hrl:(xH y).length<=8192:=by have h:=zO hy;have:=rT _ h.2.2;omega
   have hlen:=hcs.2.2.2;have hX:=U0 l (yQ x).n ((xH y).drop (zN l (yQ y).n).pars.toNat) hE (hra.drop _) (by rw[List.length_drop];omega);refine Ou.pure (sE a6 (by show(zN l (yQ y).n).pars<=((xH y).length:Int);omega)) (Ou.evt hX.1 ?_);rw[zR (x:=(zN l (yQ x).n).pars+1) (by omega) (by omega)];refine Ou.pure (sE (by omega) (by omega)) (Ou.evt (vI _ _ (by rw[List.length_drop];omega)) (Ou.ret (by omega) (.inr ⟨_,y,0,hact,by rwa[Int.add_zero],.inr ⟨rfl,.inr ⟨_,_,?_,?_,rfl⟩⟩⟩)));·exact tP _ _ hX.2.1 (ho.drop _)
   ·rw[hre,if_pos ⟨hc,hf2⟩]
 ·rw[if_neg hc];refine Ou.ifF rfl (Ou.ret (by omega) (.inr ⟨_,y,0,hact,by rwa[Int.add_zero],.inr ⟨rfl,.inl ⟨?_,_,rfl⟩⟩⟩));rw[hre,if_neg (λh=>hc h.1)]
theorem zRm{N:ByteArray->Bool}(l:List yF)(hE:vN N l)(x:Tm)(hs:zJ x=true)(f:Int)(hf:0<=f)(hk:(yQ x).k=7)(hb:∀a∈xH x,HB l a f)(hB:∀a y k,zJ a=true->Br l a y 0 k->zJ y=true):Ou (λL U q=>zRo q (xQ l) (yQ x) (xH x) L U) er5 (QF l x) (∃a,uI l x=.tgt a/\∀z e k,Br l a z e k->f<k) f:=by
 have hh:=qH hs;have hg:=(zO hh).2.2;have h0:=B5 hg;have ho:xW (xH x):=λy hy=>yJ (xX hs hy);have hl:(xH x).length<=8192:=by have h:=zO hs;have:=rT _ h.2.2;omega
 have hkk:∀n:Int,n≠0->pI l (yQ x)≠n:=λn hn e=>by have:=(sF e hn).1;omega
 have hact:uI l x=if gX l (yQ x).n 1=true/\xV (zN l (yQ x).n)<=(xH x).length then .tgt (tD (xH x) (xV (zN l (yQ x).n)-1))else .none:=by unfold uI;rw[if_neg (λh=>by omega),if_neg (hkk 3 (by decide)),if_neg (hkk 4 (by decide)),if_pos hk]
 have hre:∀y,sG l x y=if eK l y/\(zN l (yQ y).n).fam=(yQ x).n then some (kO (U1 l (yQ x).n (tD (yQ x).sub 0).n (yQ y).n ((xH x).take ((zN l (yQ x).n).pars+1+(zN l (yQ x).n).cons.length).toNat) ((xH y).drop (zN l (yQ x).n).pars.toNat)).1 ((xH x).drop (xV (zN l (yQ x).n)).toNat),(U1 l (yQ x).n (tD (yQ x).sub 0).n (yQ y).n ((xH x).take ((zN l (yQ x).n).pars+1+(zN l (yQ x).n).cons.length).toNat) ((xH y).drop (zN l (yQ x).n).pars.toNat)).2)else none:=λy=>by unfold sG;rw[if_neg (hkk 4 (by decide))]
 refine Ou.succ ?_;simp only[zRo,X7,zAf,eL];refine Ou.ite (λhn=>Ou.ret hf (.inl ⟨?_,rfl,_,rfl⟩)) λhn=>?_
 ·rw[hact,if_neg];intro h;have:=(wG h.1).2.1;have:=of_decide_eq_true hn;omega
 have h1:(yQ x).n<l.length:=by have:=of_decide_eq_false hn;omega
 refine Ou.pure (yE h0 h1) (Ou.ite (λhk1=>Ou.ret hf (.inl ⟨?_,rfl,_,rfl⟩)) λhk1=>?_)
 ·rw[hact,if_neg];intro h;have h2:=(wG h.1).2.2;rw[h2]at hk1;simp at hk1
 have hk1':(zN l (yQ x).n).kind=1:=by simpa using hk1
 have hfam:=wP ((xS (hE.2 _ h0 h1)).2.1 hk1');have hisT:gX l (yQ x).n 1=true:=by unfold gX;simp[h0,h1,hk1']
 have hargs:xV (zN l (yQ x).n)=(zN l (yQ x).n).pars+2+(zN l (yQ x).n).cons.length+(zN l (yQ x).n).inds:=by unfold xV;rw[if_pos hk1']
 refine Ou.pure (zRq h0 h1) (Ou.ite (λhn=>Ou.ret hf (.inl ⟨?_,rfl,_,rfl⟩)) λhn=>?_)
 ·rw[hact,if_neg];intro h;have:=of_decide_eq_true hn;omega
 have hn':=of_decide_eq_false hn;rw[if_pos ⟨hisT,by omega⟩]at hact;rw[zR (x:=xV (zN l (yQ x).n)-1) (by omega) (by omega)];have hp0:0<=xV (zN l (yQ x).n)-1:=by omega
 have hlt:xV (zN l (yQ x).n)-1<(xH x).length:=by omega
 refine Ou.pure (uR hp0 hlt) (Ou.bind (hb _ (pA hp0 hlt)) (λh=>⟨_,hact,h⟩) (λr hr=>⟨_,zB.ifT (by show(r.2.1 !=0)=true;rw[show r.2.1=8 from hr];decide) zB.ret,hr⟩) ?_);rintro R k k0 k1⟨y,e,hbr,rfl⟩;dsimp only;refine Ou.ite (λh=>Ou.ret (by omega) (.inr ⟨_,y,e,hact,by rwa[Int.add_zero],.inl ⟨by simpa using h,_,rfl⟩⟩)) λh=>?_;have he:e=0:=by simpa using h
 subst he;have hy:=hB _ _ _ (xX hs (pA hp0 hlt)) hbr;refine Ou.evt (zEk l y hy) ?_;unfold zEl;by_cases hc:eK l y
 ·rw[if_pos hc];have hcs:=rV hy hc;obtain⟨A,z,a1,-,-,a4,a5,a6,a7,-,-,-,a8,-⟩:=sR hE hcs.1 hcs.2.1 hcs.2.2.1;refine Ou.ifT rfl (Ou.pure (yE hcs.1 hcs.2.1) (Ou.ite (λhf'=>Ou.ret (by omega) (.inr ⟨_,y,0,hact,by rwa[Int.add_zero],.inr ⟨rfl,.inl ⟨?_,_,rfl⟩⟩⟩)) λhf'=>?_));·rw[hre,if_neg (λh=>by simp[h.2]at hf')]
  ·have hf2:(zN l (yQ y).n).fam=(yQ x).n:=by simpa using hf'
   rw[hf2]at a8;have hra:xW (xH y):=λx hx=>yJ (xX hy hx);have hrl:(xH y).length<=8192:=by have h:=zO hy;have:=rT _ h.2.2;omega
   have hlen:=hcs.2.2.2;have hsub:∃s,(yQ x).sub=[s]:=by revert hg hk;generalize yQ x=y;intro hk hg;obtain⟨kk,nn,ss⟩:=y;obtain⟨s,hs,-⟩:=(tK (wO hg).1).2.2.2.2.2.2.1 hk;exact⟨s,hs⟩
   obtain⟨s,hsb⟩:=hsub;rw[zR (x:=(zN l (yQ x).n).pars+1) (by omega) (by omega),zR (x:=(zN l (yQ x).n).pars+1+(zN l (yQ x).n).cons.length) (by omega) (by omega)];have hX:=zAe l (yQ x).n (tD (yQ x).sub 0).n (yQ y).n ((xH x).take ((zN l (yQ x).n).pars+1+(zN l (yQ x).n).cons.length).toNat) ((xH y).drop (zN l (yQ x).n).pars.toNat) hE (ho.take _) (hra.drop _) (by rw[List.length_take];omega) (by rw[List.length_drop];omega);refine Ou.pure (uR (by omega) (by rw[hsb];simp)) (Ou.pure (a:=(xH x).take ((zN l (yQ x).n).pars+1+(zN l (yQ x).n).cons.length).toNat) ?_ (Ou.pure (sE (by omega) (by show _<=((xH y).length:Int);omega)) (Ou.evt hX.1 ?_)));·rw[bE (by omega) (by omega) (by omega)];simp
   refine Ou.pure (sE (by omega) (by omega)) (Ou.evt (vI _ _ (by rw[List.length_drop];omega)) (Ou.ret (by omega) (.inr ⟨_,y,0,hact,by rwa[Int.add_zero],.inr ⟨rfl,.inr ⟨_,_,?_,?_,rfl⟩⟩⟩)));·exact tP _ _ hX.2.1 (ho.drop _)
   ·rw[hre,if_pos ⟨hc,hf2⟩]
 ·rw[if_neg hc];refine Ou.ifF rfl (Ou.ret (by omega) (.inr ⟨_,y,0,hact,by rwa[Int.add_zero],.inr ⟨rfl,.inl ⟨?_,_,rfl⟩⟩⟩));rw[hre,if_neg (λh=>hc h.1)]
end Go.Proofs.YthncchbcdpbgaaaGreat
