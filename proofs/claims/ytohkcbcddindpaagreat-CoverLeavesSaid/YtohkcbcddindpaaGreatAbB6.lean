/- Parts of the proof that the law returns true: walks of the functions, plain laws. -/
import Derived.KernelRfl
import Derived.LoopIn
import Derived.LoopNIn
import Derived.OwnWalkIn
import Derived.RangeFuncBound
import Derived.RangeFuncBox
import Derived.RangeFuncCalls
import Derived.RangeFuncFrom
import Derived.RangeFuncLeaves
import Derived.RangeFuncNested
import Derived.Shelf.Abstract
import Derived.TacticsInMore
import Derived.Test.YtohkcbcddindpaaGreatChecked
import Derived.WalkKit
import Derived.Test.YtohkcbcddindpaaGreatAbB5
set_option linter.unusedVariables false
set_option linter.unusedSimpArgs false
set_option linter.unusedSectionVars false
namespace Go.Proofs.YtohkcbcddindpaaGreat
open Go Go.Ab Go.Proofs.Tryz
theorem rO(k n:Int)(l:List Tm):xQ (.mk k n l)=(rP (.mk k n l)&&vS l):=by rw[xQ]
mutual theorem zIp:∀(t:Tm),t.Ok->zF (λq=>e85 q t) (xQ t)
 |.mk k n l,ho=>by
  refine zF.succ ?_;simp only[e85];have hL:∀c:Nat,l.length=c->zF (λq=>sC q (.mk k n l) (c:Int) 0) (vS l):=λc hc=>zDE l (.mk k n l) 0 c rfl (by simpa[Tm.sub]using hc) ho.1 ho.2;by_cases h1:k=1
  ·subst h1;refine zF.ifT rfl ((L6 (p:=.mk 1 n l) (c:=0) (m:=1048576) (r:=vS l) λhc _ _=>zF.ifF rfl (hL 0 hc)).eq ?_);rw[rO];simp[rP,Tm.k,Tm.n,Tm.sub];cases vS l<;>simp[Bool.and_comm,Bool.and_left_comm,Bool.and_assoc]
  refine zF.ifF (by simpa[Tm.k]using h1) ?_;by_cases h6:k=6
  ·subst h6;refine zF.ifT rfl ((L6 (p:=.mk 6 n l) (c:=0) (m:=1048576) (r:=vS l) λhc _ _=>zF.ifF rfl (hL 0 hc)).eq ?_);rw[rO];simp[rP,Tm.k,Tm.n,Tm.sub];cases vS l<;>simp[Bool.and_comm,Bool.and_left_comm,Bool.and_assoc]
  refine zF.ifF (by simpa[Tm.k]using h6) ?_;by_cases h8:k=8
  ·subst h8;refine zF.ifT rfl ((L6 (p:=.mk 8 n l) (c:=0) (m:=1048576) (r:=vS l) λhc _ _=>zF.ifF rfl (hL 0 hc)).eq ?_);rw[rO];simp[rP,Tm.k,Tm.n,Tm.sub];cases vS l<;>simp[Bool.and_comm,Bool.and_left_comm,Bool.and_assoc]
  refine zF.ifF (by simpa[Tm.k]using h8) ?_;by_cases h2:k=2
  ·subst h2;refine zF.ifT rfl ((L6 (p:=.mk 2 n l) (c:=0) (m:=7) (r:=vS l) λhc _ _=>zF.ifF rfl (hL 0 hc)).eq ?_);rw[rO];simp[rP,Tm.k,Tm.n,Tm.sub];cases vS l<;>simp[Bool.and_comm,Bool.and_left_comm,Bool.and_assoc]
  refine zF.ifF (by simpa[Tm.k]using h2) ?_;by_cases h3:k=3
  ·subst h3;refine zF.ifT rfl ((L6 (p:=.mk 3 n l) (c:=2) (m:=0) (r:=vS l) λhc _ _=>zF.ifF rfl (hL 2 hc)).eq ?_);rw[rO];simp[rP,Tm.k,Tm.n,Tm.sub];cases vS l<;>simp[Bool.and_comm,Bool.and_left_comm,Bool.and_assoc]
  refine zF.ifF (by simpa[Tm.k]using h3) ?_;by_cases h4:k=4
  ·subst h4;refine zF.ifT rfl ((L6 (p:=.mk 4 n l) (c:=2) (m:=0) (r:=vS l) λhc _ _=>zF.ifF rfl (hL 2 hc)).eq ?_);rw[rO];simp[rP,Tm.k,Tm.n,Tm.sub];cases vS l<;>simp[Bool.and_comm,Bool.and_left_comm,Bool.and_assoc]
  refine zF.ifF (by simpa[Tm.k]using h4) ?_;by_cases h5:k=5
  ·subst h5;refine zF.ifT rfl ((L6 (p:=.mk 5 n l) (c:=2) (m:=0) (r:=vS l) λhc _ _=>zF.ifF rfl (hL 2 hc)).eq ?_);rw[rO];simp[rP,Tm.k,Tm.n,Tm.sub];cases vS l<;>simp[Bool.and_comm,Bool.and_left_comm,Bool.and_assoc]
  refine zF.ifF (by simpa[Tm.k]using h5) ?_;by_cases h7:k=7
  ·subst h7;refine zF.ifT rfl ?_;rcases l with _|⟨x,l⟩;·refine(L6 (p:=.mk 7 n []) (c:=1) (m:=1048576) (r:=false) λhc _ _=>by simp[Tm.sub]at hc).eq ?_;rw[rO];simp[rP,Tm.k,Tm.n,Tm.sub]
   ·refine(L6 (p:=.mk 7 n (x::l)) (c:=1) (m:=1048576) (r:=(x.k==2)&&vS (x::l)) λhc _ _=>zF.pure (a:=x) rfl ?_).eq ?_
    ·by_cases hx:x.k=2;·refine zF.ifF (by simp[hx]) ((hL 1 (by simpa[Tm.sub]using hc)).eq (by simp[hx]))
     ·exact zF.ifT (by simp[hx]) (zF.ret.eq (by simp[hx]))
    ·rw[rO];simp[rP,Tm.k,Tm.n,Tm.sub];cases vS (x::l)<;>cases(x.k==2)<;>simp[Bool.and_comm,Bool.and_left_comm,Bool.and_assoc]
  refine zF.ifF (by simpa[Tm.k]using h7) (zF.ret.eq ?_);rw[rO];have:rP (.mk k n l)=false:=by
   simp only[rP,Tm.k];by_cases h9:1<=k/\k<=8;·omega
   ·by_cases h10:1<=k;·simp[show¬k<=8 by omega]
    ·simp[h10]
  simp[this]theorem zDE:∀(l:List Tm)(p:Tm)(v c:Nat),p.sub.drop v=l->p.sub.length=c->p.sub.length<9223372036854775808->mW l->zF (λq=>sC q p (c:Int) (v:Int)) (vS l)|[],p,v,c,hd,hc,hl,ho=>by refine zF.succ ?_;simp only[sC];rw[vS,<-hc];exact zF.ifF (zY hd) zF.ret|t::l,p,v,c,hd,hc,hl,ho=>by refine zF.succ ?_;simp only[sC];refine zF.ifT (by rw[<-hc];exact zX hd) (zF.pure (zV hd) ((zIp t ho.1).bind ?_));rw[vS];cases xQ t with|false=>exact zF.ifF rfl zF.ret|true=>refine zF.ifT rfl ?_;rw[zU v (by have:=yC hd;omega)];exact zDE l p (v+1) c (zR hd) hc hl ho.2 end
theorem zKc(t:Tm)(ho:t.Ok):zF (λq=>e58 q t) (zG t):=by
 simp only[e58];refine(zOb t).bind ?_;unfold zG zSD;by_cases h1:t.nodes<=8192
 ·rw[if_pos h1];by_cases h2:t.high<=128;·exact zF.ifT (by simp<;>omega) (((zIp t ho).bind zF.ret).eq (by simp[h1,h2]))
  ·exact zF.ifF (by simp<;>omega) (zF.ret.eq (by simp[h2]))
 ·rw[if_neg h1];exact zF.ifF (by simp) (zF.ret.eq (by simp[h1]))
def zWg(k:Int)(i:Nat):Int:=if i=1/\k≠5 then 1 else 0
theorem zIo(t:Tm)(i:Nat):zF (λq=>e59 q t (i:Int)) (zWg t.k i):=by
 refine zF.mk λq=>?_;simp only[e59,zWg];by_cases h1:i=1;·subst h1;by_cases h5:t.k=5<;>simp[h5]
 ·have:¬((i:Int)=1):=by omega
  simp[h1,this]
theorem zWf{k n:Int}{l:List Tm}(h:rP (.mk k n l)=true){i:Nat}(hi:i<l.length):zWg k i=B6 k i:=by
 unfold B6 zWg;by_cases h1:i=1
 ·subst h1;have hs:=tR h;simp only[Tm.k,Tm.n,Tm.sub]at hs;have:k=3\/k=4\/k=5:=by
   by_cases h7:k=7
   ·obtain⟨x,hx,_⟩:=hs.2.2.2.2.2.2.1 h7;rw[hx]at hi;simp at hi
   ·by_cases h3:k=1\/k=2\/k=6\/k=8;·rw[hs.2.2.2.2.2.2.2.1 h3]at hi;simp at hi
    ·omega
  rcases this with rfl|rfl|rfl<;>simp
 ·simp[h1]
mutual theorem zDF:∀(t:Tm)(b:Int),xQ t=true->0<=b->b+t.high<=4611686018427387904->zF (λq=>e36 q t b) (kO t b)
 |.mk k n l,b,hg,h0,h1=>by
  refine zF.succ ?_;simp only[e36,Tm.k,Tm.n];have hh:=uB hg;have hn:=jH hh.1;have hl:zF (λq=>dK q (.mk k n l) b 0 0) (fL l k 0 b):=(zBc l (.mk k n l) 0 b 0 rfl hh.1 hh.2 h0 (by omega) (by rw[Tm.high]at h1;omega)).eq (by have:=zEF l k 0 b;simp only[Tm.k];omega);rw[Tm.high]at h1;rw[kO];by_cases hk:k=1
  ·rw[if_pos hk];refine zF.ifT (by simpa using hk) ?_;by_cases hb:n>=b;·refine zF.ifT (by simpa using hb) (zF.ret.eq ?_);rw[yS (x:=n-b) (by omega) (by omega),yS (by omega) (by omega)];omega
   ·refine zF.ifF (by simpa using hb) (hl.eq ?_);have:l=[]:=by have:=hh.1;subst hk;simp[rP,Tm.k,Tm.n,Tm.sub]at this;exact this.2.1
    subst this;rw[fL];omega
  ·rw[if_neg hk];exact zF.ifF (by simpa using hk) hl theorem zBc:∀(l:List Tm)(p:Tm)(v:Nat)(b m:Int),p.sub.drop v=l->rP p=true->vS l=true->0<=b->0<=m->b+1+uH l<=4611686018427387904->zF (λq=>dK q p b m (v:Int)) (max m (fL l p.k v b))|[],p,v,b,m,hd,hp,ho,h0,hm,h1=>by refine zF.succ ?_;simp only[dK];rw[fL];exact zF.ifF (zY hd) (zF.ret.eq (by omega))|t::l,p,v,b,m,hd,hp,ho,h0,hm,h1=>by refine zF.succ ?_;simp only[dK];have hg:=wU ho;have hu:=zLF p.k v;have hlt:=yC hd;obtain⟨k,n,ls⟩:=p;have hls:=(jH hp).2.2.2.2;simp only[Tm.sub]at hlt hd;have he:=zWf hp hlt;rw[uH]at h1;refine zF.ifT (zX hd) (zF.pure (zV hd) ((zIo (.mk k n ls) v).bind ?_));simp only[Tm.k]at hu⊢;rw[he,yS (x:=b+B6 k v) (by omega) (by omega)];refine(zDF t (b+B6 k v) hg.1 (by omega) (by omega)).bind ?_;rw[zU v (by omega),J8];refine(zBc l (.mk k n ls) (v+1) b _ (zR hd) hp hg.2 h0 (by omega) (by omega)).eq ?_;simp only[Tm.k];rw[fL];omega end
def e57(b:Nat)(a:Int):Option (Bool):=if decide (a>=0)then some (decide (a<=1048576))else some false
theorem c57{b a}:Cz (e57 b a) 57 [] [ai a] (λr=>ab r) (λ_=>[]) 0:=fw func57<|rB 0 (fE 1)<|fE 0
def T7:Nat->LR2->Int->Option (Bool)
 |0,_,_=>none|b+1,a,c=>if decide (c<(a.length:Int))then zS a c>>=λx2=>e57 b x2.n_>>=λr4=>if r4 then e58 b x2.type_>>=λr7=>if r7 then T7 b a (xC (c+1))else some false else some false else some (decide ((a.length:Int)<=256))
def e34(b:Nat)(a:LR2):Option (Bool):=T7 b a 0
theorem zZM:∀b:Nat,∀a c,Lz (T7 b a c) 0 Tryz.f34 (pt 949 Tryz.f34) (λj=>sp j 29 0 [(0,zN vJ a .no),(3,ai c)]) ⟨[],0,[],0,[]⟩ (λr=>ab r) (λ_=>[]) 0 [.blk 0,.seq (pt 15 Tryz.f34)]:=xX (λ_ _=>lN) λb ih=>λa c=>lw λ_=>rB 1 (rH λ_ h3=>rS (oA 0 (zJb (o:=.no) h3))<|rK 1 [] c57 (λ_=>rS (oA 1 (zJb (o:=.no) h3))<|rK 1 [] c58 (λ_=>lH 2 [] [] [] [0,3] (ih _ _)) λ_=>lE 1) λ_=>lE 1)<|lE 2
theorem c34{b a}:Cz (e34 b a) 34 [] [zN vJ a .no] (λr=>ab r) (λ_=>[]) 0:=fw func34<|fH 0 [] [] [] [0,3] (zZM _ _ _)
def gW:Nat->LR2->Int->Int->Option (Int)|0,_,_,_=>none|c+1,a,b,d=>if decide (d<(a.length:Int))then zS a d>>=λx2=>if x2.n_==b then some d else gW c a b (xC (d+1))else some (-1)
def e16(c:Nat)(a:LR2)(b:Int):Option (Int):=gW c a b 0
theorem zZN:∀c:Nat,∀a b d,Lz (gW c a b d) 0 Tryz.f16 (pt 949 Tryz.f16) (λj=>sp j 20 0 [(0,zN vJ a .no),(1,ai b),(5,ai d)]) ⟨[],0,[],0,[]⟩ (λr=>ai r) (λ_=>[]) 0 [.blk 0,.seq (pt 15 Tryz.f16)]:=xX (λ_ _ _=>lN) λc ih=>λa b d=>lw λ_=>rB 1 (rA 0 (zJb (o:=.no)) λ_=>rB 1 (lE 0)<|lH 1 [] [] [] [0,1,5] (ih _ _ _))<|lE 0
theorem c16{c a b}:Cz (e16 c a b) 16 [] [zN vJ a .no,ai b] (λr=>ai r) (λ_=>[]) 0:=fw func16<|fH 0 [] [] [] [0,1,5] (zZN _ _ _ _)
def T8:Nat->LR2->Int->Option (Bool)|0,_,_=>none|b+1,a,c=>if decide (c<(a.length:Int))then zS a c>>=λx2=>e16 b a x2.n_>>=λr4=>if r4 !=c then some false else T8 b a (xC (c+1))else some true
def e35(b:Nat)(a:LR2):Option (Bool):=T8 b a 0
theorem zZO:∀b:Nat,∀a c,Lz (T8 b a c) 0 Tryz.f35 (pt 949 Tryz.f35) (λj=>sp j 19 0 [(0,zN vJ a .no),(3,ai c)]) ⟨[],0,[],0,[]⟩ (λr=>ab r) (λ_=>[]) 0 [.blk 0,.seq (pt 15 Tryz.f35)]:=xX (λ_ _=>lN) λb ih=>λa c=>lw λ_=>rB 1 (rA 0 (zJb (o:=.no)) λ_=>rC 1 [] c16 λ_=>rB 0 (lE 0)<|lH 1 [] [] [] [0,3] (ih _ _))<|lE 0
theorem c35{b a}:Cz (e35 b a) 35 [] [zN vJ a .no] (λr=>ab r) (λ_=>[]) 0:=fw func35<|fH 0 [] [] [] [0,3] (zZO _ _ _)
mutual def D2:Nat->LR2->Int->Option (Bool)|0,_,_=>none|b+1,a,c=>if decide (c<(a.length:Int))then zS a c>>=λx8=>e36 b x8.type_ 0>>=λr10=>if decide (r10>0)then some false else T9 b a c c else some true def T9:Nat->LR2->Int->Int->Option (Bool)|0,_,_,_=>none|b+1,a,c,d=>if decide (d<(a.length:Int))then zS a c>>=λx14=>zS a d>>=λx16=>e37 b x14.type_ x16.n_>>=λr18=>if r18 then some false else T9 b a c (xC (d+1))else D2 b a (xC (c+1))end
def e12(b:Nat)(a:LR2):Option (Bool):=e34 b a>>=λr1=>if r1 then e35 b a>>=λr4=>if r4 then D2 b a 0 else some false else some false
theorem zFo:∀b:Nat,(∀a c,Lz (D2 b a c) 0 Tryz.f12 (pt 4021 Tryz.f12) (λj=>sp j 44 0 [(0,zN vJ a .no),(3,ai c)]) ⟨[],0,[],0,[]⟩ (λr=>ab r) (λ_=>[]) 0 [.blk 0,.seq (pt 63 Tryz.f12)])/\(∀a c d,Lz (T9 b a c d) 0 Tryz.f12 (pt 65894901 Tryz.f12) (λj=>sp j 44 0 [(0,zN vJ a .no),(3,ai c),(4,ai d)]) ⟨[],0,[],0,[]⟩ (λr=>ab r) (λ_=>[]) 0 [.blk 2,.blk 1,.seq (pt 64351 Tryz.f12),.loop (pt 4021 Tryz.f12),.blk 0,.seq (pt 63 Tryz.f12)]):=xX ⟨λ_ _=>lN,λ_ _ _=>lN⟩ λb ih=>⟨λa c=>lw λ_=>rB 1 (rA 0 (zJb (o:=.no)) λ_=>rC 1 [] c36 λ_=>rB 0 (lE 0)<|lH 0 [] [] [] [0,3,4] (ih.2 _ _ _))<|lE 0,λa c d=>lw λ_=>rB 1 (rA 0 (zJb (o:=.no)) λ_=>rA 1 (zJb (o:=.no)) λ_=>rK 1 [] c37 (λ_=>lE 0) λ_=>lH 1 [] [] [] [0,3,4] (ih.2 _ _ _))<|lH 1 [] [] [] [0,3] (ih.1 _ _)⟩
theorem c12{b a}:Cz (e12 b a) 12 [] [zN vJ a .no] (λr=>ab r) (λ_=>[]) 0:=fw func12<|rK 0 [] c34 (λ_=>rK 1 [] c35 (λ_=>fH 1 [] [] [] [0,3] (((zFo _).1) _ _)) λ_=>fE 1) λ_=>fE 1
theorem zKb{n:Int}(h0:0<=n)(h1:n<=1048576):zF (λq=>e57 q n) true:=by simp only[e57];exact zF.ifT (decide_eq_true h0) (zF.ret.eq (decide_eq_true h1))
theorem aY(D:List uX)(hl:D.length<=256):∀(r:List uX)(v:Nat),D.drop v=r->(∀x∈r,0<=x.n_/\x.n_<=1048576/\zG x.type_=true)->zF (λq=>T7 q D (v:Int)) true|[],v,hd,h=>by refine zF.succ ?_;simp only[T7];exact zF.ifF (zY hd) (zF.ret.eq (decide_eq_true (by omega)))|x::r,v,hd,h=>by have hlt:=yC hd;obtain⟨h0,h1,h2⟩:=h x (by simp);refine zF.succ ?_;simp only[T7];refine zF.ifT (zX hd) (zF.pure (zV hd) ((zKb h0 h1).bind (zF.ifT rfl (((zKc x.type_ (yB h2)).eq h2).bind (zF.ifT rfl ?_)))));rw[zU v (by omega)];exact aY D hl r (v+1) (zR hd) λy hy=>h y (by simp[hy])
theorem Y1(D:List uX)(n:Int)(hl:D.length<=256)(v:Nat)(x:uX)(hx:D[v]?=some x)(hn:x.n_=n)(hb:∀(k:Nat)(y:uX),k<v->D[k]?=some y->y.n_≠n):∀(m k:Nat),k+m=v->zF (λq=>gW q D n (k:Int)) (v:Int)
 |0,k,hk=>by
  have hv:=(List.getElem?_eq_some_iff.1 hx).1;obtain rfl:k=v:=by omega
  refine zF.succ ?_;simp only[gW];exact zF.ifT (decide_eq_true (by omega)) (zF.pure (wX hx) (zF.ifT (by simp[hn]) zF.ret))|m+1,k,hk=>by have hv:=(List.getElem?_eq_some_iff.1 hx).1;obtain⟨y,hy⟩:∃y,D[k]?=some y:=⟨_,List.getElem?_eq_getElem (by omega)⟩;refine zF.succ ?_;simp only[gW];refine zF.ifT (decide_eq_true (by omega)) (zF.pure (wX hy) (zF.ifF (by simpa using hb k y (by omega) hy) ?_));rw[zU k (by omega)];exact Y1 D n hl v x hx hn hb m (k+1) (by omega)
theorem Y2(D:List uX)(hl:D.length<=256)(hnd:(D.map (·.n_)).Nodup):∀(r:List uX)(v:Nat),D.drop v=r->zF (λq=>T8 q D (v:Int)) true
 |[],v,hd=>by refine zF.succ ?_;simp only[T8];exact zF.ifF (zY hd) zF.ret|x::r,v,hd=>by
  have hlt:=yC hd;have hx:D[v]?=some x:=by rw[<-List.head?_drop,hd];rfl
  have hp:zF (λq=>e16 q D x.n_) (v:Int):=by simp only[e16];refine Y1 D x.n_ hl v x hx rfl (λk y hk hy e=>?_) v 0 (by omega);have:=(List.pairwise_iff_getElem.1 hnd) k v (by simp;omega) (by simp;omega) hk;rw[List.getElem_map,List.getElem_map]at this;obtain⟨a1,a2⟩:=List.getElem?_eq_some_iff.1 hx;obtain⟨b1,b2⟩:=List.getElem?_eq_some_iff.1 hy;rw[a2,b2]at this;exact this e
  refine zF.succ ?_;simp only[T8];refine zF.ifT (zX hd) (zF.pure (zV hd) (hp.bind (zF.ifF (by simp) ?_)));rw[zU v (by omega)];exact Y2 D hl hnd r (v+1) (zR hd)
theorem N1(D:List uX)(hl:D.length<=256)(x:uX)(v:Nat)(hx:zS D (v:Int)=some x)(hs:zG x.type_=true)(K:zF (λq=>D2 q D (xC ((v:Int)+1))) true):∀(r:List uX)(k:Nat),D.drop k=r->(∀y∈r,¬y.n_∈wL x.type_)->zF (λq=>T9 q D (v:Int) (k:Int)) true|[],k,hd,h=>by refine zF.succ ?_;simp only[T9];exact zF.ifF (zY hd) K|y::r,k,hd,h=>by have hlt:=yC hd;refine zF.succ ?_;simp only[T9];refine zF.ifT (zX hd) (zF.pure hx (zF.pure (zV hd) ((zKf hs (h y (by simp))).bind (zF.ifF rfl ?_))));rw[zU k (by omega)];exact N1 D hl x v hx hs K r (k+1) (zR hd) λz hz=>h z (by simp[hz])
theorem N2(D:List uX)(hl:D.length<=256):∀(r:List uX)(v:Nat),D.drop v=r->(∀x∈r,zG x.type_=true/\kO x.type_ 0<=0/\¬x.n_∈wL x.type_)->(r.Pairwise λv w=>¬w.n_∈wL v.type_)->zF (λq=>D2 q D (v:Int)) true
 |[],v,hd,h,hp=>by refine zF.succ ?_;simp only[D2];exact zF.ifF (zY hd) zF.ret|x::r,v,hd,h,hp=>by
  have hlt:=yC hd;obtain⟨h0,h1,h2⟩:=h x (by simp);have hh:=zL h0;have hp':=List.pairwise_cons.1 hp;refine zF.succ ?_;simp only[D2];refine zF.ifT (zX hd) (zF.pure (zV hd) ((zDF x.type_ 0 hh.2.2 (by omega) (by omega)).bind (zF.ifF (decide_eq_false (by omega)) ?_)));refine N1 D hl x v (zV hd) h0 ?_ (x::r) v hd λy hy=>?_;·rw[zU v (by omega)];exact N2 D hl r (v+1) (zR hd) (λy hy=>h y (by simp[hy])) hp'.2
  ·rcases List.mem_cons.1 hy with rfl|hy;·exact h2
   ·exact hp'.1 y hy
theorem zIn{c:List zJ}(h:fM c)(hm:∀v∈c,kO v.type_ 0<=0):zF (λq=>e12 q (ofV c)) true:=by
 have hl:(ofV c).length<=256:=by unfold ofV;rw[List.length_map];exact h.len
 have hmem:∀x∈ofV c,∃v∈c,x=uX.mk v.n_ v.type_:=λx hx=>by obtain⟨v,hv,rfl⟩:=List.mem_map.1 hx;exact⟨v,hv,rfl⟩
 simp only[e12,e34,e35];refine(aY (ofV c) hl _ 0 rfl λx hx=>?_).bind (zF.ifT rfl ((Y2 (ofV c) hl ?_ _ 0 rfl).bind (zF.ifT rfl (N2 (ofV c) hl _ 0 rfl (λx hx=>?_) ?_))));·obtain⟨v,hv,rfl⟩:=hmem x hx;exact⟨(h.each v hv).1,(h.each v hv).2.1,(h.each v hv).2.2.1⟩
 ·unfold ofV;rw[List.map_map];exact h.nd
 ·obtain⟨v,hv,rfl⟩:=hmem x hx;exact⟨(h.each v hv).2.2.1,hm v hv,h.self v hv⟩
 ·unfold ofV;rw[List.drop_zero,List.pairwise_map];exact h.ord
def bS:Nat->xK->xU->Int->Option (Bool)|0,_,_,_=>none|c+1,M,b,a=>if decide (a<(b.length:Int))then zS b a>>=λx5=>zHY c M>>=λr7=>e68 c x5.type_ 0 r7>>=λr9=>if r9 then bS c M b (xC (a+1))else some false else some true
def zWe(c:Nat)(M:xK)(b:xU):Option (Bool):=e50 c b>>=λr1=>if r1 then bS c M b 0 else some false
theorem zWd:∀c:Nat,∀M b a,Lz (bS c M b a) 2 f189 (pt 4021 f189) (λj=>sp j 27 0 [(0,.mp 0 0),(14,zN zD b .no),(15,ai (b.length:Int)),(16,ai a)]) ⟨[(0,mB M 1),(1,mR M)],2,[],0,[]⟩ (λr=>ab r) (λ_=>[mB M 1,mR M]) 0 [.blk 0,.seq (pt 63 f189)]:=xX (λ_ _ _=>lN) λc ih=>λM b a=>lw λ_=>rB 0 (rA 0 (Q3 (o:=.no)) λ_=>rC 3 [0,1] zWz λ_=>rK 0 [] c68 (λ_=>lH 2 [] [0,1] [] [0,14,15,16] (ih _ _ _)) λ_=>lE 1)<|lE 0
theorem yFx{c M b}:Cz (zWe c M b) 189 [mB M 1,mR M] [.mp 0 0,zN zD b .no] (λr=>ab r) (λ_=>[mB M 1,mR M]) 0:=fw func189<|rK 1 [] c50 (λ_=>fH 2 [] [0,1] [] [0,14,15,16] (zWd _ _ _ _)) λ_=>fE 1
def zTt(b:Nat)(M:xK)(a:xU)(c d e:Int):Option ((Int×Int×Int×Int×xH×xU×Int×yU×yU)⊕(Int×Int×Int×Int)):=zWe b M a>>=λr1=>if r1 then e67 b M>>=λr4=>zWj b M r4 a c d e>>=λr6=>some (Sum.inl (r6.1,r6.2.2.2.1,r6.2.2.2.2.1,r6.2.2.2.2.2,r4,a,c,r6.2.1,r6.2.2.1))else some (Sum.inr (0,5,d,e))
theorem zZP{b M a c d e}:Cz (zTt b M a c d e) 151 [mB M 1,mR M,.cells [ai d,ai e]] [.mp 0 0,zN zD a .no,ai c,.mp 2 0] (Sum.elim (λx=>.tup [.mp 3 0,ai x.1,ai x.2.1]) (λx=>.tup [.val (.pointer none),ai x.1,ai x.2.1])) (Sum.elim (λx=>[mB M 1,mR M,.cells [ai x.2.2.1,ai x.2.2.2.1],.cells [.mp 0 0,zN xA x.2.2.2.2.1 .no,zN zD x.2.2.2.2.2.1 .no,ai x.2.2.2.2.2.2.1,.mp 2 0,zN zA x.2.2.2.2.2.2.2.1 .no,zN zA x.2.2.2.2.2.2.2.2 .no]]) (λx=>[mB M 1,mR M,.cells [ai x.2.2.1,ai x.2.2.2]])) 0:=fw func151<|rK 0 [0,1] yFx (λ_=>rC 1 [0,1] c67 λ_=>rC 1 [0,1,2] yEV λ_=>fF 6 [0,1,2,3]) λ_=>fE 1
def zWc(a:Nat)(M:xK)(c:xU)(d b e f:Int):Option (zW×Int×Int×Int):=zTt a M c d e f>>=λr1=>match r1 with|Sum.inl y3=>if y3.2.1 !=0 then some ((zW.mk 0 false [] [] []),y3.2.1,y3.2.2.1,y3.2.2.2.1)else zS y3.2.2.2.2.1 y3.1>>=λx5=>zHN a x5.cons b>>=λr7=>if r7 then zWh a M y3.2.2.2.2.1 y3.2.2.2.2.2.1 y3.2.2.2.2.2.2.1 y3.2.2.1 y3.2.2.2.1 y3.2.2.2.2.2.2.2.1 y3.2.2.2.2.2.2.2.2 b>>=λr10=>some (r10.1,r10.2.1,r10.2.2.1,r10.2.2.2)else some ((zW.mk 0 false [] [] []),16,y3.2.2.1,y3.2.2.2.1)|Sum.inr y12=>if y12.2.1 !=0 then some ((zW.mk 0 false [] [] []),y12.2.1,y12.2.2.1,y12.2.2.2)else none
theorem yFw{a M c d b e f}:Cz (zWc a M c d b e f) 153 [mB M 1,mR M,.cells [ai e,ai f]] [.mp 0 0,zN zD c .no,ai d,ai b,.mp 2 0] (λr=>.tup [mV r.1,ai r.2.1]) (λr=>[mB M 1,mR M,.cells [ai r.2.2.1,ai r.2.2.2]]) 0:=fw func153<|rC 0 [0,1,2] zZP<|sD (λ_=>rB 3 (fE 1)<|rA 1 (wM (o:=.no)) λ_=>rK 1 [] zSG (λ_=>rC 1 [4,0,1,2] yEY λ_=>fE 3) λ_=>fE 2) λ_=>rB 3 (fE 1) rN
def N3(t:Nat)(s c:Int)(d e:xH)(f:sA)(g m:yD)(n:xU)(p q b:Int)(a:List zW):Option (Int×Int×Int×List zW):=if c==0 then zWc t (xK.mk d e f g m) n p s q b>>=λr2=>yX 88 a [r2.1]>>=λl4=>some (r2.2.1,r2.2.2.1,r2.2.2.2,l4)else some (c,q,b,a)
theorem zTs{t s c d e f g m n p q b a}:Cz (N3 t s c d e f g m n p q b a) 152 [.cells [ai c],.cells [.mp 2 0],qB d 3 g m,qR e f,.cells [zN zD n .no],.cells [ai p],.cells [.mp 7 0],.cells [ai q,ai b],.cells [.ms 9 0 a.length a.length 5],.row (zC yY a)] [ai s,.mp 0 0,.mp 1 0,.mp 4 0,.mp 5 0,.mp 6 0,.mp 8 0] (λ_=>.tup []) (λr=>[.cells [ai r.1],.cells [.mp 2 0],qB d 3 g m,qR e f,.cells [zN zD n .no],.cells [ai p],.cells [.mp 7 0],.cells [ai r.2.1,ai r.2.2.1],.cells [.ms 10 0 r.2.2.2.length r.2.2.2.length 5],.dead,.row (zC yY r.2.2.2)]) 0:=fw func152<|rB 1 (rC 4 [2,3,7] yFw λ_=>rW (λh5=>oM 7 (zXX h5 (by simp))) λ_=>fF 1 [0,1,2,3,4,5,6,7,8,9,11])<|fG 0 [(some 9,0,0)] [0,1,2,3,4,5,6,7,8,9,10] [] false
def gX:Nat->xK->xU->Int->yI->Int->Int->Int->Int->(List zW)->Option ((List zW×Int×Int×Int)⊕(List zW×Int×Int×Int))|0,_,_,_,_,_,_,_,_,_=>none|p+1,M,e,f,x5,g,b,c,d,a=>if decide (g<(x5.cons.length:Int))then zS x5.cons g>>=λx8=>N3 p x8 d M.l M.rl M.parts M.args M.own e f b c a>>=λr10=>gX p M e f x5 (xC (g+1)) r10.2.1 r10.2.2.1 r10.1 r10.2.2.2 else if d !=0 then some (Sum.inl ([],d,b,c))else I9 a.length a>>=λl13=>some (Sum.inr (l13,0,b,c))
def zIm(p:Nat)(M:xK)(e:xU)(f m n:Int):Option ((List zW×Int×Int×Int)⊕(List zW×Int×Int×Int)):=zTt p M e f m n>>=λr1=>match r1 with|Sum.inl y3=>if y3.2.1 !=0 then some (Sum.inl ([],y3.2.1,y3.2.2.1,y3.2.2.2.1))else zS y3.2.2.2.2.1 y3.1>>=λx5=>gX p M e f x5 0 y3.2.2.1 y3.2.2.2.1 y3.2.1 ([]:List zW)|Sum.inr y7=>if y7.2.1 !=0 then some (Sum.inl ([],y7.2.1,y7.2.2.1,y7.2.2.2))else none
def zOV(j:Nat->Value)(M:xK)(e:xU)(f:Int)(x5:yI)(g b c d:Int)(a:List zW):=sp j 51 0 [(12,.mp 3 0),(13,.mp 4 0),(14,.clo 152 [] [.mp 3 0,.mp 5 0,.mp 6 0,.mp 7 0,.mp 8 0,.mp 4 0]),(37,zN zZ x5.cons .no),(38,ai (x5.cons.length:Int)),(39,ai g)]
def zOW(M:xK)(e:xU)(f:Int)(x5:yI)(g b c d:Int)(a:List zW):xB:=⟨[(0,mB M 1),(1,mR M),(2,.cells [ai b,ai c]),(3,.cells [ai d]),(4,.cells [.ms 9 0 a.length a.length 5]),(5,.cells [.mp 0 0]),(6,.cells [zN zD e .no]),(7,.cells [ai f]),(8,.cells [.mp 2 0]),(9,.row (zC yY a))],10,[],0,[]⟩
abbrev zKa(M:xK)(e:xU)(f m n:Int)(r:List zW×Int×Int×Int)(C:Cf):Prop:=C 110 [mB M 1,mR M,.cells [ai m,ai n]] [.mp 0 0,zN zD e .no,ai f,.mp 2 0] (.tup [.sl (zC yY r.1) r.1.length .no,ai r.2.1]) [mB M 1,mR M,.cells [ai r.2.2.1,ai r.2.2.2]] 0
abbrev zKA(M:xK)(e:xU)(f m n:Int)(r:List zW×Int×Int×Int)(C:Cf):Prop:=C 110 [mB M 1,mR M,.cells [ai m,ai n]] [.mp 0 0,zN zD e .no,ai f,.mp 2 0] (.tup [.ms 3 0 r.1.length r.1.length 5,ai r.2.1]) [mB M 1,mR M,.cells [ai r.2.2.1,ai r.2.2.2],.row (zC yY r.1)] 0
theorem zWb:Qf 110 f110:=⟨func110,by kernel_rfl⟩
theorem zKB{M e f m n r}(h:zKa M e f m n r Ci):zKa M e f m n r Ct:=⟨h,⟨(lz rfl),⟨tv,yE _⟩,tv,(lz rfl),tv⟩,(fMa (lz rfl) (yJ ⟨tv,tv,tv⟩ yN)),⟨uN _,tv,tv⟩,(fMf (lz rfl) (yJ ⟨tv,tv,tv⟩ yN))⟩
theorem zZQ{M e f m n r}(h:zKA M e f m n r Ci):zKA M e f m n r Ct:=⟨h,⟨(lz rfl),⟨tv,yE _⟩,tv,(lz rfl),tv⟩,(fMa (lz rfl) (yJ ⟨tv,tv,tv⟩ yN)),⟨(lz rfl),tv,tv⟩,(fMf (lz rfl) (yJ ⟨tv,tv,tv⟩ (yJ (uN _) yN)))⟩
theorem zMD:∀p:Nat,(∀M e f x5 g b c d a r,gX p M e f x5 g b c d a=some r->(∀j,Dl prog 3 (pt 262069 f110) (zOV j M e f x5 g b c d a) (zOW M e f x5 g b c d a) (vF prog 3 ((match(generalizing:=false)r with|Sum.inl x=>nB prog 3 f110 (.tup [.sl (zC yY x.1) x.1.length .no,ai x.2.1]) [mB M 1,mR M,.cells [ai x.2.2.1,ai x.2.2.2]] 0|Sum.inr x=>nB prog 3 f110 (.tup [.ms 3 0 x.1.length x.1.length 5,ai x.2.1]) [mB M 1,mR M,.cells [ai x.2.2.1,ai x.2.2.2],.row (zC yY x.1)] 0)) [.blk 0,.seq (pt 4095 f110)]))):=by intro p;induction p with|zero=>exactλ_ _ _ _ _ _ _ _ _ _ h=>nn h|succ p ih=>
 intro M e f x5 g b c d a r h;rw[gX]at h;rcases w9 h with⟨h7,h⟩|⟨h7,h⟩;obtain⟨x8,h9,h⟩:=wS h;obtain⟨r10,h11,h⟩:=wS h;exactλj=>olH 1 [] [0,1,2,3,4,5,6,7,8,10] [] [12,13,14,37,38,39] (oD (dI x5.cons)<|oD (uN r10.2.2.2)<|oD (yE e)<|Q4 M<|oC 1 [3,5,0,1,6,7,8,2,4,9] (zTs _ h11)<|oA 0 (oV (o:=.no) h9)<|oB 0 h7 o0) (ih _ _ _ _ _ _ _ _ _ _ h);have k:=oB 0 h7 o0;rcases w9 h with⟨h12,h⟩|⟨h12,h⟩;obtain rfl:=sj h;exactλj=>olF 1 [0,1,2] (oD (uN ([]:List zW))<|Q4 M<|oB 1 h12 k);obtain⟨l13,h14,h⟩:=wS h;obtain⟨h14a,h14b⟩:=rG h14;obtain rfl:=sj h;obtain rfl:=h14a.symm;try dsimp only
 rw[<-h14b];exactλj=>olF 1 [0,1,2,9] (oD (uN a)<|Q4 M<|oB 1 h12 k)
theorem yCD{p M e f m n r}(h:zIm p M e f m n=some r):(match(generalizing:=false)r with|Sum.inl x=>zKa M e f m n x Ct|Sum.inr x=>zKA M e f m n x Ct):=by unfold zIm at h;obtain⟨r1,h2,h⟩:=wS h;rcases r1 with y3|y7;dsimp only at h;have k:=oC 4 [0,1,2] (zZP _ h2) o0;rcases w9 h with⟨h4,h⟩|⟨h4,h⟩;obtain rfl:=sj h;exact zKB (tF zWb 1 [0,1,2] (oD (uN ([]:List zW))<|Q4 M<|oB 5 h4 k));obtain⟨x5,h6,h⟩:=wS h;rcases r with y0|y1;exact zKB (tH zWb 2 [(some 9,0,4101)] [0,1,2,8,9,3,4,5,6,10] [] [12,13,14,37,38,39] (oD (dI x5.cons)<|oD (uN ([]:List zW))<|oD (yE e)<|Q4 M<|oA 1 (wM (o:=.no) h6)<|oB 5 h4 k) (zMD _ _ _ _ _ _ _ _ _ _ _ h));exact zZQ (tH zWb 2 [(some 9,0,4101)] [0,1,2,8,9,3,4,5,6,10] [] [12,13,14,37,38,39] (oD (dI x5.cons)<|oD (uN ([]:List zW))<|oD (yE e)<|Q4 M<|oA 1 (wM (o:=.no) h6)<|oB 5 h4 k) (zMD _ _ _ _ _ _ _ _ _ _ _ h));dsimp only at h;have k:=oC 4 [0,1,2] (zZP _ h2) o0;obtain⟨h8,h⟩:=spT h;obtain rfl:=sj h;exact zKB (tF zWb 1 [0,1,2] (oD (uN ([]:List zW))<|Q4 M<|oB 5 h8 k))
theorem yCE{p M e f m n r}(h:zIm p M e f m n=some r):(match(generalizing:=false)r with|Sum.inl x=>CT prog 110 [mB M 1,mR M,.cells [ai m,ai n]] [.mp 0 0,zN zD e .no,ai f,.mp 2 0] (.tup [.sl (zC yY x.1) x.1.length .no,ai x.2.1]) [mB M 1,mR M,.cells [ai x.2.2.1,ai x.2.2.2]] 0|Sum.inr x=>CT prog 110 [mB M 1,mR M,.cells [ai m,ai n]] [.mp 0 0,zN zD e .no,ai f,.mp 2 0] (.tup [.sl (zC yY x.1) x.1.length .no,ai x.2.1]) [mB M 1,mR M,.cells [ai x.2.2.1,ai x.2.2.2]] 0):=by
 have k:=yCD h;rcases r with y0|y1;·exact k
 ·exact CT.freeze (H1:=[mB M 1,mR M,.cells [ai y1.2.2.1,ai y1.2.2.2]]) (cs:=zC yY y1.1) (res':=(.tup [.sl (zC yY y1.1) y1.1.length .no,ai y1.2.1])) k (Nat.le_of_ble_eq_true rfl) (fMf (lz rfl) (yJ ⟨tv,tv,tv⟩ yN)) (uN _) ⟨(.inl ⟨rfl,rfl⟩),trivial,tv⟩ (by rfl) rfl
theorem yCF{p M e f m n}:Cz (zIm p M e f m n) 110 [mB M 1,mR M,.cells [ai m,ai n]] [.mp 0 0,zN zD e .no,ai f,.mp 2 0] (Sum.elim (λx=>.tup [.sl (zC yY x.1) x.1.length .no,ai x.2.1]) (λx=>.tup [.sl (zC yY x.1) x.1.length .no,ai x.2.1])) (Sum.elim (λx=>[mB M 1,mR M,.cells [ai x.2.2.1,ai x.2.2.2]]) (λx=>[mB M 1,mR M,.cells [ai x.2.2.1,ai x.2.2.2]])) 0:=λr h=>by have k:=yCE h;rcases r with _|_<;>exact k
theorem zIl(l:List yI)(hl:l.length<=60)(he:∀e∈l,jM e)(hc:∀e∈l,ECl e):zF (λq=>e29 q l) (zOo l false)\/∃N,vA N l/\zF (λq=>e29 q l) (zOo l true)/\zF (λq=>s5 q l) true:=by obtain⟨N,hN⟩:=zRa;obtain⟨b,hb,hA,hn⟩:=zVt N hN l (by omega) he hc;cases b with|false=>exact .inl hn|true=>exact .inr ⟨N,hA rfl,hn,hb⟩
abbrev StT:=(Int×Int×Int×Int×List yI×List zJ×Int×List Tm×List Tm)⊕(Int×Int×Int×Int)
section
variable{N:ByteArray->Bool}{l:List yI}(hE:vA N l)(he:∀e∈l,jM e)(hl:l.length<=65535)(hcl:∀e∈l,ECl e)
theorem zBb(c:List zJ)(hl:c.length<=1048576)(ho:∀v∈c,v.type_.Ok):∀(r:List zJ)(v:Nat),c.drop v=r->(∀w∈c.take v,uU l w.type_)->zH (λq=>bS q (xI l) c (v:Int)) λb=>b=true->∀w∈c,uU l w.type_
 |[],v,hd,hm=>by
  refine zH.succ ?_;simp only[bS];refine zH.ite (λh=>?_) λ_=>zH.ret λ_ w hw=>hm w ?_;·rw[zY hd]at h;cases h
  ·rwa[List.take_of_length_le (List.drop_eq_nil_iff.1 hd)]|x::r,v,hd,hm=>by
  have hlt:=yC hd;have hx:=ho x (List.mem_of_mem_drop (by rw[hd];simp));have hLen:zF (λq=>zHY q (xI l)) (l.length:Int):=zF.mk λ_=>rfl;refine zH.succ ?_;simp only[bS];refine zH.ite (λ_=>zH.pure (zV hd) (zH.bind (P:=λk=>k=(l.length:Int)) (hLen.tot rfl) λk hk=>zH.bind (P:=λb=>b=qA x.type_ 0 l.length) ((kB x.type_ 0 k hx).tot (by rw[hk])) λb hb=>zH.ite (λh=>?_) λ_=>zH.ret λh=>by cases h)) λh=>?_
  ·rw[zU v (by omega)];refine zBb c hl ho r (v+1) (zR hd) λw hw=>?_;rw[tE hd]at hw;rcases List.mem_append.1 hw with hw|hw;·exact hm w hw
   ·rw[List.mem_singleton.1 hw];rw[hb]at h;exact h
  ·rw[zX hd]at h;cases h
include hE he hl hcl
end
theorem yCG{t:Tm}{b c k z:Int}(h:z∈wL (aS t b c k)):z∈wL t:=(qF (Q:=λz=>z∈wL t)).2 (cX t b c k (qF.1 λx h=>h)) z h
theorem zBa(p1 p2:Int):∀(r l acc:List Tm)(v:Nat),l.drop v=r->l.length<=1073741824->uT l->uT acc->acc.length+r.length<=l.length->(∀a∈acc,∀z∈wL a,∃b∈l,z∈wL b)->zH (λq=>mZ q l p1 p2 (v:Int) acc) (λx=>uT x.1/\x.1.length<=l.length/\∀a∈x.1,∀z∈wL a,∃b∈l,z∈wL b)
 |[],l,acc,v,hd,hl,ho,ha,hv,hf=>by refine zH.succ ?_;simp only[mZ];refine zH.ite (λh=>?_) λ_=>zH.ret ⟨ha,by simpa using hv,hf⟩;rw[zY hd]at h;cases h|t::r,l,acc,v,hd,hl,ho,ha,hv,hf=>by
  have hlt:=yC hd;have hm:t∈l:=List.mem_of_mem_drop (by rw[hd];simp);refine zH.succ ?_;simp only[mZ];refine zH.ite (λ_=>?_) λh=>?_
  ·refine zH.pure (zV hd) (zH.bind (P:=λr=>r.1.Ok/\(r.2=0->∀z∈wL r.1,z∈wL t)) ((zEH t p1 p2 (ho.at hd)).tot ⟨kE t p1 p2 (ho.at hd),λh z hz=>?_⟩) λr4 h4=>zH.ite (λ_=>zH.ret ⟨uT.nil,by simp,λa h=>nomatch h⟩) λh=>?_);·rw[(iC h).2.2.2.2]at hz;exact yCG hz
   rw[List.length_cons]at hv;refine zH.pure (yF (by simp<;>omega)) ?_;rw[zU v (by omega)];refine zBa p1 p2 r l _ (v+1) (zR hd) hl ho (ha.app (uT.one h4.1)) (by simp<;>omega) λa h' z hz=>?_;rcases List.mem_append.1 h' with h'|h';·exact hf a h' z hz
   ·rw[List.mem_singleton.1 h']at hz;exact⟨t,hm,h4.2 (by simpa using h) z hz⟩
  ·rw[zX hd]at h;cases h
theorem zDG(l:List Tm)(p1 p2:Int)(hl:l.length<=1073741824)(ho:uT l):zH (λq=>zHw q l p1 p2) (λx=>uT x.1/\x.1.length<=l.length/\∀a∈x.1,∀z∈wL a,∃b∈l,z∈wL b):=by simp only[zHw];exact zBa p1 p2 l l [] 0 rfl hl ho uT.nil (by simp) λa h=>nomatch h
theorem zOX(i:Nat)(hi:i<=65535)(t:Tm)(ht:t.Ok)(ls:List Tm)(h:ls.length<=1000000)(ho:∀a∈ls,a.Ok):zH (λq=>M8 q (i:Int) t ls) λr=>zOS t ls r:=by
 have many:∀y:List Tm,(∀a∈y,a.Ok)->y.length<=1000000000->(∀b∈y,∀z∈wL b,∃a∈ls,z∈wL a)->zH (λq=>C0 q t y>>=λr=>some (r.1,r.2)) λr=>zOS t ls r:=λy hy hl hf=>zH.bind (P:=λr=>zOS t ls r) ((t8 t y ht hy (by omega)).tot ⟨s4 t y ht hy,λh=>by obtain⟨-,-,h3,h4⟩:=s6 h;rw[h4];exact⟨h3,λz hz=>(zXh hz).imp id λ⟨b,hb,hz⟩=>hf b hb z hz⟩⟩) λr hr=>zH.ret hr;have rest:∀(r4:List Tm×Int),uT r4.1->r4.1.length<=1000000->(∀b∈r4.1,∀z∈wL b,∃a∈ls,z∈wL a)->zH (λq=>if(r4.2 !=0)=true then some (Tm.mk 0 0 [],r4.2)else zJU q (i:Int)>>=λr7=>zBi q r7>>=λr9=>match r9 with|Sum.inl y11=>yX 40 ([]:List Tm) r4.1>>=λl12=>C0 q t l12>>=λr15=>some (r15.1,r15.2)|Sum.inr y17=>yX 40 y17 r4.1>>=λl18=>C0 q t l18>>=λr21=>some (r21.1,r21.2)) λr=>zOS t ls r:=λr4 ha hl hf=>by
  refine zH.ite (λhne=>zH.ret ⟨wP 0 0,λh0=>by have e:r4.2=0:=h0;rw[e]at hne;cases hne⟩) λ_=>zH.bind (P:=λr=>r=iE i) ((zLX i (by omega)).tot rfl) λr7 h7=>?_;subst h7;have hv:∀m:Nat,(iE m).length=m/\∀x∈iE m,x.Ok/\∀z,¬z∈wL x:=λm=>by induction m with|zero=>exact⟨rfl,λx h=>nomatch h⟩|succ m ih=>
    refine⟨by rw[iE,List.length_cons,ih.1],λx hx=>?_⟩;rw[iE,List.mem_cons]at hx;rcases hx with rfl|hx;·exact⟨wP 1 m,λz h=>by simp[wL,sF,gD]at h⟩
    ·exact ih.2 x hx
  refine(T6 (iE i) (by rw[(hv i).1];omega)).bind λr9 h9=>?_;rcases h9 with⟨y,rfl,-⟩|⟨y,rfl,e,hm⟩
  ·refine zH.pure (yF (by simp only[List.length_nil];omega)) (many _ (λa h=>?_) (by simp only[List.nil_append];omega) λb h=>?_);·rw[List.nil_append]at h;exact ha a h
   ·rw[List.nil_append]at h;exact hf b h
  ·rw[(hv i).1]at e;refine zH.pure (yF (by omega)) (many _ (λa h=>?_) (by simp only[List.length_append];omega) λb h z hz=>?_)
   ·rcases List.mem_append.1 h with h|h;·exact((hv i).2 a (hm a h)).1
    ·exact ha a h
   ·rcases List.mem_append.1 h with h|h;·exact absurd hz (((hv i).2 b (hm b h)).2 z)
    ·exact hf b h z hz
 simp only[M8];refine(T6 ls h).bind λr hr=>?_;rcases hr with⟨y,rfl,e⟩|⟨y,rfl,e,hm⟩;·exact(zDG [] (i:Int) 0 (by simp) (λ_ h=>nomatch h)).bind λr4 h4=>rest r4 h4.1 (by have:=h4.2.1;simp at this;simp[this]) λb h z hz=>by obtain⟨c,hc,-⟩:=h4.2.2 b h z hz;cases hc
 ·exact(zDG y (i:Int) 0 (by omega) (λa ha=>ho a (hm a ha))).bind λr4 h4=>rest r4 h4.1 (by have:=h4.2.1;omega) λb h z hz=>by obtain⟨c,hc,hz⟩:=h4.2.2 b h z hz;exact⟨c,hm c hc,hz⟩
theorem zDH(p0 ls:List Tm)(hp:p0.length<=65535)(ho0:uT p0)(h:ls.length<=1000000)(ho:∀a∈ls,a.Ok):∀(r:List Tm)(v:Nat)(acc:List Tm),p0.drop v=r->acc.length=v->v<=p0.length->uT acc->(∀t∈acc,∀z∈wL t,(∃u∈p0,z∈wL u)\/∃a∈ls,z∈wL a)->zH (λq=>pR q p0 ls (v:Int) acc) λx=>uT x.1/\x.1.length<=p0.length/\∀t∈x.1,∀z∈wL t,(∃u∈p0,z∈wL u)\/∃a∈ls,z∈wL a
 |[],v,acc,hd,ha,hv,hoa,hf=>by refine zH.succ ?_;simp only[pR];refine zH.ite (λh=>?_) λ_=>zH.ret ⟨hoa,by show acc.length<=_;omega,hf⟩;rw[zY hd]at h;cases h|t::r,v,acc,hd,ha,hv,hoa,hf=>by
  have hlt:=yC hd;have ht:t∈p0:=List.mem_of_mem_drop (by rw[hd];simp);refine zH.succ ?_;simp only[pR];refine zH.ite (λ_=>zH.pure (zV hd) ((zOX v (by omega) t (ho0 t ht) ls h ho).bind λr4 h4=>zH.ite (λ_=>zH.ret ⟨(λx hx=>nomatch hx),Nat.zero_le _,λt h=>nomatch h⟩) λh0=>zH.pure (yF (by simp;omega)) ?_)) λh=>?_
  ·rw[zU v (by omega)];refine zDH p0 ls hp ho0 h ho r (v+1) _ (zR hd) (by simp;omega) hlt (λx hx=>?_) λx hx z hz=>?_
   ·rcases List.mem_append.1 hx with hx|hx;·exact hoa x hx
    ·rw[List.mem_singleton.1 hx];exact h4.1
   ·rcases List.mem_append.1 hx with hx|hx;·exact hf x hx z hz
    ·rw[List.mem_singleton.1 hx]at hz;exact((h4.2 (by simpa using h0)).2 z hz).imp (λh=>⟨t,ht,h⟩) id
  ·rw[zX hd]at h;cases h
theorem zFn(p0 ls:List Tm)(hp:p0.length<=65535)(ho0:uT p0)(h:ls.length<=1000000)(ho:∀a∈ls,a.Ok):zH (λq=>zWl q p0 ls) λx=>uT x.1/\x.1.length<=p0.length/\∀t∈x.1,∀z∈wL t,(∃u∈p0,z∈wL u)\/∃a∈ls,z∈wL a:=by simp only[zWl,zBh];exact(zDH p0 ls hp ho0 h ho _ 0 [] rfl rfl (Nat.zero_le _) (λx h=>nomatch h) (λt h=>nomatch h)).bind λr hr=>zH.ret hr
theorem zBA(p0:List Tm)(hp:p0.length<=24)(ho:uT p0)(from0:Int)(h0:0<=from0)(h1:from0<=1048576):∀(r:List Tm)(v:Nat)(acc:List zJ),p0.drop v=r->acc.length=v->v<=p0.length->(∀w∈acc,from0<=w.n_/\w.type_.Ok)->(∀w∈acc,∀z∈wL w.type_,(∃u∈p0,z∈wL u)\/z∈acc.map (·.n_))->zH (λq=>T5 q p0 from0 (v:Int) acc) λx=>(∀w∈x.1,from0<=w.n_/\w.type_.Ok)/\x.1.length<=24/\(x.2=0->x.1.length=p0.length)/\∀w∈x.1,∀z∈wL w.type_,(∃u∈p0,z∈wL u)\/z∈x.1.map (·.n_)
 |[],v,acc,hd,ha,hv,hoa,hf=>by refine zH.succ ?_;simp only[T5];refine zH.ite (λh=>?_) λ_=>zH.ret ⟨hoa,by show acc.length<=_;omega,λ_=>by have:=List.drop_eq_nil_iff.1 hd;show acc.length=_;omega,hf⟩;rw[zY hd]at h;cases h|t::r,v,acc,hd,ha,hv,hoa,hf=>by
  have hlt:=yC hd;have ht:t∈p0:=List.mem_of_mem_drop (by rw[hd];simp);refine zH.succ ?_;simp only[T5];refine zH.ite (λ_=>zH.pure (zV hd) (zH.bind (P:=λr=>r=iM acc) ((M9 acc (by omega)).tot rfl) λr11 h11=>?_)) λh=>?_
  ·subst h11;refine(zDa t (iM acc) (ho t ht) (by unfold iM;simp;omega) (zFp acc)).bind λr13 h13=>zH.ite (λhne=>zH.ret ⟨(λx hx=>nomatch hx),by simp,λh0=>(by have e:r13.2=0:=h0;rw[e]at hne;cases hne),λw h=>nomatch h⟩) λhz0=>zH.pure (yF (by simp;omega)) ?_;rw[zU v (by omega),yS (x:=from0+v) (by omega) (by omega)];refine zBA p0 hp ho from0 h0 h1 r (v+1) _ (zR hd) (by simp;omega) hlt (λx hx=>?_) λx hx z hz=>?_
   ·rcases List.mem_append.1 hx with hx|hx;·exact hoa x hx
    ·rw[List.mem_singleton.1 hx];exact⟨by show from0<=from0+v;omega,h13.1⟩
   ·rw[List.map_append];rcases List.mem_append.1 hx with hx|hx;·exact(hf x hx z hz).imp id λh=>List.mem_append_left _ h
    ·rw[List.mem_singleton.1 hx]at hz;rcases(h13.2 (by simpa using hz0)).2 z hz with h|⟨a,ha',h⟩;·exact .inl ⟨t,ht,h⟩
     ·obtain⟨w,hw,e⟩:=N0 ha' h;exact .inr (List.mem_append_left _ (List.mem_map.2 ⟨w,hw,e⟩))
  ·rw[zX hd]at h;cases h
theorem zDI(p0:List Tm)(hp:p0.length<=65535)(ho:uT p0)(from0:Int)(h0:0<=from0):zH (λq=>e49 q p0 from0) λx=>(∀w∈x.1,from0<=w.n_/\w.type_.Ok)/\x.1.length<=24/\(x.2=0->x.1.length=p0.length)/\∀w∈x.1,∀z∈wL w.type_,(∃u∈p0,z∈wL u)\/z∈x.1.map (·.n_):=by have no:∀e:Int,e≠0->zH (λ_:Nat=>some (([]:List zJ),e)) λx=>(∀w∈x.1,from0<=w.n_/\w.type_.Ok)/\x.1.length<=24/\(x.2=0->x.1.length=p0.length)/\∀w∈x.1,∀z∈wL w.type_,(∃u∈p0,z∈wL u)\/z∈x.1.map (·.n_):=λe he=>zH.ret ⟨(λx hx=>nomatch hx),by simp,λh=>absurd h he,λw h=>nomatch h⟩;simp only[e49,e72];refine zH.ite (λ_=>no 5 (by decide)) λ_=>zH.ite (λ_=>no 5 (by decide)) λh1=>zH.ite (λ_=>no 5 (by decide)) λ_=>(zBf p0 hp ho _ 0 rfl).bind λb _=>zH.ite (λ_=>zH.ite (λ_=>no 2 (by decide)) λh2=>?_) λ_=>no 5 (by decide);have h1:=of_decide_eq_false h1;have h2:=of_decide_eq_false h2;exact zBA p0 (by omega) ho from0 h0 (by omega) _ 0 [] rfl rfl (Nat.zero_le _) (λx h=>nomatch h) λx h=>nomatch h
def me3{α:Type}:Me (α×Int×Int×Int):=⟨λr=>r.2.1,λr=>r.2.2.1,λr L=>(r.1,r.2.1,L,r.2.2.2)⟩
def meF:Me (Int×List Tm×List Tm×Int×Int×Int):=⟨λr=>r.2.2.2.1,λr=>r.2.2.2.2.1,λr L=>(r.1,r.2.1,r.2.2.1,r.2.2.2.1,L,r.2.2.2.2.2)⟩
def zTr:Me StT:=⟨λ|.inl x=>x.2.1|.inr x=>x.2.1,λ|.inl x=>x.2.2.1|.inr x=>x.2.2.1,λr L=>match r with|.inl x=>.inl (x.1,x.2.1,L,x.2.2.2)|.inr x=>.inr (x.1,x.2.1,L,x.2.2.2)⟩
def meA:Me ((List zW×Int×Int×Int)⊕(List zW×Int×Int×Int)):=⟨λ|.inl x=>x.2.1|.inr x=>x.2.1,λ|.inl x=>x.2.2.1|.inr x=>x.2.2.1,λr L=>match r with|.inl x=>.inl (x.1,x.2.1,L,x.2.2.2)|.inr x=>.inr (x.1,x.2.1,L,x.2.2.2)⟩
def Cl(c:List zJ)(t:Tm):Prop:=∀z∈wL t,z∈c.map (·.n_)
def ClC(c:List zJ):Prop:=∀v∈c,Cl c v.type_
theorem zTq{t:Tm}(h:zG t=true):¬(-1:Int)∈wL t:=λhz=>by have:=qF.2 (sL (λk n h e=>(h e).2) (D1 (zL h).2.2)) (-1) hz;omega
theorem zDJ(so:List zO)(hl:so.length<=1048576)(hs:∀s∈so,zG s.t_=true)(H:∀s∈so,∀r∈so,¬s.n_∈wL r.t_)(x:Tm)(hx:zG x=true):zH (λq=>zKd q so x) λy=>y.1.Ok/\(y.2=0->zG y.1=true/\(∀s∈so,¬s.n_∈wL y.1)/\∀M,(∀s∈so,¬M∈wL s.t_)->¬M∈wL x->¬M∈wL y.1):=by have ho:∀s∈so,s.t_.Ok:=λs h=>yB (hs s h);obtain⟨y,hy,h1,h2⟩:=zIr so hl ho H (-1) (λs h=>zTq (hs s h)) x hx (zTq hx);refine⟨y,hy,h1,λe=>⟨(h2 e).1,(h2 e).2.1,λM hM hn=>?_⟩⟩;obtain⟨y',hy',-,h3⟩:=zIr so hl ho H M hM x hx hn;obtain rfl:=hy.det hy';exact(h3 e).2.2
theorem Un.cover{l:List yI}{c:List zJ}{td:List zI}{so:List zO}{r:Option (List zJ×List zO)}(h:Un l c td so r):∀c' so',r=some (c',so')->(∀x∈c.map (·.n_),x∈c'.map (·.n_)\/x∈so'.map (·.n_))/\∀x∈so.map (·.n_),x∈so'.map (·.n_):=by induction h with
 |done=>intro c' so' e;cases e;exact⟨λx h=>.inl h,λx h=>h⟩|@sol c d e td so n t r a b hp e' f _ ih=>
  intro c' so' he;obtain⟨i1,i2⟩:=ih c' so' he;have hso:(so.map (naS t n)++[(⟨n,t⟩:zO)]).map (λx:zO=>x.n_)=so.map (λx:zO=>x.n_)++[n]:=by simp[naS,Function.comp_def]
  rw[hso]at i2;refine⟨λx hx=>?_,λx hx=>i2 x (List.mem_append_left _ hx)⟩;by_cases hn:x=n;·exact .inr (i2 x (by rw[hn];simp))
  ·exact i1 x (hp.perm.mem_iff.2 ((List.mem_erase_of_ne hn).2 hx))|cyc _ _=>intro _ _ e;cases e|conf _ _ _ _ _=>intro _ _ e;cases e|inj _ _ _ _ _ _ _ ih=>exact ih
def zBB(l:List yI)(c:List zJ)(b:zW):Prop:=b.yes_=false\/(b.yes_=true/\fM b.vars_/\(∀w∈b.vars_,uU l w.type_)/\b.solved_.length<=1048576/\(∀s∈b.solved_,zG s.t_=true/\∀r∈b.solved_,¬s.n_∈wL r.t_)/\(ClC c->ClC b.vars_/\(∀s∈b.solved_,Cl b.vars_ s.t_)/\∀x∈c.map (·.n_),x∈b.vars_.map (·.n_)\/x∈b.solved_.map (·.n_)))
def zWA(l:List yI)(c:List zJ)(T F:Int)(r:zW×Int×Int×Int):Prop:=r.2.1=0->zBB l c r.1/\Fu T r.2.2.1 r.2.2.2/\r.2.2.1<=F
def zZS(l:List yI)(c:List zJ)(n T F:Int)(r:Int×List Tm×List Tm×Int×Int×Int):Prop:=r.2.2.2.1=0->n∈c.map (·.n_)/\0<=r.1/\r.1<l.length/\(yA l r.1).cons.length<=16/\r.2.1.length<=8192/\r.2.2.1.length<=8192/\(∀t∈r.2.1,zG t=true/\¬n∈wL t)/\(∀t∈r.2.2.1,zG t=true/\¬n∈wL t)/\(ClC c->(∀t∈r.2.1,Cl c t)/\∀t∈r.2.2.1,Cl c t)/\Fu T r.2.2.2.2.1 r.2.2.2.2.2/\r.2.2.2.2.1<=F
def StC(l:List yI)(c:List zJ)(n T F:Int)(x:StT):Prop:=(∃d a b,x=.inr (d,5,a,b))\/∃d e fl fu p i,x=.inl (d,e,fl,fu,l,c,n,p,i)/\fM c/\(∀w∈c,uU l w.type_)/\zZS l c n T F (d,p,i,e,fl,fu)
section
variable{N:ByteArray->Bool}{l:List yI}(hE:vA N l)(he:∀e∈l,jM e)(hl:l.length<=65535)(hcl:∀e∈l,ECl e)
include hE he
theorem zKC(c:List zJ)(n:Int)(hc:fM c)(hm:∀w∈c,uU l w.type_){L U T:Int}(h0:0<=L)(h1:0<=U)(h2:L+U=T)(hT:T<=100000){d:Int}(hd:0<=d)(hdd:d<=100000):yH d meF (λL q=>zWj q (xI l) l c n L U) L (zZS l c n T L):=by
 have hcn:=hc.len;simp only[zWj,zSY];have no:∀(e L1 b:Int),e≠0->yH d meF (λL1(_:Nat)=>some ((0:Int),([]:List Tm),([]:List Tm),e,L1,b)) L1 (zZS l c n T L):=λe a b h=>yH.ret λh2=>absurd h2 h;refine yH.tot (zIq c n (by omega) hc _ 0 rfl) λr1 q1=>yH.ite (λh=>no _ _ _ (by simpa using h)) λh=>?_;obtain⟨w,hw,hwn,hwt⟩:=q1.2 (by simpa using h);have hmw:=hm w hw;have hsw:=(eU.1 hmw).1;refine yH.bind (S7 hE he (x:=r1.1) (by rw[hwt];exact yB hsw) h0 h1 hd (by omega)) λr4 q4=>?_;dsimp only[meB];refine yH.ite (λh=>no _ _ _ (by simpa using h)) λh=>?_;obtain⟨k,k0,k1,hbr,f1,f2⟩:=q4 (by simpa using h);rw[hwt]at hbr;obtain⟨hmy,hfy⟩:=hmw.br hE hbr;have hsy:=(eU.1 hmy).1;have hnf:¬n∈wL r4.1:=λhz=>hc.self w hw (by rw[hwn];exact hfy n hz);refine yH.tot (Q:=λr=>r=(yK r4.1,xF r4.1)) ((kD r4.1 hsy).tot rfl) λr7 q7=>?_;subst q7;have hsp:=zL hsy;have hlen:=sB r4.1 hsp.2.2;refine yH.ite (λ_=>no _ _ _ (by decide)) λh6=>?_;have h6:(yK r4.1).k=6:=by simpa using h6
 have hhd:=(nG r4.1 hsp.2.2 (eU.1 hmy).2.2).1;have hn0:=gN (zL (tS hsy)).2.2;have hn1:(yK r4.1).n<l.length:=by
  revert hhd h6;generalize yK r4.1=z;obtain⟨k,m,ls⟩:=z;intro h6 hhd;rw[xV]at hhd;rcases hhd.1 with q|q;·have:k=6:=h6;omega
  ·exact q (.inl h6)
 refine yH.pure (yT hn0 hn1) (yH.ite (λ_=>no _ _ _ (by decide)) λhk=>?_);have hk:(yA l (yK r4.1).n).kind=1:=by simpa using hk
 have hf:=uC ((xS (hE.2 _ hn0 hn1)).2.1 hk);rw[yS (x:=(yA l (yK r4.1).n).pars+(yA l (yK r4.1).n).inds) (by omega) (by omega)];refine yH.ite (λ_=>no _ _ _ (by decide)) λhq=>?_;have hq:((xF r4.1).length:Int)=(yA l (yK r4.1).n).pars+(yA l (yK r4.1).n).inds:=by simpa using hq
 have g1:mU (xF r4.1) 0 (yA l (yK r4.1).n).pars=some ((xF r4.1).take (yA l (yK r4.1).n).pars.toNat):=by unfold mU;rw[if_pos (by omega)];simp
 have g2:mU (xF r4.1) (yA l (yK r4.1).n).pars ((xF r4.1).length:Int)=some ((xF r4.1).drop (yA l (yK r4.1).n).pars.toNat):=qC hf.1 (by omega);refine yH.pure g1 (yH.pure g2 (yH.ret λ_=>?_));have hcl:ClC c->∀t∈xF r4.1,Cl c t:=λh t ht x hx=>h w hw x (hfy x ((hmy.ar ht).2 x hx));have ha:∀t∈xF r4.1,zG t=true/\¬n∈wL t:=λt ht=>⟨xN hsy ht,λhz=>hnf ((hmy.ar ht).2 n hz)⟩;refine⟨List.mem_map.2 ⟨w,hw,hwn⟩,hn0,hn1,hf.2.2.2,?_,?_,λt ht=>ha t (List.mem_of_mem_take ht),λt ht=>ha t (List.mem_of_mem_drop ht),λh=>⟨λt ht=>hcl h t (List.mem_of_mem_take ht),λt ht=>hcl h t (List.mem_of_mem_drop ht)⟩,?_⟩
 ·show((xF r4.1).take _).length<=_;rw[List.length_take];omega
 ·show((xF r4.1).drop _).length<=_;rw[List.length_drop];omega
 ·refine⟨⟨?_,?_,?_⟩,?_⟩;·show 0<=r4.2.2.1;omega
  ·show 0<=r4.2.2.2;omega
  ·show r4.2.2.1+r4.2.2.2=T;omega
  ·show r4.2.2.1<=L;omega
def zZT(c:List zJ)(pars:List Tm)(r:List zJ×List Tm×Int):Prop:=r.2.2=0->r.1.length<=24/\(∀w∈r.1,w.type_.Ok/\(∀v∈c,v.n_<w.n_)/\∀z∈wL w.type_,(∃a∈pars,z∈wL a)\/z∈r.1.map (·.n_))/\r.2.1.length<=8192/\∀t∈r.2.1,zG t=true/\∀z∈wL t,(∃a∈pars,z∈wL a)\/z∈r.1.map (·.n_)
theorem zBC(c:List zJ)(n L U:Int)(pars inds:List Tm)(r1:tZ×Int)(r10:List zJ×Int)(l17:List Tm)(hr:r1.1.inds.length<=8192)(hi:∀t∈r1.1.inds,t.Ok/\∀z,¬z∈wL t)(h24:r10.1.length<=24)(hw:∀w∈r10.1,w.type_.Ok/\(∀v∈c,v.n_<w.n_)/\∀z∈wL w.type_,(∃a∈pars,z∈wL a)\/z∈r10.1.map (·.n_))(hl17:l17.length<=1000000)(ho:∀a∈l17,a.Ok)(hf:∀t∈l17,∀z∈wL t,(∃a∈pars,z∈wL a)\/z∈r10.1.map (·.n_)):∀(r:List Tm)(v:Nat)(acc:List Tm),r1.1.inds.drop v=r->acc.length<=v->v<=r1.1.inds.length->(∀t∈acc,zG t=true/\∀z∈wL t,(∃a∈pars,z∈wL a)\/z∈r10.1.map (·.n_))->zH (λq=>bR q (xI l) l c n L U pars inds r1 r10 l17 acc (v:Int)) (zZT c pars)
 |[],v,acc,hd,ha,hvl,hacc=>by
  refine zH.succ ?_;simp only[bR];refine zH.ite (λh=>?_) λ_=>zH.ret λ_=>⟨h24,hw,?_,hacc⟩;·rw[zY hd]at h;cases h
  ·show acc.length<=8192;omega|t::r,v,acc,hd,ha,hvl,hacc=>by
  have hlt:=yC hd;have ht:=hi t (List.mem_of_mem_drop (by rw[hd];simp));refine zH.succ ?_;simp only[bR];refine zH.ite (λ_=>zH.pure (zV hd) ((zDa t l17 ht.1 hl17 ho).bind λr23 q=>zH.ite (λh=>zH.ret λh2=>?_) λh=>zH.pure (yF (by simp;omega)) ?_)) λh=>?_
  ·have:r23.2≠0:=by simpa using h
   exact absurd h2 this
  ·rw[zU v (by omega)];refine zBC c n L U pars inds r1 r10 l17 hr hi h24 hw hl17 ho hf r (v+1) _ (zR hd) (by simp;omega) hlt λx hx=>?_;rcases List.mem_append.1 hx with hx|hx;·exact hacc x hx
   ·rw[List.mem_singleton.1 hx];have q2:=q.2 (by simpa using h);refine⟨q2.1,λz hz=>?_⟩;rcases q2.2 z hz with h3|⟨a,ha,h3⟩;·exact absurd h3 (ht.2 z)
    ·exact hf a ha z h3
  ·rw[zX hd]at h;cases h
theorem zKD(hfm:zF (λq=>s5 q l) true)(c:List zJ)(n L U:Int)(pars inds:List Tm)(con:Int)(hc:fM c)(hp8:pars.length<=8192)(hps:∀t∈pars,zG t=true/\¬n∈wL t):zH (λq=>zWi q (xI l) l c n L U pars inds con) (zZT c pars):=by
 have hcn:=hc.len;simp only[zWi,zZL,zZG];have no:∀e:Int,e≠0->zH (λ_:Nat=>some (([]:List zJ),([]:List Tm),e)) (zZT c pars):=λe h=>zH.ret λh2=>absurd h2 h;have hpo:∀t∈pars,t.Ok:=λt ht=>yB (hps t ht).1;refine zH.bind (P:=λr=>r.2=0->0<=con/\con<l.length/\(yA l con).kind=2/\r.1=vN l con) ?_ λr1 q1=>zH.ite (λh=>no _ (by simpa using h)) λh=>?_
 ·refine zH.bind (P:=λb=>b=true) (hfm.tot rfl) λb hb=>?_;subst hb;refine zH.ite (λ_=>zH.bind (P:=λb=>b=G5 l con 2) ((zRg l con 2).tot rfl) λb hb=>zH.ite (λh=>?_) λ_=>zH.ret λh=>by cases h) λh=>by cases h
  rw[hb]at h;obtain⟨h1,h2,h3⟩:=tL h;exact zH.bind (P:=λr=>r=vN l con) ((zGY l con hE h1 h2 h3 he).tot rfl) λr hr=>zH.ret λ_=>⟨h1,h2,h3,hr⟩
 obtain⟨c0,c1,ck,cp⟩:=q1 (by simpa using h);obtain⟨A,y,hw,hy,hA,hAp,hA24,p0,p1,-⟩:=uF hE c0 c1 ck;have hcl:=(xS (hE.2 con c0 c1)).1;have hno:∀z,xV (λk x=>k=8->x≠z) (yA l con).type:=λz=>sL (λk x h e=>absurd e h.2) (gK hcl);have hws:=iG hw;have hsp:=λz=>K8 A.length (yA l con).type (A,y) hws.1 hws.2 (hno z);have ey:(xG (yA l con).type)=(A,y,0):=hw;have hargs:r1.1.args=A.drop (yA l con).pars.toNat:=by rw[cp];unfold vN;rw[ey]
 have hinds:r1.1.inds=(xF y).drop (yA l con).pars.toNat:=by rw[cp];unfold vN;rw[ey]
 have hyg:=(zL hy).2.2;have hyl:=sB y hyg;have hyn:=(zL hy).1;have hi:∀t∈r1.1.inds,t.Ok/\∀z,¬z∈wL t:=λt ht=>by rw[hinds]at ht;have hm:=List.mem_of_mem_drop ht;exact⟨yB (xN hy hm),λz=>zBd.2 ((nG y hyg (hsp z).1).2 t hm)⟩
 refine(zFn r1.1.args pars (by rw[hargs,List.length_drop];omega) (λt ht=>by rw[hargs]at ht;exact yB (hA t (List.mem_of_mem_drop ht))) (by omega) hpo).bind λr4 q4=>zH.ite (λh=>no _ (by simpa using h)) λ_=>?_;have h4f:∀t∈r4.1,∀z∈wL t,∃a∈pars,z∈wL a:=λt ht z hz=>(q4.2.2 t ht z hz).elim (λ⟨u,hu,h⟩=>by rw[hargs]at hu;exact absurd h (zBd.2 ((hsp z).2 u (List.mem_of_mem_drop hu)))) id;have h4l:r4.1.length<=24:=by have:=q4.2.1;rw[hargs,List.length_drop]at this;omega
 refine(zDC c (by omega) hc _ 0 0 rfl (by omega) (by omega) (λw h=>by cases h)).bind λr7 q7=>zH.ite (λ_=>no 2 (by decide)) λ_=>?_;refine(zDI r4.1 (by omega) q4.1 r7 q7.1).bind λr10 q10=>zH.ite (λh=>no _ (by simpa using h)) λ_=>?_;have hcln:zF (λq=>zJQ q pars) pars:=zF.mk λq=>by unfold zJQ;exact yF (by simp;omega)
 refine zH.bind (P:=λr=>r=pars) (hcln.tot rfl) λr13 q13=>zH.bind (P:=λr=>r=iM r10.1) ((M9 r10.1 (by omega)).tot rfl) λr15 q15=>?_;subst q13;subst q15;have htl:(iM r10.1).length<=24:=by unfold iM;rw[List.length_map];exact q10.2.1
 refine zH.pure (yF (by omega)) (zBC hE he c n L U r13 inds r1 r10 _ (by rw[hinds,List.length_drop];omega) hi q10.2.1 (λw hw=>⟨(q10.1 w hw).2,λv hv=>?_,λz hz=>(q10.2.2.2 w hw z hz).imp (λ⟨u,hu,h⟩=>h4f u hu z h) id⟩) (by simp only[List.length_append];omega) (λa ha=>?_) (λa ha z hz=>?_) _ 0 [] rfl (Nat.le_refl _) (Nat.zero_le _) λt h=>by cases h)
 ·have:=(q10.1 w hw).1;have:=q7.2.2 v hv;omega
 ·rcases List.mem_append.1 ha with h|h;·exact hpo a h
  ·exact zFp _ a h
 ·rcases List.mem_append.1 ha with h|h;·exact .inl ⟨a,h,hz⟩
  ·obtain⟨v,hv',e⟩:=N0 h hz;exact .inr (List.mem_map.2 ⟨v,hv',e⟩)
include hl hcl
theorem zKE(hfm:zF (λq=>s5 q l) true)(c:List zJ)(n:Int)(pars inds:List Tm)(con:Int)(hc:fM c)(hm:∀w∈c,uU l w.type_)(hn:n∈c.map (·.n_))(hp8:pars.length<=8192)(hi8:inds.length<=8192)(hps:∀t∈pars,zG t=true/\¬n∈wL t)(his:∀t∈inds,zG t=true/\¬n∈wL t)(hcp:ClC c->(∀t∈pars,Cl c t)/\∀t∈inds,Cl c t){L U T:Int}(h0:0<=L)(h1:0<=U)(h2:L+U=T)(hT:T<=100000){d:Int}(hd:0<=d)(hdd:d<=100000):yH d me3 (λL q=>zWh q (xI l) l c n L U pars inds con) L (zWA l c T L):=by
 have hcn:=hc.len;simp only[zWh];have no:∀(e L1 b:Int),e≠0->yH d me3 (λL1(_:Nat)=>some (zW.mk 0 false [] [] [],e,L1,b)) L1 (zWA l c T L):=λe a b h=>yH.ret λh2=>absurd h2 h;refine yH.totL (zKD hE he hfm c n L U pars inds con hc hp8 hps) λr1 q1=>yH.ite (λh=>no _ _ _ (by simpa using h)) λh=>?_;obtain⟨a24,aw,i8,ii⟩:=q1 (by simpa using h);obtain⟨v0,hv0,ev0⟩:=List.mem_map.1 hn;have hne:∀v∈r1.1,v.n_≠n:=λv hv e=>by have:=(aw v hv).2.1 v0 hv0;have e2:v0.n_=n:=ev0;omega
 have hne2:∀z:Int,z=n->¬((∃a∈pars,z∈wL a)\/z∈r1.1.map (·.n_)):=λz e h=>by
  subst e;rcases h with⟨a,ha,h⟩|h;·exact(hps a ha).2 h
  ·obtain⟨v,hv,e⟩:=List.mem_map.1 h;exact hne v hv e
 have ii2:∀t∈r1.2.1,¬n∈wL t:=λt ht hz=>hne2 n rfl ((ii t ht).2 n hz);have hcon:zF (λq=>zOE q con) (.mk 6 con []):=zF.mk λ_=>rfl;have htl:(iM r1.1).length<=24:=by unfold iM;rw[List.length_map];exact a24
 refine yH.tot (Q:=λr=>r=.mk 6 con []) (hcon.tot rfl) λr4 q4=>yH.tot (Q:=λr=>r=mA r4 pars) ((qY r4 pars (by omega)).tot rfl) λr6 q6=>yH.tot (Q:=λr=>r=iM r1.1) ((M9 r1.1 (by omega)).tot rfl) λr8 q8=>yH.tot (Q:=λr=>r=mA r6 r8) ((qY r6 r8 (by rw[q8];omega)).tot rfl) λr10 q10=>?_;subst q4;subst q6;subst q8;have hof:¬n∈wL r10:=by rw[q10];refine zMB (zMB (λh=>by simp[wL,sF,gD]at h) λa ha=>(hps a ha).2) λa ha hz=>?_;obtain⟨v,hv,e⟩:=N0 ha hz;exact hne v hv e
 have hoo:r10.Ok:=by rw[q10];exact mL _ _ (mL _ _ (wP 6 con) λa ha=>yB (hps a ha).1) (zFp _)
 refine yH.tot (Q:=λb=>b=zG r10) ((xM r10 hoo).tot rfl) λb hb=>yH.ite (λhsh=>?_) λ_=>no 2 _ _ (by decide);rw[hb]at hsh;have hcln:zF (λq=>zSH q c) c:=zF.mk λq=>by unfold zSH;exact yF (by simp;omega)
 refine yH.tot (Q:=λr=>r=c) (hcln.tot rfl) λr15 q15=>?_;subst q15;refine yH.pure (yF (by omega)) (yH.tot (Y0 (c:=r15++r1.1) (by simp only[List.length_append];omega) (λv hv=>?_) n r10 hoo) λr20 q20=>yH.ite (λh=>no _ _ _ (by simpa using h)) λh=>?_)
 ·rcases List.mem_append.1 hv with h|h;·exact yB (hc.each v h).2.2.1
  ·exact(aw v h).1
 obtain⟨hPut,-⟩:=q20 (by simpa using h);have hdl:=hPut.right.len;have hdx:∀v∈r20.1,v.n_≠n/\¬n∈wL v.type_:=λv hv=>by
  obtain⟨w,hw,e1,e2,e3⟩:=hPut.typ v hv;refine⟨by rw[<-e1];exact e2,λhz=>?_⟩;rw[e3]at hz;rcases zDh hz with h|h;·exact hof h
  ·exact h.2 rfl
 refine yH.bind (zKg hE he hl hcl r20.1 r1.2.1 inds (λt ht=>yB (ii t ht).1) (λt ht=>yB (his t ht).1) (by omega) (by omega) (λv hv=>yB (hPut.right.each v hv).2.2.1) L U h0 (by omega) h1 hd (by omega)) (λr23 q23=>?_) (by rintro(x|x|x)<;>rfl);rcases q23 with⟨a,e,fl,fu,e0,rfl⟩|⟨z1,z2,z3,z4,z5⟩;·dsimp only[meV];exact yH.ite (λ_=>no _ _ _ e0) λh=>absurd (by simpa using h) e0
 ·have hI:=fN.startX (n0:=n) z1 z4 z3 hdx λe he'=>⟨ii2 _ (oH he').1,(his _ (oH he').2).2⟩;cases z5 with|err e0=>dsimp only[meV];exact yH.ite (λ_=>no _ _ _ e0) λh=>absurd (by simpa using h) e0|no hF hU=>exact yH.ite (λh=>by cases h) λ_=>yH.ret λ_=>⟨.inl rfl,⟨hF.1,hF.2.1,by rw[<-h2];exact hF.2.2.1⟩,hF.2.2.2⟩|@yes c' so' s k fl fu hF hU=>
   have hJ:=(hU.extra n).inv hE hI c' (⟨n,.mk 2 0 []⟩::so') rfl;have hlen:=hJ.len;have hso:so'.length<=256:=by simp only[List.length_cons]at hlen;omega
   have m0:(⟨n,.mk 2 0 []⟩:zO)∈(⟨n,.mk 2 0 []⟩:zO)::so':=List.mem_cons_self ..;have mm:∀s∈so',s∈(⟨n,.mk 2 0 []⟩:zO)::so':=λs h=>List.mem_cons_of_mem _ h;dsimp only[meV];refine yH.ite (λh=>by cases h) λ_=>yH.tot (zDJ so' (by omega) (λs hs=>(eU.1 (hJ.sol s (mm s hs))).1) (λs hs r hr=>hJ.os s (mm s hs) r (mm r hr)) r10 hsh) λr40 q40=>yH.ite (λh=>no _ _ _ (by simpa using h)) λh=>?_;obtain⟨g1,g2,g4⟩:=q40.2 (by simpa using h);have g3:=g4 n (λs hs=>hJ.os _ m0 s (mm s hs)) hof;have cov:=(hU.cover c' so' rfl).1;have clo:ClC r15->ClC c'/\(∀s∈([⟨n,r40.1⟩]:List zO)++so',Cl c' s.t_)/\∀x∈r15.map (·.n_),x∈c'.map (·.n_)\/x∈(([⟨n,r40.1⟩]:List zO)++so').map (·.n_):=λhC=>by
    have inD:∀x,x∈(r15++r1.1).map (·.n_)->x≠n->x∈r20.1.map (·.n_):=λx h hn=>hPut.perm.mem_iff.2 ((List.mem_erase_of_ne hn).2 h);have inC:∀x,x∈r15.map (·.n_)->x∈(r15++r1.1).map (·.n_):=λx h=>by rw[List.map_append];exact List.mem_append_left _ h
    have inN:∀x,x∈r1.1.map (·.n_)->x∈(r15++r1.1).map (·.n_):=λx h=>by rw[List.map_append];exact List.mem_append_right _ h
    have pn:∀z,(∃a∈pars,z∈wL a)\/z∈r1.1.map (·.n_)->z∈(r15++r1.1).map (·.n_):=λz h=>h.elim (λ⟨a,ha,h⟩=>inC z ((hcp hC).1 a ha z h)) (inN z);have fr10:∀z∈wL r10,z∈r20.1.map (·.n_):=λz hz=>by
     by_cases hd:z∈r20.1.map (·.n_);·exact hd
     ·have hzn:z≠n:=λe=>hof (e▸hz);rw[q10]at hz;refine absurd hz (zMB (zMB (λh=>by simp[wL,sF,gD]at h) λa ha h=>hd (inD z (inC z ((hcp hC).1 a ha z h)) hzn)) λa ha h=>?_);obtain⟨v,hv,e⟩:=N0 ha h;exact hd (inD z (inN z (List.mem_map.2 ⟨v,hv,e⟩)) hzn)
    have fd:∀w∈r20.1,∀z∈wL w.type_,z∈r20.1.map (·.n_):=λw hw z hz=>by
     obtain⟨w0,hw0,-,-,e3⟩:=hPut.typ w hw;rw[e3]at hz;rcases zDh hz with h|h;·exact fr10 z h
     ·refine inD z ?_ h.2;rcases List.mem_append.1 hw0 with h'|h';·exact inC z (hC w0 h' z h.1)
      ·exact pn z ((aw w0 h').2.2 z h.1)
    have fe:∀e∈sN r1.2.1 inds,(∀z∈wL e.a_,z∈r20.1.map (·.n_))/\∀z∈wL e.b_,z∈r20.1.map (·.n_):=λe he'=>⟨λz hz=>inD z (pn z ((ii _ (oH he').1).2 z hz)) λe'=>ii2 _ (oH he').1 (e'▸hz),λz hz=>inD z (inC z ((hcp hC).2 _ (oH he').2 z hz)) λe'=>(his _ (oH he').2).2 (e'▸hz)⟩;have out:∀z,¬z∈r20.1.map (·.n_)->(∀v∈c',¬z∈wL v.type_)/\∀s∈so',¬z∈wL s.t_:=λz hz=>by have hI':=fN.startX (n0:=z) z1 z4 z3 (λv hv=>⟨λe=>hz (List.mem_map.2 ⟨v,hv,e⟩),λh=>hz (fd v hv z h)⟩) λe he'=>⟨λh=>hz ((fe e he').1 z h),λh=>hz ((fe e he').2 z h)⟩;have hJ':=(hU.extra z).inv hE hI' c' (⟨z,.mk 2 0 []⟩::so') rfl;exact⟨λv hv=>(hJ'.oc _ (List.mem_cons_self ..) v hv).2,λs hs=>hJ'.os _ (List.mem_cons_self ..) s (List.mem_cons_of_mem _ hs)⟩
    have key:∀z,¬z∈so'.map (·.n_)->¬z∈c'.map (·.n_)->¬z∈r20.1.map (·.n_):=λz h1 h2 h3=>(cov z h3).elim h2 h1;have clS:∀s∈so',Cl c' s.t_:=λs hs z hz=>by
     by_cases hd:z∈c'.map (·.n_);·exact hd
     ·refine absurd hz ((out z (key z (λh=>?_) hd)).2 s hs);obtain⟨s2,hs2,e⟩:=List.mem_map.1 h;exact hJ.os s2 (mm s2 hs2) s (mm s hs) (e▸hz)
    refine⟨λv hv z hz=>?_,λs hs z hz=>?_,λx hx=>?_⟩
    ·by_cases hd:z∈c'.map (·.n_);·exact hd
     ·refine absurd hz ((out z (key z (λh=>?_) hd)).1 v hv);obtain⟨s2,hs2,e⟩:=List.mem_map.1 h;exact(hJ.oc s2 (mm s2 hs2) v hv).2 (e▸hz)
    ·rcases List.mem_append.1 hs with hs|hs
     ·rw[List.mem_singleton.1 hs]at hz;by_cases hd:z∈c'.map (·.n_);·exact hd
      ·have hso:¬z∈so'.map (·.n_):=λh=>by obtain⟨s2,hs2,e⟩:=List.mem_map.1 h;exact g2 s2 hs2 (e▸hz)
       exact absurd hz (g4 z (λs hs h=>hd (clS s hs z h)) λh=>key z hso hd (fr10 z h))
     ·exact clS s hs z hz
    ·by_cases hn':x=n;·exact .inr (by rw[hn'];simp)
     ·refine(cov x (inD x (inC x hx) hn')).imp id λh=>?_;rw[List.map_append];exact List.mem_append_right _ h
   refine yH.pure (yF (by simp;omega)) (yH.tot (Q:=λ_=>True) ?_ λr46 _=>yH.ret λ_=>⟨.inr ⟨rfl,hJ.ctx,hJ.typ,?_,λs hs=>?_,clo⟩,⟨hF.1,hF.2.1,by rw[<-h2];exact hF.2.2.1⟩,hF.2.2.2⟩);·simp only[zHQ];exact(lA r1.1 (by omega) _ 0 [] rfl (Nat.zero_le _) rfl).mono λ_ _=>trivial
   ·show(([⟨n,r40.1⟩]:List zO)++so').length<=_;simp;omega
   ·have hs':s=⟨n,r40.1⟩\/s∈so':=by simpa using hs
    have hr':∀r∈([⟨n,r40.1⟩]:List zO)++so',r=⟨n,r40.1⟩\/r∈so':=λr hr=>by simpa using hr
    rcases hs' with rfl|hs'
    ·refine⟨g1,λr hr=>?_⟩;rcases hr' r hr with rfl|hr;·exact g3
     ·exact hJ.os _ m0 r (mm r hr)
    ·refine⟨(eU.1 (hJ.sol s (mm s hs'))).1,λr hr=>?_⟩;rcases hr' r hr with rfl|hr;·exact g2 s hs'
     ·exact hJ.os s (mm s hs') r (mm r hr)
theorem zBD(c:List zJ)(n:Int)(hcn:c.length<=1048576)(ho:∀v∈c,v.type_.Ok){L U T:Int}(h0:0<=L)(h1:0<=U)(h2:L+U=T)(hT:T<=100000){d:Int}(hd:0<=d)(hdd:d<=100000):yH d zTr (λL q=>zTt q (xI l) c n L U) L (StC l c n T L):=by
 have hEnt:zF (λq=>e67 q (xI l)) l:=by simp only[e67];exact((eO l hl he hcl).eq (iB hE)).bind zF.ret
 simp only[zTt];have hR:zH (λq=>zWe q (xI l) c) λb=>b=true->fM c/\∀w∈c,uU l w.type_:=by simp only[zWe];exact(nT (by omega) ho).bind λb hb=>zH.ite (λh=>(zBb c hcn ho _ 0 rfl λw h=>by cases h).mono λb2 h2 h3=>⟨hb h,h2 h3⟩) λ_=>zH.ret λh=>by cases h
 refine yH.tot hR λb hb=>yH.ite (λh=>?_) λ_=>yH.ret (.inl ⟨_,_,_,rfl⟩);obtain⟨hc,hm⟩:=hb h;refine yH.tot (Q:=λr=>r=l) (hEnt.tot rfl) λr4 q4=>?_;subst q4;exact yH.bind (zKC hE he c n hc hm h0 h1 h2 hT hd hdd) λr6 q6=>yH.ret (.inr ⟨_,_,_,_,_,_,rfl,hc,hm,q6⟩)
theorem zWB(hfm:zF (λq=>s5 q l) true)(c:List zJ)(n con:Int)(hcn:c.length<=1048576)(ho:∀v∈c,v.type_.Ok){L U T:Int}(h0:0<=L)(h1:0<=U)(h2:L+U=T)(hT:T<=100000){d:Int}(hd:0<=d)(hdd:d<=100000):yH d me3 (λL q=>zWc q (xI l) c n con L U) L (zWA l c T L):=by
 simp only[zWc];have no:∀(e L1 b:Int),e≠0->yH d me3 (λL1(_:Nat)=>some (zW.mk 0 false [] [] [],e,L1,b)) L1 (zWA l c T L):=λe a b h=>yH.ret λh2=>absurd h2 h;refine yH.bind (zBD hE he hl hcl c n hcn ho h0 h1 h2 hT hd hdd) (λr1 q1=>?_) (by rintro(x|x)<;>rfl);rcases q1 with⟨d,a,b,rfl⟩|⟨d,e,fl,fu,p,i,rfl,hc,hm,hf⟩
 ·dsimp only[zTr];exact yH.ite (λ_=>no 5 _ _ (by decide)) λh=>by cases h
 ·dsimp only[zTr];refine yH.ite (λh=>no _ _ _ (by simpa using h)) λh=>?_;have e0:e=0:=by simpa using h
  obtain⟨hn,d0,d1,d16,p8,i8,hp,hi,hC,hF⟩:=hf e0;have hcons:(yA l d).cons.length<=17592186044416:=(hcl _ (nS d0 d1)).1;refine yH.pure (yT d0 d1) (yH.tot (dA (yA l d).cons con hcons) λb hb=>yH.ite (λhbt=>?_) λ_=>no 16 _ _ (by decide));exact yH.bind (zKE hE he hl hcl hfm c n p i con hc hm hn p8 i8 hp hi hC hF.1.1 hF.1.2.1 hF.1.2.2 hT hd hdd) λr10 q10=>yH.ret λh0=>⟨(q10 h0).1,(q10 h0).2.1,Int.le_trans (q10 h0).2.2 hF.2⟩
end
mutual def zOY:Nat->zB->Int->Option (Int)|0,_,_=>none|c+1,a,d=>bT c a (xC (d+1)) 0 def bT:Nat->zB->Int->Int->Option (Int)
 |0,_,_,_=>none|c+1,a,e,b=>if decide (b<(a.sub_.length:Int))then zS a.sub_ b>>=λx2=>if decide (e>8192)then some e else zOY c (zB.mk x2.kind_ x2.n_ x2.at_ x2.sub_ x2.t_) e>>=λr5=>bT c a r5 (xC (b+1))else some e end
theorem zIk:∀c:Nat,(∀a d,Cz (zOY c a d) 179 [] [wT a,ai d] (λr=>ai r) (λ_=>[]) 0)/\(∀a e b,Lz (bT c a e b) 0 f179 (pt 4021 f179) (λj=>sp j 23 0 [(1,ai e),(10,zN zK a.sub_ .no),(11,ai (a.sub_.length:Int)),(12,ai b)]) ⟨[],0,[],0,[]⟩ (λr=>ai r) (λ_=>[]) 0 [.blk 0,.seq (pt 63 f179)]):=xX ⟨λ_ _=>cN,λ_ _ _=>lN⟩ λc ih=>⟨λa d=>fw func179<|fH 3 [] [] [] [1,10,11,12] (ih.2 _ _ _),λa e b=>lw λ_=>rB 0 (rA 0 (zCp (o:=.no)) λ_=>rB 2 (lE 0)<|rC 1 [] (ih.1 _ _) λ_=>lH 1 [] [] [] [1,10,11,12] (ih.2 _ _ _))<|lE 0⟩
theorem yFv{c a d}:Cz (zOY c a d) 179 [] [wT a,ai d] (λr=>ai r) (λ_=>[]) 0:=(zIk _).1 _ _
def zZU(b:Nat)(a:zB):Option (Int):=zOY b (zB.mk a.kind_ a.n_ a.at_ a.sub_ a.t_) 0>>=λr1=>some r1
theorem yFu{b a}:Cz (zZU b a) 129 [] [wT a] (λr=>ai r) (λ_=>[]) 0:=fw func129<|rC 1 [] yFv λ_=>fE 0
mutual def zOZ:Nat->zB->Int->Option (Int)
 |0,_,_=>none|d+1,b,a=>if decide (a>128)then some a else bU d b a 0 a def bU:Nat->zB->Int->Int->Int->Option (Int)
 |0,_,_,_,_=>none|d+1,b,a,c,e=>if decide (c<(b.sub_.length:Int))then zS b.sub_ c>>=λx3=>zOZ d (zB.mk x3.kind_ x3.n_ x3.at_ x3.sub_ x3.t_) (xC (a+1))>>=λr5=>bU d b a (xC (c+1)) (kM e r5)else some e end
theorem zIj:∀d:Nat,(∀b a,Cz (zOZ d b a) 130 [] [wT b,ai a] (λr=>ai r) (λ_=>[]) 0)/\(∀b a c e,Lz (bU d b a c e) 0 f130 (pt 16309 f130) (λj=>sp j 27 0 [(1,ai a),(5,ai e),(13,zN zK b.sub_ .no),(14,ai (b.sub_.length:Int)),(15,ai c)]) ⟨[],0,[],0,[]⟩ (λr=>ai r) (λ_=>[]) 0 [.blk 0,.seq (pt 255 f130)]):=xX ⟨λ_ _=>cN,λ_ _ _ _=>lN⟩ λd ih=>⟨λb a=>fw func130<|rB 0 (fE 0)<|fH 2 [] [] [] [1,5,13,14,15] (ih.2 _ _ _ _),λb a c e=>lw λ_=>rB 0 (rA 0 (zCp (o:=.no)) λ_=>rC 4 [] (ih.1 _ _) λ_=>lH 2 [] [] [] [1,5,13,14,15] (ih.2 _ _ _ _))<|lE 0⟩
theorem yFt{d b a}:Cz (zOZ d b a) 130 [] [wT b,ai a] (λr=>ai r) (λ_=>[]) 0:=(zIj _).1 _ _
def zTp(b:Nat)(a:zB):Option (Bool):=zZU b (zB.mk a.kind_ a.n_ a.at_ a.sub_ a.t_)>>=λr1=>if decide (r1<=8192)then zOZ b (zB.mk a.kind_ a.n_ a.at_ a.sub_ a.t_) 1>>=λr4=>some (decide (r4<=128))else some false
theorem yCH{b a}:Cz (zTp b a) 102 [] [wT a] (λr=>ab r) (λ_=>[]) 0:=fw func102<|rC 1 [] yFu λ_=>rB 0 (rC 1 [] yFt λ_=>fE 1)<|fE 0
def zPz(b:Nat)(a:Tm):Option (Bool):=if a.k==0 then if a.n==0 then some ((a.sub.length:Int)==0)else some false else some false
theorem zZV{b a}:Cz (zPz b a) 131 [] [yZ a] (λr=>ab r) (λ_=>[]) 0:=fw func131<|rB 1 (rB 1 (fE 3)<|fE 0)<|fE 0
def N4:Nat->xH->Int->Int->Int->Int->yU->Option (Int)|0,_,_,_,_,_,_=>none|f+1,e,d,g,a,c,b=>if a==3 then zS b 1>>=λx7=>N4 f e d (xC (g+1)) x7.k x7.n x7.sub else zS e d>>=λx9=>some (xC (g-x9.pars))
def zWC(f:Nat)(e:xH)(d:Int):Option (Int):=if decide (d<0)then some (-1)else if decide (d>=(e.length:Int))then some (-1)else zS e d>>=λx3=>if x3.kind !=2 then some (-1)else N4 f e d 0 x3.type.k x3.type.n x3.type.sub
theorem zWD:∀f:Nat,∀e d g a c b,Lz (N4 f e d g a c b) 0 f132 (pt 16309 f132) (λj=>sp j 45 0 [(0,zN xA e .no),(1,ai d),(5,ai g),(6,.mp 0 0)]) ⟨[(0,.cells [ai a,ai c,zN zA b .no])],1,[],0,[]⟩ (λr=>ai r) (λ_=>[]) 0 [.blk 0,.seq (pt 255 f132)]:=xX (λ_ _ _ _ _ _=>lN) λf ih=>λe d g a c b=>lw λ_=>rB 1 (rA 4 (xP (o:=.no)) λ_=>lH 2 [] [1] [] [0,1,5,6] (ih _ _ _ _ _ _))<|rA 0 (wM (o:=.no)) λ_=>lE 2
theorem yFs{f e d}:Cz (zWC f e d) 132 [] [zN xA e .no,ai d] (λr=>ai r) (λ_=>[]) 0:=fw func132<|rB 0 (fE 0)<|rB 1 (fE 0)<|rH λ_ h4=>rS (oA 0 (wM (o:=.no) h4))<|rB 1 (fE 0)<|rS (oA 0 (wM (o:=.no) h4))<|fH 2 [] [0] [] [0,1,5,6] (zWD _ _ _ _ _ _ _)
mutual def zBE:Nat->(List zB)->xH->Option (Bool)|0,_,_=>none|d+1,a,b=>zBF d a b>>=λr1=>some (decide (r1>=0))def zBF:Nat->(List zB)->xH->Option (Int)|0,_,_=>none|d+1,a,b=>pS d a b 0 def pS:Nat->(List zB)->xH->Int->Option (Int)|0,_,_,_=>none|d+1,a,b,e=>if decide (e<(a.length:Int))then zS a e>>=λx2=>zBG d (zB.mk x2.kind_ x2.n_ x2.at_ x2.sub_ x2.t_) b>>=λr4=>if r4 then some e else pS d a b (xC (e+1))else some (-1)def zBG:Nat->zB->xH->Option (Bool)|0,_,_=>none|d+1,a,b=>iN d b (zB.mk a.kind_ a.n_ a.at_ a.sub_ a.t_)>>=λr1=>some (!r1)def iN:Nat->xH->zB->Option (Bool)
 |0,_,_=>none|d+1,a,c=>if c.kind_==1 then if decide (c.n_>=0)then if decide (c.n_<=1048576)then if(c.sub_.length:Int)==0 then zPz d c.t_>>=λr5=>some r5 else some false else some false else some false else if c.kind_==3 then if c.n_==0 then if(c.sub_.length:Int)==0 then cG d c.t_>>=λr10=>some r10 else some false else some false else if c.kind_==4 then if c.n_==0 then if(c.sub_.length:Int)==0 then zPz d c.t_>>=λr15=>some r15 else some false else some false else if c.kind_==2 then zWC d a c.n_>>=λr18=>if r18 !=(c.sub_.length:Int)then some false else zPz d c.t_>>=λr21=>if r21 then zBE d c.sub_ a>>=λr24=>some (!r24)else some false else some false end
theorem sO:∀d:Nat,(∀a b,Cz (zBE d a b) 133 [.cells [zN xA b .no]] [zN zK a .no,.clo 134 [] [.mp 0 0]] (λr=>ab r) (λ_=>[.cells [zN xA b .no]]) 0)/\(∀a b,Cz (zBF d a b) 180 [.cells [zN xA b .no]] [zN zK a .no,.clo 134 [] [.mp 0 0]] (λr=>ai r) (λ_=>[.cells [zN xA b .no]]) 0)/\(∀a b e,Lz (pS d a b e) 1 f180 (pt 949 f180) (λj=>sp j 19 0 [(0,zN zK a .no),(1,.clo 134 [] [.mp 0 0]),(7,ai (a.length:Int)),(8,ai e)]) ⟨[(0,.cells [zN xA b .no])],1,[],0,[]⟩ (λr=>ai r) (λ_=>[.cells [zN xA b .no]]) 0 [.blk 0,.seq (pt 15 f180)])/\(∀a b,Cz (zBG d a b) 134 [.cells [zN xA b .no]] [wT a,.mp 0 0] (λr=>ab r) (λ_=>[.cells [zN xA b .no]]) 0)/\(∀a c,Cz (iN d a c) 103 [] [zN xA a .no,wT c] (λr=>ab r) (λ_=>[]) 0):=xX ⟨λ_ _=>cN,λ_ _=>cN,λ_ _ _=>lN,λ_ _=>cN,λ_ _=>cN⟩ λd ih=>⟨λa b=>fw func133<|rC 0 [0] (ih.2.1 _ _) λ_=>fE 1,λa b=>fw func180<|fH 1 [] [0] [] [0,1,7,8] (ih.2.2.1 _ _ _),λa b e=>lw λ_=>rB 0 (rA 0 (zCp (o:=.no)) λ_=>rK 1 [0] (ih.2.2.2.1 _ _) (λ_=>lE 0) λ_=>lH 1 [] [0] [] [0,1,7,8] (ih.2.2.1 _ _ _))<|lE 0,λa b=>fw func134<|rC 2 [] (ih.2.2.2.2 _ _) λ_=>fE 1,λa c=>fw func103<|rB 1 (rB 1 (rB 1 (rB 2 (rC 1 [] zZV λ_=>fE 0)<|fE 0)<|fE 0)<|fE 0)<|rB 0 (rB 1 (rB 2 (rC 1 [] aR λ_=>fE 0)<|fE 0)<|fE 0)<|rB 0 (rB 1 (rB 2 (rC 1 [] zZV λ_=>fE 0)<|fE 0)<|fE 0)<|rB 0 (rC 2 [] yFs λ_=>rS (jL 0)<|rB 1 (fE 0)<|rK 1 [] zZV (λ_=>rC 2 [0] (ih.1 _ _) λ_=>fE 1) λ_=>fE 1)<|fE 0⟩
theorem zTo{d a c}:Cz (iN d a c) 103 [] [zN xA a .no,wT c] (λr=>ab r) (λ_=>[]) 0:=(sO _).2.2.2.2 _ _
mutual def e99:Nat->(List zB)->Option yD|0,_=>none|b+1,a=>D3 b a [] 0 def D3:Nat->(List zB)->yD->Int->Option yD|0,_,_,_=>none|b+1,a,d,c=>if decide (c<(a.length:Int))then zS a c>>=λx2=>zTp b (zB.mk x2.kind_ x2.n_ x2.at_ x2.sub_ x2.t_)>>=λr4=>if r4 then zWE b (zB.mk x2.kind_ x2.n_ x2.at_ x2.sub_ x2.t_)>>=λr7=>yX 8 d r7>>=λl9=>D3 b a l9 (xC (c+1))else D3 b a d (xC (c+1))else some d def zWE:Nat->zB->Option yD|0,_=>none|b+1,a=>if a.kind_==1 then some [a.n_]else e99 b a.sub_>>=λr2=>some r2 end
theorem zCf:∀b:Nat,(∀a,Cz (e99 b a) 99 [] [zN zK a .no] (λr=>zN zZ r (.st 0 1)) (λ_=>[]) 1)/\(∀a d c,Lz (D3 b a d c) 0 f99 (pt 4021 f99) (λj=>sp j 20 0 [(3,zN zZ d (.st 0 1)),(6,zN zK a .no),(7,ai (a.length:Int)),(8,ai c)]) ⟨[],0,[0],1,[]⟩ (λr=>zN zZ r (.st 0 1)) (λ_=>[]) 1 [.blk 0,.seq (pt 63 f99)])/\(∀a,Cz (zWE b a) 126 [] [wT a] (λr=>.sl (zC zZ r) r.length .no) (λ_=>[]) 0):=xX ⟨λ_=>cN,λ_ _ _=>lN,λ_=>cN⟩ λb ih=>⟨λa=>fw func99<|fH 1 [(none,3,1)] [] [0] [3,6,7,8] (ih.2.1 _ _ _),λa d c=>lw λ_=>rB 0 (rA 0 (zCp (o:=.no)) λ_=>rK 3 [] yCH (λ_=>rC 1 [] (ih.2.2 _) λr7=>rH λ_ h10=>rZ (List.length r7=0) (λh11=>rS (oP 0 (zLd h10 h11))<|lH 1 [] [] [0] [3,6,7,8] (ih.2.1 _ _ _)) λh11=>rS (oP 0 (qO h10 h11))<|lH 1 [] [] [1] [3,6,7,8] (ih.2.1 _ _ _)) λ_=>lH 1 [] [] [0] [3,6,7,8] (ih.2.1 _ _ _))<|lG 0 [] [] [0] true,λa=>fw func126<|rB 1 (fE 2)<|rC 1 [] (ih.1 _) λ_=>fE 0⟩
theorem c99{b a}:Cz (e99 b a) 99 [] [zN zK a .no] (λr=>zN zZ r (.st 0 1)) (λ_=>[]) 1:=(zCf _).1 _
def e70(qq:Nat)(p0:List zB):Option Bool:=(e99 qq p0)>>=λl=>if decide (List.length l<4611686018427387904)=true then(e65 qq (wI l))>>=λm=>some ((List.length (uP m):Int)==(List.length (wI l):Int))else none
theorem yCI{qq:Nat}{p0:yD}{r:yD}(h:e65 qq p0=some r):CT prog 65 [] [.sl (zC zZ p0) p0.length .no] (.sl (zC zZ r) r.length (.st 0 1)) [] 1:=by
 have hr:r=p0:=by have:=(pI h).2;simpa using this
 subst hr;by_cases h1:List.length r=0
 ·have hp:r=[]:=List.length_eq_zero_iff.1 h1;subst hp;exact CT.stampNil (zXo (qq:=qq) (p0:=[]) (.inl ()) rfl)
 ·exact CT.freezeS (zXo (qq:=qq) (p0:=r) (r:=.inr r) (by unfold zLO;rw[if_neg (by simpa using h1),show yX 8 ([]:yD) r=some r from h];rfl)) (dI _) (vP lU.len _)
section
open Go.RowKit Go.Sort Go.Proofs
theorem V.blind{G G':Gh}{w w':World}{es:List AV}{n:Nat}{o:Go.Ab.Own}{u:Value}(h:V G w (.sl es n o) u):V G' w' (.sl [] n .no) u:=by
 simp only[V]at h⊢;obtain⟨cap,h1,⟨h2,h3,h4,h5,_⟩|⟨b,off,h2,_,_⟩⟩:=h;·exact⟨cap,h1,.inl ⟨trivial,h3,h4,h5,trivial⟩⟩
 ·exact⟨cap,h1,.inr ⟨b,off,h2,by simp only[VC],trivial⟩⟩
theorem zME{G:Gh}{w:World}{s:xB}{k:Nat}{l:yD}{u:Value}(hR:yM G (xD (uI 0) s) w)(ho:s.own.any (Nat.beq k)=true)(hu:V G w (.sl (zC zZ l) l.length (.st k 1)) u):(l=[]/\∃p cap,u=.slice p 0 cap)\/∃b off cap,u=.slice (some ⟨b,off,none⟩) l.length cap/\l.length<=cap/\Holds (Value.int .i64) w b off l.toArray/\b<w.heap.size/\¬G.F b/\(∀i,G.ρ i≠some b)/\∀u',V G w (.sl (zC zZ l) l.length (.st k 1)) u'->u'=.slice (some ⟨b,off,none⟩) l.length cap:=by
 have hu0:=hu;simp only[V]at hu;obtain⟨cap,hcap,⟨he,hn,hc0,hu',_⟩|⟨b,off,rfl,hC,hq,hO⟩⟩:=hu;·exact .inl ⟨List.length_eq_zero_iff.1 hn,_,_,hu'⟩
 ·rcases hO with⟨hn,hc⟩|⟨hm,hF,hτ⟩;·exact .inl ⟨List.length_eq_zero_iff.1 hn,_,_,by rw[hn]⟩
  ·by_cases hl:l=[];·exact .inl ⟨hl,_,cap,by rw[hl];rfl⟩
   right;obtain⟨b',f,t,q1,q2⟩:=hR.own k (by rw[rF];exact ho);rw[hτ]at q1;cases q1;have hpos:0<l.length:=List.length_pos_iff.2 hl;rcases q2 with q2|⟨_,q3,_,vs,T,q5,q6⟩;·omega
   obtain⟨us,h1,h2⟩:=VC.cells _ _ _ hC;have hus:=VL.ints_eq l us h1;subst hus;have hH:Holds (Value.int .i64) w b off l.toArray:=by
    intro j hj;have hj':j<l.length:=by simpa using hj
    refine⟨?_,by simp[World.frozen?,q5]⟩;rw[h2 j (by simpa using hj')];simp[hj']
   refine⟨b,off,cap,rfl,hcap,hH,(Array.getElem?_eq_some_iff.1 q5).1,hF,q3,λu' hu'=>?_⟩;simp only[V]at hu';obtain⟨cap',_,⟨_,hn,_⟩|⟨b2,off2,rfl,_,_,hO2⟩⟩:=hu';·omega
   ·rcases hO2 with⟨hn,_⟩|⟨hm2,_,hτ2⟩;·omega
    ·rw[hτ,hm]at hτ2;simp only[Option.some.injEq,Prod.mk.injEq]at hτ2;obtain⟨rfl,h5,h6⟩:=hτ2;obtain rfl:off2=off:=by omega
     obtain rfl:cap'=cap:=by omega
     rfl
theorem U0(l:yD):(wI l).length=l.length:=(lV l).length_eq
theorem zPy{G:Gh}{w:World}{s:xB}{k:Nat}{l:yD}{u:Value}(hR:yM G (xD (uI 0) s) w)(ho:s.own.any (Nat.beq k)=true)(hsz:l.length<4611686018427387904)(hu:V G w (.sl (zC zZ l) l.length (.st k 1)) u):Calls prog 100 #[u] w λe w'=>∃(v:Value)(b:Nat)(S:Nat->Nat->Prop),e=.returned v/\¬G.F b/\(∀i,G.ρ i≠some b)/\vY (λc=>c<w.heap.size/\c≠b) w w'/\(∀c o,S c o->c=b/\∃x,w'.cell? ⟨c,o,none⟩=some x)/\∀G',(∀c o,S c o->G'.L c o)->V G' w' (.val (.tuple #[])) v/\∀u',V G w (.sl (zC zZ l) l.length (.st k 1)) u'->V G' w' (.sl (zC zZ (wI l)) (wI l).length .no) u':=by
 rcases zME hR ho hu with⟨rfl,p,cap,rfl⟩|⟨b,off,cap,rfl,hcap,hH,hb,hF,hρ,huniq⟩
 ·refine Calls.mono (AnyM.slices_Sort_int_none Tryz.sortI p cap w) ?_;rintro e w'⟨rfl,rfl⟩;exact⟨_,w'.heap.size,λ_ _=>False,rfl,λh=>Nat.lt_irrefl _ (hR.base _ h),λi hi=>Nat.lt_irrefl _ (hR.ρ_lt hi),vY.refl _ _,λ_ _ h=>h.elim,λG' _=>⟨by simp only[V],λu' h=>V.blind h⟩⟩
 ·refine Calls.mono (zCI (cap:=cap) hH hb hsz) ?_;rintro e w'⟨rfl,n,os,rfl⟩;have hl:(l.mergeSort λx y=>decide (x<=y)).length=l.length:=List.length_mergeSort _;have hH1:Holds (Value.int .i64) (Sort.grow (putRow (Value.int .i64) (Sort.ahead w n) b off (l.mergeSort λx y=>decide (x<=y)).toArray) os) b off (l.mergeSort λx y=>decide (x<=y)).toArray:=holds_grow _ _ _ _ _ _ (by simpa using hb) (holds_putRow _ _ _ _ l.toArray _ hH (by simp[hl]));rw[fI]at hH1⊢;have hil:=U0 l;have hcell:∀i(h:i<(wI l).length),(Sort.grow (putRow (Value.int .i64) (Sort.ahead w n) b off (wI l).toArray) os).cell? ⟨b,off+i,none⟩=some (.int .i64 (wI l)[i]):=λi h=>by have:=(hH1 i (by simpa using h)).1;rw[this];simp[h]
  refine⟨_,b,λc o=>c=b/\off<=o/\o<off+(wI l).length,rfl,hF,hρ,vY.trans (vY.putRow _ w n b off _) ((vY.grow _ os b).mono λk hk=>⟨by simpa using hk.1,hk.2⟩),?_,λG' hS=>⟨by simp only[V],λu' h=>?_⟩⟩;·rintro c o⟨rfl,h1,h2⟩;exact⟨rfl,.int .i64 ((wI l)[o-off]'(by omega)),by have:=hcell (o-off) (by omega);rwa[show off+(o-off)=o by omega]at this⟩
  ·rw[huniq u' h];simp only[V];refine⟨cap,by omega,.inr ⟨b,off,by rw[hil],VC.of_cells _ _ b off (VL.ints (wI l)) (λi hi=>hS _ _ ⟨rfl,by omega,?_⟩) (λi hi=>?_),trivial⟩⟩
   ·have:i<(wI l).length:=by simpa using hi
    omega
   ·rw[hcell i (by simpa using hi)];simp
theorem zFm{w:World}{p:Option Addr}{cap:Nat}{G:Gh}(hV:V G w (.sl [] 0 .no) (.slice p 0 cap)):Calls prog 101 #[.slice p 0 cap] w λe w'=>∃v,e=.returned v/\(vY (λc=>c<w.heap.size) w w'/\∀G',V G' w' (.sl [] 0 .no) v):=by
 refine(zXy (atW w) w #[.slice p 0 cap] (zGu w) (zLg w) ?_).mono ?_;·simp only[VL];exact⟨V.none hV,trivial⟩
 ·rintro e w2⟨v,G',s',rfl,hE,hR,hv,_⟩;refine⟨v,rfl,?_,λG'=>V.none hv⟩;have:=hR.below;rw[hE.F,hE.w0]at this;exact this
theorem zFl{G:Gh}{w:World}{s:xB}{k:Nat}{l:yD}{u:Value}(hR:yM G (xD (uI 0) s) w)(ho:s.own.any (Nat.beq k)=true)(hsz:l.length<4611686018427387904)(hu:V G w (.sl (zC zZ l) l.length (.st k 1)) u):Calls prog 101 #[u] w λe w'=>∃(v:Value)(b:Nat)(S:Nat->Nat->Prop),e=.returned v/\¬G.F b/\(∀i,G.ρ i≠some b)/\vY (λc=>c<w.heap.size/\c≠b) w w'/\(∀c o,S c o->c=b/\∃x,w'.cell? ⟨c,o,none⟩=some x)/\∀G',(∀c o,S c o->G'.L c o)->V G' w' (.sl (zC zZ (uP l)) (uP l).length .no) v:=by
 rcases zME hR ho hu with⟨rfl,p,cap,rfl⟩|⟨b,off,cap,rfl,hcap,hH,hb,hF,hρ,huniq⟩
 ·refine(zFm (G:=G) (V.blind hu)).mono ?_;rintro e w'⟨v,rfl,hK,hv⟩;exact⟨v,w.heap.size,λ_ _=>False,rfl,λh=>Nat.lt_irrefl _ (hR.base _ h),λi hi=>Nat.lt_irrefl _ (hR.ρ_lt hi),hK.mono λk hk=>hk.1,λ_ _ h=>h.elim,λG' _=>hv G'⟩
 ·have hc:=I8 (cap:=cap) hH hsz hcap;have e1:Go.Lib.compactUpTo l.toArray l.toArray.size=uP l:=by have:=gA l l.length (Nat.le_refl _);rw[List.take_length]at this;simpa using this
  rw[e1]at hc;have hcl:=b7 l;refine hc.mono ?_;rintro e w'⟨rfl,q,rfl⟩;have hcell:∀i(h:i<(uP l).length),(putRow (Value.int .i64) (Sort.ahead w q) b off (uP l++List.replicate (l.toArray.size-(uP l).length) 0).toArray).cell? ⟨b,off+i,none⟩=some (.int .i64 (uP l)[i]):=λi h=>by rw[cell?_putRow (Value.int .i64) _ b off l.toArray _ (holds_ahead _ _ _ _ _ _ hH) (by simp;omega) i (by simp;omega)];simp[List.getElem?_append_left h,h]
  refine⟨_,b,λc o=>c=b/\off<=o/\o<off+(uP l).length,rfl,hF,hρ,(vY.putRow _ w q b off _),?_,λG' hS=>?_⟩;·rintro c o⟨rfl,h1,h2⟩;exact⟨rfl,.int .i64 ((uP l)[o-off]'(by omega)),by have:=hcell (o-off) (by omega);rwa[show off+(o-off)=o by omega]at this⟩
  ·simp only[V];refine⟨cap,Nat.le_trans hcl hcap,.inr ⟨b,off,rfl,VC.of_cells _ _ b off (VL.ints (uP l)) (λi hi=>hS _ _ ⟨rfl,by omega,?_⟩) (λi hi=>?_),trivial⟩⟩
   ·have:i<(uP l).length:=by simpa using hi
    omega
   ·rw[hcell i (by simpa using hi)];simp
end
theorem yFr{qq:Nat}{p0:List zB}{r:Bool}(h:e70 qq p0=some r):CT prog 70 [] [zN zK p0 .no] (ab r) [] 0:=by
 unfold e70 at h;obtain⟨l,h2,h⟩:=wS h;rcases zAq (decide (List.length l<4611686018427387904))with h6|h6
 ·replace h:=ifT h6 h;obtain⟨m,h5,h⟩:=wS h;replace h:=Option.some.inj h;subst h;have hsz:List.length l<4611686018427387904:=by simpa using h6
  have hm:m=wI l:=by have:=(pI h5).2;simpa using this
  have hsm:List.length m<4611686018427387904:=by rw[hm,U0];exact hsz
  refine⟨?_,⟨⟨tv,zGj _⟩,tv⟩,yN,tv,yN⟩;have k0:knd (tT f70)=1:=by kernel_rfl
  have k1:knd (uR (tT f70))=1:=by kernel_rfl
  have k2:knd (uR (uR (tT f70)))=1:=by kernel_rfl
  have k3:I4 (mJ (uR (uR (tT f70))))=true:=by kernel_rfl
  have k4:zEf (vG (mJ (uR (uR (tT f70)))))[1]?=some (some 7,100,#[.tmp 6]):=by kernel_rfl
  have k5:(f100.name=="runtime.NumGoroutine")=false:=by kernel_rfl
  have k6:f100.body.isNone=false:=by kernel_rfl
  have k7:knd (uR (uR (uR (tT f70))))=1:=by kernel_rfl
  have k8:I4 (mJ (uR (uR (uR (tT f70)))))=true:=by kernel_rfl
  have k9:zEf (vG (mJ (uR (uR (uR (tT f70))))))[2]?=some (some 10,101,#[.tmp 9]):=by kernel_rfl
  have k10:(f101.name=="runtime.NumGoroutine")=false:=by kernel_rfl
  have k11:f101.body.isNone=false:=by kernel_rfl
  have x1:pU prog qU 3000 (.run (mJ (tT f70))) [] ([zN zK p0 .no]++List.replicate (f70.ntmps-1) (.val undef)) (A3 []) []=some (.fin .normal,[zN zK p0 .no,.val undef,ab false,.val undef,.val undef,.val undef,.val undef,.val undef,.val undef,.val undef,.val undef,.val undef,.val undef,.val undef,.val undef],⟨[],0,[],0,[]⟩,[],[]):=by kernel_rfl
  have x2:pU prog qU 3000 (.run (mJ (uR (tT f70)))) [] [zN zK p0 .no,.val undef,ab false,.val undef,.val undef,.val undef,.val undef,.val undef,.val undef,.val undef,.val undef,.val undef,.val undef,.val undef,.val undef] ⟨[],0,[],0,[]⟩ [.call [] [] 1 (.sl (zC zZ l) l.length (.st 0 1)) none]=some (.fin .normal,[zN zK p0 .no,.val undef,ab false,.sl (zC zZ l) l.length (.st 0 1),zN zK p0 .no,.sl (zC zZ l) l.length (.st 0 1),.val undef,.val undef,.val undef,.val undef,.val undef,.val undef,.val undef,.val undef,.val undef],⟨[],0,[0],1,[]⟩,[],[.call 99 [] [zN zK p0 .no] (.sl (zC zZ l) l.length (.st 0 1)) [] 1]):=by kernel_rfl
  have x3:(aD prog qU (vG (mJ (uR (uR (tT f70))))) ((vG (mJ (uR (uR (tT f70))))).toList.take 1) 0 [zN zK p0 .no,.val undef,ab false,.sl (zC zZ l) l.length (.st 0 1),zN zK p0 .no,.sl (zC zZ l) l.length (.st 0 1),.val undef,.val undef,.val undef,.val undef,.val undef,.val undef,.val undef,.val undef,.val undef] ⟨[],0,[0],1,[]⟩ []).map Prod.snd=some ([zN zK p0 .no,.val undef,ab false,.sl (zC zZ l) l.length (.st 0 1),zN zK p0 .no,.sl (zC zZ l) l.length (.st 0 1),.sl (zC zZ l) l.length (.st 0 1),.val undef,.val undef,.val undef,.val undef,.val undef,.val undef,.val undef,.val undef],⟨[],0,[0],1,[]⟩,[],[]):=by kernel_rfl
  have x4:∀j:Nat->Value,(aD prog qU (vG (mJ (uR (uR (tT f70))))) ((vG (mJ (uR (uR (tT f70))))).toList.drop 2) 2 (eset (tells [(3,.sl (zC zZ (wI l)) (wI l).length .no)] (mutEnv [] j [zN zK p0 .no,.val undef,ab false,.sl (zC zZ l) l.length (.st 0 1),zN zK p0 .no,.sl (zC zZ l) l.length (.st 0 1),.sl (zC zZ l) l.length (.st 0 1),.val undef,.val undef,.val undef,.val undef,.val undef,.val undef,.val undef,.val undef] 0)) (some 7) (.val (.tuple #[]))) (mK [] ⟨[],0,[0],1,[]⟩) []).map Prod.snd=some ([.val (j 0),.val undef,ab false,.sl (zC zZ (wI l)) (wI l).length .no,.val (j 4),.val (j 5),.val (j 6),.val (.tuple #[]),.val undef,.val undef,.val undef,.val undef,.val undef,.val undef,.val undef],⟨[],0,[],0,[]⟩,[],[]):=λj=>by kernel_rfl
  have x5:∀j:Nat->Value,(aD prog qU (vG (mJ (uR (uR (uR (tT f70)))))) ((vG (mJ (uR (uR (uR (tT f70)))))).toList.take 2) 0 [.val (j 0),.val undef,ab false,.sl (zC zZ (wI l)) (wI l).length .no,.val (j 4),.val (j 5),.val (j 6),.val (.tuple #[]),.val undef,.val undef,.val undef,.val undef,.val undef,.val undef,.val undef] ⟨[],0,[],0,[]⟩ [.call [] [] 1 (.sl (zC zZ m) m.length (.st 0 1)) none]).map Prod.snd=some ([.val (j 0),.val undef,ab false,.sl (zC zZ (wI l)) (wI l).length .no,.val (j 4),.val (j 5),.val (j 6),.val (.tuple #[]),.sl (zC zZ (wI l)) (wI l).length .no,.sl (zC zZ m) m.length (.st 0 1),.val undef,.val undef,.val undef,.val undef,.val undef],⟨[],0,[0],1,[]⟩,[],[.call 65 [] [.sl (zC zZ (wI l)) (wI l).length .no] (.sl (zC zZ m) m.length (.st 0 1)) [] 1]):=λj=>by kernel_rfl
  have x6:∀j i:Nat->Value,(aD prog qU (vG (mJ (uR (uR (uR (tT f70)))))) ((vG (mJ (uR (uR (uR (tT f70)))))).toList.drop 3) 3 (eset (tells [(3,.sl [] (wI l).length .no)] (mutEnv [] i [.val (j 0),.val undef,ab false,.sl (zC zZ (wI l)) (wI l).length .no,.val (j 4),.val (j 5),.val (j 6),.val (.tuple #[]),.sl (zC zZ (wI l)) (wI l).length .no,.sl (zC zZ m) m.length (.st 0 1),.val undef,.val undef,.val undef,.val undef,.val undef] 0)) (some 10) (.sl (zC zZ (uP m)) (uP m).length .no)) (mK [] ⟨[],0,[0],1,[]⟩) [.no,.no,.no]).map Prod.snd=some ([.val (j 0),.val undef,ab ((List.length (uP m):Int)==(List.length (wI l):Int)),.sl [] (wI l).length .no,.val (j 4),.val (j 5),.val (j 6),.val (.tuple #[]),.val (i 8),.val (i 9),.sl (zC zZ (uP m)) (uP m).length .no,ai (uP m).length,.sl [] (wI l).length .no,ai (wI l).length,ab ((List.length (uP m):Int)==(List.length (wI l):Int))],⟨[],0,[],0,[]⟩,[],[]):=λj i=>by kernel_rfl
  have x7:∀j i:Nat->Value,Z4 prog qU 0 f70 3000 (.run (uR (uR (uR (uR (tT f70)))))) [] [.val (j 0),.val undef,ab ((List.length (uP m):Int)==(List.length (wI l):Int)),.sl [] (wI l).length .no,.val (j 4),.val (j 5),.val (j 6),.val (.tuple #[]),.val (i 8),.val (i 9),.sl (zC zZ (uP m)) (uP m).length .no,ai (uP m).length,.sl [] (wI l).length .no,ai (wI l).length,ab ((List.length (uP m):Int)==(List.length (wI l):Int))] ⟨[],0,[],0,[]⟩ [] [] [] [] false=some (ab ((List.length (uP m):Int)==(List.length (wI l):Int)),[],[]):=λj i=>by kernel_rfl
  refine uS.body func70 (by kernel_rfl) ?_;refine Dv.seqP k0 ?_;refine nM (Q:=_) wV mixed 3000 (.run (mJ (tT f70))) [] _ _ _ _ _ _ _ _ x1 yV.nil ?_;refine Dv.seqP k1 ?_;refine nM (Q:=_) wV mixed 3000 (.run (mJ (uR (tT f70)))) [] _ _ _ _ _ _ _ _ x2 (yV.cons (eF (c99 _ h2)) yV.nil) ?_;refine Dv.seqP k2 ?_;obtain⟨id,z7⟩:=zUz k3;rw[z7];refine Dv.mut wV (na:=(0:Nat)) rfl 1 [] [(3,.sl (zC zZ (wI l)) (wI l).length .no)] (.val (.tuple #[])) x3 yV.nil k4 func100 k5 k6 (λi X h=>by cases h) ?_ x4 yV.nil ?_
  ·intro G0 W hB G w hE hR u hu;refine(zPy hR (by rfl) hsz hu).mono ?_;rintro e w'⟨v,b,S,z1,z2,z3,z4,z5,z6⟩;refine⟨v,b,S,z1,z2,z3,z4,z5,λG' _ _ hS=>⟨(z6 G' hS).1,λq hq u' hu'=>?_⟩⟩;simp only[List.mem_singleton]at hq;subst hq;exact(z6 G' hS).2 u' hu'
  intro j;refine Dv.seqP k7 ?_;obtain⟨id2,z8⟩:=zUz k8;rw[z8];refine Dv.mut wV (na:=(0:Nat)) rfl 2 [] [(3,.sl [] (wI l).length .no)] (.sl (zC zZ (uP m)) (uP m).length .no) (x5 j) (yV.cons (eF (yCI h5)) yV.nil) k9 func101 k10 k11 (λi X h=>by cases h) ?_ (x6 j) yV.nil ?_
  ·intro G0 W hB G w hE hR u hu;refine(zFl hR (by rfl) hsm hu).mono ?_;rintro e w'⟨v,b,S,z1,z2,z3,z4,z5,z6⟩;refine⟨v,b,S,z1,z2,z3,z4,z5,λG' _ _ hS=>⟨z6 G' hS,λq hq u' hu'=>?_⟩⟩;simp only[List.mem_singleton]at hq;subst hq;exact V.blind hu'
  intro i;exact I1 (na:=(0:Nat)) wV mixed (x7 j i) yV.nil (by decide)
 ·replace h:=ifF h6 h;cases h
theorem c70{qq:Nat}{p0:List zB}:Cz (e70 qq p0) 70 [] [zN zK p0 .no] (λr=>ab r) (λ_=>[]) 0:=λ_ h=>yFr h
theorem mN(p:zB):zB.mk p.kind_ p.n_ p.at_ p.sub_ p.t_=p:=by cases p;rfl
mutual def oJ:zB->Prop|.mk _ _ _ sub t=>sub.length<=17592186044416/\jJ sub/\t.Ok def jJ:List zB->Prop|[]=>True|p::ps=>oJ p/\jJ ps end
theorem zFk:∀{l:List zB},(∀k∈l,oJ k)->jJ l|[],_=>trivial|k::l,h=>by rw[jJ];exact⟨h k (by simp),zFk λx hx=>h x (by simp[hx])⟩
theorem bV:∀{l:List zB},jJ l->∀k∈l,oJ k
 |[],_,_,h=>nomatch h|k::l,h,x,hx=>by
  rw[jJ]at h;rcases List.mem_cons.1 hx with rfl|hx;·exact h.1
  ·exact bV h.2 x hx
mutual def ndP:zB->Nat|.mk _ _ _ sub _=>1+tI sub def tI:List zB->Nat|[]=>0|p::ps=>ndP p+tI ps end
theorem zMF(p:zB):ndP p=1+tI p.sub_:=by cases p;rw[ndP];rfl
theorem zBI:∀{l:List zB}{p:zB},p∈l->ndP p<=tI l
 |[],_,h=>nomatch h|x::l,p,h=>by
  rw[tI];rcases List.mem_cons.1 h with rfl|h;·omega
  ·have:=zBI h;omega
theorem dM:∀l:List zB,l.length<=tI l|[]=>by simp|x::l=>by rw[tI,zMF];have:=dM l;simp;omega
mutual theorem zMG:∀(p:zB)(n:Int),oJ p->zH (λq=>zOY q p n) λ_=>True|.mk k n0 a sub t,n,ho=>by rw[oJ]at ho;refine zH.succ ?_;simp only[zOY];exact zIi sub (.mk k n0 a sub t) _ 0 rfl ho.2.1 ho.1 theorem zIi:∀(r:List zB)(p:zB)(n:Int)(v:Nat),p.sub_.drop v=r->jJ r->p.sub_.length<=17592186044416->zH (λq=>bT q p n (v:Int)) λ_=>True
 |[],p,n,v,hd,ho,hl=>by refine zH.succ ?_;simp only[bT];refine zH.ite (λh=>?_) λ_=>zH.ret trivial;rw[zY hd]at h;cases h|x::r,p,n,v,hd,ho,hl=>by
  have hlt:=yC hd;rw[jJ]at ho;refine zH.succ ?_;simp only[bT,mN];refine zH.ite (λ_=>zH.pure (zV hd) (zH.ite (λ_=>zH.ret trivial) λ_=>(zMG x n ho.1).bind λy _=>?_)) λh=>?_
  ·rw[zU v (by omega)];exact zIi r p y (v+1) (zR hd) ho.2 hl
  ·rw[zX hd]at h;cases h end
mutual theorem zMH:∀(p:zB)(n:Int),oJ p->zH (λq=>zOZ q p n) λ_=>True|.mk k n0 a sub t,n,ho=>by rw[oJ]at ho;refine zH.succ ?_;simp only[zOZ];exact zH.ite (λ_=>zH.ret trivial) λ_=>zIh sub (.mk k n0 a sub t) _ _ 0 rfl ho.2.1 ho.1 theorem zIh:∀(r:List zB)(p:zB)(n m:Int)(v:Nat),p.sub_.drop v=r->jJ r->p.sub_.length<=17592186044416->zH (λq=>bU q p n (v:Int) m) λ_=>True
 |[],p,n,m,v,hd,ho,hl=>by refine zH.succ ?_;simp only[bU];refine zH.ite (λh=>?_) λ_=>zH.ret trivial;rw[zY hd]at h;cases h|x::r,p,n,m,v,hd,ho,hl=>by
  have hlt:=yC hd;rw[jJ]at ho;refine zH.succ ?_;simp only[bU,mN];refine zH.ite (λ_=>zH.pure (zV hd) ((zMH x _ ho.1).bind λy _=>?_)) λh=>?_
  ·rw[zU v (by omega)];exact zIh r p n _ (v+1) (zR hd) ho.2 hl
  ·rw[zX hd]at h;cases h end
theorem zBJ(p:zB)(ho:oJ p):zH (λq=>zTp q p) λ_=>True:=by simp only[zTp,zZU,mN];exact zH.bind (P:=λ_=>True) ((zMG p 0 ho).bind λ_ _=>zH.ret trivial) λ_ _=>zH.ite (λ_=>(zMH p 1 ho).bind λ_ _=>zH.ret trivial) λ_=>zH.ret trivial
mutual theorem zPx:∀(p:zB),oJ p->ndP p<=100000->zH (λq=>zWE q p) λr=>r.length<=ndP p|.mk k n0 a sub t,ho,hn=>by rw[oJ]at ho;rw[ndP]at hn⊢;refine zH.succ ?_;simp only[zWE];refine zH.ite (λ_=>zH.ret (by simp)) λ_=>zH.bind (P:=λr=>r.length<=tI sub) ?_ λr hr=>zH.ret (by omega);refine zH.succ ?_;simp only[e99];exact(gY sub sub 0 [] rfl ho.2.1 (by simp;omega) ho.1).mono λr hr=>by simpa using hr theorem gY:∀(r l:List zB)(v:Nat)(acc:List Int),l.drop v=r->jJ r->acc.length+tI r<=100000->l.length<=17592186044416->zH (λq=>D3 q l acc (v:Int)) λo=>o.length<=acc.length+tI r
 |[],l,v,acc,hd,ho,hn,hl=>by refine zH.succ ?_;simp only[D3];refine zH.ite (λh=>?_) λ_=>zH.ret (by omega);rw[zY hd]at h;cases h|x::r,l,v,acc,hd,ho,hn,hl=>by
  have hlt:=yC hd;rw[jJ]at ho;rw[tI]at hn⊢;refine zH.succ ?_;simp only[D3,mN];refine zH.ite (λ_=>zH.pure (zV hd) ((zBJ x ho.1).bind λ_ _=>zH.ite (λ_=>(zPx x ho.1 (by omega)).bind λy hy=>zH.pure (yF (by omega)) ?_) λ_=>?_)) λh=>?_
  ·rw[zU v (by omega)];exact(gY r l (v+1) _ (zR hd) ho.2 (by simp;omega) hl).mono λo h=>by simp at h;omega
  ·rw[zU v (by omega)];exact(gY r l (v+1) _ (zR hd) ho.2 (by omega) hl).mono λo h=>by omega
  ·rw[zX hd]at h;cases h end
theorem zPw(l:List zB)(ho:jJ l)(hn:tI l<=100000):zH (λq=>e99 q l) λr=>r.length<=tI l:=by have:=dM l;refine zH.succ ?_;simp only[e99];exact(gY l l 0 [] rfl ho (by simp;omega) (by omega)).mono λr hr=>by simpa using hr
theorem zIg(l:List zB)(ho:jJ l)(hn:tI l<=100000):zH (λq=>e70 q l) λ_=>True:=by
 simp only[e70];refine(zPw l ho hn).bind λr hr=>zH.ite (λ_=>?_) λh=>?_
 ·refine zH.bind (P:=λ_=>True) ?_ λ_ _=>zH.ret trivial;have hi:=U0 r;exact zH.mono (P:=λ_=>True) ⟨_,zF.mk λ_=>yF (by simp;omega),trivial⟩ λ_ h=>h
 ·have:=of_decide_eq_false h;omega
def zIf(l:List yI)(n:Int):Int:=if 0<=n/\n<l.length/\(yA l n).kind=2 then uJ (yA l n).type-(yA l n).pars else-1
theorem zPv(l:List yI)(n:Int)(h0:0<=n)(h1:n<l.length)(tot:Int)(ht:tot<=8192)(hp:0<=(yA l n).pars/\(yA l n).pars<=24):∀(m:Nat)(t:Tm)(v:Int),t.nodes<=m->xQ t=true->0<=v->v+uJ t=tot->zF (λq=>N4 q l n v t.k t.n t.sub) (tot-(yA l n).pars):=by intro m;induction m with|zero=>intro t v h;have:=vR t;omega|succ m ih=>
 intro t v hm hg hv0 hv;refine zF.succ ?_;simp only[N4];by_cases k:t.k=3
 ·obtain⟨x,y,e,hx,hy⟩:=nR hg k;rw[e]at hv hm⊢;rw[gH]at hv;refine zF.ifT (by simp[Tm.k]) (zF.pure (a:=y) (by simp[zS,Tm.sub]) ?_);rw[yS (x:=v+1) (by omega) (by omega)];refine ih y (v+1) ?_ hy (by omega) (by omega);rw[Tm.nodes,yW,yW,yW]at hm;have:=vR x;omega
 ·rw[zAf k]at hv;refine zF.ifF (by simp[k]) (zF.pure (yT h0 h1) (zF.ret.eq ?_));rw[yS (by omega) (by omega)];omega
theorem zTn{N:ByteArray->Bool}{l:List yI}(hE:vA N l)(n:Int):zF (λq=>zWC q l n) (zIf l n):=by
 simp only[zWC];unfold zIf;by_cases h0:0<=n
 ·by_cases h1:n<l.length
  ·by_cases hk:(yA l n).kind=2
   ·rw[if_pos ⟨h0,h1,hk⟩];have hs:=xS (hE.2 n h0 h1);have hsh:=(zL (rM hs.1));have hp:uJ (yA l n).type<=8192:=Nat.le_trans (zDv _ hsh.2.2) hsh.1;obtain⟨A,y,-,-,-,a3,a4,a5,a6,-⟩:=uF hE h0 h1 hk;refine zF.ifF (decide_eq_false (by omega)) (zF.ifF (decide_eq_false (by omega)) (zF.pure (yT h0 h1) (zF.ifF (by simp[hk]) ?_)));exact zPv l n h0 h1 (uJ (yA l n).type) (by omega) ⟨a5,by omega⟩ _ _ 0 (Nat.le_refl _) hsh.2.2 (by omega) (by omega)
   ·rw[if_neg λh=>hk h.2.2];exact zF.ifF (decide_eq_false (by omega)) (zF.ifF (decide_eq_false (by omega)) (zF.pure (yT h0 h1) (zF.ifT (by simp[hk]) zF.ret)))
  ·rw[if_neg λh=>h1 h.2.1];exact zF.ifF (decide_eq_false (by omega)) (zF.ifT (decide_eq_true (by omega)) zF.ret)
 ·rw[if_neg λh=>h0 h.1];exact zF.ifT (decide_eq_true (by omega)) zF.ret
mutual def GP(l:List yI):zB->Prop|.mk k n _ sub _=>(k≠1->k≠3->k≠4->k=2/\zIf l n=sub.length)/\GPs l sub def GPs(l:List yI):List zB->Prop|[]=>True|p::ps=>GP l p/\GPs l ps end
theorem zKF{l:List yI}:∀{ps:List zB},GPs l ps->∀k∈ps,GP l k
 |[],_,_,h=>nomatch h|k::ps,h,x,hx=>by
  rw[GPs]at h;rcases List.mem_cons.1 hx with rfl|hx;·exact h.1
  ·exact zKF h.2 x hx
theorem zMI(l:List yI):GPs l []:=by rw[GPs];trivial
theorem U1(t:Tm):zH (λq=>zPz q t) λ_=>True:=by simp only[zPz];exact zH.ite (λ_=>zH.ite (λ_=>zH.ret trivial) λ_=>zH.ret trivial) λ_=>zH.ret trivial
section
variable{N:ByteArray->Bool}{l:List yI}(hE:vA N l)
include hE
mutual theorem zIe:∀(p:zB),oJ p->zH (λq=>iN q l p) λb=>b=true->GP l p
 |.mk k n a sub t,ho=>by
  rw[oJ]at ho;have no:∀b:Bool,b=false->(b=true->GP l (.mk k n a sub t)):=λb h h'=>by rw[h]at h';cases h'
  have leaf:sub.length=0->(k=1\/k=3\/k=4)->GP l (.mk k n a sub t):=λh hk=>by have:sub=[]:=List.length_eq_zero_iff.1 h;subst this;rw[GP];exact⟨λa b c=>by omega,zMI l⟩
  refine zH.succ ?_;simp only[iN];refine zH.ite (λh1=>zH.ite (λ_=>zH.ite (λ_=>zH.ite (λhs=>?_) λ_=>zH.ret (no _ rfl)) λ_=>zH.ret (no _ rfl)) λ_=>zH.ret (no _ rfl)) λh1=>zH.ite (λh3=>zH.ite (λ_=>zH.ite (λhs=>?_) λ_=>zH.ret (no _ rfl)) λ_=>zH.ret (no _ rfl)) λh3=>zH.ite (λh4=>zH.ite (λ_=>zH.ite (λhs=>?_) λ_=>zH.ret (no _ rfl)) λ_=>zH.ret (no _ rfl)) λh4=>zH.ite (λh2=>?_) λ_=>zH.ret (no _ rfl)
  ·have e:sub.length=0:=by have:(sub.length:Int)=0:=(by simpa[zB.sub_]using hs);omega
   exact(U1 t).bind λ_ _=>zH.ret λ_=>leaf e (.inl (by simpa[zB.kind_]using h1))
  ·have e:sub.length=0:=by have:(sub.length:Int)=0:=(by simpa[zB.sub_]using hs);omega
   exact zH.bind (P:=λ_=>True) ((xM t ho.2.2).tot trivial) λ_ _=>zH.ret λ_=>leaf e (.inr (.inl (by simpa[zB.kind_]using h3)))
  ·have e:sub.length=0:=by have:(sub.length:Int)=0:=(by simpa[zB.sub_]using hs);omega
   exact(U1 t).bind λ_ _=>zH.ret λ_=>leaf e (.inr (.inr (by simpa[zB.kind_]using h4)))
  ·refine zH.bind (P:=λr=>r=zIf l n) ((zTn hE n).tot rfl) λr hr=>zH.ite (λ_=>zH.ret (no _ rfl)) λhn=>(U1 t).bind λ_ _=>zH.ite (λ_=>?_) λ_=>zH.ret (no _ rfl);have hn':r=(sub.length:Int):=by simpa[zB.sub_]using hn
   refine zH.bind (P:=λb=>b=false->GPs l sub) ?_ λb hb=>zH.ret λh=>?_
   ·refine zH.succ ?_;simp only[zBE];refine zH.bind (P:=λi:Int=>i<0->GPs l sub) ?_ λi hi=>zH.ret λh=>hi (by have:=of_decide_eq_false h;omega);refine zH.succ ?_;simp only[zBF];exact zDK sub sub 0 rfl ho.2.1 ho.1
   ·rw[GP];exact⟨λ_ _ _=>⟨by simpa[zB.kind_]using h2,by rw[<-hr,hn']⟩,hb (by simpa using h)⟩theorem zDK:∀(r ps:List zB)(v:Nat),ps.drop v=r->jJ r->ps.length<=17592186044416->zH (λq=>pS q ps l (v:Int)) λi=>i<0->GPs l r
 |[],ps,v,hd,ho,hl=>by refine zH.succ ?_;simp only[pS];refine zH.ite (λh=>?_) λ_=>zH.ret λ_=>zMI l;rw[zY hd]at h;cases h|x::r,ps,v,hd,ho,hl=>by
  have hlt:=yC hd;rw[jJ]at ho;refine zH.succ ?_;simp only[pS,mN];refine zH.ite (λ_=>zH.pure (zV hd) (zH.bind (P:=λb=>b=false->GP l x) ?_ λb hb=>zH.ite (λ_=>zH.ret λh=>by omega) λhf=>?_)) λh=>?_
  ·refine zH.succ ?_;simp only[zBG,mN];exact(zIe x ho.1).bind λb hb=>zH.ret λh=>hb (by simpa using h)
  ·rw[zU v (by omega)];exact(zDK r ps (v+1) (zR hd) ho.2 hl).mono λi hi h=>by rw[GPs];exact⟨hb hf,hi h⟩
  ·rw[zX hd]at h;cases h end
end
def zZX(p:Nat)(f a b g:Bool)(n m:Int)(e:yU)(c d:Nat):Option (Bool):=if f then some true else if a then some true else some b
theorem yFq{p f a b g n m e c d}:Cz (zZX p f a b g n m e c d) 144 [.cells [ab f,ab a,ab b,ab g,ai n,ai m,.ms 1 0 c d 3],.row (zC zA e)] [.mp 0 0] (λr=>ab r) (λ_=>[.cells [ab f,ab a,ab b,ab g,ai n,ai m,.ms 1 0 c d 3],.row (zC zA e)]) 0:=fw func144<|rB 0 (fE 0)<|rB 0 (fE 0)<|fE 1
mutual def zKG:Nat->xK->Int->Int->(List (List zB))->yQ->Bool->Bool->Bool->Bool->Int->Int->yU->Nat->Nat->xU->zB->Tm->Option ((Bool×Bool×Bool×Bool×Int×Int×yU×Nat×Nat)⊕((Bool×Bool×Bool×Int×Int×yU×Nat×Nat)⊕((Bool×Bool×Bool×Int×Int×yU×Nat×Nat)⊕(Bool×Bool×Bool×Int×Int×yU×Nat×Nat))))
 |0,_,_,_,_,_,_,_,_,_,_,_,_,_,_,_,_,_=>none|H+1,M,w,y,d,a,s,q,m,p,u,t,g,e,f,I,v,L=>zZX H s q m p u t g e f>>=λr1=>if r1 then some (Sum.inl (s,q,m,p,u,t,g,e,f))else if v.kind_==3 then some (Sum.inl (s,q,m,p,u,t,g,e,f))else if v.kind_==1 then I9 e g>>=λl6=>yX 40 l6 [(Tm.mk 0 0 [])]>>=λl8=>oT l8.length (e:Int)>>=λx10=>jF l8 x10 L>>=λx12=>some (Sum.inl (s,q,m,p,u,t,x12,List.length l8,List.length l8))else if L.k==8 then zHQ H I>>=λr15=>zHN H r15 L.n>>=λr17=>if r17 then some (Sum.inr (Sum.inl (s,q,(v.kind_==4),L.n,v.at_,g,e,f)))else S2 H M L>>=λr20=>if r20.2.2 then if v.kind_==4 then some (Sum.inr (Sum.inr (Sum.inl (s,m,p,u,v.at_,g,e,f))))else if r20.1 !=v.n_ then some (Sum.inr (Sum.inr (Sum.inr (q,m,p,u,t,g,e,f))))else pC H M w y d a I v r20.1 r20.2.1 0 s q m p u t f e g else some (Sum.inr (Sum.inr (Sum.inl (s,m,p,u,v.at_,g,e,f))))else S2 H M L>>=λr25=>if r25.2.2 then if v.kind_==4 then some (Sum.inr (Sum.inr (Sum.inl (s,m,p,u,v.at_,g,e,f))))else if r25.1 !=v.n_ then some (Sum.inr (Sum.inr (Sum.inr (q,m,p,u,t,g,e,f))))else pC H M w y d a I v r25.1 r25.2.1 0 s q m p u t f e g else some (Sum.inr (Sum.inr (Sum.inl (s,m,p,u,v.at_,g,e,f))))termination_by structural n=>n def pC:Nat->xK->Int->Int->(List (List zB))->yQ->xU->zB->Int->yU->Int->Bool->Bool->Bool->Bool->Int->Int->Nat->Nat->yU->Option ((Bool×Bool×Bool×Bool×Int×Int×yU×Nat×Nat)⊕((Bool×Bool×Bool×Int×Int×yU×Nat×Nat)⊕((Bool×Bool×Bool×Int×Int×yU×Nat×Nat)⊕(Bool×Bool×Bool×Int×Int×yU×Nat×Nat))))|0,_,_,_,_,_,_,_,_,_,_,_,_,_,_,_,_,_,_,_=>none|H+1,M,w,y,d,a,I,v,J,K,G,i,A,B,C,D,E,xR,xL,F=>if decide (G<(v.sub_.length:Int))then zS v.sub_ G>>=λx26=>zOA H M J>>=λr28=>zS K (xC (r28+G))>>=λx30=>zKG H M w y d a i A B C D E F xL xR I (zB.mk x26.kind_ x26.n_ x26.at_ x26.sub_ x26.t_) x30>>=λr32=>match r32 with|Sum.inl y34=>pC H M w y d a I v J K (xC (G+1)) y34.1 y34.2.1 y34.2.2.1 y34.2.2.2.1 y34.2.2.2.2.1 y34.2.2.2.2.2.1 y34.2.2.2.2.2.2.2.2 y34.2.2.2.2.2.2.2.1 y34.2.2.2.2.2.2.1|Sum.inr (Sum.inl y35)=>pC H M w y d a I v J K (xC (G+1)) y35.1 y35.2.1 true y35.2.2.1 y35.2.2.2.1 y35.2.2.2.2.1 y35.2.2.2.2.2.2.2 y35.2.2.2.2.2.2.1 y35.2.2.2.2.2.1|Sum.inr (Sum.inr (Sum.inl y36))=>pC H M w y d a I v J K (xC (G+1)) y36.1 true y36.2.1 y36.2.2.1 y36.2.2.2.1 y36.2.2.2.2.1 y36.2.2.2.2.2.2.2 y36.2.2.2.2.2.2.1 y36.2.2.2.2.2.1|Sum.inr (Sum.inr (Sum.inr y37))=>pC H M w y d a I v J K (xC (G+1)) true y37.1 y37.2.1 y37.2.2.1 y37.2.2.2.1 y37.2.2.2.2.1 y37.2.2.2.2.2.2.2 y37.2.2.2.2.2.2.1 y37.2.2.2.2.2.1 else some (Sum.inl (i,A,B,C,D,E,F,xL,xR))termination_by structural n=>n end
theorem zId:∀H:Nat,(∀M w y d a s q m p u t g e f I v L,Cz (zKG H M w y d a s q m p u t g e f I v L) 108 [.cells [.mp 1 0,.mp 3 0,zN (rD zK) d .no,ai a.e_,ai a.row_,ai a.at_],mB M 2,mR M,.cells [ai w,ai y],.cells [ab s,ab q,ab m,ab p,ai u,ai t,.ms 5 0 e f 3],.row (zC zA g)] [.mp 0 0,.mp 4 0,zN zD I .no,wT v,yZ L] (λ_=>.tup []) (Sum.elim (λx=>[.cells [.mp 1 0,.mp 3 0,zN (rD zK) d .no,ai a.e_,ai a.row_,ai a.at_],mB M 2,mR M,.cells [ai w,ai y],.cells [ab x.1,ab x.2.1,ab x.2.2.1,ab x.2.2.2.1,ai x.2.2.2.2.1,ai x.2.2.2.2.2.1,.ms 6 0 x.2.2.2.2.2.2.2.1 x.2.2.2.2.2.2.2.2 3],.dead,.row (zC zA x.2.2.2.2.2.2.1)]) (Sum.elim (λx=>[.cells [.mp 1 0,.mp 3 0,zN (rD zK) d .no,ai a.e_,ai a.row_,ai a.at_],mB M 2,mR M,.cells [ai w,ai y],.cells [ab x.1,ab x.2.1,ab true,ab x.2.2.1,ai x.2.2.2.1,ai x.2.2.2.2.1,.ms 6 0 x.2.2.2.2.2.2.1 x.2.2.2.2.2.2.2 3],.dead,.row (zC zA x.2.2.2.2.2.1)]) (Sum.elim (λx=>[.cells [.mp 1 0,.mp 3 0,zN (rD zK) d .no,ai a.e_,ai a.row_,ai a.at_],mB M 2,mR M,.cells [ai w,ai y],.cells [ab x.1,ab true,ab x.2.1,ab x.2.2.1,ai x.2.2.2.1,ai x.2.2.2.2.1,.ms 6 0 x.2.2.2.2.2.2.1 x.2.2.2.2.2.2.2 3],.dead,.row (zC zA x.2.2.2.2.2.1)]) (λx=>[.cells [.mp 1 0,.mp 3 0,zN (rD zK) d .no,ai a.e_,ai a.row_,ai a.at_],mB M 2,mR M,.cells [ai w,ai y],.cells [ab true,ab x.1,ab x.2.1,ab x.2.2.1,ai x.2.2.2.1,ai x.2.2.2.2.1,.ms 6 0 x.2.2.2.2.2.2.1 x.2.2.2.2.2.2.2 3],.dead,.row (zC zA x.2.2.2.2.2.1)])))) 0)/\(∀M w y d a I v J K G i A B C D E xR xL F,Lz (pC H M w y d a I v J K G i A B C D E xR xL F) 6 f108 (pt 16744437 f108) (λj=>sp j 126 0 [(0,.mp 0 0),(1,.mp 4 0),(2,zN zD I .no),(10,ai J),(11,zN zA K .no),(78,zN zK v.sub_ .no),(79,ai (v.sub_.length:Int)),(80,ai G)]) ⟨[(0,.cells [.mp 1 0,.mp 3 0,zN (rD zK) d .no,ai a.e_,ai a.row_,ai a.at_]),(1,mB M 2),(2,mR M),(3,.cells [ai w,ai y]),(4,.cells [ab i,ab A,ab B,ab C,ai D,ai E,.ms 6 0 xL xR 3]),(5,.dead),(6,.row (zC zA F))],7,[],0,[]⟩ (λ_=>.tup []) (Sum.elim (λx=>[.cells [.mp 1 0,.mp 3 0,zN (rD zK) d .no,ai a.e_,ai a.row_,ai a.at_],mB M 2,mR M,.cells [ai w,ai y],.cells [ab x.1,ab x.2.1,ab x.2.2.1,ab x.2.2.2.1,ai x.2.2.2.2.1,ai x.2.2.2.2.2.1,.ms 6 0 x.2.2.2.2.2.2.2.1 x.2.2.2.2.2.2.2.2 3],.dead,.row (zC zA x.2.2.2.2.2.2.1)]) (Sum.elim (λx=>[.cells [.mp 1 0,.mp 3 0,zN (rD zK) d .no,ai a.e_,ai a.row_,ai a.at_],mB M 2,mR M,.cells [ai w,ai y],.cells [ab x.1,ab x.2.1,ab true,ab x.2.2.1,ai x.2.2.2.1,ai x.2.2.2.2.1,.ms 6 0 x.2.2.2.2.2.2.1 x.2.2.2.2.2.2.2 3],.dead,.row (zC zA x.2.2.2.2.2.1)]) (Sum.elim (λx=>[.cells [.mp 1 0,.mp 3 0,zN (rD zK) d .no,ai a.e_,ai a.row_,ai a.at_],mB M 2,mR M,.cells [ai w,ai y],.cells [ab x.1,ab true,ab x.2.1,ab x.2.2.1,ai x.2.2.2.1,ai x.2.2.2.2.1,.ms 6 0 x.2.2.2.2.2.2.1 x.2.2.2.2.2.2.2 3],.dead,.row (zC zA x.2.2.2.2.2.1)]) (λx=>[.cells [.mp 1 0,.mp 3 0,zN (rD zK) d .no,ai a.e_,ai a.row_,ai a.at_],mB M 2,mR M,.cells [ai w,ai y],.cells [ab true,ab x.1,ab x.2.1,ab x.2.2.1,ai x.2.2.2.1,ai x.2.2.2.2.1,.ms 6 0 x.2.2.2.2.2.2.1 x.2.2.2.2.2.2.2 3],.dead,.row (zC zA x.2.2.2.2.2.1)])))) 0 [.blk 2,.blk 1]):=xX ⟨λ_ _ _ _ _ _ _ _ _ _ _ _ _ _ _ _ _=>cN,λ_ _ _ _ _ _ _ _ _ _ _ _ _ _ _ _ _ _ _=>lN⟩ λH ih=>⟨λM w y d a s q m p u t g e f I v L=>fw func108<|rK 0 [4,5] yFq (λ_=>fG 0 [(some 5,0,0)] [0,1,2,3,4,5,8] [] false) λ_=>rB 1 (fG 0 [(some 5,0,0)] [0,1,2,3,4,5,8] [] false)<|rB 1 (rS (oS 3 (xJ xY [(Tm.mk 0 0 [])]))<|rH λ_ h7=>rW (λh9=>oM 0 (zXY h7 h9 (by simp))) λl8=>rA 0 (zCR (b:=8) (c:=List.length l8) (z:=3)) λ_=>rW (λh13=>oW 0 (wtE (x:=L) (cs:=[ai L.k,ai L.n,zN zA L.sub .no]) uW (by rw[xY];rfl) h13)) λ_=>fF 1 [0,1,2,3,4,5,8])<|rB 1 (rC 0 [] zCg λ_=>rS (jL 0)<|rK 0 [] zSG (λ_=>fG 8 [(some 5,0,0)] [0,1,2,3,4,5,8] [] false) λ_=>rC 2 [1,2] zKu λ_=>rB 2 (rB 2 (fG 3 [(some 5,0,0)] [0,1,2,3,4,5,8] [] false)<|rB 1 (fG 1 [(some 5,0,0)] [0,1,2,3,4,5,8] [] false)<|fH 2 [(some 5,0,0)] [0,1,2,3,4,5,8] [] [0,1,2,10,11,78,79,80] (ih.2 _ _ _ _ _ _ _ _ _ _ _ _ _ _ _ _ _ _ _))<|fG 4 [(some 5,0,0)] [0,1,2,3,4,5,8] [] false)<|rC 2 [1,2] zKu λ_=>rB 2 (rB 2 (fG 3 [(some 5,0,0)] [0,1,2,3,4,5,8] [] false)<|rB 1 (fG 1 [(some 5,0,0)] [0,1,2,3,4,5,8] [] false)<|fH 2 [(some 5,0,0)] [0,1,2,3,4,5,8] [] [0,1,2,10,11,78,79,80] (ih.2 _ _ _ _ _ _ _ _ _ _ _ _ _ _ _ _ _ _ _))<|fG 4 [(some 5,0,0)] [0,1,2,3,4,5,8] [] false,λM w y d a I v J K G i A B C D E xR xL F=>lw λ_=>rB 0 (rA 0 (zCp (o:=.no)) λ_=>rC 4 [1,2] zZr λ_=>rA 1 (xP (o:=.no)) λ_=>rC 1 [0,1,2,3,4,6] (ih.1 _ _ _ _ _ _ _ _ _ _ _ _ _ _ _ _ _)<|sD (λ_=>lH 1 [] [0,1,2,3,4,5,8] [] [0,1,2,10,11,78,79,80] (ih.2 _ _ _ _ _ _ _ _ _ _ _ _ _ _ _ _ _ _ _))<|sD (λ_=>lH 1 [] [0,1,2,3,4,5,8] [] [0,1,2,10,11,78,79,80] (ih.2 _ _ _ _ _ _ _ _ _ _ _ _ _ _ _ _ _ _ _))<|sD (λ_=>lH 1 [] [0,1,2,3,4,5,8] [] [0,1,2,10,11,78,79,80] (ih.2 _ _ _ _ _ _ _ _ _ _ _ _ _ _ _ _ _ _ _)) λ_=>lH 1 [] [0,1,2,3,4,5,8] [] [0,1,2,10,11,78,79,80] (ih.2 _ _ _ _ _ _ _ _ _ _ _ _ _ _ _ _ _ _ _))<|lF 0 [0,1,2,3,4,5,6]⟩
theorem yFp{H M w y d a s q m p u t g e f I v L}:Cz (zKG H M w y d a s q m p u t g e f I v L) 108 [.cells [.mp 1 0,.mp 3 0,zN (rD zK) d .no,ai a.e_,ai a.row_,ai a.at_],mB M 2,mR M,.cells [ai w,ai y],.cells [ab s,ab q,ab m,ab p,ai u,ai t,.ms 5 0 e f 3],.row (zC zA g)] [.mp 0 0,.mp 4 0,zN zD I .no,wT v,yZ L] (λ_=>.tup []) (Sum.elim (λx=>[.cells [.mp 1 0,.mp 3 0,zN (rD zK) d .no,ai a.e_,ai a.row_,ai a.at_],mB M 2,mR M,.cells [ai w,ai y],.cells [ab x.1,ab x.2.1,ab x.2.2.1,ab x.2.2.2.1,ai x.2.2.2.2.1,ai x.2.2.2.2.2.1,.ms 6 0 x.2.2.2.2.2.2.2.1 x.2.2.2.2.2.2.2.2 3],.dead,.row (zC zA x.2.2.2.2.2.2.1)]) (Sum.elim (λx=>[.cells [.mp 1 0,.mp 3 0,zN (rD zK) d .no,ai a.e_,ai a.row_,ai a.at_],mB M 2,mR M,.cells [ai w,ai y],.cells [ab x.1,ab x.2.1,ab true,ab x.2.2.1,ai x.2.2.2.1,ai x.2.2.2.2.1,.ms 6 0 x.2.2.2.2.2.2.1 x.2.2.2.2.2.2.2 3],.dead,.row (zC zA x.2.2.2.2.2.1)]) (Sum.elim (λx=>[.cells [.mp 1 0,.mp 3 0,zN (rD zK) d .no,ai a.e_,ai a.row_,ai a.at_],mB M 2,mR M,.cells [ai w,ai y],.cells [ab x.1,ab true,ab x.2.1,ab x.2.2.1,ai x.2.2.2.1,ai x.2.2.2.2.1,.ms 6 0 x.2.2.2.2.2.2.1 x.2.2.2.2.2.2.2 3],.dead,.row (zC zA x.2.2.2.2.2.1)]) (λx=>[.cells [.mp 1 0,.mp 3 0,zN (rD zK) d .no,ai a.e_,ai a.row_,ai a.at_],mB M 2,mR M,.cells [ai w,ai y],.cells [ab true,ab x.1,ab x.2.1,ab x.2.2.1,ai x.2.2.2.1,ai x.2.2.2.2.1,.ms 6 0 x.2.2.2.2.2.2.1 x.2.2.2.2.2.2.2 3],.dead,.row (zC zA x.2.2.2.2.2.1)])))) 0:=(zId _).1 _ _ _ _ _ _ _ _ _ _ _ _ _ _ _ _ _
structure PS where
 out:Bool
 st:Bool
 wa:Bool
 no:Bool
 n:Int
 at_:Int
 bs:List Tm
def PS.ended(s:PS):Bool:=s.out||s.st||s.wa
mutual def hP(l:List yI)(ns:List Int):zB->Tm->PS->PS|.mk k m a sub _,t,s=>if s.ended=true\/k=3 then s else if k=1 then{s with bs:=s.bs++[t]}else if t.k=8/\t.n∈ns then{s with wa:=true,no:=k==4,n:=t.n,at_:=a}else if vV l t/\k≠4 then(if(yK t).n≠m then{s with out:=true}else bW l ns sub (sZ l t) s)else{s with st:=true,at_:=a}def bW(l:List yI)(ns:List Int):List zB->List Tm->PS->PS|[],_,s=>s|p::ps,ts,s=>match ts with|[]=>s|t::ts=>bW l ns ps ts (hP l ns p t s)end
abbrev H8:=Bool×Bool×Bool×Int×Int×List Tm×Nat×Nat
abbrev HXT:=(Bool×H8)⊕(H8⊕(H8⊕H8))
def hsX:HXT->Bool×H8|.inl y=>y|.inr (.inl y)=>(y.1,y.2.1,true,y.2.2)|.inr (.inr (.inl y))=>(y.1,true,y.2)|.inr (.inr (.inr y))=>(true,y)
def HR(s:PS)(x:HXT):Prop:=∃c,hsX x=(s.out,s.st,s.wa,s.no,s.n,s.at_,s.bs,s.bs.length,c)
mutual theorem zTm(l:List yI)(ns:List Int):∀(p:zB)(t:Tm)(s:PS),zG t=true->(∀b∈s.bs,zG b=true)->(hP l ns p t s).bs.length<=s.bs.length+ndP p/\∀b∈(hP l ns p t s).bs,zG b=true
 |.mk k m a sub pt,t,s,ht,hs=>by
  rw[hP,ndP];split;·exact⟨by omega,hs⟩
  split
  ·refine⟨by simp,λb hb=>?_⟩;rcases List.mem_append.1 hb with hb|hb;·exact hs b hb
   ·rw[List.mem_singleton.1 hb];exact ht
  split;·exact⟨by show s.bs.length<=_;omega,hs⟩
  split
  ·split;·exact⟨by show s.bs.length<=_;omega,hs⟩
   ·have:=zKH l ns sub (sZ l t) s (λx hx=>xN ht (List.mem_of_mem_drop hx)) hs;exact⟨by omega,this.2⟩
  ·exact⟨by show s.bs.length<=_;omega,hs⟩theorem zKH(l:List yI)(ns:List Int):∀(ps:List zB)(ts:List Tm)(s:PS),(∀t∈ts,zG t=true)->(∀b∈s.bs,zG b=true)->(bW l ns ps ts s).bs.length<=s.bs.length+tI ps/\∀b∈(bW l ns ps ts s).bs,zG b=true|[],_,s,_,hs=>by rw[bW];exact⟨by omega,hs⟩|p::ps,[],s,_,hs=>by rw[bW];exact⟨by omega,hs⟩|p::ps,t::ts,s,ht,hs=>by rw[bW,tI];have h1:=zTm l ns p t s (ht t (List.mem_cons_self ..)) hs;have h2:=zKH l ns ps ts _ (λx hx=>ht x (List.mem_cons_of_mem _ hx)) h1.2;exact⟨by omega,h2.2⟩end
section
variable{N:ByteArray->Bool}{l:List yI}(hE:vA N l)(he:∀e∈l,jM e)
include hE he
theorem zDL(fl fu:Int)(rows:List (List zB))(bad:yQ)(c:List zJ)(p:zB)(t:Tm)(ht:zG t=true)(hc:vV l t)(hps:p.sub_.length<=8192)(H:∀x∈p.sub_,∀(t:Tm)(s:PS)(bc:Nat),zG t=true->(∀b∈s.bs,zG b=true)->s.bs.length+ndP x<=100000->zH (λq=>zKG q (xI l) fl fu rows bad s.out s.st s.wa s.no s.n s.at_ s.bs s.bs.length bc c x t) (HR (hP l (c.map (·.n_)) x t s))):∀(r:List zB)(v:Nat)(ts:List Tm)(s:PS)(bc:Nat),p.sub_.drop v=r->(sZ l t).drop v=ts->r.length=ts.length->(∀b∈s.bs,zG b=true)->s.bs.length+tI r<=100000->zH (λq=>pC q (xI l) fl fu rows bad c p (yK t).n (xF t) (v:Int) s.out s.st s.wa s.no s.n s.at_ bc s.bs.length s.bs) (HR (bW l (c.map (·.n_)) r ts s))
 |[],v,ts,s,bc,hd,htd,hn,hs,hb=>by
  refine zH.succ ?_;simp only[pC];refine zH.ite (λh=>?_) λ_=>zH.ret ?_;·rw[zY hd]at h;cases h
  ·rw[bW];exact⟨bc,rfl⟩|x::r,v,[],s,bc,hd,htd,hn,hs,hb=>by simp at hn|x::r,v,y::ts,s,bc,hd,htd,hn,hs,hb=>by
  have hlt:=yC hd;have hx:x∈p.sub_:=List.mem_of_mem_drop (by rw[hd];simp);have hy:y∈sZ l t:=List.mem_of_mem_drop (by rw[htd];simp);have hsy:zG y=true:=xN ht (List.mem_of_mem_drop hy);obtain⟨pp,hp',h1,h2,h3⟩:=lM hE ht hc;have hal:=sB t (zL ht).2.2;have htn:=(zL ht).1;rw[tI]at hb;have hidx:zS (xF t) (xC ((pp:Int)+(v:Int)))=some y:=by
   rw[yS (by omega) (by omega),show((pp:Int)+(v:Int))=((pp+v:Nat):Int)by omega];refine wX ?_;have:(sZ l t)[v]?=some y:=by have:=congrArg (λl=>l[0]?) htd;simpa[List.getElem?_drop]using this
   unfold sZ at this;rw[hp']at this;simpa[List.getElem?_drop]using this
  refine zH.succ ?_;simp only[pC,mN];refine zH.ite (λ_=>zH.pure (zV hd) (zH.bind (P:=λr=>r=(pp:Int)) ((zAU l h2 h3).tot hp') λr28 e28=>?_)) λh=>?_
  ·subst e28;refine zH.pure hidx ((H x hx y s bc hsy hs (by omega)).bind λz hz=>?_);rw[bW];have hbs:=zTm l (c.map (·.n_)) x y s hsy hs;generalize hP l (c.map (·.n_)) x y s=s' at hz hbs⊢;obtain⟨o,st,w,no,n,a,b⟩:=s';rw[zU v (by omega)];obtain⟨c',hz⟩:=hz;have nx:∀o st w:Bool,zH (λq=>pC q (xI l) fl fu rows bad c p (yK t).n (xF t) ((v+1:Nat):Int) o st w no n a c' b.length b) (HR (bW l (c.map (·.n_)) r ts ⟨o,st,w,no,n,a,b⟩)):=λo st w=>zDL fl fu rows bad c p t ht hc hps H r (v+1) ts ⟨o,st,w,no,n,a,b⟩ c' (zR hd) (by have:=congrArg (List.drop 1) htd;simpa[List.drop_drop,Nat.add_comm]using this) (by simpa using hn) hbs.2 (by have:=hbs.1;dsimp only at this⊢;omega);rcases z with⟨y1,y2,y3,y4,y5,y6,y7,y8,y9⟩|⟨y1,y2,y4,y5,y6,y7,y8,y9⟩|⟨y1,y3,y4,y5,y6,y7,y8,y9⟩|⟨y2,y3,y4,y5,y6,y7,y8,y9⟩;all_goals simp only[hsX,Prod.mk.injEq]at hz
   ·obtain⟨rfl,rfl,rfl,rfl,rfl,rfl,rfl,rfl,rfl⟩:=hz;exact nx _ _ _
   ·obtain⟨rfl,rfl,rfl,rfl,rfl,rfl,rfl,rfl,rfl⟩:=hz;exact nx _ _ _
   ·obtain⟨rfl,rfl,rfl,rfl,rfl,rfl,rfl,rfl,rfl⟩:=hz;exact nx _ _ _
   ·obtain⟨rfl,rfl,rfl,rfl,rfl,rfl,rfl,rfl,rfl⟩:=hz;exact nx _ _ _
  ·rw[zX hd]at h;cases h
theorem zTl(fl fu:Int)(rows:List (List zB))(bad:yQ)(c:List zJ)(hcl:c.length<=1048576):∀(m:Nat)(p:zB),ndP p<=m->GP l p->oJ p->m<=8192->∀(t:Tm)(s:PS)(bc:Nat),zG t=true->(∀b∈s.bs,zG b=true)->s.bs.length+ndP p<=100000->zH (λq=>zKG q (xI l) fl fu rows bad s.out s.st s.wa s.no s.n s.at_ s.bs s.bs.length bc c p t) (HR (hP l (c.map (·.n_)) p t s)):=by intro m;induction m with|zero=>intro p hm;rw[zMF]at hm;omega|succ m ih=>
 intro p hm hg ho hm8 t s bc ht hs hb;obtain⟨k,pn,pa,sub,pt⟩:=p;rw[oJ]at ho;rw[GP]at hg;rw[ndP]at hm hb;have hsl:=dM sub;refine zH.succ ?_;simp only[zKG,zZX];rw[hP];have hend:zH (λq=>if s.out=true then some true else if s.st=true then some true else some s.wa) λb=>b=s.ended:=by refine zH.ite (λh=>zH.ret (by simp[PS.ended,h])) λh=>zH.ite (λh2=>zH.ret (by simp[PS.ended,h2])) λh2=>zH.ret (by simp[PS.ended,h,h2])
 refine hend.bind λb e=>?_;subst e;refine zH.ite (λh=>zH.ret ?_) λhen=>zH.ite (λh3=>zH.ret ?_) λh3=>?_;·rw[if_pos (.inl h)];exact⟨bc,rfl⟩
 ·have h3':k=3:=by simpa[zB.kind_]using h3
  rw[if_pos (.inr h3')];exact⟨bc,rfl⟩
 have h3':k≠3:=by simpa[zB.kind_]using h3
 rw[if_neg (λh=>h.elim (λh=>by rw[hen]at h;cases h) h3')];refine zH.ite (λh1=>?_) λh1=>?_
 ·have h1':k=1:=by simpa[zB.kind_]using h1
  rw[if_pos h1'];refine zH.pure (a:=s.bs) (by unfold I9;rw[if_pos rfl]) (zH.pure (yF (by simp;omega)) (zH.pure (a:=s.bs.length) (qG (by simp)) (zH.pure (a:=s.bs++[t]) ?_ (zH.ret ⟨_,by simp[hsX];rfl⟩))));unfold jF;rw[if_pos (by simp)];simp
 have h1':k≠1:=by simpa[zB.kind_]using h1
 rw[if_neg h1'];have con:zH (λq=>S2 q (xI l) t>>=λr20=>if r20.2.2=true then(if(zB.kind_ (.mk k pn pa sub pt)==4)=true then some (Sum.inr (Sum.inr (Sum.inl (s.out,s.wa,s.no,s.n,zB.at_ (.mk k pn pa sub pt),s.bs,s.bs.length,bc))))else if(r20.1 !=zB.n_ (.mk k pn pa sub pt))=true then some (Sum.inr (Sum.inr (Sum.inr (s.st,s.wa,s.no,s.n,s.at_,s.bs,s.bs.length,bc))))else pC q (xI l) fl fu rows bad c (.mk k pn pa sub pt) r20.1 r20.2.1 0 s.out s.st s.wa s.no s.n s.at_ bc s.bs.length s.bs)else some (Sum.inr (Sum.inr (Sum.inl (s.out,s.wa,s.no,s.n,zB.at_ (.mk k pn pa sub pt),s.bs,s.bs.length,bc))))) (HR (if vV l t/\k≠4 then(if(yK t).n≠pn then{s with out:=true}else bW l (c.map (·.n_)) sub (sZ l t) s)else{s with st:=true,at_:=pa})):=by
  refine zH.bind (P:=λr=>r=kP l t) ((L7 l t ht).tot rfl) λr e=>?_;subst e;by_cases hc:vV l t
  ·have xc:kP l t=((yK t).n,xF t,true):=if_pos hc;rw[xc];refine zH.ite (λ_=>zH.ite (λh4=>zH.ret ?_) λh4=>zH.ite (λhn=>zH.ret ?_) λhn=>?_) λh=>by cases h
   ·have h4':k=4:=by simpa[zB.kind_]using h4
    rw[if_neg (λh=>h.2 h4')];exact⟨bc,rfl⟩
   ·have h4':k≠4:=by simpa[zB.kind_]using h4
    have hn':(yK t).n≠pn:=by simpa[zB.n_]using hn
    rw[if_pos ⟨hc,h4'⟩,if_pos hn'];exact⟨bc,rfl⟩
   ·have h4':k≠4:=by simpa[zB.kind_]using h4
    have hn':(yK t).n=pn:=by simpa[zB.n_]using hn
    rw[if_pos ⟨hc,h4'⟩,if_neg (λh=>h hn')];have sc:=uD ht hc;obtain⟨A,y,hw,-,-,hp,-,q0,q1,-⟩:=uF hE sc.1 sc.2.1 sc.2.2.1;have hk:=hg.1 h1' h3' h4';have har:zIf l pn=uJ (yA l pn).type-(yA l pn).pars:=by unfold zIf;rw[<-hn',if_pos ⟨sc.1,sc.2.1,sc.2.2.1⟩]
    refine zDL hE he fl fu rows bad c (.mk k pn pa sub pt) t ht hc (by show sub.length<=_;omega) (λx hx t' s' bc' ht' hs' hb'=>?_) sub 0 (sZ l t) s bc rfl rfl ?_ hs (by omega)
    ·have:ndP x<=tI sub:=zBI hx;exact ih x (by omega) (zKF hg.2 x hx) (bV ho.2.1 x hx) (by omega) t' s' bc' ht' hs' hb'
    ·have h5:=hk.2;rw[har,<-hn']at h5;unfold sZ;rw[List.length_drop];have:=sc.2.2.2;omega
  ·have xc:kP l t=(0,[],false):=if_neg hc;rw[xc];refine zH.ite (λh=>by cases h) λ_=>zH.ret ?_;rw[if_neg (λh=>hc h.1)];exact⟨bc,rfl⟩
 refine zH.ite (λh8=>?_) λh8=>?_
 ·have h8':t.k=8:=by simpa using h8
  simp only[zHQ];refine(lA c hcl _ 0 [] rfl (Nat.zero_le _) rfl).bind λns hns=>?_;subst hns;refine(dA (c.map (·.n_)) t.n (by rw[List.length_map];omega)).bind λb hb'=>zH.ite (λhbt=>zH.ret ?_) λhbf=>?_;·rw[if_pos ⟨h8',hb'.1 hbt⟩];exact⟨bc,rfl⟩
  ·rw[if_neg (λh=>by rw[hb'.2 h.2]at hbf;cases hbf)];exact con
 ·have h8':t.k≠8:=by simpa using h8
  rw[if_neg (λh=>h8' h.1)];exact con
end
def jK:Nat->xK->Int->Int->(List (List zB))->yQ->xT->(List zB)->Int->Bool->Bool->Bool->Bool->Int->Int->Nat->Nat->yU->Option (Bool×Bool×Bool×Bool×Int×Int×yU×Nat×Nat)|0,_,_,_,_,_,_,_,_,_,_,_,_,_,_,_,_,_=>none|u+1,M,q,s,b,a,t,x1,p,c,d,e,f,g,m,bY,bZ,n=>if decide (p<(x1.length:Int))then zS x1 p>>=λx4=>zS t.args_ p>>=λx6=>zKG u M q s b a c d e f g m n bZ bY t.c_ (zB.mk x4.kind_ x4.n_ x4.at_ x4.sub_ x4.t_) x6>>=λr8=>match r8 with|Sum.inl y10=>jK u M q s b a t x1 (xC (p+1)) y10.1 y10.2.1 y10.2.2.1 y10.2.2.2.1 y10.2.2.2.2.1 y10.2.2.2.2.2.1 y10.2.2.2.2.2.2.2.2 y10.2.2.2.2.2.2.2.1 y10.2.2.2.2.2.2.1|Sum.inr (Sum.inl y11)=>jK u M q s b a t x1 (xC (p+1)) y11.1 y11.2.1 true y11.2.2.1 y11.2.2.2.1 y11.2.2.2.2.1 y11.2.2.2.2.2.2.2 y11.2.2.2.2.2.2.1 y11.2.2.2.2.2.1|Sum.inr (Sum.inr (Sum.inl y12))=>jK u M q s b a t x1 (xC (p+1)) y12.1 true y12.2.1 y12.2.2.1 y12.2.2.2.1 y12.2.2.2.2.1 y12.2.2.2.2.2.2.2 y12.2.2.2.2.2.2.1 y12.2.2.2.2.2.1|Sum.inr (Sum.inr (Sum.inr y13))=>jK u M q s b a t x1 (xC (p+1)) true y13.1 y13.2.1 y13.2.2.1 y13.2.2.2.1 y13.2.2.2.2.1 y13.2.2.2.2.2.2.2 y13.2.2.2.2.2.2.1 y13.2.2.2.2.2.1 else some (c,d,e,f,g,m,n,bZ,bY)
def e78(u:Nat)(M:xK)(q s:Int)(b:List (List zB))(a:yQ)(t:xT)(v:Int):Option (Bool×Bool×Bool×Bool×Int×Int×yU×Nat×Nat):=zS b v>>=λx1=>jK u M q s b a t x1 0 false false false false 0 0 (List.length ([]:yU)) (List.length ([]:yU)) ([]:yU)
theorem zZY:∀u:Nat,∀M q s b a t x1 p c d e f g m bY bZ n,Lz (jK u M q s b a t x1 p c d e f g m bY bZ n) 4 f78 (pt 4021 f78) (λj=>sp j 38 0 [(0,.mp 0 0),(4,.mp 4 0),(7,.mp 5 0),(18,zN zK x1 .no),(19,ai (x1.length:Int)),(20,ai p)]) ⟨[(0,.cells [.mp 1 0,.mp 3 0,zN (rD zK) b .no,ai a.e_,ai a.row_,ai a.at_]),(1,mB M 2),(2,mR M),(3,.cells [ai q,ai s]),(4,.cells [zN zD t.c_ .no,zN zA t.args_ .no]),(5,.cells [ab c,ab d,ab e,ab f,ai g,ai m,.ms 6 0 bZ bY 3]),(6,.row (zC zA n))],7,[],0,[]⟩ (λ_=>.mp 4 0) (λr=>[.cells [.mp 1 0,.mp 3 0,zN (rD zK) b .no,ai a.e_,ai a.row_,ai a.at_],mB M 2,mR M,.cells [ai q,ai s],.cells [ab r.1,ab r.2.1,ab r.2.2.1,ab r.2.2.2.1,ai r.2.2.2.2.1,ai r.2.2.2.2.2.1,.ms 5 0 r.2.2.2.2.2.2.2.1 r.2.2.2.2.2.2.2.2 3],.row (zC zA r.2.2.2.2.2.2.1)]) 0 [.blk 0,.seq (pt 63 f78)]:=xX (λ_ _ _ _ _ _ _ _ _ _ _ _ _ _ _ _ _=>lN) λu ih=>λM q s b a t x1 p c d e f g m bY bZ n=>lw λ_=>rB 0 (rA 0 (zCp (o:=.no)) λ_=>rA 5 (xP (o:=.no)) λ_=>rC 1 [0,1,2,3,5,6] yFp<|sD (λ_=>lH 1 [] [0,1,2,3,4,5,8] [] [0,4,7,18,19,20] (ih _ _ _ _ _ _ _ _ _ _ _ _ _ _ _ _ _))<|sD (λ_=>lH 1 [] [0,1,2,3,4,5,8] [] [0,4,7,18,19,20] (ih _ _ _ _ _ _ _ _ _ _ _ _ _ _ _ _ _))<|sD (λ_=>lH 1 [] [0,1,2,3,4,5,8] [] [0,4,7,18,19,20] (ih _ _ _ _ _ _ _ _ _ _ _ _ _ _ _ _ _)) λ_=>lH 1 [] [0,1,2,3,4,5,8] [] [0,4,7,18,19,20] (ih _ _ _ _ _ _ _ _ _ _ _ _ _ _ _ _ _))<|lF 0 [0,1,2,3,5,6]
theorem c78{u M q s b a t v}:Cz (e78 u M q s b a t v) 78 [.cells [.mp 1 0,.mp 3 0,zN (rD zK) b .no,ai a.e_,ai a.row_,ai a.at_],mB M 2,mR M,.cells [ai q,ai s]] [.mp 0 0,pJ t,ai v] (λ_=>.mp 4 0) (λr=>[.cells [.mp 1 0,.mp 3 0,zN (rD zK) b .no,ai a.e_,ai a.row_,ai a.at_],mB M 2,mR M,.cells [ai q,ai s],.cells [ab r.1,ab r.2.1,ab r.2.2.1,ab r.2.2.2.1,ai r.2.2.2.2.1,ai r.2.2.2.2.2.1,.ms 5 0 r.2.2.2.2.2.2.2.1 r.2.2.2.2.2.2.2.2 3],.row (zC zA r.2.2.2.2.2.2.1)]) 0:=fw func78<|rA 1 (zQa (o:=.no)) λ_=>fH 2 [(some 5,6,4099)] [0,1,2,3,4,5,6] [] [0,4,7,18,19,20] (zZY _ _ _ _ _ _ _ _ _ _ _ _ _ _ _ _ _ _)
def U2:Nat->xU->xU->Int->Option xU|0,_,_,_=>none|b+1,a,d,c=>if decide (c<(a.length:Int))then zS a c>>=λx2=>e64 b x2.type_>>=λr4=>yX 48 d [(zJ.mk x2.n_ r4)]>>=λl6=>U2 b a l6 (xC (c+1))else some d
def e81(b:Nat)(a:xU):Option xU:=U2 b a [] 0
theorem zZZ:∀b:Nat,∀a d c,Lz (U2 b a d c) 0 f81 (pt 4021 f81) (λj=>sp j 23 0 [(3,zN zD d (.st 0 4)),(6,zN zD a .no),(7,ai (a.length:Int)),(8,ai c)]) ⟨[],0,[0],1,[]⟩ (λr=>.sl (zC zD r) r.length .no) (λ_=>[]) 0 [.blk 0,.seq (pt 63 f81)]:=xX (λ_ _ _=>lN) λb ih=>λa d c=>lw λ_=>rB 0 (rA 0 (Q3 (o:=.no)) λ_=>rS (jL 2)<|rC 1 [] c64 λ_=>rW (λh7=>oP 1 (zGg h7 (by simp))) λ_=>lH 1 [] [] [1] [3,6,7,8] (ih _ _ _))<|lE 0
theorem c81{b a}:Cz (e81 b a) 81 [] [zN zD a .no] (λr=>.sl (zC zD r) r.length .no) (λ_=>[]) 0:=fw func81<|fH 1 [(none,3,4)] [] [0] [3,6,7,8] (zZZ _ _ _ _)
def U3:Nat->yU->yU->Int->Option yU|0,_,_,_=>none|b+1,a,d,c=>if decide (c<(a.length:Int))then zS a c>>=λx2=>e64 b x2>>=λr4=>yX 40 d [r4]>>=λl6=>U3 b a l6 (xC (c+1))else some d
def e82(b:Nat)(a:yU):Option yU:=U3 b a [] 0
theorem yAz:∀b:Nat,∀a d c,Lz (U3 b a d c) 0 f82 (pt 4021 f82) (λj=>sp j 19 0 [(3,zN zA d (.st 0 3)),(6,zN zA a .no),(7,ai (a.length:Int)),(8,ai c)]) ⟨[],0,[0],1,[]⟩ (λr=>.sl (zC zA r) r.length .no) (λ_=>[]) 0 [.blk 0,.seq (pt 63 f82)]:=xX (λ_ _ _=>lN) λb ih=>λa d c=>lw λ_=>rB 0 (rA 0 (xP (o:=.no)) λ_=>rC 3 [] c64 λr4=>rS (oS 0 (xJ xY [r4]))<|rW (λh7=>oP 0 (vQ h7 (by simp))) λ_=>lH 1 [] [] [1] [3,6,7,8] (ih _ _ _))<|lE 0
theorem c82{b a}:Cz (e82 b a) 82 [] [zN zA a .no] (λr=>.sl (zC zA r) r.length .no) (λ_=>[]) 0:=fw func82<|fH 1 [(none,3,3)] [] [0] [3,6,7,8] (yAz _ _ _ _)
def nI:Nat->yU->Nat->Nat->yU->Int->Option yU|0,_,_,_,_,_=>none|g+1,d,e,f,p,m=>if decide (m<(e:Int))then oT e m>>=λx2=>zS d (x2:Int)>>=λx4=>e64 g x4>>=λr6=>yX 40 p [r6]>>=λl8=>nI g d e f l8 (xC (m+1))else some p
def zFj(g:Nat)(d:yU)(e f:Nat):Option yU:=nI g d e f [] 0
theorem zKI:∀g:Nat,∀d e f p m,Lz (nI g d e f p m) 1 f82 (pt 4021 f82) (λj=>sp j 19 0 [(3,zN zA p (.st 0 3)),(6,.ms 0 0 e f 3),(7,ai (e:Int)),(8,ai m)]) ⟨[(0,.row (zC zA d))],1,[0],1,[]⟩ (λr=>.sl (zC zA r) r.length .no) (λ_=>[.row (zC zA d)]) 0 [.blk 0,.seq (pt 63 f82)]:=xX (λ_ _ _ _ _=>lN) λg ih=>λd e f p m=>lw λ_=>rB 0 (rA 0 (zCR (b:=0) (c:=f) (z:=3)) λ_=>rH λx4 h5=>rS (oG (a:=(.agg [ai x4.k,ai x4.n,zN zA x4.sub .no])) 0 (ldE uW h5 (true,3) (val:=.agg [ai x4.k,ai x4.n,zN zA x4.sub .no]) (by rw[xY];rfl)))<|rC 2 [] c64 λr6=>rS (oS 0 (xJ xY [r6]))<|rW (λh9=>oP 0 (vQ h9 (by simp))) λ_=>lH 1 [] [0] [1] [3,6,7,8] (ih _ _ _ _ _))<|lE 0
theorem zWF{g d e f}:Cz (zFj g d e f) 82 [.row (zC zA d)] [.ms 0 0 e f 3] (λr=>.sl (zC zA r) r.length .no) (λ_=>[.row (zC zA d)]) 0:=fw func82<|fH 1 [(none,3,3)] [0] [0] [3,6,7,8] (zKI _ _ _ _ _ _)
def PS0:PS:=⟨false,false,false,false,0,0,[]⟩
def RR(s:PS)(r:Bool×H8):Prop:=∃c,r=(s.out,s.st,s.wa,s.no,s.n,s.at_,s.bs,s.bs.length,c)
section
variable{N:ByteArray->Bool}{l:List yI}(hE:vA N l)(he:∀e∈l,jM e)
include hE he
theorem zIc(fl fu:Int)(rows:List (List zB))(bad:yQ)(x:xT)(hcl:x.c_.length<=1048576)(ha:∀t∈x.args_,zG t=true)(hal:x.args_.length<=65535)(x1:List zB)(hg:∀p∈x1,GP l p/\oJ p)(hn:tI x1<=8192)(hxl:x1.length=x.args_.length):∀(r:List zB)(v:Nat)(s:PS)(bc:Nat),x1.drop v=r->(∀b∈s.bs,zG b=true)->s.bs.length+tI r<=100000->zH (λq=>jK q (xI l) fl fu rows bad x x1 (v:Int) s.out s.st s.wa s.no s.n s.at_ bc s.bs.length s.bs) (RR (bW l (x.c_.map (·.n_)) r (x.args_.drop v) s))
 |[],v,s,bc,hd,hs,hb=>by
  refine zH.succ ?_;simp only[jK];refine zH.ite (λh=>?_) λ_=>zH.ret ?_;·rw[zY hd]at h;cases h
  ·rw[bW];exact⟨bc,rfl⟩|p::r,v,s,bc,hd,hs,hb=>by
  have hlt:=yC hd;have hp:p∈x1:=List.mem_of_mem_drop (by rw[hd];simp);obtain⟨t,ht⟩:∃t,x.args_[v]?=some t:=⟨_,List.getElem?_eq_getElem (by omega)⟩;have htm:=List.mem_of_getElem? ht;have hdt:x.args_.drop v=t::x.args_.drop (v+1):=by obtain⟨g1,g2⟩:=List.getElem?_eq_some_iff.1 ht;rw[List.drop_eq_getElem_cons g1,g2]
  have hpn:=zBI hp;rw[tI]at hb;refine zH.succ ?_;simp only[jK,mN];refine zH.ite (λ_=>zH.pure (zV hd) (zH.pure (wX ht) ((zTl hE he fl fu rows bad x.c_ hcl 8192 p (by omega) (hg p hp).1 (hg p hp).2 (Nat.le_refl _) t s bc (ha t htm) hs (by omega)).bind λz hz=>?_))) λh=>?_
  ·rw[hdt,bW];have hbs:=zTm l (x.c_.map (·.n_)) p t s (ha t htm) hs;generalize hP l (x.c_.map (·.n_)) p t s=s' at hz hbs⊢;obtain⟨o,st,w,no,n,a,b⟩:=s';rw[zU v (by omega)];obtain⟨c',hz⟩:=hz;have nx:∀o st w:Bool,zH (λq=>jK q (xI l) fl fu rows bad x x1 ((v+1:Nat):Int) o st w no n a c' b.length b) (RR (bW l (x.c_.map (·.n_)) r (x.args_.drop (v+1)) ⟨o,st,w,no,n,a,b⟩)):=λo st w=>zIc fl fu rows bad x hcl ha hal x1 hg hn hxl r (v+1) ⟨o,st,w,no,n,a,b⟩ c' (zR hd) hbs.2 (by have:=hbs.1;dsimp only at this⊢;omega);rcases z with⟨y1,y2,y3,y4,y5,y6,y7,y8,y9⟩|⟨y1,y2,y4,y5,y6,y7,y8,y9⟩|⟨y1,y3,y4,y5,y6,y7,y8,y9⟩|⟨y2,y3,y4,y5,y6,y7,y8,y9⟩;all_goals simp only[hsX,Prod.mk.injEq]at hz;obtain⟨rfl,rfl,rfl,rfl,rfl,rfl,rfl,rfl,rfl⟩:=hz;exact nx _ _ _
  ·rw[zX hd]at h;cases h
theorem zWG(fl fu:Int)(rows:List (List zB))(bad:yQ)(x:xT)(hcl:x.c_.length<=1048576)(ha:∀t∈x.args_,zG t=true)(hal:x.args_.length<=65535)(v:Nat)(x1:List zB)(hx:rows[v]?=some x1)(hg:∀p∈x1,GP l p/\oJ p)(hn:tI x1<=8192)(hxl:x1.length=x.args_.length):zH (λq=>e78 q (xI l) fl fu rows bad x (v:Int)) (RR (bW l (x.c_.map (·.n_)) x1 x.args_ PS0)):=by simp only[e78];exact zH.pure (wX hx) (zIc hE he fl fu rows bad x hcl ha hal x1 hg hn hxl x1 0 PS0 0 rfl (λb h=>nomatch h) (by show 0+tI x1<=_;omega))
end
theorem zIb(c:List zJ)(hl:c.length<=1048576)(hc:∀v∈c,zG v.type_=true):∀(r:List zJ)(v:Nat)(acc:List zJ),c.drop v=r->acc=c.take v->zF (λq=>U2 q c acc (v:Int)) c|[],v,acc,hd,ha=>by refine zF.succ ?_;simp only[U2];exact zF.ifF (zY hd) (zF.ret.eq (by rw[ha,List.take_of_length_le (List.drop_eq_nil_iff.1 hd)]))|x::r,v,acc,hd,ha=>by have hlt:=yC hd;have hsx:=hc x (List.mem_of_mem_drop (by rw[hd];simp));refine zF.succ ?_;simp only[U2];refine zF.ifT (zX hd) (zF.pure (zV hd) (((sG x.type_ (yB hsx)).eq (by unfold nZ;rw[if_pos hsx])).bind (zF.pure (yF (by rw[ha];simp;omega)) ?_)));rw[zU v (by omega),zKs];exact zIb c hl hc r (v+1) _ (zR hd) (by rw[tE hd,ha])
theorem zMJ(c:List Tm)(hl:c.length<=1048576)(hc:∀t∈c,zG t=true):∀(r:List Tm)(v:Nat)(acc:List Tm),c.drop v=r->acc=c.take v->zF (λq=>U3 q c acc (v:Int)) c|[],v,acc,hd,ha=>by refine zF.succ ?_;simp only[U3];exact zF.ifF (zY hd) (zF.ret.eq (by rw[ha,List.take_of_length_le (List.drop_eq_nil_iff.1 hd)]))|x::r,v,acc,hd,ha=>by have hlt:=yC hd;have hsx:=hc x (List.mem_of_mem_drop (by rw[hd];simp));refine zF.succ ?_;simp only[U3];refine zF.ifT (zX hd) (zF.pure (zV hd) (((sG x (yB hsx)).eq (by unfold nZ;rw[if_pos hsx])).bind (zF.pure (yF (by rw[ha];simp;omega)) ?_)));rw[zU v (by omega)];exact zMJ c hl hc r (v+1) _ (zR hd) (by rw[tE hd,ha])
theorem zMK(c:List Tm)(bc:Nat)(hl:c.length<=1048576)(hc:∀t∈c,zG t=true):∀(r:List Tm)(v:Nat)(acc:List Tm),c.drop v=r->acc=c.take v->zF (λq=>nI q c c.length bc acc (v:Int)) c|[],v,acc,hd,ha=>by refine zF.succ ?_;simp only[nI];exact zF.ifF (zY hd) (zF.ret.eq (by rw[ha,List.take_of_length_le (List.drop_eq_nil_iff.1 hd)]))|x::r,v,acc,hd,ha=>by have hlt:=yC hd;have hsx:=hc x (List.mem_of_mem_drop (by rw[hd];simp));refine zF.succ ?_;simp only[nI];refine zF.ifT (zX hd) (zF.pure (qG hlt) (zF.pure (zV hd) (((sG x (yB hsx)).eq (by unfold nZ;rw[if_pos hsx])).bind (zF.pure (yF (by rw[ha];simp;omega)) ?_))));rw[zU v (by omega)];exact zMK c bc hl hc r (v+1) _ (zR hd) (by rw[tE hd,ha])
def yAy(b:Nat)(a:zW):Option (Bool):=some a.yes_
theorem yFm{b a}:Cz (yAy b a) 150 [] [mV a] (λr=>ab r) (λ_=>[]) 0:=fw func150<|fE 1
def pT:Nat->(List zW)->Int->Option (Int)|0,_,_=>none|b+1,a,c=>if decide (c<(a.length:Int))then zS a c>>=λx2=>yAy b x2>>=λr4=>if r4 then some c else pT b a (xC (c+1))else some (-1)
def zBK(b:Nat)(a:List zW):Option (Int):=pT b a 0
theorem zIa:∀b:Nat,∀a c,Lz (pT b a c) 0 f188 (pt 949 f188) (λj=>sp j 19 0 [(0,zN yY a .no),(1,.clo 150 [] []),(7,ai (a.length:Int)),(8,ai c)]) ⟨[],0,[],0,[]⟩ (λr=>ai r) (λ_=>[]) 0 [.blk 0,.seq (pt 15 f188)]:=xX (λ_ _=>lN) λb ih=>λa c=>lw λ_=>rB 0 (rA 0 (zXt (o:=.no)) λ_=>rK 1 [] yFm (λ_=>lE 0) λ_=>lH 1 [] [] [] [0,1,7,8] (ih _ _))<|lE 0
theorem zTk{b a}:Cz (zBK b a) 188 [] [zN yY a .no,.clo 150 [] []] (λr=>ai r) (λ_=>[]) 0:=fw func188<|fH 1 [] [] [] [0,1,7,8] (zIa _ _ _)
def dN(b:Nat)(a:List zW):Option (Bool):=zBK b a>>=λr1=>some (decide (r1>=0))
theorem zIA{b a}:Cz (dN b a) 149 [] [zN yY a .no,.clo 150 [] []] (λr=>ab r) (λ_=>[]) 0:=fw func149<|rC 0 [] zTk λ_=>fE 1
def zWH(a:Nat)(M:xK)(b:xU)(c d e:Int):Option (Bool×Int×Int×Int):=zIm a M b c d e>>=λr1=>match r1 with|Sum.inl y3=>if y3.2.1 !=0 then some (false,y3.2.1,y3.2.2.1,y3.2.2.2)else dN a y3.1>>=λr5=>some (!r5,0,y3.2.2.1,y3.2.2.2)|Sum.inr y7=>if y7.2.1 !=0 then some (false,y7.2.1,y7.2.2.1,y7.2.2.2)else dN a y7.1>>=λr9=>some (!r9,0,y7.2.2.1,y7.2.2.2)
theorem yFl{a M b c d e}:Cz (zWH a M b c d e) 109 [mB M 1,mR M,.cells [ai d,ai e]] [.mp 0 0,zN zD b .no,ai c,.mp 2 0] (λr=>.tup [ab r.1,ai r.2.1]) (λr=>[mB M 1,mR M,.cells [ai r.2.2.1,ai r.2.2.2]]) 0:=fw func109<|rC 0 [0,1,2] yCF<|sD (λ_=>rB 2 (fE 0)<|rC 0 [] zIA λ_=>fE 1) λ_=>rB 2 (fE 0)<|rC 0 [] zIA λ_=>fE 1
def e77(m:Nat)(M:xK)(c d:Int)(b:List (List zB))(a:yQ)(e f g:Int):Option (zP×Int×Int×Int):=if a.e_==0 then some ((zP.mk 0 0 0 [] [] [] []),e,f,g)else some ((zP.mk 0 0 0 [] [] [] []),a.e_,a.row_,a.at_)
theorem c77{m M c d b a e f g}:Cz (e77 m M c d b a e f g) 77 [.cells [.mp 1 0,.mp 3 0,zN (rD zK) b .no,ai a.e_,ai a.row_,ai a.at_],mB M 2,mR M,.cells [ai c,ai d]] [.mp 0 0,ai e,ai f,ai g] (λr=>xW r.1) (λr=>[.cells [.mp 1 0,.mp 3 0,zN (rD zK) b .no,ai r.2.1,ai r.2.2.1,ai r.2.2.2],mB M 2,mR M,.cells [ai c,ai d]]) 0:=fw func77<|rB 1 (fE 2)<|fE 1
def e79(t:Nat)(M:xK)(u v:Int)(b:List (List zB))(a:yQ)(w:xT)(p e f n:Bool)(q m:Int)(g:yU)(c d:Nat)(s:Int):Option (zP×Int×Int×Int×Int×Int):=zWH t M w.c_ q u v>>=λr1=>if r1.1 then if r1.2.1 !=0 then e77 t M r1.2.2.1 r1.2.2.2 b a r1.2.1 s m>>=λr5=>some (r5.1,r5.2.1,r5.2.2.1,r5.2.2.2,r1.2.2.1,r1.2.2.2)else some ((zP.mk 2 s q [] [] [] []),a.e_,a.row_,a.at_,r1.2.2.1,r1.2.2.2)else if r1.2.1 !=0 then e77 t M r1.2.2.1 r1.2.2.2 b a r1.2.1 s m>>=λr8=>some (r8.1,r8.2.1,r8.2.2.1,r8.2.2.2,r1.2.2.1,r1.2.2.2)else e77 t M r1.2.2.1 r1.2.2.2 b a 17 s m>>=λr10=>some (r10.1,r10.2.1,r10.2.2.1,r10.2.2.2,r1.2.2.1,r1.2.2.2)
theorem c79{t M u v b a w p e f n q m g c d s}:Cz (e79 t M u v b a w p e f n q m g c d s) 79 [.cells [.mp 1 0,.mp 3 0,zN (rD zK) b .no,ai a.e_,ai a.row_,ai a.at_],mB M 2,mR M,.cells [ai u,ai v],.cells [ab p,ab e,ab f,ab n,ai q,ai m,.ms 5 0 c d 3],.row (zC zA g)] [.mp 0 0,pJ w,.mp 4 0,ai s] (λr=>xW r.1) (λr=>[.cells [.mp 1 0,.mp 3 0,zN (rD zK) b .no,ai r.2.1,ai r.2.2.1,ai r.2.2.2.1],mB M 2,mR M,.cells [ai r.2.2.2.2.1,ai r.2.2.2.2.2],.cells [ab p,ab e,ab f,ab n,ai q,ai m,.ms 5 0 c d 3],.row (zC zA g)]) 0:=fw func79<|rC 4 [1,2,3] yFl λ_=>rB 0 (rB 1 (rC 1 [0,1,2,3] c77 λ_=>fE 1)<|fE 3)<|rB 1 (rC 1 [0,1,2,3] c77 λ_=>fE 1)<|rC 2 [0,1,2,3] c77 λ_=>fE 1
mutual def e51:Nat->xK->Int->Int->(List (List zB))->yQ->xT->Option (zP×Int×Int×Int×Int×Int)|0,_,_,_,_,_,_=>none|u+1,M,w,y,a,b,t=>e76 u w y>>=λr1=>if r1.1 !=0 then e77 u M r1.2.1 r1.2.2 a b r1.1 0 0>>=λr4=>some (r4.1,r4.2.1,r4.2.2.1,r4.2.2.2,r1.2.1,r1.2.2)else U4 u M a b t r1 0 termination_by structural n=>n def U4:Nat->xK->(List (List zB))->yQ->xT->(Int×Int×Int)->Int->Option (zP×Int×Int×Int×Int×Int)
 |0,_,_,_,_,_,_=>none|u+1,M,a,b,t,r1,G=>if decide (G<(a.length:Int))then e78 u M r1.2.1 r1.2.2 a b t G>>=λr7=>if r7.1 then U4 u M a b t r1 (xC (G+1))else if r7.2.1 then e77 u M r1.2.1 r1.2.2 a b 13 G r7.2.2.2.2.2.1>>=λr11=>some (r11.1,r11.2.1,r11.2.2.1,r11.2.2.2,r1.2.1,r1.2.2)else if r7.2.2.1 then if r7.2.2.2.1 then e79 u M r1.2.1 r1.2.2 a b t r7.1 r7.2.1 r7.2.2.1 r7.2.2.2.1 r7.2.2.2.2.1 r7.2.2.2.2.2.1 r7.2.2.2.2.2.2.1 r7.2.2.2.2.2.2.2.1 r7.2.2.2.2.2.2.2.2 G>>=λr15=>some (r15.1,r15.2.1,r15.2.2.1,r15.2.2.2.1,r15.2.2.2.2.1,r15.2.2.2.2.2)else e80 u M r1.2.1 r1.2.2 a b t r7.1 r7.2.1 r7.2.2.1 r7.2.2.2.1 r7.2.2.2.2.1 r7.2.2.2.2.2.1 r7.2.2.2.2.2.2.1 r7.2.2.2.2.2.2.2.1 r7.2.2.2.2.2.2.2.2 G>>=λr17=>some (r17.1,r17.2.1,r17.2.2.1,r17.2.2.2.1,r17.2.2.2.2.1,r17.2.2.2.2.2)else e81 u t.c_>>=λr19=>zFj u r7.2.2.2.2.2.2.1 r7.2.2.2.2.2.2.2.1 r7.2.2.2.2.2.2.2.2>>=λr21=>e82 u t.args_>>=λr23=>some ((zP.mk 1 G 0 r19 r21 r23 []),b.e_,b.row_,b.at_,r1.2.1,r1.2.2)else e77 u M r1.2.1 r1.2.2 a b 10 (-1) 0>>=λr25=>some (r25.1,r25.2.1,r25.2.2.1,r25.2.2.2,r1.2.1,r1.2.2)termination_by structural n=>n def e80:Nat->xK->Int->Int->(List (List zB))->yQ->xT->Bool->Bool->Bool->Bool->Int->Int->yU->Nat->Nat->Int->Option (zP×Int×Int×Int×Int×Int)|0,_,_,_,_,_,_,_,_,_,_,_,_,_,_,_,_=>none|u+1,M,w,y,a,b,t,p,e,f,m,s,q,g,c,d,z=>zIm u M t.c_ s w y>>=λr1=>match r1 with|Sum.inl y3=>if y3.2.1 !=0 then e77 u M y3.2.2.1 y3.2.2.2 a b y3.2.1 z q>>=λr5=>some (r5.1,r5.2.1,r5.2.2.1,r5.2.2.2,y3.2.2.1,y3.2.2.2)else D4 u M a t p e f m s q g c d z y3.1 (y3.1.length:Int) 0 b.e_ b.row_ b.at_ y3.2.2.1 y3.2.2.2 []|Sum.inr y7=>if y7.2.1 !=0 then e77 u M y7.2.2.1 y7.2.2.2 a b y7.2.1 z q>>=λr9=>some (r9.1,r9.2.1,r9.2.2.1,r9.2.2.2,y7.2.2.1,y7.2.2.2)else D4 u M a t p e f m s q g c d z y7.1 (y7.1.length:Int) 0 b.e_ b.row_ b.at_ y7.2.2.1 y7.2.2.2 []termination_by structural n=>n def D4:Nat->xK->(List (List zB))->xT->Bool->Bool->Bool->Bool->Int->Int->yU->Nat->Nat->Int->(List zW)->Int->Int->Int->Int->Int->Int->Int->(List yO)->Option (zP×Int×Int×Int×Int×Int)|0,_,_,_,_,_,_,_,_,_,_,_,_,_,_,_,_,_,_,_,_,_,_=>none|u+1,M,a,t,p,e,f,m,s,q,g,c,d,z,J,K,H,i,A,B,C,D,E=>if decide (H<K)then zS J H>>=λx8=>zWJ u M C D a (yQ.mk i A B) t x8 z q>>=λr10=>yX 184 E [r10.1]>>=λl12=>if r10.2.1 !=0 then some ((zP.mk 0 0 0 [] [] [] []),r10.2.1,r10.2.2.1,r10.2.2.2.1,r10.2.2.2.2.1,r10.2.2.2.2.2)else D4 u M a t p e f m s q g c d z J K (xC (H+1)) r10.2.1 r10.2.2.1 r10.2.2.2.1 r10.2.2.2.2.1 r10.2.2.2.2.2 l12 else some ((zP.mk 3 0 s [] [] [] E),i,A,B,C,D)termination_by structural n=>n def zWJ:Nat->xK->Int->Int->(List (List zB))->yQ->xT->zW->Int->Int->Option (yO×Int×Int×Int×Int×Int)|0,_,_,_,_,_,_,_,_,_=>none|u+1,M,w,y,a,b,t,v,z,L=>if v.yes_ then aA u M w y a b t v z L 0 []else some ((yO.mk v.con_ v.yes_ v.args_ v.solved_ (zP.mk 0 0 0 [] [] [] [])),b.e_,b.row_,b.at_,w,y)termination_by structural n=>n def aA:Nat->xK->Int->Int->(List (List zB))->yQ->xT->zW->Int->Int->Int->yU->Option (yO×Int×Int×Int×Int×Int)
 |0,_,_,_,_,_,_,_,_,_,_,_=>none|u+1,M,w,y,a,b,t,v,z,L,I,F=>if decide (I<(t.args_.length:Int))then zS t.args_ I>>=λx3=>zKd u v.solved_ x3>>=λr5=>if r5.2 !=0 then e77 u M w y a b r5.2 z L>>=λr8=>some ((yO.mk v.con_ v.yes_ v.args_ v.solved_ (zP.mk 0 0 0 [] [] [] [])),r8.2.1,r8.2.2.1,r8.2.2.2,w,y)else yX 40 F [r5.1]>>=λl10=>aA u M w y a b t v z L (xC (I+1)) l10 else e51 u M w y a b (xT.mk v.vars_ F)>>=λr12=>some ((yO.mk v.con_ v.yes_ v.args_ v.solved_ r12.1),r12.2.1,r12.2.2.1,r12.2.2.2.1,r12.2.2.2.2.1,r12.2.2.2.2.2)termination_by structural n=>n end
theorem mH:∀u:Nat,(∀M w y a b t,Cz (e51 u M w y a b t) 51 [.cells [.mp 1 0,.mp 3 0,zN (rD zK) a .no,ai b.e_,ai b.row_,ai b.at_],mB M 2,mR M,.cells [ai w,ai y]] [.mp 0 0,pJ t] (λr=>xW r.1) (λr=>[.cells [.mp 1 0,.mp 3 0,zN (rD zK) a .no,ai r.2.1,ai r.2.2.1,ai r.2.2.2.1],mB M 2,mR M,.cells [ai r.2.2.2.2.1,ai r.2.2.2.2.2]]) 0)/\(∀M a b t r1 G,Lz (U4 u M a b t r1 G) 4 f51 (pt 4021 f51) (λj=>sp j 89 0 [(0,.mp 0 0),(3,.mp 4 0),(4,.mp 5 0),(22,ai (a.length:Int)),(23,ai G)]) ⟨[(0,.cells [.mp 1 0,.mp 3 0,zN (rD zK) a .no,ai b.e_,ai b.row_,ai b.at_]),(1,mB M 2),(2,mR M),(3,.cells [ai r1.2.1,ai r1.2.2]),(4,.cells [zN zD t.c_ .no,zN zA t.args_ .no]),(5,.cells [ai 0,ai 0,ai 0,zN zD ([]:xU) .nl,zN zA ([]:yU) .nl,zN zA ([]:yU) .nl,zN wE ([]:List yO) .nl])],6,[],0,[]⟩ (λr=>xW r.1) (λr=>[.cells [.mp 1 0,.mp 3 0,zN (rD zK) a .no,ai r.2.1,ai r.2.2.1,ai r.2.2.2.1],mB M 2,mR M,.cells [ai r.2.2.2.2.1,ai r.2.2.2.2.2]]) 0 [.blk 0,.seq (pt 63 f51)])/\(∀M w y a b t p e f m s q g c d z,Cz (e80 u M w y a b t p e f m s q g c d z) 80 [.cells [.mp 1 0,.mp 3 0,zN (rD zK) a .no,ai b.e_,ai b.row_,ai b.at_],mB M 2,mR M,.cells [ai w,ai y],.cells [ab p,ab e,ab f,ab m,ai s,ai q,.ms 5 0 c d 3],.row (zC zA g)] [.mp 0 0,pJ t,.mp 4 0,ai z] (λr=>xW r.1) (λr=>[.cells [.mp 1 0,.mp 3 0,zN (rD zK) a .no,ai r.2.1,ai r.2.2.1,ai r.2.2.2.1],mB M 2,mR M,.cells [ai r.2.2.2.2.1,ai r.2.2.2.2.2],.cells [ab p,ab e,ab f,ab m,ai s,ai q,.ms 5 0 c d 3],.row (zC zA g)]) 0)/\(∀M a t p e f m s q g c d z J K H i A B C D E,Lz (D4 u M a t p e f m s q g c d z J K H i A B C D E) 6 f80 (pt 65461 f80) (λj=>sp j 76 0 [(0,.mp 0 0),(2,.mp 4 0),(3,ai z),(5,.mp 6 0),(8,.mp 7 0),(11,.mp 8 0),(47,zN yY J .no),(48,ai K),(49,ai H)]) ⟨[(0,.cells [.mp 1 0,.mp 3 0,zN (rD zK) a .no,ai i,ai A,ai B]),(1,mB M 2),(2,mR M),(3,.cells [ai C,ai D]),(4,.cells [ab p,ab e,ab f,ab m,ai s,ai q,.ms 5 0 c d 3]),(5,.row (zC zA g)),(6,.cells [zN zD t.c_ .no,zN zA t.args_ .no]),(7,.cells [ai 0,ai 0,ai 0,zN zD ([]:xU) .nl,zN zA ([]:yU) .nl,zN zA ([]:yU) .nl,zN wE ([]:List yO) .nl]),(8,.cells [ai 3,ai 0,ai s,zN zD ([]:xU) .nl,zN zA ([]:yU) .nl,zN zA ([]:yU) .nl,zN wE E (.st 0 11)])],9,[0],1,[]⟩ (λr=>xW r.1) (λr=>[.cells [.mp 1 0,.mp 3 0,zN (rD zK) a .no,ai r.2.1,ai r.2.2.1,ai r.2.2.2.1],mB M 2,mR M,.cells [ai r.2.2.2.2.1,ai r.2.2.2.2.2],.cells [ab p,ab e,ab f,ab m,ai s,ai q,.ms 5 0 c d 3],.row (zC zA g)]) 0 [.blk 0,.seq (pt 1023 f80)])/\(∀M w y a b t v z L,Cz (zWJ u M w y a b t v z L) 111 [.cells [.mp 1 0,.mp 3 0,zN (rD zK) a .no,ai b.e_,ai b.row_,ai b.at_],mB M 2,mR M,.cells [ai w,ai y]] [.mp 0 0,pJ t,mV v,ai z,ai L] (λr=>zCP r.1) (λr=>[.cells [.mp 1 0,.mp 3 0,zN (rD zK) a .no,ai r.2.1,ai r.2.2.1,ai r.2.2.2.1],mB M 2,mR M,.cells [ai r.2.2.2.2.1,ai r.2.2.2.2.2]]) 0)/\(∀M w y a b t v z L I F,Lz (aA u M w y a b t v z L I F) 4 f111 (pt 65461 f111) (λj=>sp j 67 0 [(0,.mp 0 0),(3,ai z),(4,ai L),(7,.mp 4 0),(10,.mp 5 0),(11,.mp 6 0),(12,.mp 7 0),(34,zN zA t.args_ .no),(35,ai (t.args_.length:Int)),(36,ai I)]) ⟨[(0,.cells [.mp 1 0,.mp 3 0,zN (rD zK) a .no,ai b.e_,ai b.row_,ai b.at_]),(1,mB M 2),(2,mR M),(3,.cells [ai w,ai y]),(4,.cells [ai v.con_,ab v.yes_,zN zZ v.args_ .no,zN zD v.vars_ .no,zN zM v.solved_ .no]),(5,.cells [ai 0,ab false,zN zZ ([]:yD) .nl,zN zM ([]:sE) .nl,ai 0,ai 0,ai 0,zN zD ([]:xU) .nl,zN zA ([]:yU) .nl,zN zA ([]:yU) .nl,zN wE ([]:List yO) .nl]),(6,.cells [ai v.con_,ab v.yes_,zN zZ v.args_ .no,zN zM v.solved_ .no,ai 0,ai 0,ai 0,zN zD ([]:xU) .nl,zN zA ([]:yU) .nl,zN zA ([]:yU) .nl,zN wE ([]:List yO) .nl]),(7,.cells [zN zD v.vars_ .no,zN zA F (.st 0 3)])],8,[0],1,[]⟩ (λr=>zCP r.1) (λr=>[.cells [.mp 1 0,.mp 3 0,zN (rD zK) a .no,ai r.2.1,ai r.2.2.1,ai r.2.2.2.1],mB M 2,mR M,.cells [ai r.2.2.2.2.1,ai r.2.2.2.2.2]]) 0 [.blk 0,.seq (pt 1023 f111)]):=xX ⟨λ_ _ _ _ _ _=>cN,λ_ _ _ _ _ _=>lN,λ_ _ _ _ _ _ _ _ _ _ _ _ _ _ _ _=>cN,λ_ _ _ _ _ _ _ _ _ _ _ _ _ _ _ _ _ _ _ _ _ _=>lN,λ_ _ _ _ _ _ _ _ _=>cN,λ_ _ _ _ _ _ _ _ _ _ _=>lN⟩ λu ih=>⟨λM w y a b t=>fw func51<|rC 1 [3] c76 λ_=>rB 0 (rC 0 [0,1,2,3] c77 λ_=>fE 1)<|fH 2 [] [0,1,2,3,4,5] [] [0,3,4,22,23] (ih.2.1 _ _ _ _ _ _),λM a b t r1 G=>lw λ_=>rB 0 (rC 1 [0,1,2,3] c78 λ_=>rB 0 (lH 1 [] [0,1,2,3,4,5] [] [0,3,4,22,23] (ih.2.1 _ _ _ _ _ _))<|rB 0 (rC 1 [0,1,2,3] c77 λ_=>lE 1)<|rI (λh13=>rS (oB 0 h13)<|rB 0 (rC 1 [0,1,2,3,6,7] c79 λ_=>lE 1)<|rS (oB 0 h13)<|rC 1 [0,1,2,3,6,7] (ih.2.2.1 _ _ _ _ _ _ _ _ _ _ _ _ _ _ _ _) λ_=>lE 1) λh13=>rS (oB 0 h13)<|rS (oB 0 h13)<|rC 1 [] c81 λ_=>rS (jL 0)<|rC 0 [7] zWF λ_=>rS (jL 0)<|rC 0 [] c82 λ_=>lE 1)<|rC 0 [0,1,2,3] c77 λ_=>lE 1,λM w y a b t p e f m s q g c d z=>fw func80<|rC 4 [1,2,3] yCF<|sD (λ_=>rB 2 (rC 1 [0,1,2,3] c77 λ_=>fE 1)<|fH 3 [(some 8,6,11)] [0,1,2,3,4,5,6,7,8] [0] [0,2,3,5,8,11,47,48,49] (ih.2.2.2.1 _ _ _ _ _ _ _ _ _ _ _ _ _ _ _ _ _ _ _ _ _ _)) λ_=>rB 2 (rC 1 [0,1,2,3] c77 λ_=>fE 1)<|fH 3 [(some 8,6,11)] [0,1,2,3,4,5,6,7,8] [0] [0,2,3,5,8,11,47,48,49] (ih.2.2.2.1 _ _ _ _ _ _ _ _ _ _ _ _ _ _ _ _ _ _ _ _ _ _),λM a t p e f m s q g c d z J K H i A B C D E=>lw λ_=>rB 0 (rA 0 (zXt (o:=.no)) λ_=>rS (jL 2)<|rC 3 [0,1,2,3] (ih.2.2.2.2.1 _ _ _ _ _ _ _ _ _) λr10=>rS (oS 0 (xJ eH [r10.1]))<|rW (λh13=>oP 0 (yBh h13 (by simp))) λ_=>rB 2 (lE 1)<|lH 1 [] [0,1,2,3,4,5,6,7,8] [1] [0,2,3,5,8,11,47,48,49] (ih.2.2.2.1 _ _ _ _ _ _ _ _ _ _ _ _ _ _ _ _ _ _ _ _ _ _))<|lE 2,λM w y a b t v z L=>fw func111<|rB 5 (fH 5 [(some 8,1,3)] [0,1,2,3,5,6,7,8] [0] [0,3,4,7,10,11,12,34,35,36] (ih.2.2.2.2.2 _ _ _ _ _ _ _ _ _ _ _))<|fE 3,λM w y a b t v z L I F=>lw λ_=>rB 0 (rA 0 (xP (o:=.no)) λ_=>rC 4 [] zTu λr5=>rB 3 (rC 0 [0,1,2,3] c77 λ_=>lE 2)<|rS (oS 2 (xJ xY [r5.1]))<|rW (λh11=>oP 0 (vQ h11 (by simp))) λ_=>lH 2 [] [0,1,2,3,4,5,6,7] [1] [0,3,4,7,10,11,12,34,35,36] (ih.2.2.2.2.2 _ _ _ _ _ _ _ _ _ _ _))<|rC 1 [0,1,2,3] (ih.1 _ _ _ _ _ _) λ_=>lE 3⟩
theorem c51{u M w y a b t}:Cz (e51 u M w y a b t) 51 [.cells [.mp 1 0,.mp 3 0,zN (rD zK) a .no,ai b.e_,ai b.row_,ai b.at_],mB M 2,mR M,.cells [ai w,ai y]] [.mp 0 0,pJ t] (λr=>xW r.1) (λr=>[.cells [.mp 1 0,.mp 3 0,zN (rD zK) a .no,ai r.2.1,ai r.2.2.1,ai r.2.2.2.1],mB M 2,mR M,.cells [ai r.2.2.2.2.1,ai r.2.2.2.2.2]]) 0:=(mH _).1 _ _ _ _ _ _
end Go.Proofs.YtohkcbcddindpaaGreat
namespace Go.Proofs.YtohkcbcddindpaaGreat
open Go Go.RowKit Go.Shelf
attribute[local go_sem]Oper.semAt_some
theorem zFi{F:Fence}(hd:F.depth=none)(k:Nat):F.room k:=λd h=>by rw[hd]at h;cases h
theorem RoundIn.anyDepth{F:Fence}(hd:F.depth=none){m m':Nat}{P:Program}{l:Nat}{f:FuncId}{tmps:Array Value}{assign body:Code}{w:World}{R:Ending->World->Prop}(h:RoundIn F m P l f tmps assign body w R):RoundIn F m' P l f tmps assign body w R:=⟨h.1,λc cs _=>h.2 c cs (zFi hd _)⟩
theorem YieldAt.anyDepth{F:Fence}(hd:F.depth=none){m:Nat}(m':Nat){P:Program}{l:Nat}{args:Array Value}{W:World}{R:Ending->World->Prop}(h:YieldAt F m P l args W R):YieldAt F m' P l args W R:=by obtain⟨fn,tmps,assign,body,hy,hR⟩:=h;exact⟨fn,tmps,assign,body,hy,RoundIn.anyDepth hd hR⟩
structure SV where
 p:Option Addr
 n:Nat
 m:Nat
structure TN where
 k:Int
 r:Int
 v:Int
 a:SV
 b:SV
 c:SV
 d:SV
def TN.cs(x:TN):Array Value:=#[.int .i64 x.k,.int .i64 x.r,.int .i64 x.v,.slice x.a.p x.a.n x.a.m,.slice x.b.p x.b.n x.b.m,.slice x.c.p x.c.n x.c.m,.slice x.d.p x.d.n x.d.m]
mutual inductive TT where|mk(x:TN)(ks:p9)inductive p9 where|nil|cons(con:Int)(yes:Bool)(a s:SV)(t:TT)(ks:p9)end
def TT.x:TT->TN|.mk x _=>x
def p9.len:p9->Nat|.nil=>0|.cons _ _ _ _ _ ks=>ks.len+1
mutual def TT.nodes:TT->List TN|.mk x ks=>x::ks.nodes def p9.nodes:p9->List TN|.nil=>[]|.cons _ yes _ _ t ks=>(if yes=true then t.nodes else[])++ks.nodes end
mutual def U5(n₀:Nat)(W:World):TT->Prop|.mk x ks=>x.d.n=ks.len/\ks.len*184<=140737488351232/\∃b o,(ks.len≠0->x.d.p=some ⟨b,o,none⟩)/\(ks.len≠0->b<n₀)/\N5 n₀ W b o ks def N5(n₀:Nat)(W:World)(b o:Nat):p9->Prop|.nil=>True|.cons con yes a s t ks=>W.cell? ⟨b,o,none⟩=some (.int .i64 con)/\W.cell? ⟨b,o+1,none⟩=some (.bool yes)/\W.cell? ⟨b,o+2,none⟩=some (.slice a.p a.n a.m)/\W.cell? ⟨b,o+3,none⟩=some (.slice s.p s.n s.m)/\W.cell? ⟨b,o+4,none⟩=some (.int .i64 t.x.k)/\W.cell? ⟨b,o+5,none⟩=some (.int .i64 t.x.r)/\W.cell? ⟨b,o+6,none⟩=some (.int .i64 t.x.v)/\W.cell? ⟨b,o+7,none⟩=some (.slice t.x.a.p t.x.a.n t.x.a.m)/\W.cell? ⟨b,o+8,none⟩=some (.slice t.x.b.p t.x.b.n t.x.b.m)/\W.cell? ⟨b,o+9,none⟩=some (.slice t.x.c.p t.x.c.n t.x.c.m)/\W.cell? ⟨b,o+10,none⟩=some (.slice t.x.d.p t.x.d.n t.x.d.m)/\U5 n₀ W t/\N5 n₀ W b (o+11) ks end
def Bl(n₀:Nat)(A B:World):Prop:=∀(b i:Nat)(v:Value),b<n₀->A.cell? ⟨b,i,none⟩=some v->B.cell? ⟨b,i,none⟩=some v
theorem Bl.trans{n₀:Nat}{A B C:World}(h:Bl n₀ A B)(k:Bl n₀ B C):Bl n₀ A C:=λb i v hb e=>k b i v hb (h b i v hb e)
theorem Bl.grown{n₀:Nat}{A B:World}(hn:n₀<=A.heap.size)(h:∀k,k<A.heap.size->B.heap[k]?=A.heap[k]?):Bl n₀ A B:=λb i v hb e=>(World.cell?_of_block (h b (by omega))).trans e
mutual theorem U5.below{n₀:Nat}{A B:World}(h:Bl n₀ A B):∀{t:TT},U5 n₀ A t->U5 n₀ B t|.mk _ _,⟨h1,h0,b,o,h2,h3,h4⟩=>⟨h1,h0,b,o,h2,h3,N5.below h h3 h4⟩theorem N5.below{n₀:Nat}{A B:World}(h:Bl n₀ A B){b:Nat}:∀{o:Nat}{ks:p9},(ks.len≠0->b<n₀)->N5 n₀ A b o ks->N5 n₀ B b o ks|_,.nil,_,_=>trivial|_,.cons _ _ _ _ _ _,hb,⟨c0,c1,c2,c3,c4,c5,c6,c7,c8,c9,u6,ht,hk⟩=>have hb:b<n₀:=hb (by simp[p9.len])
 ⟨h _ _ _ hb c0,h _ _ _ hb c1,h _ _ _ hb c2,h _ _ _ hb c3,h _ _ _ hb c4,h _ _ _ hb c5,h _ _ _ hb c6,h _ _ _ hb c7,h _ _ _ hb c8,h _ _ _ hb c9,h _ _ _ hb u6,U5.below h ht,N5.below h (λ_=>hb) hk⟩end
def D5(n₀:Nat)(E:Nat->Prop)(A B:World):Prop:=A.heap.size<=B.heap.size/\Bl n₀ A B/\∀k i v,¬E k->i<7->A.cell? ⟨k,i,none⟩=some v->B.cell? ⟨k,i,none⟩=some v
theorem D5.trans{n₀:Nat}{E:Nat->Prop}{A B C:World}(h:D5 n₀ E A B)(k:D5 n₀ E B C):D5 n₀ E A C:=⟨Nat.le_trans h.1 k.1,h.2.1.trans k.2.1,λj i v he hi e=>k.2.2 j i v he hi (h.2.2 j i v he hi e)⟩
def zKK(F:Fence)(l n₀ N B:Nat)(J Jx:List TN->World->Prop)(t:TT):Prop:=∀(n:Nat)(pre:List TN)(W:World),U5 n₀ W t->B<=W.heap.size->J pre W->pre.length+t.nodes.length<=N->CallsIn F n Tryz.prog 56 #[.agg t.x.cs,.func (.yield l) #[] #[]] W λe W'=>(e=.returned (.bool true)/\J (pre++t.nodes) W'/\Bl n₀ W W'/\W.heap.size<=W'.heap.size)\/(e=.returned (.bool false)/\∃q,q<+:t.nodes/\Jx (pre++q) W')
def o5(F:Fence)(l n₀ N B:Nat)(J Jx:List TN->World->Prop):p9->Prop|.nil=>True|.cons _ _ _ _ t ks=>zKK F l n₀ N B J Jx t/\o5 F l n₀ N B J Jx ks
def N6(F:Fence)(l n₀ N:Nat)(J Jx:List TN->World->Prop)(E:Nat->Prop):Prop:=∀m pre x W,J pre W->pre.length<N->YieldAt F m Tryz.prog l #[.agg x.cs] W λe W'=>(e=.returned (.bool true)/\J (pre++[x]) W'/\D5 n₀ E W W')\/(e=.returned (.bool false)/\Jx (pre++[x]) W')
set_option maxRecDepth 100000 in set_option maxHeartbeats 3200000 in theorem zWK(F:Fence)(hd:F.depth=none)(h56:F.fn 56)(hro:F.round=none)(l n₀ N B:Nat)(J Jx:List TN->World->Prop)(E:Nat->Prop)(hn:n₀<=B)(hJ:AbidesFrom B J)(hE:∀k,E k->k<B)(hY:N6 F l n₀ N J Jx E)(x:TN)(ks:p9)(hks:o5 F l n₀ N B J Jx ks):zKK F l n₀ N B J Jx (.mk x ks):=by
 intro n pre W ht hB hj hN;obtain⟨hn6,hbig,b,o,hp,hb,hk⟩:=ht;replace hn6:=hn6.symm;have hdd:∀k:Nat,(F.depth.isSome=true->1<=k):=λk h=>by rw[hd]at h;cases h
 have hN':pre.length+(ks.nodes.length+1)<=N:=by simpa[TT.nodes]using hN
 have hj1:J pre (W.alloc (.cells x.cs 36)):=hJ pre W _ none hj (World.grownBy_alloc W _ none) (λr e=>by cases e);have hbox:∀i v,x.cs[i]?=some v->(W.alloc (.cells x.cs 36)).cell? ⟨W.heap.size,i,none⟩=some v:=λi v h=>by have:=World.alloc_heap_new W (.cells x.cs 36);simp only[World.cell?];rw[this];exact h
 have hy0:=YieldAt.mono (R':=λe W2=>(e=.returned (.bool true)/\J (pre++[x]) W2/\Bl n₀ W W2/\W.heap.size<=W2.heap.size/\W2.cell? ⟨W.heap.size,6,none⟩=some (.slice x.d.p x.d.n x.d.m))\/(e=.returned (.bool false)/\Jx (pre++[x]) W2)) (hY (n-1) pre x _ hj1 (by omega)) λe W2 h=>h.elim (λ⟨h1,h2,h3⟩=>.inl ⟨h1,h2,(Bl.grown (by omega) (λk hk=>Below.heap_alloc W _ k hk)).trans h3.2.1,by have:=h3.1;simp at this;omega,h3.2.2 _ _ _ (λhe=>by have:=hE _ he;omega) (by decide) (hbox 6 _ (by simp[TN.cs]))⟩) .inr;obtain⟨fn,tmps,assign,body,hy,hR⟩:=hy0;simp only[TN.cs,TT.x]at hy hR⊢;refine callsIn_of_wp Tryz.func56 rfl h56 ?_ hro;simp only[Tryz.ntmps56,List.size_toArray,List.length_cons,List.length_nil,Nat.reduceAdd,Nat.reduceSub,Array.replicate_succ,Array.replicate_zero,List.push_toArray,List.append_toArray,List.nil_append,List.cons_append];gi_wp2;refine hR.mono ?_;clear hR hy hbox hj1;rintro e W2(⟨rfl,hJ2,hb2,hB2,c6⟩|⟨rfl,hx2⟩);rotate_left;·gi_wp2;go_ret;exact .inr ⟨rfl,[x],⟨ks.nodes,rfl⟩,hx2⟩
 gi_wp2;gi_loopw[14](λp wr=>∃(i:Nat)(rest:p9)(dn:List TN),p=.int .i64 i/\i+rest.len=x.d.n/\N5 n₀ wr b (o+i*11) rest/\o5 F l n₀ N B J Jx rest/\ks.nodes=dn++rest.nodes/\J (pre++x::dn) wr/\Bl n₀ W wr/\W.heap.size<=wr.heap.size)(λp _=>x.d.n-(intOf p).toNat);case atStart=>exact⟨0,ks,[],rfl,by omega,by simpa using N5.below hb2 hb hk,hks,rfl,hJ2,hb2,hB2⟩
 case round=>obtain⟨i,rest,dn,rfl,hir,hks',hall,hnd,hJs,hbl,hBs⟩:=hrel;cases rest with|nil=>simp only[p9.len,Nat.add_zero]at hir;subst hir;gi_wp2;go_ret;exact .inl ⟨rfl,by simpa[TT.nodes,hnd,p9.nodes]using hJs,hbl,hBs⟩|cons con yes a s t rest=>
  simp only[p9.len]at hir;have hlt:i<x.d.n:=by omega
  replace hb:=hb (by omega);have hdp:=hp (by omega);obtain⟨c0,c1,c2,c3,c4,c5,c6',c7,c8,c9,u6,ht,hk'⟩:=hks';obtain⟨hat,hall⟩:=hall;have hk2:N5 n₀ wr b (o+(i+1)*11) rest:=by rw[show o+(i+1)*11=o+i*11+11 by omega];exact hk'
  have hJa:∀X,J (pre++x::dn) (wr.alloc X):=λX=>hJ _ wr _ none hJs (World.grownBy_alloc wr _ none) (λr e=>by cases e);have hBw:B<=wr.heap.size:=by omega
  have hBa:∀X,Bl n₀ wr (wr.alloc X):=λX=>Bl.grown (by omega) (λk hk=>Below.heap_alloc wr _ k hk);cases yes with|true=>
   have hnl:pre.length+(dn.length+(t.nodes.length+rest.nodes.length)+1)<=N:=by rw[hnd]at hN';simp only[p9.nodes,if_true,List.length_append]at hN';omega
   have hc:=hat (n-1) (pre++x::dn) _ (ht.below (hBa (.cells #[.int .i64 con,.bool true,.slice a.p a.n a.m,.slice s.p s.n s.m,.int .i64 t.x.k,.int .i64 t.x.r,.int .i64 t.x.v,.slice t.x.a.p t.x.a.n t.x.a.m,.slice t.x.b.p t.x.b.n t.x.b.m,.slice t.x.c.p t.x.c.n t.x.c.m,.slice t.x.d.p t.x.d.n t.x.d.m] 163))) (by simp;omega) (hJa _) (by simp;omega);simp only[TN.cs]at hc;gi_wp2_with((try refine⟨hdd _,?_⟩);gi_at_call 56;refine hc.mono ?_;clear hc;rintro e W3(⟨rfl,hJ3,hb3,hs3⟩|⟨rfl,q,hq,hx3⟩))
   ·rw[<-hdp];refine⟨⟨_,_,_,_,_,_,_,_,_,_,_,_,_,_,_,_,?rel,rfl⟩,?measure⟩;case rel=>exact⟨i+1,rest,dn++t.nodes,by simp,by omega,N5.below hb3 (λ_=>hb) (hk2.below (hBa _) λ_=>hb),hall,by rw[hnd];simp[p9.nodes],by simpa using hJ3,(hbl.trans (hBa _)).trans hb3,by simp at hs3;omega⟩
    case measure=>simp[intOf];omega
   ·go_ret;obtain⟨r,hr⟩:=hq;exact .inr ⟨rfl,x::(dn++q),⟨r++rest.nodes,by simp[TT.nodes,hnd,p9.nodes,<-hr]⟩,by simpa using hx3⟩|false=>
   gi_wp2;rw[<-hdp];refine⟨⟨_,_,_,_,_,_,_,_,_,_,_,_,_,_,_,_,?rel2,rfl⟩,?measure2⟩;case rel2=>exact⟨i+1,rest,dn,by simp,by omega,hk2.below (hBa _) (λ_=>hb),hall,by rw[hnd];simp[p9.nodes],hJa _,hbl.trans (hBa _),by simp;omega⟩
   case measure2=>simp[intOf];omega
mutual theorem zML(F:Fence)(hd:F.depth=none)(h56:F.fn 56)(hro:F.round=none)(l n₀ N B:Nat)(J Jx:List TN->World->Prop)(E:Nat->Prop)(hn:n₀<=B)(hJ:AbidesFrom B J)(hE:∀k,E k->k<B)(hY:N6 F l n₀ N J Jx E):∀t,zKK F l n₀ N B J Jx t|.mk x ks=>zWK F hd h56 hro l n₀ N B J Jx E hn hJ hE hY x ks (zIB F hd h56 hro l n₀ N B J Jx E hn hJ hE hY ks)theorem zIB(F:Fence)(hd:F.depth=none)(h56:F.fn 56)(hro:F.round=none)(l n₀ N B:Nat)(J Jx:List TN->World->Prop)(E:Nat->Prop)(hn:n₀<=B)(hJ:AbidesFrom B J)(hE:∀k,E k->k<B)(hY:N6 F l n₀ N J Jx E):∀ks,o5 F l n₀ N B J Jx ks|.nil=>trivial|.cons _ _ _ _ t ks=>⟨zML F hd h56 hro l n₀ N B J Jx E hn hJ hE hY t,zIB F hd h56 hro l n₀ N B J Jx E hn hJ hE hY ks⟩end
set_option maxRecDepth 100000 in set_option maxHeartbeats 1600000 in theorem zPu(F:Fence)(hd:F.depth=none)(h55:F.fn 55)(h56:F.fn 56)(hro:F.round=none)(n l Bt n₀:Nat)(t:TT)(J Jx:List TN->World->Prop)(E:Nat->Prop)(W:World)(hn:n₀<=W.heap.size)(hJ:AbidesFrom W.heap.size J)(hE:∀k,E k->k<W.heap.size)(hY:N6 F l n₀ t.nodes.length J Jx E)(hc:∀i v,t.x.cs[i]?=some v->W.cell? ⟨Bt,i,none⟩=some v)(hT:U5 n₀ W t)(h0:J [] W):CallsIn F n Tryz.prog 55 #[.func (.yield l) #[] #[],.pointer (some ⟨Bt,0,none⟩)] W λe W'=>(∃v,e=.returned v)/\((∃ys,ys=t.nodes/\J ys W')\/(∃pre,pre<+:t.nodes/\Jx pre W')):=by
 have hdd:∀k:Nat,(F.depth.isSome=true->1<=k):=λk h=>by rw[hd]at h;cases h
 have hp:=zML F hd h56 hro l n₀ t.nodes.length W.heap.size J Jx E hn hJ hE hY t (n-1) [] W hT (Nat.le_refl _) h0 (by simp);have c0:=hc 0 _ rfl;have c1:=hc 1 _ rfl;have c2:=hc 2 _ rfl;have c3:=hc 3 _ rfl;have c4:=hc 4 _ rfl;have c5:=hc 5 _ rfl;have c6:=hc 6 _ rfl;simp only[TN.cs]at hp;refine callsIn_of_wp Tryz.func55 rfl h55 ?_ hro;simp only[Tryz.ntmps55,List.size_toArray,List.length_cons,List.length_nil,Nat.reduceAdd,Nat.reduceSub,Array.replicate_succ,Array.replicate_zero,List.push_toArray,List.append_toArray,List.nil_append,List.cons_append];gi_wp2_with((try refine⟨hdd _,?_⟩);gi_at_call 56;refine hp.mono ?_;clear hp;rintro e W1(⟨rfl,hJ1,_⟩|⟨rfl,q,hq,hx⟩));·go_end0;exact⟨⟨_,rfl⟩,.inl ⟨_,rfl,by simpa using hJ1⟩⟩
 ·go_end0;exact⟨⟨_,rfl⟩,.inr ⟨q,hq,by simpa using hx⟩⟩
set_option maxRecDepth 100000 in set_option maxHeartbeats 1600000 in theorem zBL(F:Fence)(n:Nat)(h:F.fn 33)(hro:F.round=none)(cs:Array Value)(w:World):CallsIn F n Tryz.prog 33 #[.agg cs] w λe w'=>e=.returned (.func (.func 55) #[] #[.pointer (some ⟨w.heap.size,0,none⟩)])/\w'=w.alloc (.cells cs 36):=by refine callsIn_of_wp Tryz.func33 rfl h ?_ hro;simp only[Tryz.ntmps33,List.size_toArray,List.length_cons,List.length_nil,Nat.reduceAdd,Nat.reduceSub,Array.replicate_succ,Array.replicate_zero,List.push_toArray,List.append_toArray,List.nil_append,List.cons_append];gi_wp2;go_ret;exact⟨rfl,rfl⟩
theorem dO(F:Fence)(hd:F.depth=none)(n:Nat)(h55:F.fn 55)(h56:F.fn 56)(hro:F.round=none)(Bt n₀:Nat)(t:TT)(E:Nat->Prop)(w:World)(hBt:Bt<w.heap.size)(hn₀:n₀<=w.heap.size)(hc:∀i v,t.x.cs[i]?=some v->w.cell? ⟨Bt,i,none⟩=some v)(hT:U5 n₀ w t)(hE:∀k,E k->k<w.heap.size):SeqStopsK F n Tryz.prog 55 #[.pointer (some ⟨Bt,0,none⟩)] (λx:TN=>#[Value.agg x.cs]) (D5 n₀ E) (λys=>ys=t.nodes) (λpre=>pre<+:t.nodes) t.nodes.length w:=λl J Jx W hW hJ hJx hY h0=>zPu F hd h55 h56 hro n l Bt n₀ t J Jx E W (by have:=hW.size;omega) hJ (λk hk=>Nat.lt_of_lt_of_le (hE k hk) hW.size) (λm pre x W1 h1 h2=>YieldAt.anyDepth hd m (hY pre x W1 h1 h2)) (λi v h=>(hW.cell (p:=⟨Bt,i,none⟩) hBt).trans (hc i v h)) (hT.below λb i v hb e=>(hW.cell (p:=⟨b,i,none⟩) (by show b<_;omega)).trans e) h0
attribute[local go_sem]Oper.semAt_some
theorem zKL(W:World)(v:Value)(t:TypeId):(W.alloc (.cells #[v] t)).cell? ⟨W.heap.size,0,none⟩=some v/\(W.alloc (.cells #[v] t)).frozen? ⟨W.heap.size,0,none⟩=false:=by
 have h:=World.alloc_heap_new W (.cells #[v] t);constructor;·simp only[World.cell?];rw[h];rfl
 ·simp only[World.frozen?];rw[h];rfl
theorem gZ{W:World}{a:Addr}{v:Value}(o:Obj)(h:W.cell? a=some v):(W.alloc o).cell? a=some v:=cell_kept h (World.grownBy_alloc W o none) (λr e=>by cases e)
theorem zBM{W:World}{a:Addr}{v:Value}(o:Obj)(h:W.cell? a=some v)(hf:W.frozen? a=false):(W.alloc o).frozen? a=false:=(frozen_kept h (World.grownBy_alloc W o none) (λr e=>by cases e)).trans hf
theorem jC(W:World)(cs:Array Value)(t:TypeId)(i:Nat)(v:Value)(h:cs[i]?=some v):(W.alloc (.cells cs t)).cell? ⟨W.heap.size,i,none⟩=some v:=by have:=World.alloc_heap_new W (.cells cs t);simp only[World.cell?];rw[this];exact h
theorem D5.putObj{n₀:Nat}{E:Nat->Prop}(W:World)(l:Nat)(o o':Obj)(h:W.heap[l]?=some o)(ho:o.isCells=false):D5 n₀ E W (W.putObj l o'):=by have key:∀(k i:Nat)(v:Value),W.cell? ⟨k,i,none⟩=some v->(W.putObj l o').cell? ⟨k,i,none⟩=some v:=λk i v e=>cell_kept e (grownBy_putObj' W l o') (λr e=>by cases e;exact⟨o,h,ho⟩);exact⟨by simp,λb i v _ e=>key b i v e,λk i v _ _ e=>key k i v e⟩
theorem D5.setCell{n₀:Nat}{E:Nat->Prop}(W:World)(k:Nat)(v:Value)(hE:E k)(hk:n₀<=k):D5 n₀ E W (W.setCell ⟨k,0,none⟩ v):=by have key:∀(b i:Nat)(u:Value),b≠k->W.cell? ⟨b,i,none⟩=some u->(W.setCell ⟨k,0,none⟩ v).cell? ⟨b,i,none⟩=some u:=λb i u hb e=>(World.cell?_of_block (Below.heap_setCell _ _ _ b hb)).trans e;exact⟨by simp,λb i u hb e=>key b i u (by omega) e,λb i u hb _ e=>key b i u (λh=>hb (h▸hE)) e⟩
set_option maxRecDepth 100000 in set_option maxHeartbeats 3200000 in theorem zWL(F:Fence)(hd:F.depth=none)(n:Nat)(h10:F.fn 10)(h33:F.fn 33)(h55:F.fn 55)(h56:F.fn 56)(hro:F.round=none)(hn:3<=n)(t:TT)(w:World)(hT:U5 w.heap.size w t):CallsIn F n Tryz.prog 10 #[.agg t.x.cs] w λe W'=>e=.returned (.int .i64 ((min t.nodes.length 8193:Nat):Int))/\Below w.heap.size w W':=by
 have h1:1<=n:=by omega
 have hdd:∀k:Nat,(F.depth.isSome=true->1<=k):=λk h=>by rw[hd]at h;cases h
 have hnd:=zBL F (n-1) h33 hro;simp only[TN.cs];refine callsIn_of_wp_marks Tryz.func10 rfl h10 ?_ hro;simp only[Tryz.ntmps10,List.size_toArray,List.length_cons,List.length_nil,Nat.reduceAdd,Nat.reduceSub,Array.replicate_succ,Array.replicate_zero,List.push_toArray,List.append_toArray,List.nil_append,List.cons_append];gi_wp2_with((try refine⟨hdd _,?_⟩);gi_at_call 33;refine(hnd _ _).mono ?_;rintro e w'⟨rfl,rfl⟩);obtain⟨cs,hcs⟩:∃cs:Array Value,#[.int .i64 t.x.k,.int .i64 t.x.r,.int .i64 t.x.v,.slice t.x.a.p t.x.a.n t.x.a.m,.slice t.x.b.p t.x.b.n t.x.b.m,.slice t.x.c.p t.x.c.n t.x.c.m,.slice t.x.d.p t.x.d.n t.x.d.m]=cs:=⟨_,rfl⟩;rw[hcs];have hcs':t.x.cs=cs:=hcs;have hs:=zKL (w.alloc (.cells cs 36)) (.int .i64 0) 3;rw[World.size_alloc]at hs;have hB0:Below w.heap.size w (((w.alloc (.cells cs 36)).alloc (.cells #[.int .i64 0] 3)).alloc (.cells cs 36)):=(((Below.refl _ w).alloc (Nat.le_refl _) _).alloc (by simp) _).alloc (by simp;omega) _;refine wpIn_rangeFunc_ownF hro h1 (gf:=55) (lb:=#[.pointer (some ⟨w.heap.size+1+1,0,none⟩)]) rfl h55 (enters_of Tryz.func55 (by kernel_rfl) rfl) (dO F hd (n-1) h55 h56 hro (w.heap.size+1+1) w.heap.size t (λk=>k=w.heap.size+1) _ (by simp) (by simp only[World.size_alloc];omega) (λi v h=>by have:=jC ((w.alloc (.cells cs 36)).alloc (.cells #[.int .i64 0] 3)) cs 36 i v (hcs'▸h);simpa using this) (hT.below λb i v hb e=>(hB0.cell (p:=⟨b,i,none⟩) hb).trans e) (by rintro k rfl;simp only[World.size_alloc];omega)) D5.trans (λW l o o' _ h ho _=>D5.putObj W l o o' h ho) (Below.refl _ _) (λ_=>rfl) (λpre W=>(W.cell? ⟨w.heap.size+1,0,none⟩=some (.int .i64 (pre.length:Int))/\W.frozen? ⟨w.heap.size+1,0,none⟩=false/\pre.length<=8192)/\Below w.heap.size w W) (λc pre W=>(W.cell? ⟨w.heap.size+1,0,none⟩=some (.int .i64 8193)/\W.frozen? ⟨w.heap.size+1,0,none⟩=false/\pre.length=8193/\c=.exit 0)/\Below w.heap.size w W) (OwnFrom.and (Go.Own.from (λs A B row hs hg hr=>⟨cell_kept hs.1 hg hr,(frozen_kept hs.1 hg hr).trans hs.2.1,hs.2.2⟩) _) (ownFrom_below (Nat.le_refl _) (by simp;omega))) (λc=>OwnFrom.and (Go.Own.from (λs A B row hs hg hr=>⟨cell_kept hs.1 hg hr,(frozen_kept hs.1 hg hr).trans hs.2.1,hs.2.2⟩) _) (ownFrom_below (Nat.le_refl _) (by simp;omega))) ⟨⟨gZ _ hs.1,zBM _ hs.1 hs.2,Nat.zero_le _⟩,hB0⟩ (λx=>{tmps:=#[.agg cs,.pointer (some ⟨w.heap.size,0,none⟩),.int .i64 0,.pointer (some ⟨w.heap.size+1,0,none⟩),.agg cs,.func (.func 55) #[] #[.pointer (some ⟨w.heap.size+1+1,0,none⟩)],.agg x.cs,undef,undef,undef,undef,undef],defers:=[]}) ?assign ?body ?done ?stop;case assign=>intro l x W K hK;gi_wp2;first|exact hK|simpa using hK
 case body=>
  rintro l pre x W⟨⟨hc,hf,hle⟩,hB⟩_;gi_wp2
  ·have e:pre.length=8192:=by omega
   refine⟨KeepsOthers.setCell _ _ _,⟨?_,by rw[World.frozen?_setCell];exact hf,by simp[e],rfl⟩,hB.setCell (p:=⟨w.heap.size+1,0,none⟩) (by simp) _⟩;rw[World.cell?_setCell_same' _ _ _ (by rw[hc];rfl),e];rfl
  ·exact⟨KeepsOthers.setCell _ _ _,D5.setCell W _ _ rfl (by omega),⟨by rw[World.cell?_setCell_same' _ _ _ (by rw[hc];rfl)];simp,by rw[World.frozen?_setCell];exact hf,by simp;omega⟩,hB.setCell (p:=⟨w.heap.size+1,0,none⟩) (by simp) _⟩
 case done=>rintro D ys W hD rfl⟨⟨hc,_,hle⟩,hB⟩hK;gi_wp2;refine⟨by simp,.inl ⟨_,_,rfl,run_takeDeferred hK,?_⟩⟩;exact⟨_,results_tmp rfl _ _ _,by rw[Nat.min_eq_left (by omega)];rfl,hB.trans (belowK_b (w:=w) (Nat.le_refl _) W D _ _ (by simp at hD;omega) hK rfl rfl)⟩
 case stop=>rintro D c pre W hD hp⟨⟨hc,_,hle,rfl⟩,hB⟩hK;have hlen:=hp.length_le;gi_wp2;refine⟨by simp,.inl ⟨_,_,rfl,run_takeDeferred hK,?_⟩⟩;exact⟨_,results_tmp rfl _ _ _,by rw[Nat.min_eq_right (by omega)];rfl,hB.trans (belowK_b (w:=w) (Nat.le_refl _) W D _ _ (by simp at hD;omega) hK rfl rfl)⟩
attribute[local go_sem]Oper.semAt_some
theorem zTj{P:Program}(w:World)(base:Nat)(t ty e:TypeId)(i:TypeInfo)(z:Value)(size bytes:Nat)(ht:P.underlying t=some (.slice e))(hi:P.info? e=some i)(hz:i.zero=some z)(hsize:i.size=size)(hby:i.bytes=bytes)(hzs:z.cells.size=size)(hsz:0<size)(v:Value)(n:Nat)(xs:List Value)(hown:w.ownsRow base e size v n xs)(a:Addr)(m c:Nat)(news:List Value)(hl:news.length=m*size)(hnews:∀j u,news[j]?=some u->w.cell? (a.add j)=some u)(h1:∀u∈news,u.oneCell'=true)(h63:n+m<=maxLen)(hbytes:(n+m)*bytes<=140737488355328)(hbase:base<=w.heap.size):∃v' w',(Builtin.append_ #[t,t] ty #[v,.slice (some a) m c]).run P w=.ok v' w'/\w'.ownsRow base e size v' (n+m) (xs++news)/\w.grownBy w' v.ownBlock/\(w.grownBy w' none\/v'.ownBlock=v.ownBlock):=by
 obtain⟨v',w',hr,ho,hg,-⟩:=run_append_own (P:=P) w base t ty e i z size bytes ht hi hz hsize hby hzs hsz v n xs hown a m c news hl hnews h1 h63 hbytes hbase;refine⟨v',w',hr,ho,hg,?_⟩;subst hsize;rcases hown.2 with⟨rfl,rfl⟩|⟨g,cap,cur,rfl,hbg,hgg,hnc,hcm,hcs,htake⟩;·exact .inl hg
 ·by_cases hroom:n+m<=cap
  ·have hfit:n*i.size+news.length<=cur.size:=by rw[hl,hcs,<-Nat.add_mul];exact Nat.mul_le_mul_right _ hroom
   have hr2:=run_append_room (P:=P) w t ty e i ht hi g n cap cur hgg a m c news hl hnews h1 hroom hfit;rw[hr2]at hr;cases hr;exact .inr rfl
  ·have holds:∀j u,xs[j]?=some u->w.cell? ((⟨g,0,none⟩:Addr).add j)=some u:=hown.cells (g:=g) rfl;subst hby;have hsmall:n+m<=9223372036854775807:=by simp only[maxLen]at h63;omega
   have hr2:=run_append_grow (P:=P) w t ty e i z ht hi hz ⟨g,0,none⟩ n cap xs hown.1 holds a m c news hl hnews (by omega) (by omega) (growslice_fits (by omega) hbytes);rw[hr2]at hr;cases hr;exact .inl ⟨rfl,rfl,rfl,by simp,λk hk _=>Below.heap_alloc w.drew _ k hk⟩
theorem zCe{F:Fence}{n:Nat}{P:Program}(w:World){ops:Array Oper}{rest:List Oper}{o:Oper}{a:Go.Act}{Q:Exit->Go.Act->World->Prop}(hg:o.guard=none)(s x:Operand)(t:TypeId)(hop:o.op=Op.call {callee:=Callee.builtin Builtin.append,args:=#[s,x],argTypes:=#[t,t]})(base:Nat)(e:TypeId)(i:TypeInfo)(z:Value)(size bytes:Nat)(h1:P.underlying t=some (.slice e))(h2:P.info? e=some i)(h3:i.zero=some z)(h4:i.size=size)(h5:i.bytes=bytes)(h6:z.cells.size=size)(h7:0<size)(v:Value)(k:Nat)(xs:List Value)(hs:a.eval s=v)(hown:w.ownsRow base e size v k xs)(ad:Addr)(m c:Nat)(news:List Value)(hx:a.eval x=.slice (some ad) m c)(hn:news.length=m*size)(hc:∀j u,news[j]?=some u->w.cell? (ad.add j)=some u)(h1c:∀u∈news,u.oneCell'=true)(b1:k+m<=maxLen)(b2:(k+m)*bytes<=140737488355328)(b3:base<=w.heap.size)(hK:∀v' w',w'.ownsRow base e size v' (k+m) (xs++news)->w.grownBy w' v.ownBlock->(w.grownBy w' none\/v'.ownBlock=v.ownBlock)->wpListIn F n P ops Q rest (a.put o.dst v') w'):wpListIn F n P ops Q (o::rest) a w:=by
 refine wpListIn_plain hg λK hK'=>?_;obtain⟨v',w',hrun,r1,r2,r3⟩:=zTj (P:=P) w base t o.type e i z size bytes h1 h2 h3 h4 h5 h6 h7 v k xs hown ad m c news hn hc h1c b1 b2 b3;unfold Oper.wpIn;refine⟨?_,?_⟩;·simp[Oper.about,hop,resolve,Target.leads,Sem.run_pure]
 ·rw[Oper.semAt_plain F _ _ (by rw[hop];intro c hc';cases hc')];simp[execOp,hop,resolve,invoke,builtin,hs,hx,hrun,Result.andThen];exact hK' _ _ (hK v' w' r1 r2 r3)
theorem D5.alloc{n₀:Nat}{E:Nat->Prop}(W:World)(X:Obj):D5 n₀ E W (W.alloc X):=⟨by simp,λb i v _ e=>gZ _ e,λk i v _ _ e=>gZ _ e⟩
theorem D5.app{n₀:Nat}{E:Nat->Prop}{W W':World}{e:TypeId}{v v':Value}{k:Nat}{xs news:List Value}(h0:v=.slice none 0 0\/1<=k)(hown:W.ownsRow n₀ e 7 v k xs)(hown':W'.ownsRow n₀ e 7 v' (k+1) (xs++news))(hg:W.grownBy W' v.ownBlock)(ho:W.grownBy W' none\/v'.ownBlock=v.ownBlock):D5 n₀ E W W':=by
 have key:∀(b i:Nat)(u:Value),i<7->W.cell? ⟨b,i,none⟩=some u->W'.cell? ⟨b,i,none⟩=some u:=by
  intro b i u hi hu;rcases ho with ho|ho;·exact(ho.cell (a:=⟨b,i,none⟩) hu (by simp))
  ·by_cases hb:v.ownBlock=some b
   ·have hk:1<=k:=h0.resolve_left (λh=>by rw[h]at hb;simp[Value.ownBlock]at hb);have hl:=hown.1;have hx:xs[i]?=some u:=by
     have:i<xs.length:=by omega
     have h2:=hown.cells hb i _ (List.getElem?_eq_getElem this);have hadd:(⟨b,0,none⟩:Addr).add i=⟨b,i,none⟩:=by unfold Addr.add;split<;>simp_all
     rw[hadd,hu]at h2;rw[List.getElem?_eq_getElem this];exact h2.symm
    have h3:=hown'.cells (ho.trans hb) i u (by rw[List.getElem?_append_left (by omega)];exact hx);have hadd:(⟨b,0,none⟩:Addr).add i=⟨b,i,none⟩:=by unfold Addr.add;split<;>simp_all
    rwa[hadd]at h3
   ·exact hg.cell (a:=⟨b,i,none⟩) hu (λh=>hb h.symm)
 refine⟨hg.size,λb i u hb hu=>?_,λb i u _ hi hu=>key b i u hi hu⟩;refine hg.cell (a:=⟨b,i,none⟩) hu λh=>?_;have:=(hown.lt b h.symm).1;omega
attribute[local go_sem]Oper.semAt_some
theorem yAw:(Tryz.prog.info? 36).map (λi=>(i.zero,i.size,i.bytes))=some (some (.agg #[.int .i64 0,.int .i64 0,.int .i64 0,.slice none 0 0,.slice none 0 0,.slice none 0 0,.slice none 0 0]),7,120):=by kernel_rfl
def Y3(l:List TN):List TN:=l.filter λx=>decide (x.k=1)
def D6(l:List TN):List Value:=l.flatMap λx=>x.cs.toList
theorem zMM(pre:List TN){x:TN}(h:x.k=1):Y3 (pre++[x])=Y3 pre++[x]:=by simp[Y3,h]
theorem zIC(pre:List TN){x:TN}(h:¬x.k=1):Y3 (pre++[x])=Y3 pre:=by simp[Y3,h]
theorem yAv(pre:List TN):(Y3 pre).length<=pre.length:=List.length_filter_le _ _
set_option maxRecDepth 100000 in set_option maxHeartbeats 3200000 in theorem zPt(F:Fence)(hd:F.depth=none)(n:Nat)(h11:F.fn 11)(h33:F.fn 33)(h55:F.fn 55)(h56:F.fn 56)(hro:F.round=none)(hn:3<=n)(t:TT)(hlen:t.nodes.length<=1000000)(w:World)(hT:U5 w.heap.size w t):CallsIn F n Tryz.prog 11 #[.agg t.x.cs] w λe W'=>∃v,e=.returned v/\W'.ownsRow w.heap.size 36 7 v (Y3 t.nodes).length (D6 (Y3 t.nodes))/\Below w.heap.size w W':=by
  have h1:1<=n:=by omega
  have hdd:∀k:Nat,(F.depth.isSome=true->1<=k):=λk h=>by rw[hd]at h;cases h
  have hnd:=zBL F (n-1) h33 hro;obtain⟨i0,hi,hz0,hz1,hz2⟩:=info_parts yAw;simp only[TN.cs];refine callsIn_of_wp_marks Tryz.func11 rfl h11 ?_ hro;simp only[Tryz.ntmps11,List.size_toArray,List.length_cons,List.length_nil,Nat.reduceAdd,Nat.reduceSub,Array.replicate_succ,Array.replicate_zero,List.push_toArray,List.append_toArray,List.nil_append,List.cons_append];gi_wp2_with((try refine⟨hdd _,?_⟩);gi_at_call 33;refine(hnd _ _).mono ?_;rintro e w'⟨rfl,rfl⟩);obtain⟨cs,hcs⟩:∃cs:Array Value,#[.int .i64 t.x.k,.int .i64 t.x.r,.int .i64 t.x.v,.slice t.x.a.p t.x.a.n t.x.a.m,.slice t.x.b.p t.x.b.n t.x.b.m,.slice t.x.c.p t.x.c.n t.x.c.m,.slice t.x.d.p t.x.d.n t.x.d.m]=cs:=⟨_,rfl⟩;rw[hcs];have hcs':t.x.cs=cs:=hcs;have hB0:Below w.heap.size w (((w.alloc (.cells cs 36)).alloc (.cells #[.slice none 0 0] 43)).alloc (.cells cs 36)):=(((Below.refl _ w).alloc (Nat.le_refl _) _).alloc (by simp) _).alloc (by simp;omega) _;have bO:=(Boxed.new (w.alloc (.cells cs 36)) 43 (.slice none 0 0)).alloc (.cells cs 36);rw[World.size_alloc]at bO;refine wpIn_rangeFunc_ownH hro h1 (gf:=55) (lb:=#[.pointer (some ⟨w.heap.size+1+1,0,none⟩)]) rfl h55 (enters_of Tryz.func55 (by kernel_rfl) rfl) (dO F hd (n-1) h55 h56 hro (w.heap.size+1+1) w.heap.size t (λk=>k=w.heap.size+1) _ (by simp) (by simp only[World.size_alloc];omega) (λi v h=>by have:=jC ((w.alloc (.cells cs 36)).alloc (.cells #[.slice none 0 0] 43)) cs 36 i v (hcs'▸h);simpa using this) (hT.below λb i v hb e=>(hB0.cell (p:=⟨b,i,none⟩) hb).trans e) (by rintro k rfl;simp only[World.size_alloc];omega)) D5.trans (λW l o o' _ h ho _=>D5.putObj W l o o' h ho) (Below.refl _ _) (λ_=>rfl) (λpre W=>(∃v,Boxed W (w.heap.size+1) 43 v/\W.ownsRow w.heap.size 36 7 v (Y3 pre).length (D6 (Y3 pre))/\(v=.slice none 0 0\/1<=(Y3 pre).length))/\Below w.heap.size w W) (λ_ _ _=>False) (OwnFrom.and (Go.Own.from (holdsRow_own w.heap.size (w.heap.size+1) 43 36 7 (λpre=>(Y3 pre).length) (λpre=>D6 (Y3 pre)) (λpre v=>v=.slice none 0 0\/1<=(Y3 pre).length)) _) (ownFrom_below (Nat.le_refl _) (by simp;omega))) (λ_ _ _ _ _ hs _ _=>hs) ⟨⟨_,bO,World.ownsRow_nil _ _ _ _,.inl rfl⟩,hB0⟩ (λx a' W=>∃Bx,w.heap.size+1<Bx/\W.heap[Bx]?=some (.cells x.cs 36 (0,0))/\a'={tmps:=#[.agg cs,.pointer (some ⟨w.heap.size,0,none⟩),.slice none 0 0,.pointer (some ⟨w.heap.size+1,0,none⟩),.pointer (some ⟨Bx,0,none⟩),.agg cs,.func (.func 55) #[] #[.pointer (some ⟨w.heap.size+1+1,0,none⟩)],.agg x.cs,undef,undef,undef,undef,undef,undef,undef,undef],defers:=[]}) (λx a' _ X Y row hs hg hr=>by obtain⟨Bx,h1,h2,h3⟩:=hs;exact⟨Bx,h1,(hg.block Bx (Array.getElem?_eq_some_iff.1 h2).1 (λe=>by obtain⟨o,ho,hc⟩:=(hr Bx e.symm).2;rw[h2]at ho;cases ho;cases hc)).trans h2,h3⟩) ?assign ?body ?done ?stop;case assign=>rintro l pre x W K⟨⟨v,hv,hrow,hnil⟩,hB⟩hK;simp only[TN.cs]at hK⊢;gi_wp2;exact hK _ _ ((KeepsOthers.alloc _ _).from _) (D5.alloc _ _) ⟨⟨v,hv.alloc _,hrow.alloc _,hnil⟩,hB.alloc hB.size _⟩ ⟨W.heap.size,hv.lt,World.alloc_heap_new W _,rfl⟩
  case body=>
    rintro l pre x a' W hl⟨r,hr⟩⟨⟨v,hv,hrow,hnil⟩,hB⟩⟨Bx,hBx,bX,rfl⟩hlt;have hc:=hv.cell;have hpl:=yAv pre;have c0:W.cell? ⟨Bx,0,none⟩=some (.int .i64 x.k):=by simp[World.cell?,bX,TN.cs]
    have c1:W.cell? ⟨Bx,1,none⟩=some (.int .i64 x.r):=by simp[World.cell?,bX,TN.cs]
    have c2:W.cell? ⟨Bx,2,none⟩=some (.int .i64 x.v):=by simp[World.cell?,bX,TN.cs]
    have c3:W.cell? ⟨Bx,3,none⟩=some (.slice x.a.p x.a.n x.a.m):=by simp[World.cell?,bX,TN.cs]
    have c4:W.cell? ⟨Bx,4,none⟩=some (.slice x.b.p x.b.n x.b.m):=by simp[World.cell?,bX,TN.cs]
    have c5:W.cell? ⟨Bx,5,none⟩=some (.slice x.c.p x.c.n x.c.m):=by simp[World.cell?,bX,TN.cs]
    have c6:W.cell? ⟨Bx,6,none⟩=some (.slice x.d.p x.d.n x.d.m):=by simp[World.cell?,bX,TN.cs]
    gi_wp2_with(gi_at_builtin;refine zCe _ rfl _ _ 43 rfl w.heap.size 36 i0 (.agg #[.int .i64 0,.int .i64 0,.int .i64 0,.slice none 0 0,.slice none 0 0,.slice none 0 0,.slice none 0 0]) 7 120 Tryz.underlying43 hi hz0 hz1 hz2 rfl (by decide) _ _ _ rfl (hrow.alloc _) ⟨W.heap.size,0,none⟩ 1 1 x.cs.toList rfl rfl ?news (by simp[Value.oneCell',TN.cs]) (by unfold maxLen;omega) (by omega) (by have:=hB.size;simp;omega) ?_;rotate_left;intro v' w1 hown' hgrow hgo;obtain⟨g',cap',rfl⟩:=ownsRow_succ hown';obtain⟨hv1,hv2,hr2,hk2,hb2⟩:=hv.appended (by decide) hrow hB.size (by omega) hown' hgrow;have hc1:=hv1.cell;have hf1:=hv1.frozen)
    · have hx:x.k=1:=by first|assumption|(rename_i q;simpa using q)|(rename_i q _;simpa using q)|(rename_i q _ _;simpa using q)|(rename_i q _ _ _;simpa using q)
      have hKp:D5 w.heap.size (λk=>k=w.heap.size+1) W (w1.setCell ⟨w.heap.size+1,0,none⟩ (.slice (some ⟨g',0,none⟩) ((Y3 pre).length+1) cap')):=((D5.alloc W _).trans (D5.app hnil (hrow.alloc _) hown' hgrow hgo)).trans (D5.setCell w1 _ _ rfl (by omega));exact⟨hk2.from _,hKp,⟨_,hv2,by rw[zMM pre hx];simpa[D6]using hr2,.inr (by rw[zMM pre hx];simp)⟩,hB.trans hb2⟩
    case news=>
      intro j u hu;have hadd:(⟨W.heap.size,0,none⟩:Addr).add j=⟨W.heap.size,j,none⟩:=by unfold Addr.add;split<;>simp_all
      rw[hadd];exact jC W _ 36 j u (by simpa[TN.cs]using hu)
    · have hx:¬x.k=1:=by first|assumption|(rename_i q;simpa using q)|(rename_i q _;simpa using q)
      exact⟨KeepsFrom.refl _ _,⟨Nat.le_refl _,λ_ _ _ _ e=>e,λ_ _ _ _ _ e=>e⟩,⟨v,hv,by rw[zIC pre hx];exact hrow,by rw[zIC pre hx];exact hnil⟩,hB⟩
  case done=>rintro D ys W hD rfl⟨⟨v,hv,hrow,hnil⟩,hB⟩hK;have hc:=hv.cell;gi_wp2;refine⟨by simp,.inl ⟨_,_,rfl,run_takeDeferred hK,?_⟩⟩;exact⟨_,results_tmp rfl _ _ _,v,rfl,ownsRow_putObj hrow _ hK rfl,hB.trans (belowK_b (w:=w) (Nat.le_refl _) W D _ _ (by simp at hD;omega) hK rfl rfl)⟩
  case stop=>rintro D c pre W _ _ h _;exact h.elim
attribute[local go_sem]Oper.semAt_some
def fA(k:Nat)(out:List Bool)(x:TN):List Bool:=if(x.k=1\/x.k=2)/\0<=x.r/\x.r<k then out.set x.r.toNat true else out
def rcN(k:Nat)(l:List TN):List Bool:=l.foldl (fA k) (List.replicate k false)
theorem zID(k:Nat)(l:List TN)(x:TN):rcN k (l++[x])=fA k (rcN k l) x:=by simp[rcN]
theorem zKM(k:Nat)(out:List Bool)(x:TN):(fA k out x).length=out.length:=by unfold fA;split<;>simp
theorem N7(k:Nat)(l:List TN):(rcN k l).length=k:=by
 have:∀(l:List TN)(o:List Bool),(l.foldl (fA k) o).length=o.length:=by intro l;induction l with|nil=>exactλ_=>rfl|cons x l ih=>intro o;rw[List.foldl_cons,ih,zKM]
 rw[rcN,this,List.length_replicate]
theorem D5.setCellj{n₀:Nat}{E:Nat->Prop}(W:World)(k j:Nat)(v:Value)(hE:E k)(hk:n₀<=k):D5 n₀ E W (W.setCell ⟨k,j,none⟩ v):=by have key:∀(b i:Nat)(u:Value),b≠k->W.cell? ⟨b,i,none⟩=some u->(W.setCell ⟨k,j,none⟩ v).cell? ⟨b,i,none⟩=some u:=λb i u hb e=>(World.cell?_of_block (Below.heap_setCell _ _ _ b hb)).trans e;exact⟨by simp,λb i u hb e=>key b i u (by omega) e,λb i u hb _ e=>key b i u (λh=>hb (h▸hE)) e⟩
set_option maxRecDepth 100000 in set_option maxHeartbeats 3200000 in theorem zKN(F:Fence)(hd:F.depth=none)(n:Nat)(h53:F.fn 53)(h33:F.fn 33)(h55:F.fn 55)(h56:F.fn 56)(hro:F.round=none)(hn:3<=n)(t:TT)(k:Nat)(hk1:0<k)(hk32:k<=32)(w:World)(hT:U5 w.heap.size w t):CallsIn F n Tryz.prog 53 #[.agg t.x.cs,.int .i64 k] w λe W'=>∃B,e=.returned (.slice (some ⟨B,0,none⟩) k k)/\w.heap.size<=B/\W'.heap[B]?=some (.cells ((rcN k t.nodes).map .bool).toArray 4 (0,0))/\Below w.heap.size w W':=by
  have h1:1<=n:=by omega
  have hdd:∀k:Nat,(F.depth.isSome=true->1<=k):=λk h=>by rw[hd]at h;cases h
  have hnd:=zBL F (n-1) h33 hro;have hmin:min (k:Int) 32=k:=by omega
  have hmax:max 0 (k:Int)=k:=by omega
  have hb4:(Tryz.t4.bytes:Int)=1:=by kernel_rfl
  have hmk:∀w:World,(Instr.makeSlice 121 (.int .i64 k) (.int .i64 k)).run Tryz.prog w=.ok (.slice (some ⟨w.heap.size,0,none⟩) k k) (w.alloc (.cells (Array.replicate k (.bool false)) 4)):=λw=>by
    have:=run_make (P:=Tryz.prog) w 121 4 Tryz.t4 (.bool false) Tryz.underlying121 (by kernel_rfl) (by kernel_rfl) .i64 .i64 k k (by omega) (Int.le_refl _) (by rw[hb4];omega) (by omega);rw[this];have e:madeCells (Value.bool false).cells ((k:Int).toNat*Tryz.t4.size)=Array.replicate k (.bool false):=by
      have:Tryz.t4.size=1:=by kernel_rfl
      rw[this];apply Array.ext (by simp[size_madeCells]);intro i h1 h2;have hc:(Value.bool false).cells=#[.bool false]:=rfl;simp[madeCells,hc,Nat.mod_one]
    rw[e];rfl
  simp only[TN.cs];refine callsIn_of_wp_marks Tryz.func53 rfl h53 ?_ hro;simp only[Tryz.ntmps53,List.size_toArray,List.length_cons,List.length_nil,Nat.reduceAdd,Nat.reduceSub,Array.replicate_succ,Array.replicate_zero,List.push_toArray,List.append_toArray,List.nil_append,List.cons_append];gi_wp2_with((try refine⟨hdd _,?_⟩);gi_at_call 33;refine(hnd _ _).mono ?_;rintro e w'⟨rfl,rfl⟩);obtain⟨cs,hcs⟩:∃cs:Array Value,#[.int .i64 t.x.k,.int .i64 t.x.r,.int .i64 t.x.v,.slice t.x.a.p t.x.a.n t.x.a.m,.slice t.x.b.p t.x.b.n t.x.b.m,.slice t.x.c.p t.x.c.n t.x.c.m,.slice t.x.d.p t.x.d.n t.x.d.m]=cs:=⟨_,rfl⟩;rw[hcs];have hcs':t.x.cs=cs:=hcs;have hB0:Below w.heap.size w ((((w.alloc (.cells cs 36)).alloc (.cells (Array.replicate k (.bool false)) 4)).alloc (.cells #[.slice (some ⟨w.heap.size+1,0,none⟩) k k] 121)).alloc (.cells cs 36)):=((((Below.refl _ w).alloc (Nat.le_refl _) _).alloc (by simp) _).alloc (by simp;omega) _).alloc (by simp;omega) _;have bO:=(Boxed.new ((w.alloc (.cells cs 36)).alloc (.cells (Array.replicate k (.bool false)) 4)) 121 (.slice (some ⟨w.heap.size+1,0,none⟩) k k)).alloc (.cells cs 36);have bM:((((w.alloc (.cells cs 36)).alloc (.cells (Array.replicate k (.bool false)) 4)).alloc (.cells #[.slice (some ⟨w.heap.size+1,0,none⟩) k k] 121)).alloc (.cells cs 36)).heap[w.heap.size+1]?=some (.cells ((rcN k []).map .bool).toArray 4 (0,0)):=by refine((Below.heap_alloc _ _ _ (by simp)).trans (Below.heap_alloc _ _ _ (by simp))).trans ?_;have:=World.alloc_heap_new (w.alloc (.cells cs 36)) (.cells (Array.replicate k (.bool false)) 4);rw[World.size_alloc]at this;rw[this];simp[rcN,List.map_replicate]
  rw[World.size_alloc,World.size_alloc]at bO;refine wpIn_rangeFunc_ownH hro h1 (gf:=55) (lb:=#[.pointer (some ⟨w.heap.size+1+1+1,0,none⟩)]) rfl h55 (enters_of Tryz.func55 (by kernel_rfl) rfl) (dO F hd (n-1) h55 h56 hro (w.heap.size+1+1+1) w.heap.size t (λk=>k=w.heap.size+1) _ (by simp) (by simp only[World.size_alloc];omega) (λi v h=>by have:=jC (((w.alloc (.cells cs 36)).alloc (.cells (Array.replicate k (.bool false)) 4)).alloc (.cells #[.slice (some ⟨w.heap.size+1,0,none⟩) k k] 121)) cs 36 i v (hcs'▸h);simpa using this) (hT.below λb i v hb e=>(hB0.cell (p:=⟨b,i,none⟩) hb).trans e) (by rintro k rfl;simp only[World.size_alloc];omega)) D5.trans (λW l o o' _ h ho _=>D5.putObj W l o o' h ho) (Below.refl _ _) (λ_=>rfl) (λpre W=>(Boxed W (w.heap.size+1+1) 121 (.slice (some ⟨w.heap.size+1,0,none⟩) k k)/\W.heap[w.heap.size+1]?=some (.cells ((rcN k pre).map .bool).toArray 4 (0,0)))/\Below w.heap.size w W) (λ_ _ _=>False) (OwnFrom.and (Go.Own.from (λs A B row hs hg hr=>⟨boxed_own (w.heap.size+1+1) 121 (λ(_:Unit)=>Value.slice (some ⟨w.heap.size+1,0,none⟩) k k) () A B row hs.1 hg hr,(hg.block _ (Array.getElem?_eq_some_iff.1 hs.2).1 (λe=>by obtain⟨o,ho,hc⟩:=hr _ e.symm;rw[hs.2]at ho;cases ho;cases hc)).trans hs.2⟩) _) (ownFrom_below (Nat.le_refl _) (by simp;omega))) (λ_ _ _ _ _ hs _ _=>hs) ⟨⟨bO,bM⟩,hB0⟩ (λx a' W=>∃Bx,w.heap.size+1+1<Bx/\W.heap[Bx]?=some (.cells x.cs 36 (0,0))/\a'={tmps:=#[.agg cs,.int .i64 k,.pointer (some ⟨w.heap.size,0,none⟩),undef,.slice none 0 0,.pointer (some ⟨w.heap.size+1+1,0,none⟩),.pointer (some ⟨Bx,0,none⟩),.int .i64 k,.int .i64 k,.int .i64 k,.slice (some ⟨w.heap.size+1,0,none⟩) k k,.agg cs,.func (.func 55) #[] #[.pointer (some ⟨w.heap.size+1+1+1,0,none⟩)],.agg x.cs,undef,undef,undef,undef,undef,undef,undef,undef,undef,undef,undef,undef,undef,undef,undef,undef,undef,undef,undef,undef,undef,undef,undef,undef,undef],defers:=[]}) (λx a' _ X Y row hs hg hr=>by obtain⟨Bx,h1,h2,h3⟩:=hs;exact⟨Bx,h1,(hg.block Bx (Array.getElem?_eq_some_iff.1 h2).1 (λe=>by obtain⟨o,ho,hc⟩:=(hr Bx e.symm).2;rw[h2]at ho;cases ho;cases hc)).trans h2,h3⟩) ?assign ?body ?done ?stop;case assign=>rintro l pre x W K⟨⟨bO,bM⟩,hB⟩hK;simp only[TN.cs]at hK⊢;gi_wp2;have hm:=(Array.getElem?_eq_some_iff.1 bM).1;exact hK _ _ ((KeepsOthers.alloc _ _).from _) (D5.alloc _ _) ⟨⟨bO.alloc _,(Below.heap_alloc W _ _ hm).trans bM⟩,hB.alloc hB.size _⟩ ⟨W.heap.size,bO.lt,World.alloc_heap_new W _,rfl⟩
  case body=>
    rintro l pre x a' W hl⟨r,hr⟩⟨⟨bO,bM⟩,hB⟩⟨Bx,hBx,bX,rfl⟩hlt;have hc:=bO.cell;have c0:W.cell? ⟨Bx,0,none⟩=some (.int .i64 x.k):=by simp[World.cell?,bX,TN.cs]
    have c1:W.cell? ⟨Bx,1,none⟩=some (.int .i64 x.r):=by simp[World.cell?,bX,TN.cs]
    have hmiss:¬((x.k=1\/x.k=2)/\0<=x.r/\x.r<k)->rcN k (pre++[x])=rcN k pre:=λh=>by rw[zID,fA,if_neg h]
    have hit:∀j:Nat,(x.k=1\/x.k=2)->x.r=j->j<k->rcN k (pre++[x])=(rcN k pre).set j true:=λj h1 h2 h3=>by rw[zID,fA,if_pos ⟨h1,by omega,by omega⟩,h2];rfl
    have fin:∀j:Nat,rcN k (pre++[x])=(rcN k pre).set j true->KeepsFrom (w.heap.size+1+1+1+1) W (W.setCell ⟨w.heap.size+1,j,none⟩ (.bool true))/\D5 w.heap.size (λk=>k=w.heap.size+1) W (W.setCell ⟨w.heap.size+1,j,none⟩ (.bool true))/\(Boxed (W.setCell ⟨w.heap.size+1,j,none⟩ (.bool true)) (w.heap.size+1+1) 121 (.slice (some ⟨w.heap.size+1,0,none⟩) k k)/\(W.setCell ⟨w.heap.size+1,j,none⟩ (.bool true)).heap[w.heap.size+1]?=some (.cells ((rcN k (pre++[x])).map .bool).toArray 4 (0,0)))/\Below w.heap.size w (W.setCell ⟨w.heap.size+1,j,none⟩ (.bool true)):=λj hm=>by refine⟨(KeepsOthers.setCell _ _ _).from _,D5.setCellj W _ _ _ rfl (by omega),⟨(Below.heap_setCell _ _ _ _ (by show w.heap.size+1+1≠w.heap.size+1;omega)).trans bO,?_⟩,hB.setCell (p:=⟨w.heap.size+1,j,none⟩) (by simp) _⟩;rw[heap_setCell_same W (w.heap.size+1) j _ 4 _ bM,hm];simp[List.map_set]
    by_cases h1:x.k=1
    · skip;rw[h1]at c0;by_cases h2:x.r<0
      · have hm:=hmiss (by omega);have h2':¬(0<=x.r):=by omega
        gi_wp2;exact⟨KeepsFrom.refl _ _,⟨Nat.le_refl _,λ_ _ _ _ e=>e,λ_ _ _ _ _ e=>e⟩,⟨bO,by rw[hm];exact bM⟩,hB⟩
      · by_cases h3:x.r<k
        · obtain⟨j,hj⟩:∃j:Nat,x.r=j:=⟨x.r.toNat,by omega⟩;have hm:=hit j (.inl h1) hj (by omega);rw[hj]at c1;have hjk:j<k:=by omega
          have e1:W.cell? ⟨w.heap.size+1,j,none⟩=some (.bool ((rcN k pre)[j]'(by rw[N7];exact hjk))):=by simp[World.cell?,bM,N7,hjk]
          have e2:W.frozen? ⟨w.heap.size+1,j,none⟩=false:=by simp[World.frozen?,bM]
          have hj0:¬((j:Int)<0):=by omega
          have hjk':(j:Int)<k:=by omega
          have hj0':(0:Int)<=j:=by omega
          gi_wp2;exact fin j hm
        · have hm:=hmiss (by omega);have h2':0<=x.r:=by omega
          have h3':¬(x.r<(k:Int)):=by omega
          gi_wp2;exact⟨KeepsFrom.refl _ _,⟨Nat.le_refl _,λ_ _ _ _ e=>e,λ_ _ _ _ _ e=>e⟩,⟨bO,by rw[hm];exact bM⟩,hB⟩
    · by_cases h1':x.k=2
      · skip;rw[h1']at c0;by_cases h2:x.r<0
        · have hm:=hmiss (by omega);have h2':¬(0<=x.r):=by omega
          gi_wp2;exact⟨KeepsFrom.refl _ _,⟨Nat.le_refl _,λ_ _ _ _ e=>e,λ_ _ _ _ _ e=>e⟩,⟨bO,by rw[hm];exact bM⟩,hB⟩
        · by_cases h3:x.r<k
          · obtain⟨j,hj⟩:∃j:Nat,x.r=j:=⟨x.r.toNat,by omega⟩;have hm:=hit j (.inr h1') hj (by omega);rw[hj]at c1;have hjk:j<k:=by omega
            have e1:W.cell? ⟨w.heap.size+1,j,none⟩=some (.bool ((rcN k pre)[j]'(by rw[N7];exact hjk))):=by simp[World.cell?,bM,N7,hjk]
            have e2:W.frozen? ⟨w.heap.size+1,j,none⟩=false:=by simp[World.frozen?,bM]
            have hj0:¬((j:Int)<0):=by omega
            have hjk':(j:Int)<k:=by omega
            have hj0':(0:Int)<=j:=by omega
            gi_wp2;exact fin j hm
          · have hm:=hmiss (by omega);have h2':0<=x.r:=by omega
            have h3':¬(x.r<(k:Int)):=by omega
            gi_wp2;exact⟨KeepsFrom.refl _ _,⟨Nat.le_refl _,λ_ _ _ _ e=>e,λ_ _ _ _ _ e=>e⟩,⟨bO,by rw[hm];exact bM⟩,hB⟩
      ·have hm:=hmiss (by omega);gi_wp2;exact⟨KeepsFrom.refl _ _,⟨Nat.le_refl _,λ_ _ _ _ e=>e,λ_ _ _ _ _ e=>e⟩,⟨bO,by rw[hm];exact bM⟩,hB⟩
  case done=>rintro D ys W hD rfl⟨⟨bO,bM⟩,hB⟩hK;have hc:=bO.cell;gi_wp2;refine⟨by simp,.inl ⟨_,_,rfl,run_takeDeferred hK,?_⟩⟩;refine⟨_,results_tmp rfl _ _ _,w.heap.size+1,rfl,by omega,?_,hB.trans (belowK_b (w:=w) (Nat.le_refl _) W D _ _ (by simp at hD;omega) hK rfl rfl)⟩;rw[World.putObj_heap_other (by simp at hD;omega)];exact bM
  case stop=>rintro D c pre W _ _ h _;exact h.elim
end Go.Proofs.YtohkcbcddindpaaGreat
namespace Go.Ab
open Go Go.RowKit
theorem yM.kept{G:Gh}{σ:vD}{w w':World}(h:yM G σ w)(hk:vY (λk=>k<w.heap.size) w w'):vL G w G w'/\yM G σ w':=by
 have hold:∀{b:Nat},b<w.heap.size->w'.heap[b]?=w.heap[b]?:=λhlt=>hk.block _ hlt;have hE:vL G w G w':=⟨λ_ _ e=>e,λ_ _ e=>e,λ_ _ e=>e,λb o e=>World.cell?_of_block (hold (h.L_lt e)),rfl,rfl,λ_ _ e=>.inl e,λ_ _ _ _ r=>r.same (hold r.lt),λ_ e=>e⟩;refine⟨hE,⟨h.dom,h.fin,h.inj,?_,?_,h.τns,?_,h.ownd,h.below.trans (hk.mono λk hF=>h.base k hF),λk hF=>Nat.lt_of_lt_of_le (h.base k hF) hk.size⟩⟩
 ·intro i b X hi hX;obtain⟨h1,h3⟩:=h.blk i b X hi hX;exact⟨h1,vZ.mono hE (hold (h.ρ_lt hi)) h3⟩
 ·intro b o hL;obtain⟨⟨v,hv⟩,h2⟩:=h.live b o hL;exact⟨⟨v,(World.cell?_of_block (hold (h.L_lt hL))).trans hv⟩,h2⟩
 ·intro k hk';obtain⟨b,f,t,h1,h2|⟨h2,h3,h4,vs',T',h5,h6⟩⟩:=h.own k hk';·exact⟨b,f,t,h1,.inl h2⟩
  have hlt:b<w.heap.size:=(Array.getElem?_eq_some_iff.1 h5).1;exact⟨b,f,t,h1,.inr ⟨h2,h3,h4,vs',T',(hold hlt).trans h5,h6⟩⟩
theorem yM.grown{G:Gh}{σ:vD}{w w':World}(h:yM G σ w)(hk:vY (λk=>k<w.heap.size) w w'){B:Nat}(hB:w.heap.size<=B)(cs:List AV)(vs:List Value)(rest:Array Value)(T:TypeId)(hv:VL G w cs vs)(hb:w'.heap[B]?=some (.cells (vs.toArray++rest) T (0,0))):vL G w (G.addL B 0 vs.length) w'/\yM (G.addL B 0 vs.length) σ w'/\VC (G.addL B 0 vs.length) w' cs B 0:=by
 have hcell:∀i(hi:i<vs.length),w'.cell? ⟨B,i,none⟩=some vs[i]:=by
  intro i hi;have:(vs.toArray++rest)[i]?=some vs[i]:=by rw[Array.getElem?_append_left (by simpa using hi)];simp[hi]
  simp[World.cell?,hb,this]
 have hold:∀{b:Nat},b<w.heap.size->w'.heap[b]?=w.heap[b]?:=λhlt=>hk.block _ hlt;have hE:vL G w (G.addL B 0 vs.length) w':=⟨λ_ _ e=>e,λ_ _ e=>e,λ_ _ e=>.inl e,λb o e=>World.cell?_of_block (hold (h.L_lt e)),rfl,rfl,λ_ _ e=>e.elim .inl λq=>.inr (by rw[q.1];exactλhF=>absurd (h.base _ hF) (by omega)),λ_ _ _ _ r=>r.same (hold r.lt),λ_ e=>e⟩;refine⟨hE,⟨h.dom,h.fin,h.inj,?_,?_,h.τns,?_,h.ownd,h.below.trans (hk.mono λk hF=>h.base k hF),λk hF=>Nat.lt_of_lt_of_le (h.base k hF) hk.size⟩,?_⟩;·intro i b X hi hX;obtain⟨h1,h3⟩:=h.blk i b X hi hX;exact⟨h1,vZ.mono hE (hold (h.ρ_lt hi)) h3⟩
 ·intro b o hL;rcases hL with hL|⟨rfl,_,hlt⟩;·obtain⟨⟨v,hv⟩,h2⟩:=h.live b o hL;exact⟨⟨v,(World.cell?_of_block (hold (h.L_lt hL))).trans hv⟩,h2⟩
  ·exact⟨⟨_,hcell o (by omega)⟩,λi hi=>by have:=h.ρ_lt hi;omega⟩
 ·intro k hk';obtain⟨b,f,t,h1,h2|⟨h2,h3,h4,vs',T',h5,h6⟩⟩:=h.own k hk';·exact⟨b,f,t,h1,.inl h2⟩
  have hlt:b<w.heap.size:=(Array.getElem?_eq_some_iff.1 h5).1;refine⟨b,f,t,h1,.inr ⟨h2,h3,λo ho ht hL=>?_,vs',T',(hold hlt).trans h5,h6⟩⟩;rcases hL with hL|⟨e,_,_⟩;·exact h4 o ho ht hL
  ·omega
 ·refine VC.of_cells cs vs _ _ (VL.mono hE _ _ hv) (λi hi=>.inr ⟨rfl,Nat.zero_le _,by omega⟩) (λi hi=>?_);simpa using hcell i hi
theorem zBN{G:Gh}{w:World}{es:List AV}{n:Nat}{o:Own}{u:Value}(h:V G w (.sl es n o) u):∃p c,u=.slice p n c:=by
 simp only[V]at h;obtain⟨cap,-,⟨-,h1,-,h2,-⟩|⟨b,off,h2,-⟩⟩:=h;·subst h1;exact⟨_,_,h2⟩
 ·exact⟨_,_,h2⟩
mutual def wH:zP->List zP|.mk k r v a b c ks=>.mk k r v a b c ks::vU ks def vU:List yO->List zP|[]=>[]|k::l=>nJ k++vU l def nJ:yO->List zP|.mk _ y _ _ t=>if y=true then wH t else[]end
mutual def D7:zP->Bool|.mk _ _ _ _ _ _ ks=>decide (ks.length*184<=140737488351232)&&dP ks def dP:List yO->Bool|[]=>true|k::l=>zKO k&&dP l def zKO:yO->Bool|.mk _ _ _ _ t=>D7 t end
end Go.Ab
namespace Go.Proofs.YtohkcbcddindpaaGreat
open Go Go.Ab Go.Proofs.Tryz
def NDs(G:Gh)(w:World):List TN->List zP->Prop|[],[]=>True|x::xs,t::ts=>VL G w (sW t) x.cs.toList/\NDs G w xs ts|_,_=>False
theorem NDs.append{G:Gh}{w:World}:∀{xs ys:List TN}{ts us:List zP},NDs G w xs ts->NDs G w ys us->NDs G w (xs++ys) (ts++us)|[],_,[],_,_,k=>k|_::_,_,_::_,_,h,k=>⟨h.1,h.2.append k⟩|[],_,_::_,_,h,_=>h.elim|_::_,_,[],_,h,_=>h.elim
theorem NDs.len{G:Gh}{w:World}:∀{xs:List TN}{ts:List zP},NDs G w xs ts->xs.length=ts.length|[],[],_=>rfl|_::_,_::_,h=>by simp[NDs.len h.2]|[],_::_,h=>h.elim|_::_,[],h=>h.elim
theorem yCJ{G:Gh}{w:World}{x:TN}{t:zP}(h:VL G w (sW t) x.cs.toList):x.k=t.kind_/\x.r=t.row_:=by simp only[sW,TN.cs,VL,ai,V,Value.int.injEq,true_and]at h;exact⟨h.1,h.2.1⟩
theorem NDs.lf{G:Gh}{w:World}:∀{xs:List TN}{ts:List zP},NDs G w xs ts->VL G w (zC wD (ts.filter λt=>decide (t.kind_=1))) (D6 (Y3 xs))/\(Y3 xs).length=(ts.filter λt=>decide (t.kind_=1)).length
 |[],[],_=>⟨trivial,rfl⟩|x::xs,t::ts,h=>by
  have ih:=NDs.lf h.2;have hk:=(yCJ h.1).1;by_cases h1:t.kind_=1
  ·have e1:Y3 (x::xs)=x::Y3 xs:=by simp[Y3,hk,h1]
   have e2:((t::ts).filter λt=>decide (t.kind_=1))=t::ts.filter λt=>decide (t.kind_=1):=by simp[h1]
   rw[e1,e2];refine⟨?_,by simp[ih.2]⟩;simp only[zC,D6,List.flatMap_cons];exact VL.append _ _ _ _ (by rw[uM];exact h.1) ih.1
  ·have e1:Y3 (x::xs)=Y3 xs:=by simp[Y3,hk,h1]
   have e2:((t::ts).filter λt=>decide (t.kind_=1))=ts.filter λt=>decide (t.kind_=1):=by simp[h1]
   rw[e1,e2];exact ih|[],_::_,h=>h.elim|_::_,[],h=>h.elim
def N8(k:Nat)(out:List Bool)(x:zP):List Bool:=if(x.kind_=1\/x.kind_=2)/\0<=x.row_/\x.row_<k then out.set x.row_.toNat true else out
def rcT(k:Nat)(l:List zP):List Bool:=l.foldl (N8 k) (List.replicate k false)
theorem NDs.rc{G:Gh}{w:World}(k:Nat):∀{xs:List TN}{ts:List zP},NDs G w xs ts->∀o,xs.foldl (fA k) o=ts.foldl (N8 k) o|[],[],_,_=>rfl|x::xs,t::ts,h,o=>by obtain⟨h1,h2⟩:=yCJ h.1;rw[List.foldl_cons,List.foldl_cons,NDs.rc k h.2];unfold fA N8;rw[h1,h2]|[],_::_,h,_=>h.elim|_::_,[],h,_=>h.elim
mutual theorem zMN{G:Gh}{σ:vD}{w:World}(hR:yM G σ w):∀(t:zP)(vs:List Value),D7 t=true->VL G w (wD t) vs->∃x:TT,vs=x.x.cs.toList/\U5 w.heap.size w x/\NDs G w x.nodes (wH t)
 |.mk k r v a b c ks,vs,ho,h=>by
  have h':=h;rw[wD]at h;rw[D7,Bool.and_eq_true]at ho;have hl:=VL.length _ _ h;obtain⟨v0,v1,v2,v3,v4,v5,v6,rfl⟩:∃a b c d e f g,vs=[a,b,c,d,e,f,g]:=by rcases vs with _|⟨a,_|⟨b,_|⟨c,_|⟨d,_|⟨e,_|⟨f,_|⟨g,_|⟨z,zs⟩⟩⟩⟩⟩⟩⟩⟩<;>simp at hl;exact⟨a,b,c,d,e,f,g,rfl⟩
  simp only[VL,and_true]at h;obtain⟨h0,h1,h2,h3,h4,h5,h6⟩:=h;obtain⟨p3,m3,rfl⟩:=zBN h3;obtain⟨p4,m4,rfl⟩:=zBN h4;obtain⟨p5,m5,rfl⟩:=zBN h5;simp only[ai,V]at h0 h1 h2 h6;subst h0 h1 h2;have hlen:=of_decide_eq_true ho.1;obtain⟨cap,-,⟨-,hn,-,hu,-⟩|⟨b',off,hu,hc,-⟩⟩:=h6
  ·have hks:ks=[]:=List.eq_nil_of_length_eq_zero hn;subst hks;refine⟨.mk ⟨k,r,v,⟨p3,_,m3⟩,⟨p4,_,m4⟩,⟨p5,_,m5⟩,⟨aB v6,0,0⟩⟩ .nil,by simp only[TT.x,TN.cs];rw[<-hu],⟨rfl,by simp[p9.len],0,0,λh=>absurd rfl h,λh=>absurd rfl h,trivial⟩,?_⟩;simp only[TT.nodes,p9.nodes,wH,vU];refine⟨?_,trivial⟩;rw[<-uM];simpa only[TN.cs,<-hu]using h'
  ·obtain⟨ks',e1,e2,e3,e4⟩:=zMO hR ks b' off ho.2 hc;refine⟨.mk ⟨k,r,v,⟨p3,_,m3⟩,⟨p4,_,m4⟩,⟨p5,_,m5⟩,⟨some ⟨b',off,none⟩,ks.length,cap⟩⟩ ks',by simp only[TT.x,TN.cs];rw[hu],⟨e1.symm,by rw[e1];exact hlen,b',off,λ_=>rfl,λh=>e4 (by omega),e2⟩,?_⟩;simp only[TT.nodes,wH];refine⟨?_,e3⟩;rw[<-uM];simpa only[TN.cs,hu]using h' theorem zMO{G:Gh}{σ:vD}{w:World}(hR:yM G σ w):∀(l:List yO)(b o:Nat),dP l=true->VC G w (rY l) b o->∃ks:p9,ks.len=l.length/\N5 w.heap.size w b o ks/\NDs G w ks.nodes (vU l)/\(l.length≠0->b<w.heap.size)
 |[],_,_,_,_=>⟨.nil,rfl,trivial,trivial,λh=>absurd rfl h⟩|k::l,b,o,ho,h=>by rw[dP,Bool.and_eq_true]at ho;rw[rY]at h;have hl:(wE k).length=11:=nN.1 k;have h1:=VC.take _ b o 11 h;have h2:=VC.drop _ b o 11 h;rw[List.take_left' hl]at h1;rw[List.drop_left' hl]at h2;obtain⟨con,yes,a,s,t,e1,e2,e3⟩:=yAu hR k b o ho.1 h1;obtain⟨ks,f1,f2,f3,-⟩:=zMO hR l b (o+11) ho.2 h2;exact⟨.cons con yes a s t ks,by simp[p9.len,f1],e1 ks f2,by simp only[p9.nodes,vU];exact e2.append f3,λ_=>e3⟩theorem yAu{G:Gh}{σ:vD}{w:World}(hR:yM G σ w):∀(k:yO)(b o:Nat),zKO k=true->VC G w (wE k) b o->∃con yes a s t,(∀ks,N5 w.heap.size w b (o+11) ks->N5 w.heap.size w b o (.cons con yes a s t ks))/\NDs G w (if yes=true then t.nodes else[]) (nJ k)/\b<w.heap.size
 |.mk con yes args solved t,b,o,ho,h=>by
  rw[zKO]at ho;have hh:=λvs=>zMN hR t vs ho;rw[wE,uM]at h;simp only[sW,List.cons_append,List.nil_append,VC,and_true]at h;obtain⟨l0,⟨v0,c0,r0⟩,l1,⟨v1,c1,r1⟩,l2,⟨v2,c2,r2⟩,l3,⟨v3,c3,r3⟩,l4,⟨v4,c4,r4⟩,l5,⟨v5,c5,r5⟩,l6,⟨v6,c6,r6⟩,l7,⟨v7,c7,r7⟩,l8,⟨v8,c8,r8⟩,l9,⟨v9,c9,r9⟩,l10,⟨v10,u6,r10⟩⟩:=h;obtain⟨x,e1,e2,e3⟩:=hh [v4,v5,v6,v7,v8,v9,v10] (by rw[uM];exact⟨r4,r5,r6,r7,r8,r9,r10,trivial⟩);simp only[TN.cs,List.cons.injEq,and_true]at e1;obtain⟨rfl,rfl,rfl,rfl,rfl,rfl,rfl⟩:=e1;obtain⟨p2,m2,rfl⟩:=zBN r2;obtain⟨p3,m3,rfl⟩:=zBN r3;simp only[ai,ab,V]at r0 r1;subst r0 r1;refine⟨con,yes,⟨p2,_,m2⟩,⟨p3,_,m3⟩,x,λks hks=>⟨c0,c1,c2,c3,c4,c5,c6,c7,c8,c9,u6,e2,hks⟩,?_,hR.L_lt l0⟩;rw[nJ];split;·exact e3
  ·trivial end
open Go.RowKit
theorem zKP{G:Gh}{σ:vD}{w:World}(hR:yM G σ w){t:zP}(ho:D7 t=true){u:Value}(h:V G w (xW t) u):∃x:TT,u=.agg x.x.cs/\U5 w.heap.size w x/\NDs G w x.nodes (wH t):=by unfold xW at h;rw[V]at h;obtain⟨vs,rfl,h⟩:=h;obtain⟨x,e,h2,h3⟩:=zMN hR t vs ho (by rw[uM];exact h);exact⟨x,by rw[e],h2,h3⟩
theorem zIE(t:zP):AV.DataL [xW t]:=⟨⟨trivial,trivial,trivial,⟨trivial,yE _⟩,⟨trivial,dT _⟩,⟨trivial,dT _⟩,⟨trivial,zCQ _⟩,trivial⟩,trivial⟩
theorem zPs(t:zP)(k:Int):AV.DataL [xW t,ai k]:=⟨⟨trivial,trivial,trivial,⟨trivial,yE _⟩,⟨trivial,dT _⟩,⟨trivial,dT _⟩,⟨trivial,zCQ _⟩,trivial⟩,trivial,trivial⟩
theorem yCK{t:zP}(ho:D7 t=true):CT prog 10 [] [xW t] (ai ((min (wH t).length 8193:Nat):Int)) [] 0:=by
 refine⟨λG0 W cargs hB hR hv=>?_,zIE t,λ_ h=>(nomatch h),trivial,λ_ h=>(nomatch h)⟩;obtain⟨cl⟩:=cargs;rcases cl with _|⟨u,_|⟨z,zs⟩⟩;·exact hv.elim
 ·obtain⟨hu,-⟩:=hv;obtain⟨x,rfl,hT,hN⟩:=zKP hR ho hu;have hc:=callsIn_wide.1 (zWL Fence.wide rfl 4 trivial trivial trivial trivial rfl (by decide) x W hT);refine hc.mono ?_;rintro e w'⟨rfl,hb⟩;obtain⟨hE,hR'⟩:=hR.kept (vY.of_below hb λ_ h=>h);refine⟨_,_,A3 [],rfl,hE,hR',?_,λi X h=>by simp at h,λk hk=>by omega⟩;rw[hN.len];simp only[ai,V]
 ·exact hv.2.elim
theorem yCL{t:zP}(ho:D7 t=true)(hn:(wH t).length<=1000000):CT prog 11 [] [xW t] (.sl (zC wD ((wH t).filter λt=>decide (t.kind_=1))) ((wH t).filter λt=>decide (t.kind_=1)).length .no) [] 0:=by
 refine⟨λG0 W cargs hB hR hv=>?_,zIE t,λ_ h=>(nomatch h),zJc _,λ_ h=>(nomatch h)⟩;obtain⟨cl⟩:=cargs;rcases cl with _|⟨u,_|⟨z,zs⟩⟩;·exact hv.elim
 ·obtain⟨hu,-⟩:=hv;obtain⟨x,rfl,hT,hN⟩:=zKP hR ho hu;have hc:=callsIn_wide.1 (zPt Fence.wide rfl 4 trivial trivial trivial trivial rfl (by decide) x (by rw[hN.len];exact hn) W hT);refine hc.mono ?_;obtain⟨hv2,hl2⟩:=hN.lf;rintro e w'⟨v,rfl,⟨hlen,hrow⟩,hb⟩;have hk:=vY.of_below hb (F:=λk=>k<W.heap.size) λ_ h=>h;rcases hrow with⟨rfl,h0⟩|⟨g,cap,cur,rfl,hg,hcur,hcap,-,hcs,htk⟩
  ·obtain⟨hE,hR'⟩:=hR.kept hk;rw[hl2]at h0;refine⟨_,_,A3 [],rfl,hE,hR',?_,λi X h=>by simp at h,λk hk=>by omega⟩;simp only[V];rw[List.eq_nil_of_length_eq_zero h0];exact⟨0,Nat.le_refl _,.inl ⟨rfl,rfl,rfl,rfl,trivial⟩⟩
  ·have hcur':cur=(D6 (Y3 x.nodes)).toArray++(cur.toList.drop ((Y3 x.nodes).length*7)).toArray:=by apply Array.ext';simp only[Array.toList_append,<-htk,List.take_append_drop]
   rw[hcur']at hcur;obtain⟨hE,hR',hV⟩:=hR.grown hk hg _ _ _ 36 hv2 hcur;refine⟨_,_,A3 [],rfl,hE,hR',?_,λi X h=>by simp at h,λk hk=>by omega⟩;simp only[V];exact⟨cap,by rw[<-hl2];exact hcap,.inr ⟨g,0,by rw[hl2],hV,trivial⟩⟩
 ·exact hv.2.elim
theorem zWM(l:List Bool):zC boC l=l.map ab:=by induction l with|nil=>rfl|cons b l ih=>simp only[zC,List.flatMap_cons]at ih⊢;rw[ih];rfl
theorem zXf{G:Gh}{w:World}:∀l:List Bool,VL G w (l.map ab) (l.map .bool)|[]=>trivial|b::l=>⟨rfl,zXf l⟩
theorem yCM{t:zP}(ho:D7 t=true){k:Int}(h0:0<k)(h32:k<=32):CT prog 53 [] [xW t,ai k] (.sl (zC boC (rcT k.toNat (wH t))) (rcT k.toNat (wH t)).length .no) [] 0:=by
 obtain⟨n,rfl⟩:∃n:Nat,k=n:=⟨k.toNat,by omega⟩;refine⟨λG0 W cargs hB hR hv=>?_,zPs t n,λ_ h=>(nomatch h),dB _,λ_ h=>(nomatch h)⟩;obtain⟨cl⟩:=cargs;rcases cl with _|⟨u,_|⟨u2,_|⟨z,zs⟩⟩⟩;·exact hv.elim
 ·exact hv.2.elim
 ·obtain⟨hu,hu2,-⟩:=hv;simp only[ai,V]at hu2;subst hu2;obtain⟨x,rfl,hT,hN⟩:=zKP hR ho hu;have hc:=callsIn_wide.1 (zKN Fence.wide rfl 4 trivial trivial trivial trivial rfl (by decide) x n (by omega) (by omega) W hT);refine hc.mono ?_;rintro e w'⟨B,rfl,hB,hcur,hb⟩;have e1:rcN n x.nodes=rcT n (wH t):=hN.rc n _;rw[e1]at hcur;obtain⟨hE,hR',hV⟩:=hR.grown (vY.of_below hb λ_ h=>h) hB ((rcT n (wH t)).map ab) ((rcT n (wH t)).map .bool) #[] 4 (zXf _) (by simpa using hcur);have hl:(rcT n (wH t)).length=n:=by rw[<-e1,N7]
  refine⟨_,_,A3 [],rfl,hE,hR',?_,λi X h=>by simp at h,λk hk=>by omega⟩;simp only[V,Int.toNat_natCast];exact⟨n,by omega,.inr ⟨B,0,by rw[hl],by rw[zWM];exact hV,trivial⟩⟩
 ·exact hv.2.2.elim
def e53(_qq:Nat)(b:zP)(a:Int):Option (List Bool):=if D7 b=true/\0<a/\a<=32 then some (rcT a.toNat (wH b))else none
theorem yFk{c:Nat}{b:zP}{a:Int}{r:List Bool}(h:e53 c b a=some r):CT prog 53 [] [xW b,ai a] (.sl (zC boC r) r.length .no) [] 0:=by
 unfold e53 at h;split at h;·next g=>obtain rfl:=(Option.some.inj h).symm;exact yCM g.1 g.2.1 g.2.2
 ·cases h
theorem c53{c:Nat}{b:zP}{a:Int}:Cz (e53 c b a) 53 [] [xW b,ai a] (λr=>.sl (zC boC r) r.length .no) (λ_=>[]) 0:=λ_ h=>yFk h
def AlC(l:List yI)(c:List zJ)(T F:Int)(x:(List zW×Int×Int×Int)⊕(List zW×Int×Int×Int)):Prop:=(∃e a b,e≠0/\x=.inl ([],e,a,b))\/∃bs a b,bs.length<=65535/\(∀y∈bs,zBB l c y)/\Fu T a b/\a<=F/\x=.inr (bs,0,a,b)
theorem zPr(bs:List zW)(hb:bs.length<=65535):zH (λq=>dN q bs) λ_=>True:=by
 have key:∀(r:List zW)(v:Nat),bs.drop v=r->zH (λq=>pT q bs (v:Int)) λ_=>True:=by intro r;induction r with|nil=>intro v hd;refine zH.succ ?_;simp only[pT];refine zH.ite (λh=>?_) λ_=>zH.ret trivial;rw[zY hd]at h;cases h|cons x r ih=>
  intro v hd;have hlt:=yC hd;refine zH.succ ?_;simp only[pT,yAy];refine zH.ite (λ_=>zH.pure (zV hd) (zH.pure rfl (zH.ite (λ_=>zH.ret trivial) λ_=>?_))) λh=>?_;·rw[zU v (by omega)];exact ih (v+1) (zR hd)
  ·rw[zX hd]at h;cases h
 simp only[dN,zBK];exact(key bs 0 rfl).bind λ_ _=>zH.ret trivial
section
variable{N:ByteArray->Bool}{l:List yI}(hE:vA N l)(he:∀e∈l,jM e)(hl:l.length<=65535)(hcl:∀e∈l,ECl e)
def meX:Me (Int×Int×Int×List zW):=⟨λr=>r.1,λr=>r.2.1,λr L=>(r.1,L,r.2.2)⟩
include hE he hl hcl
theorem zIF(hfm:zF (λq=>s5 q l) true)(c:List zJ)(n:Int)(hcn:c.length<=1048576)(ho:∀v∈c,v.type_.Ok){T F d:Int}(hT:T<=100000)(hd0:0<=d)(hdd:d<=100000)(x5:yI)(hx:x5.cons.length<=65535):∀(r:List Int)(v:Nat)(L U e:Int)(bs:List zW),x5.cons.drop v=r->bs.length<=v->v<=x5.cons.length->(e=0->(Fu T L U/\L<=F)/\∀y∈bs,zBB l c y)->yH d meA (λL q=>gX q (xI l) c n x5 (v:Int) L U e bs) L (AlC l c T F)
 |[],v,L,U,e,bs,hd,hb,hvl,hi=>by
  refine yH.succ ?_;simp only[gX];refine yH.ite (λh=>?_) λ_=>yH.ite (λh=>yH.ret (.inl ⟨e,L,U,by simpa using h,rfl⟩)) λh=>?_;·rw[zY hd]at h;cases h
  ·have e0:e=0:=by simpa using h
   exact yH.pure (a:=bs) (by unfold I9;rw[if_pos rfl]) (yH.ret (.inr ⟨bs,L,U,by omega,(hi e0).2,(hi e0).1.1,(hi e0).1.2,rfl⟩))|con::r,v,L,U,e,bs,hd,hb,hvl,hi=>by
  have hlt:=yC hd;refine yH.succ ?_;simp only[gX];refine yH.ite (λ_=>yH.pure (zV hd) ?_) λh=>?_
  ·have step:yH d meX (λL q=>N3 q con e l l (kK l l.length 0) (l.map wZ) (l.map qD) c n L U bs) L λy=>y.2.2.2.length<=v+1/\(y.1=0->(Fu T y.2.1 y.2.2.1/\y.2.1<=F)/\∀z∈y.2.2.2,zBB l c z):=by
    simp only[N3];refine yH.ite (λh=>?_) λh=>yH.ret ⟨by show bs.length<=_;omega,λh0=>?_⟩
    ·obtain⟨hF,hg⟩:=hi (by simpa using h);refine yH.bind (zWB hE he hl hcl hfm c n con hcn ho hF.1.1 hF.1.2.1 hF.1.2.2 hT hd0 hdd) λr2 q2=>?_;dsimp only[me3];refine yH.pure (yF (by simp;omega)) (yH.ret ⟨by simp;omega,λh0=>?_⟩);obtain⟨g1,g2,g3⟩:=q2 h0;refine⟨⟨g2,Int.le_trans g3 hF.2⟩,λz hz=>?_⟩;rcases List.mem_append.1 hz with hz|hz;·exact hg z hz
     ·rw[List.mem_singleton.1 hz];exact g1
    ·have h0':e=0:=h0;rw[h0']at h;cases h
   refine yH.bind step λy hy=>?_
   ·dsimp only[meX];rw[zU v (by omega)];exact zIF hfm c n hcn ho hT hd0 hdd x5 hx r (v+1) _ _ _ _ (zR hd) hy.1 hlt hy.2
  ·rw[zX hd]at h;cases h
theorem zBO(hfm:zF (λq=>s5 q l) true)(c:List zJ)(n:Int)(hcn:c.length<=1048576)(ho:∀v∈c,v.type_.Ok){L U T d:Int}(h0:0<=L)(h1:0<=U)(h2:L+U=T)(hT:T<=100000)(hd0:0<=d)(hdd:d<=100000):yH d meA (λL q=>zIm q (xI l) c n L U) L (AlC l c T L):=by
 simp only[zIm];refine yH.bind (zBD hE he hl hcl c n hcn ho h0 h1 h2 hT hd0 hdd) (λr1 q1=>?_) (by rintro(x|x)<;>rfl);rcases q1 with⟨d,a,b,rfl⟩|⟨d,e,fl,fu,p,i,rfl,hc,hm,hf⟩;·dsimp only[zTr];exact yH.ite (λ_=>yH.ret (.inl ⟨5,_,_,by decide,rfl⟩)) λh=>by cases h
 ·dsimp only[zTr];refine yH.ite (λh=>yH.ret (.inl ⟨e,_,_,by simpa using h,rfl⟩)) λh=>?_;have e0:e=0:=by simpa using h
  obtain⟨hn,d0,d1,d16,p8,i8,hp,hi,hC,hF⟩:=hf e0;exact yH.pure (yT d0 d1) (zIF hE he hl hcl hfm c n hcn ho hT hd0 hdd (yA l d) (Nat.le_trans d16 (by decide)) _ 0 fl fu e [] rfl (Nat.le_refl _) (Nat.zero_le _) λ_=>⟨hF,λy h=>nomatch h⟩)
theorem zPq(hfm:zF (λq=>s5 q l) true)(c:List zJ)(n:Int)(hcn:c.length<=1048576)(ho:∀v∈c,v.type_.Ok){L U T d:Int}(h0:0<=L)(h1:0<=U)(h2:L+U=T)(hT:T<=100000)(hd0:0<=d)(hdd:d<=100000):yH d me3 (λL q=>zWH q (xI l) c n L U) L λr=>r.2.1=0->Fu T r.2.2.1 r.2.2.2/\r.2.2.1<=L:=by
 simp only[zWH];refine yH.bind (zBO hE he hl hcl hfm c n hcn ho h0 h1 h2 hT hd0 hdd) (λr1 q1=>?_) (by rintro(x|x)<;>rfl);rcases q1 with⟨e,a,b,e0,rfl⟩|⟨bs,a,b,hb,hg,hF,hFL,rfl⟩
 ·dsimp only[meA];exact yH.ite (λ_=>yH.ret λh=>absurd h e0) λh=>absurd (by simpa using h) e0
 ·dsimp only[meA];exact yH.ite (λh=>by cases h) λ_=>yH.tot (zPr bs hb) λ_ _=>yH.ret λ_=>⟨hF,hFL⟩
end
def me6{α:Type}:Me (α×Int×Int×Int×Int×Int):=⟨λr=>r.2.1,λr=>r.2.2.2.2.1,λr L=>(r.1,r.2.1,r.2.2.1,r.2.2.2.1,L,r.2.2.2.2.2)⟩
structure zFg(n:Nat)(x:xT):Prop where
 ctx:fM x.c_
 args:∀t∈x.args_,zG t=true
 len:x.args_.length=n
 cl:ClC x.c_
 acl:∀t∈x.args_,Cl x.c_ t
def dQ(l:List yI)(n:Nat)(rows:List (List zB)):Prop:=rows.length<=65535/\∀r∈rows,r.length=n/\tI r<=8192/\∀p∈r,GP l p/\oJ p
structure zWN(l:List yI)(n:Nat)(rows:List (List zB))(t:zP):Prop where
 ctx:fM t.vars_
 len:t.args_.length=n
 args:∀a∈t.args_,zG a=true/\Cl t.vars_ a
 bs:t.binds_.length<=8192/\∀b∈t.binds_,zG b=true
 row:∃v:Nat,t.row_=v/\(∃x1,rows[v]?=some x1/\(bW l (t.vars_.map (·.n_)) x1 t.args_ PS0).ended=false/\(bW l (t.vars_.map (·.n_)) x1 t.args_ PS0).bs=t.binds_)/\∀k,k<v->∀x2,rows[k]?=some x2->(bW l (t.vars_.map (·.n_)) x2 t.args_ PS0).out=true
def Lvs(l:List yI)(n:Nat)(rows:List (List zB))(ts:List zP):Prop:=∀t∈ts,t.kind_=1->zWN l n rows t
def TrR(l:List yI)(n:Nat)(rows:List (List zB))(T F:Int)(r:zP×Int×Int×Int×Int×Int):Prop:=r.2.1=0->r.2.2.1=0/\r.2.2.2.1=0/\D7 r.1=true/\Fu T r.2.2.2.2.1 r.2.2.2.2.2/\((wH r.1).length:Int)+r.2.2.2.2.1<=F/\Lvs l n rows (wH r.1)
def KdR(l:List yI)(n:Nat)(rows:List (List zB))(T F:Int)(r:yO×Int×Int×Int×Int×Int):Prop:=r.2.1=0->r.2.2.1=0/\r.2.2.2.1=0/\zKO r.1=true/\Fu T r.2.2.2.2.1 r.2.2.2.2.2/\((nJ r.1).length:Int)+r.2.2.2.2.1<=F/\Lvs l n rows (nJ r.1)
abbrev tr0:zP:=zP.mk 0 0 0 [] [] [] []
theorem zDM:∀(a:List yO)(k:yO),dP a=true->zKO k=true->dP (a++[k])=true|[],k,_,h=>by simp[dP,h]|x::a,k,h,hk=>by rw[dP,Bool.and_eq_true]at h;rw[List.cons_append,dP,h.1,zDM a k h.2 hk];rfl
theorem Y4:∀(a:List yO)(k:yO)(t:zP),t∈vU (a++[k])->t∈vU a\/t∈nJ k
 |[],k,t,h=>by simpa[vU]using h|x::a,k,t,h=>by
  rw[List.cons_append,vU]at h;rw[vU];rcases List.mem_append.1 h with h|h;·exact .inl (List.mem_append_left _ h)
  ·exact(Y4 a k t h).imp (λh=>List.mem_append_right _ h) id
theorem Y5:∀(a:List yO)(k:yO),(vU (a++[k])).length=(vU a).length+(nJ k).length|[],k=>by simp[vU]|x::a,k=>by rw[List.cons_append,vU,vU,List.length_append,List.length_append,Y5 a k];omega
section
variable{N:ByteArray->Bool}{l:List yI}(hE:vA N l)(he:∀e∈l,jM e)(hl:l.length<=65535)(hcl:∀e∈l,ECl e)
include hE he hl hcl
def IHT(l:List yI)(n:Nat)(rows:List (List zB))(T d F:Int):Prop:=∀(x:xT)(L U:Int),zFg n x->Fu T L U->L<F->yH d me6 (λL q=>e51 q (xI l) L U rows ⟨0,0,0⟩ x) L (TrR l n rows T L)
omit hE he hl hcl in theorem zTg{n:Nat}{rows:List (List zB)}{T d F:Int}(hn:n<=65535)(IH:IHT l n rows T d F)(x:xT)(hx:zFg n x)(b:zW)(hb:b.yes_=true)(hg:zBB l x.c_ b)(row at0 L U:Int)(hF:Fu T L U)(hLF:L<F):∀(r:List Tm)(v:Nat)(acc:List Tm),x.args_.drop v=r->acc.length=v->(∀t∈acc,zG t=true/\Cl b.vars_ t)->v<=x.args_.length->yH d me6 (λL q=>aA q (xI l) L U rows ⟨0,0,0⟩ x b row at0 (v:Int) acc) L (KdR l n rows T L):=by
 have hlen:=hx.len;rcases hg with hg|⟨-,g1,g2,g3,g4,g5⟩;·rw[hb]at hg;cases hg
 intro r;induction r with|nil=>
  intro v acc hd ha hs hv;have hv2:x.args_.length<=v:=List.drop_eq_nil_iff.1 hd;refine yH.succ ?_;simp only[aA];refine yH.ite (λh=>?_) λ_=>?_;·rw[zY hd]at h;cases h
  ·refine yH.bind (IH ⟨b.vars_,acc⟩ L U ⟨g1,λt ht=>(hs t ht).1,(by show acc.length=n;omega),(g5 hx.cl).1,λt ht=>(hs t ht).2⟩ hF hLF) λr hr=>yH.ret λh0=>?_;obtain⟨h1,h2,h3,h4,h5⟩:=hr h0;refine⟨h1,h2,h3,h4,?_⟩;show((nJ (.mk b.con_ b.yes_ b.args_ b.solved_ r.1)).length:Int)+_<=_/\Lvs l n rows (nJ (.mk b.con_ b.yes_ b.args_ b.solved_ r.1));rw[nJ,if_pos hb];exact h5|cons t r ih=>
  intro v acc hd ha hs hv;have hlt:=yC hd;have htm:t∈x.args_:=List.mem_of_mem_drop (by rw[hd];simp);have ht:=hx.args t htm;refine yH.succ ?_;simp only[aA,e77];refine yH.ite (λ_=>yH.pure (zV hd) (yH.tot (zDJ b.solved_ g3 (λs hs=>(g4 s hs).1) (λs hs=>(g4 s hs).2) t ht) λr5 h5=>yH.ite (λh=>?_) λh=>yH.pure (yF (by simp;omega)) ?_)) λh=>?_
  ·exact yH.tot (Q:=λy=>y=(tr0,r5.2,row,at0)) (zH.ite (λ_=>zH.ret rfl) λh=>by cases h) λy e=>by subst e;exact yH.ret λh0=>by have e0:r5.2=0:=h0;rw[e0]at h;cases h
  ·have h0:r5.2=0:=by simpa using h
   rw[zU v (by omega)];refine ih (v+1) _ (zR hd) (by simp[ha]) (λz hz=>?_) hlt;rcases List.mem_append.1 hz with hz|hz;·exact hs z hz
   ·rw[List.mem_singleton.1 hz];obtain⟨k1,k2,k3⟩:=h5.2 h0;refine⟨k1,λy hy=>?_⟩;by_cases hd2:y∈b.vars_.map (·.n_);·exact hd2
    ·obtain⟨-,c2,c3⟩:=g5 hx.cl;refine absurd hy (k3 y (λs hs h=>hd2 (c2 s hs y h)) λh=>(c3 y (hx.acl t htm y h)).elim hd2 λh'=>?_);obtain⟨s,hs,e⟩:=List.mem_map.1 h';exact k2 s hs (e▸hy)
  ·rw[zX hd]at h;cases h
omit hE he hl hcl in theorem zWO{n:Nat}{rows:List (List zB)}{T d F:Int}(hn:n<=65535)(IH:IHT l n rows T d F)(x:xT)(hx:zFg n x)(b:zW)(hg:zBB l x.c_ b)(row at0 L U:Int)(hF:Fu T L U)(hLF:L<F):yH d me6 (λL q=>zWJ q (xI l) L U rows ⟨0,0,0⟩ x b row at0) L (KdR l n rows T L):=by
 refine yH.succ ?_;simp only[zWJ];refine yH.ite (λh=>zTg hn IH x hx b h hg row at0 L U hF hLF x.args_ 0 [] rfl rfl (λt h=>nomatch h) (Nat.zero_le _)) λh=>yH.ret λ_=>⟨rfl,rfl,?_,hF,?_⟩
 ·show zKO (.mk _ _ _ _ tr0)=true;simp[zKO,D7,dP]
 ·show((nJ (.mk b.con_ b.yes_ b.args_ b.solved_ tr0)).length:Int)+L<=L/\Lvs l n rows (nJ (.mk b.con_ b.yes_ b.args_ b.solved_ tr0));rw[nJ,h];exact⟨by simp,λt h=>nomatch h⟩
omit hE he hl hcl in theorem zIG{n:Nat}{rows:List (List zB)}{T d F:Int}(hn:n<=65535)(IH:IHT l n rows T d F)(x:xT)(hx:zFg n x)(o s w no:Bool)(k a:Int)(hb:List Tm)(hbn hbc:Nat)(row:Int)(bs:List zW)(hbs:bs.length<=65535)(hg:∀b∈bs,zBB l x.c_ b)(F0:Int):∀(r:List zW)(v:Nat)(L U:Int)(ks:List yO),bs.drop v=r->Fu T L U->L<F->ks.length=v->dP ks=true->((vU ks).length:Int)+L+1<=F0->Lvs l n rows (vU ks)->v<=bs.length->yH d me6 (λL q=>D4 q (xI l) rows x o s w no k a hb hbn hbc row bs (bs.length:Int) (v:Int) 0 0 0 L U ks) L (TrR l n rows T F0):=by intro r;induction r with
 |nil=>
  intro v L U ks hd hF hLF hk ho hnn hlv hv;refine yH.succ ?_;simp only[D4];refine yH.ite (λh=>?_) λ_=>yH.ret λ_=>⟨rfl,rfl,?_,hF,?_⟩;·rw[zY hd]at h;cases h
  ·show D7 (.mk _ _ _ _ _ _ ks)=true;rw[D7,ho,decide_eq_true (by omega)];rfl
  ·show((wH (.mk 3 0 k [] [] [] ks)).length:Int)+L<=F0/\Lvs l n rows (wH (.mk 3 0 k [] [] [] ks));rw[wH,List.length_cons];refine⟨by omega,λt ht hk1=>?_⟩;rcases List.mem_cons.1 ht with rfl|ht
   ·have:(3:Int)=1:=hk1;omega
   ·exact hlv t ht hk1|cons b r ih=>
  intro v L U ks hd hF hLF hk ho hnn hlv hv;have hlt:=yC hd;have hbm:b∈bs:=List.mem_of_mem_drop (by rw[hd];simp);refine yH.succ ?_;simp only[D4];refine yH.ite (λ_=>yH.pure (zV hd) (yH.bind (zWO hn IH x hx b (hg b hbm) row a L U hF hLF) λr10 h10=>?_)) λh=>?_
  ·dsimp only[me6];refine yH.pure (yF (by simp;omega)) (yH.ite (λh=>yH.ret λh0=>?_) λh=>?_)
   ·have e0:r10.2.1=0:=h0;rw[e0]at h;cases h
   ·have e0:r10.2.1=0:=by simpa using h
    obtain⟨h1,h2,h3,h4,h5⟩:=h10 e0;rw[zU v (by omega),e0,h1,h2];refine ih (v+1) r10.2.2.2.2.1 r10.2.2.2.2.2 _ (zR hd) h4 (by omega) (by simp[hk]) (zDM _ _ ho h3) ?_ (λt ht hk1=>?_) hlt;·rw[Y5];omega
    ·exact(Y4 _ _ t ht).elim (λh=>hlv t h hk1) λh=>h5.2 t h hk1
  ·rw[zX hd]at h;cases h
theorem zKR(hfm:zF (λq=>s5 q l) true){n:Nat}{rows:List (List zB)}{T d F:Int}(hT:T<=100000)(hd0:0<=d)(hdd:d<=100000)(hn:n<=65535)(IH:IHT l n rows T d F)(x:xT)(hx:zFg n x)(o s w no:Bool)(k a:Int)(hb:List Tm)(hbn hbc:Nat)(row:Int)(L U:Int)(hF:Fu T L U)(hLF:L<F):yH d me6 (λL q=>e80 q (xI l) L U rows ⟨0,0,0⟩ x o s w no k a hb hbn hbc row) L (TrR l n rows T (L+1)):=by
 have hcl2:=hx.ctx.len;refine yH.succ ?_;simp only[e80,e77];refine yH.bind (zBO hE he hl hcl hfm x.c_ k (by omega) (λv hv=>yB (hx.ctx.each v hv).2.2.1) hF.1 hF.2.1 hF.2.2 hT hd0 hdd) (λr1 q1=>?_) (by rintro(z|z)<;>rfl);rcases q1 with⟨e,a',b,e0,rfl⟩|⟨bs,a',b,hb',hg,hF',h1,rfl⟩;·dsimp only[meA];refine yH.ite (λ_=>yH.tot (Q:=λy=>y=(tr0,e,row,a)) (zH.ite (λ_=>zH.ret rfl) λh=>by cases h) λy e'=>?_) λh=>absurd (by simpa using h) e0;subst e';exact yH.ret λh=>absurd h e0
 ·dsimp only[meA];exact yH.ite (λh=>by cases h) λ_=>zIG hn IH x hx o s w no k a hb hbn hbc row bs hb' hg (L+1) bs 0 a' b [] rfl hF' (by omega) rfl rfl (by simp[vU];omega) (λt ht=>by rw[vU]at ht;cases ht) (Nat.zero_le _)
end
section
variable{N:ByteArray->Bool}{l:List yI}(hE:vA N l)(he:∀e∈l,jM e)(hl:l.length<=65535)(hcl:∀e∈l,ECl e)
include hE he hl hcl
theorem zPp(hfm:zF (λq=>s5 q l) true){n:Nat}{rows:List (List zB)}{T d:Int}(hT:T<=100000)(hd0:0<=d)(hdd:d<=100000)(x:xT)(hx:zFg n x)(o s w no:Bool)(k a:Int)(hb:List Tm)(hbn hbc:Nat)(row:Int)(L U:Int)(hF:Fu T L U):yH d me6 (λL q=>e79 q (xI l) L U rows ⟨0,0,0⟩ x o s w no k a hb hbn hbc row) L (TrR l n rows T (L+1)):=by
 have hcl2:=hx.ctx.len;have fl:∀e:Int,zH (λ(_:Nat)=>if((0:Int)==0)=true then some (tr0,e,row,a)else some (tr0,0,0,0)) λy=>y=(tr0,e,row,a):=λe=>zH.ite (λ_=>zH.ret rfl) λh=>by cases h
 simp only[e79,e77];refine yH.bind (zPq hE he hl hcl hfm x.c_ k (by omega) (λv hv=>yB (hx.ctx.each v hv).2.2.1) hF.1 hF.2.1 hF.2.2 hT hd0 hdd) λr1 q1=>?_
 ·dsimp only[me3];refine yH.ite (λ_=>yH.ite (λh=>yH.tot (fl _) λy e'=>?_) λh=>yH.ret λ_=>?_) λ_=>yH.ite (λh=>yH.tot (fl _) λy e'=>?_) λh=>yH.tot (fl _) λy e'=>?_
  ·subst e';exact yH.ret λh0=>by have e0:r1.2.1=0:=h0;rw[e0]at h;cases h
  ·obtain⟨h1,h2⟩:=q1 (by simpa using h);refine⟨rfl,rfl,rfl,h1,?_⟩;show((wH (.mk 2 row k [] [] [] [])).length:Int)+r1.2.2.1<=L+1/\Lvs l n rows (wH (.mk 2 row k [] [] [] []));refine⟨by simp[wH,vU];omega,λt ht hk1=>?_⟩;rw[wH,vU]at ht;rw[List.mem_singleton.1 ht]at hk1;have:(2:Int)=1:=hk1;omega
  ·subst e';exact yH.ret λh0=>by have e0:r1.2.1=0:=h0;rw[e0]at h;cases h
  ·subst e';exact yH.ret λh0=>absurd h0 (by show¬(17:Int)=0;decide)
theorem zPo(hfm:zF (λq=>s5 q l) true){n:Nat}{rows:List (List zB)}(hr:dQ l n rows){T d:Int}(hT:T<=100000)(hd0:0<=d)(hdd:d<=100000)(hn:n<=65535)(x:xT)(hx:zFg n x)(L U:Int)(hF:Fu T L U)(IH:IHT l n rows T d (L+1)):∀(r:List (List zB))(v:Nat),rows.drop v=r->(∀k,k<v->∀x2,rows[k]?=some x2->(bW l (x.c_.map (·.n_)) x2 x.args_ PS0).out=true)->yH d me6 (λL q=>U4 q (xI l) rows ⟨0,0,0⟩ x (0,L,U) (v:Int)) L λr=>TrR l n rows T (L+1) r/\(r.2.1=0->rows≠[]):=by have hcl2:=hx.ctx.len;have hlen:=hx.len;have hr1:=hr.1;intro r;induction r with
 |nil=>
  intro v hd hout;refine yH.succ ?_;simp only[U4,e77];refine yH.ite (λh=>?_) λ_=>yH.tot (Q:=λy=>y=(tr0,10,-1,0)) (zH.ite (λ_=>zH.ret rfl) λh=>by cases h) λy e=>?_;·rw[zY hd]at h;cases h
  ·subst e;exact yH.ret ⟨λh0=>absurd h0 (by show¬(10:Int)=0;decide),λh0=>absurd h0 (by show¬(10:Int)=0;decide)⟩|cons x1 r ih=>
  intro v hd hout;have hlt:=yC hd;have hm:x1∈rows:=List.mem_of_mem_drop (by rw[hd];simp);have hne:rows≠[]:=λe=>by rw[e]at hm;cases hm
  obtain⟨r1,r2,r3⟩:=hr.2 x1 hm;have hx1:rows[v]?=some x1:=by have:=congrArg (λl=>l[0]?) hd;simpa[List.getElem?_drop]using this
  have hbs:=zKH l (x.c_.map (·.n_)) x1 x.args_ PS0 hx.args (λb h=>nomatch h);refine yH.succ ?_;simp only[U4,e77];refine yH.ite (λ_=>yH.totL (zWG hE he L U rows ⟨0,0,0⟩ x (by omega) hx.args (by omega) v x1 hx1 r3 r2 (by omega)) λr7 h7=>?_) λh=>?_
  ·obtain⟨bc,rfl⟩:=h7;have hb1:=hbs.1;have hb2:=hbs.2;generalize hs0:bW l (x.c_.map (·.n_)) x1 x.args_ PS0=s at hb1 hb2⊢;dsimp only;refine yH.ite (λh1=>?_) λh1=>yH.ite (λ_=>yH.tot (Q:=λy=>y=(tr0,13,(v:Int),s.at_)) (zH.ite (λ_=>zH.ret rfl) λh=>by cases h) λy e=>?_) λh2=>yH.ite (λ_=>yH.ite (λ_=>?_) λ_=>?_) λh3=>?_
   ·rw[zU v (by omega)];refine ih (v+1) (zR hd) λk hk x2 hx2=>?_;rcases Nat.lt_or_ge k v with h|h;·exact hout k h x2 hx2
    ·have:k=v:=by omega
     subst this;rw[hx1]at hx2;cases hx2;rw[hs0];exact h1
   ·subst e;exact yH.ret ⟨λh0=>absurd h0 (by show¬(13:Int)=0;decide),λh0=>absurd h0 (by show¬(13:Int)=0;decide)⟩
   ·exact yH.bind (zPp hE he hl hcl hfm hT hd0 hdd x hx _ _ _ _ _ _ _ _ _ _ L U hF) λr hr=>yH.ret ⟨hr,λ_=>hne⟩
   ·exact yH.bind (zKR hE he hl hcl hfm hT hd0 hdd hn IH x hx _ _ _ _ _ _ _ _ _ _ L U hF (by omega)) λr hr=>yH.ret ⟨hr,λ_=>hne⟩
   ·simp only[e81,e82,zFj];have z:s.bs.length<=1048576:=by have:(PS0.bs.length)=0:=rfl;omega
    refine yH.evt (zIb x.c_ (by omega) (λv hv=>(hx.ctx.each v hv).2.2.1) _ 0 [] rfl rfl) (yH.evt (zMK s.bs bc z hb2 _ 0 [] rfl rfl) (yH.evt (zMJ x.args_ (by omega) hx.args _ 0 [] rfl rfl) (yH.ret ⟨λ_=>⟨rfl,rfl,rfl,hF,?_⟩,λ_=>hne⟩)));show((wH (.mk 1 v 0 x.c_ s.bs x.args_ [])).length:Int)+L<=L+1/\Lvs l n rows (wH (.mk 1 v 0 x.c_ s.bs x.args_ []));refine⟨by simp[wH,vU];omega,λt ht hk1=>?_⟩;rw[wH,vU]at ht;rw[List.mem_singleton.1 ht];refine⟨hx.ctx,hlen,λa ha=>⟨hx.args a ha,hx.acl a ha⟩,⟨by have:(PS0.bs.length)=0:=rfl;show s.bs.length<=_;omega,hb2⟩,v,rfl,⟨x1,hx1,?_,by show(bW l (x.c_.map (·.n_)) x1 x.args_ PS0).bs=s.bs;rw[hs0]⟩,hout⟩;show(bW l (x.c_.map (·.n_)) x1 x.args_ PS0).ended=false;rw[hs0,PS.ended,h1,h2,h3];rfl
  ·rw[zX hd]at h;cases h
theorem zTf(hfm:zF (λq=>s5 q l) true){n:Nat}{rows:List (List zB)}(hr:dQ l n rows){T d:Int}(hT:T<=100000)(hd0:0<=d)(hdd:d<=100000)(hn:n<=65535):∀(m:Nat)(x:xT)(L U:Int),zFg n x->Fu T L U->L<m->yH d me6 (λL q=>e51 q (xI l) L U rows ⟨0,0,0⟩ x) L λr=>TrR l n rows T L r/\(r.2.1=0->rows≠[]):=by intro m;induction m with|zero=>intro x L U hx hF hL;have:=hF.1;omega|succ m ih=>
 intro x L U hx hF hL;have f0:=hF.1;have f1:=hF.2.1;have f2:=hF.2.2;refine yH.succ ?_;simp only[e51,e77];refine yH.bind (zIx f0 f1 hd0 (by omega)) λr1 h1=>?_
 ·obtain⟨a,b,c⟩:=r1;dsimp only[meM]at h1⊢;rcases h1 with rfl|⟨rfl,hL1,rfl,rfl⟩
  ·refine yH.ite (λ_=>yH.tot (Q:=λy=>y=(tr0,8,0,0)) (zH.ite (λ_=>zH.ret rfl) λh=>by cases h) λy e=>?_) λh=>by cases h
   subst e;exact yH.ret ⟨λh0=>absurd h0 (by show¬(8:Int)=0;decide),λh0=>absurd h0 (by show¬(8:Int)=0;decide)⟩
  ·refine yH.ite (λh=>by cases h) λ_=>?_;have:=zPo hE he hl hcl hfm hr hT hd0 hdd hn x hx (L-1) (U+1) ⟨by omega,by omega,by omega⟩ (λx' L' U' hx' hF' hL'=>(ih x' L' U' hx' hF' (by omega)).mono λr h=>h.1) rows 0 rfl λk hk=>absurd hk (Nat.not_lt_zero _);rw[show L-1+1=L by omega]at this;exact this
end
mutual def e27:Nat->zB->Int->Option (yP×Int)|0,_,_=>none|c+1,a,d=>U6 c a (xC (d-1)) 0 []def U6:Nat->zB->Int->Int->(List yP)->Option (yP×Int)|0,_,_,_,_=>none|c+1,a,e,f,b=>if decide (f<(a.sub_.length:Int))then if decide (e>(-9000))then zS a.sub_ f>>=λx3=>e27 c (zB.mk x3.kind_ x3.n_ x3.at_ x3.sub_ x3.t_) e>>=λr5=>yX 88 b [(yP.mk r5.1.kind_ r5.1.n_ r5.1.at_ r5.1.sub_ r5.1.t_)]>>=λl7=>U6 c a r5.2 (xC (f+1)) l7 else some ((yP.mk a.kind_ a.n_ a.at_ b a.t_),e)else some ((yP.mk a.kind_ a.n_ a.at_ b a.t_),e)end
theorem zPn:∀c:Nat,(∀a d,Cz (e27 c a d) 27 [] [wT a,ai d] (λr=>.tup [u3 (yP.mk r.1.kind_ r.1.n_ r.1.at_ r.1.sub_ r.1.t_),ai r.2]) (λ_=>[]) 0)/\(∀a e f b,Lz (U6 c a e f b) 0 f27 (pt 16309 f27) (λj=>sp j 51 0 [(1,ai e),(2,.mp 0 0),(4,.mp 1 0),(6,.mp 2 0),(7,ai f)]) ⟨[(0,.cells [ai a.kind_,ai a.n_,ai a.at_,zN zK a.sub_ .no,ai a.t_.k,ai a.t_.n,zN zA a.t_.sub .no]),(1,.cells [ai 0,ai 0,ai 0,zN wA ([]:List yP) .nl,ai 0,ai 0,zN zA ([]:yU) .nl]),(2,.cells [ai a.kind_,ai a.n_,ai a.at_,zN wA b (.st 0 7),ai a.t_.k,ai a.t_.n,zN zA a.t_.sub .no])],3,[0],1,[]⟩ (λr=>.tup [u3 (yP.mk r.1.kind_ r.1.n_ r.1.at_ r.1.sub_ r.1.t_),ai r.2]) (λ_=>[]) 0 [.blk 0,.seq (pt 255 f27)]):=xX ⟨λ_ _=>cN,λ_ _ _ _=>lN⟩ λc ih=>⟨λa d=>fw func27<|fH 6 [(some 2,3,7)] [0,1,2] [0] [1,2,4,6,7] (ih.2 _ _ _ _),λa e f b=>lw λ_=>rB 2 (rB 0 (rA 1 (zCp (o:=.no)) λ_=>rC 1 [] (ih.1 _ _) λr5=>rS (oS 5 (xJ jZ [(yP.mk r5.1.kind_ r5.1.n_ r5.1.at_ r5.1.sub_ r5.1.t_)]))<|rW (λh8=>oP 0 (zXu h8 (by simp))) λ_=>lH 2 [] [0,1,2] [1] [1,2,4,6,7] (ih.2 _ _ _ _))<|lE 2)<|lE 2⟩
theorem c27{c a d}:Cz (e27 c a d) 27 [] [wT a,ai d] (λr=>.tup [u3 (yP.mk r.1.kind_ r.1.n_ r.1.at_ r.1.sub_ r.1.t_),ai r.2]) (λ_=>[]) 0:=(zPn _).1 _ _
def e71(b:Nat)(c:xH)(a:zB):Option (Bool):=s5 b c>>=λr1=>if r1 then zTp b (zB.mk a.kind_ a.n_ a.at_ a.sub_ a.t_)>>=λr4=>if r4 then iN b c (zB.mk a.kind_ a.n_ a.at_ a.sub_ a.t_)>>=λr7=>some r7 else some false else some false
theorem c71{b c a}:Cz (e71 b c a) 71 [] [zN xA c .no,wT a] (λr=>ab r) (λ_=>[]) 0:=fw func71<|rK 0 [] c62 (λ_=>rK 1 [] yCH (λ_=>rC 1 [] zTo λ_=>fE 0) λ_=>fE 0) λ_=>fE 0
mutual def U7:Nat->xK->yU->(List (List zB))->xH->Int->Option (Bool)
 |0,_,_,_,_,_=>none|d+1,M,a,c,r1,b=>if decide (b<(c.length:Int))then zS c b>>=λx13=>if(x13.length:Int)!=(a.length:Int)then some false else e70 d x13>>=λr16=>if r16 then U9 d M a c r1 b x13 0 else some false else some true def U9:Nat->xK->yU->(List (List zB))->xH->Int->(List zB)->Int->Option (Bool)
 |0,_,_,_,_,_,_,_=>none|d+1,M,a,c,r1,b,x13,f=>if decide (f<(x13.length:Int))then zS x13 f>>=λx20=>e71 d r1 (zB.mk x20.kind_ x20.n_ x20.at_ x20.sub_ x20.t_)>>=λr22=>if r22 then U9 d M a c r1 b x13 (xC (f+1))else some false else U7 d M a c r1 (xC (b+1))end
def V0:Nat->xK->yU->(List (List zB))->xH->Int->Option (Bool)
 |0,_,_,_,_,_=>none|d+1,M,a,c,r1,e=>if decide (e<(a.length:Int))then zS a e>>=λx4=>e68 d x4 e (r1.length:Int)>>=λr6=>if r6 then e69 d x4>>=λr9=>if decide ((r9.length:Int)>0)then some false else V0 d M a c r1 (xC (e+1))else some false else U7 d M a c r1 0
def e48(d:Nat)(M:xK)(a:yU)(c:List (List zB)):Option (Bool):=e67 d M>>=λr1=>V0 d M a c r1 0
theorem zFf:∀d:Nat,(∀M a c r1 b,Lz (U7 d M a c r1 b) 2 f48 (pt 65461 f48) (λj=>sp j 66 0 [(1,zN zA a .no),(7,zN xA r1 .no),(38,zN (rD zK) c .no),(39,ai (c.length:Int)),(40,ai b)]) ⟨[(0,mB M 1),(1,mR M)],2,[],0,[]⟩ (λr=>ab r) (λ_=>[mB M 1,mR M]) 0 [.blk 2,.seq (pt 1023 f48)])/\(∀M a c r1 b x13 f,Lz (U9 d M a c r1 b x13 f) 2 f48 (pt 17160464373 f48) (λj=>sp j 66 0 [(1,zN zA a .no),(7,zN xA r1 .no),(38,zN (rD zK) c .no),(39,ai (c.length:Int)),(40,ai b),(54,zN zK x13 .no),(55,ai (x13.length:Int)),(56,ai f)]) ⟨[(0,mB M 1),(1,mR M)],2,[],0,[]⟩ (λr=>ab r) (λ_=>[mB M 1,mR M]) 0 [.blk 4,.blk 3,.seq (pt 4189567 f48),.loop (pt 65461 f48),.blk 2,.seq (pt 1023 f48)]):=xX ⟨λ_ _ _ _ _=>lN,λ_ _ _ _ _ _ _=>lN⟩ λd ih=>⟨λM a c r1 b=>lw λ_=>rB 0 (rA 0 (zQa (o:=.no)) λ_=>rB 3 (lE 0)<|rK 0 [] c70 (λ_=>lH 2 [] [0,1] [] [1,7,38,39,40,54,55,56] (ih.2 _ _ _ _ _ _ _)) λ_=>lE 1)<|lE 0,λM a c r1 b x13 f=>lw λ_=>rB 0 (rA 0 (zCp (o:=.no)) λ_=>rK 3 [] c71 (λ_=>lH 2 [] [0,1] [] [1,7,38,39,40,54,55,56] (ih.2 _ _ _ _ _ _ _)) λ_=>lE 1)<|lH 1 [] [0,1] [] [1,7,38,39,40] (ih.1 _ _ _ _ _)⟩
theorem yAt:∀d:Nat,∀M a c r1 e,Lz (V0 d M a c r1 e) 2 f48 (pt 16309 f48) (λj=>sp j 66 0 [(1,zN zA a .no),(2,zN (rD zK) c .no),(7,zN xA r1 .no),(18,zN zA a .no),(19,ai (a.length:Int)),(20,ai e)]) ⟨[(0,mB M 1),(1,mR M)],2,[],0,[]⟩ (λr=>ab r) (λ_=>[mB M 1,mR M]) 0 [.blk 0,.seq (pt 255 f48)]:=xX (λ_ _ _ _ _=>lN) λd ih=>λM a c r1 e=>lw λ_=>rB 0 (rA 0 (xP (o:=.no)) λ_=>rK 4 [] c68 (λ_=>rC 2 [] c69 λ_=>rB 1 (lE 0)<|lH 1 [] [0,1] [] [1,2,7,18,19,20] (ih _ _ _ _ _)) λ_=>lE 1)<|lH 1 [] [0,1] [] [1,7,38,39,40] (((zFf _).1) _ _ _ _ _)
theorem c48{d M a c}:Cz (e48 d M a c) 48 [mB M 1,mR M] [.mp 0 0,zN zA a .no,zN (rD zK) c .no] (λr=>ab r) (λ_=>[mB M 1,mR M]) 0:=fw func48<|rC 1 [0,1] c67 λ_=>fH 1 [] [0,1] [] [1,2,7,18,19,20] (yAt _ _ _ _ _ _)
def e54(b:Nat)(a:List zB):Option (Int):=if(a.length:Int)==0 then some 0 else zS a 0>>=λx2=>some x2.at_
theorem c54{b a}:Cz (e54 b a) 54 [] [zN zK a .no] (λr=>ai r) (λ_=>[]) 0:=fw func54<|rB 1 (fE 0)<|rA 0 (zCp (o:=.no)) λ_=>fE 1
def V1:Nat->xK->(List (List zB))->(zP×Int×Int×Int×Int×Int)->(List Bool)->Int->Option (zP×yQ×Int×Int)|0,_,_,_,_,_=>none|b+1,M,c,r14,r17,a=>if decide (a<(r17.length:Int))then zS r17 a>>=λx20=>if x20 then V1 b M c r14 r17 (xC (a+1))else zS c a>>=λx23=>e54 b x23>>=λr25=>some ((zP.mk 0 0 0 [] [] [] []),(yQ.mk 11 a r25),r14.2.2.2.2.1,r14.2.2.2.2.2)else some (r14.1,(yQ.mk 0 0 0),r14.2.2.2.2.1,r14.2.2.2.2.2)
def e32(b:Nat)(M:xK)(f:yU)(c:List (List zB))(d e:Int):Option (zP×yQ×Int×Int):=e48 b M f c>>=λr1=>if r1 then if decide ((f.length:Int)>24)then some ((zP.mk 0 0 0 [] [] [] []),(yQ.mk 2 0 0),d,e)else if decide ((c.length:Int)>32)then some ((zP.mk 0 0 0 [] [] [] []),(yQ.mk 2 0 0),d,e)else e49 b f 0>>=λr6=>if r6.2 !=0 then some ((zP.mk 0 0 0 [] [] [] []),(yQ.mk 5 0 0),d,e)else e50 b r6.1>>=λr9=>if r9 then e52 b r6.1>>=λr12=>e51 b M d e c (yQ.mk 0 0 0) (xT.mk r6.1 r12)>>=λr14=>if !((r14.2.1==0)&&((r14.2.2.1==0)&&(r14.2.2.2.1==0)))then some ((zP.mk 0 0 0 [] [] [] []),(yQ.mk r14.2.1 r14.2.2.1 r14.2.2.2.1),r14.2.2.2.2.1,r14.2.2.2.2.2)else e53 b r14.1 (c.length:Int)>>=λr17=>V1 b M c r14 r17 0 else some ((zP.mk 0 0 0 [] [] [] []),(yQ.mk 5 0 0),d,e)else some ((zP.mk 0 0 0 [] [] [] []),(yQ.mk 5 0 0),d,e)
theorem yAs:∀b:Nat,∀M c r14 r17 a,Lz (V1 b M c r14 r17 a) 3 Tryz.f32 (pt 16777141 Tryz.f32) (λj=>sp j 92 0 [(2,zN (rD zK) c .no),(8,.mp 3 0),(9,.mp 4 0),(13,.mp 5 0),(72,zN boC r17 .no),(73,ai (r17.length:Int)),(74,ai a)]) ⟨[(0,mB M 1),(1,mR M),(2,.cells [ai r14.2.2.2.2.1,ai r14.2.2.2.2.2]),(3,.cells [ai 0,ai 0,ai 0,zN zD ([]:xU) .nl,zN zA ([]:yU) .nl,zN zA ([]:yU) .nl,zN wE ([]:List yO) .nl]),(4,.cells [ai 0,ai 0,ai 0]),(5,.cells [ai r14.1.kind_,ai r14.1.row_,ai r14.1.var_,zN zD r14.1.vars_ .no,zN zA r14.1.binds_ .no,zN zA r14.1.args_ .no,zN wE r14.1.kids_ .no])],6,[],0,[]⟩ (λr=>.tup [xW r.1,kX r.2.1]) (λr=>[mB M 1,mR M,.cells [ai r.2.2.1,ai r.2.2.2]]) 0 [.blk 0,.seq (pt 262143 Tryz.f32)]:=xX (λ_ _ _ _ _=>lN) λb ih=>λM c r14 r17 a=>lw λ_=>rB 0 (rA 0 (yBa (o:=.no)) λ_=>rB 0 (lH 2 [] [0,1,2,3,4,5] [] [2,8,9,13,72,73,74] (ih _ _ _ _ _))<|rA 1 (zQa (o:=.no)) λ_=>rC 1 [] c54 λ_=>lE 2)<|lE 3
theorem c32{b M f c d e}:Cz (e32 b M f c d e) 32 [mB M 1,mR M,.cells [ai d,ai e]] [.mp 0 0,zN zA f .no,zN (rD zK) c .no,.mp 2 0] (λr=>.tup [xW r.1,kX r.2.1]) (λr=>[mB M 1,mR M,.cells [ai r.2.2.1,ai r.2.2.2]]) 0:=fw func32<|rK 0 [0,1] c48 (λ_=>rB 2 (fE 2)<|rB 1 (fE 2)<|rC 0 [] c49 λ_=>rB 2 (fE 2)<|rK 0 [] c50 (λ_=>rC 1 [] c52 λ_=>rC 0 [5,0,1,2] c51 λ_=>rB 2 (fE 3)<|rC 2 [] c53 λ_=>fH 1 [] [0,1,2,3,4,6] [] [2,8,9,13,72,73,74] (yAs _ _ _ _ _ _)) λ_=>fE 3) λ_=>fE 3
mutual def Y6:Nat->(List (List zB))->(List (List yP))->Int->Int->Option (List (List yP)×Bool)
 |0,_,_,_,_=>none|d+1,a,e,b,c=>if decide (c<(a.length:Int))then zDN d a e c b [] 0 else some (e,true)def zDN:Nat->(List (List zB))->(List (List yP))->Int->Int->(List yP)->Int->Option (List (List yP)×Bool)
 |0,_,_,_,_,_,_=>none|d+1,a,e,c,b,f,g=>zS a c>>=λx2=>if decide (g<(x2.length:Int))then if decide (b>0)then zS x2 g>>=λx6=>e27 d (zB.mk x6.kind_ x6.n_ x6.at_ x6.sub_ x6.t_) b>>=λr8=>yX 88 f [(yP.mk r8.1.kind_ r8.1.n_ r8.1.at_ r8.1.sub_ r8.1.t_)]>>=λl10=>zDN d a e c r8.2 l10 (xC (g+1))else yX 24 e [f]>>=λl12=>if decide ((xC (b-1))<=0)then some ([],false)else Y6 d a l12 (xC (b-1)) (xC (c+1))else yX 24 e [f]>>=λl15=>if decide ((xC (b-1))<=0)then some ([],false)else Y6 d a l15 (xC (b-1)) (xC (c+1))end
def e6(d:Nat)(a:List (List zB)):Option (List (List yP)×Bool):=Y6 d a [] 400 0
theorem zKS:∀d:Nat,(∀a e b c,Lz (Y6 d a e b c) 0 Tryz.f6 (pt 16309 Tryz.f6) (λj=>sp j 58 0 [(0,zN (rD zK) a .no),(4,zN (rD wA) e (.st 0 1)),(5,ai b),(6,ai c)]) ⟨[],0,[0],1,[]⟩ (λr=>.tup [.sl (zC (rD wA) r.1) r.1.length .no,ab r.2]) (λ_=>[]) 0 [.blk 0,.seq (pt 255 Tryz.f6)])/\(∀a e c b f g,Lz (zDN d a e c b f g) 0 Tryz.f6 (pt 1068885941 Tryz.f6) (λj=>sp j 58 0 [(0,zN (rD zK) a .no),(4,zN (rD wA) e (.st 0 1)),(5,ai b),(6,ai c),(7,zN wA f (.st 1 7)),(8,ai g)]) ⟨[],0,[0,1],2,[]⟩ (λr=>.tup [.sl (zC (rD wA) r.1) r.1.length .no,ab r.2]) (λ_=>[]) 0 [.blk 2,.seq (pt 16701343 Tryz.f6),.blk 1,.seq (pt 260959 Tryz.f6),.loop (pt 16309 Tryz.f6),.blk 0,.seq (pt 255 Tryz.f6)]):=xX ⟨λ_ _ _ _=>lN,λ_ _ _ _ _ _=>lN⟩ λd ih=>⟨λa e b c=>lw λ_=>rB 1 (lH 1 [(none,7,7)] [] [0,1] [0,4,5,6,7,8] (ih.2 _ _ _ _ _ _))<|lE 0,λa e c b f g=>lw λ_=>rH λ_ h3=>rS (oA 0 (zQa (o:=.no) h3))<|rB 2 (rB 0 (rS (oA 0 (zQa (o:=.no) h3))<|rA 1 (zCp (o:=.no)) λ_=>rC 1 [] c27 λr8=>rS (oS 4 (xJ jZ [(yP.mk r8.1.kind_ r8.1.n_ r8.1.at_ r8.1.sub_ r8.1.t_)]))<|rW (λh11=>oP 0 (zXu h11 (by simp))) λ_=>lH 1 [] [] [0,2] [0,4,5,6,7,8] (ih.2 _ _ _ _ _ _))<|rW (λh13=>oP 1 (zXv h13 (by simp))) λ_=>rB 1 (lE 0)<|lH 1 [] [] [2] [0,4,5,6] (ih.1 _ _ _ _))<|rW (λh16=>oP 1 (zXv h16 (by simp))) λ_=>rB 1 (lE 0)<|lH 1 [] [] [2] [0,4,5,6] (ih.1 _ _ _ _)⟩
theorem c6{d a}:Cz (e6 d a) 6 [] [zN (rD zK) a .no] (λr=>.tup [.sl (zC (rD wA) r.1) r.1.length .no,ab r.2]) (λ_=>[]) 0:=fw func6<|fH 1 [(none,4,1)] [] [0] [0,4,5,6] (((zKS _).1) _ _ _ _)
mutual def p24:zB->yP|.mk k n a sub t=>.mk k n a (nK sub) t def nK:List zB->List yP|[]=>[]|p::ps=>p24 p::nK ps end
theorem zFe(p:yP):yP.mk p.kind_ p.n_ p.at_ p.sub_ p.t_=p:=by cases p;rfl
theorem zBP:∀l:List zB,(nK l).length=l.length|[]=>rfl|p::ps=>by rw[nK,List.length_cons,zBP ps,List.length_cons]
mutual theorem zDO:∀(p:zB)(n:Int),oJ p->-8999<=n->n<=1000000->zH (λq=>e27 q p n) λr=>r.2<=n-1/\-9000<=r.2/\(-9000<r.2->(ndP p:Int)+r.2<=n/\r.1=p24 p)|.mk k n0 a sub t,n,ho,h0,h1=>by rw[oJ]at ho;refine zH.succ ?_;simp only[e27];rw[yS (x:=n-1) (by omega) (by omega)];refine(zBQ sub (.mk k n0 a sub t) (n-1) 0 [] rfl ho.2.1 ho.1 (by simp;omega) (by omega)).mono λr hr=>⟨hr.1,hr.2.1,λh=>?_⟩;have:=hr.2.2 h;exact⟨by rw[ndP];omega,by rw[this.2,p24];rfl⟩theorem zBQ:∀(r:List zB)(p:zB)(n:Int)(v:Nat)(acc:List yP),p.sub_.drop v=r->jJ r->p.sub_.length<=17592186044416->(acc.length:Int)+n<=1000000->-9000<=n->zH (λq=>U6 q p n (v:Int) acc) λo=>o.2<=n/\-9000<=o.2/\(-9000<o.2->(tI r:Int)+o.2<=n/\o.1=.mk p.kind_ p.n_ p.at_ (acc++nK r) p.t_)
 |[],p,n,v,acc,hd,ho,hl,ha,hn=>by refine zH.succ ?_;simp only[U6];refine zH.ite (λh=>?_) λ_=>zH.ret ⟨Int.le_refl _,hn,λ_=>⟨by rw[tI];simp,by rw[nK,List.append_nil]⟩⟩;rw[zY hd]at h;cases h|x::r,p,n,v,acc,hd,ho,hl,ha,hn=>by
  have hlt:=yC hd;rw[jJ]at ho;refine zH.succ ?_;simp only[U6,mN];refine zH.ite (λ_=>zH.ite (λhp=>zH.pure (zV hd) ((zDO x n ho.1 (by have:=of_decide_eq_true hp;omega) (by omega)).bind λy hy=>zH.pure (yF (by simp;omega)) ?_)) λhp=>zH.ret ⟨Int.le_refl _,hn,λh=>?_⟩) λh=>?_
  ·rw[zU v (by omega)];have h1:=hy.1;have h2:=hy.2.1;refine(zBQ r p y.2 (v+1) _ (zR hd) ho.2 hl (by simp;omega) h2).mono λo h=>⟨by have:=h.1;omega,h.2.1,λh'=>?_⟩;have a1:=h.2.2 h';have a2:=hy.2.2 (by have:=h.1;omega);refine⟨by rw[tI];omega,?_⟩;rw[a1.2,zFe,a2.2,nK,List.append_assoc];rfl
  ·exfalso;have:=of_decide_eq_false hp;simp only[]at h;omega
  ·rw[zX hd]at h;cases h end
def zTe(rows:List (List zB)):Prop:=rows.length<=17592186044416/\∀r∈rows,r.length<=17592186044416/\jJ r
theorem zKT(rows:List (List zB))(ho:zTe rows):zH (λq=>e6 q rows) λo=>o.2=true->(∀r∈rows,tI r<=400)/\o.1=rows.map nK:=by
 have key:∀(rs:List (List zB))(i:Nat)(acc:List (List yP))(n:Int),rows.drop i=rs->(acc.length:Int)+n<=400->0<n->zH (λq=>Y6 q rows acc n (i:Int)) λo=>o.2=true->(∀r∈rs,tI r<=400)/\o.1=acc++rs.map nK:=by intro rs;induction rs with|nil=>intro i acc n hd ha hn;refine zH.succ ?_;simp only[Y6];refine zH.ite (λh=>?_) λ_=>zH.ret λ_=>⟨λr hr=>(nomatch hr),by simp⟩;rw[zY hd]at h;cases h|cons x rs ih=>
  intro i acc n hd ha hn;have hlt:=yC hd;have hx:=ho.2 x (List.mem_of_mem_drop (by rw[hd];simp));have inner:∀(ps:List zB)(w:Nat)(m:Int)(bcc:List yP),x.drop w=ps->m<=n->-9000<=m->(bcc.length:Int)+m<=400->(-9000<m->((x.length-w:Nat):Int)=ps.length)->(-9000<m->(tI x:Int)+m<=n+tI ps/\bcc++nK ps=nK x)->zH (λq=>zDN q rows acc (i:Int) m bcc (w:Int)) λo=>o.2=true->(∀r∈x::rs,tI r<=400)/\o.1=acc++(x::rs).map nK:=by
   intro ps;have fin:∀(bcc:List yP)(m:Int),m<=n->-9000<=m->(0<m-1->tI x<=400/\bcc=nK x)->bcc.length<=1000000->zH (λq=>yX 24 acc [bcc]>>=λl12=>if decide (xC (m-1)<=0)=true then some (([]:List (List yP)),false)else Y6 q rows l12 (xC (m-1)) (xC ((i:Int)+1))) λo=>o.2=true->(∀r∈x::rs,tI r<=400)/\o.1=acc++(x::rs).map nK:=λbcc m h1 h2 h3 h4=>by
    refine zH.pure (yF (by simp;omega)) ?_;rw[yS (x:=m-1) (by omega) (by omega),zU i (by have:=ho.1;omega)];refine zH.ite (λ_=>zH.ret λh=>nomatch h) λh=>(ih (i+1) _ (m-1) (zR hd) (by simp;omega) (by have:=of_decide_eq_false h;omega)).mono λo q h'=>⟨λr hr=>?_,?_⟩
    ·rcases List.mem_cons.1 hr with rfl|hr;·exact(h3 (by have:=of_decide_eq_false h;omega)).1
     ·exact(q h').1 r hr
    ·rw[(q h').2,(h3 (by have:=of_decide_eq_false h;omega)).2,List.append_assoc];rfl
   induction ps with|nil=>
    intro w m bcc hdw h1 h2 h3 h4 h5;refine zH.succ ?_;simp only[zDN];refine zH.pure (zV hd) (zH.ite (λh=>?_) λ_=>fin bcc m h1 h2 (λhm=>?_) (by omega));·rw[zY hdw]at h;cases h
    ·have:=h5 (by omega);rw[tI,nK,List.append_nil]at this;exact⟨by omega,this.2⟩|cons p ps ihp=>
    intro w m bcc hdw h1 h2 h3 h4 h5;have hltw:=yC hdw;have hp:oJ p:=bV hx.2 p (List.mem_of_mem_drop (by rw[hdw];simp));refine zH.succ ?_;simp only[zDN,mN];refine zH.pure (zV hd) (zH.ite (λ_=>zH.ite (λhm=>zH.pure (zV hdw) ((zDO p m hp (by have:=of_decide_eq_true hm;omega) (by omega)).bind λy hy=>zH.pure (yF (by simp;have:=of_decide_eq_true hm;omega)) ?_)) λhm=>fin bcc m h1 h2 (λhm'=>by have:=of_decide_eq_false hm;omega) ?_) λh=>?_)
    ·have hm0:=of_decide_eq_true hm;rw[zU w (by have:=hx.1;omega)];refine ihp (w+1) y.2 _ (zR hdw) (by have:=hy.1;omega) hy.2.1 (by simp;have:=hy.1;omega) (λ_=>by have:=congrArg List.length hdw;rw[List.length_drop]at this;simp at this;omega) λh'=>?_;have a1:=h5 (by omega);have a2:=hy.2.2 h';rw[tI,nK]at a1;refine⟨by omega,?_⟩;rw[zFe,a2.2,List.append_assoc];exact a1.2
    ·have:=of_decide_eq_false hm;omega
    ·rw[zX hdw]at h;cases h
  refine zH.succ ?_;simp only[Y6];refine zH.ite (λ_=>inner x 0 n [] rfl (Int.le_refl _) (by omega) (by simp;omega) (λ_=>by simp) λ_=>⟨by omega,by simp⟩) λh=>?_;rw[zX hd]at h;cases h
 simp only[e6];exact key rows 0 [] 400 rfl (by simp) (by omega)
theorem zIH{n:Int}(h0:0<=n)(h1:n<=1048576):zG (.mk 8 n [])=true:=by simp[zG,xQ,vS,rP,Tm.nodes,Tm.high,yW,uH,Tm.k,Tm.n,Tm.sub,h0,h1]
def meD:Me (zP×yQ×Int×Int):=⟨λr=>r.2.1.e_,λr=>r.2.2.1,λr L=>(r.1,r.2.1,L,r.2.2.2)⟩
theorem zWP(k:Nat)(l:List zP):(rcT k l).length=k:=by
 have:∀(l:List zP)(o:List Bool),(l.foldl (N8 k) o).length=o.length:=by intro l;induction l with|nil=>exactλ_=>rfl|cons x l ih=>intro o;rw[List.foldl_cons,ih];unfold N8;split<;>simp
 rw[rcT,this,List.length_replicate]
def TOk(t:zP):Prop:=D7 t=true/\(wH t).length<=1000000
theorem zKU:TOk tr0:=⟨rfl,by simp[wH,vU]⟩
section
variable{N:ByteArray->Bool}{l:List yI}(hE:vA N l)(he:∀e∈l,jM e)(hl:l.length<=65535)(hcl:∀e∈l,ECl e)
include hE
theorem zII(hfm:zF (λq=>s5 q l) true)(types:List Tm)(rows:List (List zB))(ho:zTe rows)(hn:∀r∈rows,tI r<=400):∀(rs:List (List zB))(v:Nat),rows.drop v=rs->zH (λq=>U7 q (xI l) types rows l (v:Int)) λb=>b=true->∀r∈rs,r.length=types.length/\∀p∈r,GP l p:=by intro rs;induction rs with|nil=>intro v hd;refine zH.succ ?_;simp only[U7];refine zH.ite (λh=>?_) λ_=>zH.ret λ_ r hr=>nomatch hr;rw[zY hd]at h;cases h|cons x rs ih=>
 intro v hd;have hlt:=yC hd;have hxm:x∈rows:=List.mem_of_mem_drop (by rw[hd];simp);have hx:=ho.2 x hxm;have inner:∀(ps:List zB)(w:Nat),x.drop w=ps->zH (λq=>U9 q (xI l) types rows l (v:Int) x (w:Int)) λb=>b=true->(∀p∈ps,GP l p)/\∀r∈rs,r.length=types.length/\∀p∈r,GP l p:=by intro ps;induction ps with
  |nil=>
   intro w hdw;refine zH.succ ?_;simp only[U9];refine zH.ite (λh=>?_) λ_=>?_;·rw[zY hdw]at h;cases h
   ·rw[zU v (by have:=ho.1;omega)];exact(ih (v+1) (zR hd)).mono λb h h'=>⟨λp hp=>(nomatch hp),h h'⟩|cons p ps ihp=>
   intro w hdw;have hltw:=yC hdw;have hp:oJ p:=bV hx.2 p (List.mem_of_mem_drop (by rw[hdw];simp));have hpr:zH (λq=>e71 q l p) λb=>b=true->GP l p:=by simp only[e71,mN];refine zH.bind (P:=λb=>b=true) (hfm.tot rfl) λ_ _=>zH.ite (λ_=>(zBJ p hp).bind λ_ _=>zH.ite (λ_=>(zIe hE p hp).bind λb hb=>zH.ret hb) λ_=>zH.ret λh=>nomatch h) λ_=>zH.ret λh=>nomatch h
   refine zH.succ ?_;simp only[U9,mN];refine zH.ite (λ_=>zH.pure (zV hdw) (hpr.bind λb hb=>zH.ite (λh=>?_) λ_=>zH.ret λh=>nomatch h)) λh=>?_
   ·rw[zU w (by have:=hx.1;omega)];refine(ihp (w+1) (zR hdw)).mono λb' q h'=>⟨λz hz=>?_,(q h').2⟩;rcases List.mem_cons.1 hz with rfl|hz;·exact hb h
    ·exact(q h').1 z hz
   ·rw[zX hdw]at h;cases h
 refine zH.succ ?_;simp only[U7];refine zH.ite (λ_=>zH.pure (zV hd) (zH.ite (λ_=>zH.ret λh=>nomatch h) λhne=>(zIg x hx.2 (by have:=hn x hxm;omega)).bind λb _=>zH.ite (λ_=>(inner x 0 rfl).mono λb q h r hr=>?_) λ_=>zH.ret λh=>nomatch h)) λh=>?_
 ·rcases List.mem_cons.1 hr with rfl|hr
  ·have hq:(r.length:Int)=types.length:=by simpa using hne
   exact⟨by omega,(q h).1⟩
  ·exact(q h).2 r hr
 ·rw[zX hd]at h;cases h
include he hl hcl
theorem zKV(hfm:zF (λq=>s5 q l) true)(types:List Tm)(hty:uT types)(htl:types.length<=1000000)(rows:List (List zB))(ho:zTe rows)(hn:∀r∈rows,tI r<=400):zH (λq=>e48 q (xI l) types rows) λb=>b=true->(∀r∈rows,r.length=types.length/\∀p∈r,GP l p)/\∀t∈types,∀z,¬z∈wL t:=by
 have hEnt:zF (λq=>e67 q (xI l)) l:=by simp only[e67];exact((eO l hl he hcl).eq (iB hE)).bind zF.ret
 have key:∀(r:List Tm)(v:Nat),types.drop v=r->zH (λq=>V0 q (xI l) types rows l (v:Int)) λb=>b=true->(∀r∈rows,r.length=types.length/\∀p∈r,GP l p)/\∀t∈r,∀z,¬z∈wL t:=by intro r;induction r with|nil=>intro v hd;refine zH.succ ?_;simp only[V0];refine zH.ite (λh=>?_) λ_=>(zII hE hfm types rows ho hn rows 0 rfl).mono λb q h=>⟨q h,λt ht=>nomatch ht⟩;rw[zY hd]at h;cases h|cons x r ih=>
  intro v hd;have hlt:=yC hd;have hx:=hty x (List.mem_of_mem_drop (by rw[hd];simp));refine zH.succ ?_;simp only[V0];refine zH.ite (λ_=>zH.pure (zV hd) (zH.bind (P:=λb=>b=qA x v l.length) ((kB x _ _ hx).tot rfl) λb hb=>zH.ite (λhbt=>zH.bind (P:=λr=>r=mS x 8 8) ((kA x hx).tot rfl) λr9 h9=>zH.ite (λ_=>zH.ret λh=>nomatch h) λhlen=>?_) λ_=>zH.ret λh=>nomatch h)) λh=>?_
  ·rw[zU v (by omega)];refine(ih (v+1) (zR hd)).mono λb' q h'=>⟨(q h').1,λt ht=>?_⟩;rcases List.mem_cons.1 ht with rfl|ht
   ·rw[hb]at hbt;unfold qA at hbt;simp only[Bool.and_eq_true]at hbt;intro z hz;have e:mS t 8 8=vI (sF t 8 8):=by unfold mS;rw[if_pos hbt.1.1]
    have h0:r9.length=0:=by have:=of_decide_eq_false hlen;omega
    have hz2:z∈r9:=by rw[h9,e];exact(qX _ _).2 hz
    rw[List.eq_nil_of_length_eq_zero h0]at hz2;cases hz2
   ·exact(q h').2 t ht
  ·rw[zX hd]at h;cases h
 simp only[e48];exact zH.bind (P:=λr=>r=l) (hEnt.tot rfl) λr e=>by subst e;exact key types 0 rfl
theorem zPm(hfm:zF (λq=>s5 q l) true)(types:List Tm)(hty:uT types)(htl:types.length<=65535)(rows:List (List zB))(ho:zTe rows)(hn:∀r∈rows,tI r<=400){L d:Int}(h0:0<=L)(hL:L<=1000)(hd0:0<=d)(hdd:d<=100000):yH d meD (λL q=>e32 q (xI l) types rows L 0) L λr=>TOk r.1/\(r.2.1.e_=0->dQ l types.length rows/\Lvs l types.length rows (wH r.1)):=by
 have err:∀(f:yQ)(L U:Int),f.e_≠0->yH d meD (λL(_:Nat)=>some (tr0,f,L,U)) L λr=>TOk r.1/\(r.2.1.e_=0->dQ l types.length rows/\Lvs l types.length rows (wH r.1)):=λf L U h=>yH.ret ⟨zKU,λh0=>absurd h0 h⟩;simp only[e32];refine yH.tot (zKV hE he hl hcl hfm types hty (by omega) rows ho hn) λb hb=>yH.ite (λhbt=>?_) λ_=>err _ _ _ (by decide);obtain⟨hrows,hts⟩:=hb hbt;refine yH.ite (λ_=>err _ _ _ (by decide)) λh24=>yH.ite (λ_=>err _ _ _ (by decide)) λh32=>yH.tot (zDI types htl hty 0 (Int.le_refl _)) λr6 h6=>yH.ite (λ_=>err _ _ _ (by decide)) λh6e=>?_;have h32':=of_decide_eq_false h32;refine yH.tot (nT (by omega) λv hv=>(h6.1 v hv).2) λb2 hb2=>yH.ite (λhb2t=>?_) λ_=>err _ _ _ (by decide);have hc:=hb2 hb2t;have hcl2:=hc.len;have hlen:=h6.2.2.1 (by simpa using h6e);have hcls:ClC r6.1:=λw hw z hz=>(h6.2.2.2 w hw z hz).elim (λ⟨u,hu,h⟩=>absurd h (hts u hu z)) id;have hpl:zFg types.length ⟨r6.1,iM r6.1⟩:=⟨hc,λt ht=>by obtain⟨v,hv,rfl⟩:=List.mem_map.1 ht;exact zIH (hc.each v hv).1 (hc.each v hv).2.1,(by show(iM r6.1).length=_;unfold iM;rw[List.length_map,hlen]),hcls,λt ht z hz=>by obtain⟨v,hv,e⟩:=N0 ht hz;exact List.mem_map.2 ⟨v,hv,e⟩⟩;have hro:dQ l types.length rows:=⟨by omega,λr hr=>⟨(hrows r hr).1,by have:=hn r hr;omega,λp hp=>⟨(hrows r hr).2 p hp,bV (ho.2 r hr).2 p hp⟩⟩⟩;refine yH.evt (M9 r6.1 (by omega)) (yH.bind (zTf hE he hl hcl hfm hro (T:=L) (by omega) hd0 hdd htl (L.toNat+1) ⟨r6.1,iM r6.1⟩ L 0 hpl ⟨h0,Int.le_refl _,by omega⟩ (by omega)) λr14 h14=>?_)
 ·dsimp only[me6];refine yH.ite (λhz=>?_) λhz=>?_
  ·refine yH.ret ⟨zKU,λh0=>?_⟩;have e0:r14.2.1=0:=h0;obtain⟨g1,g2,-⟩:=h14.1 e0;rw[e0,g1,g2]at hz;cases hz
  have hz':(r14.2.1==0)=true:=by cases h:(r14.2.1==0)with|true=>rfl|false=>rw[h]at hz;cases hz
  have e0:r14.2.1=0:=by simpa using hz'
  obtain⟨g1,g2,g3,g4,g5,g6⟩:=h14.1 e0;have hne:=h14.2 e0;have hpos:0<rows.length:=List.length_pos_iff.2 hne;have hok:TOk r14.1:=⟨g3,by have:=g4.1;omega⟩;refine yH.evt (a:=rcT rows.length (wH r14.1)) (zF.mk λq=>by unfold e53;rw[if_pos ⟨g3,by omega,by omega⟩];simp) ?_;have hrl:=zWP rows.length (wH r14.1);generalize rcT rows.length (wH r14.1)=R at hrl;have key:∀(r:List Bool)(v:Nat)(L1:Int),R.drop v=r->yH d meD (λL q=>V1 q (xI l) rows (r14.1,r14.2.1,r14.2.2.1,r14.2.2.2.1,L,r14.2.2.2.2.2) R (v:Int)) L1 λr=>TOk r.1/\(r.2.1.e_=0->dQ l types.length rows/\Lvs l types.length rows (wH r.1)):=by intro r;induction r with|nil=>intro v L1 hd;refine yH.succ ?_;simp only[V1];refine yH.ite (λh=>?_) λ_=>yH.ret ⟨hok,λ_=>⟨hro,g6⟩⟩;rw[zY hd]at h;cases h|cons x r ih=>
   intro v L1 hd;have hlt:=yC hd;obtain⟨x1,hx1⟩:∃x1,rows[v]?=some x1:=⟨_,List.getElem?_eq_getElem (by omega)⟩;have hfirst:zH (λq=>e54 q x1) λ_=>True:=by simp only[e54];refine zH.ite (λ_=>zH.ret trivial) λh=>?_;cases x1 with|nil=>cases h|cons p ps=>exact zH.pure (a:=p) (wX (i:=0) rfl) (zH.ret trivial)
   refine yH.succ ?_;simp only[V1];refine yH.ite (λ_=>yH.pure (zV hd) (yH.ite (λ_=>?_) λ_=>yH.pure (wX hx1) (yH.tot hfirst λ_ _=>yH.ret ⟨zKU,λh0=>absurd h0 (by show¬(11:Int)=0;decide)⟩))) λh=>?_;·rw[zU v (by omega)];exact ih (v+1) L1 (zR hd)
   ·rw[zX hd]at h;cases h
  exact key R 0 _ rfl
end
def bs(s:ByteArray):List Int:=s.data.toList.map λb=>(b.toNat:Int)
def fB:Nat->yD->Int->yD->Bool->Int->Option yD
 |0,_,_,_,_,_=>none|d+1,a,b,e,f,c=>if f then if decide (c<(a.length:Int))then zS a c>>=λx2=>yX 8 e [x2]>>=λl4=>fB d a b l4 true (xC (c+1))else some e else if decide (c<(a.length:Int))then zS a c>>=λx7=>if decide (x7>=b)then if decide (x7>b)then yX 8 e [b]>>=λl11=>yX 8 l11 [x7]>>=λl13=>fB d a b l13 true (xC (c+1))else yX 8 e [x7]>>=λl15=>fB d a b l15 true (xC (c+1))else yX 8 e [x7]>>=λl17=>fB d a b l17 false (xC (c+1))else yX 8 e [b]>>=λl19=>some l19
def e40(d:Nat)(a:yD)(b:Int):Option yD:=fB d a b [] false 0
theorem yAr:∀d:Nat,∀a b e f c,Lz (fB d a b e f c) 0 Tryz.f40 (pt 16309 Tryz.f40) (λj=>sp j 49 0 [(0,zN zZ a .no),(1,ai b),(5,zN zZ e (.st 0 1)),(6,ab f),(7,ai c)]) ⟨[],0,[0],1,[]⟩ (λr=>.sl (zC zZ r) r.length .no) (λ_=>[]) 0 [.blk 0,.seq (pt 255 Tryz.f40)]:=xX (λ_ _ _ _ _=>lN) λd ih=>λa b e f c=>lw λ_=>rI (λhb=>by subst hb;exact rB 1 (rA 1 (oV (o:=.no)) λ_=>rW (λh5=>oP 2 (qO h5 (by simp))) λ_=>lH 1 [] [] [1] [0,1,5,6,7] (ih _ _ _ _ _))<|lE 1) λhb=>by subst hb;exact rB 1 (rH λ_ h8=>rS (oA 1 (oV (o:=.no) h8))<|rB 1 (rS (oA 0 (oV (o:=.no) h8))<|rB 1 (rW (λh12=>oP 1 (qO h12 (by simp))) λ_=>rS (oA 0 (oV (o:=.no) h8))<|rW (λh14=>oP 2 (qO h14 (by simp))) λ_=>lH 1 [] [] [2] [0,1,5,6,7] (ih _ _ _ _ _))<|rS (oA 0 (oV (o:=.no) h8))<|rW (λh16=>oP 2 (qO h16 (by simp))) λ_=>lH 1 [] [] [1] [0,1,5,6,7] (ih _ _ _ _ _))<|rS (oA 0 (oV (o:=.no) h8))<|rW (λh18=>oP 2 (qO h18 (by simp))) λ_=>lH 1 [] [] [1] [0,1,5,6,7] (ih _ _ _ _ _))<|rW (λh20=>oP 2 (qO h20 (by simp))) λ_=>lE 0
theorem c40{d a b}:Cz (e40 d a b) 40 [] [zN zZ a .no,ai b] (λr=>.sl (zC zZ r) r.length .no) (λ_=>[]) 0:=fw func40<|fH 1 [(none,5,1)] [] [0] [0,1,5,6,7] (yAr _ _ _ _ _ _)
mutual def e15:Nat->Tm->Int->Int->Option yD|0,_,_,_=>none|f+1,a,b,c=>if a.k==b then yX 8 ([]:yD) [a.n]>>=λl2=>mO f a b c l2 0 else if a.k==c then yX 8 ([]:yD) [a.n]>>=λl5=>mO f a b c l5 0 else mO f a b c [] 0 def mO:Nat->Tm->Int->Int->yD->Int->Option yD
 |0,_,_,_,_,_=>none|f+1,a,b,c,g,e=>if decide (e<(a.sub.length:Int))then zS a.sub e>>=λx5=>e15 f x5 b c>>=λr7=>dS f a b c e r7 0 g else some g def dS:Nat->Tm->Int->Int->Int->yD->Int->yD->Option yD
 |0,_,_,_,_,_,_,_=>none|f+1,a,b,c,e,r7,d,g=>if decide (d<(r7.length:Int))then zS r7 d>>=λx10=>e40 f g x10>>=λr12=>dS f a b c e r7 (xC (d+1)) r12 else mO f a b c g (xC (e+1))end
theorem w5:∀f:Nat,(∀a b c,Cz (e15 f a b c) 15 [] [yZ a,ai b,ai c] (λr=>.sl (zC zZ r) r.length .no) (λ_=>[]) 0)/\(∀a b c g e,Lz (mO f a b c g e) 0 Tryz.f15 (pt 16309 Tryz.f15) (λj=>sp j 55 0 [(1,ai b),(2,ai c),(3,.mp 0 0),(7,zN zZ g (.st 0 1)),(8,ai e)]) ⟨[(0,.cells [ai a.k,ai a.n,zN zA a.sub .no])],1,[0],1,[]⟩ (λr=>.sl (zC zZ r) r.length .no) (λ_=>[]) 0 [.blk 0,.seq (pt 255 Tryz.f15)]/\Lz (mO f a b c g e) 0 Tryz.f15 (pt 16309 Tryz.f15) (λj=>sp j 55 0 [(1,ai b),(2,ai c),(3,.mp 0 0),(7,zN zZ g .no),(8,ai e)]) ⟨[(0,.cells [ai a.k,ai a.n,zN zA a.sub .no])],1,[],0,[]⟩ (λr=>.sl (zC zZ r) r.length .no) (λ_=>[]) 0 [.blk 0,.seq (pt 255 Tryz.f15)]/\Lz (mO f a b c g e) 0 Tryz.f15 (pt 16309 Tryz.f15) (λj=>sp j 55 0 [(1,ai b),(2,ai c),(3,.mp 0 0),(7,zN zZ g .full),(8,ai e)]) ⟨[(0,.cells [ai a.k,ai a.n,zN zA a.sub .no])],1,[],0,[]⟩ (λr=>.sl (zC zZ r) r.length .no) (λ_=>[]) 0 [.blk 0,.seq (pt 255 Tryz.f15)])/\(∀a b c e r7 d g,Lz (dS f a b c e r7 d g) 0 Tryz.f15 (pt 267221493 Tryz.f15) (λj=>sp j 55 0 [(1,ai b),(2,ai c),(3,.mp 0 0),(7,zN zZ g (.st 0 1)),(8,ai e),(9,zN zZ r7 .no),(10,ai d)]) ⟨[(0,.cells [ai a.k,ai a.n,zN zA a.sub .no])],1,[0],1,[]⟩ (λr=>.sl (zC zZ r) r.length .no) (λ_=>[]) 0 [.blk 2,.blk 1,.seq (pt 260959 Tryz.f15),.loop (pt 16309 Tryz.f15),.blk 0,.seq (pt 255 Tryz.f15)]/\Lz (dS f a b c e r7 d g) 0 Tryz.f15 (pt 267221493 Tryz.f15) (λj=>sp j 55 0 [(1,ai b),(2,ai c),(3,.mp 0 0),(7,zN zZ g .no),(8,ai e),(9,zN zZ r7 .no),(10,ai d)]) ⟨[(0,.cells [ai a.k,ai a.n,zN zA a.sub .no])],1,[],0,[]⟩ (λr=>.sl (zC zZ r) r.length .no) (λ_=>[]) 0 [.blk 2,.blk 1,.seq (pt 260959 Tryz.f15),.loop (pt 16309 Tryz.f15),.blk 0,.seq (pt 255 Tryz.f15)]/\Lz (dS f a b c e r7 d g) 0 Tryz.f15 (pt 267221493 Tryz.f15) (λj=>sp j 55 0 [(1,ai b),(2,ai c),(3,.mp 0 0),(7,zN zZ g .full),(8,ai e),(9,zN zZ r7 .no),(10,ai d)]) ⟨[(0,.cells [ai a.k,ai a.n,zN zA a.sub .no])],1,[],0,[]⟩ (λr=>.sl (zC zZ r) r.length .no) (λ_=>[]) 0 [.blk 2,.blk 1,.seq (pt 260959 Tryz.f15),.loop (pt 16309 Tryz.f15),.blk 0,.seq (pt 255 Tryz.f15)]):=xX ⟨λ_ _ _=>cN,λ_ _ _ _ _=>⟨lN,lN,lN⟩,λ_ _ _ _ _ _ _=>⟨lN,lN,lN⟩⟩ λf ih=>⟨λa b c=>fw func15<|rB 2 (rW (λh3=>oP 2 (qO h3 (by simp))) λ_=>fH 0 [] [0] [0] [1,2,3,7,8] ((ih.2.1 _ _ _ _ _).1))<|rB 1 (rW (λh6=>oP 2 (qO h6 (by simp))) λ_=>fH 0 [] [0] [0] [1,2,3,7,8] ((ih.2.1 _ _ _ _ _).1))<|fH 0 [] [0] [] [1,2,3,7,8] ((ih.2.1 _ _ _ _ _).2.2),λa b c g e=>⟨lw λ_=>rB 2 (rA 1 (xP (o:=.no)) λ_=>rC 1 [] (ih.1 _ _ _) λ_=>lH 0 [] [0] [0] [1,2,3,7,8,9,10] ((ih.2.2 _ _ _ _ _ _ _).1))<|lE 0,lw λ_=>rB 2 (rA 1 (xP (o:=.no)) λ_=>rC 1 [] (ih.1 _ _ _) λ_=>lH 0 [] [0] [] [1,2,3,7,8,9,10] ((ih.2.2 _ _ _ _ _ _ _).2.1))<|lE 0,lw λ_=>rB 2 (rA 1 (xP (o:=.no)) λ_=>rC 1 [] (ih.1 _ _ _) λ_=>lH 0 [] [0] [] [1,2,3,7,8,9,10] ((ih.2.2 _ _ _ _ _ _ _).2.2))<|lE 0⟩,λa b c e r7 d g=>⟨lw λ_=>rB 1 (rA 0 (oV (o:=.no)) λ_=>rC 1 [] c40 λ_=>lH 1 [] [0] [] [1,2,3,7,8,9,10] ((ih.2.2 _ _ _ _ _ _ _).2.1))<|lH 1 [] [0] [0] [1,2,3,7,8] ((ih.2.1 _ _ _ _ _).1),lw λ_=>rB 1 (rA 0 (oV (o:=.no)) λ_=>rC 1 [] c40 λ_=>lH 1 [] [0] [] [1,2,3,7,8,9,10] ((ih.2.2 _ _ _ _ _ _ _).2.1))<|lH 1 [] [0] [] [1,2,3,7,8] ((ih.2.1 _ _ _ _ _).2.1),lw λ_=>rB 1 (rA 0 (oV (o:=.no)) λ_=>rC 1 [] c40 λ_=>lH 1 [] [0] [] [1,2,3,7,8,9,10] ((ih.2.2 _ _ _ _ _ _ _).2.1))<|lH 1 [] [0] [] [1,2,3,7,8] ((ih.2.1 _ _ _ _ _).2.2)⟩⟩
theorem c15{f a b c}:Cz (e15 f a b c) 15 [] [yZ a,ai b,ai c] (λr=>.sl (zC zZ r) r.length .no) (λ_=>[]) 0:=(w5 _).1 _ _ _
theorem N9:∀(r l:List Int)(n:Int)(v:Nat)(acc:List Int)(done:Bool),l.drop v=r->l.length<=8192->acc.length<=v+1->(done=false->acc.length<=v)->v<=l.length->zH (λq=>fB q l n acc done (v:Int)) λo=>o.length<=acc.length+r.length+1/\(done=true->o.length<=acc.length+r.length)/\∀x,x∈o↔x∈acc\/x∈r\/(done=false/\x=n)
 |[],l,n,v,acc,done,hd,hl,ha,hb,hv=>by refine zH.succ ?_;simp only[fB];cases done with|true=>refine zH.ite (λ_=>zH.ite (λh=>?_) λ_=>zH.ret ⟨(by simp<;>omega),λ_=>(by simp),λx=>by simp⟩) (λh=>by cases h);rw[zY hd]at h;cases h|false=>refine zH.ite (λh=>by cases h) (λ_=>zH.ite (λh=>?_) λ_=>zH.pure (yF (by simp<;>omega)) (zH.ret ⟨(by simp),λh=>(by cases h),λx=>by simp⟩));rw[zY hd]at h;cases h
 |y::r,l,n,v,acc,done,hd,hl,ha,hb,hv=>by have hlt:=yC hd;refine zH.succ ?_;simp only[fB];cases done with
  |true=>
   refine zH.ite (λ_=>zH.ite (λ_=>zH.pure (zV hd) (zH.pure (yF (by simp<;>omega)) ?_)) λh=>?_) (λh=>by cases h)
   ·rw[zU v (by omega)];refine(N9 r l n (v+1) (acc++[y]) true (zR hd) hl (by simp<;>omega) (λh=>by cases h) (by omega)).mono λo ho=>?_;refine⟨by have:=ho.2.1 rfl;simp at this⊢<;>omega,λ_=>by have:=ho.2.1 rfl;simp at this⊢<;>omega,λx=>?_⟩;rw[ho.2.2 x];simp[or_assoc]
   ·rw[zX hd]at h;cases h|false=>
   have hb':=hb rfl;refine zH.ite (λh=>by cases h) (λ_=>zH.ite (λ_=>zH.pure (zV hd) (zH.ite (λh1=>zH.ite (λh2=>zH.pure (yF (by simp<;>omega)) (zH.pure (yF (by simp<;>omega)) ?_)) λh2=>zH.pure (yF (by simp<;>omega)) ?_) λh1=>zH.pure (yF (by simp<;>omega)) ?_)) λh=>?_)
   ·rw[zU v (by omega)];refine(N9 r l n (v+1) (acc++[n]++[y]) true (zR hd) hl (by simp<;>omega) (λh=>by cases h) (by omega)).mono λo ho=>?_;refine⟨by have:=ho.2.1 rfl;simp at this⊢<;>omega,λh=>(by cases h),λx=>?_⟩;rw[ho.2.2 x];simp;grind
   ·rw[zU v (by omega)];refine(N9 r l n (v+1) (acc++[y]) true (zR hd) hl (by simp<;>omega) (λh=>by cases h) (by omega)).mono λo ho=>?_;have e:y=n:=by simp at h1 h2;omega
    subst e;refine⟨by have:=ho.2.1 rfl;simp at this⊢<;>omega,λh=>(by cases h),λx=>?_⟩;rw[ho.2.2 x];simp;grind
   ·rw[zU v (by omega)];refine(N9 r l n (v+1) (acc++[y]) false (zR hd) hl (by simp<;>omega) (λ_=>by simp<;>omega) (by omega)).mono λo ho=>?_;refine⟨by have:=ho.1;simp at this⊢;omega,λh=>(by cases h),λx=>?_⟩;rw[ho.2.2 x];simp;grind
   ·rw[zX hd]at h;cases h
theorem zTd(l:List Int)(n:Int)(hl:l.length<=8192):zH (λq=>e40 q l n) λo=>o.length<=l.length+1/\∀x,x∈o↔x∈l\/x=n:=by simp only[e40];refine(N9 l l n 0 [] false rfl hl (by simp) (λ_=>by simp) (by omega)).mono λo ho=>⟨by have:=ho.1;simpa using this,λx=>by rw[ho.2.2 x];simp⟩
theorem zDP{p:Tm}{a b:Int}{v:Nat}{r7:List Int}{Q:List Int->Prop}{N:Nat}{S:Int->Prop}(hN:N<=8192)(hr:r7.length<=8192)(hv:v<9223372036854775807)(K:∀acc:List Int,acc.length<=N->(∀x,x∈acc↔S x)->zH (λq=>mO q p a b acc ((v+1:Nat):Int)) Q):∀(m:List Int)(w:Nat)(acc:List Int),r7.drop w=m->acc.length+m.length<=N->(∀x,(x∈acc\/x∈m)↔S x)->zH (λq=>dS q p a b (v:Int) r7 (w:Int) acc) Q
 |[],w,acc,hd,hl,hm=>by
  refine zH.succ ?_;simp only[dS];refine zH.ite (λh=>?_) λ_=>?_;·rw[zY hd]at h;cases h
  ·rw[zU v (by omega)];exact K acc (by simpa using hl) λx=>by simpa using hm x|y::m,w,acc,hd,hl,hm=>by
  have hlt:=yC hd;refine zH.succ ?_;simp only[dS];refine zH.ite (λ_=>zH.pure (zV hd) ((zTd acc y (by simp at hl;omega)).bind λo ho=>?_)) λh=>?_
  ·rw[zU w (by omega)];refine zDP hN hr hv K m (w+1) o (zR hd) (by simp at hl;have:=ho.1;omega) λx=>?_;rw[<-hm x,ho.2 x];simp[or_assoc]
  ·rw[zX hd]at h;cases h
def yAp(r m:List Int):Prop:=∀x,x∈r↔x∈m
mutual theorem Y7:∀(t:Tm)(a b:Int),t.Ok->t.nodes<=8192->zH (λq=>e15 q t a b) λo=>o.length<=t.nodes/\yAp o (sF t a b)
 |.mk k n l,a,b,ho,hn=>by
  refine zH.succ ?_;simp only[e15,Tm.k,Tm.n];rw[Tm.nodes]at hn;have key:∀acc:List Int,acc.length<=1->acc=(if k=a\/k=b then[n]else[])->zH (λq=>mO q (.mk k n l) a b acc 0) λo=>o.length<=(Tm.mk k n l).nodes/\yAp o (sF (.mk k n l) a b):=by intro acc h1 h2;refine(O0 l (.mk k n l) 0 a b acc rfl ho.1 ho.2 (by omega)).mono λo ho=>⟨by rw[Tm.nodes];have:=ho.1;omega,λx=>?_⟩;rw[ho.2 x,sF,h2];simp
  refine zH.ite (λh=>zH.pure (yF (by simp)) ?_) λh=>zH.ite (λh'=>zH.pure (yF (by simp)) ?_) λh'=>?_;·exact key _ (by simp) (by rw[if_pos (.inl (by simpa using h))];rfl)
  ·exact key _ (by simp) (by rw[if_pos (.inr (by simpa using h'))];rfl)
  ·exact key _ (by simp) (by rw[if_neg (by simp at h h';simp[h,h'])])theorem O0:∀(l:List Tm)(p:Tm)(v:Nat)(a b:Int)(acc:List Int),p.sub.drop v=l->p.sub.length<9223372036854775808->mW l->acc.length+yW l<=8192->zH (λq=>mO q p a b acc (v:Int)) λo=>o.length<=acc.length+yW l/\∀x,x∈o↔x∈acc\/x∈gD l a b
 |[],p,v,a,b,acc,hd,hl,ho,hn=>by refine zH.succ ?_;simp only[mO];refine zH.ite (λh=>?_) λ_=>zH.ret ⟨by omega,λx=>by rw[gD];simp⟩;rw[zY hd]at h;cases h|t::l,p,v,a,b,acc,hd,hl,ho,hn=>by
  have hlt:=yC hd;rw[yW]at hn;have IH:=λacc' h=>O0 l p (v+1) a b acc' (zR hd) hl ho.2 h;refine zH.succ ?_;simp only[mO];refine zH.ite (λ_=>zH.pure (zV hd) ((Y7 t a b ho.1 (by omega)).bind λr7 hr=>?_)) λh=>?_
  ·refine zDP (N:=acc.length+t.nodes) (S:=λx=>x∈acc\/x∈sF t a b) (by omega) (by have:=hr.1;omega) (by omega) (λacc' h1 h2=>?_) r7 0 acc rfl (by have:=hr.1;omega) λx=>by rw[hr.2 x]
   refine(IH acc' (by omega)).mono λo ho=>⟨by rw[yW];have:=ho.1;omega,λx=>?_⟩;rw[ho.2 x,h2 x,gD];simp[or_assoc]
  ·rw[zX hd]at h;cases h end
def e61:Nat->Tm->Option yU|0,_=>none|b+1,a=>if a.k !=5 then some []else zS a.sub 0>>=λx2=>e61 b x2>>=λr4=>zS a.sub 1>>=λx6=>yX 40 r4 [x6]>>=λl8=>some l8
theorem a61:∀b:Nat,∀a,Cz (e61 b a) 61 [] [yZ a] (λr=>zN zA r (.st 0 3)) (λ_=>[]) 1:=xX (λ_=>cN) λb ih=>λa=>fw func61<|rB 1 (fG 1 [(none,2,3)] [] [0] true)<|rA 1 (xP (o:=.no)) λ_=>rC 1 [] (ih _) λ_=>rS (jL 0)<|rA 0 (xP (o:=.no)) λx6=>rS (oS 1 (xJ xY [x6]))<|rW (λh9=>oP 0 (vQ h9 (by simp))) λ_=>fG 0 [] [] [1] true
theorem c61{b a}:Cz (e61 b a) 61 [] [yZ a] (λr=>zN zA r (.st 0 3)) (λ_=>[]) 1:=a61 _ _
def zBR:Nat->Int->Int->yU->Option (Tm)|0,_,_,_=>none|d+1,a,c,b=>if a==5 then zS b 0>>=λx2=>zBR d x2.k x2.n x2.sub else some (Tm.mk a c b)
def e86(d:Nat)(e:Tm):Option (Tm):=zBR d e.k e.n e.sub
theorem yAo:∀d:Nat,∀a c b,Lz (zBR d a c b) 0 f86 (pt 229 f86) (λj=>sp j 11 0 [(1,.mp 0 0),(2,.mp 1 0)]) ⟨[(0,.cells [ai a,ai c,zN zA b .no]),(1,.cells [ai 0,ai 0,zN zA ([]:yU) .nl])],2,[],0,[]⟩ (λr=>yZ r) (λ_=>[]) 0 [.blk 0,.seq (pt 15 f86)]:=xX (λ_ _ _=>lN) λd ih=>λa c b=>lw λ_=>rB 1 (rA 1 (xP (o:=.no)) λ_=>lH 2 [] [0,1] [] [1,2] (ih _ _ _))<|lE 2
theorem c86{d e}:Cz (e86 d e) 86 [] [yZ e] (λr=>yZ r) (λ_=>[]) 0:=fw func86<|fH 0 [] [0,1] [] [1,2] (yAo _ _ _ _)
def e87(d:Nat)(b:xH)(a c:Int):Option (Bool):=if decide (a>=0)then if decide (a<(b.length:Int))then zS b a>>=λx3=>some (x3.kind==c)else some false else some false
theorem c87{d b a c}:Cz (e87 d b a c) 87 [] [zN xA b .no,ai a,ai c] (λr=>ab r) (λ_=>[]) 0:=fw func87<|rB 0 (rB 1 (rA 0 (wM (o:=.no)) λ_=>fE 2)<|fE 0)<|fE 0
def V2:Nat->yU->Int->Int->yU->Option yU|0,_,_,_,_=>none|d+1,e,b,c,a=>if b==3 then zS a 0>>=λx2=>yX 40 e [x2]>>=λl4=>zS a 1>>=λx6=>V2 d l4 x6.k x6.n x6.sub else some e
def e88(d:Nat)(f:Tm):Option yU:=V2 d [] f.k f.n f.sub
theorem yAn:∀d:Nat,∀e b c a,Lz (V2 d e b c a) 0 f88 (pt 997 f88) (λj=>sp j 20 0 [(1,.mp 0 0),(3,zN zA e (.st 0 3))]) ⟨[(0,.cells [ai b,ai c,zN zA a .no])],1,[0],1,[]⟩ (λr=>.sl (zC zA r) r.length .no) (λ_=>[]) 0 [.blk 0,.seq (pt 63 f88)]:=xX (λ_ _ _ _=>lN) λd ih=>λe b c a=>lw λ_=>rB 1 (rA 1 (xP (o:=.no)) λx2=>rS (oS 1 (xJ xY [x2]))<|rW (λh5=>oP 0 (vQ h5 (by simp))) λ_=>rA 1 (xP (o:=.no)) λ_=>lH 2 [] [0] [1] [1,3] (ih _ _ _ _))<|lE 0
theorem c88{d f}:Cz (e88 d f) 88 [] [yZ f] (λr=>.sl (zC zA r) r.length .no) (λ_=>[]) 0:=fw func88<|fH 1 [(none,3,3)] [0] [0] [1,3] (yAn _ _ _ _ _)
theorem zTc{t:Tm}(hg:xQ t=true):∃l y,mM (uJ t) t=some (l,y)/\l.length=uJ t/\y.k≠3/\xQ y=true/\y.nodes<=t.nodes/\y.high<=t.high/\∀x∈l,xQ x=true/\x.nodes<=t.nodes/\x.high<=t.high:=by obtain⟨r,hr⟩:=zRr t hg _ (Nat.le_refl _);obtain⟨h1,h2,h3,h4⟩:=Q9 _ t r hg hr;refine⟨r.1,r.2,hr,h1,λh=>?_,h3.1,h3.2.1,h3.2.2,h4⟩;obtain⟨a,b,hx,-,-⟩:=nR h3.1 h;rw[hx,gH]at h2;omega
theorem zIJ:∀(n:Nat)(t:Tm)(l:List Tm)(y:Tm)(acc:List Tm),xQ t=true->mM n t=some (l,y)->y.k≠3->acc.length+n<=100000->zF (λq=>V2 q acc t.k t.n t.sub) (acc++l)
 |0,t,l,y,acc,_,h,hk,_=>by rw[mM]at h;cases h;refine zF.succ ?_;simp only[V2];exact zF.ifF (by simpa using hk) (zF.ret.eq (by simp))|n+1,t,l,y,acc,hg,h,hk,hl=>by
  by_cases h3:t.k=3
  ·obtain⟨a,b,hx,hga,hgb⟩:=nR hg h3;rw[hx,cQ]at h;obtain⟨r',h1,h2⟩:=Option.map_eq_some_iff.1 h;cases h2;refine zF.succ ?_;simp only[V2];have hs:t.sub=[a,b]:=by rw[hx];rfl
   rw[hs];refine zF.ifT (by simp[h3]) (zF.pure (a:=a) rfl (zF.pure (yF (by simp;omega)) (zF.pure (a:=b) rfl ?_)));exact(zIJ n b r'.1 r'.2 (acc++[a]) hgb h1 hk (by simp;omega)).eq (by simp)
  ·rw[eN h3]at h;cases h
theorem zTb:∀(n:Nat)(t:Tm),t.nodes<=n->uJ t<=n
 |0,t,h=>by have:=vR t;omega|n+1,t,h=>by
  unfold uJ;split
  ·rename_i k m a b;rw[Tm.nodes,yW,yW,yW]at h;have:=vR a;split;·have:=zTb n b (by omega);omega
   ·omega
  ·omega
theorem zWR{t:Tm}(hg:xQ t=true)(hn:t.nodes<=8192){l:List Tm}{y:Tm}(h:mM (uJ t) t=some (l,y))(hk:y.k≠3):zF (λq=>e88 q t) l:=by simp only[e88];have:=zTb t.nodes t (Nat.le_refl _);exact(zIJ (uJ t) t l y [] hg h hk (by simp;omega)).eq (by simp)
theorem zBS{t:Tm}(hg:xQ t=true)(h:t.k=5):∃a b,t=.mk 5 t.n [a,b]/\xQ a=true/\xQ b=true:=by obtain⟨k,n,l⟩:=t;have hh:=uB hg;replace h:k=5:=h;subst h;obtain⟨a,b,rfl⟩:=zQR ((tR hh.1).2.2.2.2.2.1 (.inr (.inr rfl))).1;have hc:=wU hh.2;exact⟨a,b,rfl,hc.1,(wU hc.2).1⟩
theorem zXe:∀(n:Nat)(t:Tm),xQ t=true->t.nodes<=n->(xF t).length<=n
 |0,t,_,h=>by have:=vR t;omega|n+1,t,hg,h=>by
  by_cases h5:t.k=5
  ·obtain⟨a,b,hx,hga,-⟩:=zBS hg h5;rw[hx]at h⊢;rw[Tm.nodes,yW,yW,yW]at h;rw[kZ,List.length_append];have:=zXe n a hga (by omega);have:=vR b;simp;omega
  ·rw[mX h5];simp
theorem zBT:∀(n:Nat)(t:Tm),xQ t=true->t.nodes<=n->n<=8192->zF (λq=>e61 q t) (xF t)
 |0,t,_,h,_=>by have:=vR t;omega|n+1,t,hg,h,hn=>by
  refine zF.succ ?_;simp only[e61];by_cases h5:t.k=5
  ·obtain⟨a,b,hx,hga,-⟩:=zBS hg h5;have hs:t.sub=[a,b]:=by rw[hx];rfl
   have hnn:=bG t;rw[hs,yW,yW,yW]at hnn;have:=vR b;rw[hs];have hle:=zXe n a hga (by omega);refine zF.ifF (by simp[h5]) (zF.pure (a:=a) rfl ((zBT n a hga (by omega) (by omega)).bind (zF.pure (a:=b) rfl (zF.pure (yF (by simp;omega)) (zF.ret.eq ?_)))));rw[hx,kZ]
  ·exact zF.ifT (by simpa using h5) (zF.ret.eq (mX h5).symm)
theorem zDQ:∀(n:Nat)(t:Tm),xQ t=true->t.nodes<=n->zF (λq=>zBR q t.k t.n t.sub) (yK t)
 |0,t,_,h=>by have:=vR t;omega|n+1,t,hg,h=>by
  refine zF.succ ?_;simp only[zBR];by_cases h5:t.k=5
  ·obtain⟨a,b,hx,hga,-⟩:=zBS hg h5;have hs:t.sub=[a,b]:=by rw[hx];rfl
   have hnn:=bG t;rw[hs,yW,yW,yW]at hnn;rw[hs];refine zF.ifT (by simp[h5]) (zF.pure (a:=a) rfl ((zDQ n a hga (by omega)).eq ?_));rw[hx,cI]
  ·exact zF.ifF (by simpa using h5) (zF.ret.eq (by rw[gF h5,sX]))
theorem yAm(l:List yI)(n kind:Int):zF (λq=>e87 q l n kind) (G5 l n kind):=by
 simp only[e87];unfold G5;by_cases h0:0<=n
 ·refine zF.ifT (decide_eq_true h0) ?_;by_cases h1:n<l.length;·exact zF.ifT (decide_eq_true h1) (zF.pure (yT h0 h1) (zF.ret.eq (by simp[h0,h1])))
  ·exact zF.ifF (decide_eq_false h1) (zF.ret.eq (by simp[h1]))
 ·exact zF.ifF (decide_eq_false h0) (zF.ret.eq (by simp[h0]))
end Go.Proofs.YtohkcbcddindpaaGreat
