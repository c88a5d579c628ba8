/- Parts of the proof that the law returns true: walks of the functions, plain laws. -/
import Derived.ChangeArms
import Derived.ChangeShapes
import Derived.Test.YthncchbcdpbgaaaGreatAbB6
set_option linter.unusedVariables false
set_option linter.unusedSimpArgs false
set_option linter.unusedSectionVars false
namespace Go.Proofs.YthncchbcdpbgaaaGreat
open Go Go.Ab Go.Proofs.Tryz
def e45(a:Nat)(b:yD)(c:Int):Option (Bool):=zL b c>>=λx1=>e79 a x1.name>>=λr3=>if r3 then e80 a x1.type c>>=λr6=>if r6 then e81 a x1.type>>=λr9=>if x1.kind==1 then e82 a b c>>=λr12=>some r12 else if x1.kind==3 then e80 a x1.body c>>=λr15=>if r15 then if x1.fam==0 then if x1.place==0 then if x1.pars==0 then if x1.inds==0 then if x1.level==0 then if(x1.cons.length:Int)==0 then some ((x1.fields.length:Int)==0)else some false else some false else some false else some false else some false else some false else some false else if x1.kind !=2 then if x1.kind !=4 then some false else e83 a b c>>=λr26=>if r26 then if x1.kind==2 then if decide ((r9.length:Int)<=24)then if decide ((r9.length:Int)>=x1.pars)then e85 a x1.type>>=λr32=>zL b x1.fam>>=λx34=>e84 a r32 x1.fam x1.pars x34.inds (r9.length:Int)>>=λr36=>some r36 else some false else some false else if decide ((yB (x1.pars+1))<=24)then if decide ((r9.length:Int)>=(yB (x1.pars+1)))then zL r9 x1.pars>>=λx40=>e84 a x40 x1.fam x1.pars 0 x1.pars>>=λr42=>some r42 else some false else some false else some false else e83 a b c>>=λr44=>if r44 then if x1.kind==2 then if decide ((r9.length:Int)<=24)then if decide ((r9.length:Int)>=x1.pars)then e85 a x1.type>>=λr50=>zL b x1.fam>>=λx52=>e84 a r50 x1.fam x1.pars x52.inds (r9.length:Int)>>=λr54=>some r54 else some false else some false else if decide ((yB (x1.pars+1))<=24)then if decide ((r9.length:Int)>=(yB (x1.pars+1)))then zL r9 x1.pars>>=λx58=>e84 a x58 x1.fam x1.pars 0 x1.pars>>=λr60=>some r60 else some false else some false else some false else some false else some false
theorem c45{a b c}:Cz (e45 a b c) 45 [] [zC zV b .no,ai c] (λr=>ab r) (λ_=>[]) 0:=fw func45<|rA 0 (xA (o:=.no)) λ_=>rK 3 [] c79 (λ_=>rK 2 [] c80 (λ_=>rH λ_ h10=>rS (oC 2 [] (c81 _ h10))<|rB 2 (rC 0 [] c82 λ_=>fE 0)<|rB 1 (rK 1 [] c80 (λ_=>rB 1 (rB 1 (rB 1 (rB 1 (rB 1 (rB 2 (fE 3)<|fE 0)<|fE 0)<|fE 0)<|fE 0)<|fE 0)<|fE 0) λ_=>fE 0)<|rB 1 (rB 1 (fE 0)<|rK 0 [] c83 (λ_=>rB 2 (rB 0 (rB 1 (rC 1 [] c85 λ_=>rS (gR 0)<|rS (gR 0)<|rS (gR 0)<|rA 0 (xA (o:=.no)) λ_=>rC 1 [] c84 λ_=>fE 0)<|fE 0)<|fE 0)<|rB 2 (rB 2 (rS (oC 1 [] (c81 _ h10))<|rS (gR 0)<|rA 0 (yP (o:=.no)) λ_=>rS (gR 1)<|rS (gR 0)<|rS (gR 0)<|rC 0 [] c84 λ_=>fE 0)<|fE 0)<|fE 0) λ_=>fE 1)<|rK 0 [] c83 (λ_=>rB 2 (rB 0 (rB 1 (rC 1 [] c85 λ_=>rS (gR 0)<|rS (gR 0)<|rS (gR 0)<|rA 0 (xA (o:=.no)) λ_=>rC 1 [] c84 λ_=>fE 0)<|fE 0)<|fE 0)<|rB 2 (rB 2 (rS (oC 1 [] (c81 _ h10))<|rS (gR 0)<|rA 0 (yP (o:=.no)) λ_=>rS (gR 1)<|rS (gR 0)<|rS (gR 0)<|rC 0 [] c84 λ_=>fE 0)<|fE 0)<|fE 0) λ_=>fE 1) λ_=>fE 1) λ_=>fE 1
def Q1:Nat->yD->Int->Option (Bool)|0,_,_=>none|b+1,a,c=>if decide (c<(a.length:Int))then e45 b a c>>=λr8=>if r8 then Q1 b a (yB (c+1))else some false else some true
def e19(b:Nat)(a:yD):Option (Bool):=if decide ((a.length:Int)>256)then some false else e44 b a>>=λr2=>e43 b r2>>=λr4=>if r4 then Q1 b a 0 else some false
theorem zZC:∀b:Nat,∀a c,Lz (Q1 b a c) 0 Tryz.f19 (pt 4021 Tryz.f19) (λj=>sp j 23 0 [(0,zC zV a .no),(3,ai c)]) ⟨[],0,[],0,[]⟩ (λr=>ab r) (λ_=>[]) 0 [.blk 0,.seq (pt 63 Tryz.f19)]:=yS (λ_ _=>lN) λb ih=>λa c=>lw λ_=>rB 1 (rK 0 [] c45 (λ_=>lH 2 [] [] [] [0,3] (ih _ _)) λ_=>lE 1)<|lE 0
theorem c19{b a}:Cz (e19 b a) 19 [] [zC zV a .no] (λr=>ab r) (λ_=>[]) 0:=fw func19<|rB 1 (fE 0)<|rC 0 [] c44 λ_=>rK 0 [] c43 (λ_=>fH 1 [] [] [] [0,3] (zZC _ _ _)) λ_=>fE 1
def zXq(l:List yF)(i:Int):Prop:=∀j,0<=j->j<i->(zN l j).kind=1->zBG l j
theorem zOx{t:Tm}{n:Int}(h:vS t n=true):zJ t=true:=by unfold vS tO at h;simp only[Bool.and_eq_true]at h;exact h.1.1.1
theorem zOw{t:Tm}(hs:zJ t=true){L:List Tm}{y:Tm}(h:uZ (wJ t) t=some (L,y))(hp:wJ t<=24):yX t=(L,y,0):=by unfold yX xJ;rw[if_pos hs,if_neg (by omega),if_neg (by omega),show(((min (wJ t) 25:Nat):Int)).toNat=wJ t by omega,h];rfl
theorem zKw{t:Tm}(hp:¬wJ t<=24):(yX t).2.2≠0:=by
 unfold yX xJ;rw[show((min (wJ t) 25:Nat):Int)=25 by omega];split;·rw[if_neg (by omega),if_pos (by omega)];decide
 ·decide
theorem zDo:∀(n m:Nat)(t:Tm)(L:List Tm)(y:Tm),xF t=true->uZ n t=some (L,y)->m<=n->∃z,uZ m t=some (L.take m,z)
 |_,0,t,L,y,_,h,_=>⟨t,by rw[uZ];simp⟩|0,m+1,_,_,_,_,_,hm=>by omega|n+1,m+1,t,L,y,hg,h,hm=>by
  by_cases h3:t.k=3
  ·obtain⟨a,b,hx,hga,hgb⟩:=rM hg h3;rw[hx,pZ]at h;obtain⟨r',h1,h2⟩:=Option.map_eq_some_iff.1 h;cases h2;obtain⟨z,hz⟩:=zDo n m b r'.1 r'.2 hgb h1 (by omega);exact⟨z,by rw[hx,pZ,hz];rfl⟩
  ·rw[mY h3]at h;cases h
theorem zOv{t:Tm}(hs:zJ t=true){L:List Tm}{y:Tm}(h:uZ (wJ t) t=some (L,y)){n:Nat}(hn:n<=24):((xJ t n).2.2=0↔n<=wJ t)/\(n<=wJ t->(xJ t n).1=L.take n):=by
 have hg:=(zO hs).2.2;have e:xJ t (n:Int)=aE [] (uZ n t):=by unfold xJ;rw[if_pos hs,if_neg (by omega),if_neg (by omega),Int.toNat_natCast]
 rw[e];by_cases hp:n<=wJ t
 ·obtain⟨z,hz⟩:=zDo (wJ t) n t L y hg h hp;rw[hz];exact⟨⟨λ_=>hp,λ_=>rfl⟩,λ_=>by simp[aE]⟩
 ·have hno:uZ n t=none:=by cases hx:uZ n t with|none=>rfl|some r=>have:=(cB n t r hg hx).2.1;omega
  rw[hno];exact⟨⟨λh=>(by simp[aE]at h),λh=>absurd h hp⟩,λh=>absurd h hp⟩
theorem zOu{N:ByteArray->Bool}(hN:mC N)(l:List yF)(i:Int)(h0:0<=i)(h1:i<l.length)(hl:l.length<=65535)(he:∀e∈l,qK e)(hF:zXq l i):Dc (λq=>e45 q l i) (W7 N l i):=by
 have hx:=he _ (uD h0 h1);simp only[e45];refine Dc.pure (yE h0 h1) (Dc.bind (Dc.of (zJW hN _)) (λa1=>?_) λa1=>Dc.ite (λh=>(by cases h)) λ_=>Dc.no λh=>a1 h.1);refine Dc.ite (λ_=>?_) λh=>(by cases h);refine Dc.bind (Q:=vS (zN l i).type i=true) (Dc.of (zBv _ i hx.1)) (λa2=>?_) λa2=>Dc.ite (λh=>(by cases h)) λ_=>Dc.no λh=>a2 h.2.1;refine Dc.ite (λ_=>?_) λh=>(by cases h);have hs:=zOx a2;have hsp:=zO hs;obtain⟨L,y,hL,hlen,hyk,hyg,hyn,-,hLg⟩:=zHY hsp.2.2;have hpis:=zJZ (zN l i).type.nodes (zN l i).type (Nat.le_refl _);have hBene:zB (λq=>e85 q (zN l i).type) y:=by simp only[e85];exact zLG _ _ L y hsp.2.2 hL hyk
 refine Dc.evt (zLF hsp.2.2 hsp.1 hL hyk) ?_;have only:∀{P:Prop}(n:Int),(zN l i).kind=n->(n=1->(zBG l i↔P))->(n=2->(aG l i=true↔P))->(n=4->(lC l i=true↔P))->(n=3->(V9 l i=true↔P))->(¬(n=1\/n=2\/n=3\/n=4)->(False↔P))->(P↔W7 N l i):=λ{P}n hn k1 k2 k4 k3 k0=>by
  unfold W7;rw[hn];by_cases e1:n=1;·rw[<-k1 e1];exact⟨λh=>⟨a1,a2,.inl ⟨e1,h⟩⟩,λh=>by rcases h.2.2 with h|h|h|h<;>first|exact h.2|(have:=h.1;omega)⟩
  ·by_cases e2:n=2;·rw[<-k2 e2];exact⟨λh=>⟨a1,a2,.inr (.inl ⟨e2,h⟩)⟩,λh=>by rcases h.2.2 with h|h|h|h<;>first|exact h.2|(have:=h.1;omega)⟩
   ·by_cases e4:n=4;·rw[<-k4 e4];exact⟨λh=>⟨a1,a2,.inr (.inr (.inl ⟨e4,h⟩))⟩,λh=>by rcases h.2.2 with h|h|h|h<;>first|exact h.2|(have:=h.1;omega)⟩
    ·by_cases e3:n=3;·rw[<-k3 e3];exact⟨λh=>⟨a1,a2,.inr (.inr (.inr ⟨e3,h⟩))⟩,λh=>by rcases h.2.2 with h|h|h|h<;>first|exact h.2|(have:=h.1;omega)⟩
     ·rw[<-k0 (by omega)];exact⟨False.elim,λh=>by rcases h.2.2 with h|h|h|h<;>(have:=h.1;omega)⟩
 refine Dc.ite (λk1=>?_) λk1=>?_
 ·have k1':(zN l i).kind=1:=by simpa using k1
  have:Dc (λq=>e82 q l i>>=λr12=>some r12) (zBG l i):=by obtain⟨b,hb,hb'⟩:=zKx l i h0 h1 hl he;exact⟨b,hb.bind zB.ret,hb'⟩
  exact this.iff (only 1 k1' (λ_=>Iff.rfl) (λh=>by omega) (λh=>by omega) (λh=>by omega) (λh=>absurd (.inl rfl) h))
 have k1':(zN l i).kind≠1:=by simpa using k1
 refine Dc.ite (λk3=>?_) λk3=>?_
 ·have k3':(zN l i).kind=3:=by simpa using k3
  have dfn:∀{P:Prop},(P↔V9 l i=true)->(P↔W7 N l i):=λhP=>hP.trans (only 3 k3' (λh=>by omega) (λh=>by omega) (λh=>by omega) (λ_=>Iff.rfl) (λh=>absurd (.inr (.inr (.inl rfl))) h));have need:V9 l i=true->vS (zN l i).body i=true/\(zN l i).fam=0/\(zN l i).place=0/\(zN l i).pars=0/\(zN l i).inds=0/\(zN l i).level=0/\(zN l i).cons.length=0/\(zN l i).fields.length=0:=λh=>by unfold V9 at h;simp only[Bool.and_eq_true,decide_eq_true_eq,beq_iff_eq]at h;exact h
  refine Dc.iff (P:=V9 l i=true) ?_ (dfn Iff.rfl);refine Dc.bind (Q:=vS (zN l i).body i=true) (Dc.of (zBv _ i hx.2.1)) (λb1=>?_) λb1=>Dc.ite (λh=>(by cases h)) λ_=>Dc.no λh=>b1 (need h).1;refine Dc.ite (λ_=>?_) λh=>(by cases h);refine Dc.ite (λb2=>Dc.ite (λb3=>Dc.ite (λb4=>Dc.ite (λb5=>Dc.ite (λb6=>Dc.ite (λb7=>Dc.ret ?_) λh=>Dc.no λk=>?_) λh=>Dc.no λk=>?_) λh=>Dc.no λk=>?_) λh=>Dc.no λk=>?_) λh=>Dc.no λk=>?_) λh=>Dc.no λk=>?_
  ·rw[beq_iff_eq];unfold V9;simp only[beq_iff_eq]at b2 b3 b4 b5 b6 b7;simp only[Bool.and_eq_true,decide_eq_true_eq,beq_iff_eq];exact⟨λh=>⟨b1,b2,b3,b4,b5,b6,by omega,by omega⟩,λh=>by have:=h.2.2.2.2.2.2.2;omega⟩
  ·rw[(need k).2.2.2.2.2.2.1]at h;simp at h
  ·rw[(need k).2.2.2.2.2.1]at h;simp at h
  ·rw[(need k).2.2.2.2.1]at h;simp at h
  ·rw[(need k).2.2.2.1]at h;simp at h
  ·rw[(need k).2.2.1]at h;simp at h
  ·rw[(need k).2.1]at h;simp at h
 have k3':(zN l i).kind≠3:=by simpa using k3
 have tail:((zN l i).kind=2\/(zN l i).kind=4)->Dc (λq=>e83 q l i>>=λr44=>if r44=true then(if((zN l i).kind==2)=true then(if decide ((List.length L:Int)<=24)=true then(if decide ((List.length L:Int)>=(zN l i).pars)=true then(e85 q (zN l i).type>>=λr50=>zL l (zN l i).fam>>=λx52=>e84 q r50 (zN l i).fam (zN l i).pars x52.inds (List.length L:Int)>>=λr54=>some r54)else some false)else some false)else(if decide ((yB ((zN l i).pars+1))<=24)=true then(if decide ((List.length L:Int)>=(yB ((zN l i).pars+1)))=true then(zL L (zN l i).pars>>=λx58=>e84 q x58 (zN l i).fam (zN l i).pars 0 (zN l i).pars>>=λr60=>some r60)else some false)else some false))else some false) (W7 N l i):=λh24=>by
  have hown:W7 N l i->sB l i=true:=λh=>by
   rcases h.2.2 with h|h|h|h;·exact absurd h.1 k1'
   ·have:=h.2;unfold aG at this;simp only[Bool.and_eq_true]at this;exact this.1
   ·have:=h.2;unfold lC at this;simp only[Bool.and_eq_true]at this;exact this.1
   ·exact absurd h.1 k3'
  refine Dc.bind (zOy l i h0 h1 he h24) (λho=>?_) λho=>Dc.ite (λh=>(by cases h)) λ_=>Dc.no λh=>ho (hown h);refine Dc.ite (λ_=>?_) λh=>(by cases h);have how:=sC ho;have hfam:=zOz (hF _ how.1 how.2.1 how.2.2.1);refine Dc.ite (λe2=>?_) λe2=>?_
  ·have e2':(zN l i).kind=2:=by simpa using e2
   refine Dc.iff (P:=aG l i=true) ?_ (only 2 e2' (λh=>by omega) (λ_=>Iff.rfl) (λh=>by omega) (λh=>by omega) (λh=>absurd (.inr (.inl rfl)) h));refine Dc.ite (λc1=>?_) λc1=>Dc.no λh=>?_;case refine_2=>have:=of_decide_eq_false c1;have hw:=zKw (t:=(zN l i).type) (by omega);unfold aG at h;simp only[Bool.and_eq_true,beq_iff_eq]at h;exact hw h.2.1
   have c1':=of_decide_eq_true c1;have hw:=zOw hs hL (by omega);have hcon:aG l i=true↔(zN l i).pars<=L.length/\uP y (zN l i).fam (zN l i).pars (zN l (zN l i).fam).inds L.length=true:=by unfold aG;rw[hw,ho];simp
   refine Dc.iff ?_ hcon.symm;refine Dc.ite (λc2=>?_) λc2=>Dc.no λh=>?_;case refine_2=>have:=of_decide_eq_false c2;have:=h.1;omega
   have c2':=of_decide_eq_true c2;refine Dc.evt hBene (Dc.pure (yE how.1 (by omega)) ?_);obtain⟨b,hb,hb'⟩:=zBt y (zN l i).fam (zN l i).pars (zN l (zN l i).fam).inds L.length hyg (by omega) (by omega) (by omega) (by omega);exact⟨b,hb.bind zB.ret,hb'.trans ⟨λh=>⟨c2',h⟩,λh=>h.2⟩⟩
  ·have e4':(zN l i).kind=4:=by have:(zN l i).kind≠2:=(by simpa using e2);omega
   refine Dc.iff (P:=lC l i=true) ?_ (only 4 e4' (λh=>by omega) (λh=>by omega) (λ_=>Iff.rfl) (λh=>by omega) (λh=>absurd (.inr (.inr (.inr rfl))) h));rw[zR (x:=(zN l i).pars+1) (by omega) (by omega)];obtain⟨p,hp⟩:=Int.eq_ofNat_of_zero_le (a:=(zN l i).pars) (by omega);have long:¬(zN l i).pars+1<=24->(xJ (zN l i).type ((zN l i).pars+1)).2.2≠0:=λh=>by unfold xJ;rw[if_pos hs,if_neg (by omega),if_pos (by omega)];decide
   have need:lC l i=true->(xJ (zN l i).type ((zN l i).pars+1)).2.2=0/\uP (tD (xJ (zN l i).type ((zN l i).pars+1)).1 (zN l i).pars) (zN l i).fam (zN l i).pars 0 (zN l i).pars=true:=λh=>by unfold lC at h;simp only[Bool.and_eq_true,beq_iff_eq]at h;exact h.2
   refine Dc.ite (λc1=>?_) λc1=>Dc.no λh=>long (by simpa using of_decide_eq_false c1) (need h).1;have c1':=of_decide_eq_true c1;have hsp2:=zOv hs hL (n:=p+1) (by omega);rw[show((p+1:Nat):Int)=(zN l i).pars+1 by omega]at hsp2;refine Dc.ite (λc2=>?_) λc2=>Dc.no λh=>?_;case refine_2=>have:=of_decide_eq_false c2;have:=hsp2.1.1 (need h).1;omega
   have c2':=of_decide_eq_true c2;have hpl:p<L.length:=by omega
   have hgx:zL L (zN l i).pars=some L[p]:=by unfold zL;rw[if_pos (by omega),hp,Int.toNat_natCast];exact List.getElem?_eq_getElem hpl
   have hnth:tD (xJ (zN l i).type ((zN l i).pars+1)).1 (zN l i).pars=L[p]:=by rw[hsp2.2 (by omega)];unfold tD;rw[hp,Int.toNat_natCast,List.getElem?_take,if_pos (by omega),List.getElem?_eq_getElem hpl];rfl
   have hxg:=hLg L[p] (List.getElem_mem hpl);refine Dc.pure hgx ?_;obtain⟨b,hb,hb'⟩:=zBt L[p] (zN l i).fam (zN l i).pars 0 (zN l i).pars hxg.1 (by omega) (by omega) (by omega) (by omega);refine⟨b,hb.bind zB.ret,hb'.trans ?_⟩;unfold lC;rw[hnth,ho,hsp2.1.2 (by omega)];simp
 refine Dc.ite (λk2=>?_) λk2=>?_
 ·have k2':(zN l i).kind≠2:=by simpa using k2
  refine Dc.ite (λk4=>Dc.no λh=>?_) λk4=>tail (.inr (by simpa using k4));have k4':(zN l i).kind≠4:=by simpa using k4
  rcases h.2.2 with h|h|h|h<;>(have:=h.1;omega)
 ·exact tail (.inl (by simpa using k2))
theorem U5{N:ByteArray->Bool}(hN:mC N)(l:List yF)(hl:l.length<=65535)(he:∀e∈l,qK e):∀(m v:Nat),v+m=l.length->zXq l v->Dc (λq=>Q1 q l (v:Int)) (∀j:Int,v<=j->j<l.length->W7 N l j)
 |0,v,hm,_=>by refine Dc.succ ?_;simp only[Q1];exact Dc.ite (λh=>absurd (of_decide_eq_true h) (by omega)) λ_=>Dc.yes λj h0 h1=>by omega|m+1,v,hm,hF=>by
  refine Dc.succ ?_;simp only[Q1];refine Dc.ite (λ_=>Dc.bind (zOu hN l v (by omega) (by omega) hl he hF) (λhr=>?_) λhr=>Dc.ite (λh=>(by cases h)) λ_=>Dc.no λh=>hr (h v (Int.le_refl _) (by omega))) λh=>absurd (of_decide_eq_false h) (by omega);refine Dc.ite (λ_=>?_) λh=>(by cases h);rw[zS v (by omega)];refine(U5 hN l hl he m (v+1) (by omega) λj h0 h1 hk=>?_).iff ⟨λh j h0 h1=>?_,λh j h0 h1=>h j (by omega) h1⟩
  ·by_cases e:j=v
   ·subst e;rcases hr.2.2 with h|h|h|h;·exact h.2
    ·have:=h.1;omega
    ·have:=h.1;omega
    ·have:=h.1;omega
   ·exact hF j h0 (by omega) hk
  ·by_cases e:j=v;·subst e;exact hr
   ·exact h j (by omega) h1
theorem zBs:∀(r l:List yF)(v:Nat)(acc:List ByteArray),l.drop v=r->l.length<=65535->acc.length<=v->zB (λq=>Q0 q l acc (v:Int)) (acc++r.map yF.name)|[],l,v,acc,hd,hl,ha=>by refine zB.succ ?_;simp only[Q0];exact zB.ifF (zZ hd) (zB.ret.eq (by simp))|e::r,l,v,acc,hd,hl,ha=>by have hlt:=yC hd;refine zB.succ ?_;simp only[Q0];refine zB.ifT (zX hd) (zB.pure (zU hd) (zB.pure (yA (by simp<;>omega)) ?_));rw[zS v (by omega)];exact(zBs r l (v+1) _ (zP hd) hl (by simp<;>omega)).eq (by simp)
theorem zWB{N:ByteArray->Bool}{l:List yF}(he:∀e∈l,qK e):(∀j:Int,0<=j->j<l.length->W7 N l j)↔∀j:Int,0<=j->j<l.length->sD N l j=true:=by
 have ofP:∀j,0<=j->j<(l.length:Int)->sD N l j=true->W7 N l j:=λj h0 h1 h=>by
  have hs:=xS h;have hn:N (zN l j).name=true:=by unfold sD at h;simp only[Bool.and_eq_true]at h;exact h.1
  refine⟨hn,hs.1,?_⟩;rcases hs.2.2.2.2.2 with k|k|k|k
  ·refine .inl ⟨k,?_⟩;have hf:=hs.2.1 k;unfold rO at hf;simp only[Bool.and_eq_true,Bool.or_eq_true,decide_eq_true_eq]at hf;refine⟨hf.1.1.1,hf.1.1.2,hf.1.2,hf.2.imp id λhd=>?_⟩;unfold zNz at hd;simp only[Bool.and_eq_true,decide_eq_true_eq,beq_iff_eq]at hd;obtain⟨⟨⟨⟨⟨d1,d2⟩,d3⟩,d4⟩,d5⟩,d6⟩:=hd;have hw:yX (zN l (j+1)).type=((yX (zN l (j+1)).type).1,(yX (zN l (j+1)).type).2.1,0):=by rw[<-d5]
   have hwo:=tL hw;exact⟨d1,d2,d3,d4,hwo.1,by rw[<-hwo.2.1];exact d6⟩
  ·exact .inr (.inl ⟨k,hs.2.2.1 k⟩)
  ·exact .inr (.inr (.inr ⟨k,hs.2.2.2.2.1 k⟩))
  ·exact .inr (.inr (.inl ⟨k,hs.2.2.2.1 k⟩))
 refine⟨λh j h0 h1=>?_,λh j h0 h1=>ofP j h0 h1 (h j h0 h1)⟩;obtain⟨r1,r2,r3⟩:=h j h0 h1;unfold sD;rw[r1,r2];rcases r3 with⟨k,hf⟩|⟨k,hf⟩|⟨k,hf⟩|⟨k,hf⟩
 ·rw[if_pos k];obtain⟨f1,f2,f3,f4⟩:=hf;unfold rO;rw[f1,f2,f3];rcases f4 with f4|⟨d1,d2,d3,d4,d5,d6⟩;·simp[f4]
  ·have hnext:j+1<l.length/\(zN l (j+1)).kind=2:=by
    have h5:=f3;unfold aF at h5;obtain⟨n,hn⟩:∃n,(zN l j).cons=[n]:=by
     rcases hc:(zN l j).cons with _|⟨n,_|⟨m,r⟩⟩;·rw[hc]at d2;simp at d2
     ·exact⟨n,rfl⟩
     ·rw[hc]at d2;simp at d2
    rw[hn,jM,nE]at h5;simp only[Bool.and_eq_true,beq_iff_eq]at h5;have:=wG h5.2.1.1.1;have e:n=j+1:=h5.1.2.1;rw[e]at this;exact⟨this.2.1,this.2.2⟩
   have hc:aG l (j+1)=true:=by
    rcases(h (j+1) (by omega) hnext.1).2.2 with h|h|h|h;·have:=h.1;omega
    ·exact h.2
    ·have:=h.1;omega
    ·have:=h.1;omega
   unfold aG at hc;simp only[Bool.and_eq_true,beq_iff_eq]at hc;have hw0:=hc.2.1;have hw:yX (zN l (j+1)).type=((yX (zN l (j+1)).type).1,(yX (zN l (j+1)).type).2.1,0):=by rw[<-hw0]
   have hwo:=tL hw;have hD:zNz l j (zN l j)=true:=by unfold zNz;simp only[Bool.and_eq_true,decide_eq_true_eq,beq_iff_eq];exact⟨⟨⟨⟨⟨d1,d2⟩,d3⟩,d4⟩,hw0⟩,by rw[hwo.2.1];exact d6⟩
   rw[hD];simp
 ·rw[if_neg (by omega),if_pos k,hf];rfl
 ·rw[if_neg (by omega),if_neg (by omega),if_pos k,hf];rfl
 ·rw[if_neg (by omega),if_neg (by omega),if_neg (by omega),if_pos k,hf];rfl
theorem zEN(l:List yF)(hl:l.length<=65535)(he:∀e∈l,qK e){b:Bool}(h:zB (λq=>cV q l) b):zB (λq=>e19 q l) b:=by
 obtain⟨N,hN⟩:=eI;obtain⟨d,hd,hf⟩:=jO N hN l hl he;have hb:=hf.det h;have hRd:=zJX (by simpa using hl) hd;have key:Dc (λq=>e19 q l) (kC N d l=true):=by
  simp only[e19];have hNames:zB (λq=>e44 q l) (l.map yF.name):=by simp only[e44];exact(zBs l l 0 [] rfl hl (by simp)).eq (by simp)
  have hall:(∀j:Int,((0:Nat):Int)<=j->j<l.length->W7 N l j)↔zEu N l l.length 0=true:=by
   refine(show _↔_ from⟨λh j h0 h1=>h j (by omega) h1,λh j h0 h1=>h j (by omega) h1⟩:(∀j:Int,((0:Nat):Int)<=j->j<l.length->W7 N l j)↔∀j:Int,0<=j->j<l.length->W7 N l j).trans ((zWB he).trans ?_);have back:∀(m v:Nat),v+m=l.length->((∀j:Int,v<=j->j<l.length->sD N l j=true)↔zEu N l m v=true):=by intro m;induction m with|zero=>intro v hv;exact⟨λ_=>rfl,λ_ j h0 h1=>by omega⟩|succ m ih=>
    intro v hv;rw[zEu];simp only[Bool.and_eq_true];rw[<-ih (v+1) (by omega)];refine⟨λh=>⟨h v (Int.le_refl _) (by omega),λj h0 h1=>h j (by omega) h1⟩,λh j h0 h1=>?_⟩;by_cases e:j=v;·subst e;exact h.1
    ·exact h.2 j (by omega) h1
   exact(show _↔_ from⟨λh j h0 h1=>h j (by omega) h1,λh j h0 h1=>h j (by omega) h1⟩:(∀j:Int,0<=j->j<l.length->sD N l j=true)↔∀j:Int,((0:Nat):Int)<=j->j<l.length->sD N l j=true).trans (back l.length 0 (by omega))
  unfold kC;refine Dc.ite (λh=>Dc.no ?_) λh=>Dc.evt hNames (Dc.evt hRd ?_);·have:=of_decide_eq_true h;rw[decide_eq_false (by omega)];simp
  ·have:=of_decide_eq_false h;rw[decide_eq_true (by omega)];cases d with|false=>exact Dc.ite (λh=>(by cases h)) λ_=>Dc.no (by simp)|true=>refine Dc.ite (λ_=>?_) λh=>(by cases h);exact(U5 hN l hl he l.length 0 (by omega) λj h0 h1=>by omega).iff (hall.trans (by simp))
 obtain⟨b',h1,h2⟩:=key;refine h1.eq ?_;rw[<-hb];rw[Bool.eq_iff_iff];exact h2
def e32(a:Nat)(b c:Tm):Option (Bool):=e34 a b>>=λr1=>e34 a c>>=λr3=>if !(r1==r3)then some false else if r1 then e63 a b c>>=λr7=>some r7 else some true
theorem c32{a b c}:Cz (e32 a b c) 32 [] [yL b,yL c] (λr=>ab r) (λ_=>[]) 0:=fw func32<|rH λ_ h2=>rS (oC 1 [] (c34 _ h2))<|rC 1 [] c34 λ_=>rB 0 (fE 0)<|rI (λh6=>rS (oK 1 [] h6 (c34 _ h2))<|rC 3 [] c63 λ_=>fE 0) λh6=>rS (oK 1 [] h6 (c34 _ h2))<|fE 1
def Q3:Nat->yH->yH->Int->Option (Bool)|0,_,_,_=>none|c+1,a,b,d=>if decide (d<(a.length:Int))then zL a d>>=λx3=>zL b d>>=λx5=>if x3 !=x5 then some false else Q3 c a b (yB (d+1))else some true
def e33(c:Nat)(a b:yH):Option (Bool):=if(a.length:Int)!=(b.length:Int)then some false else Q3 c a b 0
theorem zZD:∀c:Nat,∀a b d,Lz (Q3 c a b d) 0 Tryz.f33 (pt 4021 Tryz.f33) (λj=>sp j 26 0 [(0,zC zW a .no),(1,zC zW b .no),(5,ai d)]) ⟨[],0,[],0,[]⟩ (λr=>ab r) (λ_=>[]) 0 [.blk 0,.seq (pt 63 Tryz.f33)]:=yS (λ_ _ _=>lN) λc ih=>λa b d=>lw λ_=>rB 1 (rA 0 (vQ (o:=.no)) λ_=>rA 1 (vQ (o:=.no)) λ_=>rB 1 (lE 0)<|lH 1 [] [] [] [0,1,5] (ih _ _ _))<|lE 0
theorem c33{c a b}:Cz (e33 c a b) 33 [] [zC zW a .no,zC zW b .no] (λr=>ab r) (λ_=>[]) 0:=fw func33<|rB 2 (fE 0)<|fH 0 [] [] [] [0,1,5] (zZD _ _ _ _)
def Q4:Nat->yD->yD->Int->Option (Bool)
 |0,_,_,_=>none|b+1,a,c,d=>if decide (d<(a.length:Int))then zL a d>>=λx3=>zL c d>>=λx5=>if x3.kind !=x5.kind then some false else if !(x3.name.toList==x5.name.toList)then some false else if x3.fam !=x5.fam then some false else if x3.place !=x5.place then some false else if x3.pars !=x5.pars then some false else if x3.inds !=x5.inds then some false else if x3.level !=x5.level then some false else e32 b x3.type x5.type>>=λr14=>if r14 then e32 b x3.body x5.body>>=λr17=>if r17 then e33 b x3.cons x5.cons>>=λr20=>if r20 then e33 b x3.fields x5.fields>>=λr23=>if r23 then Q4 b a c (yB (d+1))else some false else some false else some false else some false else some true
def e10(b:Nat)(a c:yD):Option (Bool):=if(a.length:Int)!=(c.length:Int)then some false else Q4 b a c 0
theorem zZE:∀b:Nat,∀a c d,Lz (Q4 b a c d) 0 Tryz.f10 (pt 4021 Tryz.f10) (λj=>sp j 104 0 [(0,zC zV a .no),(1,zC zV c .no),(5,ai d)]) ⟨[],0,[],0,[]⟩ (λr=>ab r) (λ_=>[]) 0 [.blk 0,.seq (pt 63 Tryz.f10)]:=yS (λ_ _ _=>lN) λb ih=>λa c d=>lw λ_=>rB 1 (rA 0 (xA (o:=.no)) λ_=>rA 2 (xA (o:=.no)) λ_=>rB 4 (lE 0)<|rB 2 (lE 0)<|rB 2 (lE 0)<|rB 2 (lE 0)<|rB 2 (lE 0)<|rB 2 (lE 0)<|rB 2 (lE 0)<|rK 2 [] c32 (λ_=>rK 3 [] c32 (λ_=>rK 3 [] c33 (λ_=>rK 3 [] c33 (λ_=>lH 2 [] [] [] [0,1,5] (ih _ _ _)) λ_=>lE 1) λ_=>lE 1) λ_=>lE 1) λ_=>lE 1)<|lE 0
theorem c10{b a c}:Cz (e10 b a c) 10 [] [zC zV a .no,zC zV c .no] (λr=>ab r) (λ_=>[]) 0:=fw func10<|rB 2 (fE 0)<|fH 0 [] [] [] [0,1,5] (zZE _ _ _ _)
def e18(a:Nat)(b:yD)(c:ByteArray)(d:Int):Option (yD×Int×Int):=e22 a c>>=λr1=>e20 a d>>=λr3=>match r3 with
 |Sum.inl y13=>if r1.2.2 !=0 then some ([],0,1)else if y13 !=0 then some ([],0,1)else if(r1.1.length:Int)==0 then some ([],0,1)else none|Sum.inr y5=>if r1.2.2 !=0 then some ([],0,1)else if y5.1 !=0 then some ([],0,1)else if(r1.1.length:Int)==0 then some ([],0,1)else zL r1.1 0>>=λx9=>e42 a b x9 y5.2.1 y5.2.2>>=λr11=>some (r11.1,r11.2.1,r11.2.2.1)
theorem c18{a b c d}:Cz (e18 a b c d) 18 [] [zC zV b .no,at' c,ai d] (λr=>.tup [.sl (zH zV r.1) r.1.length .no,ai r.2.1,ai r.2.2]) (λ_=>[]) 0:=fw func18<|rC 0 [] c22 λ_=>rC 3 [] c20<|pN (λ_=>rB 2 (fE 0)<|rB 0 (fE 0)<|rB 1 (fE 0) rN) λ_=>rB 2 (fE 0)<|rB 0 (fE 0)<|rB 1 (fE 0)<|rA 0 (yDy (o:=.no)) λ_=>rC 1 [0] c42 λ_=>fE 3
def e17(a:Nat):Option (Bool):=e18 a [] (⟨#[100,97,116,97,32,78,32,58,32,83,101,116,32,123,32,122,32,58,32,78,59,32,115,32,58,32,78,32,45,62,32,78,59,32,125]⟩:ByteArray) 100>>=λr1=>if r1.2.2==0 then if(r1.1.length:Int)==3 then zL r1.1 2>>=λx5=>some (x5.name.toList==(⟨#[115]⟩:ByteArray).toList)else some false else some false
theorem c17{a}:Cz (e17 a) 17 [] [] (λr=>ab r) (λ_=>[]) 0:=fw func17<|rC 0 [] c18 λ_=>rB 3 (rB 1 (rA 0 (xA (o:=.no)) λ_=>fE 2)<|fE 0)<|fE 0
def e38(c:Nat)(a b:Int):Option (Tm):=some (Tm.mk a b [])
theorem c38{c a b}:Cz (e38 c a b) 38 [] [ai a,ai b] (λr=>yL r) (λ_=>[]) 0:=fw func38<|fE 1
def e14(b:Nat)(a:Int):Option (Tm):=e38 b 6 a>>=λr1=>some r1
theorem c14{b a}:Cz (e14 b a) 14 [] [ai a] (λr=>yL r) (λ_=>[]) 0:=fw func14<|rC 0 [] c38 λ_=>fE 1
def e37(d:Nat)(c:Int)(a b:Tm):Option (Tm):=some (Tm.mk c 0 [a,b])
theorem c37{d c a b}:Cz (e37 d c a b) 37 [] [ai c,yL a,yL b] (λr=>yL r) (λ_=>[]) 0:=fw func37<|rS (oS 2 (yZ xO [a,b]))<|fE 1
def zKv:Nat->yI->Int->Int->Int->yI->Option (Tm)|0,_,_,_,_,_=>none|e+1,d,f,a,b,c=>if decide (f<(d.length:Int))then zL d f>>=λx2=>e37 e 5 (Tm.mk a b c) x2>>=λr4=>zKv e d (yB (f+1)) r4.k r4.n r4.sub else some (Tm.mk a b c)
def e13(e:Nat)(g:Tm)(d:yI):Option (Tm):=zKv e d 0 g.k g.n g.sub
theorem zZG:∀e:Nat,∀d f a b c,Lz (zKv e d f a b c) 0 Tryz.f13 (pt 949 Tryz.f13) (λj=>sp j 19 0 [(1,zC zA d .no),(2,.mp 0 0),(4,.mp 1 0),(5,ai f)]) ⟨[(0,.cells [ai a,ai b,zC zA c .no]),(1,.cells [ai 0,ai 0,zC zA ([]:yI) .nl])],2,[],0,[]⟩ (λr=>yL r) (λ_=>[]) 0 [.blk 0,.seq (pt 15 Tryz.f13)]:=yS (λ_ _ _ _ _=>lN) λe ih=>λd f a b c=>lw λ_=>rB 1 (rA 1 (yP (o:=.no)) λ_=>rC 1 [] c37 λ_=>lH 2 [] [0,1] [] [1,2,4,5] (ih _ _ _ _ _))<|lE 2
theorem c13{e g d}:Cz (e13 e g d) 13 [] [yL g,zC zA d .no] (λr=>yL r) (λ_=>[]) 0:=fw func13<|fH 0 [] [0,1] [] [1,2,4,5] (zZG _ _ _ _ _ _)
def e16(c:Nat)(a:Tm)(b:yI):Option (Tm):=e13 c a b>>=λr1=>some r1
theorem c16{c a b}:Cz (e16 c a b) 16 [] [yL a,zC zA b .no] (λr=>yL r) (λ_=>[]) 0:=fw func16<|rC 1 [] c13 λ_=>fE 1
def e24(f:Nat)(a:ByteArray)(b:Tm)(c d:Int)(e:yH):Option (yF):=some (yF.mk 1 a b (Tm.mk 0 0 []) 0 0 c d 0 e [])
theorem c24{f a b c d e}:Cz (e24 f a b c d e) 24 [] [at' a,yL b,ai c,ai d,zC zW e .no] (λr=>zXA r) (λ_=>[]) 0:=fw func24<|fE 2
def eX(c:Nat)(a b:Tm):Option (Tm):=e37 c 3 a b>>=λr1=>some r1
theorem fC{c a b}:Cz (eX c a b) 25 [] [yL a,yL b] (λr=>yL r) (λ_=>[]) 0:=fw func25<|rC 2 [] c37 λ_=>fE 1
def e26(b:Nat)(a:Int):Option (Tm):=e38 b 2 a>>=λr1=>some r1
theorem U6{b a}:Cz (e26 b a) 26 [] [ai a] (λr=>yL r) (λ_=>[]) 0:=fw func26<|rC 0 [] c38 λ_=>fE 1
def e27(b:Nat)(a:Int):Option (Tm):=e38 b 1 a>>=λr1=>some r1
theorem C7{b a}:Cz (e27 b a) 27 [] [ai a] (λr=>yL r) (λ_=>[]) 0:=fw func27<|rC 0 [] c38 λ_=>fE 1
def e28(c:Nat)(a b:Tm):Option (Tm):=e37 c 4 a b>>=λr1=>some r1
theorem c28{c a b}:Cz (e28 c a b) 28 [] [yL a,yL b] (λr=>yL r) (λ_=>[]) 0:=fw func28<|rC 2 [] c37 λ_=>fE 1
def e62(d:Nat)(a b:Int)(c:yI):Option (Tm):=some (Tm.mk a b c)
theorem c62{d a b c}:Cz (e62 d a b c) 62 [] [ai a,ai b,zC zA c .no] (λr=>yL r) (λ_=>[]) 0:=fw func62<|fE 1
def e29(a:Nat)(b c:Int):Option (Tm):=e26 a c>>=λr1=>e62 a 7 b [r1]>>=λr3=>some r3
theorem c29{a b c}:Cz (e29 a b c) 29 [] [ai b,ai c] (λr=>yL r) (λ_=>[]) 0:=fw func29<|rC 0 [] U6 λr1=>rS (oS 0 (yZ xO [r1]))<|rC 0 [] c62 λ_=>fE 1
def e30(f:Nat)(a:ByteArray)(b:Tm)(c d e:Int):Option (yF):=some (yF.mk 2 a b (Tm.mk 0 0 []) c d e 0 0 [] [])
theorem c30{f a b c d e}:Cz (e30 f a b c d e) 30 [] [at' a,yL b,ai c,ai d,ai e] (λr=>zXA r) (λ_=>[]) 0:=fw func30<|fE 2
def e31(d:Nat)(a:ByteArray)(b:Tm)(c:Int):Option (yF):=some (yF.mk 4 a b (Tm.mk 0 0 []) 14 c 2 0 0 [] [])
theorem c31{d a b c}:Cz (e31 d a b c) 31 [] [at' a,yL b,ai c] (λr=>zXA r) (λ_=>[]) 0:=fw func31<|fE 2
def e9(a:Nat):Option yD:=e14 a 0>>=λr1=>e26 a 0>>=λr3=>eX a r3 r3>>=λr5=>eX a r3 r5>>=λr7=>e24 a (⟨#[80,97,105,114]⟩:ByteArray) r7 2 0 [15]>>=λr9=>e14 a 14>>=λr11=>e27 a 1>>=λr13=>e27 a 0>>=λr15=>e16 a r11 [r13,r15]>>=λr17=>e29 a 0 0>>=λr19=>e28 a r1 r1>>=λr21=>e14 a 2>>=λr23=>e16 a r23 [r15]>>=λr25=>e28 a r1 r25>>=λr27=>e28 a r1 r27>>=λr29=>e16 a r19 [r21,r15,r29,r13]>>=λr31=>e28 a r1 r31>>=λr33=>e28 a r1 r33>>=λr35=>e24 a (⟨#[78,97,116]⟩:ByteArray) r3 0 0 [1,2]>>=λr37=>e30 a (⟨#[122,101,114,111]⟩:ByteArray) r1 0 0 0>>=λr39=>eX a r1 r1>>=λr41=>e30 a (⟨#[115,117,99]⟩:ByteArray) r41 0 1 0>>=λr43=>e24 a (⟨#[66,111,111,108]⟩:ByteArray) r3 0 0 [4,5]>>=λr45=>e14 a 3>>=λr47=>e30 a (⟨#[116,114,117,101]⟩:ByteArray) r47 3 0 0>>=λr49=>e30 a (⟨#[102,97,108,115,101]⟩:ByteArray) r47 3 1 0>>=λr51=>e24 a (⟨#[76,105,115,116]⟩:ByteArray) r5 1 0 [7,8]>>=λr53=>e14 a 6>>=λr55=>e16 a r55 [r15]>>=λr57=>eX a r3 r57>>=λr59=>e30 a (⟨#[110,105,108]⟩:ByteArray) r59 6 0 1>>=λr61=>e16 a r55 [r13]>>=λr63=>e27 a 2>>=λr65=>e16 a r55 [r65]>>=λr67=>eX a r63 r67>>=λr69=>eX a r15 r69>>=λr71=>eX a r3 r71>>=λr73=>e30 a (⟨#[99,111,110,115]⟩:ByteArray) r73 6 1 1>>=λr75=>eX a r1 r3>>=λr77=>eX a r3 r77>>=λr79=>e24 a (⟨#[86,101,99]⟩:ByteArray) r79 1 1 [10,11]>>=λr81=>e14 a 9>>=λr83=>e14 a 1>>=λr85=>e16 a r83 [r15,r85]>>=λr87=>eX a r3 r87>>=λr89=>e30 a (⟨#[118,110,105,108]⟩:ByteArray) r89 9 0 1>>=λr91=>e16 a r83 [r65,r13]>>=λr93=>e27 a 3>>=λr95=>e16 a r23 [r65]>>=λr97=>e16 a r83 [r95,r97]>>=λr99=>eX a r93 r99>>=λr101=>eX a r13 r101>>=λr103=>eX a r1 r103>>=λr105=>eX a r3 r105>>=λr107=>e30 a (⟨#[118,99,111,110,115]⟩:ByteArray) r107 9 1 1>>=λr109=>eX a r13 r3>>=λr111=>eX a r15 r111>>=λr113=>eX a r3 r113>>=λr115=>e24 a (⟨#[69,113]⟩:ByteArray) r115 2 1 [13]>>=λr117=>e14 a 12>>=λr119=>e16 a r119 [r13,r15,r15]>>=λr121=>eX a r15 r121>>=λr123=>eX a r3 r123>>=λr125=>e30 a (⟨#[114,101,102,108]⟩:ByteArray) r125 12 0 2>>=λr127=>e16 a r11 [r95,r65]>>=λr129=>eX a r13 r129>>=λr131=>eX a r13 r131>>=λr133=>eX a r3 r133>>=λr135=>eX a r3 r135>>=λr137=>e30 a (⟨#[112,97,105,114]⟩:ByteArray) r137 14 0 2>>=λr139=>eX a r17 r65>>=λr141=>eX a r3 r141>>=λr143=>eX a r3 r143>>=λr145=>e31 a (⟨#[102,115,116]⟩:ByteArray) r145 0>>=λr147=>eX a r17 r13>>=λr149=>eX a r3 r149>>=λr151=>eX a r3 r151>>=λr153=>e31 a (⟨#[115,110,100]⟩:ByteArray) r153 1>>=λr155=>e24 a (⟨#[84,114,101,101]⟩:ByteArray) r3 0 0 [19,20]>>=λr157=>e14 a 18>>=λr159=>e30 a (⟨#[108,101,97,102]⟩:ByteArray) r159 18 0 0>>=λr161=>eX a r1 r159>>=λr163=>eX a r163 r159>>=λr165=>e30 a (⟨#[110,111,100,101]⟩:ByteArray) r165 18 1 0>>=λr167=>eX a r1 r41>>=λr169=>eX a r15 r13>>=λr171=>eX a r3 r171>>=λr173=>e28 a r15 r15>>=λr175=>e28 a r3 r175>>=λr177=>some [r37,r39,r43,r45,r49,r51,r53,r61,r75,r81,r91,r109,r117,r127,(yF.mk r9.kind r9.name r9.type r9.body r9.fam r9.place r9.pars r9.inds r9.level r9.cons [16,17]),r139,r147,r155,r157,r161,r167,(yF.mk 3 (⟨#[112,108,117,115]⟩:ByteArray) r169 r35 0 0 0 0 0 [] []),(yF.mk 3 (⟨#[105,100]⟩:ByteArray) r173 r177 0 0 0 0 0 [] [])]
theorem c9{a}:Cz (e9 a) 9 [] [] (λr=>.sl (zH zV r) r.length .no) (λ_=>[]) 0:=fw func9<|rC 0 [] c14 λ_=>rH λ_ h4=>rS (oC 1 [] (U6 _ h4))<|rS (oC 0 [] (U6 _ h4))<|rS (oC 0 [] (U6 _ h4))<|rH λ_ h6=>rS (oC 0 [] (fC _ h6))<|rC 0 [] fC λ_=>rC 1 [] c24 λ_=>rH λ_ h12=>rS (oC 3 [] (c14 _ h12))<|rH λr13 h14=>rS (oC 0 [] (C7 _ h14))<|rH λr15 h16=>rS (oC 0 [] (C7 _ h16))<|rS (oS 0 (yZ xO [r13,r15]))<|rC 0 [] c16 λ_=>rC 3 [] c29 λ_=>rC 2 [] c28 λr21=>rS (oC 0 [] (C7 _ h16))<|rH λ_ h24=>rS (oC 2 [] (c14 _ h24))<|rS (oC 0 [] (C7 _ h16))<|rS (oS 0 (yZ xO [r15]))<|rC 0 [] c16 λ_=>rC 0 [] c28 λ_=>rC 0 [] c28 λr29=>rS (oC 0 [] (C7 _ h14))<|rS (oS 0 (yZ xO [r21,r15,r29,r13]))<|rC 0 [] c16 λ_=>rC 0 [] c28 λ_=>rC 0 [] c28 λ_=>rS (oC 1 [] (U6 _ h4))<|rC 1 [] c24 λ_=>rC 1 [] c30 λ_=>rH λ_ h42=>rS (oC 2 [] (fC _ h42))<|rC 0 [] c30 λ_=>rS (oC 0 [] (U6 _ h4))<|rC 1 [] c24 λ_=>rH λ_ h48=>rS (oC 0 [] (c14 _ h48))<|rC 0 [] c30 λ_=>rS (oC 0 [] (c14 _ h48))<|rC 0 [] c30 λ_=>rS (oC 0 [] (U6 _ h4))<|rS (oC 0 [] (U6 _ h4))<|rS (oC 0 [] (fC _ h6))<|rC 1 [] c24 λ_=>rS (oC 0 [] (U6 _ h4))<|rH λ_ h56=>rS (oC 0 [] (c14 _ h56))<|rS (oC 0 [] (C7 _ h16))<|rS (oS 0 (yZ xO [r15]))<|rC 0 [] c16 λ_=>rC 0 [] fC λ_=>rC 0 [] c30 λ_=>rS (oC 0 [] (U6 _ h4))<|rS (oC 0 [] (C7 _ h16))<|rS (oC 0 [] (c14 _ h56))<|rS (oC 0 [] (C7 _ h14))<|rS (oS 0 (yZ xO [r13]))<|rC 0 [] c16 λ_=>rS (oC 0 [] (c14 _ h56))<|rH λr65 h66=>rS (oC 0 [] (C7 _ h66))<|rS (oS 0 (yZ xO [r65]))<|rC 0 [] c16 λ_=>rC 0 [] fC λ_=>rC 0 [] fC λ_=>rC 0 [] fC λ_=>rC 0 [] c30 λ_=>rS (oC 0 [] (U6 _ h4))<|rS (oC 1 [] (U6 _ h4))<|rC 0 [] fC λ_=>rC 0 [] fC λ_=>rC 1 [] c24 λ_=>rS (oC 0 [] (U6 _ h4))<|rH λ_ h84=>rS (oC 0 [] (c14 _ h84))<|rS (oC 0 [] (C7 _ h16))<|rC 0 [] c14 λr85=>rS (oS 0 (yZ xO [r15,r85]))<|rC 0 [] c16 λ_=>rC 0 [] fC λ_=>rC 0 [] c30 λ_=>rS (oC 0 [] (U6 _ h4))<|rS (oC 1 [] (C7 _ h14))<|rS (oC 0 [] (c14 _ h84))<|rS (oC 0 [] (C7 _ h66))<|rS (oC 0 [] (C7 _ h14))<|rS (oS 0 (yZ xO [r65,r13]))<|rC 0 [] c16 λ_=>rS (oC 0 [] (c14 _ h84))<|rH λr95 h96=>rS (oC 0 [] (C7 _ h96))<|rS (oC 0 [] (c14 _ h24))<|rS (oC 0 [] (C7 _ h66))<|rS (oS 0 (yZ xO [r65]))<|rC 0 [] c16 λr97=>rS (oS 0 (yZ xO [r95,r97]))<|rC 0 [] c16 λ_=>rC 0 [] fC λ_=>rC 0 [] fC λ_=>rC 0 [] fC λ_=>rC 0 [] fC λ_=>rC 0 [] c30 λ_=>rS (oC 0 [] (U6 _ h4))<|rS (oC 0 [] (C7 _ h16))<|rS (oC 0 [] (C7 _ h14))<|rS (oC 0 [] (U6 _ h4))<|rC 0 [] fC λ_=>rC 0 [] fC λ_=>rC 0 [] fC λ_=>rC 1 [] c24 λ_=>rS (oC 0 [] (U6 _ h4))<|rS (oC 0 [] (C7 _ h16))<|rC 0 [] c14 λ_=>rS (oC 0 [] (C7 _ h14))<|rS (oC 0 [] (C7 _ h16))<|rS (oC 0 [] (C7 _ h16))<|rS (oS 0 (yZ xO [r13,r15,r15]))<|rC 0 [] c16 λ_=>rC 0 [] fC λ_=>rC 0 [] fC λ_=>rC 0 [] c30 λ_=>rS (oC 1 [] (U6 _ h4))<|rS (oC 0 [] (U6 _ h4))<|rS (oC 0 [] (C7 _ h14))<|rS (oC 0 [] (C7 _ h14))<|rS (oC 0 [] (c14 _ h12))<|rS (oC 0 [] (C7 _ h96))<|rS (oC 0 [] (C7 _ h66))<|rS (oS 0 (yZ xO [r95,r65]))<|rC 0 [] c16 λ_=>rC 0 [] fC λ_=>rC 0 [] fC λ_=>rC 0 [] fC λ_=>rC 0 [] fC λ_=>rC 0 [] c30 λ_=>rS (oC 0 [] (U6 _ h4))<|rS (oC 0 [] (U6 _ h4))<|rS (oC 1 [] (C7 _ h66))<|rC 0 [] fC λ_=>rC 0 [] fC λ_=>rC 0 [] fC λ_=>rC 0 [] c31 λ_=>rS (oC 0 [] (U6 _ h4))<|rS (oC 0 [] (U6 _ h4))<|rS (oC 1 [] (C7 _ h14))<|rC 0 [] fC λ_=>rC 0 [] fC λ_=>rC 0 [] fC λ_=>rC 0 [] c31 λ_=>rS (oC 0 [] (U6 _ h4))<|rC 1 [] c24 λ_=>rH λ_ h160=>rS (oC 0 [] (c14 _ h160))<|rC 0 [] c30 λ_=>rS (oC 1 [] (c14 _ h160))<|rC 0 [] fC λ_=>rS (oC 0 [] (c14 _ h160))<|rC 0 [] fC λ_=>rC 0 [] c30 λ_=>rS (oC 3 [] (fC _ h42))<|rC 0 [] fC λ_=>rS (oC 1 [] (U6 _ h4))<|rS (oC 0 [] (C7 _ h16))<|rS (oC 0 [] (C7 _ h14))<|rC 0 [] fC λ_=>rC 0 [] fC λ_=>rS (oC 0 [] (U6 _ h4))<|rS (oC 0 [] (C7 _ h16))<|rS (oC 0 [] (C7 _ h16))<|rC 0 [] c28 λ_=>rC 0 [] c28 λ_=>fE 1
def e6(a:Nat)(b:ByteArray):Option (Bool):=if decide ((b.size:Int)>600)then e17 a>>=λr2=>some r2 else e9 a>>=λr4=>e18 a r4 b 20000>>=λr6=>if r6.2.2 !=0 then if(r6.1.length:Int)==0 then e17 a>>=λr10=>some r10 else some false else e19 a r6.1>>=λr12=>if r12 then if decide ((r6.1.length:Int)<=(r4.length:Int))then some false else uL r6.1 0 (r4.length:Int)>>=λx16=>e10 a x16 r4>>=λr18=>if r18 then e20 a 200000>>=λr21=>match r21 with
 |Sum.inl y29=>none|Sum.inr y23=>e21 a r6.1 (r4.length:Int) y23.2.1 y23.2.2>>=λr24=>if r24.1==0 then e17 a>>=λr27=>some r27 else some false else some false else some false
theorem c6{a b}:Cz (e6 a b) 6 [] [at' b] (λr=>ab r) (λ_=>[]) 0:=fw func6<|rB 1 (rC 0 [] c17 λ_=>fE 0)<|rC 0 [] c9 λ_=>rC 0 [] c18 λ_=>rB 3 (rB 1 (rC 0 [] c17 λ_=>fE 0)<|fE 0)<|rK 0 [] c19 (λ_=>rB 3 (fE 0)<|rA 1 zDO λ_=>rK 0 [] c10 (λ_=>rC 1 [] c20<|pN (λ_=>rN) λ_=>rC 3 [0] c21 λ_=>rB 0 (rC 0 [] c17 λ_=>fE 0)<|fE 0) λ_=>fE 1) λ_=>fE 1
set_option linter.unusedSectionVars false
theorem U7(t:Tm)(ho:t.Ok):zB (λq=>e32 q t t) true:=by have hb:=gK t ho;simp only[e32];exact hb.bind (hb.bind (zB.ifF (by simp) (zB.iff (λ_=>(zCH t ho).bind zB.ret) λ_=>zB.ret)))
theorem J8(p:List Int)(hl:p.length<9223372036854775808):∀(r:List Int)(v:Nat),p.drop v=r->zB (λq=>Q3 q p p (v:Int)) true|[],v,hd=>by refine zB.succ ?_;simp only[Q3];exact zB.ifF (zZ hd) zB.ret|x::r,v,hd=>by have:=yC hd;refine zB.succ ?_;simp only[Q3];rw[zS v (by omega)];exact zB.ifT (zX hd) (zB.pure (zU hd) (zB.pure (zU hd) (zB.ifF (by simp) (J8 p hl r (v+1) (zP hd)))))
theorem U9(p:List Int)(hl:p.length<9223372036854775808):zB (λq=>e33 q p p) true:=by simp only[e33];exact zB.ifF (by simp) (J8 p hl p 0 rfl)
theorem zIx(p:List yF)(hl:p.length<9223372036854775808)(hp:∀x∈p,qK x/\M0 x):∀(r:List yF)(v:Nat),p.drop v=r->zB (λq=>Q4 q p p (v:Int)) true|[],v,hd=>by refine zB.succ ?_;simp only[Q4];exact zB.ifF (zZ hd) zB.ret|x::r,v,hd=>by have:=yC hd;have hx:=hp x (List.mem_of_mem_drop (hd▸List.mem_cons_self ..));refine zB.succ ?_;simp only[Q4];rw[zS v (by omega)];exact zB.ifT (zX hd) (zB.pure (zU hd) (zB.pure (zU hd) (zB.ifF (by simp) (zB.ifF (by simp) (zB.ifF (by simp) (zB.ifF (by simp) (zB.ifF (by simp) (zB.ifF (by simp) (zB.ifF (by simp) ((U7 _ hx.1.1).bind (zB.ifT rfl ((U7 _ hx.1.2.1).bind (zB.ifT rfl ((U9 _ (by have:=hx.2.1;omega)).bind (zB.ifT rfl ((U9 _ (by have:=hx.2.2;omega)).bind (zB.ifT rfl (zIx p hl hp r (v+1) (zP hd)))))))))))))))))))
theorem zWC(p:List yF)(hl:p.length<9223372036854775808)(hp:∀x∈p,qK x/\M0 x):zB (λq=>e10 q p p) true:=by simp only[e10];exact zB.ifF (by simp) (zIx p hl hp p 0 rfl)
theorem zKu{α:Type}{f:Nat->Option α}{r:α}(n:Nat)(h:∀q,f (q+n)=some r):zB f r:=⟨n,λq hq=>by rw[show q=q-n+n by omega];exact h _⟩
def pD:List yF:=match e9 300 with|some l=>l|none=>[]
theorem zWD:zB (λq=>e9 q) pD:=zKu 300 λq=>by kernel_rfl
theorem zSj:zB (λq=>cV q pD) true:=zKu 1000 λq=>by kernel_rfl
theorem bY:pD.length=23:=by kernel_rfl
def yCq(e:yF):Bool:=xF e.type&&(xF e.body||e.body.sub.isEmpty)&&decide (e.cons.length<=8)&&decide (e.fields.length<=8)
theorem zWE:pD.all yCq=true:=by kernel_rfl
theorem zLH:kG pD:=by
 have h:∀e∈pD,qK e/\M0 e:=λe h=>by
  have:=List.all_eq_true.1 zWE e h;unfold yCq at this;simp only[Bool.and_eq_true,Bool.or_eq_true,decide_eq_true_eq]at this;obtain⟨⟨⟨h1,h2⟩,h3⟩,h4⟩:=this;refine⟨⟨wL _ h1,?_,by omega,by omega⟩,by omega,by omega⟩;rcases h2 with h2|h2;·exact wL _ h2
  ·generalize e.body=b at h2;obtain⟨k,n,l⟩:=b;have:l=[]:=by simpa[Tm.sub]using h2
   subst this;exact lJ _ _
 exact⟨λe he=>(h e he).1,λe he=>(h e he).2,by rw[bY];omega,zSj⟩
theorem Q5:zB (λq=>e17 q) true:=zKu 2000 λq=>by kernel_rfl
theorem zBH(s:ByteArray):zB (λq=>e6 q s) true:=by
 simp only[e6];refine zB.iff (λ_=>Q5.bind zB.ret) λ_=>zWD.bind ?_;obtain⟨⟨D,x,e⟩,hF,hD,-⟩:=zQH s;dsimp only at hD;have done:∀(x e:Int),e≠0->zB (λq=>e18 q pD s 20000) ([],x,e)->zB (λq=>e18 q pD s 20000>>=λr6=>if(r6.2.2 !=0)=true then if((r6.1.length:Int)==0)=true then e17 q>>=λr10=>some r10 else some false else e19 q r6.1>>=λr12=>if r12=true then if decide ((r6.1.length:Int)<=(pD.length:Int))=true then some false else uL r6.1 0 (pD.length:Int)>>=λx16=>e10 q x16 pD>>=λr18=>if r18=true then e20 q 200000>>=λr21=>match r21 with|.inl _=>none|.inr y23=>e21 q r6.1 (pD.length:Int) y23.2.1 y23.2.2>>=λr24=>if(r24.1==0)=true then e17 q>>=λr27=>some r27 else some false else some false else some false) true:=λx e he r=>r.bind (zB.ifT (by simpa using he) (zB.ifT rfl (Q5.bind zB.ret)));have run:∀z,zB (λq=>if(e !=0)=true then some (([]:List yF),(0:Int),(1:Int))else if((D.length:Int)==0)=true then some ([],0,1)else zL D 0>>=λx9=>e42 q pD x9 20000 0>>=λr11=>some (r11.1,r11.2.1,r11.2.2.1)) z->zB (λq=>e18 q pD s 20000) z:=λz h=>by
  simp only[e18];refine hF.bind ((zLr 20000 (by omega) (by omega)).bind ?_);dsimp only;by_cases he:(e !=0)=true;·exact zB.ifT he (by simp only[if_pos he]at h;exact h)
  ·have he':(e !=0)=false:=by simpa using he
   simp only[if_neg he]at h;exact zB.ifF he' (zB.ifF rfl h)
 by_cases he:(e !=0)=true;·exact done 0 1 (by decide) (run _ (zB.ifT he zB.ret))
 have he':(e !=0)=false:=by simpa using he
 by_cases hn:((D.length:Int)==0)=true;·exact done 0 1 (by decide) (run _ (zB.ifF he' (zB.ifT hn zB.ret)))
 have hn':((D.length:Int)==0)=false:=by simpa using hn
 obtain⟨d,hd,hm⟩:=pQ (l:=D) (i:=0) (by omega) (by rcases Nat.eq_zero_or_pos D.length with h0|h0;exact absurd (by simp[h0]) hn;omega);have go:∀r,zB (λq=>e42 q pD d 20000 0) r->zB (λq=>e18 q pD s 20000) (r.1,r.2.1,r.2.2.1):=λr h=>run _ (zB.ifF he' (zB.ifF hn' (zB.pure hd (h.bind zB.ret))));rcases zHF zLH (by rw[bY];omega) d (hD d hm) 20000 (by omega)with⟨R,k,k0,k1,⟨C,x,e,rfl,q1,q2,q3,q4⟩,h3,-⟩|⟨hsh,-⟩
 ·have e1:=go _ (h3 20000 0 k1 (by omega) (by omega));by_cases e0:e=0
  ·subst e0;have hOK:=q4 rfl;have hFo:zB (λq=>cV q C) true:=by obtain⟨_,_,_,_,_,_,_,_,_,_,_,_,_,_,h⟩:=hOK;exact h
   obtain⟨k',a1,a2,a3,a4⟩:=zZr zLH (by rw[bY];omega) (by omega) q3 q2 hOK;have b3:uL C 0 (pD.length:Int)=some pD:=by unfold uL;rw[if_pos (by omega)];simpa using a3
   have hc:=a4.2 200000 0 (by omega) (by omega) (by omega);refine e1.bind ?_;dsimp only;refine zB.ifF rfl ((zEN C q2 (λx h=>(q3 x h).1) hFo).bind (zB.ifT rfl (zB.ifF (decide_eq_false (by omega)) (zB.pure b3 ((zWC pD (by rw[bY];omega) λx h=>⟨zLH.he x h,zLH.hc x h⟩).bind (zB.ifT rfl ((zLr 200000 (by omega) (by omega)).bind ?_)))))));dsimp only;exact hc.bind (zB.ifT rfl (Q5.bind zB.ret))
  ·have hC:=q1 e0;subst hC;exact done x e e0 e1
 ·obtain⟨⟨C,x,e,L,U⟩,hr8,h8⟩:=hsh 0 (by omega) (by omega);have e1:=go _ hr8;have hC:C=[]/\e=8:=by
   by_cases hc:C=[];·exact⟨hc,by have h:(if C=[]then e else 0)=8:=h8;rw[if_pos hc]at h;exact h⟩
   ·have h:(if C=[]then e else 0)=8:=h8;rw[if_neg hc]at h;omega
  obtain⟨rfl,rfl⟩:=hC;exact done x 8 (by decide) e1
theorem zBI(s:ByteArray):CT prog 6 [] [at' s] (ab true) [] 0:=by obtain⟨q,hq⟩:=(zBH s).at;exact c6 _ hq
end Go.Proofs.YthncchbcdpbgaaaGreat
namespace Go.Ab
open Go Go.RowKit
def rdG(W:World):Gh:=⟨λ_=>none,λ_=>none,λb o=>∃v,W.cell? ⟨b,o,none⟩=some v,W,λb=>b<W.heap.size,λ_=>False⟩
theorem zZJ(W:World):yM (rdG W) (yV (vA 0) (V1 [])) W:=by
 refine⟨λ_=>⟨λ_=>.inr rfl,λ_=>⟨rfl,id⟩,λe=>e.elim⟩,⟨0,λ_ _=>rfl⟩,λ_ _ _ h=>?_,λ_ _ _ h=>?_,λ_ _ h=>⟨h,λi e=>by cases e⟩,λ_ _=>rfl,λ_ h=>?_,λ_ _ _ _ _ _ _ h=>?_,vZ.refl _ _,λ_ h=>h⟩;·cases h
 ·cases h
 ·cases h
 ·cases h
theorem zWF(W:World):zBn (0:Nat) (rdG W):=⟨λ_ _=>⟨rfl,id⟩,λ_=>rfl,λ_ _⟨_,h⟩=>World.block_lt_of_cell? W _ h,trivial⟩
end Go.Ab
