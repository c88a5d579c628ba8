/- Parts of the proof that the law returns true: walks of the functions, plain laws. -/
import Derived.Test.YtfbkefchjcocmaaGreatAbB4
set_option linter.unusedVariables false
set_option linter.unusedSimpArgs false
set_option linter.unusedSectionVars false
namespace Go.Proofs.YtfbkefchjcocmaaGreat
open Go Go.Ab
def cJ:Nat->List Tm->Int->Option Int
 |0,_,_=>none
 |qq+1,v3,v4=>
 if decide ((v3.length:Int)>0)then
 if decide (v4≤8192)then
 zS v3 (w64 ((v3.length:Int)-1))>>=fun x3=>
 gsl v3 0 (w64 ((v3.length:Int)-1))>>=fun x5=>
 yN 40 ([]:List Tm) x5>>=fun l7=>
 gsl x3.sub 0 (zSw (x3.sub.length:Int) 8193)>>=fun x10=>
 yN 40 l7 x10>>=fun l12=>
 cJ qq l12 (w64 (v4+1))
 else
 some v4
 else
 some v4
def e15(qq:Nat)(p0:Tm):Option Int:=
 cJ qq [p0] 0
theorem zTh:∀qq:Nat,(∀ {v3 v4 r},cJ qq v3 v4=some r->(∀j,dL 0 (pt 4069 Tryz.f15) (sp j 39 0 [(3,slv zG v3 .full),(4,ai v4)]) (⟨[],0,[],0,[]⟩) (fQ 0 (nQ 0 Tryz.f15 (ai r) [] 0) [.blk 0,.seq (pt 255 Tryz.f15)]))∧(∀j,dL 0 (pt 4069 Tryz.f15) (sp j 39 0 [(3,slv zG v3 (.st 0 3)),(4,ai v4)]) (⟨[],0,[0],1,[]⟩) (fQ 0 (nQ 0 Tryz.f15 (ai r) [] 0) [.blk 0,.seq (pt 255 Tryz.f15)]))):=by
 intro qq
 induction qq with
 |zero=>
  exact fun h=>nn h
 |succ qq ih=>
  intro v3 v4 r h
  rw[cJ]at h
  refine⟨?_,?_⟩
  obtain⟨h1,h⟩|⟨h1,h⟩:=spl h
  have k:=oB 1 h1 o0
  obtain⟨h2,h⟩|⟨h2,h⟩:=spl h
  obtain⟨x3,h4,h⟩:=zC h
  obtain⟨x5,h6,h⟩:=zC h
  obtain⟨l7,h8,h⟩:=zC h
  have k:=oF 5 (zHr (o:=.full) h6)<|oA 2 (xB (o:=.full) h4)<|oB 0 h2 k
  by_cases h9:List.length x5=0
  obtain⟨x10,h11,h⟩:=zC h
  obtain⟨l12,h13,h⟩:=zC h
  have k:=oA 4 (nB h11)<|oP 0 (pP h8 h9) k
  by_cases h14:List.length x10=0
  exact fun j=>lH 1 [] [] [] [3,4] (oD (dT l12)<|oP 0 (pP h13 h14) k) ((ih h).1)
  exact fun j=>lH 1 [] [] [0] [3,4] (oD (dT l12)<|oP 0 (vD h13 h14) k) ((ih h).2)
  obtain⟨x10,h11,h⟩:=zC h
  obtain⟨l12,h13,h⟩:=zC h
  have k:=oA 4 (nB h11)<|oP 0 (vD h8 h9) k
  by_cases h14:List.length x10=0
  exact fun j=>lH 1 [] [] [0] [3,4] (oD (dT l12)<|oP 0 (pP h13 h14) k) ((ih h).2)
  exact fun j=>lH 1 [] [] [1] [3,4] (oD (dT l12)<|oP 0 (vD h13 h14) k) ((ih h).2)
  obtain rfl:=sj h
  exact fun j=>lF 0 [] (oB 0 h2 k)
  obtain rfl:=sj h
  exact fun j=>lF 0 [] (oB 1 h1 o0)
  obtain⟨h1,h⟩|⟨h1,h⟩:=spl h
  have k:=oB 1 h1 o0
  obtain⟨h2,h⟩|⟨h2,h⟩:=spl h
  obtain⟨x3,h4,h⟩:=zC h
  obtain⟨x5,h6,h⟩:=zC h
  obtain⟨l7,h8,h⟩:=zC h
  have k:=oF 5 (zHr (o:=(.st 0 3)) h6)<|oA 2 (xB (o:=(.st 0 3)) h4)<|oB 0 h2 k
  by_cases h9:List.length x5=0
  obtain⟨x10,h11,h⟩:=zC h
  obtain⟨l12,h13,h⟩:=zC h
  have k:=oA 4 (nB h11)<|oP 0 (pP h8 h9) k
  by_cases h14:List.length x10=0
  exact fun j=>lH 1 [] [] [] [3,4] (oD (dT l12)<|oP 0 (pP h13 h14) k) ((ih h).1)
  exact fun j=>lH 1 [] [] [1] [3,4] (oD (dT l12)<|oP 0 (vD h13 h14) k) ((ih h).2)
  obtain⟨x10,h11,h⟩:=zC h
  obtain⟨l12,h13,h⟩:=zC h
  have k:=oA 4 (nB h11)<|oP 0 (vD h8 h9) k
  by_cases h14:List.length x10=0
  exact fun j=>lH 1 [] [] [1] [3,4] (oD (dT l12)<|oP 0 (pP h13 h14) k) ((ih h).2)
  exact fun j=>lH 1 [] [] [2] [3,4] (oD (dT l12)<|oP 0 (vD h13 h14) k) ((ih h).2)
  obtain rfl:=sj h
  exact fun j=>lF 0 [] (oB 0 h2 k)
  obtain rfl:=sj h
  exact fun j=>lF 0 [] (oB 1 h1 o0)
theorem c15{qq p0 r}(h:e15 qq p0=some r):Ct 15 [] [tmA p0] (ai r) [] 0:=⟨by
 unfold e15 at h
 exact tH ⟨Tryz.func15,rfl⟩ 0 [] [] [] [3,4] (oD (dT [p0])<|oS 1 (xI xN [p0]) o0) ((zTh _ h).1),⟨⟨tv,tv,⟨tv,dT _⟩,tv⟩,tv⟩,zB,tv,zB⟩
mutual
def jO:Nat->List Tm->Int->Option Int
 |0,_,_=>none
 |qq+1,v3,v4=>
 if decide ((v3.length:Int)>0)then
 if decide (v4<129)then
 jP qq v3 v4 [] 0
 else
 some v4
 else
 some v4
def jP:Nat->List Tm->Int->List Tm->Int->Option Int
 |0,_,_,_,_=>none
 |qq+1,v3,v4,v5,v6=>
 if decide (v6<(v3.length:Int))then
 zS v3 v6>>=fun x7=>
 yN 40 v5 x7.sub>>=fun l9=>
 jP qq v3 v4 l9 (w64 (v6+1))
 else
 jO qq v5 (w64 (v4+1))
end
def zNO(qq:Nat)(p0:Tm):Option Int:=
 e15 qq p0>>=fun r1=>
 if decide (r1>8192)then
 some 129
 else
 jO qq [p0] 0
theorem zVC:Qf 104 Tryz.f104:=⟨Tryz.func104,rfl⟩
theorem V4:∀qq:Nat,(∀ {v3 v4 r},jO qq v3 v4=some r->(∀j,dL 0 (pt 16357 Tryz.f104) (sp j 37 0 [(3,slv zG v3 .full),(4,ai v4)]) (⟨[],0,[],0,[]⟩) (fQ 0 (nQ 0 Tryz.f104 (ai r) [] 0) [.blk 0,.seq (pt 1023 Tryz.f104)]))∧(∀j,dL 0 (pt 16357 Tryz.f104) (sp j 37 0 [(3,slv zG v3 (.st 0 3)),(4,ai v4)]) (⟨[],0,[0],1,[]⟩) (fQ 0 (nQ 0 Tryz.f104 (ai r) [] 0) [.blk 0,.seq (pt 1023 Tryz.f104)])))∧(∀ {v3 v4 v5 v6 r},jP qq v3 v4 v5 v6=some r->(∀j,dL 0 (pt 268007349 Tryz.f104) (sp j 37 0 [(3,slv zG v3 .full),(4,ai v4),(5,slv zG v5 (.st 0 3)),(6,ai v6)]) (⟨[],0,[0],1,[]⟩) (fQ 0 (nQ 0 Tryz.f104 (ai r) [] 0) [.blk 2,.seq (pt 4187615 Tryz.f104),.blk 1,.loop (pt 16357 Tryz.f104),.blk 0,.seq (pt 1023 Tryz.f104)]))∧(∀j,dL 0 (pt 268007349 Tryz.f104) (sp j 37 0 [(3,slv zG v3 (.st 0 3)),(4,ai v4),(5,slv zG v5 (.st 1 3)),(6,ai v6)]) (⟨[],0,[0,1],2,[]⟩) (fQ 0 (nQ 0 Tryz.f104 (ai r) [] 0) [.blk 2,.seq (pt 4187615 Tryz.f104),.blk 1,.loop (pt 16357 Tryz.f104),.blk 0,.seq (pt 1023 Tryz.f104)]))):=by
 intro qq
 induction qq with
 |zero=>
  exact⟨fun h=>nn h,fun h=>nn h⟩
 |succ qq ih=>
  obtain⟨zDV,lS⟩:=ih
  refine⟨?_,?_⟩
  intro v3 v4 r h
  rw[jO]at h
  refine⟨?_,?_⟩
  obtain⟨h4,h⟩|⟨h4,h⟩:=spl h
  have k:=oB 1 h4 o0
  obtain⟨h5,h⟩|⟨h5,h⟩:=spl h
  exact fun j=>lH 1 [(none,5,3)] [] [0] [3,4,5,6] (oD (dT ([]:List Tm))<|oD (dT v3)<|oB 0 h5 k) ((lS h).1)
  obtain rfl:=sj h
  exact fun j=>lF 0 [] (oB 0 h5 k)
  obtain rfl:=sj h
  exact fun j=>lF 0 [] (oB 1 h4 o0)
  obtain⟨h4,h⟩|⟨h4,h⟩:=spl h
  have k:=oB 1 h4 o0
  obtain⟨h5,h⟩|⟨h5,h⟩:=spl h
  exact fun j=>lH 1 [(none,5,3)] [] [0,1] [3,4,5,6] (oD (dT ([]:List Tm))<|oD (dT v3)<|oB 0 h5 k) ((lS h).2)
  obtain rfl:=sj h
  exact fun j=>lF 0 [] (oB 0 h5 k)
  obtain rfl:=sj h
  exact fun j=>lF 0 [] (oB 1 h4 o0)
  intro v3 v4 v5 v6 r h
  rw[jP]at h
  refine⟨?_,?_⟩
  obtain⟨h6,h⟩|⟨h6,h⟩:=spl h
  obtain⟨x7,h8,h⟩:=zC h
  obtain⟨l9,h10,h⟩:=zC h
  have k:=oA 0 (xB (o:=.full) h8)<|oB 1 h6 o0
  by_cases h11:List.length x7.sub=0
  exact fun j=>lH 1 [] [] [0] [3,4,5,6] (oD (dT l9)<|oD (dT v3)<|oP 1 (pP h10 h11) k) ((lS h).1)
  exact fun j=>lH 1 [] [] [1] [3,4,5,6] (oD (dT l9)<|oD (dT v3)<|oP 1 (vD h10 h11) k) ((lS h).1)
  exact fun j=>lH 1 [] [] [0] [3,4] (oD (dT v5)<|oB 1 h6 o0) ((zDV h).2)
  obtain⟨h6,h⟩|⟨h6,h⟩:=spl h
  obtain⟨x7,h8,h⟩:=zC h
  obtain⟨l9,h10,h⟩:=zC h
  have k:=oA 0 (xB (o:=(.st 0 3)) h8)<|oB 1 h6 o0
  by_cases h11:List.length x7.sub=0
  exact fun j=>lH 1 [] [] [0,1] [3,4,5,6] (oD (dT l9)<|oD (dT v3)<|oP 1 (pP h10 h11) k) ((lS h).2)
  exact fun j=>lH 1 [] [] [0,2] [3,4,5,6] (oD (dT l9)<|oD (dT v3)<|oP 1 (vD h10 h11) k) ((lS h).2)
  exact fun j=>lH 1 [] [] [1] [3,4] (oD (dT v5)<|oB 1 h6 o0) ((zDV h).2)
theorem zXp{qq p0 r}(h:zNO qq p0=some r):Ct 104 [] [tmA p0] (ai r) [] 0:=⟨by
 unfold zNO at h
 obtain⟨r1,h2,h⟩:=zC h
 have k:=oC 1 [] (c15 h2) o0
 obtain⟨h3,h⟩|⟨h3,h⟩:=spl h
 obtain rfl:=sj h
 exact tF zVC 0 [] (oB 0 h3 k)
 exact tH zVC 0 [] [] [] [3,4] (oD (dT [p0])<|oS 1 (xI xN [p0])<|oB 0 h3 k) (((V4 _).1 h).1),⟨⟨tv,tv,⟨tv,dT _⟩,tv⟩,tv⟩,zB,tv,zB⟩
theorem jQ:∀a b:List Tm,yQ (a++b)=yQ a+yQ b
 | [],b=>by simp[yQ]
 |t::a,b=>by simp only[List.cons_append,yQ,jQ a b];omega
theorem nL:∀l:List Tm,l.length≤yQ l
 | []=>by simp[yQ]
 |t::l=>by rw[yQ];have:=nL l;have:=rJ t;simp;omega
theorem d7(t:Tm):t.nodes=1+yQ t.sub:=by cases t;rw[Tm.nodes,Tm.sub]
theorem zDW(t:Tm):t.high=1+wY t.sub:=by cases t;rw[Tm.high,Tm.sub]
theorem d8:∀a b:List Tm,wY (a++b)=max (wY a) (wY b)
 | [],b=>by simp[wY]
 |t::a,b=>by simp only[List.cons_append,wY,d8 a b];omega
theorem zNP{α:Type}{l:List α}{a b:Nat}(h1:a≤b)(h2:b≤l.length):gsl l (a:Int) (b:Int)=some ((l.drop a).take (b-a)):=by
 unfold gsl
 rw[if_pos (by omega),show ((b:Int)-(a:Int)).toNat=b-a by omega,show (a:Int).toNat=a by omega]
theorem zKu{α:Type}(l:List α)(x:α):zS (l++[x]) (l.length:Int)=some x:=by
 unfold zS
 rw[if_pos (by omega)];simp
theorem zKt:∀(m h:Nat) (todo:List Tm),h+m=8193->todo.length≤1+h*8193->Evt (fun q=>cJ q todo (h:Int)) ((min (h+yQ todo) 8193:Nat):Int):=by
 intro m
 induction m with
 |zero=>
  intro h todo hm hl
  refine Evt.succ ?_
  simp only[cJ]
  have:h=8193:=by omega
  subst this
  rcases todo with _|⟨x,todo⟩
  ·exact Evt.ifF (by simp) (Evt.ret.eq (by simp))
  ·refine Evt.ifT (by simp<;>omega) (Evt.ifF (by simp) (Evt.ret.eq ?_))
   have:min (8193+yQ (x::todo)) 8193=8193:=by omega
   rw[this]
 |succ m ih=>
  intro h todo hm hl
  refine Evt.succ ?_
  simp only[cJ]
  rcases List.eq_nil_or_concat todo with rfl|⟨ini,x,rfl⟩
  ·refine Evt.ifF (by simp) (Evt.ret.eq ?_)
   have:min (h+yQ []) 8193=h:=by rw[yQ];omega
   rw[this]
  ·simp only[List.concat_eq_append]at hl ⊢
   have hlen:(ini++[x]).length=ini.length+1:=by simp
   have hb:h*8193≤8192*8193:=Nat.mul_le_mul_right _ (by omega)
   have e1:w64 (((ini++[x]).length:Int)-1)=(ini.length:Int):=by rw[yJ (by omega) (by omega),hlen];omega
   refine Evt.ifT (by simp<;>omega) (Evt.ifT (by simp<;>omega) ?_)
   rw[e1]
   refine Evt.pure (zKu ini x) ?_
   have e2:gsl (ini++[x]) 0 (ini.length:Int)=some ini:=by
    have:=zNP (l:=ini++[x]) (a:=0) (b:=ini.length) (by omega) (by omega)
    simpa using this
   refine Evt.pure e2 (Evt.pure (yG (by simp<;>omega)) ?_)
   have e3:zSw (x.sub.length:Int) 8193=((min x.sub.length 8193:Nat):Int):=by unfold zSw;split<;>omega
   rw[e3]
   have e4:=zNP (l:=x.sub) (a:=0) (b:=min x.sub.length 8193) (by omega) (by omega)
   refine Evt.pure (by simpa using e4) (Evt.pure (yG (by simp<;>omega)) ?_)
   rw[zW h (by omega)]
   refine(ih (h+1) _ (by omega) (by simp<;>omega)).eq ?_
   have hn:=d7 x
   simp only[List.nil_append,jQ,yQ,Nat.add_zero]
   by_cases hs:x.sub.length≤8193
   ·rw[show min x.sub.length 8193=x.sub.length by omega,List.take_length]
    omega
   ·have h1:=nL (x.sub.take (min x.sub.length 8193))
    have h2:=nL x.sub
    simp only[List.length_take]at h1
    omega
theorem zDX(t:Tm):Evt (fun q=>e15 q t) ((min t.nodes 8193:Nat):Int):=by
 simp only[e15]
 refine(zKt 8193 0 [t] (by omega) (by simp)).eq ?_
 simp[yQ]
theorem d9:∀l:List Tm,l≠[]->wY l=1+wY (l.flatMap Tm.sub)
 | [t],_=>by simp[wY,zDW t]
 |t::u::l,_=>by
  have h1:=d9 (u::l) (by simp)
  have h2:(t::u::l).flatMap Tm.sub=t.sub++(u::l).flatMap Tm.sub:=rfl
  rw[wY,h1,h2,d8,zDW t];omega
theorem V5:∀l:List Tm,yQ l=l.length+yQ (l.flatMap Tm.sub)
 | []=>by simp[yQ]
 |t::l=>by rw[yQ,List.flatMap_cons,jQ,V5 l,d7 t];simp;omega
theorem zGs:∀(m d:Nat) (l:List Tm),d+m=129->yQ l≤8192->Evt (fun q=>jO q l (d:Int)) ((min (d+wY l) 129:Nat):Int):=by
 intro m
 induction m with
 |zero=>
  intro d l hm hl
  refine Evt.succ ?_
  simp only[jO]
  have:d=129:=by omega
  subst this
  rcases l with _|⟨x,l⟩
  ·exact Evt.ifF (by simp) (Evt.ret.eq (by simp))
  ·refine Evt.ifT (by simp<;>omega) (Evt.ifF (by simp) (Evt.ret.eq ?_))
   have:min (129+wY (x::l)) 129=129:=by omega
   rw[this]
 |succ m ih=>
  intro d l hm hl
  refine Evt.succ ?_
  simp only[jO]
  by_cases h:l=[]
  ·subst h
   refine Evt.ifF (by simp) (Evt.ret.eq ?_)
   have:min (d+wY []) 129=d:=by rw[wY];omega
   rw[this]
  ·have hpos:0<l.length:=List.length_pos_iff.2 h
   refine Evt.ifT (by simp<;>omega) (Evt.ifT (by simp<;>omega) ?_)
   have hfn:=V5 l
   have key:∀(r:List Tm) (v:Nat) (acc:List Tm),l.drop v=r->acc.length+yQ (r.flatMap Tm.sub)≤8192->Evt (fun q=>jP q l (d:Int) acc (v:Int)) ((min (d+1+wY (acc++r.flatMap Tm.sub)) 129:Nat):Int)∨yQ (acc++r.flatMap Tm.sub)>8192:=by
    intro r
    induction r with
    |nil=>
     intro v acc hd ha
     by_cases hn:yQ acc≤8192
     ·refine .inl (Evt.succ ?_)
      simp only[jP]
      refine Evt.ifF (zZ hd) ?_
      rw[zW d (by omega)]
      refine(ih (d+1) acc (by omega) hn).eq (by simp)
     ·exact .inr (by simp<;>omega)
    |cons x r ihr=>
     intro v acc hd ha
     have hlt:=yC hd
     have hll:=nL l
     have hsl:=nL x.sub
     rw[List.flatMap_cons,jQ]at ha
     rcases ihr (v+1) (acc++x.sub) (zU hd) (by simp<;>omega)with h1|h1
     ·refine .inl (Evt.succ ?_)
      simp only[jP]
      refine Evt.ifT (zY hd) (Evt.pure (zX hd) (Evt.pure (yG (by omega)) ?_))
      rw[zW v (by omega)]
      refine h1.eq ?_
      rw[List.flatMap_cons,List.append_assoc]
     ·refine .inr ?_
      rw[List.flatMap_cons,←List.append_assoc];exact h1
   rcases key l 0 [] rfl (by simp<;>omega)with h1|h1
   ·refine h1.eq ?_
    rw[d9 l h];simp;omega
   ·simp only[List.nil_append]at h1;omega
def zNQ(t:Tm):Int:=if t.nodes≤8192 then((min t.high 129:Nat):Int)else 129
theorem zKs(t:Tm):Evt (fun q=>zNO q t) (zNQ t):=by
 simp only[zNO]
 refine(zDX t).bind ?_
 unfold zNQ
 by_cases h:t.nodes≤8192
 ·rw[if_pos h]
  refine Evt.ifF (by simp<;>omega) ((zGs 129 0 [t] (by omega) (by simpa[yQ]using h)).eq ?_)
  simp[wY]
 ·rw[if_neg h]
  exact Evt.ifT (by simp<;>omega) Evt.ret
theorem B0{p:Tm}{c:Nat}{m:Int}{X:Nat->Option Bool}{r:Bool}(h:p.sub.length=c->0≤p.n->p.n≤m->Evt X r) :
  Evt (fun q=>if ((List.length p.sub:Int) != (c:Int))=true then some false else if decide (p.n<0)=true then some false else if decide (p.n>m)=true then some false else X q)
   (decide (p.sub.length=c)&&decide (0≤p.n)&&decide (p.n≤m)&&r):=by
 by_cases h1:p.sub.length=c
 ·refine Evt.ifF (by simp<;>omega) ?_
  by_cases h2:p.n<0
  ·exact Evt.ifT (by simpa using h2) (Evt.ret.eq (by simp<;>omega))
  ·refine Evt.ifF (by simpa using h2) ?_
   by_cases h3:p.n>m
   ·exact Evt.ifT (by simpa using h3) (Evt.ret.eq (by simp<;>omega))
   ·refine Evt.ifF (by simpa using h3) ((h h1 (by omega) (by omega)).eq ?_)
    simp[h1,show 0≤p.n by omega,show p.n≤m by omega]
 ·exact Evt.ifT (by simp<;>omega) (Evt.ret.eq (by simp[h1]))
def zBc(qq:Nat)(q0 q1 p1:Int):Option Int:=
 some p1
theorem zQG{qq q0 q1 p1 r}(h:zBc qq q0 q1 p1=some r):Ct 59 [.cells [ai q0,ai q1]] [.mp 0 0,ai p1] (.tup []) [.cells [ai r,ai q1]] 0:=⟨by
 unfold zBc at h
 obtain rfl:=sj h
 exact tF ⟨Tryz.func59,rfl⟩ 1 [0] (o0),⟨(lz rfl),tv,tv⟩,(zA ⟨tv,tv,tv⟩ zB),tv,(zA ⟨tv,tv,tv⟩ zB)⟩
def e28(qq:Nat)(p0:Int):Option ((Int) ⊕ (Int×Int×Int)):=
 if decide (p0<0)then
 some (.inl 5)
 else
 if decide (p0>1048576)then
 some (.inl 5)
 else
 zBc qq 0 0 p0>>=fun r3=>
 some (.inr (0,r3,0))
abbrev zVD (p0 r:Int) (C:Cf):Prop:=C 28 [] [ai p0] (.tup [.val (.pointer none),ai r]) [] 0
abbrev zVE (p0:Int) (r:Int×Int×Int) (C:Cf):Prop:=C 28 [] [ai p0] (.tup [.mp 0 0,ai r.1]) [.cells [ai r.2.1,ai r.2.2]] 0
theorem q28:Qf 28 Tryz.f28:=⟨Tryz.func28,rfl⟩
theorem c28{qq p0 r}(h:e28 qq p0=some r):(match (generalizing:=false) r with | .inl x=>zVD p0 x Ct | .inr x=>zVE p0 x Ct):=by
 unfold e28 at h
 obtain⟨h1,h⟩|⟨h1,h⟩:=spl h
 cases h
 exact⟨tF q28 0 [] (oB 0 h1 o0),⟨tv,tv⟩,zB,⟨tv,tv,tv⟩,zB⟩
 have k:=oB 0 h1 o0
 obtain⟨h2,h⟩|⟨h2,h⟩:=spl h
 cases h
 exact⟨tF q28 0 [] (oB 0 h2 k),⟨tv,tv⟩,zB,⟨tv,tv,tv⟩,zB⟩
 obtain⟨r3,h4,h⟩:=zC h
 cases h
 exact⟨tF q28 0 [0] (oC 0 [0] (zQG h4)<|oB 0 h2 k),⟨tv,tv⟩,zB,⟨(lz rfl),tv,tv⟩,(zA ⟨tv,tv,tv⟩ zB)⟩
theorem zQH(f:Int)(h0:0≤f)(h1:f≤1048576):Evt (fun q=>e28 q f) (.inr (0,f,0)):=by
 simp only[e28]
 exact Evt.ifF (decide_eq_false (by omega)) (Evt.ifF (decide_eq_false (by omega)) (Evt.bind (a:=f) (Evt.mk fun _=>rfl) Evt.ret))
theorem Br.e8{N:ByteArray->Bool}{l:List Ent}(hE:wS N l){x y:Tm}{e k:Int}(h:Br l x y e k):zL x=true->e≠8:=by
 induction h with
 |stop _=>exact fun _=>by decide
 | @redE x Y e a h=>
  intro hs
  unfold uE at a
  split at a
  ·injection a with h1 h2
   rw[←h2];exact zHE _ _
  ·split at a
   ·injection a with h1 h2
    rw[←h2];decide
   ·split at a
    ·split at a<;>cases a
    ·split at a
     ·split at a<;>cases a
     ·cases a
 |redL _ _=>exact fun _=>by decide
 |red _ hY _ ih=>exact fun _=>ih hY
 |tgtE a _ _ ih=>exact fun hs=>ih (yS hs (O2 hE hs a).1)
 |tgtN _ _ _ _=>exact fun _=>by decide
 | @tgtRE x a z Y e k ha hb hr he ih=>
  intro hs
  have hm:=(O2 hE hs ha).1
  have hz:=hb.shaped (yS hs hm) rfl
  have hox:OkA (arT x):=fun z hz=>zV (yS hs hz)
  have hoy:OkA (arT z):=fun w hw=>zV (yS hz hw)
  have hlx:(arT x).length≤8192:=by
   have h:=zQ hs
   have:=uV _ h.2.2
   omega
  have hly:(arT z).length≤8192:=by
   have h:=zQ hz
   have:=uV _ h.2.2
   omega
  unfold tE at hr
  split at hr
  ·split at hr
   ·simp only[Option.some.injEq,Prod.mk.injEq]at hr
    rw[←hr.2]
    exact(gN l (hdT x).n ((arT z).drop (ent l (hdT z).n).pars.toNat) hE (hoy.drop _) (by rw[List.length_drop];omega)).2.2.1
   ·cases hr
  ·split at hr
   ·simp only[Option.some.injEq,Prod.mk.injEq]at hr
    rw[←hr.2]
    exact(cI l (hdT x).n (nth (hdT x).sub 0).n (hdT z).n ((arT x).take ((ent l (hdT x).n).pars+1+(ent l (hdT x).n).cons.length).toNat) ((arT z).drop (ent l (hdT x).n).pars.toNat) hE (hox.take _) (hoy.drop _) (by rw[List.length_take];omega) (by rw[List.length_drop];omega)).2.2.1
   ·cases hr
 |tgtRL _ _ _ _ _=>exact fun _=>by decide
 |tgtR a b c hY _ ih ih2=>exact fun _=>ih2 hY
theorem Br.zero{l:List Ent}{x y:Tm}{e k:Int}(h:Br l x y e k):e=0->k≤0->y=x:=by
 cases h with
 |stop _=>exact fun _ _=>rfl
 |redE _ h=>exact fun he=>absurd he h
 |redL _ _=>exact fun he=>absurd he (by decide)
 |red _ _ h=>exact fun _ hk=>by have:=h.nn;omega
 |tgtE _ _ h=>exact fun he=>absurd he h
 |tgtN _ _ _=>exact fun _ _=>rfl
 |tgtRE _ _ _ h=>exact fun he=>absurd he h
 |tgtRL _ _ _ _=>exact fun he=>absurd he (by decide)
 |tgtR _ h1 _ _ h2=>exact fun _ hk=>by have:=h1.nn;have:=h2.nn;omega
theorem Ou.evt0{ρ:Type}{f:Int->Int->Nat->Option ρ}{er:ρ->Int}{Q:(Int->Int->ρ)->Int->Prop}{S:Prop}{l:Int}{R:Int->Int->ρ}(h:∀L U,Evt (f L U) (R L U))(h0:0≤l)(k:Q R 0):Ou f er Q S l:=
 .inl ⟨R,0,by omega,h0,k,fun L U _ _ _=>by rw[show L-0=L by omega,show U+0=U by omega];exact h L U,fun L U _ _=>by omega⟩
abbrev PE:=(Tm×Int)×(Tm×Int)
def qW(t:Tm):Tm×Int:=
 if t.k=4 then(nth t.sub 1,0)else
  (.mk 5 0 [(vU t 1 0).1,.mk 1 0 []],if (vU t 1 0).2=0 then(if zL (.mk 5 0 [(vU t 1 0).1,.mk 1 0 []])=true then 0 else 2)else(vU t 1 0).2)
def wL(l:List Ent)(c:Int):List Int:=(ent l (ent l c).fam).fields
def tW(l:List Ent)(t:Tm):Prop:=vW l t∧wL l (hdT t).n≠[]
instance (l:List Ent) (t:Tm):Decidable (tW l t):=inferInstanceAs (Decidable (_∧_))
def uX(l:List Ent)(t:Tm)(c:Int)(i:Nat)(pars:List Tm):Tm×Int:=
 if tW l t∧(hdT t).n=c then(nth (arT t) ((pars.length+i:Nat):Int),0)else
  (.mk 5 0 [apT (.mk 6 (((wL l c)[i]?).getD (-1)) []) pars,t],if zL (.mk 5 0 [apT (.mk 6 (((wL l c)[i]?).getD (-1)) []) pars,t])=true then 0 else 2)
def lT(l:List Ent)(t:Tm):List Tm:=(arT t).take (ent l (hdT t).n).pars.toNat
def zDY(l:List Ent)(x y:Tm)(c:Int)(pars:List Tm):Nat->Nat->List PE
 |0,_=>[]
 |m+1,i=>(uX l x c i pars,uX l y c i pars)::zDY l x y c pars m (i+1)
def zDZ:List Tm->List Tm->List PE
 |a::l,b::m=>((a,0),(b,0))::zDZ l m
 |_,_=>[]
def zQI(x y:Tm):List PE:=(if (hdT x).k=3 then [((nth (hdT x).sub 0,0),(nth (hdT y).sub 0,0)),((nth (hdT x).sub 1,0),(nth (hdT y).sub 1,0))]else [])++zDZ (arT x) (arT y)
inductive Hd where
 |ans (b:Bool)
 |all (ps:List PE)
 |pi (a b c d:Tm)
def gO(x y:Tm):Hd:=
 if (hdT x).k≠(hdT y).k∨(hdT x).n≠(hdT y).n∨(arT x).length≠(arT y).length∨((hdT x).k=7∧(nth (hdT x).sub 0).n≠(nth (hdT y).sub 0).n)then .ans false else .all (zQI x y)
def sG(l:List Ent)(m:Bool)(x y:Tm):Hd:=
 if x.k=4∨y.k=4 then .all [(qW x,qW y)]
 else if tW l x then(if tW l y∧(hdT x).n≠(hdT y).n then .ans false else .all (zDY l x y (hdT x).n (lT l x) (wL l (hdT x).n).length 0))
 else if tW l y then .all (zDY l x y (hdT y).n (lT l y) (wL l (hdT y).n).length 0)
 else if x.k≠y.k then .ans false
 else if x.k=3 then .pi (nth x.sub 0) (nth y.sub 0) (nth x.sub 1) (nth y.sub 1)
 else if x.k=2 then .ans (if m=true then decide (x.n≤y.n)else x.n==y.n)
 else gO x y
def uI(C:Tm->Tm->Bool->Int->Prop):List PE->Bool->Int->Prop
 | [],b,k=>b=true∧k=0
 |p::r,b,k=>p.1.2=0∧p.2.2=0∧∃b1 k1,C p.1.1 p.2.1 b1 k1∧((b1=false∧b=false∧k=k1)∨(b1=true∧∃k2,uI C r b k2∧k=k1+k2))
def HdR(C:Bool->Tm->Tm->Bool->Int->Prop)(m:Bool):Hd->Bool->Int->Prop
 | .ans b0,b,k=>b=b0∧k=0
 | .all ps,b,k=>uI (C false) ps b k
 | .pi a a' c c',b,k=>∃b1 k1,C false a a' b1 k1∧((b1=false∧b=false∧k=k1)∨(b1=true∧∃k2,C m c c' b k2∧k=k1+k2))
def CvN(l:List Ent):Nat->Bool->Tm->Tm->Bool->Int->Prop
 |0,_,_,_,_,_=>False
 |n+1,m,x,y,b,k=>vR l x∧vR l y∧∃x' k1 y' k2 k3,Br l x x' 0 k1∧Br l y y' 0 k2∧HdR (CvN l n) m (sG l m x' y') b k3∧k=k1+k2+k3
def Cv(l:List Ent)(m:Bool)(x y:Tm)(b:Bool)(k:Int):Prop:=∃n,CvN l n m x y b k
section
variable {C C':Tm->Tm->Bool->Int->Prop}
theorem uI.mono(h:∀x y b k,C x y b k->C' x y b k):∀ {ps:List PE} {b:Bool} {k:Int},uI C ps b k->uI C' ps b k
 | [],_,_,a=>a
 |_::_,_,_,⟨a,b,b1,k1,c,d⟩=>⟨a,b,b1,k1,h _ _ _ _ c,d.imp id fun⟨e,k2,f,g⟩=>⟨e,k2,uI.mono h f,g⟩⟩
theorem uI.nn(h:∀x y b k,C x y b k->0≤k):∀ {ps:List PE} {b:Bool} {k:Int},uI C ps b k->0≤k
 | [],_,_,⟨_,a⟩=>by omega
 |_::_,_,_,⟨_,_,b1,k1,c,d⟩=>by
  have:=h _ _ _ _ c
  rcases d with⟨_,_,d⟩|⟨_,k2,d,e⟩
  ·omega
  ·have:=uI.nn h d;omega
theorem uI.det(h:∀x y b k b' k',C x y b k->C' x y b' k'->b'=b∧k'=k):∀ {ps:List PE} {b b':Bool} {k k':Int},uI C ps b k->uI C' ps b' k'->b'=b∧k'=k
 | [],_,_,_,_,⟨a,b⟩,⟨c,d⟩=>by subst a;subst c;exact⟨rfl,by omega⟩
 |_::_,_,_,_,_,⟨_,_,b1,k1,c,d⟩,⟨_,_,b1',k1',c',d'⟩=>by
  obtain⟨rfl,rfl⟩:=h _ _ _ _ _ _ c c'
  rcases d with⟨d1,d2,d3⟩|⟨d1,k2,d2,d3⟩
  ·rcases d' with⟨_,e2,e3⟩|⟨e1,_⟩
   ·subst d2;subst e2;exact⟨rfl,by omega⟩
   ·rw[d1]at e1;cases e1
  ·rcases d' with⟨e1,_⟩|⟨_,k2',e2,e3⟩
   ·rw[d1]at e1;cases e1
   ·obtain⟨rfl,rfl⟩:=uI.det h d2 e2;exact⟨rfl,by omega⟩
end
section
variable {C C':Bool->Tm->Tm->Bool->Int->Prop} {m:Bool}
theorem HdR.mono(h:∀m x y b k,C m x y b k->C' m x y b k):∀ {q:Hd} {b:Bool} {k:Int},HdR C m q b k->HdR C' m q b k
 | .ans _,_,_,a=>a
 | .all _,_,_,a=>uI.mono (h false) a
 | .pi _ _ _ _,_,_,⟨b1,k1,c,d⟩=>⟨b1,k1,h _ _ _ _ _ c,d.imp id fun⟨e,k2,f,g⟩=>⟨e,k2,h _ _ _ _ _ f,g⟩⟩
theorem HdR.nn(h:∀m x y b k,C m x y b k->0≤k):∀ {q:Hd} {b:Bool} {k:Int},HdR C m q b k->0≤k
 | .ans _,_,_,⟨_,a⟩=>by omega
 | .all _,_,_,a=>uI.nn (h false) a
 | .pi _ _ _ _,_,_,⟨b1,k1,c,d⟩=>by
  have:=h _ _ _ _ _ c
  rcases d with⟨_,_,d⟩|⟨_,k2,d,e⟩
  ·omega
  ·have:=h _ _ _ _ _ d;omega
theorem HdR.det(h:∀m x y b k b' k',C m x y b k->C' m x y b' k'->b'=b∧k'=k):∀ {q:Hd} {b b':Bool} {k k':Int},HdR C m q b k->HdR C' m q b' k'->b'=b∧k'=k
 | .ans _,_,_,_,_,⟨a,b⟩,⟨c,d⟩=>by subst a;subst c;exact⟨rfl,by omega⟩
 | .all _,_,_,_,_,a,b=>uI.det (h false) a b
 | .pi _ _ _ _,_,_,_,_,⟨b1,k1,c,d⟩,⟨b1',k1',c',d'⟩=>by
  obtain⟨rfl,rfl⟩:=h _ _ _ _ _ _ _ c c'
  rcases d with⟨d1,d2,d3⟩|⟨d1,k2,d2,d3⟩
  ·rcases d' with⟨_,e2,e3⟩|⟨e1,_⟩
   ·subst d2;subst e2;exact⟨rfl,by omega⟩
   ·rw[d1]at e1;cases e1
  ·rcases d' with⟨e1,_⟩|⟨_,k2',e2,e3⟩
   ·rw[d1]at e1;cases e1
   ·obtain⟨rfl,rfl⟩:=h _ _ _ _ _ _ _ d2 e2;exact⟨rfl,by omega⟩
end
theorem CvN.mono{l:List Ent}:∀ {n:Nat} {m:Bool} {x y:Tm} {b:Bool} {k:Int},CvN l n m x y b k->CvN l (n+1) m x y b k
 |0,_,_,_,_,_,h=>h.elim
 |n+1,m,x,y,b,k,⟨r1,r2,x',k1,y',k2,k3,h1,h2,h3,h4⟩=>⟨r1,r2,x',k1,y',k2,k3,h1,h2,h3.mono (fun _ _ _ _ _ h=>CvN.mono h),h4⟩
theorem CvN.le{l:List Ent}{n n':Nat}{m:Bool}{x y:Tm}{b:Bool}{k:Int}(h:CvN l n m x y b k)(hm:n≤n'):CvN l n' m x y b k:=by
 induction hm with
 |refl=>exact h
 |step _ ih=>exact ih.mono
theorem CvN.nn{l:List Ent}:∀ {n:Nat} {m:Bool} {x y:Tm} {b:Bool} {k:Int},CvN l n m x y b k->0≤k
 |0,_,_,_,_,_,h=>h.elim
 |n+1,m,x,y,b,k,⟨r1,r2,x',k1,y',k2,k3,h1,h2,h3,h4⟩=>by
  have:=h1.nn
  have:=h2.nn
  have:=h3.nn (fun _ _ _ _ _ h=>CvN.nn h)
  omega
theorem CvN.det{l:List Ent}:∀ {n n':Nat} {m:Bool} {x y:Tm} {b b':Bool} {k k':Int},CvN l n m x y b k->CvN l n' m x y b' k'->b'=b∧k'=k
 |0,_,_,_,_,_,_,_,_,h,_=>h.elim
 |_+1,0,_,_,_,_,_,_,_,_,h=>h.elim
 |n+1,n'+1,m,x,y,b,b',k,k',⟨_,_,x',k1,y',k2,k3,h1,h2,h3,h4⟩,⟨_,_,x1',j1,y1',j2,j3,g1,g2,g3,g4⟩=>by
  obtain⟨rfl,-,rfl⟩:=h1.det g1
  obtain⟨rfl,-,rfl⟩:=h2.det g2
  obtain⟨rfl,rfl⟩:=HdR.det (C:=CvN l n) (C':=CvN l n') (fun _ _ _ _ _ _ _ a b=>CvN.det a b) h3 g3
  exact⟨rfl,by omega⟩
theorem Cv.det{l:List Ent}{m:Bool}{x y:Tm}{b b':Bool}{k k':Int}:Cv l m x y b k->Cv l m x y b' k'->b'=b∧k'=k:=fun⟨_,a⟩ ⟨_,b⟩=>a.det b
theorem Cv.nn{l:List Ent}{m:Bool}{x y:Tm}{b:Bool}{k:Int}:Cv l m x y b k->0≤k:=fun⟨_,a⟩=>a.nn
theorem uI.bound{l:List Ent}:∀ {ps:List PE} {b:Bool} {k:Int},uI (Cv l false) ps b k->∃n,uI (CvN l n false) ps b k
 | [],_,_,a=>⟨0,a⟩
 |_::_,_,_,⟨a,b,b1,k1,⟨n,c⟩,d⟩=>by
  rcases d with d|⟨e,k2,f,g⟩
  ·exact⟨n,a,b,b1,k1,c,.inl d⟩
  ·obtain⟨n',f⟩:=uI.bound f
   exact⟨max n n',a,b,b1,k1,c.le (by omega),.inr ⟨e,k2,f.mono (fun _ _ _ _ h=>h.le (by omega)),g⟩⟩
theorem HdR.bound{l:List Ent}{m:Bool}:∀ {q:Hd} {b:Bool} {k:Int},HdR (Cv l) m q b k->∃n,HdR (CvN l n) m q b k
 | .ans _,_,_,a=>⟨0,a⟩
 | .all _,_,_,a=>uI.bound a
 | .pi _ _ _ _,_,_,⟨b1,k1,⟨n,c⟩,d⟩=>by
  rcases d with d|⟨e,k2,⟨n',f⟩,g⟩
  ·exact⟨n,b1,k1,c,.inl d⟩
  ·exact⟨max n n',b1,k1,c.le (by omega),.inr ⟨e,k2,f.le (by omega),g⟩⟩
theorem Cv.mk{l:List Ent}{m:Bool}{x y x' y':Tm}{b:Bool}{k1 k2 k3:Int}(r1:vR l x)(r2:vR l y)(h1:Br l x x' 0 k1)(h2:Br l y y' 0 k2)(h3:HdR (Cv l) m (sG l m x' y') b k3):Cv l m x y b (k1+k2+k3):=by
 obtain⟨n,h3⟩:=h3.bound
 exact⟨n+1,r1,r2,x',k1,y',k2,k3,h1,h2,h3,rfl⟩
theorem Cv.inv{l:List Ent}{m:Bool}{x y:Tm}{b:Bool}{k:Int}(h:Cv l m x y b k):vR l x∧vR l y∧∃x' k1 y' k2 k3,Br l x x' 0 k1∧Br l y y' 0 k2∧HdR (Cv l) m (sG l m x' y') b k3∧k=k1+k2+k3:=by
 obtain⟨n,h⟩:=h
 cases n with
 |zero=>exact h.elim
 |succ n=>
  obtain⟨r1,r2,x',k1,y',k2,k3,h1,h2,h3,h4⟩:=h
  exact⟨r1,r2,x',k1,y',k2,k3,h1,h2,h3.mono (fun _ _ _ _ _ h=>⟨n,h⟩),h4⟩
def nwT(l:List Ent)(k n:Int):Nat:=if k=4 then 3 else if k=6∧(ent l n).kind=2 then 2 else 1
mutual
def wtT(l:List Ent):Tm->Nat
 | .mk k n s=>nwT l k n+wtL l s
def wtL(l:List Ent):List Tm->Nat
 | []=>0
 |t::s=>wtT l t+wtL l s
end
theorem F6(l:List Ent)(k n:Int):1≤nwT l k n∧nwT l k n≤3:=by unfold nwT;split<;>(try split)<;>omega
theorem zBb(l:List Ent):∀t:Tm,1≤wtT l t
 | .mk k n s=>by rw[wtT];have:=F6 l k n;omega
theorem zBa(l:List Ent):∀ {s:List Tm} {x:Tm},x∈s->wtT l x≤wtL l s
 |a::s,x,h=>by
  rw[wtL]
  rcases List.mem_cons.1 h with rfl|h
  ·omega
  ·have:=zBa l h;omega
theorem zBA(l:List Ent):∀a b:List Tm,wtL l (a++b)=wtL l a+wtL l b
 | [],b=>by simp[wtL]
 |t::a,b=>by simp only[List.cons_append,wtL,zBA l a b];omega
mutual
theorem zRQ(l:List Ent):∀(t:Tm) (b c k:Int),wtT l (lfT t b c k)≤wtT l t
 | .mk kd n s,b,c,k=>by
  rw[lfT]
  split
  ·rename_i h
   rw[wtT,wtT,wtL]
   have e:∀m,nwT l 1 m=1:=fun m=>by unfold nwT;simp
   have:=(F6 l kd n).1
   rw[e];omega
  ·rw[wtT,wtT]
   have:=zNR l s kd 0 b c k
   omega
theorem zNR(l:List Ent):∀(s:List Tm) (kd:Int) (i:Nat) (b c k:Int),wtL l (lfL s kd i b c k)≤wtL l s
 | [],_,_,_,_,_=>by rw[lfL];omega
 |t::s,kd,i,b,c,k=>by
  rw[lfL,wtL,wtL]
  have:=zRQ l t (xO kd i b) c k
  have:=zNR l s kd (i+1) b c k
  omega
end
theorem zRR(l:List Ent):∀(s:List Tm) (f:Tm),wtT l (apT f s)=wtT l f+wtL l s+s.length
 | [],f=>by rw[apT,wtL];simp
 |a::s,f=>by
  have e:nwT l 5 0=1:=by unfold nwT;simp
  rw[apT,zRR l s,wtT,wtL,wtL,wtL,wtL,e,List.length_cons];omega
theorem V6(l:List Ent):∀t:Tm,xA t=true->wtT l t=wtT l (hdT t)+wtL l (arT t)+(arT t).length:=by
 refine fU ?_ ?_
 ·intro t hg hk
  rw[aF hk,fT hk,wtL];simp
 ·intro n a b hg ha hb ih
  have e:nwT l 5 n=1:=by unfold nwT;simp
  rw[aE,fS,wtT,wtL,wtL,wtL,e,zBA,wtL,wtL,List.length_append,ih];simp;omega
theorem F7(l:List Ent)(t:Tm):wtT l t=nwT l t.k t.n+wtL l t.sub:=by cases t;rw[wtT,Tm.k,Tm.n,Tm.sub]
abbrev frT (t:Tm):List Int:=sQ t 8 8
theorem qF{t:Tm}{Q:Int->Prop}:(∀x∈frT t,Q x)↔yT (fun k n=>k=8->Q n) t:=by
 rw[gH (by decide) (by decide)]
 exact⟨tR fun k n h e=>h (.inl e),tR fun k n h e=>h (by omega)⟩
theorem zEz{a t:Tm}{n:Int}{x:Int}(h:x∈frT (naT a n t 0)):x∈frT a∨(x∈frT t∧x≠n):=by
 have:=(qF (Q:=fun x=>x∈frT a∨(x∈frT t∧x≠n)) (t:=naT a n t 0)).2
 refine this (zBg ?_ t 0 ?_) x h
 ·exact tR (fun k n h e=>.inl (h e)) (qF.1 fun x h=>h)
 ·refine tR (fun k m h=>?_) (qF.1 fun x (h:x∈frT t)=>h)
  by_cases e:k=8∧m=n
  ·exact .inr e
  ·exact .inl fun e8=>.inr ⟨h e8,fun e2=>e ⟨e8,e2⟩⟩
structure gP (c:List zD):Prop where
 len:c.length≤256
 each:∀v∈c,0≤v.n_∧v.n_≤1048576∧zL v.type_=true∧∀j,¬j∈lvT v.type_ 0
 nd:(c.map (·.n_)).Nodup
 self:∀v∈c,¬v.n_∈frT v.type_
 ord:c.Pairwise fun v w=>¬w.n_∈frT v.type_
structure zEy (c:List zD) (n:Int) (t:Tm) (d:List zD):Prop where
 right:gP d
 has:n∈c.map (·.n_)
 perm:(d.map (·.n_)).Perm ((c.map (·.n_)).erase n)
 typ:∀v∈d,∃w∈c,w.n_=v.n_∧w.n_≠n∧v.type_=naT t n w.type_ 0
theorem zEy.length{c d:List zD}{n:Int}{t:Tm}(h:zEy c n t d):d.length+1=c.length:=by
 have h1:=h.perm.length_eq
 rw[List.length_map,List.length_erase_of_mem h.has,List.length_map]at h1
 have h2:0<(c.map (·.n_)).length:=List.length_pos_of_mem h.has
 rw[List.length_map]at h2
 omega
structure gQ (l:List Ent) (c:List zD) (td:List zH) (so:List zI) (N:Nat):Prop where
 ctx:gP c
 typ:∀v∈c,vM l v.type_
 may:∀e∈td,vM l e.a_∧vM l e.b_
 sol:∀s∈so,vM l s.t_
 oc:∀s∈so,∀v∈c,v.n_≠s.n_∧¬s.n_∈frT v.type_
 ot:∀s∈so,∀e∈td,¬s.n_∈frT e.a_∧¬s.n_∈frT e.b_
 os:∀s∈so,∀r∈so,¬s.n_∈frT r.t_
 nd:(so.map (·.n_)).Nodup
 len:c.length+so.length=N
def naE(t:Tm)(n:Int)(e:zH):zH:=⟨naT t n e.a_ 0,naT t n e.b_ 0⟩
def naS(t:Tm)(n:Int)(s:zI):zI:=⟨s.n_,naT t n s.t_ 0⟩
theorem gQ.solve{l:List Ent}{c d:List zD}{td:List zH}{so:List zI}{N:Nat}{e0:zH}{n:Int}{t:Tm}(h:gQ l c (e0::td) so N)
  (ht:vM l t) (hf:∀x∈frT t,x∈frT e0.a_∨x∈frT e0.b_) (hn:¬n∈frT t) (hp:zEy c n t d)
  (ha:∀e∈td,zL (naT t n e.a_ 0)=true∧zL (naT t n e.b_ 0)=true) (hs:∀s∈so,zL (naT t n s.t_ 0)=true) :
  gQ l d (td.map (naE t n)) (so.map (naS t n)++[⟨n,t⟩]) N:=by
 have hto:∀s∈so,¬s.n_∈frT t:=fun s hs' hx=>by
  rcases hf _ hx with h1|h1
  ·exact(h.ot s hs' e0 (by simp)).1 h1
  ·exact(h.ot s hs' e0 (by simp)).2 h1
 have na:∀x u,¬x∈frT t->¬x∈frT u->¬x∈frT (naT t n u 0):=fun x u h1 h2 h3=>by
  rcases zEz h3 with h4|h4
  ·exact h1 h4
  ·exact h2 h4.1
 have nn:∀u,¬n∈frT (naT t n u 0):=fun u h3=>by
  rcases zEz h3 with h4|h4
  ·exact hn h4
  ·exact h4.2 rfl
 have hnc:∀s∈so,s.n_≠n:=fun s hs' e=>by
  obtain⟨v,hv,hvn⟩:=List.mem_map.1 hp.has
  exact(h.oc s hs' v hv).1 (by rw[e];exact hvn)
 refine⟨hp.right,fun v hv=>?_,fun e he=>?_,fun s hs'=>?_,fun s hs' v hv=>?_,fun s hs' e he=>?_,fun s hs' r hr=>?_,?_,?_⟩
 ·obtain⟨w,hw,-,-,e⟩:=hp.typ v hv
  rw[e]
  exact(h.typ w hw).na ht (by rw[←e];exact(hp.right.each v hv).2.2.1)
 ·obtain⟨e',he',rfl⟩:=List.mem_map.1 he
  exact⟨(h.may e' (by simp[he'])).1.na ht (ha e' he').1,(h.may e' (by simp[he'])).2.na ht (ha e' he').2⟩
 ·rcases List.mem_append.1 hs' with h1|h1
  ·obtain⟨s',h2,rfl⟩:=List.mem_map.1 h1
   exact(h.sol s' h2).na ht (hs s' h2)
  ·rw[List.mem_singleton.1 h1];exact ht
 ·obtain⟨w,hw,e1,e2,e⟩:=hp.typ v hv
  rw[e]
  rcases List.mem_append.1 hs' with h1|h1
  ·obtain⟨s',h2,rfl⟩:=List.mem_map.1 h1
   exact⟨by rw[←e1];exact(h.oc s' h2 w hw).1,na _ _ (hto s' h2) (h.oc s' h2 w hw).2⟩
  ·rw[List.mem_singleton.1 h1];exact⟨by rw[←e1];exact e2,nn _⟩
 ·obtain⟨e',he',rfl⟩:=List.mem_map.1 he
  rcases List.mem_append.1 hs' with h1|h1
  ·obtain⟨s',h2,rfl⟩:=List.mem_map.1 h1
   have h3:=h.ot s' h2 e' (by simp[he'])
   exact⟨na _ _ (hto s' h2) h3.1,na _ _ (hto s' h2) h3.2⟩
  ·rw[List.mem_singleton.1 h1];exact⟨nn _,nn _⟩
 ·have key:∀u:zI,u∈so.map (naS t n)++[⟨n,t⟩]->(∃u'∈so,u=naS t n u')∨u=⟨n,t⟩:=fun u hu=>by
   rcases List.mem_append.1 hu with h1|h1
   ·obtain⟨u',h2,rfl⟩:=List.mem_map.1 h1;exact .inl ⟨u',h2,rfl⟩
   ·exact .inr (List.mem_singleton.1 h1)
  rcases key s hs' with⟨s',h2,rfl⟩|rfl
  ·rcases key r hr with⟨r',h3,rfl⟩|rfl
   ·exact na _ _ (hto s' h2) (h.os s' h2 r' h3)
   ·exact hto s' h2
  ·rcases key r hr with⟨r',h3,rfl⟩|rfl
   ·exact nn _
   ·exact hn
 ·rw[List.map_append,List.map_map]
  have e:(fun s:zI=>s.n_) ∘ naS t n=fun s=>s.n_:=rfl
  rw[e,List.nodup_append]
  refine⟨h.nd,by simp,fun x hx y hy=>?_⟩
  obtain⟨s,hs',rfl⟩:=List.mem_map.1 hx
  simp at hy
  rw[hy];exact hnc s hs'
 ·have:=hp.length
  have:=h.len
  simp only[List.length_append,List.length_map,List.length_cons,List.length_nil]
  omega
theorem gQ.more{l:List Ent}{c:List zD}{td more:List zH}{so:List zI}{N:Nat}{e0:zH}(h:gQ l c (e0::td) so N)
  (hm:∀e∈more,vM l e.a_∧vM l e.b_∧(∀x∈frT e.a_,x∈frT e0.a_∨x∈frT e0.b_)∧∀x∈frT e.b_,x∈frT e0.a_∨x∈frT e0.b_):gQ l c (more++td) so N:=by
 refine⟨h.ctx,h.typ,fun e he=>?_,h.sol,h.oc,fun s hs e he=>?_,h.os,h.nd,h.len⟩
 ·rcases List.mem_append.1 he with h1|h1
  ·exact⟨(hm e h1).1,(hm e h1).2.1⟩
  ·exact h.may e (by simp[h1])
 ·rcases List.mem_append.1 he with h1|h1
  ·have h0:=h.ot s hs e0 (by simp)
   exact⟨fun hx=>((hm e h1).2.2.1 _ hx).elim h0.1 h0.2,fun hx=>((hm e h1).2.2.2 _ hx).elim h0.1 h0.2⟩
  ·exact h.ot s hs e (by simp[h1])
theorem vM.br{N:ByteArray->Bool}{l:List Ent}(hE:wS N l){x y:Tm}{k:Int}(hx:vM l x)(h:Br l x y 0 k):vM l y∧∀z∈frT y,z∈frT x:=by
 have h1:=eN.1 hx
 refine⟨eN.2 ⟨h.shaped h1.1 rfl,fun j hj=>?_,?_⟩,?_⟩
 ·exact h.inv hE (zTi hE (fun _=>False)) h1.1 rfl (fun j hj=>h1.2.1 j hj) j hj
 ·exact h.inv hE (e9 hE fun k n _ h=>h) h1.1 rfl h1.2.2
 ·exact qF.2 (h.inv hE (e9 hE fun k n h8 _ h=>absurd h h8) h1.1 rfl (qF.1 fun z hz=>hz))
def zEx(l:List Ent)(c:List zD)(e:zH)(n:Int)(t:Tm):Prop:=
 ∃x y k j,Br l e.a_ x 0 k∧Br l e.b_ y 0 j∧n∈c.map (·.n_)∧((x.k=8∧x.n=n∧t=y)∨(y.k=8∧y.n=n∧t=x))
def pX(l:List Ent)(t:Tm):List Tm:=(arT t).drop (ent l (hdT t).n).pars.toNat
inductive Bnt (l:List Ent) (n:Int):Tm->Prop
 |here {t a:Tm}:vW l t->a∈pX l t->a.k=8->a.n=n->Bnt l n t
 |deep {t a:Tm}:vW l t->a∈pX l t->Bnt l n a->Bnt l n t
def tI(a b:List Tm):List zH:=List.zipWith zH.mk a b
theorem gR:∀ {a b:List Tm} {e:zH},e∈tI a b->e.a_∈a∧e.b_∈b
 | [],_,e,h=>by simp[tI]at h
 |_::_,[],e,h=>by simp[tI]at h
 |x::a,y::b,e,h=>by
  rw[tI,List.zipWith_cons_cons,List.mem_cons]at h
  rcases h with rfl|h
  ·exact⟨by simp,by simp⟩
  ·have:=gR (a:=a) (b:=b) h
   exact⟨by simp[this.1],by simp[this.2]⟩
inductive Un (l:List Ent):List zD->List zH->List zI->Option (List zD×List zI)->Prop
 |done {c:List zD} {so:List zI}:Un l c [] so (some (c,so))
 |sol {c d:List zD} {e:zH} {td:List zH} {so:List zI} {n:Int} {t:Tm} {r:Option (List zD×List zI)} :
   zEx l c e n t->¬n∈frT t->zEy c n t d->(∀e∈td,zL (naT t n e.a_ 0)=true∧zL (naT t n e.b_ 0)=true)->(∀s∈so,zL (naT t n s.t_ 0)=true) ->
   Un l d (td.map (naE t n)) (so.map (naS t n)++[⟨n,t⟩]) r->Un l c (e::td) so r
 |cyc {c:List zD} {e:zH} {td:List zH} {so:List zI} {n:Int} {t:Tm}:zEx l c e n t->Bnt l n t->Un l c (e::td) so none
 |conf {c:List zD} {e:zH} {td:List zH} {so:List zI} {x y:Tm} {k j:Int}:Br l e.a_ x 0 k->Br l e.b_ y 0 j->vW l x->vW l y->(hdT x).n≠(hdT y).n->Un l c (e::td) so none
 |inj {c:List zD} {e:zH} {td:List zH} {so:List zI} {x y:Tm} {k j:Int} {r:Option (List zD×List zI)}:Br l e.a_ x 0 k->Br l e.b_ y 0 j->vW l x->vW l y->(hdT x).n=(hdT y).n ->
   (∀i:Nat,(i:Int)<(ent l (hdT x).n).pars->∃k,Cv l false (nth (arT x) i) (nth (arT y) i) true k)->Un l c (tI (pX l x) (pX l y)++td) so r->Un l c (e::td) so r
theorem vM.ar{l:List Ent}{t a:Tm}(h:vM l t)(ha:a∈arT t):vM l a∧∀z∈frT a,z∈frT t:=by
 have h1:=eN.1 h
 have hg:=(zQ h1.1).2.2
 refine⟨eN.2 ⟨yS h1.1 ha,fun j hj=>h1.2.1 j ((aY t hg 0 j).2 a ha hj),(qV t hg h1.2.2).2 a ha⟩,?_⟩
 exact qF.2 ((qV t hg (qF.1 fun z hz=>hz)).2 a ha)
theorem zEx.may{N:ByteArray->Bool}{l:List Ent}(hE:wS N l){c:List zD}{e:zH}{n:Int}{t:Tm}(h:zEx l c e n t)(ha:vM l e.a_)(hb:vM l e.b_):vM l t∧∀x∈frT t,x∈frT e.a_∨x∈frT e.b_:=by
 obtain⟨x,y,k,j,hx,hy,-,⟨-,-,rfl⟩|⟨-,-,rfl⟩⟩:=h
 ·exact⟨(hb.br hE hy).1,fun z hz=>.inr ((hb.br hE hy).2 z hz)⟩
 ·exact⟨(ha.br hE hx).1,fun z hz=>.inl ((ha.br hE hx).2 z hz)⟩
theorem gQ.inj{N:ByteArray->Bool}{l:List Ent}(hE:wS N l){c:List zD}{e:zH}{td:List zH}{so:List zI}{x y:Tm}{k j:Int}{M:Nat}(h:gQ l c (e::td) so M)(hx:Br l e.a_ x 0 k)(hy:Br l e.b_ y 0 j):gQ l c (tI (pX l x) (pX l y)++td) so M:=by
 have h0:=h.may e (by simp)
 have h1:=h0.1.br hE hx
 have h2:=h0.2.br hE hy
 refine h.more fun e' he'=>?_
 have hm:=gR he'
 have g1:=h1.1.ar (List.mem_of_mem_drop hm.1)
 have g2:=h2.1.ar (List.mem_of_mem_drop hm.2)
 exact⟨g1.1,g2.1,fun z hz=>.inl (h1.2 z (g1.2 z hz)),fun z hz=>.inr (h2.2 z (g2.2 z hz))⟩
theorem Un.inv{N:ByteArray->Bool}{l:List Ent}(hE:wS N l){c:List zD}{td:List zH}{so:List zI}{r:Option (List zD×List zI)}{M:Nat}(h:Un l c td so r):gQ l c td so M->∀c' so',r=some (c',so')->gQ l c' [] so' M:=by
 induction h with
 |done=>intro hI c' so' e;cases e;exact hI
 |sol a b d e f _ ih=>
  intro hI
  have h0:=hI.may _ (List.mem_cons_self ..)
  have hm:=a.may hE h0.1 h0.2
  exact ih (hI.solve hm.1 hm.2 b d e f)
 |cyc _ _=>intro _ c' so' e;cases e
 |conf _ _ _ _ _=>intro _ c' so' e;cases e
 |inj a b _ _ _ _ _ ih=>intro hI;exact ih (hI.inj hE a b)
def jR:Nat->Int->List Int->Int->Option Bool
 |0,_,_,_=>none
 |qq+1,p1,r1,v10=>
 if decide (v10<(r1.length:Int))then
 zS r1 v10>>=fun x4=>
 if x4==p1 then
 some true
 else
 jR qq p1 r1 (w64 (v10+1))
 else
 some false
def zNS(qq:Nat)(p0:Tm)(p1:Int):Option Bool:=
 z8 qq p0>>=fun r1=>
 jR qq p1 r1 0
theorem zQJ:∀qq:Nat,(∀ {p1 r1 v10 r},jR qq p1 r1 v10=some r->(∀j,dL 0 (pt 949 Tryz.f138) (sp j 18 0 [(1,ai p1),(8,slv yB r1 .no),(9,ai (r1.length:Int)),(10,ai v10)]) (⟨[],0,[],0,[]⟩) (fQ 0 (nQ 0 Tryz.f138 (ab r) [] 0) [.blk 0,.seq (pt 15 Tryz.f138)]))):=by
 intro qq
 induction qq with
 |zero=>
  exact fun h=>nn h
 |succ qq ih=>
  intro p1 r1 v10 r h
  rw[jR]at h
  obtain⟨h3,h⟩|⟨h3,h⟩:=spl h
  obtain⟨x4,h5,h⟩:=zC h
  have k:=oA 0 (nU (o:=.no) h5)<|oB 0 h3 o0
  obtain⟨h6,h⟩|⟨h6,h⟩:=spl h
  cases h
  exact fun j=>lF 0 [] (oB 1 h6 k)
  exact fun j=>lH 1 [] [] [] [1,8,9,10] (oD (dI r1)<|oB 1 h6 k) (ih h)
  cases h
  exact fun j=>lF 0 [] (oB 0 h3 o0)
theorem zVF{qq p0 p1 r}(h:zNS qq p0 p1=some r):Ct 138 [] [tmA p0,ai p1] (ab r) [] 0:=⟨by
 unfold zNS at h
 obtain⟨r1,h2,h⟩:=zC h
 exact tH ⟨Tryz.func138,rfl⟩ 1 [] [] [] [1,8,9,10] (oD (dI r1)<|oC 1 [] (zJq h2) o0) (zQJ _ h),⟨⟨tv,tv,⟨tv,dT _⟩,tv⟩,tv,tv⟩,zB,tv,zB⟩
def V7(qq:Nat)(M:yY)(p1:Tm):Option (Int×List Tm×Bool):=
 e52 qq p1>>=fun r1=>
 if r1 then
 e53 qq p1>>=fun r4=>
 zGw qq M r4>>=fun r6=>
 some (r6.1,r6.2.1,r6.2.2)
 else
 some (0,[],false)
theorem zVG:Qf 175 Tryz.f175:=⟨Tryz.func175,rfl⟩
theorem zNT{qq M p1 r}(h:V7 qq M p1=some r):Ct 175 [mB M 1,mR M] [.mp 0 0,tmA p1] (.tup [ai r.1,.sl (zK zG r.2.1) r.2.1.length .no,ab r.2.2]) [mB M 1,mR M] 0:=⟨by
 unfold V7 at h
 obtain⟨r1,h2,h⟩:=zC h
 obtain⟨h3,h⟩|⟨h3,h⟩:=spl h
 obtain⟨r4,h5,h⟩:=zC h
 obtain⟨r6,h7,h⟩:=zC h
 cases h
 exact tF zVG 3 [0,1] (oD (dT r6.2.1)<|oDM M<|oC 0 [0,1] (zTq h7)<|oC 2 [] (c53 h5)<|oK 2 [] h3 (c52 h2) o0)
 cases h
 exact tF zVG 1 [0,1] (oD (dT ([]:List Tm))<|oDM M<|oK 2 [] h3 (c52 h2) o0),⟨(lz rfl),⟨tv,tv,⟨tv,dT _⟩,tv⟩,tv⟩,(fMa (lz rfl) zB),⟨tv,dT _,tv,tv⟩,(fMf (lz rfl) zB)⟩
def zKr(qq:Nat)(M:yY)(p1:Int):Option Int:=
 if decide (p1<0)then
 some 0
 else
 if decide (p1≥(M.l.length:Int))then
 some 0
 else
 zS M.l p1>>=fun x3=>
 some x3.pars
theorem zTg:Qf 176 Tryz.f176:=⟨Tryz.func176,rfl⟩
theorem zVH{qq M p1 r}(h:zKr qq M p1=some r):Ct 176 [mB M 1,mR M] [.mp 0 0,ai p1] (ai r) [mB M 1,mR M] 0:=⟨by
 unfold zKr at h
 obtain⟨h1,h⟩|⟨h1,h⟩:=spl h
 obtain rfl:=sj h
 exact tF zTg 0 [0,1] (oDM M<|oB 1 h1 o0)
 have k:=oB 1 h1 o0
 obtain⟨h2,h⟩|⟨h2,h⟩:=spl h
 obtain rfl:=sj h
 exact tF zTg 0 [0,1] (oDM M<|oB 2 h2 k)
 obtain⟨x3,h4,h⟩:=zC h
 obtain rfl:=sj h
 exact tF zTg 1 [0,1] (oDM M<|oA 1 (xL (o:=.no) h4)<|oB 2 h2 k),⟨(lz rfl),tv,tv⟩,(fMa (lz rfl) zB),tv,(fMf (lz rfl) zB)⟩
mutual
def zBB:Nat->yY->Tm->Int->Option Bool
 |0,_,_,_=>none
 |qq+1,M,p1,p2=>
 V7 qq M p1>>=fun r1=>
 if r1.2.2 then
 zKr qq M r1.1>>=fun r4=>
 gsl r1.2.1 r4 (r1.2.1.length:Int)>>=fun x6=>
 pY qq M p2 x6 0
 else
 some false
def pY:Nat->yY->Int->List Tm->Int->Option Bool
 |0,_,_,_,_=>none
 |qq+1,M,p2,x6,v27=>
 if decide (v27<(x6.length:Int))then
 zS x6 v27>>=fun x9=>
 if x9.k==8 then
 if x9.n==p2 then
 some true
 else
 zBB qq M x9 p2>>=fun r13=>
 if r13 then
 some true
 else
 pY qq M p2 x6 (w64 (v27+1))
 else
 zBB qq M x9 p2>>=fun r16=>
 if r16 then
 some true
 else
 pY qq M p2 x6 (w64 (v27+1))
 else
 some false
end
abbrev zQK (M:yY) (p1:Tm) (p2:Int) (r:Bool) (C:Cf):Prop:=C 139 [mB M 1,mR M] [.mp 0 0,tmA p1,ai p2] (ab r) [mB M 1,mR M] 0
theorem zVI:Qf 139 Tryz.f139:=⟨Tryz.func139,rfl⟩
theorem zVJ{M p1 p2 r}(h:zQK M p1 p2 r Ci):zQK M p1 p2 r Ct:=⟨h,⟨(lz rfl),⟨tv,tv,⟨tv,dT _⟩,tv⟩,tv,tv⟩,(fMa (lz rfl) zB),tv,(fMf (lz rfl) zB)⟩
theorem zEw:∀qq:Nat,(∀ {M p1 p2 r},zBB qq M p1 p2=some r->zQK M p1 p2 r Ct)∧(∀ {M p2 x6 v27 r},pY qq M p2 x6 v27=some r->(∀j,dL 2 (pt 16309 Tryz.f139) (sp j 47 0 [(0,.mp 0 0),(2,ai p2),(25,slv zG x6 .no),(26,ai (x6.length:Int)),(27,ai v27)]) (⟨[(0,mB M 1),(1,mR M)],2,[],0,[]⟩) (fQ 2 (nQ 2 Tryz.f139 (ab r) [mB M 1,mR M] 0) [.blk 0,.seq (pt 255 Tryz.f139)]))):=by
 intro qq
 induction qq with
 |zero=>
  exact⟨fun h=>nn h,fun h=>nn h⟩
 |succ qq ih=>
  obtain⟨zHS,V8⟩:=ih
  refine⟨?_,?_⟩
  intro M p1 p2 r h
  rw[zBB]at h
  obtain⟨r1,h2,h⟩:=zC h
  have k:=oC 1 [0,1] (zNT h2) o0
  obtain⟨h3,h⟩|⟨h3,h⟩:=spl h
  obtain⟨r4,h5,h⟩:=zC h
  obtain⟨x6,h7,h⟩:=zC h
  exact zVJ (tH zVI 1 [] [0,1] [] [0,2,25,26,27] (oD (dT x6)<|oDM M<|oA 0 (sX h7)<|oC 1 [0,1] (zVH h5)<|oB 2 h3 k) (V8 h))
  cases h
  exact zVJ (tF zVI 1 [0,1] (oDM M<|oB 2 h3 k))
  intro M p2 x6 v27 r h
  rw[pY]at h
  obtain⟨h8,h⟩|⟨h8,h⟩:=spl h
  obtain⟨x9,h10,h⟩:=zC h
  have k:=oA 0 (xB (o:=.no) h10)<|oB 0 h8 o0
  obtain⟨h11,h⟩|⟨h11,h⟩:=spl h
  have k:=oB 3 h11 k
  obtain⟨h12,h⟩|⟨h12,h⟩:=spl h
  cases h
  exact fun j=>lF 0 [0,1] (oDM M<|oB 1 h12 k)
  obtain⟨r13,h14,h⟩:=zC h
  have k:=oB 1 h12 k
  obtain⟨h15,h⟩|⟨h15,h⟩:=spl h
  cases h
  exact fun j=>lF 0 [0,1] (oDM M<|oK 1 [0,1] h15 (zHS h14) k)
  exact fun j=>lH 1 [] [0,1] [] [0,2,25,26,27] (oD (dT x6)<|oDM M<|oK 1 [0,1] h15 (zHS h14) k) (V8 h)
  obtain⟨r16,h17,h⟩:=zC h
  have k:=oB 3 h11 k
  obtain⟨h18,h⟩|⟨h18,h⟩:=spl h
  cases h
  exact fun j=>lF 0 [0,1] (oDM M<|oK 1 [0,1] h18 (zHS h17) k)
  exact fun j=>lH 1 [] [0,1] [] [0,2,25,26,27] (oD (dT x6)<|oDM M<|oK 1 [0,1] h18 (zHS h17) k) (V8 h)
  cases h
  exact fun j=>lF 0 [0,1] (oDM M<|oB 0 h8 o0)
theorem zVK{qq M p1 p2 r}(h:zBB qq M p1 p2=some r):zQK M p1 p2 r Ct:=(zEw _).1 h
theorem Ou.met{ρ:Type}{er:ρ->Int}{Q:(Int->Int->ρ)->Int->Prop}{S:Prop}{l U:Int}{f:Int->Int->Nat->Option ρ}(h:Ou f er Q S l)(h0:0≤U)(h1:l+U≤1099511627776) :
  Tot (f l U) fun r=>er r=8∨∃R k,0≤k∧k≤l∧Q R k∧r=R (l-k) (U+k):=by
 rcases h with⟨R,k,k0,k1,hq,hg,-⟩|⟨hs,-⟩
 ·exact⟨_,hg l U k1 h0 h1,.inr ⟨R,k,k0,k1,hq,rfl⟩⟩
 ·obtain⟨r,hr,e⟩:=hs U h0 h1
  exact⟨r,hr,.inl e⟩
theorem V9(L:List Int)(n:Int):∀(r:List Int) (v:Nat),L.drop v=r->L.length≤17592186044416->Evt (fun q=>jR q n L (v:Int)) (decide (n∈r))
 | [],v,hd,hl=>by
  refine Evt.succ ?_
  simp only[jR]
  exact Evt.ifF (zZ hd) (Evt.ret.eq (by simp))
 |x::r,v,hd,hl=>by
  have hlt:=yC hd
  refine Evt.succ ?_
  simp only[jR]
  refine Evt.ifT (zY hd) (Evt.pure (zX hd) ?_)
  by_cases e:x=n
  ·exact Evt.ifT (by simp[e]) (Evt.ret.eq (by simp[e]))
  ·refine Evt.ifF (by simp[e]) ?_
   rw[zW v (by omega)]
   exact(V9 L n r (v+1) (zU hd) hl).eq (by simp[show ¬n=x from fun h=>e h.symm])
theorem eC{N:ByteArray->Bool}{l:List Ent}(hE:wS N l){t:Tm}(hs:zL t=true)(hc:vW l t):∃p:Nat,(ent l (hdT t).n).pars=(p:Int)∧p≤(arT t).length∧0≤(hdT t).n∧(hdT t).n<l.length:=by
 have h:=vL hs hc
 obtain⟨A,y,hw,-,-,hp,-,q0,q1,-⟩:=vY hE h.1 h.2.1 h.2.2.1
 exact⟨(ent l (hdT t).n).pars.toNat,by omega,by rw[h.2.2.2];omega,h.1,h.2.1⟩
theorem O3(l:List Ent)(t:Tm)(hs:zL t=true):Evt (fun q=>V7 q (xH l) t) (jN l t):=by
 simp only[V7]
 refine(yO t (zV hs)).bind (Evt.ifT hs (((sR t (zV hs)).eq (by unfold nE;rw[if_pos hs])).bind ((N9 l t hs).bind Evt.ret)))
theorem zEv(l:List Ent){c:Int}(h0:0≤c)(h1:c<l.length):Evt (fun q=>zKr q (xH l) c) (ent l c).pars:=by
 simp only[zKr,eB]
 exact Evt.ifF (decide_eq_false (by omega)) (Evt.ifF (decide_eq_false (by omega)) (Evt.pure (yL h0 h1) Evt.ret))
theorem zKq(t:Tm)(n:Int)(hs:zL t=true):Evt (fun q=>zNS q t n) (decide (n∈frT t)):=by
 simp only[zNS]
 refine(lI t (zV hs)).bind ?_
 have e:lE t 8 8=wG (sQ t 8 8):=by unfold lE;rw[if_pos hs]
 rw[e]
 have hl:=pB t 8 8
 have hn:=(zQ hs).1
 refine(V9 (wG (sQ t 8 8)) n _ 0 rfl (by have:=pJ (sQ t 8 8);omega)).eq ?_
 simp[rT]
theorem b7{l:List Ent}(n:Int)(t:Tm)(hs:zL t=true)(hc:vW l t)(H:∀a∈pX l t,zL a=true->Tot (fun q=>zBB q (xH l) a n) fun b=>b=true->Bnt l n a)(hl:(pX l t).length≤17592186044416):∀(r:List Tm) (v:Nat),(pX l t).drop v=r->Tot (fun q=>pY q (xH l) n (pX l t) (v:Int)) fun b=>b=true->Bnt l n t
 | [],v,hd=>by
  refine Tot.succ ?_
  simp only[pY]
  refine Tot.ite (fun h=>?_) fun _=>Tot.ret fun h=>(by cases h)
  rw[zZ hd]at h;cases h
 |x::r,v,hd=>by
  have hlt:=yC hd
  have hx:x∈pX l t:=List.mem_of_mem_drop (by rw[hd];simp)
  have hsx:zL x=true:=yS hs (List.mem_of_mem_drop hx)
  have rest:∀b,(b=true->Bnt l n x)->Tot (fun q=>if b=true then some true else pY q (xH l) n (pX l t) (w64 ((v:Int)+1))) fun b=>b=true->Bnt l n t:=fun b hb=>by
   refine Tot.ite (fun h=>Tot.ret fun _=>.deep hc hx (hb h)) fun _=>?_
   rw[zW v (by omega)]
   exact b7 n t hs hc H hl r (v+1) (zU hd)
  refine Tot.succ ?_
  simp only[pY]
  refine Tot.ite (fun _=>Tot.pure (zX hd) (Tot.ite (fun h8=>Tot.ite (fun hn=>Tot.ret fun _=>.here hc hx (by simpa using h8) (by simpa using hn)) fun _=>?_) fun _=>?_)) fun h=>?_
  ·exact(H x hx hsx).bind rest
  ·exact(H x hx hsx).bind rest
  ·rw[zY hd]at h;cases h
theorem zEu{N:ByteArray->Bool}{l:List Ent}(hE:wS N l)(n:Int):∀(m:Nat) (t:Tm),t.nodes≤m->zL t=true->Tot (fun q=>zBB q (xH l) t n) fun b=>b=true->Bnt l n t
 |0,.mk k i ls,hm,_=>by rw[Tm.nodes]at hm;omega
 |m+1,t,hm,hs=>by
  refine Tot.succ ?_
  simp only[zBB]
  refine Tot.bind (P:=fun r=>r=jN l t) ((O3 l t hs).tot rfl) fun r1 h1=>Tot.ite (fun h=>?_) fun _=>Tot.ret fun h=>(by cases h)
  subst h1
  by_cases hc:vW l t
  ·have hx:jN l t=((hdT t).n,arT t,true):=if_pos hc
   obtain⟨p,hp,h3,h4,h5⟩:=eC hE hs hc
   rw[hx]
   refine Tot.bind (P:=fun r=>r=(p:Int)) ((zEv l h4 h5).tot hp) fun r4 h6=>?_
   subst h6
   have e:pX l t=(arT t).drop p:=by unfold pX;rw[hp];rfl
   refine Tot.pure (a:=pX l t) ((sZ (by omega) (show (p:Int)≤(arT t).length by omega)).trans (by rw[e];rfl)) ?_
   have hlen:(pX l t).length≤17592186044416:=by
    have h:=zQ hs
    have:=uV t h.2.2
    rw[e,List.length_drop];omega
   exact b7 n t hs hc (by
    intro a ha hsa
    refine zEu hE n m a ?_ hsa
    have h:=zQ hs
    have:=((M9 t h.2.2).2.2.2.2 a (List.mem_of_mem_drop ha)).2.1
    omega) hlen _ 0 rfl
  ·have hx:jN l t=(0,[],false):=if_neg hc
   rw[hx]at h;cases h
def zNU(qq:Nat)(p0:Int):Option Bool:=
 if decide (p0≥0)then
 some (decide (p0≤1048576))
 else
 some false
theorem zVL:Qf 170 Tryz.f170:=⟨Tryz.func170,rfl⟩
theorem zVM{qq p0 r}(h:zNU qq p0=some r):Ct 170 [] [ai p0] (ab r) [] 0:=⟨by
 unfold zNU at h
 obtain⟨h1,h⟩|⟨h1,h⟩:=spl h
 cases h
 exact tF zVL 1 [] (oB 0 h1 o0)
 cases h
 exact tF zVL 0 [] (oB 0 h1 o0),⟨tv,tv⟩,zB,tv,zB⟩
def mG:Nat->List zD->Int->(List (Int×Int))->Option ((Unit) ⊕ ((List (Int×Int))))
 |0,_,_,_=>none
 |qq+1,p0,v12,yA=>
 if decide (v12<(p0.length:Int))then
 zS p0 v12>>=fun x2=>
 zNU qq x2.n_>>=fun r4=>
 if r4 then
 e52 qq x2.type_>>=fun r7=>
 if r7 then
 if decide ((p0.length:Int)>256)then
 some (.inl ())
 else
 if E0 yA x2.n_ then
 mG qq p0 (w64 (v12+1)) yA
 else
 mG qq p0 (w64 (v12+1)) (eG yA x2.n_ v12)
 else
 some (.inl ())
 else
 some (.inl ())
 else
 some (.inr yA)
def zKp(qq:Nat)(p0:List zD):Option ((Unit) ⊕ ((List (Int×Int)))):=
 mG qq p0 0 ([]:List (Int×Int))
abbrev zTf (p0:List zD) (C:Cf):Prop:=C 132 [] [slv zJ p0 .no] (.tup [.val (.map none),ab false]) [] 0
abbrev zTe (p0:List zD) (r:(List (Int×Int))) (C:Cf):Prop:=C 132 [] [slv zJ p0 .no] (.tup [.obj 0,ab true]) [dX r] 0
theorem zVN:Qf 132 Tryz.f132:=⟨Tryz.func132,rfl⟩
theorem zHT:∀qq:Nat,(∀ {p0 v12 yA r},mG qq p0 v12 yA=some r->(∀j,dL 0 (pt 4021 Tryz.f132) (sp j 47 0 [(0,slv zJ p0 .no),(4,.obj 0),(10,slv zJ p0 .no),(11,ai (p0.length:Int)),(12,ai v12)]) (⟨[(0,dX yA)],1,[],0,[]⟩) (fQ 0 ((match (generalizing:=false) r with | .inl x=>nQ 0 Tryz.f132 (.tup [.val (.map none),ab false]) [] 0 | .inr x=>nQ 0 Tryz.f132 (.tup [.obj 0,ab true]) [dX x] 0)) [.blk 0,.seq (pt 63 Tryz.f132)]))):=by
 intro qq
 induction qq with
 |zero=>
  exact fun h=>nn h
 |succ qq ih=>
  intro p0 v12 yA r h
  rw[mG]at h
  obtain⟨h1,h⟩|⟨h1,h⟩:=spl h
  obtain⟨x2,h3,h⟩:=zC h
  obtain⟨r4,h5,h⟩:=zC h
  have k:=oA 0 (E1 (o:=.no) h3)<|oB 0 h1 o0
  obtain⟨h6,h⟩|⟨h6,h⟩:=spl h
  obtain⟨r7,h8,h⟩:=zC h
  have k:=oK 3 [] h6 (zVM h5) k
  obtain⟨h9,h⟩|⟨h9,h⟩:=spl h
  have k:=oK 2 [] h9 (c52 h8) k
  obtain⟨h10,h⟩|⟨h10,h⟩:=spl h
  cases h
  exact fun j=>lF 0 [] (oB 2 h10 k)
  have k:=oL 1 (zLH yA x2.n_)<|oB 2 h10 k
  obtain⟨h11,h⟩|⟨h11,h⟩:=spl h
  exact fun j=>lH 2 [] [0] [] [0,4,10,11,12] (oD (zF p0)<|oD (zF p0)<|oB 1 h11 k) (ih h)
  exact fun j=>lH 1 [] [0] [] [0,4,10,11,12] (oD (zF p0)<|oD (zF p0)<|oU 2 (zSg yA x2.n_ v12)<|oB 1 h11 k) (ih h)
  cases h
  exact fun j=>lF 1 [] (oK 2 [] h9 (c52 h8) k)
  cases h
  exact fun j=>lF 1 [] (oK 3 [] h6 (zVM h5) k)
  cases h
  exact fun j=>lF 0 [0] (oB 0 h1 o0)
theorem zQL{qq p0 r}(h:zKp qq p0=some r):(match (generalizing:=false) r with | .inl x=>zTf p0 Ct | .inr x=>zTe p0 x Ct):=by
 unfold zKp at h
 rcases r with y0|y1
 exact⟨tH zVN 1 [] [0] [] [0,4,10,11,12] (oD (zF p0)<|oD (zF p0) o0) (zHT _ h),⟨⟨tv,zF _⟩,tv⟩,zB,⟨tv,tv,tv⟩,zB⟩
 exact⟨tH zVN 1 [] [0] [] [0,4,10,11,12] (oD (zF p0)<|oD (zF p0) o0) (zHT _ h),⟨⟨tv,zF _⟩,tv⟩,zB,⟨(lz rfl),tv,tv⟩,(zA tv zB)⟩
def zBC(qq:Nat)(p0:Tm):Option Int:=
 e52 qq p0>>=fun r1=>
 if r1 then
 zCT qq p0 0>>=fun r4=>
 some r4
 else
 some 0
theorem zVO:Qf 133 Tryz.f133:=⟨Tryz.func133,rfl⟩
theorem zTd{qq p0 r}(h:zBC qq p0=some r):Ct 133 [] [tmA p0] (ai r) [] 0:=⟨by
 unfold zBC at h
 obtain⟨r1,h2,h⟩:=zC h
 obtain⟨h3,h⟩|⟨h3,h⟩:=spl h
 obtain⟨r4,h5,h⟩:=zC h
 obtain rfl:=sj h
 exact tF zVO 0 [] (oC 2 [] (zUR h5)<|oK 1 [] h3 (c52 h2) o0)
 obtain rfl:=sj h
 exact tF zVO 1 [] (oK 1 [] h3 (c52 h2) o0),⟨⟨tv,tv,⟨tv,dT _⟩,tv⟩,tv⟩,zB,tv,zB⟩
mutual
def gS:Nat->List zD->(List (Int×Int))->Int->Option Bool
 |0,_,_,_=>none
 |qq+1,p0,y3,v27=>
 if decide (v27<(p0.length:Int))then
 zS p0 v27>>=fun x6=>
 zBC qq x6.type_>>=fun r8=>
 if decide (r8>0)then
 some false
 else
 z8 qq x6.type_>>=fun r11=>
 jS qq p0 y3 v27 r11 0
 else
 some true
def jS:Nat->List zD->(List (Int×Int))->Int->List Int->Int->Option Bool
 |0,_,_,_,_,_=>none
 |qq+1,p0,y3,v27,r11,v40=>
 if decide (v40<(r11.length:Int))then
 zS r11 v40>>=fun x14=>
 if E0 y3 x14 then
 if decide ((zFi y3 x14)≥v27)then
 some false
 else
 jS qq p0 y3 v27 r11 (w64 (v40+1))
 else
 jS qq p0 y3 v27 r11 (w64 (v40+1))
 else
 gS qq p0 y3 (w64 (v27+1))
end
def e96(qq:Nat)(p0:List zD):Option Bool:=
 zKp qq p0>>=fun r1=>
 match r1 with
 | .inl y5=>
  some false
 | .inr y3=>
  if (y3.length:Int) != (p0.length:Int)then
  some false
  else
  gS qq p0 y3 0
theorem q96:Qf 96 Tryz.f96:=⟨Tryz.func96,rfl⟩
theorem zBD:∀qq:Nat,(∀ {p0 y3 v27 r},gS qq p0 y3 v27=some r->(∀j,dL 0 (pt 16309 Tryz.f96) (sp j 58 0 [(3,.obj 0),(25,slv zJ p0 .no),(26,ai (p0.length:Int)),(27,ai v27)]) (⟨[(0,dX y3)],1,[],0,[]⟩) (fQ 0 (nQ 0 Tryz.f96 (ab r) [] 0) [.blk 0,.seq (pt 255 Tryz.f96)])))∧(∀ {p0 y3 v27 r11 v40 r},jS qq p0 y3 v27 r11 v40=some r->(∀j,dL 0 (pt 4275562485 Tryz.f96) (sp j 58 0 [(3,.obj 0),(5,ai v27),(25,slv zJ p0 .no),(26,ai (p0.length:Int)),(27,ai v27),(38,slv yB r11 .no),(39,ai (r11.length:Int)),(40,ai v40)]) (⟨[(0,dX y3)],1,[],0,[]⟩) (fQ 0 (nQ 0 Tryz.f96 (ab r) [] 0) [.blk 2,.blk 1,.seq (pt 1043839 Tryz.f96),.loop (pt 16309 Tryz.f96),.blk 0,.seq (pt 255 Tryz.f96)]))):=by
 intro qq
 induction qq with
 |zero=>
  exact⟨fun h=>nn h,fun h=>nn h⟩
 |succ qq ih=>
  obtain⟨zQM,zBE⟩:=ih
  refine⟨?_,?_⟩
  intro p0 y3 v27 r h
  rw[gS]at h
  obtain⟨h5,h⟩|⟨h5,h⟩:=spl h
  obtain⟨x6,h7,h⟩:=zC h
  obtain⟨r8,h9,h⟩:=zC h
  have k:=oC 3 [] (zTd h9)<|oA 0 (E1 (o:=.no) h7)<|oB 0 h5 o0
  obtain⟨h10,h⟩|⟨h10,h⟩:=spl h
  cases h
  exact fun j=>lF 0 [] (oB 0 h10 k)
  obtain⟨r11,h12,h⟩:=zC h
  exact fun j=>lH 1 [] [0] [] [3,5,25,26,27,38,39,40] (oD (dI r11)<|oD (zF p0)<|oC 1 [] (zJq h12)<|oB 0 h10 k) (zBE h)
  cases h
  exact fun j=>lF 0 [] (oB 0 h5 o0)
  intro p0 y3 v27 r11 v40 r h
  rw[jS]at h
  obtain⟨h13,h⟩|⟨h13,h⟩:=spl h
  obtain⟨x14,h15,h⟩:=zC h
  have k:=oL 1 (zLH y3 x14)<|oA 0 (nU (o:=.no) h15)<|oB 0 h13 o0
  obtain⟨h16,h⟩|⟨h16,h⟩:=spl h
  have k:=oB 1 h16 k
  obtain⟨h17,h⟩|⟨h17,h⟩:=spl h
  cases h
  exact fun j=>lF 0 [] (oB 0 h17 k)
  exact fun j=>lH 1 [] [0] [] [3,5,25,26,27,38,39,40] (oD (dI r11)<|oD (zF p0)<|oB 0 h17 k) (zBE h)
  exact fun j=>lH 1 [] [0] [] [3,5,25,26,27,38,39,40] (oD (dI r11)<|oD (zF p0)<|oB 1 h16 k) (zBE h)
  exact fun j=>lH 1 [] [0] [] [3,25,26,27] (oD (zF p0)<|oB 0 h13 o0) (zQM h)
theorem c96{qq p0 r}(h:e96 qq p0=some r):Ct 96 [] [slv zJ p0 .no] (ab r) [] 0:=⟨by
 unfold e96 at h
 obtain⟨r1,h2,h⟩:=zC h
 rcases r1 with y5|y3
 dsimp only at h
 cases h
 exact tF q96 3 [] (oC 0 [] (zQL h2) o0)
 dsimp only at h
 have k:=oN 3 (zLI y3)<|oC 0 [] (zQL h2) o0
 obtain⟨h4,h⟩|⟨h4,h⟩:=spl h
 cases h
 exact tF q96 0 [] (oB 1 h4 k)
 exact tH q96 1 [] [0] [] [3,25,26,27] (oD (zF p0)<|oB 1 h4 k) ((zBD _).1 h),⟨⟨tv,zF _⟩,tv⟩,zB,tv,zB⟩
theorem W0(x k y:Int):∀m:List (Int×Int),iJ (eG m x k) y=if y=x then some k else iJ m y
 | []=>by
  simp only[eG,iJ]
  by_cases h:y=x<;>simp[h]
 |p::m=>by
  simp only[eG]
  by_cases hx:(x==p.1)=true
  ·rw[if_pos hx]
   have hx':x=p.1:=by simpa using hx
   simp only[iJ]
   by_cases h:y=x
   ·subst h;simp
   ·simp[h,show ¬y=p.1 by rw[←hx'];exact h]
  ·rw[if_neg hx]
   have hx':¬x=p.1:=by simpa using hx
   simp only[iJ]
   by_cases h:y=p.1
   ·have:¬y=x:=fun e=>hx' (by rw[←e];exact h)
    simp[h,this]
    intro e;exact absurd e.symm hx'
   ·simp only[show (y==p.1)=false by simpa using h]
    exact W0 x k y m
theorem zEt(x k:Int):∀m:List (Int×Int),E0 m x=false->(eG m x k).length=m.length+1
 | [],_=>rfl
 |p::m,h=>by
  simp only[eG]
  by_cases hx:(x==p.1)=true
  ·unfold E0 at h;simp only[iJ,hx,if_true]at h;cases h
  ·have h':E0 m x=false:=by unfold E0 at h ⊢;simpa only[iJ,if_neg hx]using h
   rw[if_neg hx,List.length_cons,List.length_cons,zEt x k m h']
structure IxM (c:List zD) (m:List (Int×Int)) (v:Nat):Prop where
 ok:∀w∈c.take v,(0≤w.n_∧w.n_≤1048576)∧zL w.type_=true
 few:v≠0->c.length≤256
 len:m.length≤v
 at':m.length=v->∀(i:Nat) (x:zD),i<v->c[i]? = some x->iJ m x.n_=some (i:Int)
theorem b8(t:Tm)(h:zL t=true):Evt (fun q=>zBC q t) (nC t 0):=by
 simp only[zBC]
 have hs:=zQ h
 exact(yO t (zV h)).bind (Evt.ifT h ((aD t 0 hs.2.2 (by omega) (by omega)).bind Evt.ret))
theorem zKo(n:Int):Tot (fun q=>zNU q n) fun b=>b=true->0≤n∧n≤1048576:=by
 simp only[zNU]
 exact Tot.ite (fun h=>Tot.ret fun h2=>⟨by simpa using h,by simpa using h2⟩) fun h=>Tot.ret fun h=>(by cases h)
theorem O4{α:Type}{l r:List α}{x:α}{v:Nat}(hd:l.drop v=x::r):l[v]? = some x:=by
 have:=List.getElem?_drop (xs:=l) (i:=v) (j:=0)
 rw[hd]at this
 simpa using this.symm
theorem tS{α:Type}{l r:List α}{x:α}{v:Nat}(hd:l.drop v=x::r):l.take (v+1)=l.take v++[x]:=by
 rw[List.take_add_one,O4 hd];rfl
theorem jT{c:List zD}(hl:c.length≤17592186044416)(ho:∀v∈c,v.type_.Ok):∀(r:List zD) (v:Nat) (m:List (Int×Int)),c.drop v=r->v≤c.length->IxM c m v->Tot (fun q=>mG q c (v:Int) m) fun x=>∀m',x = .inr m'->IxM c m' c.length
 | [],v,m,hd,hv,hI=>by
  refine Tot.succ ?_
  simp only[mG]
  refine Tot.ite (fun h=>?_) fun _=>Tot.ret fun m' e=>?_
  ·rw[zZ hd]at h;cases h
  ·have:v=c.length:=Nat.le_antisymm hv (List.drop_eq_nil_iff.1 hd)
   cases e
   rw[←this];exact hI
 |x::r,v,m,hd,hv,hI=>by
  have hlt:=yC hd
  have hx:x∈c:=List.mem_of_mem_drop (by rw[hd];simp)
  refine Tot.succ ?_
  simp only[mG]
  refine Tot.ite (fun _=>Tot.pure (zX hd) ((zKo x.n_).bind fun b hb=>Tot.ite (fun h1=>?_) fun _=>Tot.ret fun m' e=>(by cases e))) fun h=>?_
  ·refine Tot.bind (P:=fun b=>b=zL x.type_) ((yO x.type_ (ho x hx)).tot rfl) fun b2 hb2=>Tot.ite (fun h2=>?_) fun _=>Tot.ret fun m' e=>(by cases e)
   have hs:zL x.type_=true:=by rw[←hb2];exact h2
   refine Tot.ite (fun _=>Tot.ret fun m' e=>(by cases e)) fun h3=>?_
   have h256:c.length≤256:=by have:=of_decide_eq_false h3;omega
   have ok':∀w∈c.take (v+1),(0≤w.n_∧w.n_≤1048576)∧zL w.type_=true:=fun w hw=>by
    rw[tS hd]at hw
    rcases List.mem_append.1 hw with hw|hw
    ·exact hI.ok w hw
    ·rw[List.mem_singleton.1 hw];exact⟨hb h1,hs⟩
   refine Tot.ite (fun h4=>?_) fun h4=>?_
   ·rw[zW v (by omega)]
    exact jT hl ho r (v+1) m (zU hd) hlt ⟨ok',fun _=>h256,Nat.le_succ_of_le hI.len,fun e=>absurd hI.len (by omega)⟩
   ·rw[zW v (by omega)]
    have h4':E0 m x.n_=false:=by simpa using h4
    have hlen:=zEt x.n_ (v:Int) m h4'
    refine jT hl ho r (v+1) _ (zU hd) hlt ⟨ok',fun _=>h256,by rw[hlen];exact Nat.succ_le_succ hI.len,fun e i y hi hy=>?_⟩
    rw[hlen]at e
    have e':m.length=v:=by omega
    rw[W0]
    rcases Nat.lt_or_ge i v with h5|h5
    ·have h6:=hI.at' e' i y h5 hy
     rw[if_neg fun h7=>?_]
     ·exact h6
     ·rw[←h7]at h4';unfold E0 at h4';rw[h6]at h4';cases h4'
    ·have:i=v:=by omega
     subst this
     rw[O4 hd]at hy
     cases hy
     rw[if_pos rfl]
  ·rw[zY hd]at h;cases h
def RtC(c:List zD)(v:Nat):Prop:=∀(i:Nat) (x:zD),i<v->c[i]? = some x->(∀j,¬j∈lvT x.type_ 0)∧∀(j:Nat) (y:zD),i≤j->c[j]? = some y->¬y.n_∈frT x.type_
theorem W1{c:List zD}{m:List (Int×Int)}(v:Nat)(F:List Int)(hF:F.length≤17592186044416){P:Bool->Prop}
  (hA:∀(j:Nat) (y:zD),c[j]? = some y->iJ m y.n_=some (j:Int)) (hP:P false)
  (K:(∀(j:Nat) (y:zD),v≤j->c[j]? = some y->¬y.n_∈F)->Tot (fun q=>gS q c m (w64 ((v:Int)+1))) P) :
  ∀(r:List Int) (k:Nat),F.drop k=r->(∀(j:Nat) (y:zD),v≤j->c[j]? = some y->¬y.n_∈F.take k)->Tot (fun q=>jS q c m (v:Int) F (k:Int)) P
 | [],k,hd,hk=>by
  refine Tot.succ ?_
  simp only[jS]
  refine Tot.ite (fun h=>?_) fun _=>K fun j y h1 h2=>?_
  ·rw[zZ hd]at h;cases h
  ·have:=hk j y h1 h2
   rwa[List.take_of_length_le (List.drop_eq_nil_iff.1 hd)]at this
 |n::r,k,hd,hk=>by
  have hlt:=yC hd
  have next:(∀(j:Nat) (y:zD),v≤j->c[j]? = some y->y.n_≠n)->Tot (fun q=>jS q c m (v:Int) F (w64 ((k:Int)+1))) P:=fun hn=>by
   rw[zW k (by omega)]
   refine W1 v F hF hA hP K r (k+1) (zU hd) fun j y h1 h2 h3=>?_
   rw[tS hd]at h3
   rcases List.mem_append.1 h3 with h3|h3
   ·exact hk j y h1 h2 h3
   ·exact hn j y h1 h2 (List.mem_singleton.1 h3)
  refine Tot.succ ?_
  simp only[jS]
  refine Tot.ite (fun _=>Tot.pure (zX hd) (Tot.ite (fun h1=>Tot.ite (fun h2=>Tot.ret hP) fun h2=>next fun j y h3 h4 e=>?_) fun h1=>next fun j y h3 h4 e=>?_)) fun h=>?_
  ·have:=hA j y h4
   rw[e]at this
   have h5:zFi m n=(j:Int):=by unfold zFi;rw[this]
   rw[h5]at h2
   have:=of_decide_eq_false h2
   omega
  ·have:=hA j y h4
   rw[e]at this
   unfold E0 at h1
   rw[this]at h1;cases h1
  ·rw[zY hd]at h;cases h
theorem W2{c:List zD}{m:List (Int×Int)}(hl:c.length≤256)(hs:∀v∈c,zL v.type_=true)(hA:∀(j:Nat) (y:zD),c[j]? = some y->iJ m y.n_=some (j:Int)) :
  ∀(r:List zD) (v:Nat),c.drop v=r->RtC c v->Tot (fun q=>gS q c m (v:Int)) fun b=>b=true->RtC c c.length
 | [],v,hd,hR=>by
  refine Tot.succ ?_
  simp only[gS]
  refine Tot.ite (fun h=>?_) fun _=>Tot.ret fun _ i x hi hx=>?_
  ·rw[zZ hd]at h;cases h
  ·have:=List.drop_eq_nil_iff.1 hd
   exact hR i x (by omega) hx
 |x::r,v,hd,hR=>by
  have hlt:=yC hd
  have hx:x∈c:=List.mem_of_mem_drop (by rw[hd];simp)
  have hsx:=hs x hx
  refine Tot.succ ?_
  simp only[gS]
  refine Tot.ite (fun _=>Tot.pure (zX hd) (Tot.bind (P:=fun k=>k=nC x.type_ 0) ((b8 x.type_ hsx).tot rfl) fun k hk=>Tot.ite (fun _=>Tot.ret fun h=>(by cases h)) fun h1=>?_)) fun h=>?_
  ·have h2:nC x.type_ 0≤0:=by rw[←hk];have:=of_decide_eq_false h1;omega
   refine Tot.bind (P:=fun F=>F=wG (sQ x.type_ 8 8)) ((lI x.type_ (zV hsx)).tot (by unfold lE;rw[if_pos hsx])) fun F hF=>?_
   have hcl:=pB x.type_ 8 8
   have hnn:=(zQ hsx).1
   refine W1 v F (by rw[hF];have:=pJ (sQ x.type_ 8 8);omega) hA (fun h=>(by cases h)) (fun h3=>?_) _ 0 rfl fun j y _ _ h4=>(by simp at h4)
   rw[zW v (by omega)]
   refine W2 hl hs hA r (v+1) (zU hd) fun i y hi hy=>?_
   rcases Nat.lt_or_ge i v with h5|h5
   ·exact hR i y h5 hy
   ·have:i=v:=by omega
    subst this
    rw[O4 hd]at hy
    cases hy
    refine⟨(O1 hsx).1 h2,fun j y h6 h7 h8=>h3 j y h6 h7 ?_⟩
    rw[hF];exact(rT _ _).2 h8
  ·rw[zY hd]at h;cases h
theorem mV{c:List zD}(hl:c.length≤17592186044416)(ho:∀v∈c,v.type_.Ok):Tot (fun q=>e96 q c) fun b=>b=true->gP c:=by
 simp only[e96,zKp]
 refine(jT hl ho c 0 [] rfl (Nat.zero_le _) ⟨fun w hw=>by simp at hw,fun h=>absurd rfl h,Nat.le_refl _,fun _ i x hi=>absurd hi (Nat.not_lt_zero _)⟩).bind fun x hx=>?_
 cases x with
 |inl _=>exact Tot.ret fun h=>(by cases h)
 |inr m=>
  have hI:=hx m rfl
  refine Tot.ite (fun _=>Tot.ret fun h=>(by cases h)) fun h1=>?_
  have hm:m.length=c.length:=by have:=(by simpa using h1:(m.length:Int)=c.length);omega
  have hA:∀(j:Nat) (y:zD),c[j]? = some y->iJ m y.n_=some (j:Int):=fun j y hy=>hI.at' hm j y (List.getElem?_eq_some_iff.1 hy).1 hy
  have hok:∀w∈c,(0≤w.n_∧w.n_≤1048576)∧zL w.type_=true:=fun w hw=>hI.ok w (by rw[List.take_length];exact hw)
  have h256:c.length≤256:=by
   rcases Nat.eq_zero_or_pos c.length with h|h
   ·omega
   ·exact hI.few (by omega)
  refine(W2 h256 (fun v hv=>(hok v hv).2) hA c 0 rfl fun i x hi=>absurd hi (Nat.not_lt_zero _)).mono fun b hb h=>?_
  have hR:=hb h
  refine⟨h256,fun v hv=>?_,?_,fun v hv=>?_,?_⟩
  ·obtain⟨i,hi,e⟩:=List.getElem_of_mem hv
   exact⟨(hok v hv).1.1,(hok v hv).1.2,(hok v hv).2,(hR i v hi (by rw[←e];exact List.getElem?_eq_getElem hi)).1⟩
  ·rw[List.nodup_iff_pairwise_ne,List.pairwise_map,List.pairwise_iff_getElem]
   intro i j hi hj hij e
   have h1:=hA i _ (List.getElem?_eq_getElem hi)
   have h2:=hA j _ (List.getElem?_eq_getElem hj)
   rw[e,h2]at h1
   injection h1 with h1
   omega
  ·obtain⟨i,hi,e⟩:=List.getElem_of_mem hv
   have hi':c[i]? = some v:=by rw[←e];exact List.getElem?_eq_getElem hi
   exact(hR i v hi hi').2 i v (Nat.le_refl _) hi'
  ·rw[List.pairwise_iff_getElem]
   intro i j hi hj hij
   exact(hR i _ hi (List.getElem?_eq_getElem hi)).2 j _ (Nat.le_of_lt hij) (List.getElem?_eq_getElem hj)
def jU:Nat->List Int->Int->Int->Option Int
 |0,_,_,_=>none
 |qq+1,p0,p1,v8=>
 if decide (v8<(p0.length:Int))then
 zS p0 v8>>=fun x2=>
 if p1==x2 then
 some v8
 else
 jU qq p0 p1 (w64 (v8+1))
 else
 some (-1)
def zQN(qq:Nat)(p0:List Int)(p1:Int):Option Int:=
 jU qq p0 p1 0
theorem zQO:∀qq:Nat,(∀ {p0 p1 v8 r},jU qq p0 p1 v8=some r->(∀j,dL 0 (pt 949 Tryz.f124) (sp j 19 0 [(0,slv yB p0 .no),(1,ai p1),(7,ai (p0.length:Int)),(8,ai v8)]) (⟨[],0,[],0,[]⟩) (fQ 0 (nQ 0 Tryz.f124 (ai r) [] 0) [.blk 0,.seq (pt 15 Tryz.f124)]))):=by
 intro qq
 induction qq with
 |zero=>
  exact fun h=>nn h
 |succ qq ih=>
  intro p0 p1 v8 r h
  rw[jU]at h
  obtain⟨h1,h⟩|⟨h1,h⟩:=spl h
  obtain⟨x2,h3,h⟩:=zC h
  have k:=oA 0 (nU (o:=.no) h3)<|oB 0 h1 o0
  obtain⟨h4,h⟩|⟨h4,h⟩:=spl h
  obtain rfl:=sj h
  exact fun j=>lF 0 [] (oB 1 h4 k)
  exact fun j=>lH 1 [] [] [] [0,1,7,8] (oD (dI p0)<|oB 1 h4 k) (ih h)
  obtain rfl:=sj h
  exact fun j=>lF 0 [] (oB 0 h1 o0)
theorem zXo{qq p0 p1 r}(h:zQN qq p0 p1=some r):Ct 124 [] [slv yB p0 .no,ai p1] (ai r) [] 0:=⟨by
 unfold zQN at h
 exact tH ⟨Tryz.func124,rfl⟩ 1 [] [] [] [0,1,7,8] (oD (dI p0) o0) (zQO _ h),⟨⟨tv,dI _⟩,tv,tv⟩,zB,tv,zB⟩
def zHU(qq:Nat)(p0:List zD):Option Unit:=
 some ()
theorem zQP{qq p0 r}(h:zHU qq p0=some r):Ct 130 [] [slv zJ p0 .nl] (slv zJ ([]:List zD) .full) [] 0:=⟨by
 unfold zHU at h
 cases h
 exact tG ⟨Tryz.func130,rfl⟩ 1 [] [] [] true (oD (zF ([]:List zD)) o0),⟨⟨tv,zF _⟩,tv⟩,zB,zF _,zB⟩
def zBF(qq:Nat)(p0:List zD):Option ((Unit) ⊕ (List zD)):=
 if decide (List.length p0=0)then
 some (.inl ())
 else
 yN 48 ([]:List zD) p0>>=fun l2=>
 some (.inr l2)
abbrev zKn (p0:List zD) (C:Cf):Prop:=C 130 [] [slv zJ p0 .nn] (slv zJ ([]:List zD) .full) [] 0
abbrev zKm (p0 r:List zD) (C:Cf):Prop:=C 130 [] [slv zJ p0 .nn] (.ms 0 0 r.length r.length 4) [.row (zK zJ r)] 0
theorem zHV:Qf 130 Tryz.f130:=⟨Tryz.func130,rfl⟩
theorem zHW{qq p0 r}(h:zBF qq p0=some r):(match (generalizing:=false) r with | .inl x=>zKn p0 Ct | .inr x=>zKm p0 x Ct):=by
 unfold zBF at h
 obtain⟨h1,h⟩|⟨h1,h⟩:=spl h
 cases h
 exact⟨tG zHV 0 [] [] [] true (oD (zF ([]:List zD))<|oQ 2 (zUg (of_decide_eq_true h1)) o0),⟨⟨tv,zF _⟩,tv⟩,zB,zF _,zB⟩
 obtain⟨l2,h3,h⟩:=zC h
 cases h
 exact⟨tF zHV 0 [0] (oD (zF l2)<|oM 2 (zUa h3 (of_decide_eq_false h1)) o0),⟨⟨tv,zF _⟩,tv⟩,zB,(lz rfl),(zA (zF _) zB)⟩
def W3(qq:Nat)(p0:List zD):Option (Unit ⊕ List zD):=if decide (List.length p0=0)=true then some (.inl ())else(yN 48 [] p0)>>=fun r=>some (.inr r)
theorem zBG{qq:Nat}{p0:List zD}{r:Unit ⊕ List zD}(h:W3 qq p0=some r):(match (generalizing:=false) r with | .inl _=>CT Tryz.prog 130 [] [.sl (zK zJ p0) p0.length .no] (.sl (zK zJ ([]:List zD)) (List.length ([]:List zD)) .full) [] 0 | .inr x=>CT Tryz.prog 130 [] [.sl (zK zJ p0) p0.length .no] (.ms 0 0 x.length x.length 4) [.row (zK zJ x)] 0):=by
 unfold W3 at h
 obtain⟨h1,h⟩|⟨h1,h⟩:=spl h
 ·obtain rfl:=sj h
  have hp:p0=[]:=List.length_eq_zero_iff.1 (of_decide_eq_true h1)
  subst hp
  have k0:=zQP (qq:=qq) (p0:=[]) (r:=()) rfl
  have k1:=zHW (qq:=qq) (p0:=[]) (r:=.inl ()) rfl
  exact⟨uG.nilcase (fun _=>k0.tri) k1.tri,⟨⟨trivial,zF _⟩,trivial⟩,(fun _ h=>nomatch h),zF _,(fun _ h=>nomatch h)⟩
 ·obtain⟨x,h2,h⟩:=zC h
  cases h
  have k1:=zHW (qq:=qq) (p0:=p0) (r:=.inr x) (by unfold zBF;rw[if_neg (by rw[h1];decide),h2];rfl)
  refine⟨uG.nilcase (fun hn=>?_) k1.tri,⟨⟨trivial,zF _⟩,trivial⟩,(fun _ h=>nomatch h),(show 0<1 by decide),zA (zF _) zB⟩
  have hp:p0=[]:=R2 xJ (by decide) hn
  subst hp
  cases h1
def zQQ(_qq:Nat)(p0:List zD):Option (List zD):=yN 48 [] p0
theorem zXn{qq:Nat}{p0:List zD}{r:List zD}(h:zQQ qq p0=some r):CT Tryz.prog 130 [] [.sl (zK zJ p0) p0.length .no] (.sl (zK zJ r) r.length (.st 0 4)) [] 1:=by
 have hr:r=p0:=by have:=(qP h).2;simpa using this
 subst hr
 by_cases h1:List.length r=0
 ·have hp:r=[]:=List.length_eq_zero_iff.1 h1
  subst hp
  exact CT.stampNil (zBG (qq:=qq) (p0:=[]) (r:=.inl ()) rfl)
 ·exact CT.freezeS (zBG (qq:=qq) (p0:=r) (r:=.inr r) (by unfold W3;rw[if_neg (by simpa using h1),show yN 48 ([]:List zD) r=some r from h];rfl)) (zF _) (xZ xJ.len _)
def e94(qq:Nat)(p0:List Int)(p1:Int):Option Bool:=
 zQN qq p0 p1>>=fun r1=>
 some (decide (r1≥0))
theorem c94{qq p0 p1 r}(h:e94 qq p0 p1=some r):Ct 94 [] [slv yB p0 .no,ai p1] (ab r) [] 0:=⟨by
 unfold e94 at h
 obtain⟨r1,h2,h⟩:=zC h
 cases h
 exact tF ⟨Tryz.func94,rfl⟩ 1 [] (oC 0 [] (zXo h2) o0),⟨⟨tv,dI _⟩,tv,tv⟩,zB,tv,zB⟩
def B1(qq:Nat)(p0:zD)(q1:List Int):Option Bool:=
 e94 qq q1 p0.n_>>=fun r1=>
 some r1
theorem zEs{qq p0 q1 r}(h:B1 qq p0 q1=some r):Ct 223 [.cells [slv yB q1 .no]] [zLA p0,.mp 0 0] (ab r) [.cells [slv yB q1 .no]] 0:=⟨by
 unfold B1 at h
 obtain⟨r1,h2,h⟩:=zC h
 obtain rfl:=sj h
 exact tF ⟨Tryz.func223,rfl⟩ 0 [0] (oD (dI q1)<|oC 2 [] (c94 h2) o0),⟨⟨tv,tv,tv,⟨tv,dT _⟩,tv⟩,(lz rfl),tv⟩,(zA ⟨⟨tv,dI _⟩,tv⟩ zB),tv,(zA ⟨dI _,tv⟩ zB)⟩
def sH:Nat->List zD->Nat->Nat->List Int->Int->Option Int
 |0,_,_,_,_,_=>none
 |qq+1,q0,q1,q2,q3,v8=>
 if decide (v8<(q1:Int))then
 nT q1 v8>>=fun x2=>
 zS q0 (x2:Int)>>=fun x4=>
 B1 qq (zD.mk x4.n_ x4.type_) q3>>=fun r6=>
 if r6 then
 some v8
 else
 sH qq q0 q1 q2 q3 (w64 (v8+1))
 else
 some (-1)
def B2(qq:Nat)(q0:List zD)(q1 q2:Nat)(q3:List Int):Option Int:=
 sH qq q0 q1 q2 q3 0
theorem zEr:∀qq:Nat,(∀ {q0 q1 q2 q3 v8 r},sH qq q0 q1 q2 q3 v8=some r->(∀j,dL 2 (pt 949 Tryz.f230) (sp j 19 0 [(0,.ms 0 0 q1 q2 4),(1,.clo 223 [] [.mp 1 0]),(7,ai (q1:Int)),(8,ai v8)]) (⟨[(0,.row (zK zJ q0)),(1,.cells [slv yB q3 .no])],2,[],0,[]⟩) (fQ 2 (nQ 2 Tryz.f230 (ai r) [.row (zK zJ q0),.cells [slv yB q3 .no]] 0) [.blk 0,.seq (pt 15 Tryz.f230)]))):=by
 intro qq
 induction qq with
 |zero=>
  exact fun h=>nn h
 |succ qq ih=>
  intro q0 q1 q2 q3 v8 r h
  rw[sH]at h
  have z {os ob} (k:Oz os ob):=oD (dI q3)<|oD (zF q0)<|k
  obtain⟨h1,h⟩|⟨h1,h⟩:=spl h
  obtain⟨x2,h3,h⟩:=zC h
  obtain⟨x4,h5,h⟩:=zC h
  obtain⟨r6,h7,h⟩:=zC h
  have k:=oG (a:=(.agg [ai x4.n_,ai x4.type_.k,ai x4.type_.n,slv zG x4.type_.sub .no])) 0 (ldE xJ h5 (true,4) (val:=.agg [ai x4.n_,ai x4.type_.k,ai x4.type_.n,slv zG x4.type_.sub .no]) rfl)<|oA 0 (zHu (b:=0) (c:=q2) (z:=4) h3)<|oB 0 h1 o0
  obtain⟨h8,h⟩|⟨h8,h⟩:=spl h
  obtain rfl:=sj h
  exact fun j=>lF 0 [0,1] (z<|oK 0 [1] h8 (zEs h7) k)
  exact fun j=>lH 1 [] [0,1] [] [0,1,7,8] (z<|oK 0 [1] h8 (zEs h7) k) (ih h)
  obtain rfl:=sj h
  exact fun j=>lF 0 [0,1] (z<|oB 0 h1 o0)
theorem zNV{qq q0 q1 q2 q3 r}(h:B2 qq q0 q1 q2 q3=some r):Ct 230 [.row (zK zJ q0),.cells [slv yB q3 .no]] [.ms 0 0 q1 q2 4,.clo 223 [] [.mp 1 0]] (ai r) [.row (zK zJ q0),.cells [slv yB q3 .no]] 0:=⟨by
 unfold B2 at h
 exact tH ⟨Tryz.func230,rfl⟩ 1 [] [0,1] [] [0,1,7,8] (oD (dI q3)<|oD (zF q0) o0) (zEr _ h),⟨(lz rfl),⟨tv,⟨(lz rfl),tv⟩⟩,tv⟩,(zA (zF _) (zA ⟨⟨tv,dI _⟩,tv⟩ zB)),tv,(zA (zF _) (zA ⟨dI _,tv⟩ zB))⟩
def B3(qq:Nat)(q0:List zD)(q1 q2:Nat)(q3:List Int):Option Bool:=
 B2 qq q0 q1 q2 q3>>=fun r1=>
 some (decide (r1≥0))
theorem zEq{qq q0 q1 q2 q3 r}(h:B3 qq q0 q1 q2 q3=some r):Ct 222 [.row (zK zJ q0),.cells [slv yB q3 .no]] [.ms 0 0 q1 q2 4,.clo 223 [] [.mp 1 0]] (ab r) [.row (zK zJ q0),.cells [slv yB q3 .no]] 0:=⟨by
 unfold B3 at h
 obtain⟨r1,h2,h⟩:=zC h
 cases h
 exact tF ⟨Tryz.func222,rfl⟩ 1 [0,1] (oD (dI q3)<|oD (zF q0)<|oC 0 [0,1] (zNV h2) o0),⟨(lz rfl),⟨tv,⟨(lz rfl),tv⟩⟩,tv⟩,(zA (zF _) (zA ⟨⟨tv,dI _⟩,tv⟩ zB)),tv,(zA (zF _) (zA ⟨dI _,tv⟩ zB))⟩
def sI:Nat->List zD->Nat->Nat->Int->Option Int
 |0,_,_,_,_=>none
 |qq+1,q0,q1,q2,v9=>
 if decide (v9<(q1:Int))then
 nT q1 v9>>=fun x2=>
 zS q0 (x2:Int)>>=fun x4=>
 z8 qq x4.type_>>=fun r6=>
 B3 qq q0 q1 q2 r6>>=fun r8=>
 if r8 then
 sI qq q0 q1 q2 (w64 (v9+1))
 else
 some v9
 else
 some (-1)
def B4(qq:Nat)(q0:List zD)(q1 q2:Nat):Option Int:=
 sI qq q0 q1 q2 0
theorem zEp:∀qq:Nat,(∀ {q0 q1 q2 v9 r},sI qq q0 q1 q2 v9=some r->(∀j,dL 1 (pt 949 Tryz.f203) (sp j 24 0 [(0,.ms 0 0 q1 q2 4),(7,.ms 0 0 q1 q2 4),(8,ai (q1:Int)),(9,ai v9)]) (⟨[(0,.row (zK zJ q0))],1,[],0,[]⟩) (fQ 1 (nQ 1 Tryz.f203 (ai r) [.row (zK zJ q0)] 0) [.blk 0,.seq (pt 15 Tryz.f203)]))):=by
 intro qq
 induction qq with
 |zero=>
  exact fun h=>nn h
 |succ qq ih=>
  intro q0 q1 q2 v9 r h
  rw[sI]at h
  obtain⟨h1,h⟩|⟨h1,h⟩:=spl h
  obtain⟨x2,h3,h⟩:=zC h
  obtain⟨x4,h5,h⟩:=zC h
  obtain⟨r6,h7,h⟩:=zC h
  obtain⟨r8,h9,h⟩:=zC h
  have k:=oC 2 [] (zJq h7)<|oG (a:=(.agg [ai x4.n_,ai x4.type_.k,ai x4.type_.n,slv zG x4.type_.sub .no])) 0 (ldE xJ h5 (true,4) (val:=.agg [ai x4.n_,ai x4.type_.k,ai x4.type_.n,slv zG x4.type_.sub .no]) rfl)<|oA 0 (zHu (b:=0) (c:=q2) (z:=4) h3)<|oB 0 h1 o0
  obtain⟨h10,h⟩|⟨h10,h⟩:=spl h
  exact fun j=>lH 2 [] [0] [] [0,7,8,9] (oD (zF q0)<|oK 1 [0,2] h10 (zEq h9) k) (ih h)
  obtain rfl:=sj h
  exact fun j=>lF 1 [0] (oD (zF q0)<|oK 1 [0,2] h10 (zEq h9) k)
  obtain rfl:=sj h
  exact fun j=>lF 0 [0] (oD (zF q0)<|oB 0 h1 o0)
theorem zNW{qq q0 q1 q2 r}(h:B4 qq q0 q1 q2=some r):Ct 203 [.row (zK zJ q0)] [.ms 0 0 q1 q2 4] (ai r) [.row (zK zJ q0)] 0:=⟨by
 unfold B4 at h
 exact tH ⟨Tryz.func203,rfl⟩ 1 [] [0] [] [0,7,8,9] (oD (zF q0) o0) (zEp _ h),⟨(lz rfl),tv⟩,(zA (zF _) zB),tv,(zA (zF _) zB)⟩
def gT(qq:Nat)(q0:List zD)(q1 q2:Nat)(p1 p2:Int):Option (List zD×Nat×Nat):=
 mQ q1 p1 p2>>=fun x1=>
 if p1==p2 then
 some (q0,q1,q2)
 else
 mQ q2 0 p1>>=fun x4=>
 mQ q1 p2 (q1:Int)>>=fun x6=>
 eV q0 (0+x6.1) x6.2>>=fun m8=>
 zJx q2 x4.2 q0 m8>>=fun l10=>
 mQ q2 ((x4.2+x6.2):Int) (q1:Int)>>=fun x12=>
 gle l10.length (0+x12.1)>>=fun x14=>
 some (l10,(x4.2+x6.2),q2)
theorem zEo:Qf 204 Tryz.f204:=⟨Tryz.func204,rfl⟩
theorem zNX{qq q0 q1 q2 p1 p2 r}(h:gT qq q0 q1 q2 p1 p2=some r):Ct 204 [.row (zK zJ q0)] [.ms 0 0 q1 q2 4,ai p1,ai p2] (.ms 0 0 r.2.1 r.2.2 4) [.row (zK zJ r.1)] 0:=⟨by
 unfold gT at h
 obtain⟨x1,h2,h⟩:=zC h
 have k:=oA 1 (zPv (b:=0) (o:=0) (c:=q2) h2) o0
 obtain⟨h3,h⟩|⟨h3,h⟩:=spl h
 cases h
 exact tF zEo 0 [0] (oD (zF q0)<|oB 0 h3 k)
 obtain⟨x4,h5,h⟩:=zC h
 obtain⟨x6,h7,h⟩:=zC h
 obtain⟨m8,h9,h⟩:=zC h
 obtain⟨l10,h11,h⟩:=zC h
 obtain⟨x12,h13,h⟩:=zC h
 obtain⟨x14,h15,h⟩:=zC h
 cases h
 exact tF zEo 0 [0] (oD (zF l10)<|oR 0 (zUB h15)<|oA 1 (zUG (b:=0) (o:=0) (n:=(x4.2+x6.2)) h13)<|oI 0 (zSm h9 h11)<|oA 0 (zJs (b:=0) (o:=0) (c:=q2) h7)<|oA 1 (zPu (b:=0) (off:=0) (n:=q1) h5)<|oB 0 h3 k),⟨(lz rfl),tv,tv,tv⟩,(zA (zF _) zB),(lz rfl),(zA (zF _) zB)⟩
def mH:Nat->List zD->Nat->Nat->List zD->Option (List zD×Int)
 |0,_,_,_,_=>none
 |qq+1,v6,v7_c,v7_n,yA=>
 if decide ((v7_n:Int)>0)then
 B4 qq yA v7_n v7_c>>=fun r9=>
 if decide (r9<0)then
 some ([],3)
 else
 nT v7_n r9>>=fun x12=>
 zS yA (x12:Int)>>=fun x14=>
 e53 qq x14.type_>>=fun r16=>
 yN 48 v6 [(zD.mk x14.n_ r16)]>>=fun l18=>
 gT qq yA v7_n v7_c r9 (w64 (r9+1))>>=fun r20=>
 mH qq l18 r20.2.2 r20.2.1 r20.1
 else
 some (v6,0)
def zNY(qq:Nat)(p0:List zD):Option (List zD×Int):=
 zKp qq p0>>=fun r1=>
 match r1 with
 | .inl y9=>
  some ([],5)
 | .inr y3=>
  if (y3.length:Int) != (p0.length:Int)then
  some ([],4)
  else
  W3 qq p0>>=fun r5=>
  match r5 with
  | .inl y7=>
   mH qq [] (List.length ([]:List zD)) (List.length ([]:List zD)) ([]:List zD)
  | .inr y8=>
   mH qq [] y8.length y8.length y8
theorem zQR:Qf 169 Tryz.f169:=⟨Tryz.func169,rfl⟩
theorem zHX:∀qq:Nat,(∀ {v6 v7_c v7_n yA r},mH qq v6 v7_c v7_n yA=some r->(∀j,dL 0 (pt 262069 Tryz.f169) (sp j 51 0 [(6,slv zJ v6 (.st 0 4)),(7,.ms 0 0 v7_n v7_c 4)]) (⟨[(0,.row (zK zJ yA))],1,[0],1,[]⟩) (fQ 0 (nQ 0 Tryz.f169 (.tup [.sl (zK zJ r.1) r.1.length .no,ai r.2]) [] 0) [.blk 0,.seq (pt 4095 Tryz.f169)]))):=by
 intro qq
 induction qq with
 |zero=>
  exact fun h=>nn h
 |succ qq ih=>
  intro v6 v7_c v7_n yA r h
  rw[mH]at h
  obtain⟨h8,h⟩|⟨h8,h⟩:=spl h
  obtain⟨r9,h10,h⟩:=zC h
  have k:=oC 0 [0] (zNW h10)<|oB 1 h8 o0
  obtain⟨h11,h⟩|⟨h11,h⟩:=spl h
  cases h
  exact fun j=>lF 0 [] (oD (zF ([]:List zD))<|oB 0 h11 k)
  obtain⟨x12,h13,h⟩:=zC h
  obtain⟨x14,h15,h⟩:=zC h
  obtain⟨r16,h17,h⟩:=zC h
  obtain⟨l18,h19,h⟩:=zC h
  obtain⟨r20,h21,h⟩:=zC h
  exact fun j=>lH 0 [] [0] [1] [6,7] (oD (zF l18)<|oD (zF r20.1)<|oC 1 [0] (zNX h21)<|oP 1 (zHw h19 (by simp))<|oC 0 [] (c53 h17)<|oG (a:=(.agg [ai x14.type_.k,ai x14.type_.n,slv zG x14.type_.sub .no])) 0 (ldF xJ h15 1 (true,3) (val:=.agg [ai x14.type_.k,ai x14.type_.n,slv zG x14.type_.sub .no]) rfl)<|oA 0 (zHu (b:=0) (c:=v7_c) (z:=4) h13)<|oG (a:=(ai x14.n_)) 0 (ldE xJ h15 (false,1) (val:=ai x14.n_) rfl)<|oA 0 (zHu (b:=0) (c:=v7_c) (z:=4) h13)<|oB 0 h11 k) (ih h)
  cases h
  exact fun j=>lF 0 [] (oD (zF v6)<|oB 1 h8 o0)
theorem zXm{qq p0 r}(h:zNY qq p0=some r):Ct 169 [] [slv zJ p0 .no] (.tup [.sl (zK zJ r.1) r.1.length .no,ai r.2]) [] 0:=⟨by
 unfold zNY at h
 obtain⟨r1,h2,h⟩:=zC h
 rcases r1 with y9|y3
 dsimp only at h
 cases h
 exact tF zQR 3 [] (oD (zF ([]:List zD))<|oC 0 [] (zQL h2) o0)
 dsimp only at h
 have k:=oN 3 (zLI y3)<|oC 0 [] (zQL h2) o0
 obtain⟨h4,h⟩|⟨h4,h⟩:=spl h
 cases h
 exact tF zQR 0 [] (oD (zF ([]:List zD))<|oB 1 h4 k)
 obtain⟨r5,h6,h⟩:=zC h
 have k:=oB 1 h4 k
 rcases r5 with y7|y8
 dsimp only at h
 exact tH zQR 0 [(none,7,4100),(none,6,4)] [1] [0] [6,7] (oD (zF ([]:List zD))<|oD (zF ([]:List zD))<|oC 0 [] (zBG h6) k) (zHX _ h)
 dsimp only at h
 exact tH zQR 0 [(none,6,4)] [1] [0] [6,7] (oD (zF ([]:List zD))<|oD (zF y8)<|oC 0 [] (zBG h6) k) (zHX _ h),⟨⟨tv,zF _⟩,tv⟩,zB,⟨zF _,tv,tv⟩,zB⟩
theorem W4(L:List Int)(n:Int)(hl:L.length≤17592186044416):∀(r:List Int) (v:Nat),L.drop v=r->Tot (fun q=>jU q L n (v:Int)) fun k=>(0≤k↔n∈r)
 | [],v,hd=>by
  refine Tot.succ ?_
  simp only[jU]
  refine Tot.ite (fun h=>?_) fun _=>Tot.ret (by simp)
  rw[zZ hd]at h;cases h
 |x::r,v,hd=>by
  have hlt:=yC hd
  refine Tot.succ ?_
  simp only[jU]
  refine Tot.ite (fun _=>Tot.pure (zX hd) (Tot.ite (fun e=>Tot.ret ?_) fun e=>?_)) fun h=>?_
  ·have e':n=x:=by simpa using e
   exact⟨fun _=>by rw[e'];simp,fun _=>by omega⟩
  ·have e':¬n=x:=by simpa using e
   rw[zW v (by omega)]
   exact(W4 L n hl r (v+1) (zU hd)).mono fun k hk=>by rw[hk,List.mem_cons];exact⟨.inr,fun h=>h.resolve_left e'⟩
  ·rw[zY hd]at h;cases h
theorem B5(L:List Int)(n:Int)(hl:L.length≤17592186044416):Tot (fun q=>e94 q L n) fun b=>(b=true↔n∈L):=by
 simp only[e94,zQN]
 exact(W4 L n hl L 0 rfl).bind fun k hk=>Tot.ret (by rw[decide_eq_true_eq];exact hk)
theorem qG{n:Nat}{v:Nat}(h:v<n):nT n (v:Int)=some v:=by unfold nT;rw[if_pos (by omega)];simp
theorem b9(L:List zD)(cap:Nat)(F:List Int)(hF:F.length≤17592186044416)(hl:L.length≤17592186044416):∀(r:List zD) (v:Nat),L.drop v=r->Tot (fun q=>sH q L L.length cap F (v:Int)) fun k=>(0≤k ↔ ∃x∈r,x.n_∈F)
 | [],v,hd=>by
  refine Tot.succ ?_
  simp only[sH]
  refine Tot.ite (fun h=>?_) fun _=>Tot.ret (by simp)
  rw[zZ hd]at h;cases h
 |x::r,v,hd=>by
  have hlt:=yC hd
  refine Tot.succ ?_
  simp only[sH,B1]
  refine Tot.ite (fun _=>Tot.pure (qG hlt) (Tot.pure (zX hd) (((B5 F x.n_ hF).bind fun b hb=>Tot.ret hb).bind fun b hb=>Tot.ite (fun e=>Tot.ret ?_) fun e=>?_))) fun h=>?_
  ·exact⟨fun _=>⟨x,by simp,hb.1 e⟩,fun _=>by omega⟩
  ·rw[zW v (by omega)]
   refine(b9 L cap F hF hl r (v+1) (zU hd)).mono fun k hk=>?_
   rw[hk]
   refine⟨fun⟨y,h1,h2⟩=>⟨y,List.mem_cons_of_mem _ h1,h2⟩,fun⟨y,h1,h2⟩=>?_⟩
   rcases List.mem_cons.1 h1 with rfl|h1
   ·rw[hb.2 h2]at e;cases e
   ·exact⟨y,h1,h2⟩
  ·rw[zY hd]at h;cases h
theorem W5(L:List zD)(cap:Nat)(hl:L.length≤17592186044416)(hs:∀x∈L,zL x.type_=true):∀(r:List zD) (v:Nat),L.drop v=r->Tot (fun q=>sI q L L.length cap (v:Int)) fun k=>k<0∨∃(i:Nat) (x:zD),k=(i:Int)∧L[i]? = some x∧∀y∈L,¬y.n_∈frT x.type_
 | [],v,hd=>by
  refine Tot.succ ?_
  simp only[sI]
  refine Tot.ite (fun h=>?_) fun _=>Tot.ret (.inl (by decide))
  rw[zZ hd]at h;cases h
 |x::r,v,hd=>by
  have hlt:=yC hd
  have hsx:=hs x (List.mem_of_mem_drop (by rw[hd];simp))
  have hcl:=pB x.type_ 8 8
  have hnn:=(zQ hsx).1
  have hrl:=pJ (sQ x.type_ 8 8)
  refine Tot.succ ?_
  simp only[sI,B3,B2]
  refine Tot.ite (fun _=>Tot.pure (qG hlt) (Tot.pure (zX hd) (Tot.bind (P:=fun F=>F=wG (sQ x.type_ 8 8)) ((lI x.type_ (zV hsx)).tot (by unfold lE;rw[if_pos hsx])) fun F hF=>?_))) fun h=>?_
  ·refine Tot.bind (P:=fun b=>(b=true ↔ ∃y∈L,y.n_∈F)) ((b9 L cap F (by rw[hF];omega) hl L 0 rfl).bind fun k hk=>Tot.ret (by rw[decide_eq_true_eq];exact hk)) fun b hb=>Tot.ite (fun _=>?_) fun e=>Tot.ret (.inr ⟨v,x,rfl,O4 hd,fun y hy h=>?_⟩)
   ·rw[zW v (by omega)]
    exact W5 L cap hl hs r (v+1) (zU hd)
   ·rw[hb.2 ⟨y,hy,by rw[hF];exact(rT _ _).2 h⟩]at e;cases e
  ·rw[zY hd]at h;cases h
theorem gU{n a b:Nat}(h1:a≤b)(h2:b≤n):mQ n (a:Int) (b:Int)=some (a,b-a):=by
 unfold mQ
 rw[if_pos (by omega)]
 congr 1
 exact Prod.ext (by simp) (by show ((b:Int)-a).toNat=b-a;omega)
theorem zGr(L:List zD)(cap i:Nat)(hi:i<L.length)(hc:L.length≤cap):Evt (fun q=>gT q L L.length cap (i:Int) ((i+1:Nat):Int)) (L.eraseIdx i,L.length-1,cap):=by
 simp only[gT]
 refine Evt.pure (gU (Nat.le_succ i) hi) (Evt.ifF (by simp;omega) (Evt.pure (show mQ cap (0:Int) (i:Int)=some (0,i)from gU (a:=0) (Nat.zero_le i) (by omega)) (Evt.pure (gU (a:=i+1) (b:=L.length) hi (Nat.le_refl _)) ?_)))
 have e1:(L.drop (i+1)).take (L.length-(i+1))=L.drop (i+1):=List.take_of_length_le (by rw[List.length_drop];exact Nat.le_refl _)
 refine Evt.pure (a:=L.drop (i+1)) (by unfold eV;show (if 0+(i+1)+(L.length-(i+1))≤L.length then _ else _)=_;rw[if_pos (by omega)];show some ((L.drop (0+(i+1))).take (L.length-(i+1)))=_;rw[Nat.zero_add,e1]) ?_
 refine Evt.pure (a:=L.eraseIdx i) (by unfold zJx;show (if i+(L.drop (i+1)).length≤cap∧i≤L.length then some (L.take i++L.drop (i+1))else none)=_;rw[if_pos (by rw[List.length_drop];omega),List.eraseIdx_eq_take_drop_succ]) ?_
 have e2:i+(L.length-(i+1))=L.length-1:=by omega
 refine Evt.pure (a:=(L.length-1,1)) (by show mQ cap ((i+(L.length-(i+1)):Nat):Int) (L.length:Int)=_;rw[e2,gU (by omega) hc];congr 2;omega) ?_
 refine Evt.pure (a:=()) (by unfold gle;rw[if_pos (by rw[List.length_eraseIdx_of_lt hi];show L.length-1≤0+(L.length-1);omega)]) ?_
 exact Evt.ret.eq (by show (L.eraseIdx i,i+(L.length-(i+1)),cap)=_;rw[e2])
structure zQS (out L:List zD):Prop where
 pw:out.Pairwise fun v w=>¬w.n_∈frT v.type_
 self:∀v∈out,¬v.n_∈frT v.type_
 rest:∀v∈out,∀w∈L,¬w.n_∈frT v.type_
theorem K4{α:Type}:∀ {L:List α} {i:Nat} (hi:i<L.length),(L[i]::L.eraseIdx i).Perm L
 |a::l,0,_=>List.Perm.refl _
 |a::l,i+1,h=>(List.Perm.swap a (l[i]'(Nat.lt_of_succ_lt_succ h)) (l.eraseIdx i)).trans (List.Perm.cons a (K4 (Nat.lt_of_succ_lt_succ h)))
theorem zNZ(x:zD):zD.mk x.n_ x.type_=x:=by cases x;rfl
theorem F8(cap:Nat):∀(m:Nat) (L out:List zD),L.length=m->L.length≤cap->out.length+L.length≤1048576->(∀x∈L,zL x.type_=true)->zQS out L->Tot (fun q=>mH q out cap L.length L) fun r=>r.2=0->r.1.Perm (out++L)∧zQS r.1 []
 |0,L,out,hm,hc,hb,hs,hO=>by
  have hL:L=[]:=List.length_eq_zero_iff.1 hm
  subst hL
  refine Tot.succ ?_
  simp only[mH]
  exact Tot.ite (fun h=>absurd (of_decide_eq_true h) (by simp)) fun _=>Tot.ret fun _=>⟨by simp,hO⟩
 |m+1,L,out,hm,hc,hb,hs,hO=>by
  refine Tot.succ ?_
  simp only[mH,B4]
  refine Tot.ite (fun _=>(W5 L cap (by omega) hs L 0 rfl).bind fun k hk=>Tot.ite (fun _=>Tot.ret fun h=>absurd h (by show ¬(3:Int)=0;decide)) fun h=>?_) fun h=>absurd (of_decide_eq_false h) (by omega)
  have h':=of_decide_eq_false h
  obtain⟨i,x,rfl,hx,hw⟩:=hk.resolve_left h'
  obtain⟨hi,ex⟩:=List.getElem?_eq_some_iff.1 hx
  have hxm:x∈L:=ex▸List.getElem_mem hi
  refine Tot.pure (qG hi) (Tot.pure (a:=x) (by unfold zS;simp[hx]) ?_)
  have hsx:=hs x hxm
  refine Tot.bind (P:=fun t=>t=x.type_) ((sR x.type_ (zV hsx)).tot (by unfold nE;rw[if_pos hsx])) fun t ht=>?_
  rw[ht,zNZ]
  refine Tot.pure (yG (by simp;omega)) ?_
  rw[zW i (by omega)]
  refine Tot.bind (P:=fun r=>r=(L.eraseIdx i,L.length-1,cap)) ((zGr L cap i hi hc).tot rfl) fun r hr=>?_
  subst hr
  have hlen:(L.eraseIdx i).length=L.length-1:=List.length_eraseIdx_of_lt hi
  have hsub:∀y∈L.eraseIdx i,y∈L:=fun y hy=>(List.eraseIdx_sublist L i).subset hy
  have:=F8 cap m (L.eraseIdx i) (out++[x]) (by omega) (by omega) (by simp;omega) (fun y hy=>hs y (hsub y hy)) ⟨?_,?_,?_⟩
  ·rw[hlen]at this
   refine this.mono fun r hr h=>⟨(hr h).1.trans ?_,(hr h).2⟩
   rw[List.append_assoc]
   refine List.Perm.append_left out ?_
   have hp:(L[i]::L.eraseIdx i).Perm L:=K4 hi
   rw[ex]at hp
   exact hp
  ·refine List.pairwise_append.2 ⟨hO.pw,by simp,fun v hv w hw'=>?_⟩
   rw[List.mem_singleton.1 hw']
   exact hO.rest v hv x hxm
  ·intro v hv
   rcases List.mem_append.1 hv with hv|hv
   ·exact hO.self v hv
   ·rw[List.mem_singleton.1 hv];exact hw x hxm
  ·intro v hv w hw'
   rcases List.mem_append.1 hv with hv|hv
   ·exact hO.rest v hv w (hsub w hw')
   ·rw[List.mem_singleton.1 hv];exact hw w (hsub w hw')
def jV:Nat->List zD->List Int->Int->Option (List Int)
 |0,_,_,_=>none
 |qq+1,p0,v3,v8=>
 if decide (v8<(p0.length:Int))then
 zS p0 v8>>=fun x2=>
 yN 8 v3 [x2.n_]>>=fun l4=>
 jV qq p0 l4 (w64 (v8+1))
 else
 some v3
def zGq(qq:Nat)(p0:List zD):Option (List Int):=
 jV qq p0 [] 0
theorem zQT:∀qq:Nat,(∀ {p0 v3 v8 r},jV qq p0 v3 v8=some r->(∀j,dL 0 (pt 4021 Tryz.f131) (sp j 19 0 [(3,slv yB v3 (.st 0 1)),(6,slv zJ p0 .no),(7,ai (p0.length:Int)),(8,ai v8)]) (⟨[],0,[0],1,[]⟩) (fQ 0 (nQ 0 Tryz.f131 (.sl (zK yB r) r.length .no) [] 0) [.blk 0,.seq (pt 63 Tryz.f131)]))):=by
 intro qq
 induction qq with
 |zero=>
  exact fun h=>nn h
 |succ qq ih=>
  intro p0 v3 v8 r h
  rw[jV]at h
  obtain⟨h1,h⟩|⟨h1,h⟩:=spl h
  obtain⟨x2,h3,h⟩:=zC h
  obtain⟨l4,h5,h⟩:=zC h
  exact fun j=>lH 1 [] [] [1] [3,6,7,8] (oD (zF p0)<|oD (dI l4)<|oP 4 (lD h5 (by simp))<|oA 0 (E1 (o:=.no) h3)<|oB 0 h1 o0) (ih h)
  obtain rfl:=sj h
  exact fun j=>lF 0 [] (oD (dI v3)<|oB 0 h1 o0)
theorem zBH{qq p0 r}(h:zGq qq p0=some r):Ct 131 [] [slv zJ p0 .no] (.sl (zK yB r) r.length .no) [] 0:=⟨by
 unfold zGq at h
 exact tH ⟨Tryz.func131,rfl⟩ 1 [(none,3,1)] [] [0] [3,6,7,8] (oD (zF p0)<|oD (dI ([]:List Int)) o0) (zQT _ h),⟨⟨tv,zF _⟩,tv⟩,zB,dI _,zB⟩
def mI:Nat->List zD->Int->Tm->Int->List zD->Option (List zD×Int)
 |0,_,_,_,_,_=>none
 |qq+1,p0,p1,p2,v37,v8=>
 if decide (v37<(p0.length:Int))then
 zS p0 v37>>=fun x21=>
 if x21.n_==p1 then
 mI qq p0 p1 p2 (w64 (v37+1)) v8
 else
 e54 qq x21.type_ p2 p1>>=fun r24=>
 if r24.2 != 0 then
 some ([],r24.2)
 else
 yN 48 v8 [(zD.mk x21.n_ r24.1)]>>=fun l27=>
 mI qq p0 p1 p2 (w64 (v37+1)) l27
 else
 zNY qq v8>>=fun r29=>
 some (r29.1,r29.2)
def zKl(qq:Nat)(p0:List zD)(p1:Int)(p2:Tm):Option (List zD×Int):=
 e96 qq p0>>=fun r1=>
 if r1 then
 e52 qq p2>>=fun r4=>
 if r4 then
 zBC qq p2>>=fun r7=>
 if decide (r7>0)then
 some ([],5)
 else
 zGq qq p0>>=fun r10=>
 e94 qq r10 p1>>=fun r12=>
 if r12 then
 z8 qq p2>>=fun r15=>
 e94 qq r15 p1>>=fun r17=>
 if r17 then
 some ([],3)
 else
 mI qq p0 p1 p2 0 []
 else
 some ([],16)
 else
 some ([],5)
 else
 some ([],5)
theorem zKk:Qf 129 Tryz.f129:=⟨Tryz.func129,rfl⟩
theorem zQU:∀qq:Nat,(∀ {p0 p1 p2 v37 v8 r},mI qq p0 p1 p2 v37 v8=some r->(∀j,dL 0 (pt 262069 Tryz.f129) (sp j 68 0 [(1,ai p1),(5,.mp 0 0),(8,slv zJ v8 (.st 0 4)),(35,slv zJ p0 .no),(36,ai (p0.length:Int)),(37,ai v37)]) (⟨[(0,.cells [ai p2.k,ai p2.n,slv zG p2.sub .no])],1,[0],1,[]⟩) (fQ 0 (nQ 0 Tryz.f129 (.tup [.sl (zK zJ r.1) r.1.length .no,ai r.2]) [] 0) [.blk 0,.seq (pt 4095 Tryz.f129)]))):=by
 intro qq
 induction qq with
 |zero=>
  exact fun h=>nn h
 |succ qq ih=>
  intro p0 p1 p2 v37 v8 r h
  rw[mI]at h
  obtain⟨h20,h⟩|⟨h20,h⟩:=spl h
  obtain⟨x21,h22,h⟩:=zC h
  have k:=oA 0 (E1 (o:=.no) h22)<|oB 0 h20 o0
  obtain⟨h23,h⟩|⟨h23,h⟩:=spl h
  exact fun j=>lH 1 [] [0] [0] [1,5,8,35,36,37] (oD (zF p0)<|oD (zF v8)<|oD (dT p2.sub)<|oB 3 h23 k) (ih h)
  obtain⟨r24,h25,h⟩:=zC h
  have k:=oC 2 [] (c54 h25)<|oB 3 h23 k
  obtain⟨h26,h⟩|⟨h26,h⟩:=spl h
  cases h
  exact fun j=>lF 0 [] (oD (zF ([]:List zD))<|oB 3 h26 k)
  obtain⟨l27,h28,h⟩:=zC h
  exact fun j=>lH 1 [] [0] [1] [1,5,8,35,36,37] (oD (zF p0)<|oD (zF l27)<|oD (dT p2.sub)<|oP 3 (zHw h28 (by simp))<|oB 3 h26 k) (ih h)
  obtain⟨r29,h30,h⟩:=zC h
  cases h
  exact fun j=>lF 2 [] (oD (zF r29.1)<|oC 0 [] (zXm h30)<|oB 0 h20 o0)
theorem zTc{qq p0 p1 p2 r}(h:zKl qq p0 p1 p2=some r):Ct 129 [] [slv zJ p0 .no,ai p1,tmA p2] (.tup [.sl (zK zJ r.1) r.1.length .no,ai r.2]) [] 0:=⟨by
 unfold zKl at h
 obtain⟨r1,h2,h⟩:=zC h
 obtain⟨h3,h⟩|⟨h3,h⟩:=spl h
 obtain⟨r4,h5,h⟩:=zC h
 have k:=oK 0 [] h3 (c96 h2) o0
 obtain⟨h6,h⟩|⟨h6,h⟩:=spl h
 obtain⟨r7,h8,h⟩:=zC h
 have k:=oC 2 [] (zTd h8)<|oK 2 [] h6 (c52 h5) k
 obtain⟨h9,h⟩|⟨h9,h⟩:=spl h
 cases h
 exact tF zKk 0 [] (oD (zF ([]:List zD))<|oB 0 h9 k)
 obtain⟨r10,h11,h⟩:=zC h
 obtain⟨r12,h13,h⟩:=zC h
 have k:=oC 0 [] (zBH h11)<|oB 0 h9 k
 obtain⟨h14,h⟩|⟨h14,h⟩:=spl h
 obtain⟨r15,h16,h⟩:=zC h
 obtain⟨r17,h18,h⟩:=zC h
 have k:=oC 2 [] (zJq h16)<|oK 0 [] h14 (c94 h13) k
 obtain⟨h19,h⟩|⟨h19,h⟩:=spl h
 cases h
 exact tF zKk 0 [] (oD (zF ([]:List zD))<|oK 0 [] h19 (c94 h18) k)
 exact tH zKk 1 [(none,8,4)] [0] [0] [1,5,8,35,36,37] (oD (zF p0)<|oD (zF ([]:List zD))<|oD (dT p2.sub)<|oK 0 [] h19 (c94 h18) k) (zQU _ h)
 cases h
 exact tF zKk 1 [] (oD (zF ([]:List zD))<|oK 0 [] h14 (c94 h13) k)
 cases h
 exact tF zKk 1 [] (oD (zF ([]:List zD))<|oK 2 [] h6 (c52 h5) k)
 cases h
 exact tF zKk 1 [] (oD (zF ([]:List zD))<|oK 0 [] h3 (c96 h2) o0),⟨⟨tv,zF _⟩,tv,⟨tv,tv,⟨tv,dT _⟩,tv⟩,tv⟩,zB,⟨zF _,tv,tv⟩,zB⟩
theorem zKj(acc:List zD)(hl:acc.length≤1048576)(ho:∀v∈acc,v.type_.Ok):Tot (fun q=>zNY q acc) fun r=>r.2=0->r.1.Perm acc∧zQS r.1 []∧∀v∈acc,zL v.type_=true:=by
 simp only[zNY,zKp,W3]
 refine(jT (by omega) ho acc 0 [] rfl (Nat.zero_le _) ⟨fun w hw=>by simp at hw,fun h=>absurd rfl h,Nat.le_refl _,fun _ i x hi=>absurd hi (Nat.not_lt_zero _)⟩).bind fun x hx=>?_
 cases x with
 |inl _=>exact Tot.ret fun h=>absurd h (by show ¬(5:Int)=0;decide)
 |inr m=>
  have hI:=hx m rfl
  have hs:∀w∈acc,zL w.type_=true:=fun w hw=>(hI.ok w (by rw[List.take_length];exact hw)).2
  refine Tot.ite (fun _=>Tot.ret fun h=>absurd h (by show ¬(4:Int)=0;decide)) fun h1=>?_
  by_cases h0:acc=[]
  ·subst h0
   refine Tot.pure (a:=Sum.inl ()) (by simp) ?_
   exact(F8 0 0 [] [] rfl (Nat.le_refl _) (by simp) (fun x hx=>by simp at hx) ⟨by simp,fun v hv=>by simp at hv,fun v hv=>by simp at hv⟩).mono fun r hr h=>⟨(hr h).1,(hr h).2,hs⟩
  ·have hpos:acc.length≠0:=fun e=>h0 (List.length_eq_zero_iff.1 e)
   refine Tot.pure (a:=Sum.inr acc) (by rw[if_neg (by simpa using h0),yG (by simp;omega)];rfl) ?_
   exact(F8 acc.length acc.length acc [] rfl (Nat.le_refl _) (by simpa using hl) hs ⟨by simp,fun v hv=>by simp at hv,fun v hv=>by simp at hv⟩).mono fun r hr h=>⟨(hr h).1,(hr h).2,hs⟩
theorem jW(c:List zD)(hl:c.length≤1048576):∀(r:List zD) (v:Nat) (acc:List Int),c.drop v=r->v≤c.length->acc=(c.take v).map (·.n_)->Tot (fun q=>jV q c acc (v:Int)) fun k=>k=c.map (·.n_)
 | [],v,acc,hd,hv,ha=>by
  refine Tot.succ ?_
  simp only[jV]
  refine Tot.ite (fun h=>?_) fun _=>Tot.ret ?_
  ·rw[zZ hd]at h;cases h
  ·rw[ha,List.take_of_length_le (List.drop_eq_nil_iff.1 hd)]
 |x::r,v,acc,hd,hv,ha=>by
  have hlt:=yC hd
  refine Tot.succ ?_
  simp only[jV]
  refine Tot.ite (fun _=>Tot.pure (zX hd) (Tot.pure (yG (by rw[ha];simp;omega)) ?_)) fun h=>?_
  ·rw[zW v (by omega)]
   exact jW c hl r (v+1) _ (zU hd) hlt (by rw[tS hd,List.map_append,ha];rfl)
  ·rw[zY hd]at h;cases h
def L7(t:Tm)(n:Int)(c:List zD):List zD:=(c.filter fun v=>v.n_ != n).map fun v=>⟨v.n_,naT t n v.type_ 0⟩
theorem W6{c:List zD}(hl:c.length≤524288)(ho:∀v∈c,v.type_.Ok)(n:Int)(t:Tm)(ht:t.Ok):∀(r:List zD) (v:Nat) (acc:List zD),c.drop v=r->acc.length+r.length≤c.length->(∀w∈acc,w.type_.Ok) ->
  Tot (fun q=>mI q c n t (v:Int) acc) fun x=>x.2=0->x.1.Perm (acc++L7 t n r)∧zQS x.1 []∧∀w∈acc++L7 t n r,zL w.type_=true
 | [],v,acc,hd,hv,ha=>by
  refine Tot.succ ?_
  simp only[mI]
  refine Tot.ite (fun h=>?_) fun _=>(zKj acc (by simp at hv;omega) ha).bind fun r hr=>Tot.ret fun h=>?_
  ·rw[zZ hd]at h;cases h
  ·simpa[L7]using hr h
 |x::r,v,acc,hd,hv,ha=>by
  have hlt:=yC hd
  have hx:x∈c:=List.mem_of_mem_drop (by rw[hd];simp)
  simp only[List.length_cons]at hv
  refine Tot.succ ?_
  simp only[mI]
  refine Tot.ite (fun _=>Tot.pure (zX hd) (Tot.ite (fun e=>?_) fun e=>?_)) fun h=>?_
  ·rw[zW v (by omega)]
   have:L7 t n (x::r)=L7 t n r:=by
    unfold L7
    rw[List.filter_cons_of_neg (by simpa using e)]
   rw[this]
   exact W6 hl ho n t ht r (v+1) acc (zU hd) (by omega) ha
  ·have h2:L7 t n (x::r)=⟨x.n_,naT t n x.type_ 0⟩::L7 t n r:=by
    unfold L7
    rw[List.filter_cons_of_pos (by simpa using e),List.map_cons]
   refine(nK x.type_ t n (ho x hx) ht).bind fun y hy=>Tot.ite (fun h3=>Tot.ret fun h4=>?_) fun h3=>Tot.pure (yG (by simp;omega)) ?_
   ·have h4':y.2=0:=h4
    rw[h4']at h3;cases h3
   ·have h4:y.2=0:=by simpa using h3
    have h5:=hy.2.2.1 h4
    have h6:=h5.2.2.2.2.2
    rw[zW v (by omega),h6]
    have R:=W6 hl ho n t ht r (v+1) (acc++[⟨x.n_,naT t n x.type_ 0⟩]) (zU hd) (by simp;omega) fun w hw=>(by
     rcases List.mem_append.1 hw with hw|hw
     ·exact ha w hw
     ·rw[List.mem_singleton.1 hw];show (naT t n x.type_ 0).Ok;rw[←h6];exact hy.1)
    refine Tot.mono R ?_
    intro z hz h
    rw[h2]
    have:=hz h
    rwa[List.append_assoc]at this
  ·rw[zY hd]at h;cases h
theorem K5{c:List zD}(hl:c.length≤524288)(ho:∀v∈c,v.type_.Ok)(n:Int)(t:Tm)(ht:t.Ok):Tot (fun q=>zKl q c n t) fun r=>r.2=0->zEy c n t r.1∧¬n∈frT t:=by
 simp only[zKl,zGq]
 have no:∀e:Int,e≠0->Tot (fun _:Nat=>some (([]:List zD),e)) fun r=>r.2=0->zEy c n t r.1∧¬n∈frT t:=fun e he=>Tot.ret fun h=>absurd h he
 refine(mV (by omega) ho).bind fun b hb=>Tot.ite (fun h1=>?_) fun _=>no 5 (by decide)
 have hC:=hb h1
 refine Tot.bind (P:=fun b=>b=zL t) ((yO t ht).tot rfl) fun b2 hb2=>Tot.ite (fun h2=>?_) fun _=>no 5 (by decide)
 have hs:zL t=true:=by rw[←hb2];exact h2
 refine Tot.bind (P:=fun k=>k=nC t 0) ((b8 t hs).tot rfl) fun k hk=>Tot.ite (fun _=>no 5 (by decide)) fun h3=>?_
 have hlo:∀j,¬j∈lvT t 0:=(O1 hs).1 (by rw[←hk];have:=of_decide_eq_false h3;omega)
 refine(jW c (by omega) c 0 [] rfl (Nat.zero_le _) rfl).bind fun ns hns=>?_
 subst hns
 refine(B5 (c.map (·.n_)) n (by rw[List.length_map];omega)).bind fun b4 hb4=>Tot.ite (fun h4=>?_) fun _=>no 16 (by decide)
 have hcl:=pB t 8 8
 have hnn:=(zQ hs).1
 refine Tot.bind (P:=fun F=>F=wG (sQ t 8 8)) ((lI t ht).tot (by unfold lE;rw[if_pos hs])) fun F hF=>?_
 refine(B5 F n (by rw[hF];have:=pJ (sQ t 8 8);omega)).bind fun b5 hb5=>Tot.ite (fun _=>no 3 (by decide)) fun h5=>?_
 have hnf:¬n∈frT t:=fun h=>by
  rw[hb5.2 (by rw[hF];exact(rT _ _).2 h)]at h5;cases h5
 refine(W6 hl ho n t ht c 0 [] rfl (by simp) (fun w hw=>by simp at hw)).mono fun r hr h=>⟨?_,hnf⟩
 obtain⟨hp,hO,hsh⟩:=hr h
 rw[List.nil_append]at hp hsh
 have hmem:∀v∈r.1,∃w∈c,w.n_=v.n_∧w.n_≠n∧v.type_=naT t n w.type_ 0:=fun v hv=>by
  have:=hp.mem_iff.1 hv
  unfold L7 at this
  obtain⟨w,hw,rfl⟩:=List.mem_map.1 this
  have hw':=List.mem_filter.1 hw
  exact⟨w,hw'.1,rfl,by simpa using hw'.2,rfl⟩
 have hnum:(L7 t n c).map (·.n_)=(c.map (·.n_)).erase n:=by
  rw[List.Nodup.erase_eq_filter hC.nd,List.filter_map]
  unfold L7
  rw[List.map_map]
  rfl
 have hperm:(r.1.map (·.n_)).Perm ((c.map (·.n_)).erase n):=by rw[←hnum];exact hp.map _
 refine⟨⟨?_,fun v hv=>?_,?_,hO.self,hO.pw⟩,hb4.1 h4,hperm,hmem⟩
 ·have h7:=hperm.length_eq
  rw[List.length_map]at h7
  have h8:=(List.erase_sublist (a:=n) (l:=c.map (·.n_))).length_le
  rw[List.length_map]at h8
  have:=hC.len
  omega
 ·obtain⟨w,hw,e1,-,e2⟩:=hmem v hv
  have h7:=hC.each w hw
  refine⟨e1▸h7.1,e1▸h7.2.1,hsh v (hp.mem_iff.1 hv),fun j hj=>?_⟩
  rw[e2]at hj
  exact h7.2.2.2 j (zNH hlo w.type_ 0 j (Int.le_refl _) hj)
 ·exact hperm.nodup_iff.2 (hC.nd.erase n)
def B6(qq:Nat)(q0 q1:List Ent)(q2:List yX)(q3 q4:List Int)(q5 q6:Int)(q7:List zD)(q8:List zH)(q9 q10 q11:Nat)(q12:Bool)(q13:List zD)(q14:List zI)(q15:List Int)(q16:Bool)(q17 p1:Int):Option (List Int):=
 yN 8 q15 [p1]>>=fun l1=>
 some l1
theorem zOz{qq q0 q1 q2 q3 q4 q5 q6 q7 q8 q9 q10 q11 q12 q13 q14 q15 q16 q17 p1 r}(h:B6 qq q0 q1 q2 q3 q4 q5 q6 q7 q8 q9 q10 q11 q12 q13 q14 q15 q16 q17 p1=some r):Ct 140 [.cells [.mp 1 0,.mp 3 0,slv zJ q7 .no,.ms 4 (q10*6) q9 q11 6,ab q12,.ms 5 0 q13.length q13.length 4,.ms 6 0 q14.length q14.length 4,.ms 7 0 q15.length q15.length 1,ab q16,ai q17],qB q0 2 q3 q4,qR q1 q2,.cells [ai q5,ai q6],.row (zK zP q8),.row (zK zJ q13),.row (zK zO q14),.row (zK yB q15)] [.mp 0 0,ai p1] (.tup []) [.cells [.mp 1 0,.mp 3 0,slv zJ q7 .no,.ms 4 (q10*6) q9 q11 6,ab q12,.ms 5 0 q13.length q13.length 4,.ms 6 0 q14.length q14.length 4,.ms 8 0 r.length r.length 1,ab q16,ai q17],qB q0 2 q3 q4,qR q1 q2,.cells [ai q5,ai q6],.row (zK zP q8),.row (zK zJ q13),.row (zK zO q14),.dead,.row (zK yB r)] 0:=⟨by
 unfold B6 at h
 obtain⟨l1,h2,h⟩:=zC h
 obtain rfl:=sj h
 exact tF ⟨Tryz.func140,rfl⟩ 1 [0,1,2,3,4,5,6,7,8] (oD (dI l1)<|oD (zM q14)<|oD (zF q13)<|oD (zN q8)<|oDm q0 q1 q2 q3 q4<|oD (zF q7)<|oM 2 (zRC h2 (by simp)) o0),⟨(lz rfl),tv,tv⟩,(zA ⟨(lz rfl),(lz rfl),⟨tv,zF _⟩,(lz rfl),tv,(lz rfl),(lz rfl),(lz rfl),tv,tv,tv⟩ (fMa (lz rfl) (zA ⟨tv,tv,tv⟩ (zA (zN _) (zA (zF _) (zA (zM _) (zA (dI _) zB))))))),tv,(zA ⟨(lz rfl),(lz rfl),zF _,(lz rfl),tv,(lz rfl),(lz rfl),(lz rfl),tv,tv,tv⟩ (fMf (lz rfl) (zA ⟨tv,tv,tv⟩ (zA (zN _) (zA (zF _) (zA (zM _) (zA tv (zA (dI _) zB))))))))⟩
def qH(qq:Nat)(q0 q1:List Ent)(q2:List yX)(q3 q4:List Int)(q5 q6:Int)(q7:List zD)(q8:List zH)(q9 q10 q11:Nat)(q12:Bool)(q13:List zD)(q14:List zI)(q15 q16:Nat)(q17:List Int)(q18:Bool)(q19 p1:Int):Option (List Int):=
 yN 8 q17 [p1]>>=fun l1=>
 some l1
theorem B7{qq q0 q1 q2 q3 q4 q5 q6 q7 q8 q9 q10 q11 q12 q13 q14 q15 q16 q17 q18 q19 p1 r}(h:qH qq q0 q1 q2 q3 q4 q5 q6 q7 q8 q9 q10 q11 q12 q13 q14 q15 q16 q17 q18 q19 p1=some r):Ct 140 [.cells [.mp 1 0,.mp 3 0,slv zJ q7 .no,.ms 4 (q10*6) q9 q11 6,ab q12,.ms 5 0 q13.length q13.length 4,.ms 6 0 q15 q16 4,.ms 7 0 q17.length q17.length 1,ab q18,ai q19],qB q0 2 q3 q4,qR q1 q2,.cells [ai q5,ai q6],.row (zK zP q8),.row (zK zJ q13),.row (zK zO q14),.row (zK yB q17)] [.mp 0 0,ai p1] (.tup []) [.cells [.mp 1 0,.mp 3 0,slv zJ q7 .no,.ms 4 (q10*6) q9 q11 6,ab q12,.ms 5 0 q13.length q13.length 4,.ms 6 0 q15 q16 4,.ms 8 0 r.length r.length 1,ab q18,ai q19],qB q0 2 q3 q4,qR q1 q2,.cells [ai q5,ai q6],.row (zK zP q8),.row (zK zJ q13),.row (zK zO q14),.dead,.row (zK yB r)] 0:=⟨by
 unfold qH at h
 obtain⟨l1,h2,h⟩:=zC h
 obtain rfl:=sj h
 exact tF ⟨Tryz.func140,rfl⟩ 1 [0,1,2,3,4,5,6,7,8] (oD (dI l1)<|oD (zM q14)<|oD (zF q13)<|oD (zN q8)<|oDm q0 q1 q2 q3 q4<|oD (zF q7)<|oM 2 (zRC h2 (by simp)) o0),⟨(lz rfl),tv,tv⟩,(zA ⟨(lz rfl),(lz rfl),⟨tv,zF _⟩,(lz rfl),tv,(lz rfl),(lz rfl),(lz rfl),tv,tv,tv⟩ (fMa (lz rfl) (zA ⟨tv,tv,tv⟩ (zA (zN _) (zA (zF _) (zA (zM _) (zA (dI _) zB))))))),tv,(zA ⟨(lz rfl),(lz rfl),zF _,(lz rfl),tv,(lz rfl),(lz rfl),(lz rfl),tv,tv,tv⟩ (fMf (lz rfl) (zA ⟨tv,tv,tv⟩ (zA (zN _) (zA (zF _) (zA (zM _) (zA tv (zA (dI _) zB))))))))⟩
def pZ(qq:Nat)(q0 q1:List Ent)(q2:List yX)(q3 q4:List Int)(q5 q6:Int)(q7:List zD)(q8:List zH)(q9 q10 q11:Nat)(q12:Bool)(q13:List zD)(q14:List zI)(q15 q16:Nat)(q17:List Int)(q18:Bool)(q19:Int)(p1:Tm)(p2:Int):Option (Tm×Int):=
 if q19==0 then
 some (p1,p2)
 else
 some (p1,q19)
theorem zHY:Qf 99 Tryz.f99:=⟨Tryz.func99,rfl⟩
theorem B8{qq q0 q1 q2 q3 q4 q5 q6 q7 q8 q9 q10 q11 q12 q13 q14 q15 q16 q17 q18 q19 p1 p2 r}(h:pZ qq q0 q1 q2 q3 q4 q5 q6 q7 q8 q9 q10 q11 q12 q13 q14 q15 q16 q17 q18 q19 p1 p2=some r):Ct 99 [.cells [.mp 1 0,.mp 3 0,slv zJ q7 .no,.ms 4 (q10*6) q9 q11 6,ab q12,.ms 5 0 q13.length q13.length 4,.ms 6 0 q15 q16 4,.ms 7 0 q17.length q17.length 1,ab q18,ai q19],qB q0 2 q3 q4,qR q1 q2,.cells [ai q5,ai q6],.row (zK zP q8),.row (zK zJ q13),.row (zK zO q14),.row (zK yB q17)] [.mp 0 0,tmA p1,ai p2] (tmA r.1) [.cells [.mp 1 0,.mp 3 0,slv zJ q7 .no,.ms 4 (q10*6) q9 q11 6,ab q12,.ms 5 0 q13.length q13.length 4,.ms 6 0 q15 q16 4,.ms 7 0 q17.length q17.length 1,ab q18,ai r.2],qB q0 2 q3 q4,qR q1 q2,.cells [ai q5,ai q6],.row (zK zP q8),.row (zK zJ q13),.row (zK zO q14),.row (zK yB q17)] 0:=⟨by
 unfold pZ at h
 have z {os ob} (k:Oz os ob):=oD (dT p1.sub)<|oD (dI q17)<|oD (zM q14)<|oD (zF q13)<|oD (zN q8)<|oDm q0 q1 q2 q3 q4<|oD (zF q7)<|k
 obtain⟨h1,h⟩|⟨h1,h⟩:=spl h
 cases h
 exact tF zHY 3 [0,1,2,3,4,5,6,7] (z<|oB 1 h1 o0)
 cases h
 exact tF zHY 2 [0,1,2,3,4,5,6,7] (z<|oB 1 h1 o0),⟨(lz rfl),⟨tv,tv,⟨tv,dT _⟩,tv⟩,tv,tv⟩,(zA ⟨(lz rfl),(lz rfl),⟨tv,zF _⟩,(lz rfl),tv,(lz rfl),(lz rfl),(lz rfl),tv,tv,tv⟩ (fMa (lz rfl) (zA ⟨tv,tv,tv⟩ (zA (zN _) (zA (zF _) (zA (zM _) (zA (dI _) zB))))))),⟨tv,tv,dT _,tv⟩,(zA ⟨(lz rfl),(lz rfl),zF _,(lz rfl),tv,(lz rfl),(lz rfl),(lz rfl),tv,tv,tv⟩ (fMf (lz rfl) (zA ⟨tv,tv,tv⟩ (zA (zN _) (zA (zF _) (zA (zM _) (zA (dI _) zB)))))))⟩
def tB:Nat->List Ent->List Ent->List yX->List Int->List Int->Int->Int->Nat->Nat->Nat->Bool->List zD->Nat->Nat->List Int->Bool->Int->Tm->(List zD×Int)->List zH->Int->Int->List zI->Option ((List zD×List zI×Nat×Nat×List Int×Int×List zH) ⊕ ((List zD×List zI×Nat×Nat×List Int×Bool×Int×List zH) ⊕ (List zD×List zI×List Int×Bool×Int×List zH)))
 |0,_,_,_,_,_,_,_,_,_,_,_,_,_,_,_,_,_,_,_,_,_,_,_=>none
 |qq+1,q0,q1,q2,q3,q4,q5,q6,q9,q10,q11,q12,q13,q15,q16,q17,q18,p1,p2,r9,wW,v94,mJ,wE=>
 if decide (v94<(q15:Int))then
 nT q15 v94>>=fun x29=>
 zS wE (x29:Int)>>=fun x31=>
 e54 qq x31.t_ p2 p1>>=fun r33=>
 pZ qq q0 q1 q2 q3 q4 q5 q6 r9.1 wW q9 q10 q11 q12 q13 wE q15 q16 q17 q18 mJ r33.1 r33.2>>=fun r35=>
 zS wE (x29:Int)>>=fun x37=>
 iZ wE x29 (zI.mk x37.n_ r35.1)>>=fun l39=>
 tB qq q0 q1 q2 q3 q4 q5 q6 q9 q10 q11 q12 q13 q15 q16 q17 q18 p1 p2 r9 wW (w64 (v94+1)) r35.2 l39
 else
 gfz q15 wE>>=fun l41=>
 yN 48 l41 [(zI.mk p1 p2)]>>=fun l43=>
 B6 qq q0 q1 q2 q3 q4 q5 q6 r9.1 wW q9 q10 q11 q12 q13 l43 q17 q18 mJ 1>>=fun r45=>
 some (.inr (.inr (r9.1,l43,r45,q18,mJ,wW)))
def sJ:Nat->List Ent->List Ent->List yX->List Int->List Int->Int->Int->Nat->Nat->Nat->Bool->List zD->List zI->Nat->Nat->List Int->Bool->Int->Tm->(List zD×Int)->Int->Int->List zH->Option ((List zD×List zI×Nat×Nat×List Int×Int×List zH) ⊕ ((List zD×List zI×Nat×Nat×List Int×Bool×Int×List zH) ⊕ (List zD×List zI×List Int×Bool×Int×List zH)))
 |0,_,_,_,_,_,_,_,_,_,_,_,_,_,_,_,_,_,_,_,_,_,_,_=>none
 |qq+1,q0,q1,q2,q3,q4,q5,q6,q9,q10,q11,q12,q13,q14,q15,q16,q17,q18,p1,p2,r9,v57,mJ,wW=>
 if decide (v57<(q9:Int))then
 nT q9 v57>>=fun x14=>
 zS wW ((q10+x14):Int)>>=fun x16=>
 e54 qq x16.a_ p2 p1>>=fun r18=>
 pZ qq q0 q1 q2 q3 q4 q5 q6 r9.1 wW q9 q10 q11 q12 q13 q14 q15 q16 q17 q18 mJ r18.1 r18.2>>=fun r20=>
 e54 qq x16.b_ p2 p1>>=fun r22=>
 pZ qq q0 q1 q2 q3 q4 q5 q6 r9.1 wW q9 q10 q11 q12 q13 q14 q15 q16 q17 q18 r20.2 r22.1 r22.2>>=fun r24=>
 iZ wW (q10+x14) (zH.mk r20.1 r24.1)>>=fun x26=>
 sJ qq q0 q1 q2 q3 q4 q5 q6 q9 q10 q11 q12 q13 q14 q15 q16 q17 q18 p1 p2 r9 (w64 (v57+1)) r24.2 x26
 else
 tB qq q0 q1 q2 q3 q4 q5 q6 q9 q10 q11 q12 q13 q15 q16 q17 q18 p1 p2 r9 wW 0 mJ q14
def lU(qq:Nat)(q0 q1:List Ent)(q2:List yX)(q3 q4:List Int)(q5 q6:Int)(q7:List zD)(q8:List zH)(q9 q10 q11:Nat)(q12:Bool)(q13:List zD)(q14:List zI)(q15 q16:Nat)(q17:List Int)(q18:Bool)(q19 p1:Int)(p2:Tm):Option ((List zD×List zI×Nat×Nat×List Int×Int×List zH) ⊕ ((List zD×List zI×Nat×Nat×List Int×Bool×Int×List zH) ⊕ (List zD×List zI×List Int×Bool×Int×List zH))):=
 zNS qq p2 p1>>=fun r1=>
 if r1 then
 zBB qq (yY.mk q0 q1 q2 q3 q4) p2 p1>>=fun r4=>
 if r4 then
 qH qq q0 q1 q2 q3 q4 q5 q6 q7 q8 q9 q10 q11 q12 q13 q14 q15 q16 q17 q18 q19 3>>=fun r7=>
 some (.inl (q7,q14,q15,q16,r7,q19,q8))
 else
 some (.inr (.inl (q7,q14,q15,q16,q17,q18,13,q8)))
 else
 zKl qq q7 p1 p2>>=fun r9=>
 if r9.2==3 then
 some (.inr (.inl (q7,q14,q15,q16,q17,q18,13,q8)))
 else
 if r9.2 != 0 then
 some (.inr (.inl (q7,q14,q15,q16,q17,q18,r9.2,q8)))
 else
 sJ qq q0 q1 q2 q3 q4 q5 q6 q9 q10 q11 q12 q13 q14 q15 q16 q17 q18 p1 p2 r9 0 q19 q8
section
variable (q0 q1:List Ent) (q2:List yX) (q3 q4:List Int) (q5 q6:Int) (q7:List zD) (q8:List zH) (q9 q10 q11:Nat) (q12:Bool) (q13:List zD) (q14:List zI) (q15 q16:Nat) (q17:List Int) (q18:Bool) (q19 p1:Int) (p2:Tm)
abbrev cK (r:List zD×List zI×Nat×Nat×List Int×Int×List zH) (C:Cf):Prop:=C 102 [.cells [.mp 1 0,.mp 3 0,slv zJ q7 .no,.ms 4 (q10*6) q9 q11 6,ab q12,.ms 5 0 q13.length q13.length 4,.ms 6 0 q15 q16 4,.ms 7 0 q17.length q17.length 1,ab q18,ai q19],qB q0 2 q3 q4,qR q1 q2,.cells [ai q5,ai q6],.row (zK zP q8),.row (zK zJ q13),.row (zK zO q14),.row (zK yB q17)] [.mp 0 0,ai p1,tmA p2] (.tup []) [.cells [.mp 1 0,.mp 3 0,slv zJ r.1 .no,.ms 4 (q10*6) q9 q11 6,ab q12,.ms 5 0 q13.length q13.length 4,.ms 8 0 r.2.2.1 r.2.2.2.1 4,.ms 9 0 r.2.2.2.2.1.length r.2.2.2.2.1.length 1,ab true,ai r.2.2.2.2.2.1],qB q0 2 q3 q4,qR q1 q2,.cells [ai q5,ai q6],.row (zK zP r.2.2.2.2.2.2),.row (zK zJ q13),.dead,.dead,.row (zK zO r.2.1),.row (zK yB r.2.2.2.2.1)] 0
abbrev cL (r:List zD×List zI×Nat×Nat×List Int×Bool×Int×List zH) (C:Cf):Prop:=C 102 [.cells [.mp 1 0,.mp 3 0,slv zJ q7 .no,.ms 4 (q10*6) q9 q11 6,ab q12,.ms 5 0 q13.length q13.length 4,.ms 6 0 q15 q16 4,.ms 7 0 q17.length q17.length 1,ab q18,ai q19],qB q0 2 q3 q4,qR q1 q2,.cells [ai q5,ai q6],.row (zK zP q8),.row (zK zJ q13),.row (zK zO q14),.row (zK yB q17)] [.mp 0 0,ai p1,tmA p2] (.tup []) [.cells [.mp 1 0,.mp 3 0,slv zJ r.1 .no,.ms 4 (q10*6) q9 q11 6,ab q12,.ms 5 0 q13.length q13.length 4,.ms 8 0 r.2.2.1 r.2.2.2.1 4,.ms 9 0 r.2.2.2.2.1.length r.2.2.2.2.1.length 1,ab r.2.2.2.2.2.1,ai r.2.2.2.2.2.2.1],qB q0 2 q3 q4,qR q1 q2,.cells [ai q5,ai q6],.row (zK zP r.2.2.2.2.2.2.2),.row (zK zJ q13),.dead,.dead,.row (zK zO r.2.1),.row (zK yB r.2.2.2.2.1)] 0
abbrev zGp (r:List zD×List zI×List Int×Bool×Int×List zH) (C:Cf):Prop:=C 102 [.cells [.mp 1 0,.mp 3 0,slv zJ q7 .no,.ms 4 (q10*6) q9 q11 6,ab q12,.ms 5 0 q13.length q13.length 4,.ms 6 0 q15 q16 4,.ms 7 0 q17.length q17.length 1,ab q18,ai q19],qB q0 2 q3 q4,qR q1 q2,.cells [ai q5,ai q6],.row (zK zP q8),.row (zK zJ q13),.row (zK zO q14),.row (zK yB q17)] [.mp 0 0,ai p1,tmA p2] (.tup []) [.cells [.mp 1 0,.mp 3 0,slv zJ r.1 .no,.ms 4 (q10*6) q9 q11 6,ab q12,.ms 5 0 q13.length q13.length 4,.ms 8 0 r.2.1.length r.2.1.length 4,.ms 9 0 r.2.2.1.length r.2.2.1.length 1,ab r.2.2.2.1,ai r.2.2.2.2.1],qB q0 2 q3 q4,qR q1 q2,.cells [ai q5,ai q6],.row (zK zP r.2.2.2.2.2),.row (zK zJ q13),.dead,.dead,.row (zK zO r.2.1),.row (zK yB r.2.2.1)] 0
end
theorem nM:Qf 102 Tryz.f102:=⟨Tryz.func102,rfl⟩
theorem W7{q0 q1 q2 q3 q4 q5 q6 q7 q8 q9 q10 q11 q12 q13 q14 q15 q16 q17 q18 q19 p1 p2 r}(h:cK q0 q1 q2 q3 q4 q5 q6 q7 q8 q9 q10 q11 q12 q13 q14 q15 q16 q17 q18 q19 p1 p2 r Ci):cK q0 q1 q2 q3 q4 q5 q6 q7 q8 q9 q10 q11 q12 q13 q14 q15 q16 q17 q18 q19 p1 p2 r Ct:=⟨h,⟨(lz rfl),tv,⟨tv,tv,⟨tv,dT _⟩,tv⟩,tv⟩,(zA ⟨(lz rfl),(lz rfl),⟨tv,zF _⟩,(lz rfl),tv,(lz rfl),(lz rfl),(lz rfl),tv,tv,tv⟩ (fMa (lz rfl) (zA ⟨tv,tv,tv⟩ (zA (zN _) (zA (zF _) (zA (zM _) (zA (dI _) zB))))))),tv,(zA ⟨(lz rfl),(lz rfl),zF _,(lz rfl),tv,(lz rfl),(lz rfl),(lz rfl),tv,tv,tv⟩ (fMf (lz rfl) (zA ⟨tv,tv,tv⟩ (zA (zN _) (zA (zF _) (zA tv (zA tv (zA (zM _) (zA (dI _) zB)))))))))⟩
theorem jX{q0 q1 q2 q3 q4 q5 q6 q7 q8 q9 q10 q11 q12 q13 q14 q15 q16 q17 q18 q19 p1 p2 r}(h:cL q0 q1 q2 q3 q4 q5 q6 q7 q8 q9 q10 q11 q12 q13 q14 q15 q16 q17 q18 q19 p1 p2 r Ci):cL q0 q1 q2 q3 q4 q5 q6 q7 q8 q9 q10 q11 q12 q13 q14 q15 q16 q17 q18 q19 p1 p2 r Ct:=⟨h,⟨(lz rfl),tv,⟨tv,tv,⟨tv,dT _⟩,tv⟩,tv⟩,(zA ⟨(lz rfl),(lz rfl),⟨tv,zF _⟩,(lz rfl),tv,(lz rfl),(lz rfl),(lz rfl),tv,tv,tv⟩ (fMa (lz rfl) (zA ⟨tv,tv,tv⟩ (zA (zN _) (zA (zF _) (zA (zM _) (zA (dI _) zB))))))),tv,(zA ⟨(lz rfl),(lz rfl),zF _,(lz rfl),tv,(lz rfl),(lz rfl),(lz rfl),tv,tv,tv⟩ (fMf (lz rfl) (zA ⟨tv,tv,tv⟩ (zA (zN _) (zA (zF _) (zA tv (zA tv (zA (zM _) (zA (dI _) zB)))))))))⟩
theorem zEn:∀qq:Nat,(∀ {q0 q1 q2 q3 q4 q5 q6 q9 q10 q11 q12 q13 q15 q16 q17 q18 p1 p2 r9 wW v94 mJ wE r},tB qq q0 q1 q2 q3 q4 q5 q6 q9 q10 q11 q12 q13 q15 q16 q17 q18 p1 p2 r9 wW v94 mJ wE=some r->(∀j,dL 8 (pt 4194229 Tryz.f102) (sp j 133 0 [(0,.mp 0 0),(1,ai p1),(5,.mp 8 0),(92,.ms 9 0 q15 q16 4),(93,ai (q15:Int)),(94,ai v94)]) (⟨[(0,.cells [.mp 1 0,.mp 3 0,slv zJ r9.1 .no,.ms 4 (q10*6) q9 q11 6,ab q12,.ms 5 0 q13.length q13.length 4,.ms 9 0 q15 q16 4,.ms 10 0 q17.length q17.length 1,ab q18,ai mJ]),(1,qB q0 2 q3 q4),(2,qR q1 q2),(3,.cells [ai q5,ai q6]),(4,.row (zK zP wW)),(5,.row (zK zJ q13)),(6,.dead),(7,.dead),(8,.cells [ai p2.k,ai p2.n,slv zG p2.sub .no]),(9,.row (zK zO wE)),(10,.row (zK yB q17))],11,[],0,[]⟩) (fQ 8 ((match (generalizing:=false) r with | .inl x=>nQ 8 Tryz.f102 (.tup []) [.cells [.mp 1 0,.mp 3 0,slv zJ x.1 .no,.ms 4 (q10*6) q9 q11 6,ab q12,.ms 5 0 q13.length q13.length 4,.ms 8 0 x.2.2.1 x.2.2.2.1 4,.ms 9 0 x.2.2.2.2.1.length x.2.2.2.2.1.length 1,ab true,ai x.2.2.2.2.2.1],qB q0 2 q3 q4,qR q1 q2,.cells [ai q5,ai q6],.row (zK zP x.2.2.2.2.2.2),.row (zK zJ q13),.dead,.dead,.row (zK zO x.2.1),.row (zK yB x.2.2.2.2.1)] 0 | .inr (.inl x)=>nQ 8 Tryz.f102 (.tup []) [.cells [.mp 1 0,.mp 3 0,slv zJ x.1 .no,.ms 4 (q10*6) q9 q11 6,ab q12,.ms 5 0 q13.length q13.length 4,.ms 8 0 x.2.2.1 x.2.2.2.1 4,.ms 9 0 x.2.2.2.2.1.length x.2.2.2.2.1.length 1,ab x.2.2.2.2.2.1,ai x.2.2.2.2.2.2.1],qB q0 2 q3 q4,qR q1 q2,.cells [ai q5,ai q6],.row (zK zP x.2.2.2.2.2.2.2),.row (zK zJ q13),.dead,.dead,.row (zK zO x.2.1),.row (zK yB x.2.2.2.2.1)] 0 | .inr (.inr x)=>nQ 8 Tryz.f102 (.tup []) [.cells [.mp 1 0,.mp 3 0,slv zJ x.1 .no,.ms 4 (q10*6) q9 q11 6,ab q12,.ms 5 0 q13.length q13.length 4,.ms 8 0 x.2.1.length x.2.1.length 4,.ms 9 0 x.2.2.1.length x.2.2.1.length 1,ab x.2.2.2.1,ai x.2.2.2.2.1],qB q0 2 q3 q4,qR q1 q2,.cells [ai q5,ai q6],.row (zK zP x.2.2.2.2.2),.row (zK zJ q13),.dead,.dead,.row (zK zO x.2.1),.row (zK yB x.2.2.1)] 0)) [.blk 2,.seq (pt 65535 Tryz.f102)]))):=by
 intro qq
 induction qq with
 |zero=>
  exact fun h=>nn h
 |succ qq ih=>
  intro q0 q1 q2 q3 q4 q5 q6 q9 q10 q11 q12 q13 q15 q16 q17 q18 p1 p2 r9 wW v94 mJ wE r h
  rw[tB]at h
  have z {os ob} (k:Oz os ob):=oD (zF q13)<|oD (zN wW)<|oDm q0 q1 q2 q3 q4<|oD (zF r9.1)<|k
  obtain⟨h28,h⟩|⟨h28,h⟩:=spl h
  obtain⟨x29,h30,h⟩:=zC h
  obtain⟨x31,h32,h⟩:=zC h
  obtain⟨r33,h34,h⟩:=zC h
  obtain⟨r35,h36,h⟩:=zC h
  obtain⟨x37,h38,h⟩:=zC h
  obtain⟨l39,h40,h⟩:=zC h
  exact fun j=>lH 1 [] [0,1,2,3,4,5,6,7,8,9,10] [] [0,1,5,92,93,94] (oD (dI q17)<|oD (zM l39)<|oD (dT p2.sub)<|z<|oW 0 (wtF (x':=(zI.mk x37.n_ r35.1)) xT h38 h40 1 3 (.agg [ai r35.1.k,ai r35.1.n,slv zG r35.1.sub .no]) rfl rfl (by decide) rfl)<|oA 0 (zHs (b:=9) (c:=q16) (z:=4) h30)<|oCk 2 [0,1,2,3,4,5,9,10] [(0,6)] (B8 h36) ⟨⟨_,rfl,rfl,fun _ _ _=>rfl⟩,trivial⟩<|oC 2 [] (c54 h34)<|oCl 1<|oG (a:=(.agg [ai x31.n_,ai x31.t_.k,ai x31.t_.n,slv zG x31.t_.sub .no])) 0 (ldE xT h32 (true,4) (val:=.agg [ai x31.n_,ai x31.t_.k,ai x31.t_.n,slv zG x31.t_.sub .no]) rfl)<|oA 0 (zHs (b:=9) (c:=q16) (z:=4) h30)<|oB 0 h28 o0) (ih h)
  obtain⟨l41,h42,h⟩:=zC h
  obtain⟨l43,h44,h⟩:=zC h
  obtain⟨r45,h46,h⟩:=zC h
  cases h
  exact fun j=>lF 0 [0,1,2,3,4,5,6,7,11,12] (oD (dI r45)<|oD (zM l43)<|z<|oC 1 [0,1,2,3,4,5,11,10] (zOz h46)<|oM 3 (zSk h42 h44 (by simp))<|oB 0 h28 o0)
theorem gV:∀qq:Nat,(∀ {q0 q1 q2 q3 q4 q5 q6 q9 q10 q11 q12 q13 q14 q15 q16 q17 q18 p1 p2 r9 v57 mJ wW r},sJ qq q0 q1 q2 q3 q4 q5 q6 q9 q10 q11 q12 q13 q14 q15 q16 q17 q18 p1 p2 r9 v57 mJ wW=some r->(∀j,dL 8 (pt 1048501 Tryz.f102) (sp j 133 0 [(0,.mp 0 0),(1,ai p1),(5,.mp 8 0),(55,.ms 4 (q10*6) q9 q11 6),(56,ai (q9:Int)),(57,ai v57)]) (⟨[(0,.cells [.mp 1 0,.mp 3 0,slv zJ r9.1 .no,.ms 4 (q10*6) q9 q11 6,ab q12,.ms 5 0 q13.length q13.length 4,.ms 9 0 q15 q16 4,.ms 10 0 q17.length q17.length 1,ab q18,ai mJ]),(1,qB q0 2 q3 q4),(2,qR q1 q2),(3,.cells [ai q5,ai q6]),(4,.row (zK zP wW)),(5,.row (zK zJ q13)),(6,.dead),(7,.dead),(8,.cells [ai p2.k,ai p2.n,slv zG p2.sub .no]),(9,.row (zK zO q14)),(10,.row (zK yB q17))],11,[],0,[]⟩) (fQ 8 ((match (generalizing:=false) r with | .inl x=>nQ 8 Tryz.f102 (.tup []) [.cells [.mp 1 0,.mp 3 0,slv zJ x.1 .no,.ms 4 (q10*6) q9 q11 6,ab q12,.ms 5 0 q13.length q13.length 4,.ms 8 0 x.2.2.1 x.2.2.2.1 4,.ms 9 0 x.2.2.2.2.1.length x.2.2.2.2.1.length 1,ab true,ai x.2.2.2.2.2.1],qB q0 2 q3 q4,qR q1 q2,.cells [ai q5,ai q6],.row (zK zP x.2.2.2.2.2.2),.row (zK zJ q13),.dead,.dead,.row (zK zO x.2.1),.row (zK yB x.2.2.2.2.1)] 0 | .inr (.inl x)=>nQ 8 Tryz.f102 (.tup []) [.cells [.mp 1 0,.mp 3 0,slv zJ x.1 .no,.ms 4 (q10*6) q9 q11 6,ab q12,.ms 5 0 q13.length q13.length 4,.ms 8 0 x.2.2.1 x.2.2.2.1 4,.ms 9 0 x.2.2.2.2.1.length x.2.2.2.2.1.length 1,ab x.2.2.2.2.2.1,ai x.2.2.2.2.2.2.1],qB q0 2 q3 q4,qR q1 q2,.cells [ai q5,ai q6],.row (zK zP x.2.2.2.2.2.2.2),.row (zK zJ q13),.dead,.dead,.row (zK zO x.2.1),.row (zK yB x.2.2.2.2.1)] 0 | .inr (.inr x)=>nQ 8 Tryz.f102 (.tup []) [.cells [.mp 1 0,.mp 3 0,slv zJ x.1 .no,.ms 4 (q10*6) q9 q11 6,ab q12,.ms 5 0 q13.length q13.length 4,.ms 8 0 x.2.1.length x.2.1.length 4,.ms 9 0 x.2.2.1.length x.2.2.1.length 1,ab x.2.2.2.1,ai x.2.2.2.2.1],qB q0 2 q3 q4,qR q1 q2,.cells [ai q5,ai q6],.row (zK zP x.2.2.2.2.2),.row (zK zJ q13),.dead,.dead,.row (zK zO x.2.1),.row (zK yB x.2.2.1)] 0)) [.blk 0,.seq (pt 16383 Tryz.f102)]))):=by
 intro qq
 induction qq with
 |zero=>
  exact fun h=>nn h
 |succ qq ih=>
  intro q0 q1 q2 q3 q4 q5 q6 q9 q10 q11 q12 q13 q14 q15 q16 q17 q18 p1 p2 r9 v57 mJ wW r h
  rw[sJ]at h
  obtain⟨h13,h⟩|⟨h13,h⟩:=spl h
  obtain⟨x14,h15,h⟩:=zC h
  obtain⟨x16,h17,h⟩:=zC h
  obtain⟨r18,h19,h⟩:=zC h
  obtain⟨r20,h21,h⟩:=zC h
  obtain⟨r22,h23,h⟩:=zC h
  obtain⟨r24,h25,h⟩:=zC h
  obtain⟨x26,h27,h⟩:=zC h
  exact fun j=>lH 1 [] [0,1,2,3,4,5,6,7,8,9,10] [] [0,1,5,55,56,57] (oD (dI q17)<|oD (zM q14)<|oD (dT p2.sub)<|oD (zF q13)<|oD (zN x26)<|oDm q0 q1 q2 q3 q4<|oD (zF r9.1)<|oW 0 (wtE (x:=(zH.mk r20.1 r24.1)) (cs:=[ai r20.1.k,ai r20.1.n,slv zG r20.1.sub .no,ai r24.1.k,ai r24.1.n,slv zG r24.1.sub .no]) wX rfl h27)<|oA 0 (zFh (b:=4) (o:=q10) (c:=q11) (z:=6) h15)<|oCk 2 [0,1,2,3,4,5,9,10] [(0,3)] (B8 h25) ⟨⟨_,rfl,rfl,fun _ _ _=>rfl⟩,trivial⟩<|oC 2 [] (c54 h23)<|oCk 2 [0,1,2,3,4,5,9,10] [(0,3)] (B8 h21) ⟨⟨_,rfl,rfl,fun _ _ _=>rfl⟩,trivial⟩<|oC 2 [] (c54 h19)<|oCl 1<|oG (a:=(.agg [ai x16.a_.k,ai x16.a_.n,slv zG x16.a_.sub .no,ai x16.b_.k,ai x16.b_.n,slv zG x16.b_.sub .no])) 0 (ldE wX h17 (true,6) (val:=.agg [ai x16.a_.k,ai x16.a_.n,slv zG x16.a_.sub .no,ai x16.b_.k,ai x16.b_.n,slv zG x16.b_.sub .no]) rfl)<|oA 0 (zFh (b:=4) (o:=q10) (c:=q11) (z:=6) h15)<|oB 0 h13 o0) (ih h)
  exact fun j=>lH 2 [] [0,1,2,3,4,5,6,7,8,9,10] [] [0,1,5,92,93,94] (oD (dI q17)<|oD (zM q14)<|oD (dT p2.sub)<|oD (zF q13)<|oD (zN wW)<|oDm q0 q1 q2 q3 q4<|oD (zF r9.1)<|oB 0 h13 o0) (zEn _ h)
theorem lV{qq q0 q1 q2 q3 q4 q5 q6 q7 q8 q9 q10 q11 q12 q13 q14 q15 q16 q17 q18 q19 p1 p2 r}(h:lU qq q0 q1 q2 q3 q4 q5 q6 q7 q8 q9 q10 q11 q12 q13 q14 q15 q16 q17 q18 q19 p1 p2=some r):(match (generalizing:=false) r with | .inl x=>cK q0 q1 q2 q3 q4 q5 q6 q7 q8 q9 q10 q11 q12 q13 q14 q15 q16 q17 q18 q19 p1 p2 x Ct | .inr (.inl x)=>cL q0 q1 q2 q3 q4 q5 q6 q7 q8 q9 q10 q11 q12 q13 q14 q15 q16 q17 q18 q19 p1 p2 x Ct | .inr (.inr x)=>zGp q0 q1 q2 q3 q4 q5 q6 q7 q8 q9 q10 q11 q12 q13 q14 q15 q16 q17 q18 q19 p1 p2 x Ct):=by
 unfold lU at h
 have z {os ob} (k:Oz os ob):=oD (zM q14)<|oD (zF q13)<|oD (zN q8)<|oDm q0 q1 q2 q3 q4<|oD (zF q7)<|k
 obtain⟨r1,h2,h⟩:=zC h
 obtain⟨h3,h⟩|⟨h3,h⟩:=spl h
 obtain⟨r4,h5,h⟩:=zC h
 have k:=oK 1 [] h3 (zVF h2) o0
 obtain⟨h6,h⟩|⟨h6,h⟩:=spl h
 obtain⟨r7,h8,h⟩:=zC h
 cases h
 exact W7 (tG nM 1 [(some 6,0,0)] [0,1,2,3,4,5,6,7,10,9] [] false (oD (dI r7)<|z<|oC 0 [0,1,2,3,4,5,6,7] (B7 h8)<|oK 2 [1,2] h6 (zVK h5) k))
 cases h
 exact jX (tG nM 1 [(some 6,0,0),(some 7,0,0)] [0,1,2,3,4,5,6,7,9,10] [] false (oD (dI q17)<|z<|oK 2 [1,2] h6 (zVK h5) k))
 obtain⟨r9,h10,h⟩:=zC h
 have k:=oC 2 [] (zTc h10)<|oK 1 [] h3 (zVF h2) o0
 obtain⟨h11,h⟩|⟨h11,h⟩:=spl h
 cases h
 exact jX (tG nM 2 [(some 6,0,0),(some 7,0,0)] [0,1,2,3,4,5,6,7,9,10] [] false (oD (dI q17)<|z<|oB 2 h11 k))
 have k:=oB 2 h11 k
 obtain⟨h12,h⟩|⟨h12,h⟩:=spl h
 cases h
 exact jX (tG nM 1 [(some 6,0,0),(some 7,0,0)] [0,1,2,3,4,5,6,7,9,10] [] false (oD (dI q17)<|z<|oB 0 h12 k))
 rcases r with y0 | (y1|y2)
 exact W7 (tH nM 3 [(some 6,0,0),(some 7,0,0)] [0,1,2,3,4,5,6,7,8,9,10] [] [0,1,5,55,56,57] (oD (dI q17)<|oD (zM q14)<|oD (dT p2.sub)<|oD (zF q13)<|oD (zN q8)<|oDm q0 q1 q2 q3 q4<|oD (zF r9.1)<|oB 0 h12 k) (gV _ h))
 exact jX (tH nM 3 [(some 6,0,0),(some 7,0,0)] [0,1,2,3,4,5,6,7,8,9,10] [] [0,1,5,55,56,57] (oD (dI q17)<|oD (zM q14)<|oD (dT p2.sub)<|oD (zF q13)<|oD (zN q8)<|oDm q0 q1 q2 q3 q4<|oD (zF r9.1)<|oB 0 h12 k) (gV _ h))
 exact⟨tH nM 3 [(some 6,0,0),(some 7,0,0)] [0,1,2,3,4,5,6,7,8,9,10] [] [0,1,5,55,56,57] (oD (dI q17)<|oD (zM q14)<|oD (dT p2.sub)<|oD (zF q13)<|oD (zN q8)<|oDm q0 q1 q2 q3 q4<|oD (zF r9.1)<|oB 0 h12 k) (gV _ h),⟨(lz rfl),tv,⟨tv,tv,⟨tv,dT _⟩,tv⟩,tv⟩,(zA ⟨(lz rfl),(lz rfl),⟨tv,zF _⟩,(lz rfl),tv,(lz rfl),(lz rfl),(lz rfl),tv,tv,tv⟩ (fMa (lz rfl) (zA ⟨tv,tv,tv⟩ (zA (zN _) (zA (zF _) (zA (zM _) (zA (dI _) zB))))))),tv,(zA ⟨(lz rfl),(lz rfl),zF _,(lz rfl),tv,(lz rfl),(lz rfl),(lz rfl),tv,tv,tv⟩ (fMf (lz rfl) (zA ⟨tv,tv,tv⟩ (zA (zN _) (zA (zF _) (zA tv (zA tv (zA (zM _) (zA (dI _) zB)))))))))⟩
theorem vG{α:Type}{l:List α}{i:Nat}{x:α}(h:l[i]? = some x):zS l (i:Int)=some x:=by
 have hd:l.drop i=x::l.drop (i+1):=by
  obtain⟨h1,h2⟩:=List.getElem?_eq_some_iff.1 h
  rw[List.drop_eq_getElem_cons h1,h2]
 exact zX hd
theorem gW(q0 q1:List Ent)(q2:List yX)(q3 q4:List Int)(q5 q6:Int)(q7:List zD)(q8:List zH)(q9 q10 q11:Nat)(q12:Bool)(q13:List zD)(q14:List zI)(q15 q16:Nat)(q17:List Int)(q18:Bool)(e:Int)(t:Tm)(e2:Int) :
  Tot (fun q=>pZ q q0 q1 q2 q3 q4 q5 q6 q7 q8 q9 q10 q11 q12 q13 q14 q15 q16 q17 q18 e t e2) fun y=>y.1=t∧(y.2=0->e=0∧e2=0)∧(e=0->y.2=e2):=by
 simp only[pZ]
 exact Tot.ite (fun h=>Tot.ret ⟨rfl,fun h2=>⟨by simpa using h,h2⟩,fun _=>rfl⟩) fun h=>Tot.ret ⟨rfl,fun h2=>(by have h2':e=0:=h2;rw[h2']at h;cases h),fun h2=>(by rw[h2]at h;cases h)⟩
structure JE (t:Tm) (n:Int) (o:Nat) (q8 row:List zH) (v:Nat) (e:Int):Prop where
 len:row.length=q8.length
 ok:∀x∈row,x.a_.Ok∧x.b_.Ok
 rest:∀i,v≤i->row[o+i]? = q8[o+i]?
 done:e=0->∀i,i<v->row[o+i]? = (q8[o+i]?).map (naE t n)∧∀x,q8[o+i]? = some x->zL (naT t n x.a_ 0)=true∧zL (naT t n x.b_ 0)=true
theorem W8(q0 q1:List Ent)(q2:List yX)(q3 q4:List Int)(q5 q6:Int)(q8:List zH)(q9 q10 q11:Nat)(q12:Bool)(q13:List zD)(q14:List zI)(q15 q16:Nat)(q17:List Int)(q18:Bool)(n:Int)(t:Tm)(r9:List zD×Int)
  (hb:q10+q9≤q8.length) (hb2:q8.length≤17592186044416) (ht:t.Ok) {P:_->Prop} (K:∀row e,JE t n q10 q8 row q9 e->Tot (fun q=>tB q q0 q1 q2 q3 q4 q5 q6 q9 q10 q11 q12 q13 q15 q16 q17 q18 n t r9 row 0 e q14) P) :
  ∀(k v:Nat) (e:Int) (row:List zH),v+k=q9->JE t n q10 q8 row v e->Tot (fun q=>sJ q q0 q1 q2 q3 q4 q5 q6 q9 q10 q11 q12 q13 q14 q15 q16 q17 q18 n t r9 (v:Int) e row) P
 |0,v,e,row,hv,hJ=>by
  refine Tot.succ ?_
  simp only[sJ]
  refine Tot.ite (fun h=>absurd (of_decide_eq_true h) (by omega)) fun _=>?_
  have:v=q9:=by omega
  exact K row e (this▸hJ)
 |k+1,v,e,row,hv,hJ=>by
  have hlt:v<q9:=by omega
  have hlr:q10+v<row.length:=by rw[hJ.len];omega
  obtain⟨x,hx⟩:∃x,row[q10+v]? = some x:=⟨_,List.getElem?_eq_getElem hlr⟩
  have hxm:x∈row:=List.mem_of_getElem? hx
  have hxo:=hJ.ok x hxm
  have hx8:q8[q10+v]? = some x:=by rw[←hJ.rest v (Nat.le_refl _)];exact hx
  refine Tot.succ ?_
  simp only[sJ]
  refine Tot.ite (fun _=>Tot.pure (qG hlt) (Tot.pure (a:=x) (vG (i:=q10+v) hx) ?_)) fun h=>absurd (of_decide_eq_false h) (by omega)
  refine(nK x.a_ t n hxo.1 ht).bind fun r18 h18=>(gW q0 q1 q2 q3 q4 q5 q6 r9.1 row q9 q10 q11 q12 q13 q14 q15 q16 q17 q18 e r18.1 r18.2).bind fun r20 h20=>(nK x.b_ t n hxo.2 ht).bind fun r22 h22=>(gW q0 q1 q2 q3 q4 q5 q6 r9.1 row q9 q10 q11 q12 q13 q14 q15 q16 q17 q18 r20.2 r22.1 r22.2).bind fun r24 h24=>?_
  refine Tot.pure (a:=row.set (q10+v) ⟨r20.1,r24.1⟩) (by unfold iZ;rw[if_pos hlr]) ?_
  rw[zW v (by omega)]
  refine W8 q0 q1 q2 q3 q4 q5 q6 q8 q9 q10 q11 q12 q13 q14 q15 q16 q17 q18 n t r9 hb hb2 ht K k (v+1) _ _ (by omega) ⟨by rw[List.length_set];exact hJ.len,fun y hy=>?_,fun i hi=>?_,fun h0 i hi=>?_⟩
  ·rcases List.mem_or_eq_of_mem_set hy with hy|rfl
   ·exact hJ.ok y hy
   ·exact⟨by show (r20.1).Ok;rw[h20.1];exact h18.1,by show (r24.1).Ok;rw[h24.1];exact h22.1⟩
  ·rw[List.getElem?_set_ne (by omega)]
   exact hJ.rest i (by omega)
  ·obtain⟨h1,h2⟩:=h24.2.1 h0
   obtain⟨h3,h4⟩:=h20.2.1 h1
   rcases Nat.lt_or_ge i v with h5|h5
   ·rw[List.getElem?_set_ne (by omega)]
    exact hJ.done h3 i h5
   ·have:i=v:=by omega
    subst this
    have ha:=(h18.2.2.1 h4).2.2.2.2
    have hb':=(h22.2.2.1 h2).2.2.2.2
    rw[List.getElem?_set_self hlr,hx8,h20.1,h24.1,ha.2,hb'.2]
    exact⟨rfl,fun y hy=>by cases hy;exact⟨ha.1,hb'.1⟩⟩
structure JS (t:Tm) (n:Int) (so row:List zI) (v:Nat) (e:Int):Prop where
 len:row.length=so.length
 ok:∀x∈row,x.t_.Ok
 rest:∀i,v≤i->row[i]? = so[i]?
 done:e=0->∀i,i<v->row[i]? = (so[i]?).map (naS t n)∧∀x,so[i]? = some x->zL (naT t n x.t_ 0)=true
theorem W9(q0 q1:List Ent)(q2:List yX)(q3 q4:List Int)(q5 q6:Int)(q9 q10 q11:Nat)(q12:Bool)(q13:List zD)(q15 q16:Nat)(q17:List Int)(q18:Bool)(n:Int)(t:Tm)(r9:List zD×Int)(td:List zH)(so:List zI)
  (hb:so.length=q15) (hb2:so.length≤1048576) (hb3:q17.length≤1048576) (ht:t.Ok) :
  ∀(k v:Nat) (e:Int) (row:List zI),v+k=q15->JS t n so row v e->Tot (fun q=>tB q q0 q1 q2 q3 q4 q5 q6 q9 q10 q11 q12 q13 q15 q16 q17 q18 n t r9 td (v:Int) e row) fun x=>∃row' e',JS t n so row' q15 e'∧(e'=0->e=0)∧x = .inr (.inr (r9.1,row'++[⟨n,t⟩],q17++[1],q18,e',td))
 |0,v,e,row,hv,hJ=>by
  refine Tot.succ ?_
  simp only[tB,B6]
  refine Tot.ite (fun h=>absurd (of_decide_eq_true h) (by omega)) fun _=>?_
  have hvq:v=q15:=by omega
  have hl:=hJ.len
  refine Tot.pure (a:=row) (by unfold gfz;rw[if_pos (by omega)]) (Tot.pure (yG (by simp;omega)) (Tot.bind (P:=fun s=>s=q17++[1]) (Tot.pure (yG (by simp;omega)) (Tot.ret rfl)) fun s hs=>Tot.ret ?_))
  subst hs
  exact⟨row,e,hvq▸hJ,id,rfl⟩
 |k+1,v,e,row,hv,hJ=>by
  have hlt:v<q15:=by omega
  have hl:=hJ.len
  have hlr:v<row.length:=by omega
  obtain⟨x,hx⟩:∃x,row[v]? = some x:=⟨_,List.getElem?_eq_getElem hlr⟩
  have hxm:x∈row:=List.mem_of_getElem? hx
  have hx8:so[v]? = some x:=by rw[←hJ.rest v (Nat.le_refl _)];exact hx
  have hgi:zS row (v:Int)=some x:=vG hx
  refine Tot.succ ?_
  simp only[tB]
  refine Tot.ite (fun _=>Tot.pure (qG hlt) (Tot.pure hgi ?_)) fun h=>absurd (of_decide_eq_false h) (by omega)
  refine(nK x.t_ t n (hJ.ok x hxm) ht).bind fun r33 h33=>(gW q0 q1 q2 q3 q4 q5 q6 r9.1 td q9 q10 q11 q12 q13 row q15 q16 q17 q18 e r33.1 r33.2).bind fun r35 h35=>?_
  refine Tot.pure hgi (Tot.pure (a:=row.set v ⟨x.n_,r35.1⟩) (by unfold iZ;rw[if_pos hlr]) ?_)
  rw[zW v (by omega)]
  refine(W9 q0 q1 q2 q3 q4 q5 q6 q9 q10 q11 q12 q13 q15 q16 q17 q18 n t r9 td so hb hb2 hb3 ht k (v+1) _ _ (by omega) ⟨by rw[List.length_set];exact hJ.len,fun y hy=>?_,fun i hi=>?_,fun h0 i hi=>?_⟩).mono fun z hz=>?_
  ·rcases List.mem_or_eq_of_mem_set hy with hy|rfl
   ·exact hJ.ok y hy
   ·show (r35.1).Ok;rw[h35.1];exact h33.1
  ·rw[List.getElem?_set_ne (by omega)]
   exact hJ.rest i (by omega)
  ·obtain⟨h3,h4⟩:=h35.2.1 h0
   rcases Nat.lt_or_ge i v with h5|h5
   ·rw[List.getElem?_set_ne (by omega)]
    exact hJ.done h3 i h5
   ·have:i=v:=by omega
    subst this
    have ha:=(h33.2.2.1 h4).2.2.2.2
    rw[List.getElem?_set_self hlr,hx8,h35.1,ha.2]
    exact⟨rfl,fun y hy=>by cases hy;exact ha.1⟩
  ·obtain⟨row',e',h1,h2,h3⟩:=hz
   exact⟨row',e',h1,fun h=>(h35.2.1 (h2 h)).1,h3⟩
def zVP(l:List Ent)(c:List zD)(q8:List zH)(q9 q10:Nat)(so:List zI)(q15 q16:Nat)(q17:List Int)(q18:Bool)(n:Int)(t:Tm)
  (x:(List zD×List zI×Nat×Nat×List Int×Int×List zH) ⊕ ((List zD×List zI×Nat×Nat×List Int×Bool×Int×List zH) ⊕ (List zD×List zI×List Int×Bool×Int×List zH))):Prop:=
 (x = .inl (c,so,q15,q16,q17++[3],0,q8)∧Bnt l n t) ∨
 (∃e,e≠0∧x = .inr (.inl (c,so,q15,q16,q17,q18,e,q8))) ∨
 (∃d row so' e,x = .inr (.inr (d,so'++[⟨n,t⟩],q17++[1],q18,e,row))∧row.length=q8.length∧(∀x∈row,x.a_.Ok∧x.b_.Ok)∧so'.length=so.length∧(∀x∈so',x.t_.Ok)∧¬n∈frT t∧zEy c n t d ∧
  (e=0->so'=so.map (naS t n)∧(row.drop q10).take q9=((q8.drop q10).take q9).map (naE t n)∧(∀x∈(q8.drop q10).take q9,zL (naT t n x.a_ 0)=true∧zL (naT t n x.b_ 0)=true)∧∀s∈so,zL (naT t n s.t_ 0)=true))
theorem X0{N:ByteArray->Bool}{l:List Ent}(hE:wS N l)(q5 q6:Int)(c:List zD)(q8:List zH)(q9 q10 q11:Nat)(q12:Bool)(q13:List zD)(so:List zI)(q15 q16:Nat)(q17:List Int)(q18:Bool)(n:Int)(t:Tm)
  (hb:q10+q9≤q8.length) (hb2:q8.length≤17592186044416) (hok:∀x∈q8,x.a_.Ok∧x.b_.Ok) (hso:so.length=q15) (hso2:so.length≤1048576) (hsok:∀x∈so,x.t_.Ok) (hst:q17.length≤1048576) (hc:c.length≤524288) (hco:∀v∈c,v.type_.Ok) (hs:zL t=true) :
  Tot (fun q=>lU q l l (evA l l.length 0) (l.map xS) (l.map sD) q5 q6 c q8 q9 q10 q11 q12 q13 so q15 q16 q17 q18 0 n t) (zVP l c q8 q9 q10 so q15 q16 q17 q18 n t):=by
 have ht:=zV hs
 simp only[lU,qH]
 refine Tot.bind (P:=fun b=>b=decide (n∈frT t)) ((zKq t n hs).tot rfl) fun b hb0=>Tot.ite (fun h1=>?_) fun h1=>?_
 ·refine(zEu hE n t.nodes t (Nat.le_refl _) hs).bind fun b2 hb2=>Tot.ite (fun h2=>?_) fun _=>Tot.ret (.inr (.inl ⟨13,by decide,rfl⟩))
  exact Tot.bind (P:=fun s=>s=q17++[3]) (Tot.pure (yG (by simp;omega)) (Tot.ret rfl)) fun s hs=>Tot.ret (.inl ⟨by rw[hs],hb2 h2⟩)
 ·refine(K5 hc hco n t ht).bind fun r9 h9=>Tot.ite (fun _=>Tot.ret (.inr (.inl ⟨13,by decide,rfl⟩))) fun _=>Tot.ite (fun h3=>Tot.ret (.inr (.inl ⟨r9.2,by simpa using h3,rfl⟩))) fun h3=>?_
  have h0:r9.2=0:=by simpa using h3
  obtain⟨hP,hnf⟩:=h9 h0
  refine W8 l l _ _ _ q5 q6 q8 q9 q10 q11 q12 q13 so q15 q16 q17 q18 n t r9 hb hb2 ht (fun row e hJ=>?_) q9 0 0 q8 (by omega) ⟨rfl,hok,fun i _=>rfl,fun _ i hi=>absurd hi (Nat.not_lt_zero _)⟩
  refine(W9 l l _ _ _ q5 q6 q9 q10 q11 q12 q13 q15 q16 q17 q18 n t r9 row so hso hso2 hst ht q15 0 e so (by omega) ⟨rfl,hsok,fun i _=>rfl,fun _ i hi=>absurd hi (Nat.not_lt_zero _)⟩).mono fun x hx=>?_
  obtain⟨row',e',hS,he,rfl⟩:=hx
  refine .inr (.inr ⟨r9.1,row,row',e',rfl,hJ.len,hJ.ok,hS.len,hS.ok,hnf,hP,fun h0=>⟨?_,?_,fun x hx=>?_,fun s hs'=>?_⟩⟩)
  ·refine List.ext_getElem? fun i=>?_
   rw[List.getElem?_map]
   rcases Nat.lt_or_ge i q15 with h5|h5
   ·exact(hS.done h0 i h5).1
   ·rw[List.getElem?_eq_none (by rw[hS.len];omega),List.getElem?_eq_none (by omega)];rfl
  ·refine List.ext_getElem? fun i=>?_
   rw[List.getElem?_map,List.getElem?_take,List.getElem?_take,List.getElem?_drop,List.getElem?_drop]
   by_cases h5:i<q9
   ·rw[if_pos h5,if_pos h5]
    exact(hJ.done (he h0) i h5).1
   ·rw[if_neg h5,if_neg h5];rfl
  ·obtain⟨i,hi⟩:=List.getElem?_of_mem hx
   rw[List.getElem?_take,List.getElem?_drop]at hi
   by_cases h5:i<q9
   ·rw[if_pos h5]at hi
    exact(hJ.done (he h0) i h5).2 x hi
   ·rw[if_neg h5]at hi;cases hi
  ·obtain⟨i,hi⟩:=List.getElem?_of_mem hs'
   have h5:i<q15:=by have:=(List.getElem?_eq_some_iff.1 hi).1;omega
   exact(hS.done h0 i h5).2 s hi
def zKi(qq:Nat)(M:yY)(q0_l:List Ent)(fl fu q0_e:Int)(p1:Tm):Option (Tm×Int×Int×Int):=
 zBe qq M p1 fl fu>>=fun r1=>
 if q0_e==0 then
 some (r1.1,r1.2.1,r1.2.2.1,r1.2.2.2)
 else
 some (r1.1,q0_e,r1.2.2.1,r1.2.2.2)
theorem zVQ:Qf 147 Tryz.f147:=⟨Tryz.func147,rfl⟩
theorem zVR{qq M q0_l fl fu q0_e p1 r}(h:zKi qq M q0_l fl fu q0_e p1=some r):Ct 147 [.cells [.mp 1 0,slv yP q0_l .no,.mp 3 0,ai q0_e],mB M 2,mR M,.cells [ai fl,ai fu]] [.mp 0 0,tmA p1] (tmA r.1) [.cells [.mp 1 0,slv yP q0_l .no,.mp 3 0,ai r.2.1],mB M 2,mR M,.cells [ai r.2.2.1,ai r.2.2.2]] 0:=⟨by
 unfold zKi at h
 obtain⟨r1,h2,h⟩:=zC h
 have k:=oC 3 [1,2,3] (zQE h2) o0
 obtain⟨h3,h⟩|⟨h3,h⟩:=spl h
 cases h
 exact tF zVQ 3 [0,1,2,3] (oD (dT r1.1.sub)<|oDM M<|oD (dE q0_l)<|oB 4 h3 k)
 cases h
 exact tF zVQ 2 [0,1,2,3] (oD (dT r1.1.sub)<|oDM M<|oD (dE q0_l)<|oB 4 h3 k),⟨(lz rfl),⟨tv,tv,⟨tv,dT _⟩,tv⟩,tv⟩,(zA ⟨(lz rfl),⟨tv,dE _⟩,(lz rfl),tv,tv⟩ (fMa (lz rfl) (zA ⟨tv,tv,tv⟩ zB))),⟨tv,tv,dT _,tv⟩,(zA ⟨(lz rfl),dE _,(lz rfl),tv,tv⟩ (fMf (lz rfl) (zA ⟨tv,tv,tv⟩ zB)))⟩
def zGo(qq:Nat)(M:yY)(q0_l:List Ent)(fl fu q0_e:Int)(p1 p2:Tm):Option (Tm×Tm×Bool×Int×Int×Int):=
 if q0_e != 0 then
 some (p1,p2,false,q0_e,fl,fu)
 else
 zKi qq M q0_l fl fu q0_e p1>>=fun r2=>
 if r2.2.1 != 0 then
 some (r2.1,p2,false,r2.2.1,r2.2.2.1,r2.2.2.2)
 else
 zKi qq M q0_l r2.2.2.1 r2.2.2.2 r2.2.1 p2>>=fun r5=>
 some (r2.1,r5.1,(r5.2.1==0),r5.2.1,r5.2.2.1,r5.2.2.2)
theorem zTb:Qf 114 Tryz.f114:=⟨Tryz.func114,rfl⟩
theorem zXl{qq M q0_l fl fu q0_e p1 p2 r}(h:zGo qq M q0_l fl fu q0_e p1 p2=some r):Ct 114 [.cells [.mp 1 0,slv yP q0_l .no,.mp 3 0,ai q0_e],mB M 2,mR M,.cells [ai fl,ai fu]] [.mp 0 0,tmA p1,tmA p2] (.tup [tmA r.1,tmA r.2.1,ab r.2.2.1]) [.cells [.mp 1 0,slv yP q0_l .no,.mp 3 0,ai r.2.2.2.1],mB M 2,mR M,.cells [ai r.2.2.2.2.1,ai r.2.2.2.2.2]] 0:=⟨by
 unfold zGo at h
 obtain⟨h1,h⟩|⟨h1,h⟩:=spl h
 cases h
 exact tF zTb 4 [0,1,2,3] (oD (dT p2.sub)<|oD (dT p1.sub)<|oDM M<|oD (dE q0_l)<|oB 1 h1 o0)
 obtain⟨r2,h3,h⟩:=zC h
 have k:=oC 1 [0,1,2,3] (zVR h3)<|oB 1 h1 o0
 obtain⟨h4,h⟩|⟨h4,h⟩:=spl h
 cases h
 exact tF zTb 4 [0,1,2,3] (oD (dT p2.sub)<|oD (dT r2.1.sub)<|oDM M<|oD (dE q0_l)<|oB 2 h4 k)
 obtain⟨r5,h6,h⟩:=zC h
 cases h
 exact tF zTb 7 [0,1,2,3] (oD (dT r5.1.sub)<|oD (dT r2.1.sub)<|oDM M<|oD (dE q0_l)<|oC 1 [0,1,2,3] (zVR h6)<|oB 2 h4 k),⟨(lz rfl),⟨tv,tv,⟨tv,dT _⟩,tv⟩,⟨tv,tv,⟨tv,dT _⟩,tv⟩,tv⟩,(zA ⟨(lz rfl),⟨tv,dE _⟩,(lz rfl),tv,tv⟩ (fMa (lz rfl) (zA ⟨tv,tv,tv⟩ zB))),⟨⟨tv,tv,dT _,tv⟩,⟨tv,tv,dT _,tv⟩,tv,tv⟩,(zA ⟨(lz rfl),dE _,(lz rfl),tv,tv⟩ (fMf (lz rfl) (zA ⟨tv,tv,tv⟩ zB)))⟩
def zGn(qq:Nat)(p0:Int):Option Tm:=
 zAV qq 6 p0 []>>=fun r1=>
 some r1
theorem zTa{qq p0 r}(h:zGn qq p0=some r):Ct 127 [] [ai p0] (tmA r) [] 0:=⟨by
 unfold zGn at h
 obtain⟨r1,h2,h⟩:=zC h
 obtain rfl:=sj h
 exact tF ⟨Tryz.func127,rfl⟩ 1 [] (oD (dT r1.sub)<|oC 0 [] (zFB h2) o0),⟨tv,tv⟩,zB,⟨tv,tv,dT _,tv⟩,zB⟩
def u5(qq:Nat)(M:yY)(q0_l:List Ent)(fl fu q0_e:Int)(p1:Tm):Option (Tm×Int):=
 if p1.k==4 then
 zS p1.sub 1>>=fun x2=>
 some (x2,q0_e)
 else
 zDv qq p1 1>>=fun r4=>
 zAW qq 0>>=fun r6=>
 S7 qq r4.1 r6>>=fun r8=>
 if r4.2==0 then
 e52 qq r8>>=fun r11=>
 if r11 then
 if q0_e==0 then
 some (r8,r4.2)
 else
 some (r8,q0_e)
 else
 if q0_e==0 then
 some (r8,2)
 else
 some (r8,q0_e)
 else
 if q0_e==0 then
 some (r8,r4.2)
 else
 some (r8,q0_e)
theorem zGm:Qf 148 Tryz.f148:=⟨Tryz.func148,rfl⟩
theorem zQV{qq M q0_l fl fu q0_e p1 r}(h:u5 qq M q0_l fl fu q0_e p1=some r):Ct 148 [.cells [.mp 1 0,slv yP q0_l .no,.mp 3 0,ai q0_e],mB M 2,mR M,.cells [ai fl,ai fu]] [.mp 0 0,tmA p1] (tmA r.1) [.cells [.mp 1 0,slv yP q0_l .no,.mp 3 0,ai r.2],mB M 2,mR M,.cells [ai fl,ai fu]] 0:=⟨by
 unfold u5 at h
 have z {os ob} (k:Oz os ob):=oDM M<|oD (dE q0_l)<|k
 obtain⟨h1,h⟩|⟨h1,h⟩:=spl h
 obtain⟨x2,h3,h⟩:=zC h
 cases h
 exact tF zGm 2 [0,1,2,3] (oD (dT x2.sub)<|z<|oA 1 (xB (o:=.no) h3)<|oB 1 h1 o0)
 obtain⟨r4,h5,h⟩:=zC h
 obtain⟨r6,h7,h⟩:=zC h
 obtain⟨r8,h9,h⟩:=zC h
 have k:=oC 0 [] (w5 h9)<|oC 4 [] (zJm h7)<|oC 1 [] (zPg h5)<|oB 1 h1 o0
 obtain⟨h10,h⟩|⟨h10,h⟩:=spl h
 obtain⟨r11,h12,h⟩:=zC h
 have k:=oB 1 h10 k
 obtain⟨h13,h⟩|⟨h13,h⟩:=spl h
 have k:=oK 1 [] h13 (c52 h12) k
 obtain⟨h14,h⟩|⟨h14,h⟩:=spl h
 cases h
 exact tF zGm 3 [0,1,2,3] (oD (dT r8.sub)<|z<|oB 2 h14 k)
 cases h
 exact tF zGm 2 [0,1,2,3] (oD (dT r8.sub)<|z<|oB 2 h14 k)
 have k:=oK 1 [] h13 (c52 h12) k
 obtain⟨h15,h⟩|⟨h15,h⟩:=spl h
 cases h
 exact tF zGm 3 [0,1,2,3] (oD (dT r8.sub)<|z<|oB 2 h15 k)
 cases h
 exact tF zGm 2 [0,1,2,3] (oD (dT r8.sub)<|z<|oB 2 h15 k)
 have k:=oB 1 h10 k
 obtain⟨h16,h⟩|⟨h16,h⟩:=spl h
 cases h
 exact tF zGm 3 [0,1,2,3] (oD (dT r8.sub)<|z<|oB 1 h16 k)
 cases h
 exact tF zGm 2 [0,1,2,3] (oD (dT r8.sub)<|z<|oB 1 h16 k),⟨(lz rfl),⟨tv,tv,⟨tv,dT _⟩,tv⟩,tv⟩,(zA ⟨(lz rfl),⟨tv,dE _⟩,(lz rfl),tv,tv⟩ (fMa (lz rfl) (zA ⟨tv,tv,tv⟩ zB))),⟨tv,tv,dT _,tv⟩,(zA ⟨(lz rfl),dE _,(lz rfl),tv,tv⟩ (fMf (lz rfl) (zA ⟨tv,tv,tv⟩ zB)))⟩
def zEm(qq:Nat)(M:yY)(q0_l:List Ent)(fl fu q0_e:Int)(p1:Tm):Option (Int×List Tm×Bool):=
 V7 qq M p1>>=fun r1=>
 if r1.2.2 then
 zS q0_l r1.1>>=fun x4=>
 zS q0_l x4.fam>>=fun x6=>
 if (x6.fields.length:Int)==0 then
 some (0,[],false)
 else
 some (r1.1,r1.2.1,true)
 else
 some (0,[],false)
theorem zTA:Qf 149 Tryz.f149:=⟨Tryz.func149,rfl⟩
theorem zQW{qq M q0_l fl fu q0_e p1 r}(h:zEm qq M q0_l fl fu q0_e p1=some r):Ct 149 [.cells [.mp 1 0,slv yP q0_l .no,.mp 3 0,ai q0_e],mB M 2,mR M,.cells [ai fl,ai fu]] [.mp 0 0,tmA p1] (.tup [ai r.1,.sl (zK zG r.2.1) r.2.1.length .no,ab r.2.2]) [.cells [.mp 1 0,slv yP q0_l .no,.mp 3 0,ai q0_e],mB M 2,mR M,.cells [ai fl,ai fu]] 0:=⟨by
 unfold zEm at h
 obtain⟨r1,h2,h⟩:=zC h
 have k:=oC 2 [1,2] (zNT h2) o0
 obtain⟨h3,h⟩|⟨h3,h⟩:=spl h
 obtain⟨x4,h5,h⟩:=zC h
 obtain⟨x6,h7,h⟩:=zC h
 have k:=oA 1 (xL (o:=.no) h7)<|oA 3 (xL (o:=.no) h5)<|oB 2 h3 k
 obtain⟨h8,h⟩|⟨h8,h⟩:=spl h
 cases h
 exact tF zTA 0 [0,1,2,3] (oD (dT ([]:List Tm))<|oDM M<|oD (dE q0_l)<|oB 2 h8 k)
 cases h
 exact tF zTA 0 [0,1,2,3] (oD (dT r1.2.1)<|oDM M<|oD (dE q0_l)<|oB 2 h8 k)
 cases h
 exact tF zTA 1 [0,1,2,3] (oD (dT ([]:List Tm))<|oDM M<|oD (dE q0_l)<|oB 2 h3 k),⟨(lz rfl),⟨tv,tv,⟨tv,dT _⟩,tv⟩,tv⟩,(zA ⟨(lz rfl),⟨tv,dE _⟩,(lz rfl),tv,tv⟩ (fMa (lz rfl) (zA ⟨tv,tv,tv⟩ zB))),⟨tv,dT _,tv,tv⟩,(zA ⟨(lz rfl),dE _,(lz rfl),tv,tv⟩ (fMf (lz rfl) (zA ⟨tv,tv,tv⟩ zB)))⟩
def zKh(qq:Nat)(M:yY)(q0_l:List Ent)(fl fu q0_e:Int)(p1:Tm)(p2 p3:Int)(p4:List Tm):Option (Tm×Int):=
 zEm qq M q0_l fl fu q0_e p1>>=fun r1=>
 if r1.2.2 then
 if r1.1==p2 then
 zS r1.2.1 (w64 ((p4.length:Int)+p3))>>=fun x5=>
 some (x5,q0_e)
 else
 zS q0_l p2>>=fun x7=>
 zS q0_l x7.fam>>=fun x9=>
 zS x9.fields p3>>=fun x11=>
 zGn qq x11>>=fun r13=>
 gC qq r13 p4>>=fun r15=>
 S7 qq r15 p1>>=fun r17=>
 if q0_e==0 then
 e52 qq r17>>=fun r20=>
 if r20 then
 some (r17,q0_e)
 else
 some (r17,2)
 else
 some (r17,q0_e)
 else
 zS q0_l p2>>=fun x23=>
 zS q0_l x23.fam>>=fun x25=>
 zS x25.fields p3>>=fun x27=>
 zGn qq x27>>=fun r29=>
 gC qq r29 p4>>=fun r31=>
 S7 qq r31 p1>>=fun r33=>
 if q0_e==0 then
 e52 qq r33>>=fun r36=>
 if r36 then
 some (r33,q0_e)
 else
 some (r33,2)
 else
 some (r33,q0_e)
theorem zGl:Qf 184 Tryz.f184:=⟨Tryz.func184,rfl⟩
theorem zVS{qq M q0_l fl fu q0_e p1 p2 p3 p4 r}(h:zKh qq M q0_l fl fu q0_e p1 p2 p3 p4=some r):Ct 184 [.cells [.mp 1 0,slv yP q0_l .no,.mp 3 0,ai q0_e],mB M 2,mR M,.cells [ai fl,ai fu]] [.mp 0 0,tmA p1,ai p2,ai p3,slv zG p4 .no] (tmA r.1) [.cells [.mp 1 0,slv yP q0_l .no,.mp 3 0,ai r.2],mB M 2,mR M,.cells [ai fl,ai fu]] 0:=⟨by
 unfold zKh at h
 have z {os ob} (k:Oz os ob):=oDM M<|oD (dE q0_l)<|k
 obtain⟨r1,h2,h⟩:=zC h
 have k:=oC 1 [0,1,2,3] (zQW h2) o0
 obtain⟨h3,h⟩|⟨h3,h⟩:=spl h
 have k:=oB 2 h3 k
 obtain⟨h4,h⟩|⟨h4,h⟩:=spl h
 obtain⟨x5,h6,h⟩:=zC h
 cases h
 exact tF zGl 2 [0,1,2,3] (oD (dT x5.sub)<|z<|oA 2 (xB (o:=.no) h6)<|oB 0 h4 k)
 obtain⟨x7,h8,h⟩:=zC h
 obtain⟨x9,h10,h⟩:=zC h
 obtain⟨x11,h12,h⟩:=zC h
 obtain⟨r13,h14,h⟩:=zC h
 obtain⟨r15,h16,h⟩:=zC h
 obtain⟨r17,h18,h⟩:=zC h
 have k:=oC 1 [] (w5 h18)<|oC 0 [] (L5 h16)<|oC 1 [] (zTa h14)<|oA 1 (nU (o:=.no) h12)<|oA 1 (xL (o:=.no) h10)<|oA 2 (xL (o:=.no) h8)<|oB 0 h4 k
 obtain⟨h19,h⟩|⟨h19,h⟩:=spl h
 obtain⟨r20,h21,h⟩:=zC h
 have k:=oB 2 h19 k
 obtain⟨h22,h⟩|⟨h22,h⟩:=spl h
 cases h
 exact tF zGl 3 [0,1,2,3] (oD (dT r17.sub)<|z<|oK 1 [] h22 (c52 h21) k)
 cases h
 exact tF zGl 4 [0,1,2,3] (oD (dT r17.sub)<|z<|oK 1 [] h22 (c52 h21) k)
 cases h
 exact tF zGl 2 [0,1,2,3] (oD (dT r17.sub)<|z<|oB 2 h19 k)
 obtain⟨x23,h24,h⟩:=zC h
 obtain⟨x25,h26,h⟩:=zC h
 obtain⟨x27,h28,h⟩:=zC h
 obtain⟨r29,h30,h⟩:=zC h
 obtain⟨r31,h32,h⟩:=zC h
 obtain⟨r33,h34,h⟩:=zC h
 have k:=oC 1 [] (w5 h34)<|oC 0 [] (L5 h32)<|oC 1 [] (zTa h30)<|oA 1 (nU (o:=.no) h28)<|oA 1 (xL (o:=.no) h26)<|oA 2 (xL (o:=.no) h24)<|oB 2 h3 k
 obtain⟨h35,h⟩|⟨h35,h⟩:=spl h
 obtain⟨r36,h37,h⟩:=zC h
 have k:=oB 2 h35 k
 obtain⟨h38,h⟩|⟨h38,h⟩:=spl h
 cases h
 exact tF zGl 3 [0,1,2,3] (oD (dT r33.sub)<|z<|oK 1 [] h38 (c52 h37) k)
 cases h
 exact tF zGl 4 [0,1,2,3] (oD (dT r33.sub)<|z<|oK 1 [] h38 (c52 h37) k)
 cases h
 exact tF zGl 2 [0,1,2,3] (oD (dT r33.sub)<|z<|oB 2 h35 k),⟨(lz rfl),⟨tv,tv,⟨tv,dT _⟩,tv⟩,tv,tv,⟨tv,dT _⟩,tv⟩,(zA ⟨(lz rfl),⟨tv,dE _⟩,(lz rfl),tv,tv⟩ (fMa (lz rfl) (zA ⟨tv,tv,tv⟩ zB))),⟨tv,tv,dT _,tv⟩,(zA ⟨(lz rfl),dE _,(lz rfl),tv,tv⟩ (fMf (lz rfl) (zA ⟨tv,tv,tv⟩ zB)))⟩
def zQX(qq:Nat)(p0 p1:Int):Option Bool:=
 some (p0==p1)
theorem zXk{qq p0 p1 r}(h:zQX qq p0 p1=some r):Ct 116 [] [ai p0,ai p1] (ab r) [] 0:=⟨by
 unfold zQX at h
 cases h
 exact tF ⟨Tryz.func116,rfl⟩ 1 [] (o0),⟨tv,tv,tv⟩,zB,tv,zB⟩
mutual
def vH:Nat->List Ent->List Ent->List yX->List Int->List Int->List Ent->Int->Int->Int->Tm->Tm->Option (Bool×Int×Int×Int)
 |0,_,_,_,_,_,_,_,_,_,_,_=>none
 |qq+1,q0,q1,q2,q3,q4,q5,q6,q7,q8,p1,p2=>
 zGo qq (yY.mk q0 q1 q2 q3 q4) q5 q6 q7 q8 p1 p2>>=fun r1=>
 if r1.2.2.1 then
 gX qq q0 q1 q2 q3 q4 q5 r1.2.2.2.2.1 r1.2.2.2.2.2 r1.2.2.2.1 r1.1 r1.2.1>>=fun r4=>
 some (r4.1,r4.2.1,r4.2.2.1,r4.2.2.2)
 else
 some (false,r1.2.2.2.1,r1.2.2.2.2.1,r1.2.2.2.2.2)
def gX:Nat->List Ent->List Ent->List yX->List Int->List Int->List Ent->Int->Int->Int->Tm->Tm->Option (Bool×Int×Int×Int)
 |0,_,_,_,_,_,_,_,_,_,_,_=>none
 |qq+1,q0,q1,q2,q3,q4,q5,q6,q7,q8,p1,p2=>
 if p1.k==4 then
 u5 qq (yY.mk q0 q1 q2 q3 q4) q5 q6 q7 q8 p1>>=fun r2=>
 u5 qq (yY.mk q0 q1 q2 q3 q4) q5 q6 q7 r2.2 p2>>=fun r4=>
 vH qq q0 q1 q2 q3 q4 q5 q6 q7 r4.2 r2.1 r4.1>>=fun r6=>
 some (r6.1,r6.2.1,r6.2.2.1,r6.2.2.2)
 else
 if p2.k==4 then
 u5 qq (yY.mk q0 q1 q2 q3 q4) q5 q6 q7 q8 p1>>=fun r9=>
 u5 qq (yY.mk q0 q1 q2 q3 q4) q5 q6 q7 r9.2 p2>>=fun r11=>
 vH qq q0 q1 q2 q3 q4 q5 q6 q7 r11.2 r9.1 r11.1>>=fun r13=>
 some (r13.1,r13.2.1,r13.2.2.1,r13.2.2.2)
 else
 zEm qq (yY.mk q0 q1 q2 q3 q4) q5 q6 q7 q8 p1>>=fun r15=>
 if r15.2.2 then
 zEm qq (yY.mk q0 q1 q2 q3 q4) q5 q6 q7 q8 p2>>=fun r18=>
 if r18.2.2 then
 if r15.1 != r18.1 then
 some (false,q8,q6,q7)
 else
 zS q5 r15.1>>=fun x22=>
 gsl r15.2.1 0 x22.pars>>=fun x24=>
 nN qq q0 q1 q2 q3 q4 q5 q6 q7 q8 p1 p2 r15.1 x24>>=fun r26=>
 some (r26.1,r26.2.1,r26.2.2.1,r26.2.2.2)
 else
 zS q5 r15.1>>=fun x28=>
 gsl r15.2.1 0 x28.pars>>=fun x30=>
 nN qq q0 q1 q2 q3 q4 q5 q6 q7 q8 p1 p2 r15.1 x30>>=fun r32=>
 some (r32.1,r32.2.1,r32.2.2.1,r32.2.2.2)
 else
 zEm qq (yY.mk q0 q1 q2 q3 q4) q5 q6 q7 q8 p2>>=fun r34=>
 if r34.2.2 then
 zS q5 r34.1>>=fun x37=>
 gsl r34.2.1 0 x37.pars>>=fun x39=>
 nN qq q0 q1 q2 q3 q4 q5 q6 q7 q8 p1 p2 r34.1 x39>>=fun r41=>
 some (r41.1,r41.2.1,r41.2.2.1,r41.2.2.2)
 else
 if p1.k != p2.k then
 some (false,q8,q6,q7)
 else
 if p1.k==3 then
 zS p1.sub 0>>=fun x45=>
 zS p2.sub 0>>=fun x47=>
 vH qq q0 q1 q2 q3 q4 q5 q6 q7 q8 x45 x47>>=fun r49=>
 if r49.1 then
 zS p1.sub 1>>=fun x52=>
 zS p2.sub 1>>=fun x54=>
 vH qq q0 q1 q2 q3 q4 q5 r49.2.2.1 r49.2.2.2 r49.2.1 x52 x54>>=fun r56=>
 some (r56.1,r56.2.1,r56.2.2.1,r56.2.2.2)
 else
 some (false,r49.2.1,r49.2.2.1,r49.2.2.2)
 else
 if p1.k==2 then
 zQX qq p1.n p2.n>>=fun r59=>
 some (r59,q8,q6,q7)
 else
 gY qq q0 q1 q2 q3 q4 q5 q6 q7 q8 p1 p2>>=fun r61=>
 some (r61.1,r61.2.1,r61.2.2.1,r61.2.2.2)
def nN:Nat->List Ent->List Ent->List yX->List Int->List Int->List Ent->Int->Int->Int->Tm->Tm->Int->List Tm->Option (Bool×Int×Int×Int)
 |0,_,_,_,_,_,_,_,_,_,_,_,_,_=>none
 |qq+1,q0,q1,q2,q3,q4,q5,q6,q7,q8,p1,p2,p3,p4=>
 zS q5 p3>>=fun x1=>
 zS q5 x1.fam>>=fun x3=>
 uM qq q0 q1 q2 q3 q4 q5 p1 p2 p3 p4 x3 0 q8 q6 q7
def uM:Nat->List Ent->List Ent->List yX->List Int->List Int->List Ent->Tm->Tm->Int->List Tm->Ent->Int->Int->Int->Int->Option (Bool×Int×Int×Int)
 |0,_,_,_,_,_,_,_,_,_,_,_,_,_,_,_=>none
 |qq+1,q0,q1,q2,q3,q4,q5,p1,p2,p3,p4,x3,v28,vV,xP,wI=>
 if decide (v28<(x3.fields.length:Int))then
 zKh qq (yY.mk q0 q1 q2 q3 q4) q5 xP wI vV p1 p3 v28 p4>>=fun r6=>
 zKh qq (yY.mk q0 q1 q2 q3 q4) q5 xP wI r6.2 p2 p3 v28 p4>>=fun r8=>
 vH qq q0 q1 q2 q3 q4 q5 xP wI r8.2 r6.1 r8.1>>=fun r10=>
 if r10.1 then
 uM qq q0 q1 q2 q3 q4 q5 p1 p2 p3 p4 x3 (w64 (v28+1)) r10.2.1 r10.2.2.1 r10.2.2.2
 else
 some (false,r10.2.1,r10.2.2.1,r10.2.2.2)
 else
 some (true,vV,xP,wI)
def gY:Nat->List Ent->List Ent->List yX->List Int->List Int->List Ent->Int->Int->Int->Tm->Tm->Option (Bool×Int×Int×Int)
 |0,_,_,_,_,_,_,_,_,_,_,_=>none
 |qq+1,q0,q1,q2,q3,q4,q5,q6,q7,q8,p1,p2=>
 L4 qq p1>>=fun r1=>
 L4 qq p2>>=fun r3=>
 if r1.1.k != r3.1.k then
 some (false,q8,q6,q7)
 else
 if r1.1.n != r3.1.n then
 some (false,q8,q6,q7)
 else
 if (r1.2.length:Int) != (r3.2.length:Int)then
 some (false,q8,q6,q7)
 else
 if r1.1.k==7 then
 zS r1.1.sub 0>>=fun x9=>
 zS r3.1.sub 0>>=fun x11=>
 if x9.n != x11.n then
 some (false,q8,q6,q7)
 else
 if r1.1.k==3 then
 vH qq q0 q1 q2 q3 q4 q5 q6 q7 q8 x9 x11>>=fun r15=>
 if r15.1 then
 zS r1.1.sub 1>>=fun x18=>
 zS r3.1.sub 1>>=fun x20=>
 vH qq q0 q1 q2 q3 q4 q5 r15.2.2.1 r15.2.2.2 r15.2.1 x18 x20>>=fun r22=>
 if r22.1 then
 xY qq q0 q1 q2 q3 q4 q5 r1 r3 0 r22.2.1 r22.2.2.1 r22.2.2.2
 else
 some (false,r22.2.1,r22.2.2.1,r22.2.2.2)
 else
 some (false,r15.2.1,r15.2.2.1,r15.2.2.2)
 else
 xY qq q0 q1 q2 q3 q4 q5 r1 r3 0 q8 q6 q7
 else
 if r1.1.k==3 then
 zS r1.1.sub 0>>=fun x26=>
 zS r3.1.sub 0>>=fun x28=>
 vH qq q0 q1 q2 q3 q4 q5 q6 q7 q8 x26 x28>>=fun r30=>
 if r30.1 then
 zS r1.1.sub 1>>=fun x33=>
 zS r3.1.sub 1>>=fun x35=>
 vH qq q0 q1 q2 q3 q4 q5 r30.2.2.1 r30.2.2.2 r30.2.1 x33 x35>>=fun r37=>
 if r37.1 then
 xY qq q0 q1 q2 q3 q4 q5 r1 r3 0 r37.2.1 r37.2.2.1 r37.2.2.2
 else
 some (false,r37.2.1,r37.2.2.1,r37.2.2.2)
 else
 some (false,r30.2.1,r30.2.2.1,r30.2.2.2)
 else
 xY qq q0 q1 q2 q3 q4 q5 r1 r3 0 q8 q6 q7
def xY:Nat->List Ent->List Ent->List yX->List Int->List Int->List Ent->(Tm×List Tm)->(Tm×List Tm)->Int->Int->Int->Int->Option (Bool×Int×Int×Int)
 |0,_,_,_,_,_,_,_,_,_,_,_,_=>none
 |qq+1,q0,q1,q2,q3,q4,q5,r1,r3,v89,vV,xP,wI=>
 if decide (v89<(r1.2.length:Int))then
 zS r1.2 v89>>=fun x26=>
 zS r3.2 v89>>=fun x28=>
 vH qq q0 q1 q2 q3 q4 q5 xP wI vV x26 x28>>=fun r30=>
 if r30.1 then
 xY qq q0 q1 q2 q3 q4 q5 r1 r3 (w64 (v89+1)) r30.2.1 r30.2.2.1 r30.2.2.2
 else
 some (false,r30.2.1,r30.2.2.1,r30.2.2.2)
 else
 some (true,vV,xP,wI)
end
abbrev O5 (q0 q1:List Ent) (q2:List yX) (q3 q4:List Int) (q5:List Ent) (q6 q7 q8:Int) (p1 p2:Tm) (r:Bool×Int×Int×Int) (C:Cf):Prop:=C 85 [.cells [.mp 1 0,slv yP q5 .no,.mp 3 0,ai q8],qB q0 2 q3 q4,qR q1 q2,.cells [ai q6,ai q7]] [.mp 0 0,tmA p1,tmA p2] (ab r.1) [.cells [.mp 1 0,slv yP q5 .no,.mp 3 0,ai r.2.1],qB q0 2 q3 q4,qR q1 q2,.cells [ai r.2.2.1,ai r.2.2.2]] 0
abbrev X1 (q0 q1:List Ent) (q2:List yX) (q3 q4:List Int) (q5:List Ent) (q6 q7 q8:Int) (p1 p2:Tm) (r:Bool×Int×Int×Int) (C:Cf):Prop:=C 115 [.cells [.mp 1 0,slv yP q5 .no,.mp 3 0,ai q8],qB q0 2 q3 q4,qR q1 q2,.cells [ai q6,ai q7]] [.mp 0 0,tmA p1,tmA p2,.agg [.clo 116 [] [],.clo 85 [.mp 0 0] []]] (ab r.1) [.cells [.mp 1 0,slv yP q5 .no,.mp 3 0,ai r.2.1],qB q0 2 q3 q4,qR q1 q2,.cells [ai r.2.2.1,ai r.2.2.2]] 0
abbrev zOy (q0 q1:List Ent) (q2:List yX) (q3 q4:List Int) (q5:List Ent) (q6 q7 q8:Int) (p1 p2:Tm) (p3:Int) (p4:List Tm) (r:Bool×Int×Int×Int) (C:Cf):Prop:=C 150 [.cells [.mp 1 0,slv yP q5 .no,.mp 3 0,ai q8],qB q0 2 q3 q4,qR q1 q2,.cells [ai q6,ai q7]] [.mp 0 0,tmA p1,tmA p2,ai p3,slv zG p4 .no] (ab r.1) [.cells [.mp 1 0,slv yP q5 .no,.mp 3 0,ai r.2.1],qB q0 2 q3 q4,qR q1 q2,.cells [ai r.2.2.1,ai r.2.2.2]] 0
abbrev X2 (q0 q1:List Ent) (q2:List yX) (q3 q4:List Int) (q5:List Ent) (q6 q7 q8:Int) (p1 p2:Tm) (r:Bool×Int×Int×Int) (C:Cf):Prop:=C 151 [.cells [.mp 1 0,slv yP q5 .no,.mp 3 0,ai q8],qB q0 2 q3 q4,qR q1 q2,.cells [ai q6,ai q7]] [.mp 0 0,tmA p1,tmA p2] (ab r.1) [.cells [.mp 1 0,slv yP q5 .no,.mp 3 0,ai r.2.1],qB q0 2 q3 q4,qR q1 q2,.cells [ai r.2.2.1,ai r.2.2.2]] 0
theorem zHZ:Qf 85 Tryz.f85:=⟨Tryz.func85,rfl⟩
theorem zIz{q0 q1 q2 q3 q4 q5 q6 q7 q8 p1 p2 r}(h:O5 q0 q1 q2 q3 q4 q5 q6 q7 q8 p1 p2 r Ci):O5 q0 q1 q2 q3 q4 q5 q6 q7 q8 p1 p2 r Ct:=⟨h,⟨(lz rfl),⟨tv,tv,⟨tv,dT _⟩,tv⟩,⟨tv,tv,⟨tv,dT _⟩,tv⟩,tv⟩,(zA ⟨(lz rfl),⟨tv,dE _⟩,(lz rfl),tv,tv⟩ (fMa (lz rfl) (zA ⟨tv,tv,tv⟩ zB))),tv,(zA ⟨(lz rfl),dE _,(lz rfl),tv,tv⟩ (fMf (lz rfl) (zA ⟨tv,tv,tv⟩ zB)))⟩
theorem sK:Qf 115 Tryz.f115:=⟨Tryz.func115,rfl⟩
theorem sL{q0 q1 q2 q3 q4 q5 q6 q7 q8 p1 p2 r}(h:X1 q0 q1 q2 q3 q4 q5 q6 q7 q8 p1 p2 r Ci):X1 q0 q1 q2 q3 q4 q5 q6 q7 q8 p1 p2 r Ct:=⟨h,⟨(lz rfl),⟨tv,tv,⟨tv,dT _⟩,tv⟩,⟨tv,tv,⟨tv,dT _⟩,tv⟩,⟨⟨tv,tv⟩,⟨⟨(lz rfl),tv⟩,tv⟩,tv⟩,tv⟩,(zA ⟨(lz rfl),⟨tv,dE _⟩,(lz rfl),tv,tv⟩ (fMa (lz rfl) (zA ⟨tv,tv,tv⟩ zB))),tv,(zA ⟨(lz rfl),dE _,(lz rfl),tv,tv⟩ (fMf (lz rfl) (zA ⟨tv,tv,tv⟩ zB)))⟩
theorem tN:Qf 151 Tryz.f151:=⟨Tryz.func151,rfl⟩
theorem tO{q0 q1 q2 q3 q4 q5 q6 q7 q8 p1 p2 r}(h:X2 q0 q1 q2 q3 q4 q5 q6 q7 q8 p1 p2 r Ci):X2 q0 q1 q2 q3 q4 q5 q6 q7 q8 p1 p2 r Ct:=⟨h,⟨(lz rfl),⟨tv,tv,⟨tv,dT _⟩,tv⟩,⟨tv,tv,⟨tv,dT _⟩,tv⟩,tv⟩,(zA ⟨(lz rfl),⟨tv,dE _⟩,(lz rfl),tv,tv⟩ (fMa (lz rfl) (zA ⟨tv,tv,tv⟩ zB))),tv,(zA ⟨(lz rfl),dE _,(lz rfl),tv,tv⟩ (fMf (lz rfl) (zA ⟨tv,tv,tv⟩ zB)))⟩
theorem vN:∀qq:Nat,(∀ {q0 q1 q2 q3 q4 q5 q6 q7 q8 p1 p2 r},vH qq q0 q1 q2 q3 q4 q5 q6 q7 q8 p1 p2=some r->O5 q0 q1 q2 q3 q4 q5 q6 q7 q8 p1 p2 r Ct)∧(∀ {q0 q1 q2 q3 q4 q5 q6 q7 q8 p1 p2 r},gX qq q0 q1 q2 q3 q4 q5 q6 q7 q8 p1 p2=some r->X1 q0 q1 q2 q3 q4 q5 q6 q7 q8 p1 p2 r Ct)∧(∀ {q0 q1 q2 q3 q4 q5 q6 q7 q8 p1 p2 p3 p4 r},nN qq q0 q1 q2 q3 q4 q5 q6 q7 q8 p1 p2 p3 p4=some r->zOy q0 q1 q2 q3 q4 q5 q6 q7 q8 p1 p2 p3 p4 r Ct)∧(∀ {q0 q1 q2 q3 q4 q5 p1 p2 p3 p4 x3 v28 vV xP wI r},uM qq q0 q1 q2 q3 q4 q5 p1 p2 p3 p4 x3 v28 vV xP wI=some r->(∀j,dL 4 (pt 949 Tryz.f150) (sp j 47 0 [(0,.mp 0 0),(3,ai p3),(4,slv zG p4 .no),(6,.mp 4 0),(7,.mp 5 0),(27,ai (x3.fields.length:Int)),(28,ai v28)]) (⟨[(0,.cells [.mp 1 0,slv yP q5 .no,.mp 3 0,ai vV]),(1,qB q0 2 q3 q4),(2,qR q1 q2),(3,.cells [ai xP,ai wI]),(4,.cells [ai p1.k,ai p1.n,slv zG p1.sub .no]),(5,.cells [ai p2.k,ai p2.n,slv zG p2.sub .no])],6,[],0,[]⟩) (fQ 4 (nQ 4 Tryz.f150 (ab r.1) [.cells [.mp 1 0,slv yP q5 .no,.mp 3 0,ai r.2.1],qB q0 2 q3 q4,qR q1 q2,.cells [ai r.2.2.1,ai r.2.2.2]] 0) [.blk 0,.seq (pt 15 Tryz.f150)])))∧(∀ {q0 q1 q2 q3 q4 q5 q6 q7 q8 p1 p2 r},gY qq q0 q1 q2 q3 q4 q5 q6 q7 q8 p1 p2=some r->X2 q0 q1 q2 q3 q4 q5 q6 q7 q8 p1 p2 r Ct)∧(∀ {q0 q1 q2 q3 q4 q5 r1 r3 v89 vV xP wI r},xY qq q0 q1 q2 q3 q4 q5 r1 r3 v89 vV xP wI=some r->(∀j,dL 4 (pt 262069 Tryz.f151) (sp j 104 0 [(0,.mp 0 0),(8,slv zG r1.2 .no),(10,slv zG r3.2 .no),(88,ai (r1.2.length:Int)),(89,ai v89)]) (⟨[(0,.cells [.mp 1 0,slv yP q5 .no,.mp 3 0,ai vV]),(1,qB q0 2 q3 q4),(2,qR q1 q2),(3,.cells [ai xP,ai wI])],4,[],0,[]⟩) (fQ 4 (nQ 4 Tryz.f151 (ab r.1) [.cells [.mp 1 0,slv yP q5 .no,.mp 3 0,ai r.2.1],qB q0 2 q3 q4,qR q1 q2,.cells [ai r.2.2.1,ai r.2.2.2]] 0) [.blk 0,.seq (pt 4095 Tryz.f151)]))):=by
 intro qq
 induction qq with
 |zero=>
  exact⟨fun h=>nn h,fun h=>nn h,fun h=>nn h,fun h=>nn h,fun h=>nn h,fun h=>nn h⟩
 |succ qq ih=>
  obtain⟨vF,zKg,F9,B9,zKf,qI⟩:=ih
  refine⟨?_,?_,?_,?_,?_,?_⟩
  intro q0 q1 q2 q3 q4 q5 q6 q7 q8 p1 p2 r h
  rw[vH]at h
  obtain⟨r1,h2,h⟩:=zC h
  have k:=oC 2 [0,1,2,3] (zXl h2) o0
  obtain⟨h3,h⟩|⟨h3,h⟩:=spl h
  obtain⟨r4,h5,h⟩:=zC h
  cases h
  exact zIz (tF zHZ 0 [0,1,2,3] (oDm q0 q1 q2 q3 q4<|oD (dE q5)<|oC 4 [0,1,2,3] (zKg h5)<|oB 2 h3 k))
  cases h
  exact zIz (tF zHZ 2 [0,1,2,3] (oDm q0 q1 q2 q3 q4<|oD (dE q5)<|oB 2 h3 k))
  intro q0 q1 q2 q3 q4 q5 q6 q7 q8 p1 p2 r h
  rw[gX]at h
  have z {os ob} (k:Oz os ob):=oDm q0 q1 q2 q3 q4<|oD (dE q5)<|k
  obtain⟨h1,h⟩|⟨h1,h⟩:=spl h
  obtain⟨r2,h3,h⟩:=zC h
  obtain⟨r4,h5,h⟩:=zC h
  obtain⟨r6,h7,h⟩:=zC h
  cases h
  exact sL (tF sK 0 [0,1,2,3] (z<|oC 0 [0,1,2,3] (vF h7)<|oC 1 [0,1,2,3] (zQV h5)<|oC 1 [0,1,2,3] (zQV h3)<|oB 1 h1 o0))
  have k:=oB 1 h1 o0
  obtain⟨h8,h⟩|⟨h8,h⟩:=spl h
  obtain⟨r9,h10,h⟩:=zC h
  obtain⟨r11,h12,h⟩:=zC h
  obtain⟨r13,h14,h⟩:=zC h
  cases h
  exact sL (tF sK 0 [0,1,2,3] (z<|oC 0 [0,1,2,3] (vF h14)<|oC 1 [0,1,2,3] (zQV h12)<|oC 1 [0,1,2,3] (zQV h10)<|oB 1 h8 k))
  obtain⟨r15,h16,h⟩:=zC h
  have k:=oC 1 [0,1,2,3] (zQW h16)<|oB 1 h8 k
  obtain⟨h17,h⟩|⟨h17,h⟩:=spl h
  obtain⟨r18,h19,h⟩:=zC h
  have k:=oC 1 [0,1,2,3] (zQW h19)<|oB 2 h17 k
  obtain⟨h20,h⟩|⟨h20,h⟩:=spl h
  have k:=oB 2 h20 k
  obtain⟨h21,h⟩|⟨h21,h⟩:=spl h
  cases h
  exact sL (tF sK 0 [0,1,2,3] (z<|oB 0 h21 k))
  obtain⟨x22,h23,h⟩:=zC h
  obtain⟨x24,h25,h⟩:=zC h
  obtain⟨r26,h27,h⟩:=zC h
  cases h
  exact sL (tF sK 0 [0,1,2,3] (z<|oC 0 [0,1,2,3] (F9 h27)<|oA 1 (nB h25)<|oA 3 (xL (o:=.no) h23)<|oB 0 h21 k))
  obtain⟨x28,h29,h⟩:=zC h
  obtain⟨x30,h31,h⟩:=zC h
  obtain⟨r32,h33,h⟩:=zC h
  cases h
  exact sL (tF sK 0 [0,1,2,3] (z<|oC 0 [0,1,2,3] (F9 h33)<|oA 1 (nB h31)<|oA 3 (xL (o:=.no) h29)<|oB 2 h20 k))
  obtain⟨r34,h35,h⟩:=zC h
  have k:=oC 1 [0,1,2,3] (zQW h35)<|oB 2 h17 k
  obtain⟨h36,h⟩|⟨h36,h⟩:=spl h
  obtain⟨x37,h38,h⟩:=zC h
  obtain⟨x39,h40,h⟩:=zC h
  obtain⟨r41,h42,h⟩:=zC h
  cases h
  exact sL (tF sK 0 [0,1,2,3] (z<|oC 0 [0,1,2,3] (F9 h42)<|oA 1 (nB h40)<|oA 3 (xL (o:=.no) h38)<|oB 2 h36 k))
  have k:=oB 2 h36 k
  obtain⟨h43,h⟩|⟨h43,h⟩:=spl h
  cases h
  exact sL (tF sK 0 [0,1,2,3] (z<|oB 2 h43 k))
  have k:=oB 2 h43 k
  obtain⟨h44,h⟩|⟨h44,h⟩:=spl h
  obtain⟨x45,h46,h⟩:=zC h
  obtain⟨x47,h48,h⟩:=zC h
  obtain⟨r49,h50,h⟩:=zC h
  have k:=oA 2 (xB (o:=.no) h48)<|oA 1 (xB (o:=.no) h46)<|oB 1 h44 k
  obtain⟨h51,h⟩|⟨h51,h⟩:=spl h
  obtain⟨x52,h53,h⟩:=zC h
  obtain⟨x54,h55,h⟩:=zC h
  obtain⟨r56,h57,h⟩:=zC h
  cases h
  exact sL (tF sK 0 [0,1,2,3] (z<|oC 1 [0,1,2,3] (vF h57)<|oA 2 (xB (o:=.no) h55)<|oA 2 (xB (o:=.no) h53)<|oK 1 [0,1,2,3] h51 (vF h50) k))
  cases h
  exact sL (tF sK 0 [0,1,2,3] (z<|oK 1 [0,1,2,3] h51 (vF h50) k))
  have k:=oB 1 h44 k
  obtain⟨h58,h⟩|⟨h58,h⟩:=spl h
  obtain⟨r59,h60,h⟩:=zC h
  cases h
  exact sL (tF sK 0 [0,1,2,3] (z<|oC 3 [] (zXk h60)<|oB 1 h58 k))
  obtain⟨r61,h62,h⟩:=zC h
  cases h
  exact sL (tF sK 0 [0,1,2,3] (z<|oC 2 [0,1,2,3] (zKf h62)<|oB 1 h58 k))
  intro q0 q1 q2 q3 q4 q5 q6 q7 q8 p1 p2 p3 p4 r h
  rw[nN]at h
  obtain⟨x1,h2,h⟩:=zC h
  obtain⟨x3,h4,h⟩:=zC h
  exact⟨tH ⟨Tryz.func150,rfl⟩ 2 [] [0,1,2,3,4,5] [] [0,3,4,6,7,27,28] (oD (dT p4)<|oD (dT p2.sub)<|oD (dT p1.sub)<|oDm q0 q1 q2 q3 q4<|oD (dE q5)<|oA 1 (xL (o:=.no) h4)<|oA 2 (xL (o:=.no) h2) o0) (B9 h),⟨(lz rfl),⟨tv,tv,⟨tv,dT _⟩,tv⟩,⟨tv,tv,⟨tv,dT _⟩,tv⟩,tv,⟨tv,dT _⟩,tv⟩,(zA ⟨(lz rfl),⟨tv,dE _⟩,(lz rfl),tv,tv⟩ (fMa (lz rfl) (zA ⟨tv,tv,tv⟩ zB))),tv,(zA ⟨(lz rfl),dE _,(lz rfl),tv,tv⟩ (fMf (lz rfl) (zA ⟨tv,tv,tv⟩ zB)))⟩
  intro q0 q1 q2 q3 q4 q5 p1 p2 p3 p4 x3 v28 vV xP wI r h
  rw[uM]at h
  have z {os ob} (k:Oz os ob):=oDm q0 q1 q2 q3 q4<|oD (dE q5)<|k
  obtain⟨h5,h⟩|⟨h5,h⟩:=spl h
  obtain⟨r6,h7,h⟩:=zC h
  obtain⟨r8,h9,h⟩:=zC h
  obtain⟨r10,h11,h⟩:=zC h
  have k:=oC 1 [0,1,2,3] (zVS h9)<|oC 1 [0,1,2,3] (zVS h7)<|oB 0 h5 o0
  obtain⟨h12,h⟩|⟨h12,h⟩:=spl h
  exact fun j=>lH 2 [] [0,1,2,3,4,5] [] [0,3,4,6,7,27,28] (oD (dT p4)<|oD (dT p2.sub)<|oD (dT p1.sub)<|z<|oK 0 [0,1,2,3] h12 (vF h11) k) (B9 h)
  cases h
  exact fun j=>lF 1 [0,1,2,3] (z<|oK 0 [0,1,2,3] h12 (vF h11) k)
  cases h
  exact fun j=>lF 0 [0,1,2,3] (z<|oB 0 h5 o0)
  intro q0 q1 q2 q3 q4 q5 q6 q7 q8 p1 p2 r h
  rw[gY]at h
  have z {os ob} (k:Oz os ob):=oDm q0 q1 q2 q3 q4<|oD (dE q5)<|k
  obtain⟨r1,h2,h⟩:=zC h
  obtain⟨r3,h4,h⟩:=zC h
  have k:=oC 4 [] (zDx h4)<|oC 1 [] (zDx h2) o0
  obtain⟨h5,h⟩|⟨h5,h⟩:=spl h
  cases h
  exact tO (tF tN 0 [0,1,2,3] (z<|oB 5 h5 k))
  have k:=oB 5 h5 k
  obtain⟨h6,h⟩|⟨h6,h⟩:=spl h
  cases h
  exact tO (tF tN 0 [0,1,2,3] (z<|oB 2 h6 k))
  have k:=oB 2 h6 k
  obtain⟨h7,h⟩|⟨h7,h⟩:=spl h
  cases h
  exact tO (tF tN 0 [0,1,2,3] (z<|oB 2 h7 k))
  have k:=oB 2 h7 k
  obtain⟨h8,h⟩|⟨h8,h⟩:=spl h
  obtain⟨x9,h10,h⟩:=zC h
  obtain⟨x11,h12,h⟩:=zC h
  have k:=oA 2 (xB (o:=.no) h12)<|oA 1 (xB (o:=.no) h10)<|oB 1 h8 k
  obtain⟨h13,h⟩|⟨h13,h⟩:=spl h
  cases h
  exact tO (tF tN 0 [0,1,2,3] (z<|oB 1 h13 k))
  have k:=oB 1 h13 k
  obtain⟨h14,h⟩|⟨h14,h⟩:=spl h
  obtain⟨r15,h16,h⟩:=zC h
  have k:=oA 2 (xB (o:=.no) h12)<|oA 1 (xB (o:=.no) h10)<|oB 1 h14 k
  obtain⟨h17,h⟩|⟨h17,h⟩:=spl h
  obtain⟨x18,h19,h⟩:=zC h
  obtain⟨x20,h21,h⟩:=zC h
  obtain⟨r22,h23,h⟩:=zC h
  have k:=oA 2 (xB (o:=.no) h21)<|oA 1 (xB (o:=.no) h19)<|oK 1 [0,1,2,3] h17 (vF h16) k
  obtain⟨h24,h⟩|⟨h24,h⟩:=spl h
  exact tO (tH tN 2 [] [0,1,2,3] [] [0,8,10,88,89] (oD (dT r3.2)<|oD (dT r1.2)<|z<|oK 1 [0,1,2,3] h24 (vF h23) k) (qI h))
  cases h
  exact tO (tF tN 1 [0,1,2,3] (z<|oK 1 [0,1,2,3] h24 (vF h23) k))
  cases h
  exact tO (tF tN 1 [0,1,2,3] (z<|oK 1 [0,1,2,3] h17 (vF h16) k))
  exact tO (tH tN 1 [] [0,1,2,3] [] [0,8,10,88,89] (oD (dT r3.2)<|oD (dT r1.2)<|z<|oB 1 h14 k) (qI h))
  have k:=oB 1 h8 k
  obtain⟨h25,h⟩|⟨h25,h⟩:=spl h
  obtain⟨x26,h27,h⟩:=zC h
  obtain⟨x28,h29,h⟩:=zC h
  obtain⟨r30,h31,h⟩:=zC h
  have k:=oA 2 (xB (o:=.no) h29)<|oA 1 (xB (o:=.no) h27)<|oB 1 h25 k
  obtain⟨h32,h⟩|⟨h32,h⟩:=spl h
  obtain⟨x33,h34,h⟩:=zC h
  obtain⟨x35,h36,h⟩:=zC h
  obtain⟨r37,h38,h⟩:=zC h
  have k:=oA 2 (xB (o:=.no) h36)<|oA 1 (xB (o:=.no) h34)<|oK 1 [0,1,2,3] h32 (vF h31) k
  obtain⟨h39,h⟩|⟨h39,h⟩:=spl h
  exact tO (tH tN 2 [] [0,1,2,3] [] [0,8,10,88,89] (oD (dT r3.2)<|oD (dT r1.2)<|z<|oK 1 [0,1,2,3] h39 (vF h38) k) (qI h))
  cases h
  exact tO (tF tN 1 [0,1,2,3] (z<|oK 1 [0,1,2,3] h39 (vF h38) k))
  cases h
  exact tO (tF tN 1 [0,1,2,3] (z<|oK 1 [0,1,2,3] h32 (vF h31) k))
  exact tO (tH tN 1 [] [0,1,2,3] [] [0,8,10,88,89] (oD (dT r3.2)<|oD (dT r1.2)<|z<|oB 1 h25 k) (qI h))
  intro q0 q1 q2 q3 q4 q5 r1 r3 v89 vV xP wI r h
  rw[xY]at h
  have z {os ob} (k:Oz os ob):=oDm q0 q1 q2 q3 q4<|oD (dE q5)<|k
  obtain⟨h25,h⟩|⟨h25,h⟩:=spl h
  obtain⟨x26,h27,h⟩:=zC h
  obtain⟨x28,h29,h⟩:=zC h
  obtain⟨r30,h31,h⟩:=zC h
  have k:=oA 1 (xB (o:=.no) h29)<|oA 0 (xB (o:=.no) h27)<|oB 0 h25 o0
  obtain⟨h32,h⟩|⟨h32,h⟩:=spl h
  exact fun j=>lH 2 [] [0,1,2,3] [] [0,8,10,88,89] (oD (dT r3.2)<|oD (dT r1.2)<|z<|oK 1 [0,1,2,3] h32 (vF h31) k) (qI h)
  cases h
  exact fun j=>lF 1 [0,1,2,3] (z<|oK 1 [0,1,2,3] h32 (vF h31) k)
  cases h
  exact fun j=>lF 0 [0,1,2,3] (z<|oB 0 h25 o0)
theorem zQY{qq q0 q1 q2 q3 q4 q5 q6 q7 q8 p1 p2 r}(h:vH qq q0 q1 q2 q3 q4 q5 q6 q7 q8 p1 p2=some r):O5 q0 q1 q2 q3 q4 q5 q6 q7 q8 p1 p2 r Ct:=(vN _).1 h
def zEl(r:Bool×Int×Int×Int):Int:=if r.1=true then 9 else r.2.1
theorem zBI{r:Bool×Int×Int×Int}(h:zEl r=8):r.1=false∧r.2.1=8:=by
 unfold zEl at h
 split at h
 ·omega
 ·rename_i h1;exact⟨by simpa using h1,h⟩
open Classical in
noncomputable def zGk(l:List Ent)(L U e:Int)(x y:Tm):Bool×Int×Int×Int:=
 if e≠0 then(false,e,L,U)else
  if h:∃p:Bool×Int,Cv l true x y p.1 p.2 then(if (Classical.choose h).2≤L then((Classical.choose h).1,0,L-(Classical.choose h).2,U+(Classical.choose h).2)else(false,8,L,U))else(false,2,L,U)
noncomputable def X3(l:List Ent)(m:Bool)(L U e:Int)(q:Nat)(x y:Tm):Option (Bool×Int×Int×Int):=match m with
 |false=>vH q l l (evA l l.length 0) (l.map xS) (l.map sD) l L U e x y
 |true=>some (zGk l L U e x y)
def zQZ(l:List Ent)(_m:Bool)(L U e:Int)(q:Nat)(x y:Tm):Option (Bool×Int×Int×Int):=gX q l l (evA l l.length 0) (l.map xS) (l.map sD) l L U e x y
def QX(X:Bool->Int->Prop)(R:Int->Int->Bool×Int×Int×Int)(k:Int):Prop:=∃b e,e≠8∧(e=0->X b k)∧(e≠0->b=false∧∀b k,¬X b k)∧R=fun L U=>(b,e,L,U)
def HX(g:Int->Int->Nat->Option (Bool×Int×Int×Int))(X:Bool->Int->Prop)(f:Int):Prop:=Ou g zEl (QX X) (∀b k,X b k->f<k) f
def HC(l:List Ent)(m:Bool)(x y:Tm)(f:Int):Prop:=HX (fun L U q=>X3 l m L U 0 q x y) (Cv l m x y) f
theorem jY{X:Bool->Int->Prop}{e k:Int}(h8:e≠8)(h0:e≠0)(h:∀b k,¬X b k):QX X (fun L U=>(false,e,L,U)) k:=⟨false,e,h8,fun h=>absurd h h0,fun _=>⟨rfl,h⟩,rfl⟩
theorem X4{X:Bool->Int->Prop}{b:Bool}{k:Int}(h:X b k):QX X (fun L U=>(b,0,L,U)) k:=⟨b,0,by decide,fun _=>h,fun h=>absurd rfl h,rfl⟩
theorem zOx(l:List Ent)(x y:Tm)(f:Int)(hf:0≤f):HC l true x y f:=by
 have e:∀L U,Evt (fun q=>X3 l true L U 0 q x y) (zGk l L U 0 x y):=fun L U=>Evt.ret
 by_cases h:∃p:Bool×Int,Cv l true x y p.1 p.2
 ·have hc:=Classical.choose_spec h
  have o:∀L U,zGk l L U 0 x y=if (Classical.choose h).2≤L then((Classical.choose h).1,0,L-(Classical.choose h).2,U+(Classical.choose h).2)else(false,8,L,U):=fun L U=>by
   unfold zGk;rw[if_neg (by simp),dif_pos h]
  by_cases hk:(Classical.choose h).2≤f
  ·refine .inl ⟨fun L U=>((Classical.choose h).1,0,L,U),(Classical.choose h).2,Cv.nn hc,hk,X4 hc,fun L U a _ _=>(e L U).eq (by rw[o,if_pos a]),fun L U _ a _ _=>⟨_,e L U,?_⟩⟩
   rw[o,if_neg (by omega)];rfl
  ·refine .inr ⟨fun U _ _=>⟨_,e f U,?_⟩,fun b k hb=>?_⟩
   ·rw[o,if_neg hk];rfl
   ·have:=(hc.det hb).2;omega
 ·refine .inl ⟨fun L U=>(false,2,L,U),0,Int.le_refl _,hf,jY (by decide) (by decide) fun b k hb=>h ⟨(b,k),hb⟩,fun L U a _ _=>(e L U).eq ?_,fun L U a b _ _=>absurd a (by omega)⟩
  unfold zGk
  rw[if_neg (by simp),dif_neg h]
  simp
theorem zEk(l:List Ent)(m:Bool)(x y:Tm)(e:Int)(he:e≠0)(L U:Int):Evt (fun q=>X3 l m L U e q x y) (false,e,L,U):=by
 have hp:Evt (fun q=>zGo q (yY.mk l l (evA l l.length 0) (l.map xS) (l.map sD)) l L U e x y) (x,y,false,e,L,U):=by
  simp only[zGo]
  exact Evt.ifT (by simpa using he) Evt.ret
 cases m with
 |false=>
  refine Evt.succ ?_
  simp only[X3,vH]
  exact hp.bind (Evt.ifF rfl Evt.ret)
 |true=>
  simp only[X3,zGk]
  rw[if_pos he];exact Evt.ret
theorem uI.one{C:Tm->Tm->Bool->Int->Prop}{p:PE}{b:Bool}{k:Int}:uI C [p] b k↔p.1.2=0∧p.2.2=0∧C p.1.1 p.2.1 b k:=by
 constructor
 ·rintro ⟨h1,h2,b1,k1,h3,⟨rfl,rfl,rfl⟩|⟨rfl,k2,⟨rfl,rfl⟩,rfl⟩⟩
  ·exact⟨h1,h2,h3⟩
  ·exact⟨h1,h2,by rwa[Int.add_zero]⟩
 ·rintro ⟨h1,h2,h3⟩
  refine⟨h1,h2,b,k,h3,?_⟩
  cases b with
  |false=>exact .inl ⟨rfl,rfl,rfl⟩
  |true=>exact .inr ⟨rfl,0,⟨rfl,rfl⟩,by omega⟩
theorem C0{l:List Ent}{p:PE}{r:List PE}{f:Int}{g:Int->Int->Nat->Option (Bool×Int×Int×Int)}{c:Int->Int->Int->Nat->Option (Bool×Int×Int×Int)}
  (h1:HX g (uI (Cv l false) [p]) f) (hc:∀k,0≤k->k≤f->HX (fun L U q=>c 0 L U q) (uI (Cv l false) r) (f-k)) :
  HX (fun L U q=>g L U q>>=fun r30=>if r30.1=true then c r30.2.1 r30.2.2.1 r30.2.2.2 q else some (false,r30.2.1,r30.2.2.1,r30.2.2.2)) (uI (Cv l false) (p::r)) f:=by
 refine Ou.bind h1 (fun h b k ha=>?_) (fun r hr=>?_) ?_
 ·obtain⟨a1,a2,b1,k1,a3,a4⟩:=ha
  have:=h b1 k1 (uI.one.2 ⟨a1,a2,a3⟩)
  rcases a4 with⟨-,-,a4⟩|⟨-,k2,a4,a5⟩
  ·omega
  ·have:=uI.nn (fun _ _ _ _ h=>Cv.nn h) a4;omega
 ·have:=zBI hr
  refine⟨_,Evt.ifF this.1 Evt.ret,?_⟩
  unfold zEl
  rw[if_neg (by simp)];exact this.2
 ·rintro R k k0 k1 ⟨b1,e1,h8,h0,hn,rfl⟩
  dsimp only
  by_cases e0:e1=0
  ·subst e0
   obtain⟨a1,a2,a3⟩:=uI.one.1 (h0 rfl)
   cases b1 with
   |false=>exact Ou.ifF rfl (Ou.ret (by omega) (X4 ⟨a1,a2,false,k,a3,.inl ⟨rfl,rfl,by omega⟩⟩))
   |true=>
    refine Ou.ifT rfl ((hc k k0 k1).mono ?_ fun h b k' ha=>?_)
    ·rintro R n _ _ ⟨b,e,g8,g0,gn,rfl⟩
     refine⟨b,e,g8,fun he=>⟨a1,a2,true,k,a3,.inr ⟨rfl,n,g0 he,rfl⟩⟩,fun he=>⟨(gn he).1,fun b' k' ha=>?_⟩,rfl⟩
     obtain⟨-,-,b1,k1,a4,a5⟩:=ha
     obtain⟨rfl,rfl⟩:=a3.det a4
     rcases a5 with⟨a5,-⟩|⟨-,k2,a5,-⟩
     ·cases a5
     ·exact(gn he).2 _ _ a5
    ·obtain⟨-,-,b1,k1,a4,a5⟩:=ha
     obtain⟨rfl,rfl⟩:=a3.det a4
     rcases a5 with⟨a5,-⟩|⟨-,k2,a5,a6⟩
     ·cases a5
     ·have:=h _ _ a5;omega
  ·obtain⟨rfl,hno⟩:=hn e0
   refine Ou.ifF rfl (Ou.ret (by omega) (jY h8 e0 fun b k ha=>?_))
   obtain⟨a1,a2,b1,k1,a3,-⟩:=ha
   exact hno b1 k1 (uI.one.2 ⟨a1,a2,a3⟩)
theorem zIy{l:List Ent}{p q:Tm×Int}{f:Int}(hf:0≤f)(h8:p.2≠8∧q.2≠8)(h:p.2=0->q.2=0->HC l false p.1 q.1 f):HX (fun L U n=>X3 l false L U (if p.2=0 then q.2 else p.2) n p.1 q.1) (uI (Cv l false) [(p,q)]) f:=by
 by_cases h1:p.2=0
 ·rw[if_pos h1]
  by_cases h2:q.2=0
  ·rw[h2]
   refine(h h1 h2).mono ?_ fun hs b k ha=>hs b k (uI.one.1 ha).2.2
   rintro R n _ _ ⟨b,e,g8,g0,gn,rfl⟩
   exact⟨b,e,g8,fun he=>uI.one.2 ⟨h1,h2,g0 he⟩,fun he=>⟨(gn he).1,fun b k ha=>(gn he).2 b k (uI.one.1 ha).2.2⟩,rfl⟩
  ·exact Ou.evt0 (fun L U=>zEk l false p.1 q.1 q.2 h2 L U) hf (jY h8.2 h2 fun b k ha=>h2 (uI.one.1 ha).2.1)
 ·rw[if_neg h1]
  exact Ou.evt0 (fun L U=>zEk l false p.1 q.1 p.2 h1 L U) hf (jY h8.1 h1 fun b k ha=>h1 (uI.one.1 ha).1)
theorem G3{l:List Ent}{a b:Tm}{f:Int}(h:HC l false a b f):HX (fun L U n=>X3 l false L U 0 n a b) (uI (Cv l false) [((a,0),(b,0))]) f:=by
 refine h.mono ?_ fun hs b k ha=>hs b k (uI.one.1 ha).2.2
 rintro R n _ _ ⟨b,e,g8,g0,gn,rfl⟩
 exact⟨b,e,g8,fun he=>uI.one.2 ⟨rfl,rfl,g0 he⟩,fun he=>⟨(gn he).1,fun b k ha=>(gn he).2 b k (uI.one.1 ha).2.2⟩,rfl⟩
theorem zIx{l:List Ent}{f:Int}(hf:0≤f):HX (fun L U _=>some (true,0,L,U)) (uI (Cv l false) []) f:=Ou.ret hf (X4 ⟨rfl,rfl⟩)
theorem zIw(t:Tm):(qW t).2≠8:=by
 unfold qW
 split
 ·simp
 ·dsimp only
  split
  ·split<;>simp
  ·exact U4 t 1 0
theorem zIv{t:Tm}(hs:zL t=true):(qW t).1.Ok:=by
 unfold qW
 split
 ·rename_i h
  obtain⟨a,b,hab,-,hb⟩:=qE (zQ hs).2.2 (.inr (.inl h))
  rw[hab];exact rD b hb
 ·exact gI (lK t 1 0 (zV hs)) (xK _ _)
theorem zVT{t:Tm}(h:t.k=4):qW t=(nth t.sub 1,0):=if_pos h
theorem zVU{t:Tm}(h:t.k≠4):qW t=(.mk 5 0 [(vU t 1 0).1,.mk 1 0 []],if (vU t 1 0).2=0 then(if zL (.mk 5 0 [(vU t 1 0).1,.mk 1 0 []])=true then 0 else 2)else(vU t 1 0).2):=if_neg h
theorem zAz(M:yY)(l:List Ent)(t:Tm)(hs:zL t=true)(L U e:Int):Evt (fun q=>u5 q M l L U e t) ((qW t).1,if e=0 then(qW t).2 else e):=by
 simp only[u5]
 by_cases h4:t.k=4
 ·obtain⟨a,b,hab,-,-⟩:=qE (zQ hs).2.2 (.inr (.inl h4))
  refine Evt.ifT (by simp[h4]) (Evt.pure (uL (by omega) (by rw[hab];simp)) (Evt.ret.eq ?_))
  rw[zVT h4]
  by_cases he:e=0
  ·simp[he]
  ·simp[he]
 ·rw[zVU h4]
  refine Evt.ifF (by simp[h4]) ((zHg t 1 (zV hs)).bind ((E6 0).bind ((E4 _ _).bind ?_)))
  dsimp only
  by_cases h1:(vU t 1 0).2=0
  ·refine Evt.ifT (by simp[h1]) ((yO _ (gI (lK t 1 0 (zV hs)) (xK _ _))).bind ?_)
   by_cases h2:zL (.mk 5 0 [(vU t 1 0).1,.mk 1 0 []])=true
   ·refine Evt.ifT h2 ?_
    by_cases he:e=0
    ·exact Evt.ifT (by simp[he]) (Evt.ret.eq (by simp[h1,h2,he]))
    ·exact Evt.ifF (by simp[he]) (Evt.ret.eq (by simp[he]))
   ·refine Evt.ifF (by simpa using h2) ?_
    by_cases he:e=0
    ·exact Evt.ifT (by simp[he]) (Evt.ret.eq (by simp[h1,h2,he]))
    ·exact Evt.ifF (by simp[he]) (Evt.ret.eq (by simp[he]))
  ·refine Evt.ifF (by simp[h1]) ?_
   by_cases he:e=0
   ·exact Evt.ifT (by simp[he]) (Evt.ret.eq (by simp[h1,he]))
   ·exact Evt.ifF (by simp[he]) (Evt.ret.eq (by simp[he]))
def L8(l:List Ent)(t:Tm):Int×List Tm×Bool:=if tW l t then((hdT t).n,arT t,true)else(0,[],false)
theorem zTB(l:List Ent)(t:Tm)(hs:zL t=true):Evt (fun q=>V7 q (xH l) t) (jN l t):=by
 simp only[V7]
 refine(yO t (zV hs)).bind (Evt.ifT hs (((sR t (zV hs)).eq (by unfold nE;rw[if_pos hs])).bind ((N9 l t hs).bind Evt.ret)))
theorem eD{N:ByteArray->Bool}(l:List Ent)(hE:wS N l)(t:Tm)(hs:zL t=true)(L U e:Int):Evt (fun q=>zEm q (xH l) l L U e t) (L8 l t):=by
 simp only[zEm]
 refine(zTB l t hs).bind ?_
 by_cases h:vW l t
 ·have hcs:=vL hs h
  obtain⟨A,z,a1,-,-,a4,a5,a6,a7,f0,f1,-⟩:=vY hE hcs.1 hcs.2.1 hcs.2.2.1
  have c:jN l t=((hdT t).n,arT t,true):=if_pos h
  rw[c]
  refine Evt.ifT rfl (Evt.pure (yL hcs.1 hcs.2.1) (Evt.pure (yL f0 (show (ent l (hdT t).n).fam<_ by omega)) ?_))
  by_cases h2:wL l (hdT t).n=[]
  ·have r:L8 l t=(0,[],false):=if_neg (fun h=>h.2 h2)
   rw[r]
   have h3:(ent l (ent l (hdT t).n).fam).fields=[]:=h2
   exact Evt.ifT (by rw[h3];rfl) Evt.ret
  ·have r:L8 l t=((hdT t).n,arT t,true):=if_pos ⟨h,h2⟩
   rw[r]
   have h3:(ent l (ent l (hdT t).n).fam).fields≠[]:=h2
   have:=List.length_pos_iff.2 h3
   exact Evt.ifF (by simp;omega) Evt.ret
 ·have c:jN l t=(0,[],false):=if_neg h
  have r:L8 l t=(0,[],false):=if_neg (fun h'=>h h'.1)
  rw[c,r]
  exact Evt.ifF rfl Evt.ret
theorem lW{N:ByteArray->Bool}{l:List Ent}{c:Int}(hE:wS N l)(h0:0≤c)(h1:c<l.length)(hk:(ent l c).kind=2)(hf:wL l c≠[]) :
  (uW (ent l c).type:Int)=(ent l c).pars+(wL l c).length∧0≤(ent l c).pars∧0≤(ent l c).fam∧(ent l c).fam<l.length∧∀n∈wL l c,isT l n 4=true:=by
 obtain⟨A,z,a1,-,-,a4,a5,a6,a7,f0,f1,fk,fp,fi,fs,-,q0,q1⟩:=vY hE h0 h1 hk
 have hft:=(yV (hE.2 _ f0 (by omega))).2.1 fk
 have hcn:=(yV (hE.2 c h0 h1)).2.2.1 hk
 unfold pW at hft
 simp only[Bool.and_eq_true,Bool.or_eq_true,decide_eq_true_eq]at hft
 have hne:(ent l (ent l c).fam).fields.length≠0:=fun h=>hf (List.length_eq_zero_iff.1 h)
 have hD:=hft.2.resolve_left hne
 have hC:=hft.1.2
 unfold zSH at hD
 unfold zDl at hC
 simp only[Bool.and_eq_true,beq_iff_eq,decide_eq_true_eq]at hD hC
 obtain⟨⟨⟨⟨⟨d1,d2⟩,d3⟩,d4⟩,d5⟩,d6⟩:=hD
 unfold zFM nI zMI at hcn
 simp only[Bool.and_eq_true,decide_eq_true_eq,beq_iff_eq]at hcn
 have hown:U3 l (ent l c)=(ent l (ent l c).fam).cons:=by unfold U3;rw[if_neg (by omega)]
 have hpl:=hcn.1.2
 rw[hown]at hpl
 obtain⟨w,hw⟩:∃w,(ent l (ent l c).fam).cons=[w]:=by
  rcases hc:(ent l (ent l c).fam).cons with _|⟨w,_|⟨v,r⟩⟩<;>rw[hc]at d2<;>simp at d2
  exact⟨w,rfl⟩
 rw[hw]at hC hpl
 have hwc:w=c:=by
  have h3:=hpl.2
  have h4:(ent l c).place.toNat=0:=by have:=hpl.1.2;simp at this;omega
  rw[h4]at h3
  simpa using h3
 have hrun:=hC.1.2
 rw[w8]at hrun
 simp only[Bool.and_eq_true,beq_iff_eq]at hrun
 have hc1:c=(ent l c).fam+1:=by omega
 rw[←hc1,a1]at d6
 refine⟨?_,a6,f0,by omega,?_⟩
 ·rw[←a4,fp];exact d6
 ·have key:∀(r:List Int) (k:Int),U1 l (ent l c).fam 4 r k=true->∀n∈r,isT l n 4=true:=by
   intro r
   induction r with
   |nil=>intro k _ n hn;cases hn
   |cons a r ih=>
    intro k h n hn
    rw[U1]at h
    simp only[Bool.and_eq_true]at h
    rcases List.mem_cons.1 hn with rfl|hn
    ·exact h.1.1.1
    ·exact ih _ h.2 n hn
  exact key _ 0 d4
theorem zRz{l:List Ent}{c:Int}{i:Nat}(h:i<(wL l c).length):zS (ent l (ent l c).fam).fields (i:Int)=some (((wL l c)[i]?).getD (-1)):=by
 unfold zS
 rw[if_pos (by omega),show (i:Int).toNat=i by omega]
 show (wL l c)[i]? = _
 rw[List.getElem?_eq_getElem h];rfl
theorem zEj(l:List Ent)(t:Tm)(c:Int)(i:Nat)(pars:List Tm):(uX l t c i pars).2≠8:=by
 unfold uX
 split
 ·simp
 ·dsimp only;split<;>simp
theorem zEi{l:List Ent}{t:Tm}(hs:zL t=true){c:Int}{i:Nat}{pars:List Tm}(hp:OkA pars):(uX l t c i pars).1.Ok:=by
 unfold uX
 split
 ·exact zBm (Q:=Tm.Ok) (fun a ha=>zV (yS hs ha)) zHf
 ·exact gI (pN _ _ (xK _ _) hp) (zV hs)
theorem zIu{N:ByteArray->Bool}(l:List Ent)(hE:wS N l)(t:Tm)(hs:zL t=true)(L U e c:Int)(i:Nat)(pars:List Tm)(h0:0≤c)(h1:c<l.length)(hk:(ent l c).kind=2)(hi:i<(wL l c).length)(hp:(pars.length:Int)=(ent l c).pars)(hop:OkA pars) :
  Evt (fun q=>zKh q (xH l) l L U e t c (i:Int) pars) ((uX l t c i pars).1,if e=0 then(uX l t c i pars).2 else e):=by
 have hf:wL l c≠[]:=fun h=>by rw[h]at hi;simp at hi
 obtain⟨r1,r2,r3,r4,-⟩:=lW hE h0 h1 hk hf
 have hpl:(ent l c).pars≤24∧uW (ent l c).type≤24:=by
  obtain⟨A,z,a1,-,-,a4,a5,a6,a7,-⟩:=vY hE h0 h1 hk
  omega
 have tail:Evt (fun q=>zS l c>>=fun x7=>zS l x7.fam>>=fun x9=>zS x9.fields (i:Int)>>=fun x11=>zGn q x11>>=fun r13=>gC q r13 pars>>=fun r15=>S7 q r15 t>>=fun r17=>if (e==0)=true then e52 q r17>>=fun r20=>if r20=true then some (r17,e)else some (r17,2)else some (r17,e))
   (.mk 5 0 [apT (.mk 6 (((wL l c)[i]?).getD (-1)) []) pars,t],if e=0 then(if zL (.mk 5 0 [apT (.mk 6 (((wL l c)[i]?).getD (-1)) []) pars,t])=true then 0 else 2)else e):=by
  refine Evt.pure (yL h0 h1) (Evt.pure (yL r3 r4) (Evt.pure (zRz hi) (Evt.bind (a:=.mk 6 (((wL l c)[i]?).getD (-1)) []) (Evt.mk fun _=>rfl) ((sY _ pars (by omega)).bind ((E4 _ t).bind ?_)))))
  by_cases he:e=0
  ·refine Evt.ifT (by simp[he]) ((yO _ (gI (pN _ _ (xK _ _) hop) (zV hs))).bind ?_)
   by_cases h2:zL (.mk 5 0 [apT (.mk 6 (((wL l c)[i]?).getD (-1)) []) pars,t])=true
   ·exact Evt.ifT h2 (Evt.ret.eq (by simp[h2,he]))
   ·exact Evt.ifF (by simpa using h2) (Evt.ret.eq (by simp[h2,he]))
  ·exact Evt.ifF (by simp[he]) (Evt.ret.eq (by simp[he]))
 simp only[zKh]
 refine(eD l hE t hs L U e).bind ?_
 by_cases h:tW l t
 ·have r:L8 l t=((hdT t).n,arT t,true):=if_pos h
  rw[r]
  refine Evt.ifT rfl ?_
  by_cases h2:(hdT t).n=c
  ·have hpc:uX l t c i pars=(nth (arT t) ((pars.length+i:Nat):Int),0):=if_pos ⟨h,h2⟩
   rw[hpc]
   have hal:(arT t).length=uW (ent l c).type:=by rw[←h2];exact h.1.2
   refine Evt.ifT (by simp[h2]) ?_
   rw[yJ (x:=(pars.length:Int)+i) (by omega) (by omega),show (pars.length:Int)+(i:Int)=((pars.length+i:Nat):Int) by omega]
   refine Evt.pure (uL (by omega) (by show _<((arT t).length:Int);omega)) (Evt.ret.eq ?_)
   by_cases he:e=0
   ·simp[he]
   ·simp[he]
  ·have hpc:uX l t c i pars=(.mk 5 0 [apT (.mk 6 (((wL l c)[i]?).getD (-1)) []) pars,t],if zL (.mk 5 0 [apT (.mk 6 (((wL l c)[i]?).getD (-1)) []) pars,t])=true then 0 else 2):=if_neg (fun h'=>h2 h'.2)
   rw[hpc]
   exact Evt.ifF (by simpa using h2) tail
 ·have r:L8 l t=(0,[],false):=if_neg h
  have hpc:uX l t c i pars=(.mk 5 0 [apT (.mk 6 (((wL l c)[i]?).getD (-1)) []) pars,t],if zL (.mk 5 0 [apT (.mk 6 (((wL l c)[i]?).getD (-1)) []) pars,t])=true then 0 else 2):=if_neg (fun h'=>h h'.1)
  rw[r,hpc]
  exact Evt.ifF rfl tail
def er6(r:Tm×Tm×Bool×Int×Int×Int):Int:=if r.2.2.1=true then 9 else r.2.2.2.1
theorem zVV{r:Tm×Tm×Bool×Int×Int×Int}(h:er6 r=8):r.2.2.1=false∧r.2.2.2.1=8:=by
 unfold er6 at h
 split at h
 ·omega
 ·rename_i h1;exact⟨by simpa using h1,h⟩
def QP(l:List Ent)(x y:Tm)(R:Int->Int->Tm×Tm×Bool×Int×Int×Int)(k:Int):Prop:=
 (∃x' k1 y' k2,vR l x∧vR l y∧Br l x x' 0 k1∧Br l y y' 0 k2∧k=k1+k2∧R=fun L U=>(x',y',true,0,L,U)) ∨
 (∃a b e,e≠0∧e≠8∧(∀m b k,¬Cv l m x y b k)∧R=fun L U=>(a,b,false,e,L,U))
theorem X5{N:ByteArray->Bool}(l:List Ent)(hE:wS N l)(he:∀e∈l,EOk e)(x:Tm)(ho:x.Ok)(f:Int)(hf:0≤f):Ou (fun L U q=>zKi q (xH l) l L U 0 x) er4 (QBR l x) (vR l x∧∀y e k,Br l x y e k->f<k) f:=by
 simp only[zKi]
 refine Ou.bind (i9 l hE he x ho f hf) id (fun r hr=>⟨_,Evt.ifT rfl Evt.ret,hr⟩) ?_
 rintro R k k0 k1 hQ
 have hQ':=hQ
 rcases hQ with⟨hR,rfl,rfl⟩|⟨hR,y,e,hbr,rfl⟩
 ·exact Ou.ifT rfl (Ou.ret (by omega) (by rw[Int.add_zero];exact hQ'))
 ·exact Ou.ifT rfl (Ou.ret (by omega) (by rw[Int.add_zero];exact hQ'))
theorem zOw{N:ByteArray->Bool}(l:List Ent)(hE:wS N l)(he:∀e∈l,EOk e)(x y:Tm)(hx:x.Ok)(hy:y.Ok)(f:Int)(hf:0≤f):Ou (fun L U q=>zGo q (xH l) l L U 0 x y) er6 (QP l x y) (∀m b k,Cv l m x y b k->f<k) f:=by
 simp only[zGo]
 refine Ou.ifF rfl (Ou.bind (X5 l hE he x hx f hf) (fun h m b k hc=>?_) (fun r hr=>?_) ?_)
 ·obtain⟨-,-,x',k1,y',k2,k3,h1,h2,h3,rfl⟩:=hc.inv
  have:=h.2 _ _ _ h1
  have:=h2.nn
  have:=h3.nn (fun _ _ _ _ _ h=>Cv.nn h)
  omega
 ·refine⟨_,Evt.ifT (by show (r.2.1 != 0)=true;rw[show r.2.1=8 from hr];decide) Evt.ret,?_⟩
  unfold er6
  rw[if_neg (by simp)];exact hr
 ·rintro R k k0 k1 (⟨hR,rfl,rfl⟩|⟨hR,x',e,hbr,rfl⟩)
  ·exact Ou.ifT rfl (Ou.ret (by omega) (.inr ⟨_,_,5,by decide,by decide,fun m b k hc=>hR hc.inv.1,rfl⟩))
  ·dsimp only
   by_cases e0:e=0
   ·subst e0
    rw[if_pos rfl]
    refine Ou.ifF rfl (Ou.bind (X5 l hE he y hy (f-k) (by omega)) (fun h m b k' hc=>?_) (fun r hr=>⟨_,Evt.ret,?_⟩) ?_)
    ·obtain⟨-,-,x1,k1,y',k2,k3,h1,h2,h3,rfl⟩:=hc.inv
     obtain⟨-,-,rfl⟩:=hbr.det h1
     have:=h.2 _ _ _ h2
     have:=h3.nn (fun _ _ _ _ _ h=>Cv.nn h)
     omega
    ·have hr':r.2.1=8:=hr
     unfold er6
     dsimp only
     rw[hr',if_neg (by decide)]
    ·rintro R n n0 n1 (⟨hR2,rfl,rfl⟩|⟨hR2,y',e,hbr2,rfl⟩)
     ·exact Ou.ret (by omega) (.inr ⟨x',zT,5,by decide,by decide,fun m b k hc=>hR2 hc.inv.2.1,rfl⟩)
     ·by_cases e1:e=0
      ·subst e1
       exact Ou.ret (by omega) (.inl ⟨x',k,y',n,hR,hR2,hbr,hbr2,by omega,by funext L U;simp⟩)
      ·refine Ou.ret (by omega) (.inr ⟨x',zT,e,e1,hbr2.e8 hE hR2.shaped,fun m b k' hc=>?_,by simp[e1,show (e==0)=false by simpa using e1]⟩)
       obtain⟨-,-,x1,k1,y1,k2,k3,h1,h2,h3,-⟩:=hc.inv
       exact e1 (hbr2.det h2).2.1.symm
   ·rw[if_neg e0]
    refine Ou.ifT (by simpa using e0) (Ou.ret (by omega) (.inr ⟨zT,y,e,e0,hbr.e8 hE hR.shaped,fun m b k' hc=>?_,rfl⟩))
    obtain⟨-,-,x1,k1,y1,k2,k3,h1,-⟩:=hc.inv
    exact e0 (hbr.det h1).2.1.symm
def BC(l:List Ent)(f:Int)(W:Nat):Prop:=∀m p q,p.Ok->q.Ok->wtT l p+wtT l q<W->∀g,0≤g->g≤f->HC l m p q g
theorem BC.le{l:List Ent}{f g:Int}{W:Nat}(h:BC l f W)(hg:g≤f):BC l g W:=fun m p q a b c d e k=>h m p q a b c d e (by omega)
theorem HX.imp{g g':Int->Int->Nat->Option (Bool×Int×Int×Int)}{X:Bool->Int->Prop}{f:Int}(h:HX g X f)(k:∀L U r,Evt (g L U) r->Evt (g' L U) r):HX g' X f:=Ou.imp h k
theorem HX.same{g:Int->Int->Nat->Option (Bool×Int×Int×Int)}{X:Bool->Int->Prop}{f:Int}(h:HX g X f):HX (fun L U q=>g L U q>>=fun r=>some (r.1,r.2.1,r.2.2.1,r.2.2.2)) X f:=h.imp fun L U r h=>h.bind Evt.ret
theorem zIt(l:List Ent)(x y:Tm×List Tm)(W:Nat)(hl:x.2.length≤8192)(hxy:y.2.length=x.2.length)(hox:OkA x.2)(hoy:OkA y.2)(hw:∀a∈x.2,∀b∈y.2,wtT l a+wtT l b<W):∀(r s:List Tm) (v:Nat) (f:Int),x.2.drop v=r->y.2.drop v=s->0≤f->BC l f W ->
  HX (fun L U q=>xY q l l (evA l l.length 0) (l.map xS) (l.map sD) l x y (v:Int) 0 L U) (uI (Cv l false) (zDZ r s)) f
 | [],s,v,f,hd,hs,hf,hB=>by
  refine Ou.succ ?_
  simp only[xY]
  have e:zDZ [] s=[]:=by cases s<;>rfl
  rw[e]
  exact Ou.ifF (zZ hd) (zIx hf)
 |a::r,[],v,f,hd,hs,hf,hB=>by
  have hlt:=yC hd
  have:y.2.length≤v:=List.drop_eq_nil_iff.1 hs
  omega
 |a::r,b::s,v,f,hd,hs,hf,hB=>by
  have hlt:=yC hd
  have hma:a∈x.2:=by
   have:a∈x.2.drop v:=by rw[hd];simp
   exact List.mem_of_mem_drop this
  have hmb:b∈y.2:=by
   have:b∈y.2.drop v:=by rw[hs];simp
   exact List.mem_of_mem_drop this
  refine Ou.succ ?_
  simp only[xY]
  refine Ou.ifT (zY hd) (Ou.pure (zX hd) (Ou.pure (zX hs) ?_))
  rw[zW v (by omega)]
  exact C0 (c:=fun e L U q=>xY q l l (evA l l.length 0) (l.map xS) (l.map sD) l x y ((v+1:Nat):Int) e L U) (G3 (hB false a b (hox a hma) (hoy b hmb) (hw a hma b hmb) f hf (Int.le_refl f)))
   fun k k0 k1=>zIt l x y W hl hxy hox hoy hw r s (v+1) (f-k) (zU hd) (zU hs) (by omega) (hB.le (by omega))
theorem jZ{l:List Ent}{m b:Bool}{f:Int}(hf:0≤f):HX (fun L U _=>some (b,0,L,U)) (HdR (Cv l) m (.ans b)) f:=Ou.ret hf (X4 ⟨rfl,rfl⟩)
theorem zGj(l:List Ent)(m:Bool)(x y:Tm)(hsx:zL x=true)(hsy:zL y=true)(f:Int)(hf:0≤f)(hB:BC l f (wtT l x+wtT l y)):HX (fun L U q=>gY q l l (evA l l.length 0) (l.map xS) (l.map sD) l L U 0 x y) (HdR (Cv l) m (gO x y)) f:=by
 have hgx:=(zQ hsx).2.2
 have hgy:=(zQ hsy).2.2
 have hgh:=(zQ (uU hsx)).2.2
 have hgk:=(zQ (uU hsy)).2.2
 have hox:OkA (arT x):=fun a ha=>zV (yS hsx ha)
 have hoy:OkA (arT y):=fun a ha=>zV (yS hsy ha)
 have hlx:(arT x).length≤8192:=by
  have h:=zQ hsx
  have:=uV _ h.2.2
  omega
 have hwx:=V6 l x hgx
 have hwy:=V6 l y hgy
 have hph:=zBb l (hdT x)
 have hpk:=zBb l (hdT y)
 have hw:∀a∈arT x,∀b∈arT y,wtT l a+wtT l b<wtT l x+wtT l y:=fun a ha b hb=>by
  have:=zBa l ha
  have:=zBa l hb
  omega
 refine Ou.succ ?_
 simp only[gY]
 refine Ou.evt (nF x hsx) (Ou.evt (nF y hsy) ?_)
 dsimp only
 by_cases c1:(hdT x).k=(hdT y).k
 ·refine Ou.ifF (by simp[c1]) ?_
  by_cases c2:(hdT x).n=(hdT y).n
  ·refine Ou.ifF (by simp[c2]) ?_
   by_cases c3:(arT x).length=(arT y).length
   ·refine Ou.ifF (by simp[c3]) ?_
    have loop:∀g,0≤g->g≤f->HX (fun L U q=>xY q l l (evA l l.length 0) (l.map xS) (l.map sD) l (hdT x,arT x) (hdT y,arT y) 0 0 L U) (uI (Cv l false) (zDZ (arT x) (arT y))) g:=fun g g0 g1=>zIt l (hdT x,arT x) (hdT y,arT y) _ hlx c3.symm hox hoy hw (arT x) (arT y) 0 g rfl rfl g0 (hB.le g1)
    by_cases c4:(hdT x).k=7
    ·obtain⟨s,hs⟩:∃s,(hdT x).sub=[s]:=by
      revert hgh c4
      generalize hdT x=w
      intro hg h7
      obtain⟨kk,nn,ss⟩:=w
      obtain⟨s,hs,-⟩:=(uT (wV hg).1).2.2.2.2.2.2.1 h7
      exact⟨s,hs⟩
     obtain⟨s',hs'⟩:∃s,(hdT y).sub=[s]:=by
      have c4':(hdT y).k=7:=by omega
      revert hgk c4'
      generalize hdT y=w
      intro hg h7
      obtain⟨kk,nn,ss⟩:=w
      obtain⟨s,hs,-⟩:=(uT (wV hg).1).2.2.2.2.2.2.1 h7
      exact⟨s,hs⟩
     refine Ou.ifT (by simp[c4]) (Ou.pure (uL (by omega) (by rw[hs];simp)) (Ou.pure (uL (by omega) (by rw[hs'];simp)) ?_))
     by_cases c5:(nth (hdT x).sub 0).n=(nth (hdT y).sub 0).n
     ·refine Ou.ifF (by simp[c5]) (Ou.ifF (by simp[c4]) ?_)
      have e:gO x y = .all (zDZ (arT x) (arT y)):=by
       unfold gO zQI
       rw[if_neg (by omega),if_neg (by omega),List.nil_append]
      rw[e]
      exact loop f hf (Int.le_refl f)
     ·refine Ou.ifT (by simpa using c5) ?_
      have e:gO x y = .ans false:=by unfold gO;rw[if_pos (.inr (.inr (.inr ⟨c4,c5⟩)))]
      rw[e];exact jZ hf
    ·refine Ou.ifF (by simpa using c4) ?_
     by_cases c5:(hdT x).k=3
     ·have c5':(hdT y).k=3:=by omega
      obtain⟨a,b,hab,hga,hgb⟩:=qE hgh (.inl c5)
      obtain⟨a',b',hab',hga',hgb'⟩:=qE hgk (.inl c5')
      have ea:nth (hdT x).sub 0=a:=by rw[hab];rfl
      have eb:nth (hdT x).sub 1=b:=by rw[hab];rfl
      have ea':nth (hdT y).sub 0=a':=by rw[hab'];rfl
      have eb':nth (hdT y).sub 1=b':=by rw[hab'];rfl
      have e:gO x y = .all (((a,0),(a',0))::((b,0),(b',0))::zDZ (arT x) (arT y)):=by
       unfold gO zQI
       rw[if_neg (by omega),if_pos c5,ea,eb,ea',eb'];rfl
      have w1:=F7 l (hdT x)
      have w2:=F7 l (hdT y)
      rw[hab,wtL,wtL,wtL]at w1
      rw[hab',wtL,wtL,wtL]at w2
      have v1:=(F6 l (hdT x).k (hdT x).n).1
      have v2:=(F6 l (hdT y).k (hdT y).n).1
      rw[e]
      refine Ou.ifT (by simp[c5]) (Ou.pure (a:=a) (by rw[hab];rfl) (Ou.pure (a:=a') (by rw[hab'];rfl) ?_))
      refine C0 (c:=fun e L U q=>zS (hdT x).sub 1>>=fun x33=>zS (hdT y).sub 1>>=fun x35=>vH q l l (evA l l.length 0) (l.map xS) (l.map sD) l L U e x33 x35>>=fun r37=>if r37.1=true then xY q l l (evA l l.length 0) (l.map xS) (l.map sD) l (hdT x,arT x) (hdT y,arT y) 0 r37.2.1 r37.2.2.1 r37.2.2.2 else some (false,r37.2.1,r37.2.2.1,r37.2.2.2)) (G3 (hB false a a' (rD a hga) (rD a' hga') (by omega) f hf (Int.le_refl f))) fun k k0 k1=>?_
      refine Ou.pure (a:=b) (by rw[hab];rfl) (Ou.pure (a:=b') (by rw[hab'];rfl) ?_)
      exact C0 (c:=fun e L U q=>xY q l l (evA l l.length 0) (l.map xS) (l.map sD) l (hdT x,arT x) (hdT y,arT y) 0 e L U) (G3 (hB false b b' (rD b hgb) (rD b' hgb') (by omega) (f-k) (by omega) (by omega))) fun k' k0' k1'=>loop (f-k-k') (by omega) (by omega)
     ·refine Ou.ifF (by simpa using c5) ?_
      have e:gO x y = .all (zDZ (arT x) (arT y)):=by
       unfold gO zQI
       rw[if_neg (by omega),if_neg c5,List.nil_append]
      rw[e]
      exact loop f hf (Int.le_refl f)
   ·refine Ou.ifT (by simp;omega) ?_
    have e:gO x y = .ans false:=by unfold gO;rw[if_pos (.inr (.inr (.inl c3)))]
    rw[e];exact jZ hf
  ·refine Ou.ifT (by simpa using c2) ?_
   have e:gO x y = .ans false:=by unfold gO;rw[if_pos (.inr (.inl c2))]
   rw[e];exact jZ hf
 ·refine Ou.ifT (by simpa using c1) ?_
  have e:gO x y = .ans false:=by unfold gO;rw[if_pos (.inl c1)]
  rw[e];exact jZ hf
theorem zEh{N:ByteArray->Bool}(l:List Ent)(hE:wS N l)(x y:Tm)(c:Int)(pars:List Tm)(W:Nat)(hsx:zL x=true)(hsy:zL y=true)(h0:0≤c)(h1:c<l.length)(hk:(ent l c).kind=2)(hp:(pars.length:Int)=(ent l c).pars)(hop:OkA pars)
  (hw:∀i,i<(wL l c).length->wtT l (uX l x c i pars).1+wtT l (uX l y c i pars).1<W):∀(m i:Nat) (f:Int),i+m=(wL l c).length->0≤f->BC l f W ->
  HX (fun L U q=>uM q l l (evA l l.length 0) (l.map xS) (l.map sD) l x y c pars (ent l (ent l c).fam) (i:Int) 0 L U) (uI (Cv l false) (zDY l x y c pars m i)) f
 |0,i,f,hm,hf,hB=>by
  refine Ou.succ ?_
  simp only[uM]
  have hm':i=(ent l (ent l c).fam).fields.length:=hm
  exact Ou.ifF (decide_eq_false (by omega)) (zIx hf)
 |m+1,i,f,hm,hf,hB=>by
  have hi:i<(wL l c).length:=by omega
  have hne:wL l c≠[]:=fun h=>by rw[h]at hi;simp at hi
  have hlen:(wL l c).length≤24:=by
   have r:=lW hE h0 h1 hk hne
   obtain⟨A,z,a1,-,-,a4,a5,a6,a7,-⟩:=vY hE h0 h1 hk
   omega
  refine Ou.succ ?_
  simp only[uM]
  refine Ou.ifT (decide_eq_true (by show (i:Int)<((wL l c).length:Int);omega)) ?_
  have e1:=fun L U=>zIu l hE x hsx L U 0 c i pars h0 h1 hk hi hp hop
  have e2:=fun L U=>zIu l hE y hsy L U (uX l x c i pars).2 c i pars h0 h1 hk hi hp hop
  refine HX.imp (g:=fun L U q=>X3 l false L U (if (uX l x c i pars).2=0 then(uX l y c i pars).2 else(uX l x c i pars).2) q (uX l x c i pars).1 (uX l y c i pars).1>>=fun r10=>if r10.1=true then uM q l l (evA l l.length 0) (l.map xS) (l.map sD) l x y c pars (ent l (ent l c).fam) ((i+1:Nat):Int) r10.2.1 r10.2.2.1 r10.2.2.2 else some (false,r10.2.1,r10.2.2.1,r10.2.2.2)) ?_ fun L U r h=>?_
  ·exact C0 (c:=fun e L U q=>uM q l l (evA l l.length 0) (l.map xS) (l.map sD) l x y c pars (ent l (ent l c).fam) ((i+1:Nat):Int) e L U)
    (zIy (p:=uX l x c i pars) (q:=uX l y c i pars) hf ⟨zEj _ _ _ _ _,zEj _ _ _ _ _⟩ fun _ _=>hB false _ _ (zEi hsx hop) (zEi hsy hop) (hw i hi) f hf (Int.le_refl f))
    fun k k0 k1=>zEh l hE x y c pars W hsx hsy h0 h1 hk hp hop hw m (i+1) (f-k) (by omega) (by omega) (hB.le (by omega))
  ·have a1:=e1 L U
   rw[if_pos rfl]at a1
   rw[zW i (by omega)]
   exact a1.bind ((e2 L U).bind h)
theorem zTC{l:List Ent}{m:Bool}{a a' c1 c1':Tm}{f:Int}{g:Int->Int->Nat->Option (Bool×Int×Int×Int)}{c:Int->Int->Int->Nat->Option (Bool×Int×Int×Int)}
  (h1:HX g (Cv l false a a') f) (hc:∀k,0≤k->k≤f->HX (fun L U q=>c 0 L U q) (Cv l m c1 c1') (f-k)) :
  HX (fun L U q=>g L U q>>=fun r30=>if r30.1=true then c r30.2.1 r30.2.2.1 r30.2.2.2 q else some (false,r30.2.1,r30.2.2.1,r30.2.2.2)) (HdR (Cv l) m (.pi a a' c1 c1')) f:=by
 refine Ou.bind h1 (fun h b k ha=>?_) (fun r hr=>?_) ?_
 ·obtain⟨b1,k1,a3,a4⟩:=ha
  have:=h b1 k1 a3
  rcases a4 with⟨-,-,a4⟩|⟨-,k2,a4,a5⟩
  ·omega
  ·have:=a4.nn;omega
 ·have:=zBI hr
  refine⟨_,Evt.ifF this.1 Evt.ret,?_⟩
  unfold zEl
  rw[if_neg (by simp)];exact this.2
 ·rintro R k k0 k1 ⟨b1,e1,h8,h0,hn,rfl⟩
  dsimp only
  by_cases e0:e1=0
  ·subst e0
   have a3:=h0 rfl
   cases b1 with
   |false=>exact Ou.ifF rfl (Ou.ret (by omega) (X4 ⟨false,k,a3,.inl ⟨rfl,rfl,by omega⟩⟩))
   |true=>
    refine Ou.ifT rfl ((hc k k0 k1).mono ?_ fun h b k' ha=>?_)
    ·rintro R n _ _ ⟨b,e,g8,g0,gn,rfl⟩
     refine⟨b,e,g8,fun he=>⟨true,k,a3,.inr ⟨rfl,n,g0 he,rfl⟩⟩,fun he=>⟨(gn he).1,fun b' k' ha=>?_⟩,rfl⟩
     obtain⟨b1,k1,a4,a5⟩:=ha
     obtain⟨rfl,rfl⟩:=a3.det a4
     rcases a5 with⟨a5,-⟩|⟨-,k2,a5,-⟩
     ·cases a5
     ·exact(gn he).2 _ _ a5
    ·obtain⟨b1,k1,a4,a5⟩:=ha
     obtain⟨rfl,rfl⟩:=a3.det a4
     rcases a5 with⟨a5,-⟩|⟨-,k2,a5,a6⟩
     ·cases a5
     ·have:=h _ _ a5;omega
  ·obtain⟨rfl,hno⟩:=hn e0
   refine Ou.ifF rfl (Ou.ret (by omega) (jY h8 e0 fun b k ha=>?_))
   obtain⟨b1,k1,a3,-⟩:=ha
   exact hno b1 k1 a3
theorem zTD(l:List Ent){x y:Tm}(hgx:xA x=true)(hgy:xA y=true)(hp:(qW x).2=0)(hq:(qW y).2=0)(h:x.k=4∨y.k=4):wtT l (qW x).1+wtT l (qW y).1<wtT l x+wtT l y:=by
 have lam:∀t:Tm,xA t=true->t.k=4->wtT l (qW t).1+4≤wtT l t:=fun t hg h4=>by
  obtain⟨a,b,hab,-,-⟩:=qE hg (.inr (.inl h4))
  rw[zVT h4,hab]
  have w:=F7 l t
  rw[hab,wtL,wtL,wtL]at w
  have e:nwT l t.k t.n=3:=by unfold nwT;rw[if_pos h4]
  have:=zBb l a
  show wtT l b+4≤_
  omega
 have oth:∀t:Tm,(qW t).2=0->t.k≠4->wtT l (qW t).1≤wtT l t+2:=fun t h0 h4=>by
  rw[zVU h4]at h0 ⊢
  have h1:(vU t 1 0).2=0:=by
   by_cases h1:(vU t 1 0).2=0
   ·exact h1
   ·rw[if_neg h1]at h0;exact h0
  rw[(gF h1).2.2.2.2,wtT,wtL,wtL,wtL,wtT,wtL]
  have e1:nwT l 5 0=1:=by unfold nwT;simp
  have e2:nwT l 1 0=1:=by unfold nwT;simp
  have:=zRQ l t 0 0 1
  omega
 by_cases h1:x.k=4
 ·have a:=lam x hgx h1
  by_cases h2:y.k=4
  ·have b:=lam y hgy h2;omega
  ·have b:=oth y hq h2;omega
 ·have a:=oth x hp h1
  have b:=lam y hgy (h.resolve_left h1)
  omega
theorem zTE{N:ByteArray->Bool}{l:List Ent}(hE:wS N l){x y:Tm}(hsx:zL x=true)(hsy:zL y=true){c:Int}{pars:List Tm}(h0:0≤c)(h1:c<l.length)(hk:(ent l c).kind=2){i:Nat}(hi:i<(wL l c).length)
  (h:(tW l x∧(hdT x).n=c∧pars=lT l x∧(tW l y->(hdT y).n=c))∨(¬tW l x∧tW l y∧(hdT y).n=c∧pars=lT l y)):wtT l (uX l x c i pars).1+wtT l (uX l y c i pars).1<wtT l x+wtT l y:=by
 have hne:wL l c≠[]:=fun h=>by rw[h]at hi;simp at hi
 obtain⟨r1,r2,r3,r4,r5⟩:=lW hE h0 h1 hk hne
 have con:∀t:Tm,zL t=true->tW l t->(hdT t).n=c->pars.length=(ent l c).pars.toNat->wtT l (uX l t c i pars).1+wtL l (lT l t)+(ent l c).pars.toNat+3≤wtT l t:=fun t hs hr hn hl=>by
  have e:uX l t c i pars=(nth (arT t) ((pars.length+i:Nat):Int),0):=if_pos ⟨hr,hn⟩
  rw[e]
  show wtT l (nth (arT t) ((pars.length+i:Nat):Int))+wtL l (lT l t)+(ent l c).pars.toNat+3≤wtT l t
  have hlen:(arT t).length=uW (ent l c).type:=by rw[←hn];exact hr.1.2
  have hk6:=(tD hr.1.1 (by decide)).1
  have hw:=V6 l t (zQ hs).2.2
  have hh:=F7 l (hdT t)
  have e2:nwT l (hdT t).k (hdT t).n=2:=by unfold nwT;rw[if_neg (by omega),if_pos ⟨hk6,by rw[hn];exact hk⟩]
  have hsplit:arT t=(arT t).take (ent l c).pars.toNat++(arT t).drop (ent l c).pars.toNat:=(List.take_append_drop _ _).symm
  have hwl:wtL l (arT t)=wtL l (lT l t)+wtL l ((arT t).drop (ent l c).pars.toNat):=by
   have:lT l t=(arT t).take (ent l c).pars.toNat:=by unfold lT;rw[hn]
   rw[this,←zBA,List.take_append_drop]
  have hm:nth (arT t) ((pars.length+i:Nat):Int)∈(arT t).drop (ent l c).pars.toNat:=by
   unfold nth
   have hlt:pars.length+i<(arT t).length:=by omega
   rw[show (((pars.length+i:Nat):Int)).toNat=pars.length+i by omega,List.getElem?_eq_getElem hlt]
   show (arT t)[pars.length+i]∈_
   have:(arT t)[pars.length+i]=((arT t).drop (ent l c).pars.toNat)[i]'(by simp;omega):=by
    rw[List.getElem_drop]
    congr 1
    omega
   rw[this]
   exact List.getElem_mem _
  have:=zBa l hm
  have:(arT t).length≥(ent l c).pars.toNat+1:=by omega
  have hnn:0≤wtL l (hdT t).sub:=Nat.zero_le _
  omega
 have oth:∀t:Tm,¬(tW l t∧(hdT t).n=c)->wtT l (uX l t c i pars).1=2+wtL l pars+pars.length+wtT l t:=fun t hr=>by
  have e:uX l t c i pars=(.mk 5 0 [apT (.mk 6 (((wL l c)[i]?).getD (-1)) []) pars,t],if zL (.mk 5 0 [apT (.mk 6 (((wL l c)[i]?).getD (-1)) []) pars,t])=true then 0 else 2):=if_neg hr
  rw[e]
  have hfk:(ent l (((wL l c)[i]?).getD (-1))).kind=4:=by
   rw[List.getElem?_eq_getElem hi]
   exact(uJ (r5 _ (List.getElem_mem hi))).2.2
  have e1:nwT l 5 0=1:=by unfold nwT;simp
  have e2:nwT l 6 (((wL l c)[i]?).getD (-1))=1:=by unfold nwT;rw[if_neg (by decide),if_neg (by omega)]
  show wtT l (.mk 5 0 [apT (.mk 6 (((wL l c)[i]?).getD (-1)) []) pars,t])=_
  rw[wtT,wtL,wtL,wtL,zRR,wtT,wtL,e1,e2]
  omega
 have plen:∀t:Tm,zL t=true->tW l t->(hdT t).n=c->(lT l t).length=(ent l c).pars.toNat:=fun t hs hr hn=>by
  have hlen:(arT t).length=uW (ent l c).type:=by rw[←hn];exact hr.1.2
  unfold lT
  rw[hn,List.length_take]
  omega
 rcases h with⟨hx,hn,hp,hy⟩|⟨hx,hy,hn,hp⟩
 ·have hl:=plen x hsx hx hn
  rw[←hp]at hl
  have a:=con x hsx hx hn hl
  rw[←hp]at a
  by_cases ry:tW l y
  ·have b:=con y hsy ry (hy ry) hl
   omega
  ·have b:=oth y (fun h=>ry h.1)
   omega
 ·have hl:=plen y hsy hy hn
  rw[←hp]at hl
  have a:=con y hsy hy hn hl
  rw[←hp]at a
  have b:=oth x (fun h=>hx h.1)
  omega
theorem zGi{N:ByteArray->Bool}(l:List Ent)(hE:wS N l)(x y:Tm)(hsx:zL x=true)(hsy:zL y=true)(f:Int)(hf:0≤f)(hB:BC l f (wtT l x+wtT l y)):HX (fun L U q=>zQZ l false L U 0 q x y) (HdR (Cv l) false (sG l false x y)) f:=by
 have hgx:=(zQ hsx).2.2
 have hgy:=(zQ hsy).2.2
 refine Ou.succ ?_
 simp only[zQZ,gX]
 have lamC:x.k=4∨y.k=4->HX (fun L U q=>u5 q (yY.mk l l (evA l l.length 0) (l.map xS) (l.map sD)) l L U 0 x>>=fun r2=>u5 q (yY.mk l l (evA l l.length 0) (l.map xS) (l.map sD)) l L U r2.2 y>>=fun r4=>vH q l l (evA l l.length 0) (l.map xS) (l.map sD) l L U r4.2 r2.1 r4.1>>=fun r6=>some (r6.1,r6.2.1,r6.2.2.1,r6.2.2.2)) (HdR (Cv l) false (sG l false x y)) f:=fun h=>by
  have e:sG l false x y = .all [(qW x,qW y)]:=if_pos h
  rw[e]
  refine HX.imp (g:=fun L U q=>X3 l false L U (if (qW x).2=0 then(qW y).2 else(qW x).2) q (qW x).1 (qW y).1>>=fun r6=>some (r6.1,r6.2.1,r6.2.2.1,r6.2.2.2)) ?_ fun L U r h=>?_
  ·refine HX.same (zIy (p:=qW x) (q:=qW y) hf ⟨zIw x,zIw y⟩ fun hp hq=>hB false _ _ (zIv hsx) (zIv hsy) ?_ f hf (Int.le_refl f))
   exact zTD l hgx hgy hp hq h
  ·have a1:=zAz (xH l) l x hsx L U 0
   have a2:=zAz (xH l) l y hsy L U (qW x).2
   rw[if_pos rfl]at a1
   exact a1.bind (a2.bind h)
 refine Ou.ite (fun h=>lamC (.inl (by simpa using h))) fun h4=>Ou.ite (fun h=>lamC (.inr (by simpa using h))) fun h4'=>?_
 have n4:¬(x.k=4∨y.k=4):=by
  have a:x.k≠4:=by simpa using h4
  have b:y.k≠4:=by simpa using h4'
  omega
 have flds:∀(c:Int) (pars:List Tm),(tW l x∧(hdT x).n=c∧pars=lT l x∧(tW l y->(hdT y).n=c))∨(¬tW l x∧tW l y∧(hdT y).n=c∧pars=lT l y)->∀cs:List Tm,gsl cs 0 (ent l c).pars=some pars ->
   HX (fun L U q=>zS l c>>=fun x22=>gsl cs 0 x22.pars>>=fun x24=>nN q l l (evA l l.length 0) (l.map xS) (l.map sD) l L U 0 x y c x24>>=fun r26=>some (r26.1,r26.2.1,r26.2.2.1,r26.2.2.2)) (uI (Cv l false) (zDY l x y c pars (wL l c).length 0)) f:=fun c pars h cs hcs=>by
  have hc:∃t,(t=x∨t=y)∧zL t=true∧tW l t∧(hdT t).n=c∧pars=lT l t:=by
   rcases h with h|h
   ·exact⟨x,.inl rfl,hsx,h.1,h.2.1,h.2.2.1⟩
   ·exact⟨y,.inr rfl,hsy,h.2.1,h.2.2.1,h.2.2.2⟩
  obtain⟨t,-,hst,hrt,hnt,hpt⟩:=hc
  have hcs':=vL hst hrt.1
  rw[hnt]at hcs'
  have hf0:=hrt.2
  rw[hnt]at hf0
  have rf:=lW hE hcs'.1 hcs'.2.1 hcs'.2.2.1 hf0
  have hop:OkA pars:=by rw[hpt];exact OkA.take (fun a ha=>zV (yS hst ha)) _
  have hpl:(pars.length:Int)=(ent l c).pars:=by
   rw[hpt];unfold lT
   rw[hnt,List.length_take]
   omega
  refine Ou.pure (yL hcs'.1 hcs'.2.1) (Ou.pure hcs (HX.same (Ou.succ ?_)))
  simp only[nN]
  refine Ou.pure (yL hcs'.1 hcs'.2.1) (Ou.pure (yL rf.2.2.1 rf.2.2.2.1) ?_)
  exact zEh l hE x y c pars _ hsx hsy hcs'.1 hcs'.2.1 hcs'.2.2.1 hpl hop (fun i hi=>zTE hE hsx hsy hcs'.1 hcs'.2.1 hcs'.2.2.1 hi h) (wL l c).length 0 f (by omega) hf hB
 have par_sl:∀t,zL t=true->tW l t->gsl (arT t) 0 (ent l (hdT t).n).pars=some (lT l t):=fun t hst hrt=>by
  have hcs':=vL hst hrt.1
  have rf:=lW hE hcs'.1 hcs'.2.1 hcs'.2.2.1 hrt.2
  rw[N7 (by omega) rf.2.1 (by omega)]
  unfold lT;simp
 refine Ou.evt (eD l hE x hsx 0 0 0) ?_
 by_cases rx:tW l x
 ·have ex:L8 l x=((hdT x).n,arT x,true):=if_pos rx
  rw[ex]
  refine Ou.ifT rfl (Ou.evt (eD l hE y hsy 0 0 0) ?_)
  by_cases ry:tW l y
  ·have ey:L8 l y=((hdT y).n,arT y,true):=if_pos ry
   rw[ey]
   refine Ou.ifT rfl ?_
   by_cases hn:(hdT x).n=(hdT y).n
   ·have e:sG l false x y = .all (zDY l x y (hdT x).n (lT l x) (wL l (hdT x).n).length 0):=by
     unfold sG;rw[if_neg n4,if_pos rx,if_neg (fun h=>h.2 hn)]
    rw[e]
    exact Ou.ifF (by simp[hn]) (flds _ _ (.inl ⟨rx,rfl,rfl,fun _=>hn.symm⟩) (arT x) (par_sl x hsx rx))
   ·have e:sG l false x y = .ans false:=by
     unfold sG;rw[if_neg n4,if_pos rx,if_pos ⟨ry,hn⟩]
    rw[e]
    exact Ou.ifT (by simpa using hn) (jZ hf)
  ·have ey:L8 l y=(0,[],false):=if_neg ry
   have e:sG l false x y = .all (zDY l x y (hdT x).n (lT l x) (wL l (hdT x).n).length 0):=by
    unfold sG;rw[if_neg n4,if_pos rx,if_neg (fun h=>ry h.1)]
   rw[ey,e]
   exact Ou.ifF rfl (flds _ _ (.inl ⟨rx,rfl,rfl,fun h=>absurd h ry⟩) (arT x) (par_sl x hsx rx))
 ·have ex:L8 l x=(0,[],false):=if_neg rx
  rw[ex]
  refine Ou.ifF rfl (Ou.evt (eD l hE y hsy 0 0 0) ?_)
  by_cases ry:tW l y
  ·have ey:L8 l y=((hdT y).n,arT y,true):=if_pos ry
   have e:sG l false x y = .all (zDY l x y (hdT y).n (lT l y) (wL l (hdT y).n).length 0):=by
    unfold sG;rw[if_neg n4,if_neg rx,if_pos ry]
   rw[ey,e]
   exact Ou.ifT rfl (flds _ _ (.inr ⟨rx,ry,rfl,rfl⟩) (arT y) (par_sl y hsy ry))
  ·have ey:L8 l y=(0,[],false):=if_neg ry
   rw[ey]
   refine Ou.ifF rfl ?_
   by_cases hk:x.k=y.k
   ·refine Ou.ifF (by simp[hk]) ?_
    by_cases k3:x.k=3
    ·have e:sG l false x y = .pi (nth x.sub 0) (nth y.sub 0) (nth x.sub 1) (nth y.sub 1):=by
      unfold sG;rw[if_neg n4,if_neg rx,if_neg ry,if_neg (by simpa using hk),if_pos k3]
     obtain⟨a,b,hab,hga,hgb⟩:=qE hgx (.inl k3)
     obtain⟨a',b',hab',hga',hgb'⟩:=qE hgy (.inl (by omega))
     have ea:nth x.sub 0=a:=by rw[hab];rfl
     have eb:nth x.sub 1=b:=by rw[hab];rfl
     have ea':nth y.sub 0=a':=by rw[hab'];rfl
     have eb':nth y.sub 1=b':=by rw[hab'];rfl
     have w1:=F7 l x
     have w2:=F7 l y
     rw[hab,wtL,wtL,wtL]at w1
     rw[hab',wtL,wtL,wtL]at w2
     have v1:=(F6 l x.k x.n).1
     have v2:=(F6 l y.k y.n).1
     rw[e,ea,eb,ea',eb']
     refine Ou.ifT (by simp[k3]) (Ou.pure (a:=a) (by rw[hab];rfl) (Ou.pure (a:=a') (by rw[hab'];rfl) ?_))
     refine zTC (c:=fun e L U q=>zS x.sub 1>>=fun x52=>zS y.sub 1>>=fun x54=>vH q l l (evA l l.length 0) (l.map xS) (l.map sD) l L U e x52 x54>>=fun r56=>some (r56.1,r56.2.1,r56.2.2.1,r56.2.2.2)) (hB false a a' (rD a hga) (rD a' hga') (by omega) f hf (Int.le_refl f)) fun k k0 k1=>?_
     exact Ou.pure (a:=b) (by rw[hab];rfl) (Ou.pure (a:=b') (by rw[hab'];rfl) (HX.same (hB false b b' (rD b hgb) (rD b' hgb') (by omega) (f-k) (by omega) (by omega))))
    ·refine Ou.ifF (by simpa using k3) ?_
     by_cases k2:x.k=2
     ·have e:sG l false x y = .ans (if false=true then decide (x.n≤y.n)else x.n==y.n):=by
       unfold sG;rw[if_neg n4,if_neg rx,if_neg ry,if_neg (by simpa using hk),if_neg k3,if_pos k2]
      rw[e]
      refine Ou.ifT (by simp[k2]) (Ou.evt (a:=if false=true then decide (x.n≤y.n)else x.n==y.n) (Evt.mk fun q=>?_) (jZ hf))
      simp[zQX]
     ·have e:sG l false x y=gO x y:=by
       unfold sG;rw[if_neg n4,if_neg rx,if_neg ry,if_neg (by simpa using hk),if_neg k3,if_neg k2]
      rw[e]
      exact Ou.ifF (by simpa using k2) (HX.same (zGj l false x y hsx hsy f hf hB))
   ·have e:sG l false x y = .ans false:=by
     unfold sG;rw[if_neg n4,if_neg rx,if_neg ry,if_pos hk]
    rw[e]
    exact Ou.ifT (by simpa using hk) (jZ hf)
theorem zKe{N:ByteArray->Bool}(l:List Ent)(hE:wS N l)(m:Bool)(hm:m=false)(x y:Tm)(hsx:zL x=true)(hsy:zL y=true)(f:Int)(hf:0≤f)(hB:BC l f (wtT l x+wtT l y)):HX (fun L U q=>zQZ l m L U 0 q x y) (HdR (Cv l) m (sG l m x y)) f:=by
 subst hm
 exact zGi l hE x y hsx hsy f hf hB
def zBJ(qq:Nat)(M:yY):Option Int:=
 some (M.l.length:Int)
theorem zRy{qq M r}(h:zBJ qq M=some r):Ct 113 [mB M 1,mR M] [.mp 0 0] (ai r) [mB M 1,mR M] 0:=⟨by
 unfold zBJ at h
 cases h
 exact tF ⟨Tryz.func113,rfl⟩ 3 [0,1] (oD (dC M.parts)<|oD (dE M.rl)<|oD (dI M.own)<|oD (dI M.args)<|oD (dE M.l) o0),⟨(lz rfl),tv⟩,(fMa (lz rfl) zB),tv,(fMf (lz rfl) zB)⟩
def O6(qq:Nat)(q0 q1:List Ent)(q2:List yX)(q3 q4:List Int)(q5:List Ent)(q6 q7 q8 q9 q10:Int)(q11:List Tm)(q12 q13:Int)(q14:List Tm):Option (Bool×Int×Int×Int):=
 vH qq q0 q1 q2 q3 q4 q5 q6 q7 q8 (Tm.mk q9 q10 q11) (Tm.mk q12 q13 q14)>>=fun r1=>
 some (r1.1,r1.2.1,r1.2.2.1,r1.2.2.2)
theorem zIs{qq q0 q1 q2 q3 q4 q5 q6 q7 q8 q9 q10 q11 q12 q13 q14 r}(h:O6 qq q0 q1 q2 q3 q4 q5 q6 q7 q8 q9 q10 q11 q12 q13 q14=some r):Ct 84 [.cells [.mp 1 0,slv yP q5 .no,.mp 3 0,ai q8],qB q0 2 q3 q4,qR q1 q2,.cells [ai q6,ai q7],.cells [ai q9,ai q10,slv zG q11 .no],.cells [ai q12,ai q13,slv zG q14 .no]] [.mp 0 0,.mp 4 0,.mp 5 0] (ab r.1) [.cells [.mp 1 0,slv yP q5 .no,.mp 3 0,ai r.2.1],qB q0 2 q3 q4,qR q1 q2,.cells [ai r.2.2.1,ai r.2.2.2],.cells [ai q9,ai q10,slv zG q11 .no],.cells [ai q12,ai q13,slv zG q14 .no]] 0:=⟨by
 unfold O6 at h
 obtain⟨r1,h2,h⟩:=zC h
 cases h
 exact tF ⟨Tryz.func84,rfl⟩ 0 [0,1,2,3,4,5] (oD (dT q14)<|oD (dT q11)<|oDm q0 q1 q2 q3 q4<|oD (dE q5)<|oC 2 [0,1,2,3] (zQY h2) o0),⟨(lz rfl),(lz rfl),(lz rfl),tv⟩,(zA ⟨(lz rfl),⟨tv,dE _⟩,(lz rfl),tv,tv⟩ (fMa (lz rfl) (zA ⟨tv,tv,tv⟩ (zA ⟨tv,tv,⟨tv,dT _⟩,tv⟩ (zA ⟨tv,tv,⟨tv,dT _⟩,tv⟩ zB))))),tv,(zA ⟨(lz rfl),dE _,(lz rfl),tv,tv⟩ (fMf (lz rfl) (zA ⟨tv,tv,tv⟩ (zA ⟨tv,tv,dT _,tv⟩ (zA ⟨tv,tv,dT _,tv⟩ zB)))))⟩
def e92(qq:Nat)(M:yY):Option (List Ent):=
 e58 qq M.l>>=fun r1=>
 some r1
theorem c92{qq M r}(h:e92 qq M=some r):Ct 92 [mB M 1,mR M] [.mp 0 0] (.sl (zK yP r) r.length .no) [mB M 1,mR M] 0:=⟨by
 unfold e92 at h
 obtain⟨r1,h2,h⟩:=zC h
 obtain rfl:=sj h
 exact tF ⟨Tryz.func92,rfl⟩ 0 [0,1] (oD (dE r1)<|oDM M<|oC 2 [] (c58 h2) o0),⟨(lz rfl),tv⟩,(fMa (lz rfl) zB),dE _,(fMf (lz rfl) zB)⟩
def O7(qq:Nat)(q0 q1:List Ent)(q2:List yX)(q3 q4:List Int)(p1 p2:Tm)(q7 q8 q9 q10:Int)(q11:List Tm)(q12 q13:Int)(q14:List Tm):Option (Bool×Int×Int×Int):=
 zBJ qq (yY.mk q0 q1 q2 q3 q4)>>=fun r1=>
 Z9 qq p1 1048577 r1>>=fun r3=>
 if r3 then
 zBJ qq (yY.mk q0 q1 q2 q3 q4)>>=fun r6=>
 Z9 qq p2 1048577 r6>>=fun r8=>
 if r8 then
 e92 qq (yY.mk q0 q1 q2 q3 q4)>>=fun r11=>
 O6 qq q0 q1 q2 q3 q4 r11 q7 q8 0 q9 q10 q11 q12 q13 q14>>=fun r13=>
 if r13.1 then
 some ((r13.2.1==0),r13.2.1,r13.2.2.1,r13.2.2.2)
 else
 some (false,r13.2.1,r13.2.2.1,r13.2.2.2)
 else
 some (false,5,q7,q8)
 else
 some (false,5,q7,q8)
theorem O8:Qf 83 Tryz.f83:=⟨Tryz.func83,rfl⟩
theorem zRx{qq q0 q1 q2 q3 q4 p1 p2 q7 q8 q9 q10 q11 q12 q13 q14 r}(h:O7 qq q0 q1 q2 q3 q4 p1 p2 q7 q8 q9 q10 q11 q12 q13 q14=some r):Ct 83 [qB q0 1 q3 q4,qR q1 q2,.cells [ai q7,ai q8],.cells [ai q9,ai q10,slv zG q11 .no],.cells [ai q12,ai q13,slv zG q14 .no]] [.mp 0 0,tmA p1,tmA p2,.mp 2 0,.clo 84 [] [.mp 3 0,.mp 4 0]] (.tup [ab r.1,ai r.2.1]) [qB q0 1 q3 q4,qR q1 q2,.cells [ai r.2.2.1,ai r.2.2.2],.cells [ai q9,ai q10,slv zG q11 .no],.cells [ai q12,ai q13,slv zG q14 .no]] 0:=⟨by
 unfold O7 at h
 have z {os ob} (k:Oz os ob):=oD (dT q14)<|oD (dT q11)<|oDm q0 q1 q2 q3 q4<|k
 obtain⟨r1,h2,h⟩:=zC h
 obtain⟨r3,h4,h⟩:=zC h
 have k:=oC 2 [0,1] (zRy h2) o0
 obtain⟨h5,h⟩|⟨h5,h⟩:=spl h
 obtain⟨r6,h7,h⟩:=zC h
 obtain⟨r8,h9,h⟩:=zC h
 have k:=oC 2 [0,1] (zRy h7)<|oK 0 [] h5 (z7 h4) k
 obtain⟨h10,h⟩|⟨h10,h⟩:=spl h
 obtain⟨r11,h12,h⟩:=zC h
 obtain⟨r13,h14,h⟩:=zC h
 have k:=oC 1 [0,1] (c92 h12)<|oK 0 [] h10 (z7 h9) k
 obtain⟨h15,h⟩|⟨h15,h⟩:=spl h
 cases h
 exact tF O8 3 [0,1,2,3,4] (z<|oK 0 [7,0,1,2,3,4] h15 (zIs h14) k)
 cases h
 exact tF O8 1 [0,1,2,3,4] (z<|oK 0 [7,0,1,2,3,4] h15 (zIs h14) k)
 cases h
 exact tF O8 1 [0,1,2,3,4] (z<|oK 0 [] h10 (z7 h9) k)
 cases h
 exact tF O8 1 [0,1,2,3,4] (z<|oK 0 [] h5 (z7 h4) k),⟨(lz rfl),⟨tv,tv,⟨tv,dT _⟩,tv⟩,⟨tv,tv,⟨tv,dT _⟩,tv⟩,(lz rfl),⟨tv,⟨(lz rfl),(lz rfl),tv⟩⟩,tv⟩,(fMa (lz rfl) (zA ⟨tv,tv,tv⟩ (zA ⟨tv,tv,⟨tv,dT _⟩,tv⟩ (zA ⟨tv,tv,⟨tv,dT _⟩,tv⟩ zB)))),⟨tv,tv,tv⟩,(fMf (lz rfl) (zA ⟨tv,tv,tv⟩ (zA ⟨tv,tv,dT _,tv⟩ (zA ⟨tv,tv,dT _,tv⟩ zB))))⟩
def e55(qq:Nat)(M:yY)(p1 p2:Tm)(fl fu:Int):Option (Bool×Int×Int×Int):=
 O7 qq M.l M.rl M.parts M.args M.own p1 p2 fl fu p1.k p1.n p1.sub p2.k p2.n p2.sub>>=fun r1=>
 some (r1.1,r1.2.1,r1.2.2.1,r1.2.2.2)
theorem c55{qq M p1 p2 fl fu r}(h:e55 qq M p1 p2 fl fu=some r):Ct 55 [mB M 1,mR M,.cells [ai fl,ai fu]] [.mp 0 0,tmA p1,tmA p2,.mp 2 0] (.tup [ab r.1,ai r.2.1]) [mB M 1,mR M,.cells [ai r.2.2.1,ai r.2.2.2]] 0:=⟨by
 unfold e55 at h
 obtain⟨r1,h2,h⟩:=zC h
 cases h
 exact tF ⟨Tryz.func55,rfl⟩ 2 [0,1,2] (oDM M<|oC 2 [0,1,2,3,4] (zRx h2) o0),⟨(lz rfl),⟨tv,tv,⟨tv,dT _⟩,tv⟩,⟨tv,tv,⟨tv,dT _⟩,tv⟩,(lz rfl),tv⟩,(fMa (lz rfl) (zA ⟨tv,tv,tv⟩ zB)),⟨tv,tv,tv⟩,(fMf (lz rfl) (zA ⟨tv,tv,tv⟩ zB))⟩
theorem zOv{N:ByteArray->Bool}(l:List Ent)(hE:wS N l)(he:∀e∈l,EOk e):∀(F n:Nat) (m:Bool) (x y:Tm),x.Ok->y.Ok->wtT l x+wtT l y≤n->HC l m x y (F:Int):=by
 intro F
 induction F using Nat.strongRecOn with
 |ind F IH=>
  intro n
  induction n with
  |zero=>intro m x y _ _ h;have:=zBb l x;omega
  |succ n ih=>
   intro m x y hx hy hn
   have fin:∀(m:Bool),m=false->∀(k:Int) (x' y':Tm) (j1 j2:Int),vR l x->vR l y->Br l x x' 0 j1->Br l y y' 0 j2->k=j1+j2->k≤F->Ou (fun L U q=>zQZ l m L U 0 q x' y'>>=fun r4=>some (r4.1,r4.2.1,r4.2.2.1,r4.2.2.2)) zEl (fun R n=>QX (Cv l m x y) R (k+n)) (∀b k,Cv l m x y b k->(F:Int)<k) ((F:Int)-k):=fun m hm k x' y' j1 j2 hR1 hR2 hb1 hb2 hk k1=>by
    have n1:=hb1.nn
    have n2:=hb2.nn
    have hB:BC l ((F:Int)-k) (wtT l x'+wtT l y'):=fun m p q hp hq hw g g0 g1=>by
     by_cases hk0:k≤0
     ·have e1:=hb1.zero rfl (by omega)
      have e2:=hb2.zero rfl (by omega)
      subst e1;subst e2
      by_cases hg:g=F
      ·subst hg
       exact ih m p q hp hq (by omega)
      ·have:=IH g.toNat (by omega) (wtT l p+wtT l q) m p q hp hq (Nat.le_refl _)
       rwa[show ((g.toNat:Nat):Int)=g by omega]at this
     ·have:=IH g.toNat (by omega) (wtT l p+wtT l q) m p q hp hq (Nat.le_refl _)
      rwa[show ((g.toNat:Nat):Int)=g by omega]at this
    have h:=HX.same (zKe l hE m hm x' y' (hb1.shaped hR1.shaped rfl) (hb2.shaped hR2.shaped rfl) ((F:Int)-k) (by omega) hB)
    refine Ou.mono h ?_ fun hs b k' hc=>?_
    ·rintro R n _ _ ⟨b,e,h8,h0,hn',rfl⟩
     refine⟨b,e,h8,fun he=>?_,fun he=>⟨(hn' he).1,fun b' k' hc=>?_⟩,rfl⟩
     ·have:=Cv.mk hR1 hR2 hb1 hb2 (h0 he)
      rwa[hk]
     ·obtain⟨-,-,x1,i1,y1,i2,i3,h1,h2,h3,-⟩:=hc.inv
      obtain⟨rfl,-,-⟩:=hb1.det h1
      obtain⟨rfl,-,-⟩:=hb2.det h2
      exact(hn' he).2 _ _ h3
    ·obtain⟨-,-,x1,i1,y1,i2,i3,h1,h2,h3,rfl⟩:=hc.inv
     obtain⟨rfl,-,rfl⟩:=hb1.det h1
     obtain⟨rfl,-,rfl⟩:=hb2.det h2
     have:=hs _ _ h3
     omega
   cases m
   ·refine Ou.succ ?_
    simp only[X3,vH]
    refine Ou.bind (zOw l hE he x y hx hy F (by omega)) (fun h b k hc=>h _ _ _ hc) (fun r hr=>?_) ?_
    ·have:=zVV hr
     refine⟨_,Evt.ifF this.1 Evt.ret,?_⟩
     unfold zEl
     rw[if_neg (by simp)];exact this.2
    ·rintro R k k0 k1 (⟨x',j1,y',j2,hR1,hR2,hb1,hb2,rfl,rfl⟩|⟨a,b,e,e0,e8,hno,rfl⟩)
     ·exact Ou.ifT rfl (fin false rfl (j1+j2) x' y' j1 j2 hR1 hR2 hb1 hb2 rfl k1)
     ·exact Ou.ifF rfl (Ou.ret (by omega) (jY e8 e0 fun b k=>hno _ b k))
   ·exact zOx l x y F (by omega)
noncomputable def zVW(l:List Ent)(m:Bool)(L U:Int)(q:Nat)(x y:Tm):Option (Bool×Int×Int×Int):=match m with
 |false=>e55 q (xH l) x y L U
 |true=>some (zGk l L U 0 x y)
theorem zRw{N:ByteArray->Bool}(l:List Ent)(hE:wS N l)(he:∀e∈l,EOk e)(hl:l.length≤65535)(hc:∀e∈l,ECl e)(m:Bool)(x y:Tm)(hx:x.Ok)(hy:y.Ok)(f:Int)(hf:0≤f):HX (fun L U q=>zVW l m L U q x y) (Cv l m x y) f:=by
 have hC:=zOv l hE he f.toNat (wtT l x+wtT l y) m x y hx hy (Nat.le_refl _)
 rw[show ((f.toNat:Nat):Int)=f by omega]at hC
 have hLen:Evt (fun q=>zBJ q (xH l)) (l.length:Int):=Evt.mk fun _=>rfl
 have hEnt:Evt (fun q=>e92 q (xH l)) l:=by
  simp only[e92]
  exact((aT l hl he hc).eq (fY hE)).bind Evt.ret
 have post:HX (fun L U q=>(X3 l m L U 0 q x y>>=fun r1=>some (r1.1,r1.2.1,r1.2.2.1,r1.2.2.2))>>=fun r13=>if r13.1=true then some ((r13.2.1==0),r13.2.1,r13.2.2.1,r13.2.2.2)else some (false,r13.2.1,r13.2.2.1,r13.2.2.2)) (Cv l m x y) f:=by
  refine Ou.bind (HX.same hC) id (fun r hr=>?_) ?_
  ·have:=zBI hr
   refine⟨_,Evt.ifF this.1 Evt.ret,?_⟩
   unfold zEl
   rw[if_neg (by simp)];exact this.2
  ·rintro R k k0 k1 ⟨b,e,h8,h0,hn,rfl⟩
   dsimp only
   by_cases e0:e=0
   ·subst e0
    have hX:=h0 rfl
    cases b with
    |true=>exact Ou.ifT rfl (Ou.ret (by omega) (X4 (b:=true) (by rwa[Int.add_zero])))
    |false=>exact Ou.ifF rfl (Ou.ret (by omega) (X4 (by rwa[Int.add_zero])))
   ·obtain⟨rfl,hno⟩:=hn e0
    exact Ou.ifF rfl (Ou.ret (by omega) (jY h8 e0 hno))
 have bad1:¬vR l x->∀b k,¬Cv l m x y b k:=fun h b k hc=>h hc.inv.1
 have bad2:¬vR l y->∀b k,¬Cv l m x y b k:=fun h b k hc=>h hc.inv.2.1
 cases m with
 |false=>
  simp only[zVW,e55,O7]
  refine HX.same ?_
  refine Ou.evt hLen (Ou.evt (lJ x 1048577 l.length hx) (Ou.ite (fun h1=>?_) fun h1=>?_))
  ·refine Ou.evt hLen (Ou.evt (lJ y 1048577 l.length hy) (Ou.ite (fun h2=>?_) fun h2=>?_))
   ·refine Ou.evt hEnt ?_
    simp only[O6,sC]
    exact post
   ·exact Ou.ret hf (jY (by decide) (by decide) (bad2 (by unfold vR;rw[h2];simp)))
  ·exact Ou.ret hf (jY (by decide) (by decide) (bad1 (by unfold vR;rw[h1];simp)))
 |true=>exact zOx l x y f hf
def zOu(qq:Nat)(M:yY)(p1:Int):Option Int:=
 if decide (p1<0)then
 some 0
 else
 if decide (p1≥(M.l.length:Int))then
 some 0
 else
 zS M.l p1>>=fun x3=>
 some x3.fam
theorem zTF:Qf 214 Tryz.f214:=⟨Tryz.func214,rfl⟩
theorem zXj{qq M p1 r}(h:zOu qq M p1=some r):Ct 214 [mB M 1,mR M] [.mp 0 0,ai p1] (ai r) [mB M 1,mR M] 0:=⟨by
 unfold zOu at h
 obtain⟨h1,h⟩|⟨h1,h⟩:=spl h
 obtain rfl:=sj h
 exact tF zTF 0 [0,1] (oDM M<|oB 1 h1 o0)
 have k:=oB 1 h1 o0
 obtain⟨h2,h⟩|⟨h2,h⟩:=spl h
 obtain rfl:=sj h
 exact tF zTF 0 [0,1] (oDM M<|oB 2 h2 k)
 obtain⟨x3,h4,h⟩:=zC h
 obtain rfl:=sj h
 exact tF zTF 1 [0,1] (oDM M<|oA 1 (xL (o:=.no) h4)<|oB 2 h2 k),⟨(lz rfl),tv,tv⟩,(fMa (lz rfl) zB),tv,(fMf (lz rfl) zB)⟩
def gZ(qq:Nat)(q0 q1:List Ent)(q2:List yX)(q3 q4:List Int)(q5 q6:Int)(q7:List zD)(q8:List zH)(q9 q10 q11:Nat)(q12:Bool)(q13:List zD)(q14:List zI)(q15 q16:Nat)(q17:List Int)(q18:Bool)(q19 p1:Int):Option Int:=
 zOu qq (yY.mk q0 q1 q2 q3 q4) p1>>=fun r1=>
 some r1
theorem zEg{qq q0 q1 q2 q3 q4 q5 q6 q7 q8 q9 q10 q11 q12 q13 q14 q15 q16 q17 q18 q19 p1 r}(h:gZ qq q0 q1 q2 q3 q4 q5 q6 q7 q8 q9 q10 q11 q12 q13 q14 q15 q16 q17 q18 q19 p1=some r):Ct 177 [.cells [.mp 1 0,.mp 3 0,slv zJ q7 .no,.ms 4 (q10*6) q9 q11 6,ab q12,.ms 5 0 q13.length q13.length 4,.ms 6 0 q15 q16 4,.ms 7 0 q17.length q17.length 1,ab q18,ai q19],qB q0 2 q3 q4,qR q1 q2,.cells [ai q5,ai q6],.row (zK zP q8),.row (zK zJ q13),.row (zK zO q14),.row (zK yB q17)] [.mp 0 0,ai p1] (ai r) [.cells [.mp 1 0,.mp 3 0,slv zJ q7 .no,.ms 4 (q10*6) q9 q11 6,ab q12,.ms 5 0 q13.length q13.length 4,.ms 6 0 q15 q16 4,.ms 7 0 q17.length q17.length 1,ab q18,ai q19],qB q0 2 q3 q4,qR q1 q2,.cells [ai q5,ai q6],.row (zK zP q8),.row (zK zJ q13),.row (zK zO q14),.row (zK yB q17)] 0:=⟨by
 unfold gZ at h
 obtain⟨r1,h2,h⟩:=zC h
 obtain rfl:=sj h
 exact tF ⟨Tryz.func177,rfl⟩ 0 [0,1,2,3,4,5,6,7] (oD (dI q17)<|oD (zM q14)<|oD (zF q13)<|oD (zN q8)<|oDm q0 q1 q2 q3 q4<|oD (zF q7)<|oC 1 [1,2] (zXj h2) o0),⟨(lz rfl),tv,tv⟩,(zA ⟨(lz rfl),(lz rfl),⟨tv,zF _⟩,(lz rfl),tv,(lz rfl),(lz rfl),(lz rfl),tv,tv,tv⟩ (fMa (lz rfl) (zA ⟨tv,tv,tv⟩ (zA (zN _) (zA (zF _) (zA (zM _) (zA (dI _) zB))))))),tv,(zA ⟨(lz rfl),(lz rfl),zF _,(lz rfl),tv,(lz rfl),(lz rfl),(lz rfl),tv,tv,tv⟩ (fMf (lz rfl) (zA ⟨tv,tv,tv⟩ (zA (zN _) (zA (zF _) (zA (zM _) (zA (dI _) zB)))))))⟩
def zGh(qq:Nat)(p0:Int):Option Int:=
 if p0==0 then
 some 13
 else
 some p0
theorem zVX:Qf 178 Tryz.f178:=⟨Tryz.func178,rfl⟩
theorem zTG{qq p0 r}(h:zGh qq p0=some r):Ct 178 [] [ai p0] (ai r) [] 0:=⟨by
 unfold zGh at h
 obtain⟨h1,h⟩|⟨h1,h⟩:=spl h
 obtain rfl:=sj h
 exact tF zVX 0 [] (oB 0 h1 o0)
 obtain rfl:=sj h
 exact tF zVX 0 [] (oB 0 h1 o0),⟨tv,tv⟩,zB,tv,zB⟩
def uN:Nat->List Ent->List Ent->List yX->List Int->List Int->List zD->List zH->Nat->Nat->Nat->Bool->List zD->List zI->Nat->Nat->List Int->Bool->Int->(Int×List Tm×Bool)->(Int×List Tm×Bool)->Int->Int->Int->List zH->Option ((Bool×List zH×Nat×Nat×Nat×List Int×Bool×Int×Int×Int) ⊕ ((Bool×List zH×Nat×Nat×Nat×List Int×Int×Int×Int) ⊕ (Bool×List zH×List Int×Bool×Int×Int×Int)))
 |0,_,_,_,_,_,_,_,_,_,_,_,_,_,_,_,_,_,_,_,_,_,_,_,_=>none
 |qq+1,q0,q1,q2,q3,q4,q7,q8,q9,q10,q11,q12,q13,q14,q15,q16,q17,q18,q19,r1,r4,v62,xP,wI,wF=>
 if decide (v62<(r1.2.1.length:Int))then
 zKr qq (yY.mk q0 q1 q2 q3 q4) r1.1>>=fun r16=>
 if decide (v62≥r16)then
 zS r1.2.1 v62>>=fun x19=>
 zS r4.2.1 v62>>=fun x21=>
 yN 80 wF [(zH.mk x19 x21)]>>=fun l23=>
 uN qq q0 q1 q2 q3 q4 q7 q8 q9 q10 q11 q12 q13 q14 q15 q16 q17 q18 q19 r1 r4 (w64 (v62+1)) xP wI l23
 else
 zS r1.2.1 v62>>=fun x25=>
 zS r4.2.1 v62>>=fun x27=>
 e55 qq (yY.mk q0 q1 q2 q3 q4) x25 x27 xP wI>>=fun r29=>
 if r29.1 then
 if r29.2.1 != 0 then
 zGh qq r29.2.1>>=fun r33=>
 some (.inl (true,q8,q9,q10,q11,q17,q18,r33,r29.2.2.1,r29.2.2.2))
 else
 uN qq q0 q1 q2 q3 q4 q7 q8 q9 q10 q11 q12 q13 q14 q15 q16 q17 q18 q19 r1 r4 (w64 (v62+1)) r29.2.2.1 r29.2.2.2 wF
 else
 if r29.2.1 != 0 then
 zGh qq r29.2.1>>=fun r36=>
 some (.inl (true,q8,q9,q10,q11,q17,q18,r36,r29.2.2.1,r29.2.2.2))
 else
 zGh qq r29.2.1>>=fun r38=>
 some (.inl (true,q8,q9,q10,q11,q17,q18,r38,r29.2.2.1,r29.2.2.2))
 else
 if decide (q9=0)then
 qH qq q0 q1 q2 q3 q4 xP wI q7 wF wF.length 0 wF.length q12 q13 q14 q15 q16 q17 q18 q19 2>>=fun r41=>
 some (.inr (.inr (true,wF,r41,q18,q19,xP,wI)))
 else
 eV q8 q10 q9>>=fun m43=>
 yN 80 wF m43>>=fun l45=>
 qH qq q0 q1 q2 q3 q4 xP wI q7 l45 l45.length 0 l45.length q12 q13 q14 q15 q16 q17 q18 q19 2>>=fun r47=>
 some (.inr (.inr (true,l45,r47,q18,q19,xP,wI)))
def fA(qq:Nat)(q0 q1:List Ent)(q2:List yX)(q3 q4:List Int)(q5 q6:Int)(q7:List zD)(q8:List zH)(q9 q10 q11:Nat)(q12:Bool)(q13:List zD)(q14:List zI)(q15 q16:Nat)(q17:List Int)(q18:Bool)(q19:Int)(p1:zH):Option ((Bool×List zH×Nat×Nat×Nat×List Int×Bool×Int×Int×Int) ⊕ ((Bool×List zH×Nat×Nat×Nat×List Int×Int×Int×Int) ⊕ (Bool×List zH×List Int×Bool×Int×Int×Int))):=
 V7 qq (yY.mk q0 q1 q2 q3 q4) p1.a_>>=fun r1=>
 if r1.2.2 then
 V7 qq (yY.mk q0 q1 q2 q3 q4) p1.b_>>=fun r4=>
 if r4.2.2 then
 gZ qq q0 q1 q2 q3 q4 q5 q6 q7 q8 q9 q10 q11 q12 q13 q14 q15 q16 q17 q18 q19 r1.1>>=fun r7=>
 gZ qq q0 q1 q2 q3 q4 q5 q6 q7 q8 q9 q10 q11 q12 q13 q14 q15 q16 q17 q18 q19 r4.1>>=fun r9=>
 if r7 != r9 then
 some (.inl (false,q8,q9,q10,q11,q17,q18,q19,q5,q6))
 else
 if r1.1 != r4.1 then
 qH qq q0 q1 q2 q3 q4 q5 q6 q7 q8 q9 q10 q11 q12 q13 q14 q15 q16 q17 q18 q19 4>>=fun r13=>
 some (.inr (.inl (true,q8,q9,q10,q11,r13,q19,q5,q6)))
 else
 uN qq q0 q1 q2 q3 q4 q7 q8 q9 q10 q11 q12 q13 q14 q15 q16 q17 q18 q19 r1 r4 0 q5 q6 ([]:List zH)
 else
 some (.inl (false,q8,q9,q10,q11,q17,q18,q19,q5,q6))
 else
 V7 qq (yY.mk q0 q1 q2 q3 q4) p1.b_>>=fun r15=>
 if r15.2.2 then
 some (.inl (false,q8,q9,q10,q11,q17,q18,q19,q5,q6))
 else
 some (.inl (false,q8,q9,q10,q11,q17,q18,q19,q5,q6))
section
variable (q0 q1:List Ent) (q2:List yX) (q3 q4:List Int) (q5 q6:Int) (q7:List zD) (q8:List zH) (q9 q10 q11:Nat) (q12:Bool) (q13:List zD) (q14:List zI) (q15 q16:Nat) (q17:List Int) (q18:Bool) (q19:Int) (p1:zH)
abbrev cM (r:Bool×List zH×Nat×Nat×Nat×List Int×Bool×Int×Int×Int) (C:Cf):Prop:=C 141 [.cells [.mp 1 0,.mp 3 0,slv zJ q7 .no,.ms 4 (q10*6) q9 q11 6,ab q12,.ms 5 0 q13.length q13.length 4,.ms 6 0 q15 q16 4,.ms 7 0 q17.length q17.length 1,ab q18,ai q19],qB q0 2 q3 q4,qR q1 q2,.cells [ai q5,ai q6],.row (zK zP q8),.row (zK zJ q13),.row (zK zO q14),.row (zK yB q17)] [.mp 0 0,uS p1] (ab r.1) [.cells [.mp 1 0,.mp 3 0,slv zJ q7 .no,.ms 4 (r.2.2.2.1*6) r.2.2.1 r.2.2.2.2.1 6,ab q12,.ms 5 0 q13.length q13.length 4,.ms 6 0 q15 q16 4,.ms 8 0 r.2.2.2.2.2.1.length r.2.2.2.2.2.1.length 1,ab r.2.2.2.2.2.2.1,ai r.2.2.2.2.2.2.2.1],qB q0 2 q3 q4,qR q1 q2,.cells [ai r.2.2.2.2.2.2.2.2.1,ai r.2.2.2.2.2.2.2.2.2],.row (zK zP q8),.row (zK zJ q13),.row (zK zO q14),.dead,.row (zK yB r.2.2.2.2.2.1)] 0
abbrev cN (r:Bool×List zH×Nat×Nat×Nat×List Int×Int×Int×Int) (C:Cf):Prop:=C 141 [.cells [.mp 1 0,.mp 3 0,slv zJ q7 .no,.ms 4 (q10*6) q9 q11 6,ab q12,.ms 5 0 q13.length q13.length 4,.ms 6 0 q15 q16 4,.ms 7 0 q17.length q17.length 1,ab q18,ai q19],qB q0 2 q3 q4,qR q1 q2,.cells [ai q5,ai q6],.row (zK zP q8),.row (zK zJ q13),.row (zK zO q14),.row (zK yB q17)] [.mp 0 0,uS p1] (ab r.1) [.cells [.mp 1 0,.mp 3 0,slv zJ q7 .no,.ms 4 (r.2.2.2.1*6) r.2.2.1 r.2.2.2.2.1 6,ab q12,.ms 5 0 q13.length q13.length 4,.ms 6 0 q15 q16 4,.ms 8 0 r.2.2.2.2.2.1.length r.2.2.2.2.2.1.length 1,ab true,ai r.2.2.2.2.2.2.1],qB q0 2 q3 q4,qR q1 q2,.cells [ai r.2.2.2.2.2.2.2.1,ai r.2.2.2.2.2.2.2.2],.row (zK zP q8),.row (zK zJ q13),.row (zK zO q14),.dead,.row (zK yB r.2.2.2.2.2.1)] 0
abbrev zGg (r:Bool×List zH×List Int×Bool×Int×Int×Int) (C:Cf):Prop:=C 141 [.cells [.mp 1 0,.mp 3 0,slv zJ q7 .no,.ms 4 (q10*6) q9 q11 6,ab q12,.ms 5 0 q13.length q13.length 4,.ms 6 0 q15 q16 4,.ms 7 0 q17.length q17.length 1,ab q18,ai q19],qB q0 2 q3 q4,qR q1 q2,.cells [ai q5,ai q6],.row (zK zP q8),.row (zK zJ q13),.row (zK zO q14),.row (zK yB q17)] [.mp 0 0,uS p1] (ab r.1) [.cells [.mp 1 0,.mp 3 0,slv zJ q7 .no,.ms 8 0 r.2.1.length r.2.1.length 6,ab q12,.ms 5 0 q13.length q13.length 4,.ms 6 0 q15 q16 4,.ms 9 0 r.2.2.1.length r.2.2.1.length 1,ab r.2.2.2.1,ai r.2.2.2.2.1],qB q0 2 q3 q4,qR q1 q2,.cells [ai r.2.2.2.2.2.1,ai r.2.2.2.2.2.2],.row (zK zP q8),.row (zK zJ q13),.row (zK zO q14),.dead,.row (zK zP r.2.1),.row (zK yB r.2.2.1)] 0
end
theorem pL:Qf 141 Tryz.f141:=⟨Tryz.func141,rfl⟩
theorem nO{q0 q1 q2 q3 q4 q5 q6 q7 q8 q9 q10 q11 q12 q13 q14 q15 q16 q17 q18 q19 p1 r}(h:cM q0 q1 q2 q3 q4 q5 q6 q7 q8 q9 q10 q11 q12 q13 q14 q15 q16 q17 q18 q19 p1 r Ci):cM q0 q1 q2 q3 q4 q5 q6 q7 q8 q9 q10 q11 q12 q13 q14 q15 q16 q17 q18 q19 p1 r Ct:=⟨h,⟨(lz rfl),⟨tv,tv,⟨tv,dT _⟩,tv,tv,⟨tv,dT _⟩,tv⟩,tv⟩,(zA ⟨(lz rfl),(lz rfl),⟨tv,zF _⟩,(lz rfl),tv,(lz rfl),(lz rfl),(lz rfl),tv,tv,tv⟩ (fMa (lz rfl) (zA ⟨tv,tv,tv⟩ (zA (zN _) (zA (zF _) (zA (zM _) (zA (dI _) zB))))))),tv,(zA ⟨(lz rfl),(lz rfl),zF _,(lz rfl),tv,(lz rfl),(lz rfl),(lz rfl),tv,tv,tv⟩ (fMf (lz rfl) (zA ⟨tv,tv,tv⟩ (zA (zN _) (zA (zF _) (zA (zM _) (zA tv (zA (dI _) zB))))))))⟩
theorem X6{q0 q1 q2 q3 q4 q5 q6 q7 q8 q9 q10 q11 q12 q13 q14 q15 q16 q17 q18 q19 p1 r}(h:cN q0 q1 q2 q3 q4 q5 q6 q7 q8 q9 q10 q11 q12 q13 q14 q15 q16 q17 q18 q19 p1 r Ci):cN q0 q1 q2 q3 q4 q5 q6 q7 q8 q9 q10 q11 q12 q13 q14 q15 q16 q17 q18 q19 p1 r Ct:=⟨h,⟨(lz rfl),⟨tv,tv,⟨tv,dT _⟩,tv,tv,⟨tv,dT _⟩,tv⟩,tv⟩,(zA ⟨(lz rfl),(lz rfl),⟨tv,zF _⟩,(lz rfl),tv,(lz rfl),(lz rfl),(lz rfl),tv,tv,tv⟩ (fMa (lz rfl) (zA ⟨tv,tv,tv⟩ (zA (zN _) (zA (zF _) (zA (zM _) (zA (dI _) zB))))))),tv,(zA ⟨(lz rfl),(lz rfl),zF _,(lz rfl),tv,(lz rfl),(lz rfl),(lz rfl),tv,tv,tv⟩ (fMf (lz rfl) (zA ⟨tv,tv,tv⟩ (zA (zN _) (zA (zF _) (zA (zM _) (zA tv (zA (dI _) zB))))))))⟩
theorem fB:∀qq:Nat,(∀ {q0 q1 q2 q3 q4 q7 q8 q9 q10 q11 q12 q13 q14 q15 q16 q17 q18 q19 r1 r4 v62 xP wI wF r},uN qq q0 q1 q2 q3 q4 q7 q8 q9 q10 q11 q12 q13 q14 q15 q16 q17 q18 q19 r1 r4 v62 xP wI wF=some r->(∀j,dL 8 (pt 1048501 Tryz.f141) (sp j 133 0 [(0,.mp 0 0),(5,ai r1.1),(6,slv zG r1.2.1 .no),(9,slv zG r4.2.1 .no),(11,.ms 8 0 wF.length wF.length 6),(61,ai (r1.2.1.length:Int)),(62,ai v62)]) (⟨[(0,.cells [.mp 1 0,.mp 3 0,slv zJ q7 .no,.ms 4 (q10*6) q9 q11 6,ab q12,.ms 5 0 q13.length q13.length 4,.ms 6 0 q15 q16 4,.ms 9 0 q17.length q17.length 1,ab q18,ai q19]),(1,qB q0 2 q3 q4),(2,qR q1 q2),(3,.cells [ai xP,ai wI]),(4,.row (zK zP q8)),(5,.row (zK zJ q13)),(6,.row (zK zO q14)),(7,.dead),(8,.row (zK zP wF)),(9,.row (zK yB q17))],10,[],0,[]⟩) (fQ 8 ((match (generalizing:=false) r with | .inl x=>nQ 8 Tryz.f141 (ab x.1) [.cells [.mp 1 0,.mp 3 0,slv zJ q7 .no,.ms 4 (x.2.2.2.1*6) x.2.2.1 x.2.2.2.2.1 6,ab q12,.ms 5 0 q13.length q13.length 4,.ms 6 0 q15 q16 4,.ms 8 0 x.2.2.2.2.2.1.length x.2.2.2.2.2.1.length 1,ab x.2.2.2.2.2.2.1,ai x.2.2.2.2.2.2.2.1],qB q0 2 q3 q4,qR q1 q2,.cells [ai x.2.2.2.2.2.2.2.2.1,ai x.2.2.2.2.2.2.2.2.2],.row (zK zP q8),.row (zK zJ q13),.row (zK zO q14),.dead,.row (zK yB x.2.2.2.2.2.1)] 0 | .inr (.inl x)=>nQ 8 Tryz.f141 (ab x.1) [.cells [.mp 1 0,.mp 3 0,slv zJ q7 .no,.ms 4 (x.2.2.2.1*6) x.2.2.1 x.2.2.2.2.1 6,ab q12,.ms 5 0 q13.length q13.length 4,.ms 6 0 q15 q16 4,.ms 8 0 x.2.2.2.2.2.1.length x.2.2.2.2.2.1.length 1,ab true,ai x.2.2.2.2.2.2.1],qB q0 2 q3 q4,qR q1 q2,.cells [ai x.2.2.2.2.2.2.2.1,ai x.2.2.2.2.2.2.2.2],.row (zK zP q8),.row (zK zJ q13),.row (zK zO q14),.dead,.row (zK yB x.2.2.2.2.2.1)] 0 | .inr (.inr x)=>nQ 8 Tryz.f141 (ab x.1) [.cells [.mp 1 0,.mp 3 0,slv zJ q7 .no,.ms 8 0 x.2.1.length x.2.1.length 6,ab q12,.ms 5 0 q13.length q13.length 4,.ms 6 0 q15 q16 4,.ms 9 0 x.2.2.1.length x.2.2.1.length 1,ab x.2.2.2.1,ai x.2.2.2.2.1],qB q0 2 q3 q4,qR q1 q2,.cells [ai x.2.2.2.2.2.1,ai x.2.2.2.2.2.2],.row (zK zP q8),.row (zK zJ q13),.row (zK zO q14),.dead,.row (zK zP x.2.1),.row (zK yB x.2.2.1)] 0)) [.blk 0,.seq (pt 16383 Tryz.f141)]))):=by
 intro qq
 induction qq with
 |zero=>
  exact fun h=>nn h
 |succ qq ih=>
  intro q0 q1 q2 q3 q4 q7 q8 q9 q10 q11 q12 q13 q14 q15 q16 q17 q18 q19 r1 r4 v62 xP wI wF r h
  rw[uN]at h
  have z {os ob} (k:Oz os ob):=oD (zM q14)<|oD (zF q13)<|oD (zN q8)<|oDm q0 q1 q2 q3 q4<|oD (zF q7)<|k
  obtain⟨h15,h⟩|⟨h15,h⟩:=spl h
  obtain⟨r16,h17,h⟩:=zC h
  have k:=oC 1 [1,2] (zVH h17)<|oB 0 h15 o0
  obtain⟨h18,h⟩|⟨h18,h⟩:=spl h
  obtain⟨x19,h20,h⟩:=zC h
  obtain⟨x21,h22,h⟩:=zC h
  obtain⟨l23,h24,h⟩:=zC h
  exact fun j=>lH 1 [] [0,1,2,3,4,5,6,7,10,9] [] [0,5,6,9,11,61,62] (oD (dT r4.2.1)<|oD (dT r1.2.1)<|oD (dI q17)<|oD (zN l23)<|z<|oM 2 (zLC h24 (by simp))<|oA 1 (xB (o:=.no) h22)<|oA 0 (xB (o:=.no) h20)<|oB 0 h18 k) (ih h)
  obtain⟨x25,h26,h⟩:=zC h
  obtain⟨x27,h28,h⟩:=zC h
  obtain⟨r29,h30,h⟩:=zC h
  have k:=oC 2 [1,2,3] (c55 h30)<|oA 1 (xB (o:=.no) h28)<|oA 1 (xB (o:=.no) h26)<|oB 0 h18 k
  obtain⟨h31,h⟩|⟨h31,h⟩:=spl h
  have k:=oB 0 h31 k
  obtain⟨h32,h⟩|⟨h32,h⟩:=spl h
  obtain⟨r33,h34,h⟩:=zC h
  cases h
  exact fun j=>lF 1 [0,1,2,3,4,5,6,7,9] (oD (dI q17)<|z<|oC 0 [] (zTG h34)<|oB 1 h32 k)
  exact fun j=>lH 2 [] [0,1,2,3,4,5,6,7,8,9] [] [0,5,6,9,11,61,62] (oD (dT r4.2.1)<|oD (dT r1.2.1)<|oD (dI q17)<|oD (zN wF)<|z<|oB 1 h32 k) (ih h)
  have k:=oB 0 h31 k
  obtain⟨h35,h⟩|⟨h35,h⟩:=spl h
  obtain⟨r36,h37,h⟩:=zC h
  cases h
  exact fun j=>lF 1 [0,1,2,3,4,5,6,7,9] (oD (dI q17)<|z<|oC 0 [] (zTG h37)<|oB 1 h35 k)
  obtain⟨r38,h39,h⟩:=zC h
  cases h
  exact fun j=>lF 1 [0,1,2,3,4,5,6,7,9] (oD (dI q17)<|z<|oC 1 [] (zTG h39)<|oB 1 h35 k)
  have k:=oA 2 (zJt 8 0 wF.length wF.length)<|oB 0 h15 o0
  obtain⟨h40,h⟩|⟨h40,h⟩:=spl h
  obtain⟨r41,h42,h⟩:=zC h
  cases h
  exact fun j=>lF 0 [0,1,2,3,4,5,6,7,8,10] (oD (dI r41)<|oD (zN wF)<|z<|oC 1 [0,1,2,3,8,5,6,9] (B7 h42)<|oQ 1 (zSl (of_decide_eq_true h40)) k)
  obtain⟨m43,h44,h⟩:=zC h
  obtain⟨l45,h46,h⟩:=zC h
  obtain⟨r47,h48,h⟩:=zC h
  cases h
  exact fun j=>lF 0 [0,1,2,3,4,5,6,7,10,11] (oD (dI r47)<|oD (zN l45)<|z<|oC 1 [0,1,2,3,10,5,6,9] (B7 h48)<|oM 1 (zPx (j:=4) h44 h46 (fun e=>of_decide_eq_false h40 ((dW h44).2.symm.trans e))) k)
theorem lX{qq q0 q1 q2 q3 q4 q5 q6 q7 q8 q9 q10 q11 q12 q13 q14 q15 q16 q17 q18 q19 p1 r}(h:fA qq q0 q1 q2 q3 q4 q5 q6 q7 q8 q9 q10 q11 q12 q13 q14 q15 q16 q17 q18 q19 p1=some r):(match (generalizing:=false) r with | .inl x=>cM q0 q1 q2 q3 q4 q5 q6 q7 q8 q9 q10 q11 q12 q13 q14 q15 q16 q17 q18 q19 p1 x Ct | .inr (.inl x)=>cN q0 q1 q2 q3 q4 q5 q6 q7 q8 q9 q10 q11 q12 q13 q14 q15 q16 q17 q18 q19 p1 x Ct | .inr (.inr x)=>zGg q0 q1 q2 q3 q4 q5 q6 q7 q8 q9 q10 q11 q12 q13 q14 q15 q16 q17 q18 q19 p1 x Ct):=by
 unfold fA at h
 have z {os ob} (k:Oz os ob):=oD (zM q14)<|oD (zF q13)<|oD (zN q8)<|oDm q0 q1 q2 q3 q4<|oD (zF q7)<|k
 have z1 {os ob} (k:Oz os ob):=oD (dI q17)<|oD (zN ([]:List zH))<|k
 obtain⟨r1,h2,h⟩:=zC h
 have k:=oC 2 [1,2] (zNT h2) o0
 obtain⟨h3,h⟩|⟨h3,h⟩:=spl h
 obtain⟨r4,h5,h⟩:=zC h
 have k:=oC 2 [1,2] (zNT h5)<|oB 2 h3 k
 obtain⟨h6,h⟩|⟨h6,h⟩:=spl h
 obtain⟨r7,h8,h⟩:=zC h
 obtain⟨r9,h10,h⟩:=zC h
 have k:=oC 0 [0,1,2,3,4,5,6,7] (zEg h10)<|oC 2 [0,1,2,3,4,5,6,7] (zEg h8)<|oB 2 h6 k
 obtain⟨h11,h⟩|⟨h11,h⟩:=spl h
 cases h
 exact nO (tG pL 0 [(some 7,0,0)] [0,1,2,3,4,5,6,7,9] [] false (oD (dI q17)<|z<|oB 0 h11 k))
 have k:=oB 0 h11 k
 obtain⟨h12,h⟩|⟨h12,h⟩:=spl h
 obtain⟨r13,h14,h⟩:=zC h
 cases h
 exact X6 (tF pL 1 [0,1,2,3,4,5,6,7,9] (oD (dI r13)<|z<|oC 0 [0,1,2,3,4,5,6,7] (B7 h14)<|oB 0 h12 k))
 rcases r with y0 | (y1|y2)
 exact nO (tH pL 1 [(some 7,0,0),(none,11,4102)] [0,1,2,3,4,5,6,7,10,9] [] [0,5,6,9,11,61,62] (oD (dT r4.2.1)<|oD (dT r1.2.1)<|z1<|z<|oB 0 h12 k) (fB _ h))
 exact X6 (tH pL 1 [(some 7,0,0),(none,11,4102)] [0,1,2,3,4,5,6,7,10,9] [] [0,5,6,9,11,61,62] (oD (dT r4.2.1)<|oD (dT r1.2.1)<|z1<|z<|oB 0 h12 k) (fB _ h))
 exact⟨tH pL 1 [(some 7,0,0),(none,11,4102)] [0,1,2,3,4,5,6,7,10,9] [] [0,5,6,9,11,61,62] (oD (dT r4.2.1)<|oD (dT r1.2.1)<|z1<|z<|oB 0 h12 k) (fB _ h),⟨(lz rfl),⟨tv,tv,⟨tv,dT _⟩,tv,tv,⟨tv,dT _⟩,tv⟩,tv⟩,(zA ⟨(lz rfl),(lz rfl),⟨tv,zF _⟩,(lz rfl),tv,(lz rfl),(lz rfl),(lz rfl),tv,tv,tv⟩ (fMa (lz rfl) (zA ⟨tv,tv,tv⟩ (zA (zN _) (zA (zF _) (zA (zM _) (zA (dI _) zB))))))),tv,(zA ⟨(lz rfl),(lz rfl),zF _,(lz rfl),tv,(lz rfl),(lz rfl),(lz rfl),tv,tv,tv⟩ (fMf (lz rfl) (zA ⟨tv,tv,tv⟩ (zA (zN _) (zA (zF _) (zA (zM _) (zA tv (zA (zN _) (zA (dI _) zB)))))))))⟩
 cases h
 exact nO (tG pL 2 [(some 7,0,0)] [0,1,2,3,4,5,6,7,9] [] false (oD (dI q17)<|z<|oB 2 h6 k))
 obtain⟨r15,h16,h⟩:=zC h
 have k:=oC 2 [1,2] (zNT h16)<|oB 2 h3 k
 obtain⟨h17,h⟩|⟨h17,h⟩:=spl h
 cases h
 exact nO (tG pL 1 [(some 7,0,0)] [0,1,2,3,4,5,6,7,9] [] false (oD (dI q17)<|z<|oB 2 h17 k))
 cases h
 exact nO (tG pL 1 [(some 7,0,0)] [0,1,2,3,4,5,6,7,9] [] false (oD (dI q17)<|z<|oB 2 h17 k))
theorem zAy{N:ByteArray->Bool}{l:List Ent}(hE:wS N l)(he:∀e∈l,EOk e)(hl:l.length≤65535)(hc:∀e∈l,ECl e){x y:Tm}(hx:x.Ok)(hy:y.Ok)(L U:Int)(h0:0≤L)(h1:0≤U)(h2:L+U≤1099511627776) :
  Tot (fun q=>e55 q (xH l) x y L U) fun r=>r.1=true->r.2.1=0->∃k,0≤k∧k≤L∧r.2.2.1=L-k∧r.2.2.2=U+k∧Cv l false x y true k:=by
 have h:=zRw l hE he hl hc false x y hx hy L h0
 refine Tot.mono (Ou.met h h1 h2) fun r hr a b=>?_
 rcases hr with hr|⟨R,k,k0,k1,⟨b',e,-,q1,-,rfl⟩,rfl⟩
 ·have:=zBI hr
  rw[this.1]at a;cases a
 ·have b'':e=0:=b
  have a':b'=true:=a
  refine⟨k,k0,k1,rfl,rfl,?_⟩
  have:=q1 b''
  rwa[a']at this
theorem G5(e:Int):Tot (fun q=>zGh q e) fun r=>r≠0:=by
 simp only[zGh]
 exact Tot.ite (fun _=>Tot.ret (by decide)) fun h=>Tot.ret (by simpa using h)
def zTH(l:List Ent)(a b:Tm)(q8:List zH)(q9 q10 q11:Nat)(q17:List Int)(q18:Bool)(L S:Int)
  (x:(Bool×List zH×Nat×Nat×Nat×List Int×Bool×Int×Int×Int) ⊕ ((Bool×List zH×Nat×Nat×Nat×List Int×Int×Int×Int) ⊕ (Bool×List zH×List Int×Bool×Int×Int×Int))):Prop:=
 (∃e fl fu,e≠0∧x = .inl (true,q8,q9,q10,q11,q17,q18,e,fl,fu)) ∨
 (∃fl fu,0≤fl∧fl≤L∧0≤fu∧fl+fu=S∧x = .inr (.inr (true,tI (pX l a) (pX l b)++(q8.drop q10).take q9,q17++[2],q18,0,fl,fu)) ∧
  ∀i:Nat,(i:Int)<(ent l (hdT a).n).pars->∃k,Cv l false (nth (arT a) i) (nth (arT b) i) true k)
theorem zGf{A B:List Tm}{v:Nat}{x y:Tm}(hx:A[v]? = some x)(hy:B[v]? = some y):(tI A B).take (v+1)=(tI A B).take v++[⟨x,y⟩]:=by
 rw[List.take_add_one]
 congr 1
 unfold tI
 rw[List.getElem?_zipWith,hx,hy];rfl
theorem zVY{A:List Tm}{v:Nat}{x:Tm}(h:A[v]? = some x):nth A (v:Int)=x:=by
 have h1:=uL (l:=A) (n:=(v:Int)) (by omega) (by have:=(List.getElem?_eq_some_iff.1 h).1;omega)
 have h2:=vG h
 rw[h1]at h2
 exact Option.some.inj h2
theorem G6{N:ByteArray->Bool}{l:List Ent}(hE:wS N l)(he:∀e∈l,EOk e)(hl:l.length≤65535)(hc:∀e∈l,ECl e){a b:Tm}(hsa:zL a=true)(hsb:zL b=true)(ha:vW l a)(hb:vW l b)(hn:(hdT a).n=(hdT b).n)
  (q7:List zD) (q8:List zH) (q9 q10 q11:Nat) (q12:Bool) (q13:List zD) (q14:List zI) (q15 q16:Nat) (q17:List Int) (q18:Bool) (L S:Int) (hS:S≤1099511627776)
  (h9:q10+q9≤q8.length) (h8:q8.length≤1048576000) (h17:q17.length≤1048576000) :
  ∀(k v:Nat) (fl fu:Int) (more:List zH),v+k=(arT a).length->0≤fl->fl≤L->0≤fu->fl+fu=S->(∀i:Nat,i<v->(i:Int)<(ent l (hdT a).n).pars->∃k,Cv l false (nth (arT a) i) (nth (arT b) i) true k)->more=((tI (arT a) (arT b)).take v).drop (ent l (hdT a).n).pars.toNat ->
   Tot (fun q=>uN q l l (evA l l.length 0) (l.map xS) (l.map sD) q7 q8 q9 q10 q11 q12 q13 q14 q15 q16 q17 q18 0 ((hdT a).n,arT a,true) ((hdT b).n,arT b,true) (v:Int) fl fu more) (zTH l a b q8 q9 q10 q11 q17 q18 L S)
 |0,v,fl,fu,more,hv,f0,f1,f2,f3,hp,hm=>by
  have hla:=uV a (zQ hsa).2.2
  have hna:=(zQ hsa).1
  have hvv:v=(arT a).length:=by omega
  have hlab:(arT a).length=(arT b).length:=by rw[(vL hsa ha).2.2.2,(vL hsb hb).2.2.2,hn]
  have hz:(tI (arT a) (arT b)).length=(arT a).length:=by unfold tI;rw[List.length_zipWith];omega
  have hmore:more=tI (pX l a) (pX l b):=by
   rw[hm,List.take_of_length_le (by omega)]
   unfold tI pX
   rw[List.drop_zipWith,hn]
  have hml:more.length≤8192:=by rw[hm];simp;omega
  refine Tot.succ ?_
  simp only[uN,qH]
  refine Tot.ite (fun h=>absurd (of_decide_eq_true h) (by omega)) fun _=>Tot.ite (fun h=>?_) fun h=>?_
  ·have h0:=of_decide_eq_true h
   refine Tot.bind (P:=fun s=>s=q17++[2]) (Tot.pure (yG (by simp;omega)) (Tot.ret rfl)) fun s hs=>Tot.ret (.inr ⟨fl,fu,f0,f1,f2,f3,?_,fun i hi=>?_⟩)
   ·rw[hs,h0,List.take_zero,List.append_nil,hmore]
   ·obtain⟨p,hp',h1,-,-⟩:=eC hE hsa ha
    exact hp i (by omega) hi
  ·refine Tot.pure (a:=(q8.drop q10).take q9) (by unfold eV;rw[if_pos h9]) (Tot.pure (yG (by simp;omega)) (Tot.bind (P:=fun s=>s=q17++[2]) (Tot.pure (yG (by simp;omega)) (Tot.ret rfl)) fun s hs=>Tot.ret (.inr ⟨fl,fu,f0,f1,f2,f3,?_,fun i hi=>?_⟩)))
   ·rw[hs,hmore]
   ·obtain⟨p,hp',h1,-,-⟩:=eC hE hsa ha
    exact hp i (by omega) hi
 |k+1,v,fl,fu,more,hv,f0,f1,f2,f3,hp,hm=>by
  have hla:=uV a (zQ hsa).2.2
  have hna:=(zQ hsa).1
  have hlab:(arT a).length=(arT b).length:=by rw[(vL hsa ha).2.2.2,(vL hsb hb).2.2.2,hn]
  have hz:(tI (arT a) (arT b)).length=(arT a).length:=by unfold tI;rw[List.length_zipWith];omega
  have hva:v<(arT a).length:=by omega
  obtain⟨x,hx⟩:∃x,(arT a)[v]? = some x:=⟨_,List.getElem?_eq_getElem hva⟩
  obtain⟨y,hy⟩:∃y,(arT b)[v]? = some y:=⟨_,List.getElem?_eq_getElem (by omega)⟩
  have hxo:=zV (yS hsa (List.mem_of_getElem? hx))
  have hyo:=zV (yS hsb (List.mem_of_getElem? hy))
  have hml:more.length≤8192:=by rw[hm];simp;omega
  obtain⟨p,hp',h1,h2,h3⟩:=eC hE hsa ha
  refine Tot.succ ?_
  simp only[uN]
  refine Tot.ite (fun _=>Tot.bind (P:=fun r=>r=(p:Int)) ((zEv l h2 h3).tot hp') fun r16 h16=>?_) fun h=>absurd (of_decide_eq_false h) (by omega)
  subst h16
  refine Tot.ite (fun h4=>Tot.pure (vG hx) (Tot.pure (vG hy) (Tot.pure (yG (by simp;omega)) ?_))) fun h4=>Tot.pure (vG hx) (Tot.pure (vG hy) ?_)
  ·have h4':=of_decide_eq_true h4
   rw[zW v (by omega)]
   refine G6 hE he hl hc hsa hsb ha hb hn q7 q8 q9 q10 q11 q12 q13 q14 q15 q16 q17 q18 L S hS h9 h8 h17 k (v+1) fl fu _ (by omega) f0 f1 f2 f3 (fun i hi hip=>hp i (by omega) hip) ?_
   rw[zGf hx hy,hm,List.drop_append_of_le_length (by rw[List.length_take];omega)]
  ·have h4':=of_decide_eq_false h4
   have next:∀fl' fu':Int,(∃k,0≤k∧k≤fl∧fl'=fl-k∧fu'=fu+k∧Cv l false x y true k)->Tot (fun q=>uN q l l (evA l l.length 0) (l.map xS) (l.map sD) q7 q8 q9 q10 q11 q12 q13 q14 q15 q16 q17 q18 0 ((hdT a).n,arT a,true) ((hdT b).n,arT b,true) (w64 ((v:Int)+1)) fl' fu' more) (zTH l a b q8 q9 q10 q11 q17 q18 L S):=fun fl' fu' ⟨j,j0,j1,e1,e2,hcv⟩=>by
    rw[zW v (by omega)]
    refine G6 hE he hl hc hsa hsb ha hb hn q7 q8 q9 q10 q11 q12 q13 q14 q15 q16 q17 q18 L S hS h9 h8 h17 k (v+1) fl' fu' more (by omega) (by omega) (by omega) (by omega) (by omega) (fun i hi hip=>?_) ?_
    ·rcases Nat.lt_or_ge i v with h5|h5
     ·exact hp i h5 hip
     ·have:i=v:=by omega
      subst this
      rw[zVY hx,zVY hy]
      exact⟨j,hcv⟩
    ·rw[zGf hx hy,hm,hp']
     rw[List.drop_eq_nil_of_le (by simp;omega),List.drop_eq_nil_of_le (by simp;omega)]
   refine(zAy hE he hl hc hxo hyo fl fu f0 f2 (by omega)).bind fun r29 h29=>Tot.ite (fun h5=>Tot.ite (fun _=>(G5 _).bind fun r hr=>Tot.ret (.inl ⟨_,_,_,hr,rfl⟩)) fun h6=>next _ _ ?_) fun h5=>Tot.ite (fun _=>(G5 _).bind fun r hr=>Tot.ret (.inl ⟨_,_,_,hr,rfl⟩)) fun h6=>(G5 _).bind fun r hr=>Tot.ret (.inl ⟨_,_,_,hr,rfl⟩)
   obtain⟨k,a1,a2,a3,a4,a5⟩:=h29 h5 (by simpa using h6)
   exact⟨k,a1,a2,a3,a4,a5⟩
def fC(qq:Nat)(q0 q1:List Ent)(q2:List yX)(q3 q4:List Int)(q5 q6:Int)(q7:List zD)(q8:List zH)(q9 q10 q11:Nat)(q12:Bool)(q13:List zD)(q14:List zI)(q15 q16:Nat)(q17:List Int)(q18:Bool)(q19:Int)(p1:zH):Option ((List zH×Nat×Nat×Nat×List Int×Bool×Int×Int×Int) ⊕ ((List zH×Nat×Nat×Nat×List Int×Int×Int×Int) ⊕ (List zH×List Int×Bool×Int×Int×Int))):=
 fA qq q0 q1 q2 q3 q4 q5 q6 q7 q8 q9 q10 q11 q12 q13 q14 q15 q16 q17 q18 q19 p1>>=fun r1=>
 match r1 with
 | .inl y3=>
  if y3.1 then
  some (.inl (q8,y3.2.2.1,y3.2.2.2.1,y3.2.2.2.2.1,y3.2.2.2.2.2.1,y3.2.2.2.2.2.2.1,y3.2.2.2.2.2.2.2.1,y3.2.2.2.2.2.2.2.2.1,y3.2.2.2.2.2.2.2.2.2))
  else
  e55 qq (yY.mk q0 q1 q2 q3 q4) p1.a_ p1.b_ y3.2.2.2.2.2.2.2.2.1 y3.2.2.2.2.2.2.2.2.2>>=fun r5=>
  if r5.1 then
  if r5.2.1 != 0 then
  some (.inl (q8,y3.2.2.1,y3.2.2.2.1,y3.2.2.2.2.1,y3.2.2.2.2.2.1,y3.2.2.2.2.2.2.1,r5.2.1,r5.2.2.1,r5.2.2.2))
  else
  some (.inl (q8,y3.2.2.1,y3.2.2.2.1,y3.2.2.2.2.1,y3.2.2.2.2.2.1,y3.2.2.2.2.2.2.1,12,r5.2.2.1,r5.2.2.2))
  else
  if r5.2.1 != 0 then
  some (.inl (q8,y3.2.2.1,y3.2.2.2.1,y3.2.2.2.2.1,y3.2.2.2.2.2.1,y3.2.2.2.2.2.2.1,r5.2.1,r5.2.2.1,r5.2.2.2))
  else
  some (.inl (q8,y3.2.2.1,y3.2.2.2.1,y3.2.2.2.2.1,y3.2.2.2.2.2.1,y3.2.2.2.2.2.2.1,13,r5.2.2.1,r5.2.2.2))
 | .inr (.inl y10)=>
  if y10.1 then
  some (.inr (.inl (q8,y10.2.2.1,y10.2.2.2.1,y10.2.2.2.2.1,y10.2.2.2.2.2.1,y10.2.2.2.2.2.2.1,y10.2.2.2.2.2.2.2.1,y10.2.2.2.2.2.2.2.2)))
  else
  e55 qq (yY.mk q0 q1 q2 q3 q4) p1.a_ p1.b_ y10.2.2.2.2.2.2.2.1 y10.2.2.2.2.2.2.2.2>>=fun r12=>
  if r12.1 then
  if r12.2.1 != 0 then
  some (.inr (.inl (q8,y10.2.2.1,y10.2.2.2.1,y10.2.2.2.2.1,y10.2.2.2.2.2.1,r12.2.1,r12.2.2.1,r12.2.2.2)))
  else
  some (.inr (.inl (q8,y10.2.2.1,y10.2.2.2.1,y10.2.2.2.2.1,y10.2.2.2.2.2.1,12,r12.2.2.1,r12.2.2.2)))
  else
  if r12.2.1 != 0 then
  some (.inr (.inl (q8,y10.2.2.1,y10.2.2.2.1,y10.2.2.2.2.1,y10.2.2.2.2.2.1,r12.2.1,r12.2.2.1,r12.2.2.2)))
  else
  some (.inr (.inl (q8,y10.2.2.1,y10.2.2.2.1,y10.2.2.2.2.1,y10.2.2.2.2.2.1,13,r12.2.2.1,r12.2.2.2)))
 | .inr (.inr y17)=>
  if y17.1 then
  some (.inr (.inr (y17.2.1,y17.2.2.1,y17.2.2.2.1,y17.2.2.2.2.1,y17.2.2.2.2.2.1,y17.2.2.2.2.2.2)))
  else
  e55 qq (yY.mk q0 q1 q2 q3 q4) p1.a_ p1.b_ y17.2.2.2.2.2.1 y17.2.2.2.2.2.2>>=fun r19=>
  if r19.1 then
  if r19.2.1 != 0 then
  some (.inr (.inr (y17.2.1,y17.2.2.1,y17.2.2.2.1,r19.2.1,r19.2.2.1,r19.2.2.2)))
  else
  some (.inr (.inr (y17.2.1,y17.2.2.1,y17.2.2.2.1,12,r19.2.2.1,r19.2.2.2)))
  else
  if r19.2.1 != 0 then
  some (.inr (.inr (y17.2.1,y17.2.2.1,y17.2.2.2.1,r19.2.1,r19.2.2.1,r19.2.2.2)))
  else
  some (.inr (.inr (y17.2.1,y17.2.2.1,y17.2.2.2.1,13,r19.2.2.1,r19.2.2.2)))
section
variable (q0 q1:List Ent) (q2:List yX) (q3 q4:List Int) (q5 q6:Int) (q7:List zD) (q8:List zH) (q9 q10 q11:Nat) (q12:Bool) (q13:List zD) (q14:List zI) (q15 q16:Nat) (q17:List Int) (q18:Bool) (q19:Int) (p1:zH)
abbrev cO (r:List zH×Nat×Nat×Nat×List Int×Bool×Int×Int×Int) (C:Cf):Prop:=C 103 [.cells [.mp 1 0,.mp 3 0,slv zJ q7 .no,.ms 4 (q10*6) q9 q11 6,ab q12,.ms 5 0 q13.length q13.length 4,.ms 6 0 q15 q16 4,.ms 7 0 q17.length q17.length 1,ab q18,ai q19],qB q0 2 q3 q4,qR q1 q2,.cells [ai q5,ai q6],.row (zK zP q8),.row (zK zJ q13),.row (zK zO q14),.row (zK yB q17)] [.mp 0 0,uS p1] (.tup []) [.cells [.mp 1 0,.mp 3 0,slv zJ q7 .no,.ms 4 (r.2.2.1*6) r.2.1 r.2.2.2.1 6,ab q12,.ms 5 0 q13.length q13.length 4,.ms 6 0 q15 q16 4,.ms 8 0 r.2.2.2.2.1.length r.2.2.2.2.1.length 1,ab r.2.2.2.2.2.1,ai r.2.2.2.2.2.2.1],qB q0 2 q3 q4,qR q1 q2,.cells [ai r.2.2.2.2.2.2.2.1,ai r.2.2.2.2.2.2.2.2],.row (zK zP q8),.row (zK zJ q13),.row (zK zO q14),.dead,.row (zK yB r.2.2.2.2.1)] 0
abbrev cP (r:List zH×Nat×Nat×Nat×List Int×Int×Int×Int) (C:Cf):Prop:=C 103 [.cells [.mp 1 0,.mp 3 0,slv zJ q7 .no,.ms 4 (q10*6) q9 q11 6,ab q12,.ms 5 0 q13.length q13.length 4,.ms 6 0 q15 q16 4,.ms 7 0 q17.length q17.length 1,ab q18,ai q19],qB q0 2 q3 q4,qR q1 q2,.cells [ai q5,ai q6],.row (zK zP q8),.row (zK zJ q13),.row (zK zO q14),.row (zK yB q17)] [.mp 0 0,uS p1] (.tup []) [.cells [.mp 1 0,.mp 3 0,slv zJ q7 .no,.ms 4 (r.2.2.1*6) r.2.1 r.2.2.2.1 6,ab q12,.ms 5 0 q13.length q13.length 4,.ms 6 0 q15 q16 4,.ms 8 0 r.2.2.2.2.1.length r.2.2.2.2.1.length 1,ab true,ai r.2.2.2.2.2.1],qB q0 2 q3 q4,qR q1 q2,.cells [ai r.2.2.2.2.2.2.1,ai r.2.2.2.2.2.2.2],.row (zK zP q8),.row (zK zJ q13),.row (zK zO q14),.dead,.row (zK yB r.2.2.2.2.1)] 0
abbrev cQ (r:List zH×List Int×Bool×Int×Int×Int) (C:Cf):Prop:=C 103 [.cells [.mp 1 0,.mp 3 0,slv zJ q7 .no,.ms 4 (q10*6) q9 q11 6,ab q12,.ms 5 0 q13.length q13.length 4,.ms 6 0 q15 q16 4,.ms 7 0 q17.length q17.length 1,ab q18,ai q19],qB q0 2 q3 q4,qR q1 q2,.cells [ai q5,ai q6],.row (zK zP q8),.row (zK zJ q13),.row (zK zO q14),.row (zK yB q17)] [.mp 0 0,uS p1] (.tup []) [.cells [.mp 1 0,.mp 3 0,slv zJ q7 .no,.ms 8 0 r.1.length r.1.length 6,ab q12,.ms 5 0 q13.length q13.length 4,.ms 6 0 q15 q16 4,.ms 9 0 r.2.1.length r.2.1.length 1,ab r.2.2.1,ai r.2.2.2.1],qB q0 2 q3 q4,qR q1 q2,.cells [ai r.2.2.2.2.1,ai r.2.2.2.2.2],.row (zK zP q8),.row (zK zJ q13),.row (zK zO q14),.dead,.row (zK zP r.1),.row (zK yB r.2.1)] 0
end
theorem uD:Qf 103 Tryz.f103:=⟨Tryz.func103,rfl⟩
theorem nP{q0 q1 q2 q3 q4 q5 q6 q7 q8 q9 q10 q11 q12 q13 q14 q15 q16 q17 q18 q19 p1 r}(h:cO q0 q1 q2 q3 q4 q5 q6 q7 q8 q9 q10 q11 q12 q13 q14 q15 q16 q17 q18 q19 p1 r Ci):cO q0 q1 q2 q3 q4 q5 q6 q7 q8 q9 q10 q11 q12 q13 q14 q15 q16 q17 q18 q19 p1 r Ct:=⟨h,⟨(lz rfl),⟨tv,tv,⟨tv,dT _⟩,tv,tv,⟨tv,dT _⟩,tv⟩,tv⟩,(zA ⟨(lz rfl),(lz rfl),⟨tv,zF _⟩,(lz rfl),tv,(lz rfl),(lz rfl),(lz rfl),tv,tv,tv⟩ (fMa (lz rfl) (zA ⟨tv,tv,tv⟩ (zA (zN _) (zA (zF _) (zA (zM _) (zA (dI _) zB))))))),tv,(zA ⟨(lz rfl),(lz rfl),zF _,(lz rfl),tv,(lz rfl),(lz rfl),(lz rfl),tv,tv,tv⟩ (fMf (lz rfl) (zA ⟨tv,tv,tv⟩ (zA (zN _) (zA (zF _) (zA (zM _) (zA tv (zA (dI _) zB))))))))⟩
theorem nR{q0 q1 q2 q3 q4 q5 q6 q7 q8 q9 q10 q11 q12 q13 q14 q15 q16 q17 q18 q19 p1 r}(h:cP q0 q1 q2 q3 q4 q5 q6 q7 q8 q9 q10 q11 q12 q13 q14 q15 q16 q17 q18 q19 p1 r Ci):cP q0 q1 q2 q3 q4 q5 q6 q7 q8 q9 q10 q11 q12 q13 q14 q15 q16 q17 q18 q19 p1 r Ct:=⟨h,⟨(lz rfl),⟨tv,tv,⟨tv,dT _⟩,tv,tv,⟨tv,dT _⟩,tv⟩,tv⟩,(zA ⟨(lz rfl),(lz rfl),⟨tv,zF _⟩,(lz rfl),tv,(lz rfl),(lz rfl),(lz rfl),tv,tv,tv⟩ (fMa (lz rfl) (zA ⟨tv,tv,tv⟩ (zA (zN _) (zA (zF _) (zA (zM _) (zA (dI _) zB))))))),tv,(zA ⟨(lz rfl),(lz rfl),zF _,(lz rfl),tv,(lz rfl),(lz rfl),(lz rfl),tv,tv,tv⟩ (fMf (lz rfl) (zA ⟨tv,tv,tv⟩ (zA (zN _) (zA (zF _) (zA (zM _) (zA tv (zA (dI _) zB))))))))⟩
theorem nS{q0 q1 q2 q3 q4 q5 q6 q7 q8 q9 q10 q11 q12 q13 q14 q15 q16 q17 q18 q19 p1 r}(h:cQ q0 q1 q2 q3 q4 q5 q6 q7 q8 q9 q10 q11 q12 q13 q14 q15 q16 q17 q18 q19 p1 r Ci):cQ q0 q1 q2 q3 q4 q5 q6 q7 q8 q9 q10 q11 q12 q13 q14 q15 q16 q17 q18 q19 p1 r Ct:=⟨h,⟨(lz rfl),⟨tv,tv,⟨tv,dT _⟩,tv,tv,⟨tv,dT _⟩,tv⟩,tv⟩,(zA ⟨(lz rfl),(lz rfl),⟨tv,zF _⟩,(lz rfl),tv,(lz rfl),(lz rfl),(lz rfl),tv,tv,tv⟩ (fMa (lz rfl) (zA ⟨tv,tv,tv⟩ (zA (zN _) (zA (zF _) (zA (zM _) (zA (dI _) zB))))))),tv,(zA ⟨(lz rfl),(lz rfl),zF _,(lz rfl),tv,(lz rfl),(lz rfl),(lz rfl),tv,tv,tv⟩ (fMf (lz rfl) (zA ⟨tv,tv,tv⟩ (zA (zN _) (zA (zF _) (zA (zM _) (zA tv (zA (zN _) (zA (dI _) zB)))))))))⟩
theorem X7{qq q0 q1 q2 q3 q4 q5 q6 q7 q8 q9 q10 q11 q12 q13 q14 q15 q16 q17 q18 q19 p1 r}(h:fC qq q0 q1 q2 q3 q4 q5 q6 q7 q8 q9 q10 q11 q12 q13 q14 q15 q16 q17 q18 q19 p1=some r):(match (generalizing:=false) r with | .inl x=>cO q0 q1 q2 q3 q4 q5 q6 q7 q8 q9 q10 q11 q12 q13 q14 q15 q16 q17 q18 q19 p1 x Ct | .inr (.inl x)=>cP q0 q1 q2 q3 q4 q5 q6 q7 q8 q9 q10 q11 q12 q13 q14 q15 q16 q17 q18 q19 p1 x Ct | .inr (.inr x)=>cQ q0 q1 q2 q3 q4 q5 q6 q7 q8 q9 q10 q11 q12 q13 q14 q15 q16 q17 q18 q19 p1 x Ct):=by
 unfold fC at h
 have z {os ob} (k:Oz os ob):=oD (zM q14)<|oD (zF q13)<|oD (zN q8)<|oDm q0 q1 q2 q3 q4<|oD (zF q7)<|k
 obtain⟨r1,h2,h⟩:=zC h
 rcases r1 with y3 | (y10|y17)
 dsimp only at h
 obtain⟨h4,h⟩|⟨h4,h⟩:=spl h
 cases h
 exact nP (tF uD 0 [0,1,2,3,4,5,6,7,9] (oD (dI y3.2.2.2.2.2.1)<|z<|oK 1 [0,1,2,3,4,5,6,7] h4 (lX h2) o0))
 obtain⟨r5,h6,h⟩:=zC h
 have k:=oC 4 [1,2,3] (c55 h6)<|oK 1 [0,1,2,3,4,5,6,7] h4 (lX h2) o0
 obtain⟨h7,h⟩|⟨h7,h⟩:=spl h
 have k:=oB 0 h7 k
 obtain⟨h8,h⟩|⟨h8,h⟩:=spl h
 cases h
 exact nP (tF uD 1 [0,1,2,3,4,5,6,7,9] (oD (dI y3.2.2.2.2.2.1)<|z<|oB 1 h8 k))
 cases h
 exact nP (tF uD 1 [0,1,2,3,4,5,6,7,9] (oD (dI y3.2.2.2.2.2.1)<|z<|oB 1 h8 k))
 have k:=oB 0 h7 k
 obtain⟨h9,h⟩|⟨h9,h⟩:=spl h
 cases h
 exact nP (tF uD 1 [0,1,2,3,4,5,6,7,9] (oD (dI y3.2.2.2.2.2.1)<|z<|oB 1 h9 k))
 cases h
 exact nP (tF uD 1 [0,1,2,3,4,5,6,7,9] (oD (dI y3.2.2.2.2.2.1)<|z<|oB 1 h9 k))
 dsimp only at h
 obtain⟨h11,h⟩|⟨h11,h⟩:=spl h
 cases h
 exact nR (tF uD 0 [0,1,2,3,4,5,6,7,9] (oD (dI y10.2.2.2.2.2.1)<|z<|oK 1 [0,1,2,3,4,5,6,7] h11 (lX h2) o0))
 obtain⟨r12,h13,h⟩:=zC h
 have k:=oC 4 [1,2,3] (c55 h13)<|oK 1 [0,1,2,3,4,5,6,7] h11 (lX h2) o0
 obtain⟨h14,h⟩|⟨h14,h⟩:=spl h
 have k:=oB 0 h14 k
 obtain⟨h15,h⟩|⟨h15,h⟩:=spl h
 cases h
 exact nR (tF uD 1 [0,1,2,3,4,5,6,7,9] (oD (dI y10.2.2.2.2.2.1)<|z<|oB 1 h15 k))
 cases h
 exact nR (tF uD 1 [0,1,2,3,4,5,6,7,9] (oD (dI y10.2.2.2.2.2.1)<|z<|oB 1 h15 k))
 have k:=oB 0 h14 k
 obtain⟨h16,h⟩|⟨h16,h⟩:=spl h
 cases h
 exact nR (tF uD 1 [0,1,2,3,4,5,6,7,9] (oD (dI y10.2.2.2.2.2.1)<|z<|oB 1 h16 k))
 cases h
 exact nR (tF uD 1 [0,1,2,3,4,5,6,7,9] (oD (dI y10.2.2.2.2.2.1)<|z<|oB 1 h16 k))
 dsimp only at h
 obtain⟨h18,h⟩|⟨h18,h⟩:=spl h
 cases h
 exact nS (tF uD 0 [0,1,2,3,4,5,6,7,9,10] (oD (dI y17.2.2.1)<|oD (zN y17.2.1)<|z<|oK 1 [0,1,2,3,4,5,6,7] h18 (lX h2) o0))
 obtain⟨r19,h20,h⟩:=zC h
 have k:=oC 4 [1,2,3] (c55 h20)<|oK 1 [0,1,2,3,4,5,6,7] h18 (lX h2) o0
 obtain⟨h21,h⟩|⟨h21,h⟩:=spl h
 have k:=oB 0 h21 k
 obtain⟨h22,h⟩|⟨h22,h⟩:=spl h
 cases h
 exact nS (tF uD 1 [0,1,2,3,4,5,6,7,9,10] (oD (dI y17.2.2.1)<|oD (zN y17.2.1)<|z<|oB 1 h22 k))
 cases h
 exact nS (tF uD 1 [0,1,2,3,4,5,6,7,9,10] (oD (dI y17.2.2.1)<|oD (zN y17.2.1)<|z<|oB 1 h22 k))
 have k:=oB 0 h21 k
 obtain⟨h23,h⟩|⟨h23,h⟩:=spl h
 cases h
 exact nS (tF uD 1 [0,1,2,3,4,5,6,7,9,10] (oD (dI y17.2.2.1)<|oD (zN y17.2.1)<|z<|oB 1 h23 k))
 cases h
 exact nS (tF uD 1 [0,1,2,3,4,5,6,7,9,10] (oD (dI y17.2.2.1)<|oD (zN y17.2.1)<|z<|oB 1 h23 k))
theorem zIr(l:List Ent){c:Int}(h0:0≤c)(h1:c<l.length):Evt (fun q=>zOu q (xH l) c) (ent l c).fam:=by
 simp only[zOu,eB]
 exact Evt.ifF (decide_eq_false (by omega)) (Evt.ifF (decide_eq_false (by omega)) (Evt.pure (yL h0 h1) Evt.ret))
theorem zKd{N:ByteArray->Bool}{l:List Ent}(hE:wS N l)(he:∀e∈l,EOk e)(hl:l.length≤65535)(hc:∀e∈l,ECl e){a b:Tm}(hsa:zL a=true)(hsb:zL b=true)
  (q5 q6:Int) (q7:List zD) (q8:List zH) (q9 q10 q11:Nat) (q12:Bool) (q13:List zD) (q14:List zI) (q15 q16:Nat) (q17:List Int) (q18:Bool) (h5:0≤q5) (h6:0≤q6) (h56:q5+q6≤1099511627776)
  (h9:q10+q9≤q8.length) (h8:q8.length≤1048576000) (h17:q17.length≤1048576000) :
  Tot (fun q=>fA q l l (evA l l.length 0) (l.map xS) (l.map sD) q5 q6 q7 q8 q9 q10 q11 q12 q13 q14 q15 q16 q17 q18 0 (zH.mk a b)) fun x=>
   x = .inl (false,q8,q9,q10,q11,q17,q18,0,q5,q6) ∨
   (x = .inr (.inl (true,q8,q9,q10,q11,q17++[4],0,q5,q6))∧vW l a∧vW l b∧(hdT a).n≠(hdT b).n) ∨
   (vW l a∧vW l b∧(hdT a).n=(hdT b).n∧zTH l a b q8 q9 q10 q11 q17 q18 q5 (q5+q6) x):=by
 simp only[fA,qH,gZ]
 refine Tot.bind (P:=fun r=>r=jN l a) ((O3 l a hsa).tot rfl) fun r1 h1=>?_
 subst h1
 by_cases ca:vW l a
 ·have xa:jN l a=((hdT a).n,arT a,true):=if_pos ca
  have sa:=vL hsa ca
  rw[xa]
  refine Tot.ite (fun _=>Tot.bind (P:=fun r=>r=jN l b) ((O3 l b hsb).tot rfl) fun r4 h4=>?_) fun h=>(by cases h)
  subst h4
  by_cases cb:vW l b
  ·have xb:jN l b=((hdT b).n,arT b,true):=if_pos cb
   have sb:=vL hsb cb
   rw[xb]
   refine Tot.ite (fun _=>Tot.bind (P:=fun r=>r=(ent l (hdT a).n).fam) (((zIr l sa.1 sa.2.1).bind Evt.ret).tot rfl) fun r7 h7=>Tot.bind (P:=fun r=>r=(ent l (hdT b).n).fam) (((zIr l sb.1 sb.2.1).bind Evt.ret).tot rfl) fun r9 h9'=>Tot.ite (fun _=>Tot.ret (.inl rfl)) fun _=>Tot.ite (fun h10=>?_) fun h10=>?_) fun h=>(by cases h)
   ·exact Tot.bind (P:=fun s=>s=q17++[4]) (Tot.pure (yG (by simp;omega)) (Tot.ret rfl)) fun s hs=>Tot.ret (.inr (.inl ⟨by rw[hs],ca,cb,by simpa using h10⟩))
   ·have hn:(hdT a).n=(hdT b).n:=by simpa using h10
    exact(G6 hE he hl hc hsa hsb ca cb hn q7 q8 q9 q10 q11 q12 q13 q14 q15 q16 q17 q18 q5 (q5+q6) h56 h9 h8 h17 (arT a).length 0 q5 q6 [] (by omega) h5 (Int.le_refl _) h6 rfl (fun i hi=>absurd hi (Nat.not_lt_zero _)) (by simp)).mono fun x hx=>.inr (.inr ⟨ca,cb,hn,hx⟩)
  ·have xb:jN l b=(0,[],false):=if_neg cb
   rw[xb]
   exact Tot.ite (fun h=>by cases h) fun _=>Tot.ret (.inl rfl)
 ·have xa:jN l a=(0,[],false):=if_neg ca
  rw[xa]
  exact Tot.ite (fun h=>by cases h) fun _=>Tot.bind (P:=fun _=>True) ((O3 l b hsb).tot trivial) fun r15 _=>Tot.ite (fun _=>Tot.ret (.inl rfl)) fun _=>Tot.ret (.inl rfl)
def zXi(l:List Ent)(a b:Tm)(q8:List zH)(q9 q10 q11:Nat)(q17:List Int)(q18:Bool)(L U:Int)
  (x:(List zH×Nat×Nat×Nat×List Int×Bool×Int×Int×Int) ⊕ ((List zH×Nat×Nat×Nat×List Int×Int×Int×Int) ⊕ (List zH×List Int×Bool×Int×Int×Int))):Prop:=
 (∃e fl fu,e≠0∧x = .inl (q8,q9,q10,q11,q17,q18,e,fl,fu)) ∨
 (x = .inr (.inl (q8,q9,q10,q11,q17++[4],0,L,U))∧vW l a∧vW l b∧(hdT a).n≠(hdT b).n) ∨
 (∃fl fu,0≤fl∧fl≤L∧0≤fu∧fl+fu=L+U∧x = .inr (.inr (tI (pX l a) (pX l b)++(q8.drop q10).take q9,q17++[2],q18,0,fl,fu))∧vW l a∧vW l b∧(hdT a).n=(hdT b).n ∧
  ∀i:Nat,(i:Int)<(ent l (hdT a).n).pars->∃k,Cv l false (nth (arT a) i) (nth (arT b) i) true k)
theorem zGe{N:ByteArray->Bool}{l:List Ent}(hE:wS N l)(he:∀e∈l,EOk e)(hl:l.length≤65535)(hc:∀e∈l,ECl e){a b:Tm}(hsa:zL a=true)(hsb:zL b=true)
  (q5 q6:Int) (q7:List zD) (q8:List zH) (q9 q10 q11:Nat) (q12:Bool) (q13:List zD) (q14:List zI) (q15 q16:Nat) (q17:List Int) (q18:Bool) (h5:0≤q5) (h6:0≤q6) (h56:q5+q6≤1099511627776)
  (h9:q10+q9≤q8.length) (h8:q8.length≤1048576000) (h17:q17.length≤1048576000) :
  Tot (fun q=>fC q l l (evA l l.length 0) (l.map xS) (l.map sD) q5 q6 q7 q8 q9 q10 q11 q12 q13 q14 q15 q16 q17 q18 0 (zH.mk a b)) (zXi l a b q8 q9 q10 q11 q17 q18 q5 q6):=by
 simp only[fC]
 refine(zKd hE he hl hc hsa hsb q5 q6 q7 q8 q9 q10 q11 q12 q13 q14 q15 q16 q17 q18 h5 h6 h56 h9 h8 h17).bind fun x hx=>?_
 rcases hx with rfl|⟨rfl,ca,cb,hn⟩|⟨ca,cb,hn,⟨e,fl,fu,e0,rfl⟩|⟨fl,fu,f0,f1,f2,f3,rfl,hp⟩⟩
 ·refine Tot.ite (fun h=>by cases h) fun _=>(zAy hE he hl hc (zV hsa) (zV hsb) q5 q6 h5 h6 h56).bind fun r5 _=>Tot.ite (fun _=>Tot.ite (fun h=>Tot.ret (.inl ⟨_,_,_,by simpa using h,rfl⟩)) fun _=>Tot.ret (.inl ⟨12,_,_,by decide,rfl⟩)) fun _=>Tot.ite (fun h=>Tot.ret (.inl ⟨_,_,_,by simpa using h,rfl⟩)) fun _=>Tot.ret (.inl ⟨13,_,_,by decide,rfl⟩)
 ·exact Tot.ite (fun _=>Tot.ret (.inr (.inl ⟨rfl,ca,cb,hn⟩))) fun h=>by cases h
 ·exact Tot.ite (fun _=>Tot.ret (.inl ⟨e,fl,fu,e0,rfl⟩)) fun h=>by cases h
 ·exact Tot.ite (fun _=>Tot.ret (.inr (.inr ⟨fl,fu,f0,f1,f2,f3,rfl,ca,cb,hn,hp⟩))) fun h=>by cases h
def pE:Nat->List zD->Int->Int->Option (Tm×Int)
 |0,_,_,_=>none
 |qq+1,p0,p1,v10=>
 if decide (v10<(p0.length:Int))then
 zS p0 v10>>=fun x2=>
 if x2.n_==p1 then
 e53 qq x2.type_>>=fun r5=>
 some (r5,0)
 else
 pE qq p0 p1 (w64 (v10+1))
 else
 some ((Tm.mk 0 0 []),16)
def zKc(qq:Nat)(p0:List zD)(p1:Int):Option (Tm×Int):=
 pE qq p0 p1 0
theorem zRv:∀qq:Nat,(∀ {p0 p1 v10 r},pE qq p0 p1 v10=some r->(∀j,dL 0 (pt 949 Tryz.f122) (sp j 23 0 [(1,ai p1),(4,.mp 0 0),(8,slv zJ p0 .no),(9,ai (p0.length:Int)),(10,ai v10)]) (⟨[(0,.cells [ai 0,ai 0,slv zG ([]:List Tm) .nl])],1,[],0,[]⟩) (fQ 0 (nQ 0 Tryz.f122 (.tup [tmA r.1,ai r.2]) [] 0) [.blk 0,.seq (pt 15 Tryz.f122)]))):=by
 intro qq
 induction qq with
 |zero=>
  exact fun h=>nn h
 |succ qq ih=>
  intro p0 p1 v10 r h
  rw[pE]at h
  obtain⟨h1,h⟩|⟨h1,h⟩:=spl h
  obtain⟨x2,h3,h⟩:=zC h
  have k:=oA 0 (E1 (o:=.no) h3)<|oB 0 h1 o0
  obtain⟨h4,h⟩|⟨h4,h⟩:=spl h
  obtain⟨r5,h6,h⟩:=zC h
  cases h
  exact fun j=>lF 1 [] (oD (dT r5.sub)<|oC 1 [] (c53 h6)<|oB 3 h4 k)
  exact fun j=>lH 1 [] [0] [] [1,4,8,9,10] (oD (zF p0)<|oD (dT ([]:List Tm))<|oB 3 h4 k) (ih h)
  cases h
  exact fun j=>lF 1 [] (oD (dT ([]:List Tm))<|oB 0 h1 o0)
theorem zVZ{qq p0 p1 r}(h:zKc qq p0 p1=some r):Ct 122 [] [slv zJ p0 .no,ai p1] (.tup [tmA r.1,ai r.2]) [] 0:=⟨by
 unfold zKc at h
 exact tH ⟨Tryz.func122,rfl⟩ 1 [] [0] [] [1,4,8,9,10] (oD (zF p0)<|oD (dT ([]:List Tm)) o0) (zRv _ h),⟨⟨tv,zF _⟩,tv,tv⟩,zB,⟨⟨tv,tv,dT _,tv⟩,tv,tv⟩,zB⟩
def lY(qq:Nat)(q0 q1:List Ent)(q2:List yX)(q3 q4:List Int)(q5 q6:Int)(q7:List zD)(q8:List zH)(q9 q10 q11:Nat)(q12:Bool)(q13:List zD)(q14:List zI)(q15 q16:Nat)(q17:List Int)(q18:Bool)(q19:Int)(p1:Tm):Option Int:=
 if p1.k != 8 then
 some (-1)
 else
 zKc qq q7 p1.n>>=fun r2=>
 if r2.2 != 0 then
 some (-1)
 else
 some p1.n
theorem X8:Qf 101 Tryz.f101:=⟨Tryz.func101,rfl⟩
theorem zEf{qq q0 q1 q2 q3 q4 q5 q6 q7 q8 q9 q10 q11 q12 q13 q14 q15 q16 q17 q18 q19 p1 r}(h:lY qq q0 q1 q2 q3 q4 q5 q6 q7 q8 q9 q10 q11 q12 q13 q14 q15 q16 q17 q18 q19 p1=some r):Ct 101 [.cells [.mp 1 0,.mp 3 0,slv zJ q7 .no,.ms 4 (q10*6) q9 q11 6,ab q12,.ms 5 0 q13.length q13.length 4,.ms 6 0 q15 q16 4,.ms 7 0 q17.length q17.length 1,ab q18,ai q19],qB q0 2 q3 q4,qR q1 q2,.cells [ai q5,ai q6],.row (zK zP q8),.row (zK zJ q13),.row (zK zO q14),.row (zK yB q17)] [.mp 0 0,tmA p1] (ai r) [.cells [.mp 1 0,.mp 3 0,slv zJ q7 .no,.ms 4 (q10*6) q9 q11 6,ab q12,.ms 5 0 q13.length q13.length 4,.ms 6 0 q15 q16 4,.ms 7 0 q17.length q17.length 1,ab q18,ai q19],qB q0 2 q3 q4,qR q1 q2,.cells [ai q5,ai q6],.row (zK zP q8),.row (zK zJ q13),.row (zK zO q14),.row (zK yB q17)] 0:=⟨by
 unfold lY at h
 have z {os ob} (k:Oz os ob):=oD (dI q17)<|oD (zM q14)<|oD (zF q13)<|oD (zN q8)<|oDm q0 q1 q2 q3 q4<|oD (zF q7)<|k
 obtain⟨h1,h⟩|⟨h1,h⟩:=spl h
 obtain rfl:=sj h
 exact tF X8 0 [0,1,2,3,4,5,6,7] (z<|oB 1 h1 o0)
 obtain⟨r2,h3,h⟩:=zC h
 have k:=oC 2 [] (zVZ h3)<|oB 1 h1 o0
 obtain⟨h4,h⟩|⟨h4,h⟩:=spl h
 obtain rfl:=sj h
 exact tF X8 0 [0,1,2,3,4,5,6,7] (z<|oB 3 h4 k)
 obtain rfl:=sj h
 exact tF X8 1 [0,1,2,3,4,5,6,7] (z<|oB 3 h4 k),⟨(lz rfl),⟨tv,tv,⟨tv,dT _⟩,tv⟩,tv⟩,(zA ⟨(lz rfl),(lz rfl),⟨tv,zF _⟩,(lz rfl),tv,(lz rfl),(lz rfl),(lz rfl),tv,tv,tv⟩ (fMa (lz rfl) (zA ⟨tv,tv,tv⟩ (zA (zN _) (zA (zF _) (zA (zM _) (zA (dI _) zB))))))),tv,(zA ⟨(lz rfl),(lz rfl),zF _,(lz rfl),tv,(lz rfl),(lz rfl),(lz rfl),tv,tv,tv⟩ (fMf (lz rfl) (zA ⟨tv,tv,tv⟩ (zA (zN _) (zA (zF _) (zA (zM _) (zA (dI _) zB)))))))⟩
theorem cR{N:ByteArray->Bool}{l:List Ent}(hE:wS N l)(he:∀e∈l,EOk e){x:Tm}(hx:x.Ok)(L U:Int)(h0:0≤L)(h1:0≤U)(h2:L+U≤1099511627776) :
  Tot (fun q=>zBe q (xH l) x L U) fun r=>r.2.1=0->∃k,0≤k∧k≤L∧Br l x r.1 0 k∧r.2.2.1=L-k∧r.2.2.2=U+k:=by
 refine Tot.mono (Ou.met (i9 l hE he x hx L h0) h1 h2) fun r hr a=>?_
 rcases hr with hr|⟨R,k,k0,k1,⟨-,-,rfl⟩|⟨-,y,e,hb,rfl⟩,rfl⟩
 ·have hr':r.2.1=8:=hr
  rw[hr']at a;cases a
 ·have a':(5:Int)=0:=a
  cases a'
 ·have a':e=0:=a
  subst a'
  exact⟨k,k0,k1,hb,rfl,rfl⟩
theorem zAx{c:List zD}(hl:c.length≤524288)(hs:∀v∈c,v.type_.Ok)(n:Int):∀(r:List zD) (v:Nat),c.drop v=r->Tot (fun q=>pE q c n (v:Int)) fun x=>x.2=0->n∈r.map (·.n_)
 | [],v,hd=>by
  refine Tot.succ ?_
  simp only[pE]
  refine Tot.ite (fun h=>?_) fun _=>Tot.ret fun h=>absurd h (by show ¬(16:Int)=0;decide)
  rw[zZ hd]at h;cases h
 |x::r,v,hd=>by
  have hlt:=yC hd
  have hx:x∈c:=List.mem_of_mem_drop (by rw[hd];simp)
  refine Tot.succ ?_
  simp only[pE]
  refine Tot.ite (fun _=>Tot.pure (zX hd) (Tot.ite (fun e=>Tot.bind (P:=fun _=>True) ((sR x.type_ (hs x hx)).tot trivial) fun t _=>Tot.ret fun _=>?_) fun _=>?_)) fun h=>?_
  ·have e':x.n_=n:=by simpa using e
   simp[e']
  ·rw[zW v (by omega)]
   exact(zAx hl hs n r (v+1) (zU hd)).mono fun y hy h=>by rw[List.map_cons];exact List.mem_cons_of_mem _ (hy h)
  ·rw[zY hd]at h;cases h
theorem zEe(q0 q1:List Ent)(q2:List yX)(q3 q4:List Int)(q5 q6:Int){c:List zD}(hl:c.length≤524288)(hs:∀v∈c,v.type_.Ok)(q8:List zH)(q9 q10 q11:Nat)(q12:Bool)(q13:List zD)(q14:List zI)(q15 q16:Nat)(q17:List Int)(q18:Bool)(e:Int)(t:Tm) :
  Tot (fun q=>lY q q0 q1 q2 q3 q4 q5 q6 c q8 q9 q10 q11 q12 q13 q14 q15 q16 q17 q18 e t) fun k=>0≤k->t.k=8∧t.n=k∧k∈c.map (·.n_):=by
 simp only[lY,zKc]
 refine Tot.ite (fun _=>Tot.ret fun h=>absurd h (by decide)) fun h8=>(zAx hl hs t.n c 0 rfl).bind fun x hx=>Tot.ite (fun _=>Tot.ret fun h=>absurd h (by decide)) fun h=>Tot.ret fun _=>⟨by simpa using h8,rfl,hx (by simpa using h)⟩
end Go.Proofs.YtfbkefchjcocmaaGreat
