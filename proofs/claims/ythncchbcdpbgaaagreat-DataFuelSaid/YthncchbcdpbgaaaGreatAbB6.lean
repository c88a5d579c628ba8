/- Parts of the proof that the law returns true: walks of the functions, plain laws. -/
import Derived.ChangeArms
import Derived.ChangeShapes
import Derived.Test.YthncchbcdpbgaaaGreatAbB5
set_option linter.unusedVariables false
set_option linter.unusedSimpArgs false
set_option linter.unusedSectionVars false
namespace Go.Proofs.YthncchbcdpbgaaaGreat
open Go Go.Ab
def sU:Nat->(List Ent)->(List jS)->Int->Option (List Ent)
 |0,_,_,_=>none
 |qq+1,p0,v3,v8=>
 if decide (v8<(List.length p0:Int))then
 zL p0 v8>>=fun x2=>
 e96 qq x2.type>>=fun r4=>
 e96 qq x2.body>>=fun r6=>
 zGV qq x2.cons>>=fun r8=>
 zGV qq x2.fields>>=fun r10=>
 yR 192 v3 [(Ent.mk x2.kind x2.name r4 r6 x2.fam x2.place x2.pars x2.inds x2.level r8 r10)]>>=fun l12=>
 sU qq p0 l12 (w64 (v8+1))
 else
 some v3
def zHl(qq:Nat)(p0:List Ent):Option (List Ent):=
 sU qq p0 [] 0
theorem zDK:∀qq:Nat,∀p0 v3 v8,Lz (sU qq p0 v3 v8) 0 Tryz.f51 (inn (inn (rgt (lft (rgt (rgt (bod Tryz.f51))))))) (fun j=>sp j 34 0 [(3,slv entZ v3 (.st 0 15)),(6,slv zI p0 .no),(7,ai (List.length p0:Int)),(8,ai v8)]) ⟨[],0,[0],1,[]⟩ (fun r=>slv entZ r .no) (fun _=>[]) 0 [.blk 0,.seq (rgt (rgt (rgt (bod Tryz.f51))))]:=yW (fun _ _ _=>lN) fun qq ih=>fun p0 v3 v8=>lw fun _=>rB 0 (rA 0 (yY (o:=.no)) fun x2=>rC 3 [] c96 fun r4=>rC 1 [] c96 fun r6=>rC 3 [] zQA fun r8=>rS (oCl 0)<|rC 0 [] zQA fun r10=>rS (oWk 3 (wkr (slv entZ [(Ent.mk x2.kind x2.name r4 r6 x2.fam x2.place x2.pars x2.inds x2.level r8 r10)] .full)))<|rW (fun h13=>oP 0 (zQW h13 (by simp))) fun _=>lH 1 [] [] [1] [3,6,7,8] (ih _ _ _))<|lE 0
theorem zUo{qq p0}:Cz (zHl qq p0) 51 [] [slv zI p0 .no] (fun r=>slv entZ r .no) (fun _=>[]) 0:=fw Tryz.func51<|fH 1 [(none,3,15)] [] [0] [3,6,7,8] (zDK _ _ _ _)
def A3:Nat->(List Ent)->(List Ent)->(List (ByteArray×Int))->Int->Option (List Ent×Int)
 |0,_,_,_,_=>none
 |qq+1,p0,p1,zR,v36=>
 if decide (v36<(List.length p1:Int))then
 zL p1 v36>>=fun x9=>
 if decide ((N7 zR x9.name)>0)then
 some ([],4)
 else
 A3 qq p0 p1 zR (w64 (v36+1))
 else
 zPN qq [p0,p1]>>=fun r12=>
 e47 qq r12>>=fun r14=>
 if r14 then
 zHl qq r12>>=fun r17=>
 some (r17,0)
 else
 some ([],5)
def A4:Nat->(List Ent)->(List Ent)->Int->(List (ByteArray×Int))->Option (List Ent×Int)
 |0,_,_,_,_=>none
 |qq+1,p0,p1,v24,zR=>
 if decide (v24<(List.length p0:Int))then
 zL p0 v24>>=fun x6=>
 A4 qq p0 p1 (w64 (v24+1)) (E7 zR x6.name (w64 ((N7 zR x6.name)+1)))
 else
 A3 qq p0 p1 zR 0
def e61(qq:Nat)(p0 p1:List Ent):Option (List Ent×Int):=
 e47 qq p0>>=fun r1=>
 if r1 then
 if decide ((List.length p1:Int)>(w64 (256-(List.length p0:Int))))then
 some ([],2)
 else
 A4 qq p0 p1 0 ([]:List (ByteArray×Int))
 else
 some ([],5)
theorem zSo:∀qq:Nat,∀p0 p1 zR v36,Lz (A3 qq p0 p1 zR v36) 0 Tryz.f61 (inn (inn (rgt (lft (rgt (rgt (rgt (rgt (rgt (bod Tryz.f61)))))))))) (fun j=>sp j 55 0 [(0,slv zI p0 .no),(1,slv zI p1 .no),(6,.obj 0),(34,slv zI p1 .no),(35,ai (List.length p1:Int)),(36,ai v36)]) ⟨[(0,N6 zR)],1,[],0,[]⟩ (fun r=>.tup [slv entZ r.1 .no,ai r.2]) (fun _=>[]) 0 [.blk 2,.seq (rgt (rgt (rgt (rgt (rgt (rgt (bod Tryz.f61)))))))]:=yW (fun _ _ _ _=>lN) fun qq ih=>fun p0 p1 zR v36=>lw fun _=>rB 0 (rA 0 (yY (o:=.no)) fun x9=>rS (oL 3 (zGb zR x9.name))<|rB 0 (lE 0)<|lH 1 [] [0] [] [0,1,6,34,35,36] (ih _ _ _ _))<|rC 1 [] zWw fun _=>rK 0 [] c47 (fun _=>rC 1 [] zUo fun _=>lE 0) fun _=>lE 1
theorem zSn:∀qq:Nat,∀p0 p1 v24 zR,Lz (A4 qq p0 p1 v24 zR) 0 Tryz.f61 (inn (inn (rgt (lft (rgt (rgt (rgt (rgt (bod Tryz.f61))))))))) (fun j=>sp j 55 0 [(0,slv zI p0 .no),(1,slv zI p1 .no),(6,.obj 0),(22,slv zI p0 .no),(23,ai (List.length p0:Int)),(24,ai v24)]) ⟨[(0,N6 zR)],1,[],0,[]⟩ (fun r=>.tup [slv entZ r.1 .no,ai r.2]) (fun _=>[]) 0 [.blk 0,.seq (rgt (rgt (rgt (rgt (rgt (bod Tryz.f61))))))]:=yW (fun _ _ _ _=>lN) fun qq ih=>fun p0 p1 v24 zR=>lw fun _=>rB 0 (rA 0 (yY (o:=.no)) fun x6=>rS (oL 3 (zGb zR x6.name))<|rS (oU 1 (zQb zR x6.name (w64 ((N7 zR x6.name)+1))))<|lH 1 [] [0] [] [0,1,6,22,23,24] (ih _ _ _ _))<|lH 1 [] [0] [] [0,1,6,34,35,36] (zSo _ _ _ _ _)
theorem c61{qq p0 p1}:Cz (e61 qq p0 p1) 61 [] [slv zI p0 .no,slv zI p1 .no] (fun r=>.tup [slv entZ r.1 .no,ai r.2]) (fun _=>[]) 0:=fw Tryz.func61<|rK 0 [] c47 (fun _=>rB 4 (fE 0)<|fH 1 [] [0] [] [0,1,6,22,23,24] (zSn _ _ _ _ _)) fun _=>fE 1
theorem D9:∀(r l:List ByteArray) (v:Nat),l.drop v=r->l.length≤65535->Tot (fun q=>kO q l (v:Int)) fun _=>True
 | [],l,v,hd,hl=>by
  refine Tot.succ ?_
  simp only[kO]
  refine Tot.ite (fun h=>?_) fun _=>Tot.ret trivial
  rw[zX hd]at h;cases h
 |x::r,l,v,hd,hl=>by
  have hlt:=yC hd
  refine Tot.succ ?_
  simp only[kO]
  rw[zU v (by omega)]
  have go:=D9 r l (v+1) (zQ hd) hl
  exact Tot.ite (fun _=>Tot.pure (zS hd) (Tot.ite (fun _=>(uY _).bind fun _ _=>Tot.ite (fun _=>go) fun _=>Tot.ret trivial) fun _=>go)) fun h=>by rw[zW hd]at h;cases h
theorem U3(l:List Ent)(hl:l.length≤65535)(he:∀e∈l,EOk e):Tot (fun q=>e47 q l) fun b=>∃N d,b=gZ N d l:=by
 obtain⟨N,hN⟩:=R7
 obtain⟨d,-,h⟩:=aU N hN l hl he
 exact h.tot ⟨N,d,rfl⟩
theorem U4(l:List Ent)(hl:l.length≤65535)(he:∀e∈l,EOk e)(n:List ByteArray)(hn:n.length≤65535):Tot (fun q=>zMH q l n) fun r=>r=0->n.length≤24:=by
 simp only[zMH,zSr]
 exact(D9 n n 0 rfl hn).bind fun _ _=>Tot.ite (fun _=>(U3 l hl he).bind fun _ _=>Tot.ite (fun _=>Tot.ite (fun _=>Tot.ret fun h=>absurd h (by decide)) fun h=>Tot.ret fun _=>by have:=of_decide_eq_false h;omega) fun _=>Tot.ret fun h=>absurd h (by decide)) fun _=>Tot.ret fun h=>absurd h (by decide)
theorem m7(s:ByteArray):∀(r l:List Ent) (v:Nat),l.drop v=r->l.length≤65535->Tot (fun q=>fS q l s (v:Int)) fun _=>True
 | [],l,v,hd,hl=>by
  refine Tot.succ ?_
  simp only[fS]
  refine Tot.ite (fun h=>?_) fun _=>Tot.ret trivial
  rw[zX hd]at h;cases h
 |x::r,l,v,hd,hl=>by
  have hlt:=yC hd
  refine Tot.succ ?_
  simp only[fS]
  rw[zU v (by omega)]
  exact Tot.ite (fun _=>Tot.pure (zS hd) (Tot.ite (fun _=>Tot.ret trivial) fun _=>m7 s r l (v+1) (zQ hd) hl)) fun h=>by rw[zW hd]at h;cases h
theorem nG(k n:Int):(Tm.mk k n []).Ok:=⟨by simp,trivial⟩
theorem zMJ{x y:Tm}(hx:x.Ok)(hy:y.Ok)(k n:Int):(Tm.mk k n [x,y]).Ok:=⟨by simp,hx,hy,trivial⟩
theorem m8(n:Int):Evt (fun q=>X9 q n) (.mk 6 n []):=Evt.mk fun _=>rfl
theorem zSm(a b:Tm):Evt (fun q=>zDC q a b) (.mk 3 0 [a,b]):=Evt.mk fun _=>rfl
theorem zPQ(a b:Tm):Evt (fun q=>zIM q a b) (.mk 4 0 [a,b]):=Evt.mk fun _=>rfl
section
variable (l:List Ent) (hl:l.length≤65535) (he:∀e∈l,EOk e)
theorem zJs(a b c d:Int):Tot (fun q=>zPI q l a b c d) fun _=>True:=by
 simp only[zPI]
 exact Tot.ite (fun _=>Tot.ret trivial) fun _=>Tot.ret trivial
include hl
theorem m9(e p:Int)(n:List ByteArray)(t:zC)(hn:n.length≤100000):∀(m:Nat),m≤n.length->Tot (fun q=>fU q l e p n t ((m:Int)-1)) fun r=>r.1.Ok
 |0,hm=>by
  refine Tot.succ ?_
  simp only[fU,zSq]
  exact Tot.ite (fun h=>absurd (of_decide_eq_true h) (by simp)) fun _=>(m7 t.name_ l l 0 rfl hl).bind fun _ _=>Tot.ite (fun _=>(zJs l _ _ _ _).bind fun _ _=>Tot.bind ((m8 _).tot rfl) fun _ h=>Tot.ret (h▸nG _ _)) fun _=>Tot.bind ((m8 _).tot rfl) fun _ h=>Tot.ret (h▸nG _ _)
 |m+1,hm=>by
  refine Tot.succ ?_
  simp only[fU]
  rw[show (((m+1:Nat):Int)-1)=(m:Int) by omega,zV (x:=(m:Int)-1) (by omega) (by omega)]
  obtain⟨x,hx,-⟩:=sM (l:=n) (i:=(m:Int)) (by omega) (by omega)
  exact Tot.ite (fun _=>Tot.pure hx (Tot.ite (fun _=>Tot.bind ((qL _).tot rfl) fun _ h=>Tot.ret (h▸nG _ _)) fun _=>m9 e p n t hn m (by omega))) fun h=>absurd (of_decide_eq_false h) (by omega)
theorem zJr(e p:Int){t:zC}(ht:XOk t):∀(e p:Int) (n:List ByteArray),n.length+ndN t≤100000->Tot (fun q=>Y2 q l e p n t) fun r=>r.1.Ok:=by
 induction ht with
 | @leaf k a nm m sub h=>
  intro e p n hn
  refine Tot.succ ?_
  simp only[Y2,zSp,zC.kind_]
  rw[zV (by omega) (by omega)]
  refine Tot.ite (fun _=>(m9 l hl e p n _ (by omega) n.length (Nat.le_refl _)).bind fun r hr=>Tot.ret hr) fun h1=>Tot.ite (fun _=>Tot.bind ((lY _).tot rfl) fun _ h=>Tot.ret (h▸nG _ _)) fun h2=>?_
  have h1:k≠1:=by simpa using h1
  have h2:k≠2:=by simpa using h2
  omega
 | @two k a nm m x y h hx hy ihx ihy=>
  intro e p n hn
  simp only[ndN,ndL]at hn
  refine Tot.succ ?_
  simp only[Y2,zC.kind_,zC.sub_,zC.name_]
  refine Tot.ite (fun h1=>absurd (by simpa using h1:k=1) (by omega)) fun _=>Tot.ite (fun h1=>absurd (by simpa using h1:k=2) (by omega)) fun _=>Tot.pure (a:=x) rfl ((ihx e p n (by omega)).bind fun r hr=>?_)
  have fin:∀(n':List ByteArray),n'.length+ndN y≤100000->Tot (fun q=>Y2 q l r.2.1 r.2.2 n' y>>=fun r18=>if (k==3)=true then zDC q r.1 r18.1>>=fun r21=>some (r21,r18.2.1,r18.2.2)else if (k==4)=true then zIM q r.1 r18.1>>=fun r24=>some (r24,r18.2.1,r18.2.2)else kY q r.1 r18.1>>=fun r26=>some (r26,r18.2.1,r18.2.2)) fun r=>r.1.Ok:=fun n' h'=>
   (ihy _ _ n' h').bind fun s hs=>Tot.ite (fun _=>Tot.bind ((zSm _ _).tot rfl) fun _ h=>Tot.ret (h▸zMJ hr hs _ _)) fun _=>Tot.ite (fun _=>Tot.bind ((zPQ _ _).tot rfl) fun _ h=>Tot.ret (h▸zMJ hr hs _ _)) fun _=>Tot.bind ((pM _ _).tot rfl) fun _ h=>Tot.ret (h▸zMJ hr hs _ _)
  refine Tot.ite (fun _=>Tot.pure (a:=n) (by unfold gsl;rw[if_pos (by omega)];simp) (Tot.pure (zZ (by simp;omega)) (Tot.pure (a:=y) rfl (fin _ (by simp;omega))))) fun _=>Tot.pure (a:=y) rfl (fin n (by omega))
include he
theorem A5(n:List ByteArray)(hn:n.length≤65535)(t:zC)(ht:nOk t):Tot (fun q=>zFF q l n t) fun r=>r.1.Ok∧(r.2.2=0->zG r.1=true):=by
 simp only[zFF]
 refine(cZ t ht).bind fun b hb=>Tot.ite (fun h=>(U4 l hl he n hn).bind fun c hc=>Tot.ite (fun h2=>Tot.ret ⟨nG _ _,fun h3=>?_⟩) fun h2=>?_) fun _=>Tot.ret ⟨nG _ _,fun h=>absurd h (by decide)⟩
 ·exact absurd h3 (by simpa using h2)
 ·have h3:=hc (by simpa using h2)
  have h4:=hb h
  refine(zJr l hl 0 0 h4.1 0 0 n (by omega)).bind fun r hr=>Tot.ite (fun h5=>Tot.ret ⟨nG _ _,fun h6=>?_⟩) fun _=>Tot.bind ((xB _ hr).tot rfl) fun d hd=>Tot.ite (fun h7=>Tot.ret ⟨hr,fun _=>hd.trans h7⟩) fun _=>Tot.ret ⟨nG _ _,fun h=>absurd h (by decide)⟩
  exact absurd h6 (by simpa using h5)
def TeR(N:Nat)(r:List Tm×List ByteArray×Int×Int):Prop:=r.2.2.2=0->OkA r.1∧(∀t∈r.1,zG t=true)∧r.1.length=N∧r.2.1.length≤24
theorem j4(b:List zP)(hb:bOk b)(k:Nat)(hbl:k+b.length≤24):∀(r:List zP) (v:Nat) (T:List Tm) (n:List ByteArray),b.drop v=r->v≤b.length->T.length=v->n.length=k+v->OkA T->(∀t∈T,zG t=true)->Tot (fun q=>kP q l b T n (v:Int)) (TeR b.length)
 | [],v,T,n,hd,hv,hT,hn,ho,hs=>by
  refine Tot.succ ?_
  simp only[kP]
  have h1:=List.drop_eq_nil_iff.1 hd
  refine Tot.ite (fun h=>?_) fun _=>Tot.ret fun _=>⟨ho,hs,by show T.length=_;omega,by show n.length≤_;omega⟩
  rw[zX hd]at h;cases h
 |x::r,v,T,n,hd,hv,hT,hn,ho,hs=>by
  have hlt:=yC hd
  have hm:x∈b:=List.mem_of_mem_drop (hd▸List.mem_cons_self ..)
  refine Tot.succ ?_
  simp only[kP]
  rw[zU v (by omega)]
  refine Tot.ite (fun _=>Tot.pure (zS hd) ((uY _).bind fun _ _=>Tot.ite (fun _=>(A5 l hl he n (by omega) x.type_ (hb x hm)).bind fun t ht=>Tot.ite (fun h=>Tot.ret fun h2=>?_) fun h=>Tot.pure (zZ (by simp;omega)) (Tot.pure (zZ (by simp;omega)) ?_)) fun _=>Tot.ret fun h=>absurd h (by decide))) fun h=>by rw[zW hd]at h;cases h
  ·exact absurd h2 (by simpa using h)
  ·have h0:t.2.2=0:=by simpa using h
   refine j4 b hb k hbl r (v+1) _ _ (zQ hd) hlt (by simp[hT]) (by simp[hn];omega) (fun a ha=>?_) fun a ha=>?_<;>rcases List.mem_append.1 ha with ha|ha
   ·exact ho a ha
   ·rw[List.mem_singleton.1 ha];exact ht.1
   ·exact hs a ha
   ·rw[List.mem_singleton.1 ha];exact ht.2 h0
theorem zJq(n:List ByteArray)(hn:n.length≤65535)(b:List zP)(hb:bOk b)(hbl:b.length≤65535):Tot (fun q=>zPK q l n b) (TeR b.length):=by
 simp only[zPK]
 refine(U4 l hl he n hn).bind fun c hc=>Tot.ite (fun h2=>Tot.ret fun h3=>absurd h3 (by simpa using h2)) fun h2=>?_
 have h3:=hc (by simpa using h2)
 rw[zV (by omega) (by omega)]
 refine Tot.ite (fun _=>Tot.ret fun h=>absurd h (by decide)) fun h4=>Tot.pure (zZ (by simp;omega)) ?_
 have h5:=of_decide_eq_false h4
 exact j4 l hl he b hb n.length (by omega) b 0 [] _ rfl (by omega) rfl (by simp) (fun _ h=>nomatch h) (fun _ h=>nomatch h)
end
theorem j5:∀(r l acc:List Ent) (v:Nat),l.drop v=r->l.length≤65535->(∀e∈l,EOk e)->(∀e∈l,ECl e)->acc.length≤v->Evt (fun q=>sU q l acc (v:Int)) (acc++r.map zDu)
 | [],l,acc,v,hd,hl,he,hc,ha=>by
  refine Evt.succ ?_
  simp only[sU]
  exact Evt.ifF (zX hd) (Evt.ret.eq (by simp))
 |x::r,l,acc,v,hd,hl,he,hc,ha=>by
  have hlt:=yC hd
  have hx:x∈l:=List.mem_of_mem_drop (hd▸List.mem_cons_self ..)
  have hE:=he x hx
  have hC:=hc x hx
  refine Evt.succ ?_
  simp only[sU]
  refine Evt.ifT (zW hd) (Evt.pure (zS hd) ((pW _ hE.1).bind ((pW _ hE.2.1).bind ?_)))
  refine Evt.bind (a:=x.cons) (Evt.mk fun q=>(zZ (by have:=hC.1;simp<;>omega)).trans (by simp)) (Evt.bind (a:=x.fields) (Evt.mk fun q=>(zZ (by have:=hC.2;simp<;>omega)).trans (by simp)) (Evt.pure (zZ (by simp<;>omega)) ?_))
  rw[zU v (by omega)]
  exact(j5 r l _ (v+1) (zQ hd) hl he hc (by simp<;>omega)).eq (by simp[zDu])
theorem zFG(a b:List Ent)(h:0<a.length+b.length)(hl:a.length+b.length≤65535):Evt (fun q=>zPN q [a,b]) (a++b):=by
 simp only[zPN]
 refine Evt.succ ?_
 simp only[fX]
 refine Evt.ifT rfl (Evt.pure (a:=a) rfl (Evt.ifF (decide_eq_false (by rw[zV (by omega) (by omega)];omega)) (Evt.succ ?_)))
 simp only[fX]
 rw[zV (x:=0+(a.length:Int)) (by omega) (by omega)]
 refine Evt.ifT rfl (Evt.pure (a:=b) rfl (Evt.ifF (decide_eq_false (by rw[zV (by omega) (by omega)];omega)) (Evt.succ ?_)))
 simp only[fX]
 rw[zV (x:=0+(a.length:Int)+(b.length:Int)) (by omega) (by omega)]
 refine Evt.ifF rfl (Evt.bind (a:=()) ?_ (Evt.succ ?_))
 ·simp only[zPM,zAZ]
  rw[zV (x:=0+(a.length:Int)+(b.length:Int)-0) (by omega) (by omega)]
  refine Evt.bind (Evt.ifF (decide_eq_false (by omega)) (Evt.ifT (decide_eq_true (by omega)) (Evt.pure (by unfold gmk;rw[if_pos (by omega)]) (Evt.pure (by unfold zHX;rw[if_pos (by omega)]) Evt.ret)))) (Evt.ifT (by rfl) Evt.ret)
 ·simp only[fV]
  refine Evt.ifT rfl (Evt.pure (a:=a) rfl (Evt.pure (zZ (by simp;omega)) (Evt.succ ?_)))
  simp only[fV]
  refine Evt.ifT rfl (Evt.pure (a:=b) rfl (Evt.pure (zZ (by simp;omega)) (Evt.succ ?_)))
  simp only[fV]
  exact Evt.ifF rfl (Evt.ret.eq (by simp))
theorem zDL(a b:List Ent)(m:List (ByteArray×Int))(h:0<a.length+b.length)(hl:a.length+b.length≤65535)(he:∀e∈a++b,EOk e)(hc:∀e∈a++b,ECl e):∀(r:List Ent) (v:Nat),b.drop v=r->Tot (fun q=>A3 q a b m (v:Int)) fun r=>(r.2≠0->r.1=[]∧r.2≠8)∧(r.2=0->r.1=a++b∧Evt (fun q=>e47 q (a++b)) true)
 | [],v,hd=>by
  refine Tot.succ ?_
  simp only[A3]
  refine Tot.ite (fun h=>by rw[zX hd]at h;cases h) fun _=>Tot.bind ((zFG a b h hl).tot rfl) fun c hc'=>?_
  subst hc'
  obtain⟨N,hN⟩:=R7
  obtain⟨d,-,hF⟩:=aU N hN (a++b) (by rw[List.length_append];omega) he
  refine Tot.bind (hF.tot rfl) fun c hc'=>Tot.ite (fun h1=>?_) fun _=>Tot.ret ⟨fun _=>⟨rfl,by decide⟩,fun h=>absurd h (by decide)⟩
  rw[←hc']at h1
  have cp:Evt (fun q=>zHl q (a++b)) (a++b):=by
   simp only[zHl]
   exact(j5 _ _ [] 0 rfl (by rw[List.length_append];omega) he hc (by simp)).eq (by rw[List.nil_append];exact mZ (kD h1))
  exact Tot.bind (cp.tot rfl) fun x hx=>Tot.ret ⟨fun h=>absurd rfl h,fun _=>⟨hx.symm,h1▸hF⟩⟩
 |x::r,v,hd=>by
  have hlt:=yC hd
  refine Tot.succ ?_
  simp only[A3]
  rw[zU v (by omega)]
  exact Tot.ite (fun _=>Tot.pure (zS hd) (Tot.ite (fun _=>Tot.ret ⟨fun _=>⟨rfl,by decide⟩,fun h=>absurd h (by decide)⟩) fun _=>zDL a b m h hl he hc r (v+1) (zQ hd))) fun h=>by rw[zW hd]at h;cases h
theorem zDM(a b:List Ent)(h:0<a.length+b.length)(hl:a.length+b.length≤65535)(he:∀e∈a++b,EOk e)(hc:∀e∈a++b,ECl e):∀(r:List Ent) (v:Nat) (m:List (ByteArray×Int)),a.drop v=r->Tot (fun q=>A4 q a b (v:Int) m) fun r=>(r.2≠0->r.1=[]∧r.2≠8)∧(r.2=0->r.1=a++b∧Evt (fun q=>e47 q (a++b)) true)
 | [],v,m,hd=>by
  refine Tot.succ ?_
  simp only[A4]
  exact Tot.ite (fun h=>by rw[zX hd]at h;cases h) fun _=>zDL a b m h hl he hc b 0 rfl
 |x::r,v,m,hd=>by
  have hlt:=yC hd
  refine Tot.succ ?_
  simp only[A4]
  rw[zU v (by omega)]
  exact Tot.ite (fun _=>Tot.pure (zS hd) (zDM a b h hl he hc r (v+1) _ (zQ hd))) fun h=>by rw[zW hd]at h;cases h
theorem zDN(a b:List Ent)(h:0<a.length+b.length)(hl:a.length+b.length≤65535)(he:∀e∈a++b,EOk e)(hc:∀e∈a++b,ECl e):Tot (fun q=>e61 q a b) fun r=>(r.2≠0->r.1=[]∧r.2≠8)∧(r.2=0->r.1=a++b∧Evt (fun q=>e47 q (a++b)) true):=by
 simp only[e61]
 exact(U3 a (by omega) fun e h=>he e (List.mem_append_left _ h)).bind fun _ _=>Tot.ite (fun _=>Tot.ite (fun _=>Tot.ret ⟨fun _=>⟨rfl,by decide⟩,fun h=>absurd h (by decide)⟩) fun _=>zDM a b h hl he hc a 0 _ rfl) fun _=>Tot.ret ⟨fun _=>⟨rfl,by decide⟩,fun h=>absurd h (by decide)⟩
def kQ:Nat->(List Int)->Int->Option (Bool)
 |0,_,_=>none
 |qq+1,p0,v7=>
 if decide (v7<(List.length p0:Int))then
 zL p0 v7>>=fun x2=>
 if decide (x2<0)then
 some false
 else
 if decide (x2>24)then
 some false
 else
 kQ qq p0 (w64 (v7+1))
 else
 some true
def zPR(qq:Nat)(p0:List Int):Option (Bool):=
 kQ qq p0 0
theorem zPS:∀qq:Nat,∀p0 v7,Lz (kQ qq p0 v7) 0 Tryz.f163 (inn (inn (rgt (lft (rgt (bod Tryz.f163)))))) (fun j=>sp j 18 0 [(5,slv zM p0 .no),(6,ai (List.length p0:Int)),(7,ai v7)]) ⟨[],0,[],0,[]⟩ (fun r=>ab r) (fun _=>[]) 0 [.blk 0,.seq (rgt (rgt (bod Tryz.f163)))]:=yW (fun _ _=>lN) fun qq ih=>fun p0 v7=>lw fun _=>rB 0 (rA 0 (pL (o:=.no)) fun _=>rB 1 (lE 0)<|rB 0 (lE 0)<|lH 1 [] [] [] [5,6,7] (ih _ _))<|lE 0
theorem zWv{qq p0}:Cz (zPR qq p0) 163 [] [slv zM p0 .no] (fun r=>ab r) (fun _=>[]) 0:=fw Tryz.func163<|fH 1 [] [] [] [5,6,7] (zPS _ _ _)
mutual
def Y3:Nat->Tm->Int->Option (Bool)
 |0,_,_=>none
 |qq+1,p0,p1=>
 if p0.k==6 then
 if p0.n==p1 then
 some true
 else
 nV qq p0 p1 0
 else
 if p0.k==7 then
 if p0.n==p1 then
 some true
 else
 nV qq p0 p1 0
 else
 nV qq p0 p1 0
def nV:Nat->Tm->Int->Int->Option (Bool)
 |0,_,_,_=>none
 |qq+1,p0,p1,v24=>
 if decide (v24<(List.length p0.sub:Int))then
 zL p0.sub v24>>=fun x4=>
 Y3 qq x4 p1>>=fun r6=>
 if r6 then
 some true
 else
 nV qq p0 p1 (w64 (v24+1))
 else
 some false
end
theorem zDO:∀qq:Nat,(∀p0 p1,Cz (Y3 qq p0 p1) 165 [] [tmA p0,ai p1] (fun r=>ab r) (fun _=>[]) 0)∧(∀p0 p1 v24,Lz (nV qq p0 p1 v24) 0 Tryz.f165 (inn (inn (rgt (lft (rgt (rgt (bod Tryz.f165))))))) (fun j=>sp j 32 0 [(1,ai p1),(22,slv zA p0.sub .no),(23,ai (List.length p0.sub:Int)),(24,ai v24)]) ⟨[],0,[],0,[]⟩ (fun r=>ab r) (fun _=>[]) 0 [.blk 0,.seq (rgt (rgt (rgt (bod Tryz.f165))))]):=yW ⟨fun _ _=>cN,fun _ _ _=>lN⟩ fun qq ih=>⟨fun p0 p1=>fw Tryz.func165<|rB 1 (rB 1 (fE 0)<|fH 2 [] [] [] [1,22,23,24] (ih.2 _ _ _))<|rB 1 (rB 1 (fE 0)<|fH 2 [] [] [] [1,22,23,24] (ih.2 _ _ _))<|fH 2 [] [] [] [1,22,23,24] (ih.2 _ _ _),
 fun p0 p1 v24=>lw fun _=>rB 0 (rA 0 (yM (o:=.no)) fun _=>rK 3 [] (ih.1 _ _) (fun _=>lE 0) fun _=>lH 1 [] [] [] [1,22,23,24] (ih.2 _ _ _))<|lE 0⟩
theorem zMK{qq p0 p1}:Cz (Y3 qq p0 p1) 165 [] [tmA p0,ai p1] (fun r=>ab r) (fun _=>[]) 0:=(zDO _).1 _ _
def kR:Nat->Int->Int->Int->(Tm×List Tm)->Int->Option (Bool)
 |0,_,_,_,_,_=>none
 |qq+1,p1,p2,p4,r1,v38=>
 if decide (v38<(List.length r1.2:Int))then
 zL r1.2 v38>>=fun x7=>
 Y3 qq x7 p1>>=fun r9=>
 if r9 then
 some false
 else
 if decide (v38<p2)then
 if x7.k != 1 then
 some false
 else
 if x7.n != (w64 (p4-v38))then
 some false
 else
 kR qq p1 p2 p4 r1 (w64 (v38+1))
 else
 kR qq p1 p2 p4 r1 (w64 (v38+1))
 else
 some true
def zPT(qq:Nat)(p0:Tm)(p1 p2 p3 p4:Int):Option (Bool):=
 jX qq p0>>=fun r1=>
 if r1.1.k != 6 then
 some false
 else
 if r1.1.n != p1 then
 some false
 else
 if (List.length r1.2:Int) != (w64 (p2+p3))then
 some false
 else
 kR qq p1 p2 p4 r1 0
theorem zPU:∀qq:Nat,∀p1 p2 p4 r1 v38,Lz (kR qq p1 p2 p4 r1 v38) 0 Tryz.f220 (inn (inn (rgt (lft (rgt (rgt (rgt (bod Tryz.f220)))))))) (fun j=>sp j 72 0 [(1,ai p1),(2,ai p2),(4,ai p4),(12,slv zA r1.2 .no),(37,ai (List.length r1.2:Int)),(38,ai v38)]) ⟨[],0,[],0,[]⟩ (fun r=>ab r) (fun _=>[]) 0 [.blk 0,.seq (rgt (rgt (rgt (rgt (bod Tryz.f220)))))]:=yW (fun _ _ _ _ _=>lN) fun qq ih=>fun p1 p2 p4 r1 v38=>lw fun _=>rB 0 (rH fun _ h8=>rS (oA 0 (yM (o:=.no) h8))<|rK 1 [] zMK (fun _=>lE 0) fun _=>rB 0 (rS (oA 0 (yM (o:=.no) h8))<|rB 1 (lE 0)<|rS (oA 0 (yM (o:=.no) h8))<|rB 2 (lE 0)<|lH 1 [] [] [] [1,2,4,12,37,38] (ih _ _ _ _ _))<|lH 1 [] [] [] [1,2,4,12,37,38] (ih _ _ _ _ _))<|lE 0
theorem zWu{qq p0 p1 p2 p3 p4}:Cz (zPT qq p0 p1 p2 p3 p4) 220 [] [tmA p0,ai p1,ai p2,ai p3,ai p4] (fun r=>ab r) (fun _=>[]) 0:=fw Tryz.func220<|rC 1 [] E8 fun _=>rB 4 (fE 0)<|rB 1 (fE 0)<|rB 2 (fE 0)<|fH 1 [] [] [] [1,2,4,12,37,38] (zPU _ _ _ _ _ _)
def bP:Nat->Int->Int->Int->Int->Int->Int->Int->(List Tm)->Option (Int)
 |0,_,_,_,_,_,_,_,_=>none
 |qq+1,p1,p2,p3,p4,v11,zR,yA,zN=>
 if zR==3 then
 zL zN 0>>=fun x5=>
 Y3 qq x5 p1>>=fun r7=>
 if r7 then
 some v11
 else
 zL zN 1>>=fun x10=>
 bP qq p1 p2 p3 p4 (w64 (v11+1)) x10.k x10.n x10.sub
 else
 if decide (v11≤24)then
 zPT qq (Tm.mk zR yA zN) p1 p2 p3 (w64 (p4+v11))>>=fun r13=>
 if r13 then
 some (-2)
 else
 some (-1)
 else
 some (-1)
def zPV(qq:Nat)(p0:Tm)(p1 p2 p3 p4:Int):Option (Int):=
 Y3 qq p0 p1>>=fun r1=>
 if r1 then
 bP qq p1 p2 p3 p4 0 p0.k p0.n p0.sub
 else
 some (-2)
theorem zPW:∀qq:Nat,∀p1 p2 p3 p4 v11 zR yA zN,Lz (bP qq p1 p2 p3 p4 v11 zR yA zN) 0 Tryz.f164 (inn (inn (lft (rgt (rgt (rgt (bod Tryz.f164))))))) (fun j=>sp j 44 0 [(1,ai p1),(2,ai p2),(3,ai p3),(4,ai p4),(5,.mp 0 0),(11,ai v11)]) ⟨[(0,.cells [ai zR,ai yA,slv zA zN .no])],1,[],0,[]⟩ (fun r=>ai r) (fun _=>[]) 0 [.blk 0,.seq (rgt (rgt (rgt (rgt (bod Tryz.f164)))))]:=yW (fun _ _ _ _ _ _ _ _=>lN) fun qq ih=>fun p1 p2 p3 p4 v11 zR yA zN=>lw fun _=>rB 1 (rA 1 (yM (o:=.no)) fun _=>rK 1 [] zMK (fun _=>lE 0) fun _=>rA 1 (yM (o:=.no)) fun _=>lH 3 [] [0] [] [1,2,3,4,5,11] (ih _ _ _ _ _ _ _ _))<|rB 0 (rK 2 [] zWu (fun _=>lE 0) fun _=>lE 0)<|lE 0
theorem zWt{qq p0 p1 p2 p3 p4}:Cz (zPV qq p0 p1 p2 p3 p4) 164 [] [tmA p0,ai p1,ai p2,ai p3,ai p4] (fun r=>ai r) (fun _=>[]) 0:=fw Tryz.func164<|rK 1 [] zMK (fun _=>fH 1 [] [0] [] [1,2,3,4,5,11] (zPW _ _ _ _ _ _ _ _ _)) fun _=>fE 1
mutual
def zJp:Nat->Tm->Int->Option (Bool)
 |0,_,_=>none
 |qq+1,p0,p1=>
 if p0.k==1 then
 some (p0.n==p1)
 else
 fY qq p0 p1 0
def fY:Nat->Tm->Int->Int->Option (Bool)
 |0,_,_,_=>none
 |qq+1,p0,p1,v17=>
 if decide (v17<(List.length p0.sub:Int))then
 zL p0.sub v17>>=fun x3=>
 zKF qq p0 v17>>=fun r5=>
 zJp qq x3 (w64 (p1+r5))>>=fun r7=>
 if r7 then
 some true
 else
 fY qq p0 p1 (w64 (v17+1))
 else
 some false
end
theorem zDP:∀qq:Nat,(∀p0 p1,Cz (zJp qq p0 p1) 272 [] [tmA p0,ai p1] (fun r=>ab r) (fun _=>[]) 0)∧(∀p0 p1 v17,Lz (fY qq p0 p1 v17) 0 Tryz.f272 (inn (inn (rgt (lft (rgt (rgt (bod Tryz.f272))))))) (fun j=>sp j 30 0 [(1,ai p1),(2,.mp 0 0),(15,slv zA p0.sub .no),(16,ai (List.length p0.sub:Int)),(17,ai v17)]) ⟨[(0,.cells [ai p0.k,ai p0.n,slv zA p0.sub .no])],1,[],0,[]⟩ (fun r=>ab r) (fun _=>[]) 0 [.blk 0,.seq (rgt (rgt (rgt (bod Tryz.f272))))]):=yW ⟨fun _ _=>cN,fun _ _ _=>lN⟩ fun qq ih=>⟨fun p0 p1=>fw Tryz.func272<|rB 1 (fE 2)<|fH 2 [] [0] [] [1,2,15,16,17] (ih.2 _ _ _),
 fun p0 p1 v17=>lw fun _=>rB 0 (rA 0 (yM (o:=.no)) fun _=>rC 4 [] zTv fun _=>rK 1 [] (ih.1 _ _) (fun _=>lE 0) fun _=>lH 1 [] [0] [] [1,2,15,16,17] (ih.2 _ _ _))<|lE 0⟩
theorem zWs{qq p0 p1}:Cz (zJp qq p0 p1) 272 [] [tmA p0,ai p1] (fun r=>ab r) (fun _=>[]) 0:=(zDP _).1 _ _
def zPX(qq:Nat)(p0:Tm)(p1:Int):Option (Bool):=
 if decide (p1≥0)then
 if decide (p1≤1048576)then
 tV qq p0>>=fun r3=>
 if r3 then
 zJp qq p0 p1>>=fun r6=>
 some r6
 else
 some false
 else
 some false
 else
 some false
theorem zWr{qq p0 p1}:Cz (zPX qq p0 p1) 221 [] [tmA p0,ai p1] (fun r=>ab r) (fun _=>[]) 0:=fw Tryz.func221<|rB 0 (rB 0 (rK 1 [] sW (fun _=>rC 1 [] zWs fun _=>fE 0) fun _=>fE 0)<|fE 0)<|fE 0
def fZ:Nat->(List Tm)->Int->Int->Option (Bool)
 |0,_,_,_=>none
 |qq+1,p0,p1,v5=>
 if decide (v5<(List.length p0:Int))then
 zL p0 v5>>=fun x2=>
 zPX qq x2 (w64 ((w64 (v5-p1))-1))>>=fun r4=>
 if r4 then
 some true
 else
 fZ qq p0 p1 (w64 (v5+1))
 else
 some false
def zSl(qq:Nat)(p0:List Tm)(p1:Int):Option (Bool):=
 fZ qq p0 p1 (w64 (p1+1))
theorem zPY:∀qq:Nat,∀p0 p1 v5,Lz (fZ qq p0 p1 v5) 0 Tryz.f166 (inn (inn (rgt (lft (rgt (bod Tryz.f166)))))) (fun j=>sp j 23 0 [(0,slv zA p0 .no),(1,ai p1),(5,ai v5)]) ⟨[],0,[],0,[]⟩ (fun r=>ab r) (fun _=>[]) 0 [.blk 0,.seq (rgt (rgt (bod Tryz.f166)))]:=yW (fun _ _ _=>lN) fun qq ih=>fun p0 p1 v5=>lw fun _=>rB 1 (rA 0 (yM (o:=.no)) fun _=>rK 3 [] zWr (fun _=>lE 0) fun _=>lH 1 [] [] [] [0,1,5] (ih _ _ _))<|lE 0
theorem zWq{qq p0 p1}:Cz (zSl qq p0 p1) 166 [] [slv zA p0 .no,ai p1] (fun r=>ab r) (fun _=>[]) 0:=fw Tryz.func166<|fH 1 [] [] [] [0,1,5] (zPY _ _ _ _)
def kS:Nat->(List Tm)->Int->Int->Int->Int->Option (Int×Int)
 |0,_,_,_,_,_=>none
 |qq+1,p0,p1,p2,p3,v37=>
 if decide (v37<(List.length p0:Int))then
 zL p0 v37>>=fun x12=>
 zPV qq x12 p1 p2 p3 (w64 ((w64 (p2-1))+v37))>>=fun r14=>
 if decide (r14>(-2))then
 some (v37,9)
 else
 Y3 qq x12 p1>>=fun r17=>
 if r17 then
 zSl qq p0 v37>>=fun r20=>
 if r20 then
 some (v37,9)
 else
 kS qq p0 p1 p2 p3 (w64 (v37+1))
 else
 kS qq p0 p1 p2 p3 (w64 (v37+1))
 else
 some ((-1),0)
def eA:Nat->(List Tm)->Int->Int->Int->Int->Option (Int×Int)
 |0,_,_,_,_,_=>none
 |qq+1,p0,p1,p2,p3,v27=>
 if decide (v27<(List.length p0:Int))then
 zL p0 v27>>=fun x6=>
 tV qq x6>>=fun r8=>
 if r8 then
 eA qq p0 p1 p2 p3 (w64 (v27+1))
 else
 some (0,5)
 else
 kS qq p0 p1 p2 p3 0
def zML(qq:Nat)(p0:List Tm)(p1 p2 p3:Int):Option (Int×Int):=
 zPR qq [p2,p3,(List.length p0:Int)]>>=fun r1=>
 if r1 then
 if decide (p1<0)then
 some (0,5)
 else
 eA qq p0 p1 p2 p3 0
 else
 some (0,5)
theorem zPZ:∀qq:Nat,∀p0 p1 p2 p3 v37,Lz (kS qq p0 p1 p2 p3 v37) 0 Tryz.f101 (inn (inn (rgt (lft (rgt (rgt (rgt (bod Tryz.f101)))))))) (fun j=>sp j 64 0 [(0,slv zA p0 .no),(1,ai p1),(2,ai p2),(3,ai p3),(35,slv zA p0 .no),(36,ai (List.length p0:Int)),(37,ai v37)]) ⟨[],0,[],0,[]⟩ (fun r=>.tup [ai r.1,ai r.2]) (fun _=>[]) 0 [.blk 2,.seq (rgt (rgt (rgt (rgt (bod Tryz.f101)))))]:=yW (fun _ _ _ _ _=>lN) fun qq ih=>fun p0 p1 p2 p3 v37=>lw fun _=>rB 0 (rA 0 (yM (o:=.no)) fun _=>rC 5 [] zWt fun _=>rB 0 (lE 0)<|rK 1 [] zMK (fun _=>rK 0 [] zWq (fun _=>lE 0) fun _=>lH 1 [] [] [] [0,1,2,3,35,36,37] (ih _ _ _ _ _)) fun _=>lH 1 [] [] [] [0,1,2,3,35,36,37] (ih _ _ _ _ _))<|lE 0
theorem zQz:∀qq:Nat,∀p0 p1 p2 p3 v27,Lz (eA qq p0 p1 p2 p3 v27) 0 Tryz.f101 (inn (inn (rgt (lft (rgt (rgt (bod Tryz.f101))))))) (fun j=>sp j 64 0 [(0,slv zA p0 .no),(1,ai p1),(2,ai p2),(3,ai p3),(25,slv zA p0 .no),(26,ai (List.length p0:Int)),(27,ai v27)]) ⟨[],0,[],0,[]⟩ (fun r=>.tup [ai r.1,ai r.2]) (fun _=>[]) 0 [.blk 0,.seq (rgt (rgt (rgt (bod Tryz.f101))))]:=yW (fun _ _ _ _ _=>lN) fun qq ih=>fun p0 p1 p2 p3 v27=>lw fun _=>rB 0 (rA 0 (yM (o:=.no)) fun _=>rK 3 [] sW (fun _=>lH 2 [] [] [] [0,1,2,3,25,26,27] (ih _ _ _ _ _)) fun _=>lE 1)<|lH 1 [] [] [] [0,1,2,3,35,36,37] (zPZ _ _ _ _ _ _)
theorem zUn{qq p0 p1 p2 p3}:Cz (zML qq p0 p1 p2 p3) 101 [] [slv zA p0 .no,ai p1,ai p2,ai p3] (fun r=>.tup [ai r.1,ai r.2]) (fun _=>[]) 0:=fw Tryz.func101<|rK 2 [] zWv (fun _=>rB 1 (fE 0)<|fH 1 [] [] [] [0,1,2,3,25,26,27] (zQz _ _ _ _ _ _)) fun _=>fE 1
def zMM(qq:Nat)(p0:Tm)(p1:Int):Option (Bool):=
 tV qq p0>>=fun r1=>
 if r1 then
 Y3 qq p0 p1>>=fun r4=>
 some r4
 else
 some false
theorem zUm{qq p0 p1}:Cz (zMM qq p0 p1) 103 [] [tmA p0,ai p1] (fun r=>ab r) (fun _=>[]) 0:=fw Tryz.func103<|rK 1 [] sW (fun _=>rC 1 [] zMK fun _=>fE 0) fun _=>fE 0
mutual
theorem qP(d:Int):∀(t:Tm),t.Ok->Tot (fun q=>Y3 q t d) fun _=>True
 | .mk k n l,ho=>by
  have go:=E0 d l (.mk k n l) 0 rfl ho.1 ho.2
  refine Tot.succ ?_
  simp only[Y3]
  exact Tot.ite (fun _=>Tot.ite (fun _=>Tot.ret trivial) fun _=>go) fun _=>Tot.ite (fun _=>Tot.ite (fun _=>Tot.ret trivial) fun _=>go) fun _=>go
theorem E0(d:Int):∀(l:List Tm) (p:Tm) (v:Nat),p.sub.drop v=l->p.sub.length<9223372036854775808->OkL l->Tot (fun q=>nV q p d (v:Int)) fun _=>True
 | [],p,v,hd,hl,ho=>by
  refine Tot.succ ?_
  simp only[nV]
  exact Tot.ite (fun h=>by rw[zX hd]at h;cases h) fun _=>Tot.ret trivial
 |t::l,p,v,hd,hl,ho=>by
  have:=yC hd
  refine Tot.succ ?_
  simp only[nV]
  rw[zU v (by omega)]
  exact Tot.ite (fun _=>Tot.pure (zS hd) ((qP d t ho.1).bind fun _ _=>Tot.ite (fun _=>Tot.ret trivial) fun _=>E0 d l p (v+1) (zQ hd) hl ho.2)) fun h=>by rw[zW hd]at h;cases h
end
theorem zFH(t:Tm)(ho:t.Ok)(d:Int):Tot (fun q=>zMM q t d) fun _=>True:=by
 simp only[zMM]
 exact Tot.bind ((xB t ho).tot (P:=fun _=>True) trivial) fun _ _=>Tot.ite (fun _=>(qP d t ho).bind fun _ _=>Tot.ret trivial) fun _=>Tot.ret trivial
mutual
theorem zHk:∀(t:Tm) (i:Int),t.Ok->Tot (fun q=>zJp q t i) fun _=>True
 | .mk k n l,i,ho=>by
  refine Tot.succ ?_
  simp only[zJp]
  exact Tot.ite (fun _=>Tot.ret trivial) fun _=>zDQ l (.mk k n l) 0 i rfl ho.1 ho.2
theorem zDQ:∀(l:List Tm) (p:Tm) (v:Nat) (i:Int),p.sub.drop v=l->p.sub.length<9223372036854775808->OkL l->Tot (fun q=>fY q p i (v:Int)) fun _=>True
 | [],p,v,i,hd,hl,ho=>by
  refine Tot.succ ?_
  simp only[fY]
  exact Tot.ite (fun h=>by rw[zX hd]at h;cases h) fun _=>Tot.ret trivial
 |t::l,p,v,i,hd,hl,ho=>by
  have:=yC hd
  refine Tot.succ ?_
  simp only[fY]
  rw[zU v (by omega)]
  exact Tot.ite (fun _=>Tot.pure (zS hd) (Tot.bind ((zCm p v).tot (P:=fun _=>True) trivial) fun _ _=>(zHk t _ ho.1).bind fun _ _=>Tot.ite (fun _=>Tot.ret trivial) fun _=>zDQ l p (v+1) i (zQ hd) hl ho.2)) fun h=>by rw[zW hd]at h;cases h
end
theorem zQy(t:Tm)(ho:t.Ok)(i:Int):Tot (fun q=>zPX q t i) fun _=>True:=by
 simp only[zPX]
 exact Tot.ite (fun _=>Tot.ite (fun _=>Tot.bind ((xB t ho).tot (P:=fun _=>True) trivial) fun _ _=>Tot.ite (fun _=>(zHk t i ho).bind fun _ _=>Tot.ret trivial) fun _=>Tot.ret trivial) fun _=>Tot.ret trivial) fun _=>Tot.ret trivial
theorem zMN(p i n:Int):Tot (fun q=>zPR q [p,i,n]) fun b=>b=true->(0≤p∧p≤24)∧(0≤i∧i≤24)∧n≤24:=by
 simp only[zPR]
 have F:Tot (fun _:Nat=>some false) fun b=>b=true->(0≤p∧p≤24)∧(0≤i∧i≤24)∧n≤24:=Tot.ret fun h=>nomatch h
 refine Tot.succ ?_
 simp only[kQ]
 refine Tot.ite (fun _=>Tot.pure (a:=p) rfl (Tot.ite (fun _=>F) fun h1=>Tot.ite (fun _=>F) fun h2=>Tot.succ ?_)) fun h=>nomatch h
 simp only[kQ]
 refine Tot.ite (fun _=>Tot.pure (a:=i) rfl (Tot.ite (fun _=>F) fun h3=>Tot.ite (fun _=>F) fun h4=>Tot.succ ?_)) fun h=>nomatch h
 simp only[kQ]
 refine Tot.ite (fun _=>Tot.pure (a:=n) rfl (Tot.ite (fun _=>F) fun h5=>Tot.ite (fun _=>F) fun h6=>Tot.succ ?_)) fun h=>nomatch h
 simp only[kQ]
 refine Tot.ite (fun h=>nomatch h) fun _=>Tot.ret fun _=>?_
 have h1:=of_decide_eq_false h1
 have h2:=of_decide_eq_false h2
 have h3:=of_decide_eq_false h3
 have h4:=of_decide_eq_false h4
 have h6:=of_decide_eq_false h6
 omega
theorem zDR(d p f:Int)(r1:Tm×List Tm)(hl:r1.2.length≤8192)(ho:OkA r1.2):∀(r:List Tm) (v:Nat),r1.2.drop v=r->Tot (fun q=>kR q d p f r1 (v:Int)) fun _=>True
 | [],v,hd=>by
  refine Tot.succ ?_
  simp only[kR]
  exact Tot.ite (fun h=>by rw[zX hd]at h;cases h) fun _=>Tot.ret trivial
 |t::r,v,hd=>by
  have hlt:=yC hd
  have hm:t∈r1.2:=List.mem_of_mem_drop (hd▸List.mem_cons_self ..)
  refine Tot.succ ?_
  simp only[kR]
  rw[zU v (by omega)]
  have go:=zDR d p f r1 hl ho r (v+1) (zQ hd)
  exact Tot.ite (fun _=>Tot.pure (zS hd) ((qP d t (ho t hm)).bind fun _ _=>Tot.ite (fun _=>Tot.ret trivial) fun _=>Tot.ite (fun _=>Tot.ite (fun _=>Tot.ret trivial) fun _=>Tot.ite (fun _=>Tot.ret trivial) fun _=>go) fun _=>go)) fun h=>by rw[zW hd]at h;cases h
theorem zQx(t:Tm)(hs:zG t=true)(d p i f:Int):Tot (fun q=>zPT q t d p i f) fun _=>True:=by
 simp only[zPT]
 refine Tot.bind ((rJ t hs).tot rfl) fun r hr=>Tot.ite (fun _=>Tot.ret trivial) fun _=>Tot.ite (fun _=>Tot.ret trivial) fun _=>Tot.ite (fun _=>Tot.ret trivial) fun _=>?_
 subst hr
 have h:=zK hs
 have:=sA t h.2.2
 exact zDR d p f _ (by show (arT t).length≤_;omega) (fun x hx=>yG (xP hs hx)) _ 0 rfl
theorem U5(d p i f:Int):∀(m:Nat) (t:Tm) (a:Int),zG t=true->t.nodes≤m->Tot (fun q=>bP q d p i f a t.k t.n t.sub) fun _=>True
 |0,t,a,hs,hm=>by have:=xZ t;omega
 |m+1,t,a,hs,hm=>by
  refine Tot.succ ?_
  simp only[bP]
  refine Tot.ite (fun h=>?_) fun _=>Tot.ite (fun _=>(zQx (.mk t.k t.n t.sub) (by cases t;exact hs) d p i _).bind fun _ _=>Tot.ite (fun _=>Tot.ret trivial) fun _=>Tot.ret trivial) fun _=>Tot.ret trivial
  obtain⟨x,y,ht,-,-⟩:=cU (zK hs).2.2 (by simpa using h)
  have hx:zG x=true:=dU hs (by rw[ht];simp[Tm.sub])
  have hy:zG y=true:=dU hs (by rw[ht];simp[Tm.sub])
  rw[show t.sub=[x,y] by rw[ht];rfl]
  refine Tot.pure (a:=x) rfl ((qP d x (yG hx)).bind fun _ _=>Tot.ite (fun _=>Tot.ret trivial) fun _=>Tot.pure (a:=y) rfl (U5 d p i f m y _ hy ?_))
  rw[ht]at hm
  simp only[Tm.nodes,yN]at hm
  omega
theorem zFI(t:Tm)(hs:zG t=true)(d p i f:Int):Tot (fun q=>zPV q t d p i f) fun _=>True:=by
 simp only[zPV]
 exact(qP d t (yG hs)).bind fun _ _=>Tot.ite (fun _=>U5 d p i f _ t 0 hs (Nat.le_refl _)) fun _=>Tot.ret trivial
theorem U6(l:List Tm)(a:Int)(hl:l.length≤24)(ho:OkA l):∀(r:List Tm) (v:Nat),l.drop v=r->Tot (fun q=>fZ q l a (v:Int)) fun _=>True
 | [],v,hd=>by
  refine Tot.succ ?_
  simp only[fZ]
  exact Tot.ite (fun h=>by rw[zX hd]at h;cases h) fun _=>Tot.ret trivial
 |t::r,v,hd=>by
  have hlt:=yC hd
  have hm:t∈l:=List.mem_of_mem_drop (hd▸List.mem_cons_self ..)
  refine Tot.succ ?_
  simp only[fZ]
  rw[zU v (by omega)]
  exact Tot.ite (fun _=>Tot.pure (zS hd) ((zQy t (ho t hm) _).bind fun _ _=>Tot.ite (fun _=>Tot.ret trivial) fun _=>U6 l a hl ho r (v+1) (zQ hd))) fun h=>by rw[zW hd]at h;cases h
theorem j6(l:List Tm)(d p i:Int)(hl:l.length≤24)(hs:∀t∈l,zG t=true):∀(r:List Tm) (v:Nat),l.drop v=r->Tot (fun q=>kS q l d p i (v:Int)) fun _=>True
 | [],v,hd=>by
  refine Tot.succ ?_
  simp only[kS]
  exact Tot.ite (fun h=>by rw[zX hd]at h;cases h) fun _=>Tot.ret trivial
 |t::r,v,hd=>by
  have hlt:=yC hd
  have hm:t∈l:=List.mem_of_mem_drop (hd▸List.mem_cons_self ..)
  refine Tot.succ ?_
  simp only[kS,zSl]
  rw[zU v (by omega)]
  have go:=j6 l d p i hl hs r (v+1) (zQ hd)
  exact Tot.ite (fun _=>Tot.pure (zS hd) ((zFI t (hs t hm) d p i _).bind fun _ _=>Tot.ite (fun _=>Tot.ret trivial) fun _=>(qP d t (yG (hs t hm))).bind fun _ _=>Tot.ite (fun _=>(U6 l v hl (fun x hx=>yG (hs x hx)) _ (v+1) rfl).bind fun _ _=>Tot.ite (fun _=>Tot.ret trivial) fun _=>go) fun _=>go)) fun h=>by rw[zW hd]at h;cases h
theorem j7(l:List Tm)(d p i:Int)(hl:l.length≤24)(hs:∀t∈l,zG t=true):∀(r:List Tm) (v:Nat),l.drop v=r->Tot (fun q=>eA q l d p i (v:Int)) fun _=>True
 | [],v,hd=>by
  refine Tot.succ ?_
  simp only[eA]
  exact Tot.ite (fun h=>by rw[zX hd]at h;cases h) fun _=>j6 l d p i hl hs l 0 rfl
 |t::r,v,hd=>by
  have hlt:=yC hd
  have hm:t∈l:=List.mem_of_mem_drop (hd▸List.mem_cons_self ..)
  refine Tot.succ ?_
  simp only[eA]
  rw[zU v (by omega)]
  exact Tot.ite (fun _=>Tot.pure (zS hd) (Tot.bind ((xB t (yG (hs t hm))).tot (P:=fun _=>True) trivial) fun _ _=>Tot.ite (fun _=>j7 l d p i hl hs r (v+1) (zQ hd)) fun _=>Tot.ret trivial)) fun h=>by rw[zW hd]at h;cases h
theorem zJo(l:List Tm)(d p i:Int)(hl:l.length≤24)(hs:∀t∈l,zG t=true):Tot (fun q=>zML q l d p i) fun _=>True:=by
 simp only[zML]
 exact(zMN p i _).bind fun _ _=>Tot.ite (fun _=>Tot.ite (fun _=>Tot.ret trivial) fun _=>j7 l d p i hl hs l 0 rfl) fun _=>Tot.ret trivial
def eB:Nat->xO->Int->Int->(List Tm)->(List Int)->(List Tm)->(List Tm)->Int->Option (Bool)
 |0,_,_,_,_,_,_,_,_=>none
 |qq+1,M,fl,fu,p0_Context,p0_Names,p0_Types,p1,v21=>
 if decide (v21<(List.length p1:Int))then
 zL p1 v21>>=fun x3=>
 zFB qq M>>=fun r5=>
 O8 qq x3 1048577 r5>>=fun r7=>
 if r7 then
 eB qq M fl fu p0_Context p0_Names p0_Types p1 (w64 (v21+1))
 else
 some false
 else
 some true
def zJn(qq:Nat)(M:xO)(fl fu:Int)(p0_Context:List Tm)(p0_Names:List Int)(p0_Types p1:List Tm):Option (Bool):=
 if (List.length p0_Names:Int) != (List.length p0_Types:Int)then
 some false
 else
 eB qq M fl fu p0_Context p0_Names p0_Types p1 0
theorem zQw:∀qq:Nat,∀M fl fu p0_Context p0_Names p0_Types p1 v21,Lz (eB qq M fl fu p0_Context p0_Names p0_Types p1 v21) 3 Tryz.f159 (inn (inn (rgt (lft (rgt (rgt (bod Tryz.f159))))))) (fun j=>sp j 32 0 [(2,.mp 3 0),(19,slv zA p1 .no),(20,ai (List.length p1:Int)),(21,ai v21)]) ⟨[(0,mB M 1),(1,mR M),(2,.cells [ai fl,ai fu]),(3,.cells [.mp 0 0,.mp 2 0,slv zA p0_Context .no,slv zM p0_Names .no,slv zA p0_Types .no])],4,[],0,[]⟩ (fun r=>ab r) (fun _=>[mB M 1,mR M,.cells [ai fl,ai fu]]) 0 [.blk 0,.seq (rgt (rgt (rgt (bod Tryz.f159))))]:=yW (fun _ _ _ _ _ _ _ _=>lN) fun qq ih=>fun M fl fu p0_Context p0_Names p0_Types p1 v21=>lw fun _=>rB 0 (rA 0 (yM (o:=.no)) fun _=>rC 4 [0,1] zMb fun _=>rK 0 [] zEH (fun _=>lH 2 [] [0,1,2,3] [] [2,19,20,21] (ih _ _ _ _ _ _ _ _)) fun _=>lE 1)<|lE 0
theorem zSk{qq M fl fu p0_Context p0_Names p0_Types p1}:Cz (zJn qq M fl fu p0_Context p0_Names p0_Types p1) 159 [mB M 1,mR M,.cells [ai fl,ai fu]] [.agg [.mp 0 0,.mp 2 0,slv zA p0_Context .no,slv zM p0_Names .no,slv zA p0_Types .no],slv zA p1 .no] (fun r=>ab r) (fun _=>[mB M 1,mR M,.cells [ai fl,ai fu]]) 0:=fw Tryz.func159<|rB 6 (fE 0)<|fH 1 [] [0,1,2,3] [] [2,19,20,21] (zQw _ _ _ _ _ _ _ _ _)
def e93(qq:Nat)(M:xO)(fl fu:Int)(p0_Context:List Tm)(p0_Names:List Int)(p0_Types p1:List Tm):Option ((Int×List Tm×List Int×List Tm×List Ent) ⊕ (Int)):=
 zJn qq M fl fu p0_Context p0_Names p0_Types p1>>=fun r1=>
 if r1 then
 zJn qq M fl fu p0_Context p0_Names p0_Types p0_Context>>=fun r4=>
 if r4 then
 zJn qq M fl fu p0_Context p0_Names p0_Types p0_Types>>=fun r7=>
 if r7 then
 zFC qq M>>=fun r10=>
 some (Sum.inl (0,p0_Context,p0_Names,p0_Types,r10))
 else
 some (Sum.inr 5)
 else
 some (Sum.inr 5)
 else
 some (Sum.inr 5)
theorem c93{qq M fl fu p0_Context p0_Names p0_Types p1}:Cz (e93 qq M fl fu p0_Context p0_Names p0_Types p1) 93 [mB M 1,mR M,.cells [ai fl,ai fu]] [.agg [.mp 0 0,.mp 2 0,slv zA p0_Context .no,slv zM p0_Names .no,slv zA p0_Types .no],slv zA p1 .no] (Sum.elim (fun x=>.tup [.mp 3 0,ai x.1]) (fun x=>.tup [.val (.pointer none),ai x])) (Sum.elim (fun x=>[mB M 1,mR M,.cells [ai fl,ai fu],.cells [.mp 0 0,.mp 2 0,slv zA x.2.1 .no,slv zM x.2.2.1 .no,slv zA x.2.2.2.1 .no,slv zI x.2.2.2.2 .no]]) (fun _=>[mB M 1,mR M,.cells [ai fl,ai fu]])) 0:=fw Tryz.func93<|rK 1 [0,1,2] zSk (fun _=>rK 3 [0,1,2] zSk (fun _=>rK 3 [0,1,2] zSk (fun _=>rC 3 [0,1] zSz fun _=>fF 0 [0,1,2,4]) fun _=>fE 1) fun _=>fE 1) fun _=>fE 1
def e98(qq:Nat)(M:xO)(fl fu:Int)(p0_Context:List Tm)(p0_Names:List Int)(p0_Types:List Tm)(p1:Tm):Option (Int×Int×Int×Int):=
 e93 qq M fl fu p0_Context p0_Names p0_Types [p1]>>=fun r1=>
 match r1 with
 |Sum.inl y3=>
  if y3.1 != 0 then
  some (0,y3.1,fl,fu)
  else
  e94 qq M fl fu y3.2.1 y3.2.2.1 y3.2.2.2.1 y3.2.2.2.2 p1>>=fun r5=>
  some (r5.1,r5.2.1,r5.2.2.1,r5.2.2.2)
 |Sum.inr y7=>
  if y7 != 0 then
  some (0,y7,fl,fu)
  else
  none
theorem c98{qq M fl fu p0_Context p0_Names p0_Types p1}:Cz (e98 qq M fl fu p0_Context p0_Names p0_Types p1) 98 [mB M 1,mR M,.cells [ai fl,ai fu]] [.agg [.mp 0 0,.mp 2 0,slv zA p0_Context .no,slv zM p0_Names .no,slv zA p0_Types .no],tmA p1] (fun r=>.tup [ai r.1,ai r.2.1]) (fun r=>[mB M 1,mR M,.cells [ai r.2.2.1,ai r.2.2.2]]) 0:=fw Tryz.func98<|rS (oS 2 (yV xH [p1]))<|rC 0 [0,1,2] c93<|oR (fun _=>rB 2 (fE 0)<|rC 1 [5,0,1,2] c94 fun _=>fE 2) fun _=>rB 2 (fE 0) rN
set_option linter.unusedSectionVars false
def A6(l:List Ent)(ns:List Int)(ts p:List Tm):Bool:=decide (ns.length=ts.length)&&p.all fun x=>decide (xF l x)
theorem j8{l:List Ent}{ns:List Int}{ts p:List Tm}(h:A6 l ns ts p=true):ns.length=ts.length∧∀x∈p,xF l x:=by
 unfold A6 at h
 simp only[Bool.and_eq_true,List.all_eq_true,decide_eq_true_eq]at h
 exact h
theorem U7(l:List Ent)(ctx:List Tm)(ns:List Int)(ts p:List Tm)(L U:Int)(hl:p.length≤100):∀(r:List Tm) (v:Nat),p.drop v=r->OkA r->Evt (fun q=>eB q (xV l) L U ctx ns ts p (v:Int)) (r.all fun x=>decide (xF l x))
 | [],v,hd,_=>by
  refine Evt.succ ?_
  simp only[eB]
  exact Evt.ifF (zX hd) Evt.ret
 |t::r,v,hd,ho=>by
  have hlt:=yC hd
  refine Evt.succ ?_
  simp only[eB]
  have hr:Evt (fun q=>O8 q t 1048577 (l.length:Int)) (decide (xF l t)):=(oV t _ _ (ho t (by simp))).eq (by show _=decide (oT t 1048577 l.length=true);simp)
  refine Evt.ifT (zW hd) (Evt.pure (zS hd) (Evt.bind (a:=(l.length:Int)) (Evt.mk fun q=>rfl) (hr.bind ?_)))
  by_cases h:xF l t
  ·refine Evt.ifT (by simpa using h) ?_
   rw[zU v (by omega)]
   exact(U7 l ctx ns ts p L U hl r (v+1) (zQ hd) fun x hx=>ho x (by simp[hx])).eq (by simp[h])
  ·exact Evt.ifF (by simpa using h) (Evt.ret.eq (by simp[h]))
theorem A7(l:List Ent)(ctx:List Tm)(ns:List Int)(ts p:List Tm)(L U:Int)(hl:p.length≤100)(ho:OkA p):Evt (fun q=>zJn q (xV l) L U ctx ns ts p) (A6 l ns ts p):=by
 simp only[zJn]
 unfold A6
 by_cases h:ns.length=ts.length
 ·exact Evt.ifF (by simp[h]) ((U7 l ctx ns ts p L U hl p 0 rfl ho).eq (by simp[h]))
 ·exact Evt.ifT (by simp;omega) (Evt.ret.eq (by simp[h]))
section
variable {N:ByteArray->Bool} (l:List Ent) (hE:vK N l) (he:∀e∈l,EOk e) (hl:l.length≤65535) (hc:∀e∈l,ECl e)
include hE he hl hc
theorem zDS(ctx:List Tm)(ns:List Int)(ts:List Tm)(t:Tm)(hcl:ctx.length≤100)(htl:ts.length≤100)(hoc:OkA ctx)(hot:OkA ts)(ho:t.Ok)(L U:Int):Evt (fun q=>e93 q (xV l) L U ctx ns ts [t]) (if (A6 l ns ts [t]&&A6 l ns ts ctx&&A6 l ns ts ts)=true then .inl (0,ctx,ns,ts,l)else .inr 5):=by
 simp only[e93]
 refine(A7 l ctx ns ts [t] L U (by simp) (OkA.one ho)).bind ?_
 by_cases h1:A6 l ns ts [t]=true
 ·refine Evt.ifT h1 ((A7 l ctx ns ts ctx L U hcl hoc).bind ?_)
  by_cases h2:A6 l ns ts ctx=true
  ·refine Evt.ifT h2 ((A7 l ctx ns ts ts L U htl hot).bind ?_)
   by_cases h3:A6 l ns ts ts=true
   ·refine Evt.ifT h3 (Evt.bind (a:=l) ?_ (Evt.ret.eq (by simp[h1,h2,h3])))
    simp only[zFC]
    exact((bE l hl he hc).eq (mZ hE)).bind Evt.ret
   ·exact Evt.ifF (by simpa using h3) (Evt.ret.eq (by simp[h3]))
  ·exact Evt.ifF (by simpa using h2) (Evt.ret.eq (by simp[h2]))
 ·exact Evt.ifF (by simpa using h1) (Evt.ret.eq (by simp[h1]))
theorem zBz(hF:Evt (fun q=>e47 q l) true)(ctx:List Tm)(ns:List Int)(ts:List Tm)(t:Tm)(hcl:ctx.length≤100)(htl:ts.length≤100)(hoc:OkA ctx)(hot:OkA ts)(ho:t.Ok)(f:Int)(hf:0≤f) :
  Ou (fun L U q=>e98 q (xV l) L U ctx ns ts t) zSs QU True f:=by
 simp only[e98]
 by_cases h:(A6 l ns ts [t]&&A6 l ns ts ctx&&A6 l ns ts ts)=true
 ·have hh:=h
  simp only[Bool.and_eq_true]at h
  obtain⟨⟨h1,h2⟩,h3⟩:=h
  have hR:=(j8 h1).2 t (by simp)
  have hns:=(j8 h1).1
  refine Ou.imp (f:=fun L U q=>e94 q (xV l) L U ctx ns ts l t>>=fun r5=>some (r5.1,r5.2.1,r5.2.2.1,r5.2.2.2)) ?_ fun L U r k=>((zDS l hE he hl hc ctx ns ts t hcl htl hoc hot ho L U).eq (if_pos hh)).bind (Evt.ifF rfl k)
  have hn:=(zK hR.shaped).1
  refine Ou.bind ((zDJ l hE he hl hc hF ns ts hot hns (by omega) t.nodes t hR (Nat.le_refl _)).2.1 ctx f hoc (by omega) hf) id (fun r hr=>⟨_,Evt.ret,hr⟩) ?_
  rintro R k k0 k1 ⟨a,e,h8,rfl⟩
  exact Ou.ret (by omega) ⟨a,e,h8,rfl⟩
 ·refine Ou.imp (f:=fun L U q=>some (0,5,L,U)) (Ou.ret hf ⟨0,5,by decide,rfl⟩) fun L U r k=>((zDS l hE he hl hc ctx ns ts t hcl htl hoc hot ho L U).eq (if_neg h)).bind (Evt.ifT rfl k)
end
structure iL (l:List Ent):Prop where
 he:∀e∈l,EOk e
 hc:∀e∈l,ECl e
 hl:l.length≤65535
 hF:Evt (fun q=>e47 q l) true
theorem iL.E{l:List Ent}(h:iL l):(∃N,vK N l)∧Evt (fun q=>e39 q l) (.inr (0,l,l.map xR,l.map uJ,l,evA l l.length 0)):=by
 obtain⟨N,hN⟩:=R7
 obtain⟨b,h1,h2,h3⟩:=zOM N hN l h.hl h.he h.hc
 have e:=h.hF.det h1
 subst e
 exact⟨⟨N,h2 rfl⟩,h3.eq (by unfold zRI;rw[if_pos rfl])⟩
theorem iL.U{l:List Ent}(h:iL l)(ctx:List Tm)(t:Tm)(hcl:ctx.length≤100)(hoc:OkA ctx)(ho:t.Ok)(f:Int)(hf:0≤f):Ou (fun L U q=>e98 q (xV l) L U ctx [] [] t) zSs QU True f:=by
 obtain⟨⟨N,hE⟩,-⟩:=h.E
 exact zBz l hE h.he h.hl h.hc h.hF ctx [] [] t hcl (by simp) hoc (fun _ h=>nomatch h) ho f hf
def uG:Nat->(List jS)->Int->Int->ByteArray->(List zP)->Int->Int->ByteArray->Int->(List zC)->(List zP)->(List yT)->Int->Int->(List Tm)->(List ByteArray)->Int->Int->Int->Int->(Tm×List Tm)->Ent->Int->Option (Bool)
 |0,_,_,_,_,_,_,_,_,_,_,_,_,_,_,_,_,_,_,_,_,_,_,_=>none
 |qq+1,q0,q1,q2,q3,q4,q5,q6,q7,q8,q9,q10,q11,q12,q13,q14,q15,q16,q17,p2,p3,r1,x5,v56=>
 if decide (v56<x5.pars)then
 zL r1.2 v56>>=fun x9=>
 if x9.k != 1 then
 some false
 else
 zL q0 p2>>=fun x12=>
 if x9.n != (w64 ((w64 ((w64 (x12.pars+p3))-1))-v56))then
 some false
 else
 uG qq q0 q1 q2 q3 q4 q5 q6 q7 q8 q9 q10 q11 q12 q13 q14 q15 q16 q17 p2 p3 r1 x5 (w64 (v56+1))
 else
 some true
def bQ(qq:Nat)(q0:List jS)(q1 q2:Int)(q3:ByteArray)(q4:List zP)(q5 q6:Int)(q7:ByteArray)(q8:Int)(q9:List zC)(q10:List zP)(q11:List yT)(q12 q13:Int)(q14:List Tm)(q15:List ByteArray)(q16 q17:Int)(p1:Tm)(p2 p3:Int):Option (Bool):=
 jX qq p1>>=fun r1=>
 if r1.1.k != 6 then
 some false
 else
 if r1.1.n != p2 then
 some false
 else
 zL q0 p2>>=fun x5=>
 if (List.length r1.2:Int) != (w64 (x5.pars+x5.inds))then
 some false
 else
 uG qq q0 q1 q2 q3 q4 q5 q6 q7 q8 q9 q10 q11 q12 q13 q14 q15 q16 q17 p2 p3 r1 x5 0
theorem zDT:∀qq:Nat,∀q0 q1 q2 q3 q4 q5 q6 q7 q8 q9 q10 q11 q12 q13 q14 q15 q16 q17 p2 p3 r1 x5 v56,Lz (uG qq q0 q1 q2 q3 q4 q5 q6 q7 q8 q9 q10 q11 q12 q13 q14 q15 q16 q17 p2 p3 r1 x5 v56) 2 Tryz.f100 (inn (inn (rgt (lft (rgt (rgt (rgt (bod Tryz.f100)))))))) (fun j=>sp j 87 0 [(0,.mp 0 0),(2,ai p2),(3,ai p3),(10,slv zA r1.2 .no),(55,ai x5.pars),(56,ai v56)]) ⟨[(0,.cells [slv entZ q0 .no,ai q1,ai q2,at' q3,slv zB q4 .no,ai q5,ai q6,at' q7,ai q8,slv zH q9 .no,slv zB q10 .no,slv zO q11 .no,.mp 1 0,slv zA q14 .no,slv yU q15 .no,ai q16,ai q17]),(1,.cells [ai q12,ai q13])],2,[],0,[]⟩ (fun r=>ab r) (fun _=>[.cells [slv entZ q0 .no,ai q1,ai q2,at' q3,slv zB q4 .no,ai q5,ai q6,at' q7,ai q8,slv zH q9 .no,slv zB q10 .no,slv zO q11 .no,.mp 1 0,slv zA q14 .no,slv yU q15 .no,ai q16,ai q17],.cells [ai q12,ai q13]]) 0 [.blk 0,.seq (rgt (rgt (rgt (rgt (bod Tryz.f100)))))]:=yW (fun _ _ _ _ _ _ _ _ _ _ _ _ _ _ _ _ _ _ _ _ _ _ _=>lN) fun qq ih=>fun q0 q1 q2 q3 q4 q5 q6 q7 q8 q9 q10 q11 q12 q13 q14 q15 q16 q17 p2 p3 r1 x5 v56=>lw fun _=>rB 0 (rH fun _ h10=>rS (oA 0 (yM (o:=.no) h10))<|rB 1 (lE 0)<|rS (oA 0 (yM (o:=.no) h10))<|rS (oWk 1 (wkE q0 .no))<|rA 0 (yY (o:=.no)) fun _=>rB 4 (lE 0)<|lH 1 [] [0,1] [] [0,2,3,10,55,56] (ih _ _ _ _ _ _ _ _ _ _ _ _ _ _ _ _ _ _ _ _ _ _ _))<|lE 0
theorem zMO{qq q0 q1 q2 q3 q4 q5 q6 q7 q8 q9 q10 q11 q12 q13 q14 q15 q16 q17 p1 p2 p3}:Cz (bQ qq q0 q1 q2 q3 q4 q5 q6 q7 q8 q9 q10 q11 q12 q13 q14 q15 q16 q17 p1 p2 p3) 100 [.cells [slv entZ q0 .no,ai q1,ai q2,at' q3,slv zB q4 .no,ai q5,ai q6,at' q7,ai q8,slv zH q9 .no,slv zB q10 .no,slv zO q11 .no,.mp 1 0,slv zA q14 .no,slv yU q15 .no,ai q16,ai q17],.cells [ai q12,ai q13]] [.mp 0 0,tmA p1,ai p2,ai p3] (fun r=>ab r) (fun _=>[.cells [slv entZ q0 .no,ai q1,ai q2,at' q3,slv zB q4 .no,ai q5,ai q6,at' q7,ai q8,slv zH q9 .no,slv zB q10 .no,slv zO q11 .no,.mp 1 0,slv zA q14 .no,slv yU q15 .no,ai q16,ai q17],.cells [ai q12,ai q13]]) 0:=fw Tryz.func100<|rC 1 [] E8 fun _=>rB 4 (fE 0)<|rB 1 (fE 0)<|rS (oWk 1 (wkE q0 .no))<|rH fun _ h6=>rS (oA 0 (yY (o:=.no) h6))<|rS (oWk 1 (wkE q0 .no))<|rS (oA 0 (yY (o:=.no) h6))<|rB 2 (fE 0)<|rS (oWk 0 (wkE q0 .no))<|rS (oA 0 (yY (o:=.no) h6))<|fH 1 [] [0,1] [] [0,2,3,10,55,56] (zDT _ _ _ _ _ _ _ _ _ _ _ _ _ _ _ _ _ _ _ _ _ _ _ _)
def wN(qq:Nat)(q0:List jS)(q1 q2:Int)(q3:ByteArray)(q4:List zP)(q5 q6:Int)(q7:ByteArray)(q8:Int)(q9:List zC)(q10:List zP)(q11:List yT)(q12 q13:Int)(q14:List Tm)(q15:List ByteArray)(q16 q17 p1 p2:Int):Option (Bool×Int×Int):=
 if q16==0 then
 if p1 != 0 then
 some ((p1 != 0),p1,p2)
 else
 some ((q16 != 0),q16,q17)
 else
 some ((q16 != 0),q16,q17)
theorem wV{qq q0 q1 q2 q3 q4 q5 q6 q7 q8 q9 q10 q11 q12 q13 q14 q15 q16 q17 p1 p2}:Cz (wN qq q0 q1 q2 q3 q4 q5 q6 q7 q8 q9 q10 q11 q12 q13 q14 q15 q16 q17 p1 p2) 92 [.cells [slv entZ q0 .no,ai q1,ai q2,at' q3,slv zB q4 .no,ai q5,ai q6,at' q7,ai q8,slv zH q9 .no,slv zB q10 .no,slv zO q11 .no,.mp 1 0,slv zA q14 .no,slv yU q15 .no,ai q16,ai q17],.cells [ai q12,ai q13]] [.mp 0 0,ai p1,ai p2] (fun r=>ab r.1) (fun r=>[.cells [slv entZ q0 .no,ai q1,ai q2,at' q3,slv zB q4 .no,ai q5,ai q6,at' q7,ai q8,slv zH q9 .no,slv zB q10 .no,slv zO q11 .no,.mp 1 0,slv zA q14 .no,slv yU q15 .no,ai r.2.1,ai r.2.2],.cells [ai q12,ai q13]]) 0:=fw Tryz.func92<|rB 1 (rB 0 (fE 4)<|fE 2)<|fE 2
def bR(qq:Nat)(q0:List jS)(q1 q2:Int)(q3:ByteArray)(q4:List zP)(q5 q6:Int)(q7:ByteArray)(q8:Int)(q9:List zC)(q10:List zP)(q11:List yT)(q12 q13:Int)(q14:List Tm)(q15:List ByteArray)(q16 q17:Int)(p1:List Tm):Option ((List Tm×List Int×List Tm×Int×Int×List Ent×List Int×List Int×List Ent×List xN) ⊕ (List Tm×List Int×List Tm×Int×Int)):=
 e39 qq q0>>=fun r1=>
 match r1 with
 |Sum.inl y7=>
  if y7 != 0 then
  wN qq q0 q1 q2 q3 q4 q5 q6 q7 q8 q9 q10 q11 q12 q13 q14 q15 q16 q17 5 0>>=fun r9=>
  some (Sum.inr (p1,[],[],r9.2.1,r9.2.2))
  else
  some (Sum.inr (p1,[],[],q16,q17))
 |Sum.inr y3=>
  if y3.1 != 0 then
  wN qq q0 q1 q2 q3 q4 q5 q6 q7 q8 q9 q10 q11 q12 q13 q14 q15 q16 q17 5 0>>=fun r5=>
  some (Sum.inl (p1,[],[],r5.2.1,r5.2.2,y3.2.1,y3.2.2.1,y3.2.2.2.1,y3.2.2.2.2.1,y3.2.2.2.2.2))
  else
  some (Sum.inl (p1,[],[],q16,q17,y3.2.1,y3.2.2.1,y3.2.2.2.1,y3.2.2.2.2.1,y3.2.2.2.2.2))
theorem zBy{qq q0 q1 q2 q3 q4 q5 q6 q7 q8 q9 q10 q11 q12 q13 q14 q15 q16 q17 p1}:Cz (bR qq q0 q1 q2 q3 q4 q5 q6 q7 q8 q9 q10 q11 q12 q13 q14 q15 q16 q17 p1) 49 [.cells [slv entZ q0 .no,ai q1,ai q2,at' q3,slv zB q4 .no,ai q5,ai q6,at' q7,ai q8,slv zH q9 .no,slv zB q10 .no,slv zO q11 .no,.mp 1 0,slv zA q14 .no,slv yU q15 .no,ai q16,ai q17],.cells [ai q12,ai q13]] [.mp 0 0,slv zA p1 .no] (Sum.elim (fun x=>.agg [.mp 2 0,.mp 1 0,slv zA x.1 .no,slv zM x.2.1 .no,slv zA x.2.2.1 .no]) (fun x=>.agg [.val (.pointer none),.mp 1 0,slv zA x.1 .no,slv zM x.2.1 .no,slv zA x.2.2.1 .no])) (Sum.elim (fun x=>[.cells [slv entZ q0 .no,ai q1,ai q2,at' q3,slv zB q4 .no,ai q5,ai q6,at' q7,ai q8,slv zH q9 .no,slv zB q10 .no,slv zO q11 .no,.mp 1 0,slv zA q14 .no,slv yU q15 .no,ai x.2.2.2.1,ai x.2.2.2.2.1],.cells [ai q12,ai q13],.cells [slv zI x.2.2.2.2.2.1 .no,.mp 3 0,slv zM x.2.2.2.2.2.2.1 .no,slv zM x.2.2.2.2.2.2.2.1 .no],.cells [slv zI x.2.2.2.2.2.2.2.2.1 .no,slv xX x.2.2.2.2.2.2.2.2.2 .no]]) (fun x=>[.cells [slv entZ q0 .no,ai q1,ai q2,at' q3,slv zB q4 .no,ai q5,ai q6,at' q7,ai q8,slv zH q9 .no,slv zB q10 .no,slv zO q11 .no,.mp 1 0,slv zA q14 .no,slv yU q15 .no,ai x.2.2.2.1,ai x.2.2.2.2],.cells [ai q12,ai q13]])) 0:=fw Tryz.func49<|rS (oWk 0 (wkE q0 .no))<|rC 0 [] c39<|oR (fun _=>rB 2 (rC 0 [0,1] wV fun _=>fE 2)<|fE 2) fun _=>rB 2 (rC 0 [0,1] wV fun _=>fF 2 [0,1,3,4])<|fF 2 [0,1,3,4]
def tE:Nat->(List jS)->Int->Int->ByteArray->(List zP)->Int->Int->ByteArray->Int->(List zC)->(List zP)->(List yT)->(List Tm)->(List ByteArray)->Int->Int->Int->Int->(List Tm)->Int->Int->Int->Option (Int×Int×Int×Int)
 |0,_,_,_,_,_,_,_,_,_,_,_,_,_,_,_,_,_,_,_,_,_,_=>none
 |qq+1,q0,q1,q2,q3,q4,q5,q6,q7,q8,q9,q10,q11,q14,q15,p2,p3,yL,yP,x73,v163,yH,yI=>
 if decide (v163<(List.length x73:Int))then
 zL x73 v163>>=fun x76=>
 zMM qq x76 p2>>=fun r78=>
 if r78 then
 wN qq q0 q1 q2 q3 q4 q5 q6 q7 q8 q9 q10 q11 yL yP q14 q15 yH yI 9 p3>>=fun r81=>
 tE qq q0 q1 q2 q3 q4 q5 q6 q7 q8 q9 q10 q11 q14 q15 p2 p3 yL yP x73 (w64 (v163+1)) r81.2.1 r81.2.2
 else
 tE qq q0 q1 q2 q3 q4 q5 q6 q7 q8 q9 q10 q11 q14 q15 p2 p3 yL yP x73 (w64 (v163+1)) yH yI
 else
 some (yH,yI,yL,yP)
def uK:Nat->(List jS)->Int->Int->ByteArray->(List zP)->Int->Int->ByteArray->Int->(List zC)->(List zP)->(List yT)->(List Tm)->(List ByteArray)->Int->Int->(List Tm)->(List Tm)->Int->Int->Int->Int->Int->Int->Int->Int->(List Tm)->Option (Int×Int×Int×Int)
 |0,_,_,_,_,_,_,_,_,_,_,_,_,_,_,_,_,_,_,_,_,_,_,_,_,_,_,_=>none
 |qq+1,q0,q1,q2,q3,q4,q5,q6,q7,q8,q9,q10,q11,q14,q15,p2,p3,v10,v69,v70,v71,yH,yI,yL,yP,xA,xY,xK=>
 if decide (v71<v70)then
 zL v69 v71>>=fun x21=>
 gsl q14 0 (List.length q14:Int)>>=fun x23=>
 gsl v10 0 v71>>=fun x25=>
 yR 40 x23 x25>>=fun l27=>
 bR qq q0 q1 q2 q3 q4 q5 q6 q7 q8 q9 q10 q11 yL yP q14 q15 yH yI l27>>=fun r30=>
 match r30 with
 |Sum.inl y32=>
  e98 qq (xO.mk y32.2.2.2.2.2.1 y32.2.2.2.2.2.2.2.2.1 y32.2.2.2.2.2.2.2.2.2 y32.2.2.2.2.2.2.1 y32.2.2.2.2.2.2.2.1) yL yP y32.1 y32.2.1 y32.2.2.1 x21>>=fun r33=>
  if r33.2.1==0 then
  zL q0 p2>>=fun x36=>
  if decide (r33.1>x36.level)then
  wN qq q0 q1 q2 q3 q4 q5 q6 q7 q8 q9 q10 q11 r33.2.2.1 r33.2.2.2 q14 q15 y32.2.2.2.1 y32.2.2.2.2.1 7 p3>>=fun r39=>
  if r39.1 then
  some (r39.2.1,r39.2.2,r33.2.2.1,r33.2.2.2)
  else
  uK qq q0 q1 q2 q3 q4 q5 q6 q7 q8 q9 q10 q11 q14 q15 p2 p3 v10 v69 v70 (w64 (v71+1)) r39.2.1 r39.2.2 r33.2.2.1 r33.2.2.2 xA xY xK
  else
  wN qq q0 q1 q2 q3 q4 q5 q6 q7 q8 q9 q10 q11 r33.2.2.1 r33.2.2.2 q14 q15 y32.2.2.2.1 y32.2.2.2.2.1 r33.2.1 p3>>=fun r42=>
  if r42.1 then
  some (r42.2.1,r42.2.2,r33.2.2.1,r33.2.2.2)
  else
  uK qq q0 q1 q2 q3 q4 q5 q6 q7 q8 q9 q10 q11 q14 q15 p2 p3 v10 v69 v70 (w64 (v71+1)) r42.2.1 r42.2.2 r33.2.2.1 r33.2.2.2 xA xY xK
  else
  wN qq q0 q1 q2 q3 q4 q5 q6 q7 q8 q9 q10 q11 r33.2.2.1 r33.2.2.2 q14 q15 y32.2.2.2.1 y32.2.2.2.2.1 r33.2.1 p3>>=fun r45=>
  if r45.1 then
  some (r45.2.1,r45.2.2,r33.2.2.1,r33.2.2.2)
  else
  uK qq q0 q1 q2 q3 q4 q5 q6 q7 q8 q9 q10 q11 q14 q15 p2 p3 v10 v69 v70 (w64 (v71+1)) r45.2.1 r45.2.2 r33.2.2.1 r33.2.2.2 xA xY xK
 |Sum.inr y48=>
  none
 else
 zL q0 p2>>=fun x64=>
 zML qq v10 p2 x64.pars x64.inds>>=fun r66=>
 wN qq q0 q1 q2 q3 q4 q5 q6 q7 q8 q9 q10 q11 yL yP q14 q15 yH yI r66.2 p3>>=fun r68=>
 if r68.1 then
 some (r68.2.1,r68.2.2,yL,yP)
 else
 jX qq (Tm.mk xA xY xK)>>=fun r71=>
 gsl r71.2 x64.pars (List.length r71.2:Int)>>=fun x73=>
 tE qq q0 q1 q2 q3 q4 q5 q6 q7 q8 q9 q10 q11 q14 q15 p2 p3 yL yP x73 0 r68.2.1 r68.2.2
def bS(qq:Nat)(q0:List jS)(q1 q2:Int)(q3:ByteArray)(q4:List zP)(q5 q6:Int)(q7:ByteArray)(q8:Int)(q9:List zC)(q10:List zP)(q11:List yT)(q12 q13:Int)(q14:List Tm)(q15:List ByteArray)(q16 q17:Int)(p1:Tm)(p2 p3:Int):Option (Int×Int×Int×Int):=
 bR qq q0 q1 q2 q3 q4 q5 q6 q7 q8 q9 q10 q11 q12 q13 q14 q15 q16 q17 q14>>=fun r1=>
 match r1 with
 |Sum.inl y3=>
  e98 qq (xO.mk y3.2.2.2.2.2.1 y3.2.2.2.2.2.2.2.2.1 y3.2.2.2.2.2.2.2.2.2 y3.2.2.2.2.2.2.1 y3.2.2.2.2.2.2.2.1) q12 q13 y3.1 y3.2.1 y3.2.2.1 p1>>=fun r4=>
  wN qq q0 q1 q2 q3 q4 q5 q6 q7 q8 q9 q10 q11 r4.2.2.1 r4.2.2.2 q14 q15 y3.2.2.2.1 y3.2.2.2.2.1 r4.2.1 p3>>=fun r6=>
  if r6.1 then
  some (r6.2.1,r6.2.2,r4.2.2.1,r4.2.2.2)
  else
  e99 qq p1>>=fun r9=>
  if r9.2.2 != 0 then
  wN qq q0 q1 q2 q3 q4 q5 q6 q7 q8 q9 q10 q11 r4.2.2.1 r4.2.2.2 q14 q15 r6.2.1 r6.2.2 6 p3>>=fun r12=>
  some (r12.2.1,r12.2.2,r4.2.2.1,r4.2.2.2)
  else
  if decide ((List.length r9.1:Int)>(w64 (24-(List.length q14:Int))))then
  wN qq q0 q1 q2 q3 q4 q5 q6 q7 q8 q9 q10 q11 r4.2.2.1 r4.2.2.2 q14 q15 r6.2.1 r6.2.2 6 p3>>=fun r15=>
  some (r15.2.1,r15.2.2,r4.2.2.1,r4.2.2.2)
  else
  bQ qq q0 q1 q2 q3 q4 q5 q6 q7 q8 q9 q10 q11 r4.2.2.1 r4.2.2.2 q14 q15 r6.2.1 r6.2.2 r9.2.1 p2 (List.length r9.1:Int)>>=fun r17=>
  if r17 then
  uK qq q0 q1 q2 q3 q4 q5 q6 q7 q8 q9 q10 q11 q14 q15 p2 p3 r9.1 r9.1 (List.length r9.1:Int) 0 r6.2.1 r6.2.2 r4.2.2.1 r4.2.2.2 r9.2.1.k r9.2.1.n r9.2.1.sub
  else
  wN qq q0 q1 q2 q3 q4 q5 q6 q7 q8 q9 q10 q11 r4.2.2.1 r4.2.2.2 q14 q15 r6.2.1 r6.2.2 6 p3>>=fun r20=>
  some (r20.2.1,r20.2.2,r4.2.2.1,r4.2.2.2)
 |Sum.inr y22=>
  none
theorem zFJ:∀qq:Nat,∀q0 q1 q2 q3 q4 q5 q6 q7 q8 q9 q10 q11 q14 q15 p2 p3 yL yP x73 v163 yH yI,Lz (tE qq q0 q1 q2 q3 q4 q5 q6 q7 q8 q9 q10 q11 q14 q15 p2 p3 yL yP x73 v163 yH yI) 2 Tryz.f52 (inn (inn (rgt (rgt (rgt (rgt (rgt (rgt (rgt (rgt (bod Tryz.f52))))))))))) (fun j=>sp j 174 0 [(0,.mp 0 0),(2,ai p2),(3,ai p3),(161,slv zA x73 .no),(162,ai (List.length x73:Int)),(163,ai v163)]) ⟨[(0,.cells [slv entZ q0 .no,ai q1,ai q2,at' q3,slv zB q4 .no,ai q5,ai q6,at' q7,ai q8,slv zH q9 .no,slv zB q10 .no,slv zO q11 .no,.mp 1 0,slv zA q14 .no,slv yU q15 .no,ai yH,ai yI]),(1,.cells [ai yL,ai yP])],2,[],0,[]⟩ (fun _=>.tup []) (fun r=>[.cells [slv entZ q0 .no,ai q1,ai q2,at' q3,slv zB q4 .no,ai q5,ai q6,at' q7,ai q8,slv zH q9 .no,slv zB q10 .no,slv zO q11 .no,.mp 1 0,slv zA q14 .no,slv yU q15 .no,ai r.1,ai r.2.1],.cells [ai r.2.2.1,ai r.2.2.2]]) 0 [.blk 2]:=yW (fun _ _ _ _ _ _ _ _ _ _ _ _ _ _ _ _ _ _ _ _ _ _=>lN) fun qq ih=>fun q0 q1 q2 q3 q4 q5 q6 q7 q8 q9 q10 q11 q14 q15 p2 p3 yL yP x73 v163 yH yI=>lw fun _=>rB 0 (rA 0 (yM (o:=.no)) fun _=>rK 3 [] zUm (fun _=>rC 0 [0,1] wV fun _=>lH 1 [] [0,1] [] [0,2,3,161,162,163] (ih _ _ _ _ _ _ _ _ _ _ _ _ _ _ _ _ _ _ _ _ _ _)) fun _=>lH 1 [] [0,1] [] [0,2,3,161,162,163] (ih _ _ _ _ _ _ _ _ _ _ _ _ _ _ _ _ _ _ _ _ _ _))<|lE 0
theorem zFK:∀qq:Nat,∀q0 q1 q2 q3 q4 q5 q6 q7 q8 q9 q10 q11 q14 q15 p2 p3 v10 v69 v70 v71 yH yI yL yP xA xY xK,Lz (uK qq q0 q1 q2 q3 q4 q5 q6 q7 q8 q9 q10 q11 q14 q15 p2 p3 v10 v69 v70 v71 yH yI yL yP xA xY xK) 2 Tryz.f52 (inn (inn (rgt (lft (rgt (rgt (rgt (rgt (bod Tryz.f52))))))))) (fun j=>sp j 174 0 [(0,.mp 0 0),(2,ai p2),(3,ai p3),(10,slv zA v10 .no),(11,.mp 2 0),(69,slv zA v69 .no),(70,ai v70),(71,ai v71)]) ⟨[(0,.cells [slv entZ q0 .no,ai q1,ai q2,at' q3,slv zB q4 .no,ai q5,ai q6,at' q7,ai q8,slv zH q9 .no,slv zB q10 .no,slv zO q11 .no,.mp 1 0,slv zA q14 .no,slv yU q15 .no,ai yH,ai yI]),(1,.cells [ai yL,ai yP]),(2,.cells [ai xA,ai xY,slv zA xK .no])],3,[],0,[]⟩ (fun _=>.tup []) (fun r=>[.cells [slv entZ q0 .no,ai q1,ai q2,at' q3,slv zB q4 .no,ai q5,ai q6,at' q7,ai q8,slv zH q9 .no,slv zB q10 .no,slv zO q11 .no,.mp 1 0,slv zA q14 .no,slv yU q15 .no,ai r.1,ai r.2.1],.cells [ai r.2.2.1,ai r.2.2.2]]) 0 [.blk 0,.seq (rgt (rgt (rgt (rgt (rgt (bod Tryz.f52))))))]:=yW (fun _ _ _ _ _ _ _ _ _ _ _ _ _ _ _ _ _ _ _ _ _ _ _ _ _ _ _=>lN) fun qq ih=>fun q0 q1 q2 q3 q4 q5 q6 q7 q8 q9 q10 q11 q14 q15 p2 p3 v10 v69 v70 v71 yH yI yL yP xA xY xK=>lw fun _=>rB 0 (rA 0 (yM (o:=.no)) fun _=>rA 7 (jW (o:=.no)) fun _=>rA 0 tR fun x25=>rH fun _ h28=>rZ (List.length x25=0) (fun h29=>rS (oP 0 (sJ h28 h29))<|rC 0 [0,1] zBy<|oR (fun _=>rC 1 [4,5,1] c98 fun _=>rB 2 (rS (oWk 0 (wkE q0 .no))<|rA 0 (yY (o:=.no)) fun _=>rB 1 (rK 0 [0,1] wV (fun _=>lE 0) fun _=>lH 1 [] [0,1,2] [] [0,2,3,10,11,69,70,71] (ih _ _ _ _ _ _ _ _ _ _ _ _ _ _ _ _ _ _ _ _ _ _ _ _ _ _ _))<|rK 0 [0,1] wV (fun _=>lE 0) fun _=>lH 1 [] [0,1,2] [] [0,2,3,10,11,69,70,71] (ih _ _ _ _ _ _ _ _ _ _ _ _ _ _ _ _ _ _ _ _ _ _ _ _ _ _ _))<|rK 0 [0,1] wV (fun _=>lE 0) fun _=>lH 1 [] [0,1,2] [] [0,2,3,10,11,69,70,71] (ih _ _ _ _ _ _ _ _ _ _ _ _ _ _ _ _ _ _ _ _ _ _ _ _ _ _ _)) fun _=>rN) fun h29=>rS (oP 0 (xU h28 h29))<|rC 0 [0,1] zBy<|oR (fun _=>rC 1 [4,5,1] c98 fun _=>rB 2 (rS (oWk 0 (wkE q0 .no))<|rA 0 (yY (o:=.no)) fun _=>rB 1 (rK 0 [0,1] wV (fun _=>lE 0) fun _=>lH 1 [] [0,1,2] [] [0,2,3,10,11,69,70,71] (ih _ _ _ _ _ _ _ _ _ _ _ _ _ _ _ _ _ _ _ _ _ _ _ _ _ _ _))<|rK 0 [0,1] wV (fun _=>lE 0) fun _=>lH 1 [] [0,1,2] [] [0,2,3,10,11,69,70,71] (ih _ _ _ _ _ _ _ _ _ _ _ _ _ _ _ _ _ _ _ _ _ _ _ _ _ _ _))<|rK 0 [0,1] wV (fun _=>lE 0) fun _=>lH 1 [] [0,1,2] [] [0,2,3,10,11,69,70,71] (ih _ _ _ _ _ _ _ _ _ _ _ _ _ _ _ _ _ _ _ _ _ _ _ _ _ _ _)) fun _=>rN)<|rS (oWk 0 (wkE q0 .no))<|rH fun _ h65=>rS (oA 0 (yY (o:=.no) h65))<|rS (oWk 1 (wkE q0 .no))<|rS (oA 0 (yY (o:=.no) h65))<|rC 1 [] zUn fun _=>rK 2 [0,1] wV (fun _=>lE 0) fun _=>rC 1 [] E8 fun _=>rS (oWk 3 (wkE q0 .no))<|rS (oA 0 (yY (o:=.no) h65))<|rA 1 uX fun _=>lH 1 [] [0,1] [] [0,2,3,161,162,163] (zFJ _ _ _ _ _ _ _ _ _ _ _ _ _ _ _ _ _ _ _ _ _ _ _)
theorem zHj{qq q0 q1 q2 q3 q4 q5 q6 q7 q8 q9 q10 q11 q12 q13 q14 q15 q16 q17 p1 p2 p3}:Cz (bS qq q0 q1 q2 q3 q4 q5 q6 q7 q8 q9 q10 q11 q12 q13 q14 q15 q16 q17 p1 p2 p3) 52 [.cells [slv entZ q0 .no,ai q1,ai q2,at' q3,slv zB q4 .no,ai q5,ai q6,at' q7,ai q8,slv zH q9 .no,slv zB q10 .no,slv zO q11 .no,.mp 1 0,slv zA q14 .no,slv yU q15 .no,ai q16,ai q17],.cells [ai q12,ai q13]] [.mp 0 0,tmA p1,ai p2,ai p3] (fun _=>.tup []) (fun r=>[.cells [slv entZ q0 .no,ai q1,ai q2,at' q3,slv zB q4 .no,ai q5,ai q6,at' q7,ai q8,slv zH q9 .no,slv zB q10 .no,slv zO q11 .no,.mp 1 0,slv zA q14 .no,slv yU q15 .no,ai r.1,ai r.2.1],.cells [ai r.2.2.1,ai r.2.2.2]]) 0:=fw Tryz.func52<|rC 1 [0,1] zBy<|oR (fun _=>rC 1 [3,4,1] c98 fun _=>rK 2 [0,1] wV (fun _=>fE 0) fun _=>rC 1 [] c99 fun _=>rB 4 (rC 0 [0,1] wV fun _=>fE 0)<|rB 4 (rC 0 [0,1] wV fun _=>fE 0)<|rK 2 [0,1] zMO (fun _=>fH 2 [] [0,1,5] [] [0,2,3,10,11,69,70,71] (zFK _ _ _ _ _ _ _ _ _ _ _ _ _ _ _ _ _ _ _ _ _ _ _ _ _ _ _ _)) fun _=>rC 1 [0,1] wV fun _=>fE 0) fun _=>rN
set_option linter.unusedSectionVars false
theorem Ou.evtL{ρ τ:Type}{er:ρ->Int}{Q:(Int->Int->ρ)->Int->Prop}{S:Prop}{l:Int}{x:Int->Int->Nat->Option τ}{a:τ}{c:Int->Int->Nat->τ->Option ρ}(h:∀L U,Evt (x L U) a)(g:Ou (fun L U q=>c L U q a) er Q S l):Ou (fun L U q=>x L U q>>=c L U q) er Q S l:=g.imp fun L U _ k=>Evt.bind (h L U) k
theorem Ou.cst{ρ:Type}{er:ρ->Int}{Q:(Int->Int->ρ)->Int->Prop}{S:Prop}{l:Int}{f:Int->Int->Nat->Option ρ}{R:Int->Int->ρ}(hl:0≤l)(h:∀L U,Evt (f L U) (R L U))(k:Q R 0):Ou f er Q S l:=(Ou.ret hl k).imp fun L U r e=>by rw[←Evt.ret.det e];exact h L U
abbrev zJm (r:Int×Int×Int×Int):Int:=r.1
def QG4(R:Int->Int->Int×Int×Int×Int)(_:Int):Prop:=∃e a,R=fun L U=>(e,a,L,U)
section
variable {l:List Ent} (hS:iL l) (q1 q2:Int) (q3:ByteArray) (q4:List zP) (q5 q6:Int) (q7:ByteArray) (q8:Int) (q9:List zC) (q10:List zP) (q11:List yT) {pars:List Tm} (own:List ByteArray) (hp:OkA pars) (hpl:pars.length≤24)
theorem tG(l:List Ent)(pars:List Tm)(L U a p at0:Int):Evt (fun q=>wN q l q1 q2 q3 q4 q5 q6 q7 q8 q9 q10 q11 L U pars own 0 a p at0) (p != 0,p,if p=0 then a else at0):=by
 simp only[wN]
 refine Evt.ifT rfl ?_
 by_cases h:p=0
 ·subst h;exact Evt.ifF rfl Evt.ret
 ·rw[if_neg h];exact Evt.ifT (by simpa using h) Evt.ret
def qB(e a p at0:Int):Bool×Int×Int:=if e=0 then(if p=0 then(false,0,a)else(true,p,at0))else(true,e,a)
theorem zDU(l:List Ent)(pars:List Tm)(L U e a p at0:Int):Evt (fun q=>wN q l q1 q2 q3 q4 q5 q6 q7 q8 q9 q10 q11 L U pars own e a p at0) (qB e a p at0):=by
 unfold qB
 by_cases h:e=0
 ·subst h
  rw[if_pos rfl]
  refine(tG q1 q2 q3 q4 q5 q6 q7 q8 q9 q10 q11 own l pars L U a p at0).eq ?_
  by_cases h2:p=0
  ·subst h2;rfl
  ·rw[if_neg h2,if_neg h2,show (p != 0)=true by simpa using h2]
 ·rw[if_neg h]
  simp only[wN]
  exact Evt.ifF (by simpa using h) (Evt.ret.eq (by rw[show (e != 0)=true by simpa using h]))
include hS in
theorem j9(pars:List Tm)(L U e a:Int)(ctx:List Tm):Evt (fun q=>bR q l q1 q2 q3 q4 q5 q6 q7 q8 q9 q10 q11 L U pars own e a ctx) (.inl (ctx,[],[],e,a,l,l.map xR,l.map uJ,l,evA l l.length 0)):=by
 simp only[bR]
 exact hS.E.2.bind (Evt.ifF rfl Evt.ret)
theorem bT(p2 p3:Int)(r1:Tm×List Tm)(h2:0≤p2∧p2<l.length)(P:Nat)(hP:(ent l p2).pars=P)(h24:P≤24)(hr:P≤r1.2.length):∀(m v:Nat),v+m=P->∃b,∀L U e a,Evt (fun q=>uG q l q1 q2 q3 q4 q5 q6 q7 q8 q9 q10 q11 L U pars own e a p2 p3 r1 (ent l p2) (v:Int)) b
 |0,v,hv=>by
  refine⟨true,fun L U e a=>Evt.succ ?_⟩
  simp only[uG]
  exact Evt.ifF (decide_eq_false (by omega)) Evt.ret
 |m+1,v,hv=>by
  obtain⟨x,hx,-⟩:=sM (l:=r1.2) (i:=(v:Int)) (by omega) (by omega)
  obtain⟨b,hb⟩:=bT p2 p3 r1 h2 P hP h24 hr m (v+1) (by omega)
  have st:∀c L U e a,Evt (fun q=>if (x.k != 1)=true then some false else zL l p2>>=fun x12=>if (x.n != (w64 ((w64 ((w64 (x12.pars+p3))-1))-(v:Int))))=true then some false else uG q l q1 q2 q3 q4 q5 q6 q7 q8 q9 q10 q11 L U pars own e a p2 p3 r1 (ent l p2) (w64 ((v:Int)+1))) c->Evt (fun q=>uG q l q1 q2 q3 q4 q5 q6 q7 q8 q9 q10 q11 L U pars own e a p2 p3 r1 (ent l p2) (v:Int)) c:=fun c L U e a h=>by
   refine Evt.succ ?_
   simp only[uG]
   exact Evt.ifT (decide_eq_true (by omega)) (Evt.pure hx h)
  rw[zU v (by omega)]at st
  by_cases c1:(x.k != 1)=true
  ·exact⟨false,fun L U e a=>st _ L U e a (Evt.ifT c1 Evt.ret)⟩
  ·by_cases c2:(x.n != (w64 ((w64 ((w64 ((ent l p2).pars+p3))-1))-(v:Int))))=true
   ·exact⟨false,fun L U e a=>st _ L U e a (Evt.ifF (by simpa using c1) (Evt.pure (yF h2.1 h2.2) (Evt.ifT c2 Evt.ret)))⟩
   ·exact⟨b,fun L U e a=>st _ L U e a (Evt.ifF (by simpa using c1) (Evt.pure (yF h2.1 h2.2) (Evt.ifF (by simpa using c2) (hb L U e a))))⟩
theorem zDV(p2 p3:Int)(t:Tm)(ht:zG t=true)(h2:0≤p2∧p2<l.length)(hP:0≤(ent l p2).pars∧(ent l p2).pars≤24)(hI:0≤(ent l p2).inds∧(ent l p2).inds≤24):∃b,(∀L U e a,Evt (fun q=>bQ q l q1 q2 q3 q4 q5 q6 q7 q8 q9 q10 q11 L U pars own e a t p2 p3) b)∧(b=true->(ent l p2).pars≤(arT t).length):=by
 simp only[bQ]
 have sp:=rJ t ht
 by_cases c1:((hdT t).k != 6)=true
 ·exact⟨false,fun L U e a=>sp.bind (Evt.ifT c1 Evt.ret),by simp⟩
 by_cases c2:((hdT t).n != p2)=true
 ·exact⟨false,fun L U e a=>sp.bind (Evt.ifF (by simpa using c1) (Evt.ifT c2 Evt.ret)),by simp⟩
 by_cases c3:(((arT t).length:Int) != w64 ((ent l p2).pars+(ent l p2).inds))=true
 ·exact⟨false,fun L U e a=>sp.bind (Evt.ifF (by simpa using c1) (Evt.ifF (by simpa using c2) (Evt.pure (yF h2.1 h2.2) (Evt.ifT c3 Evt.ret)))),by simp⟩
 have h3:((arT t).length:Int)=(ent l p2).pars+(ent l p2).inds:=by
  rw[zV (by omega) (by omega)]at c3
  simpa using c3
 obtain⟨b,hb⟩:=bT (l:=l) (pars:=pars) q1 q2 q3 q4 q5 q6 q7 q8 q9 q10 q11 own p2 p3 (hdT t,arT t) h2 (ent l p2).pars.toNat (by omega) (by omega) (by show _≤(arT t).length;omega) _ 0 (Nat.zero_add _)
 exact⟨b,fun L U e a=>sp.bind (Evt.ifF (by simpa using c1) (Evt.ifF (by simpa using c2) (Evt.pure (yF h2.1 h2.2) (Evt.ifF (by simpa using c3) (hb L U e a))))),fun _=>by omega⟩
theorem U9(p2 p3:Int)(X:List Tm)(hX:X.length≤8192)(ho:OkA X):∀(r:List Tm) (v:Nat) (e a:Int),X.drop v=r->∃e' a',∀L U,Evt (fun q=>tE q l q1 q2 q3 q4 q5 q6 q7 q8 q9 q10 q11 pars own p2 p3 L U X (v:Int) e a) (e',a',L,U)
 | [],v,e,a,hd=>by
  refine⟨e,a,fun L U=>Evt.succ ?_⟩
  simp only[tE]
  exact Evt.ifF (zX hd) Evt.ret
 |t::r,v,e,a,hd=>by
  have hlt:=yC hd
  have hm:t∈X:=List.mem_of_mem_drop (hd▸List.mem_cons_self ..)
  obtain⟨b,hb,-⟩:=zFH t (ho t hm) p2
  cases b with
  |true=>
   obtain⟨e',a',h⟩:=U9 p2 p3 X hX ho r (v+1) (qB e a 9 p3).2.1 (qB e a 9 p3).2.2 (zQ hd)
   refine⟨e',a',fun L U=>Evt.succ ?_⟩
   simp only[tE]
   rw[zU v (by omega)]
   exact Evt.ifT (zW hd) (Evt.pure (zS hd) (hb.bind (Evt.ifT rfl ((zDU q1 q2 q3 q4 q5 q6 q7 q8 q9 q10 q11 own l pars L U e a 9 p3).bind (h L U)))))
  |false=>
   obtain⟨e',a',h⟩:=U9 p2 p3 X hX ho r (v+1) e a (zQ hd)
   refine⟨e',a',fun L U=>Evt.succ ?_⟩
   simp only[tE]
   rw[zU v (by omega)]
   exact Evt.ifT (zW hd) (Evt.pure (zS hd) (hb.bind (Evt.ifF rfl (h L U))))
include hS hp hpl
theorem i4(p2 p3:Int)(h2:0≤p2∧p2<l.length)(hP:0≤(ent l p2).pars∧(ent l p2).pars≤24)(A:List Tm)(hA:∀t∈A,zG t=true)(hAl:A.length≤24)(t:Tm)(ht:zG t=true)(hpt:(ent l p2).pars≤(arT t).length):∀(r:List Tm) (v:Nat) (a f:Int),A.drop v=r->v≤A.length->0≤f ->
  Ou (fun L U q=>uK q l q1 q2 q3 q4 q5 q6 q7 q8 q9 q10 q11 pars own p2 p3 A A (A.length:Int) (v:Int) 0 a L U t.k t.n t.sub) zJm QG4 True f
 | [],v,a,f,hd,hv,hf=>by
  refine Ou.succ ?_
  simp only[uK]
  refine Ou.ifF (zX hd) (Ou.pure (yF h2.1 h2.2) (Ou.tot (zJo A p2 _ _ hAl hA) fun r _=>Ou.evtL (fun L U=>tG q1 q2 q3 q4 q5 q6 q7 q8 q9 q10 q11 own l pars L U a r.2 p3) (Ou.ite (fun _=>Ou.ret hf ⟨_,_,rfl⟩) fun _=>?_)))
  have:=sA t (zK ht).2.2
  have:=(zK ht).1
  refine Ou.evt (rJ (.mk t.k t.n t.sub) (by cases t;exact ht)) ?_
  rw[show Tm.mk t.k t.n t.sub=t by cases t;rfl]
  refine Ou.pure (uZ hP.1 (by show _≤((arT t).length:Int);omega)) ?_
  obtain⟨e',a',h⟩:=U9 (l:=l) (pars:=pars) q1 q2 q3 q4 q5 q6 q7 q8 q9 q10 q11 own p2 p3 ((arT t).drop (ent l p2).pars.toNat) (by rw[List.length_drop];omega) (fun x hx=>yG (xP ht (List.mem_of_mem_drop hx))) _ 0 r.2 (if r.2=0 then a else p3) rfl
  exact Ou.cst hf h ⟨_,_,rfl⟩
 |x::r,v,a,f,hd,hv,hf=>by
  have hlt:=yC hd
  have hm:x∈A:=List.mem_of_mem_drop (hd▸List.mem_cons_self ..)
  have go:∀(a f:Int),0≤f->Ou (fun L U q=>uK q l q1 q2 q3 q4 q5 q6 q7 q8 q9 q10 q11 pars own p2 p3 A A (A.length:Int) ((v+1:Nat):Int) 0 a L U t.k t.n t.sub) zJm QG4 True f:=fun a f hf=>i4 p2 p3 h2 hP A hA hAl t ht hpt r (v+1) a f (zQ hd) hlt hf
  refine Ou.succ ?_
  simp only[uK]
  rw[zU v (by omega)]
  refine Ou.ifT (decide_eq_true (by omega)) (Ou.pure (zS hd) (Ou.pure (a:=pars) (by unfold gsl;rw[if_pos (by omega)];simp) (Ou.pure (a:=A.take v) (by unfold gsl;rw[if_pos (by omega)];simp) (Ou.pure (zZ (by rw[List.length_take];omega)) (Ou.evtL (fun L U=>j9 hS q1 q2 q3 q4 q5 q6 q7 q8 q9 q10 q11 own pars L U 0 a _) ?_)))))
  have ho:OkA (pars++A.take v):=fun y hy=>by
   rcases List.mem_append.1 hy with hy|hy
   ·exact hp y hy
   ·exact yG (hA y (List.mem_of_mem_take hy))
  refine Ou.bind (hS.U (pars++A.take v) x (by rw[List.length_append,List.length_take];omega) ho (yG (hA x hm)) f hf) id (fun r hr=>⟨_,Evt.ifF (by have h:r.2.1=8:=hr;rw[h];rfl) ((tG q1 q2 q3 q4 q5 q6 q7 q8 q9 q10 q11 own l pars _ _ a r.2.1 p3).bind (Evt.ifT (ne8 hr) Evt.ret)),hr⟩) ?_
  rintro R k k0 k1 ⟨n,e,h8,rfl⟩
  change Ou _ zJm QG4 True _
  dsimp only
  have e7:=fun L U=>tG q1 q2 q3 q4 q5 q6 q7 q8 q9 q10 q11 own l pars L U a 7 p3
  have e0':=fun L U=>tG q1 q2 q3 q4 q5 q6 q7 q8 q9 q10 q11 own l pars L U a 0 p3
  have ee:=fun L U=>tG q1 q2 q3 q4 q5 q6 q7 q8 q9 q10 q11 own l pars L U a e p3
  refine Ou.ite (fun he=>Ou.pure (yF h2.1 h2.2) ?_) fun he=>?_
  by_cases hn:n>(ent l p2).level
  ·simp only[decide_eq_true hn,↓reduceIte]
   refine Ou.evtL e7 ?_
   refine Ou.ite (fun _=>Ou.ret (by omega) ⟨_,_,rfl⟩) fun h=>by simp at h
  ·simp only[decide_eq_false hn,Bool.false_eq_true,↓reduceIte]
   have e0:e=0:=by simpa using he
   subst e0
   refine Ou.evtL e0' ?_
   refine Ou.ite (fun h=>by simp at h) fun _=>?_
   exact go _ _ (by omega)
  ·refine Ou.evtL ee ?_
   refine Ou.ite (fun _=>Ou.ret (by omega) ⟨_,_,rfl⟩) fun h=>absurd h (by simpa using he)
theorem zMP(p2 p3:Int)(h2:0≤p2∧p2<l.length)(hP:0≤(ent l p2).pars∧(ent l p2).pars≤24)(hI:0≤(ent l p2).inds∧(ent l p2).inds≤24)(t:Tm)(ho:t.Ok)(a f:Int)(hf:0≤f) :
  Ou (fun L U q=>bS q l q1 q2 q3 q4 q5 q6 q7 q8 q9 q10 q11 L U pars own 0 a t p2 p3) zJm QG4 True f:=by
 simp only[bS]
 refine Ou.evtL (fun L U=>j9 hS q1 q2 q3 q4 q5 q6 q7 q8 q9 q10 q11 own pars L U 0 a _) ?_
 refine Ou.bind (hS.U pars t (by omega) hp ho f hf) id (fun r hr=>⟨_,(tG q1 q2 q3 q4 q5 q6 q7 q8 q9 q10 q11 own l pars _ _ a r.2.1 p3).bind (Evt.ifT (ne8 hr) Evt.ret),hr⟩) ?_
 rintro R k k0 k1 ⟨n,e,h8,rfl⟩
 change Ou _ zJm QG4 True _
 dsimp only
 refine Ou.evtL (fun L U=>tG q1 q2 q3 q4 q5 q6 q7 q8 q9 q10 q11 own l pars L U a e p3) (Ou.ite (fun _=>Ou.ret (by omega) ⟨_,_,rfl⟩) fun he=>?_)
 have e0:e=0:=by simpa using he
 subst e0
 have six:∀a:Int,Ou (fun L U q=>wN q l q1 q2 q3 q4 q5 q6 q7 q8 q9 q10 q11 L U pars own 0 a 6 p3>>=fun r=>some (r.2.1,r.2.2,L,U)) zJm QG4 True (f-k):=fun a=>Ou.evtL (fun L U=>tG q1 q2 q3 q4 q5 q6 q7 q8 q9 q10 q11 own l pars L U a 6 p3) (Ou.ret (by omega) ⟨_,_,rfl⟩)
 refine Ou.evt (mV t ho) (Ou.ite (fun _=>six _) fun h=>Ou.ite (fun _=>six _) fun _=>?_)
 obtain⟨A,y,e9,hw⟩:∃A y e9,xC t=(A,y,e9):=⟨_,_,_,rfl⟩
 rw[hw]at h ⊢
 have h9:e9=0:=by simpa using h
 subst h9
 obtain⟨-,-,w1,-,w2,w3⟩:=oH hw
 dsimp only
 obtain⟨b,hb,hb2⟩:=zDV (l:=l) (pars:=pars) q1 q2 q3 q4 q5 q6 q7 q8 q9 q10 q11 own p2 (A.length:Int) y w2 h2 hP hI
 refine Ou.evtL (fun L U=>hb L U 0 _) (Ou.ite (fun h=>i4 hS q1 q2 q3 q4 q5 q6 q7 q8 q9 q10 q11 own hp hpl p2 p3 h2 hP A w3 w1 y w2 (hb2 h) A 0 _ _ rfl (by omega) (by omega)) fun _=>six _)
end
def sD:Nat->(List jS)->Int->Int->ByteArray->(List zP)->Int->Int->ByteArray->Int->(List zC)->(List zP)->(List yT)->(List Tm)->(List ByteArray)->Int->(List Ent)->Int->Int->Int->Int->Option (List Ent×Int×Int×Int×Int)
 |0,_,_,_,_,_,_,_,_,_,_,_,_,_,_,_,_,_,_,_,_=>none
 |qq+1,q0,q1,q2,q3,q4,q5,q6,q7,q8,q9,q10,q11,q14,q15,v23,v4,yH,yI,yL,yP=>
 if decide (v23<(List.length q10:Int))then
 zL q10 v23>>=fun x2=>
 zFF qq q0 q15 x2.type_>>=fun r4=>
 if r4.2.2==2 then
 wN qq q0 q1 q2 q3 q4 q5 q6 q7 q8 q9 q10 q11 yL yP q14 q15 yH yI r4.2.2 x2.at_>>=fun r7=>
 if r7.1 then
 some ([],r7.2.1,r7.2.2,yL,yP)
 else
 bS qq q0 q1 q2 q3 q4 q5 q6 q7 q8 q9 q10 q11 yL yP q14 q15 r7.2.1 r7.2.2 r4.1 (w64 ((List.length q0:Int)-1)) x2.at_>>=fun r10=>
 if r10.1 != 0 then
 some ([],r10.1,r10.2.1,r10.2.2.1,r10.2.2.2)
 else
 A0 qq q14 r4.1>>=fun r13=>
 wN qq q0 q1 q2 q3 q4 q5 q6 q7 q8 q9 q10 q11 r10.2.2.1 r10.2.2.2 q14 q15 r10.1 r10.2.1 r13.2 x2.at_>>=fun r15=>
 if r15.1 then
 some ([],r15.2.1,r15.2.2,r10.2.2.1,r10.2.2.2)
 else
 yR 192 v4 [(Ent.mk 2 x2.name_ r13.1 (Tm.mk 0 0 []) (w64 ((List.length q0:Int)-1)) v23 (List.length q14:Int) 0 0 [] [])]>>=fun l18=>
 sD qq q0 q1 q2 q3 q4 q5 q6 q7 q8 q9 q10 q11 q14 q15 (w64 (v23+1)) l18 r15.2.1 r15.2.2 r10.2.2.1 r10.2.2.2
 else
 wN qq q0 q1 q2 q3 q4 q5 q6 q7 q8 q9 q10 q11 yL yP q14 q15 yH yI r4.2.2 r4.2.1>>=fun r21=>
 if r21.1 then
 some ([],r21.2.1,r21.2.2,yL,yP)
 else
 bS qq q0 q1 q2 q3 q4 q5 q6 q7 q8 q9 q10 q11 yL yP q14 q15 r21.2.1 r21.2.2 r4.1 (w64 ((List.length q0:Int)-1)) x2.at_>>=fun r24=>
 if r24.1 != 0 then
 some ([],r24.1,r24.2.1,r24.2.2.1,r24.2.2.2)
 else
 A0 qq q14 r4.1>>=fun r27=>
 wN qq q0 q1 q2 q3 q4 q5 q6 q7 q8 q9 q10 q11 r24.2.2.1 r24.2.2.2 q14 q15 r24.1 r24.2.1 r27.2 x2.at_>>=fun r29=>
 if r29.1 then
 some ([],r29.2.1,r29.2.2,r24.2.2.1,r24.2.2.2)
 else
 yR 192 v4 [(Ent.mk 2 x2.name_ r27.1 (Tm.mk 0 0 []) (w64 ((List.length q0:Int)-1)) v23 (List.length q14:Int) 0 0 [] [])]>>=fun l32=>
 sD qq q0 q1 q2 q3 q4 q5 q6 q7 q8 q9 q10 q11 q14 q15 (w64 (v23+1)) l32 r29.2.1 r29.2.2 r24.2.2.1 r24.2.2.2
 else
 some (v4,yH,yI,yL,yP)
def zBx(qq:Nat)(q0:List jS)(q1 q2:Int)(q3:ByteArray)(q4:List zP)(q5 q6:Int)(q7:ByteArray)(q8:Int)(q9:List zC)(q10:List zP)(q11:List yT)(q12 q13:Int)(q14:List Tm)(q15:List ByteArray)(q16 q17:Int):Option (List Ent×Int×Int×Int×Int):=
 sD qq q0 q1 q2 q3 q4 q5 q6 q7 q8 q9 q10 q11 q14 q15 0 [] q16 q17 q12 q13
theorem zFL:∀qq:Nat,∀q0 q1 q2 q3 q4 q5 q6 q7 q8 q9 q10 q11 q14 q15 v23 v4 yH yI yL yP,Lz (sD qq q0 q1 q2 q3 q4 q5 q6 q7 q8 q9 q10 q11 q14 q15 v23 v4 yH yI yL yP) 2 Tryz.f76 (inn (inn (rgt (lft (rgt (rgt (rgt (bod Tryz.f76)))))))) (fun j=>sp j 92 0 [(0,.mp 0 0),(3,ai (w64 ((List.length q0:Int)-1))),(4,slv zI v4 (.st 0 15)),(21,slv zB q10 .no),(22,ai (List.length q10:Int)),(23,ai v23)]) ⟨[(0,.cells [slv entZ q0 .no,ai q1,ai q2,at' q3,slv zB q4 .no,ai q5,ai q6,at' q7,ai q8,slv zH q9 .no,slv zB q10 .no,slv zO q11 .no,.mp 1 0,slv zA q14 .no,slv yU q15 .no,ai yH,ai yI]),(1,.cells [ai yL,ai yP])],2,[0],1,[]⟩ (fun r=>.sl (zD zI r.1) (List.length r.1) .no) (fun r=>[.cells [slv entZ q0 .no,ai q1,ai q2,at' q3,slv zB q4 .no,ai q5,ai q6,at' q7,ai q8,slv zH q9 .no,slv zB q10 .no,slv zO q11 .no,.mp 1 0,slv zA q14 .no,slv yU q15 .no,ai r.2.1,ai r.2.2.1],.cells [ai r.2.2.2.1,ai r.2.2.2.2]]) 0 [.blk 0,.seq (rgt (rgt (rgt (rgt (bod Tryz.f76)))))]:=yW (fun _ _ _ _ _ _ _ _ _ _ _ _ _ _ _ _ _ _ _ _=>lN) fun qq ih=>fun q0 q1 q2 q3 q4 q5 q6 q7 q8 q9 q10 q11 q14 q15 v23 v4 yH yI yL yP=>lw fun _=>rB 0 (rA 0 (zCy (o:=.no)) fun x2=>rS (oWk 2 (wkE q0 .no))<|rC 2 [] zMI fun _=>rB 4 (rK 1 [0,1] wV (fun _=>lE 0) fun _=>rC 2 [0,1] zHj fun _=>rB 1 (lE 0)<|rC 2 [] A1 fun r13=>rK 4 [0,1] wV (fun _=>lE 0) fun _=>rH fun _ h19=>rZ (List.length [(Ent.mk 2 x2.name_ r13.1 (Tm.mk 0 0 []) (w64 ((List.length q0:Int)-1)) v23 (List.length q14:Int) 0 0 [] [])]=0) (fun h20=>rS (oP 5 (O5 h19 h20))<|lH 1 [] [0,1] [0] [0,3,4,21,22,23] (ih _ _ _ _ _ _ _ _ _ _ _ _ _ _ _ _ _ _ _ _)) fun h20=>rS (oP 5 (C4 h19 h20))<|lH 1 [] [0,1] [1] [0,3,4,21,22,23] (ih _ _ _ _ _ _ _ _ _ _ _ _ _ _ _ _ _ _ _ _))<|rK 0 [0,1] wV (fun _=>lE 0) fun _=>rC 2 [0,1] zHj fun _=>rB 1 (lE 0)<|rC 2 [] A1 fun r27=>rK 4 [0,1] wV (fun _=>lE 0) fun _=>rH fun _ h33=>rZ (List.length [(Ent.mk 2 x2.name_ r27.1 (Tm.mk 0 0 []) (w64 ((List.length q0:Int)-1)) v23 (List.length q14:Int) 0 0 [] [])]=0) (fun h34=>rS (oP 5 (O5 h33 h34))<|lH 1 [] [0,1] [0] [0,3,4,21,22,23] (ih _ _ _ _ _ _ _ _ _ _ _ _ _ _ _ _ _ _ _ _)) fun h34=>rS (oP 5 (C4 h33 h34))<|lH 1 [] [0,1] [1] [0,3,4,21,22,23] (ih _ _ _ _ _ _ _ _ _ _ _ _ _ _ _ _ _ _ _ _))<|lE 0
theorem zQv{qq q0 q1 q2 q3 q4 q5 q6 q7 q8 q9 q10 q11 q12 q13 q14 q15 q16 q17}:Cz (zBx qq q0 q1 q2 q3 q4 q5 q6 q7 q8 q9 q10 q11 q12 q13 q14 q15 q16 q17) 76 [.cells [slv entZ q0 .no,ai q1,ai q2,at' q3,slv zB q4 .no,ai q5,ai q6,at' q7,ai q8,slv zH q9 .no,slv zB q10 .no,slv zO q11 .no,.mp 1 0,slv zA q14 .no,slv yU q15 .no,ai q16,ai q17],.cells [ai q12,ai q13]] [.mp 0 0] (fun r=>.sl (zD zI r.1) (List.length r.1) .no) (fun r=>[.cells [slv entZ q0 .no,ai q1,ai q2,at' q3,slv zB q4 .no,ai q5,ai q6,at' q7,ai q8,slv zH q9 .no,slv zB q10 .no,slv zO q11 .no,.mp 1 0,slv zA q14 .no,slv yU q15 .no,ai r.2.1,ai r.2.2.1],.cells [ai r.2.2.2.1,ai r.2.2.2.2]]) 0:=fw Tryz.func76<|rS (oWk 0 (wkE q0 .no))<|fH 4 [(none,4,15)] [0,1] [0] [0,3,4,21,22,23] (zFL _ _ _ _ _ _ _ _ _ _ _ _ _ _ _ _ _ _ _ _ _)
set_option linter.unusedSectionVars false
abbrev zUl (r:List Ent×Int×Int×Int×Int):Int:=r.2.1
def QC(N:Nat)(R:Int->Int->List Ent×Int×Int×Int×Int)(_:Int):Prop:=∃C e a,R=(fun L U=>(C,e,a,L,U))∧(e=0->C.length≤N∧∀x∈C,EOk x∧ECl x)
abbrev zSj (r:List Tm×List ByteArray×Int×Int×Int×Int):Int:=r.2.2.1
def QPa(R:Int->Int->List Tm×List ByteArray×Int×Int×Int×Int)(_:Int):Prop:=∃T n e a,R=(fun L U=>(T,n,e,a,L,U))∧(e=0->OkA T∧T.length≤24∧n.length≤24)
section
variable {l:List Ent} (hS:iL l) (q1 q2:Int) (q3:ByteArray) (q4:List zP) (q5 q6:Int) (q7:ByteArray) (q8:Int) (q9:List zC) (q10:List zP) (q11:List yT) {pars:List Tm} (own:List ByteArray) (hp:OkA pars) (hpl:pars.length≤24)
include hS hp hpl
theorem i5(hb:bOk q10)(hbl:q10.length≤100000)(hown:own.length≤65535)(h0:0<l.length)(hP:0≤(ent l ((l.length:Int)-1)).pars∧(ent l ((l.length:Int)-1)).pars≤24)(hI:0≤(ent l ((l.length:Int)-1)).inds∧(ent l ((l.length:Int)-1)).inds≤24):∀(r:List zP) (v:Nat) (acc:List Ent) (a f:Int),q10.drop v=r->v≤q10.length->acc.length≤v->(∀x∈acc,EOk x∧ECl x)->0≤f ->
  Ou (fun L U q=>sD q l q1 q2 q3 q4 q5 q6 q7 q8 q9 q10 q11 pars own (v:Int) acc 0 a L U) zUl (QC q10.length) True f
 | [],v,acc,a,f,hd,hv,ha,hx,hf=>by
  refine Ou.succ ?_
  simp only[sD]
  exact Ou.ifF (zX hd) (Ou.ret hf ⟨_,_,_,rfl,fun _=>⟨by omega,hx⟩⟩)
 |x::r,v,acc,a,f,hd,hv,ha,hx,hf=>by
  have hlt:=yC hd
  have hm:x∈q10:=List.mem_of_mem_drop (hd▸List.mem_cons_self ..)
  have hl:=hS.hl
  refine Ou.succ ?_
  simp only[sD]
  rw[zU v (by omega),zV (x:=(l.length:Int)-1) (by omega) (by omega)]
  refine Ou.ifT (zW hd) (Ou.pure (zS hd) (Ou.tot (A5 l hS.hl hS.he own hown x.type_ (hb x hm)) fun r4 hr4=>?_))
  obtain⟨t,p,e0⟩:=r4
  have ht:t.Ok:=hr4.1
  refine Ou.ite (fun _=>?_) (fun _=>?_) <;>
  ·refine Ou.evtL (fun L U=>tG q1 q2 q3 q4 q5 q6 q7 q8 q9 q10 q11 own l pars L U a e0 _) ?_
   refine Ou.ite (fun _=>Ou.ret hf ⟨[],_,_,rfl,fun _=>⟨by simp,by simp⟩⟩) fun h=>?_
   have e00:e0=0:=by simpa using h
   subst e00
   refine Ou.bind (zMP hS q1 q2 q3 q4 q5 q6 q7 q8 q9 q10 q11 own hp hpl ((l.length:Int)-1) x.at_ ⟨by omega,by omega⟩ hP hI t ht _ f hf) id (fun r h=>⟨_,Evt.ifT (ne8 h) Evt.ret,h⟩) ?_
   rintro R k k0 k1 ⟨e,a',rfl⟩
   change Ou _ zUl (QC q10.length) True _
   dsimp only
   refine Ou.ite (fun _=>Ou.ret (by omega) ⟨[],_,_,rfl,fun _=>⟨by simp,by simp⟩⟩) fun h=>?_
   have e00:e=0:=by simpa using h
   subst e00
   refine Ou.tot (fR pars t hp ht) fun s hs=>?_
   obtain⟨s1,s2⟩:=s
   refine Ou.evtL (fun L U=>tG q1 q2 q3 q4 q5 q6 q7 q8 q9 q10 q11 own l pars L U a' s2 _) ?_
   refine Ou.ite (fun _=>Ou.ret (by omega) ⟨[],_,_,rfl,fun _=>⟨by simp,by simp⟩⟩) fun h=>?_
   have e00:s2=0:=by simpa using h
   subst e00
   refine Ou.pure (zZ (by simp;omega)) ?_
   refine i5 hb hbl hown h0 hP hI r (v+1) _ _ _ (zQ hd) hlt (by simp;omega) (fun y hy=>?_) (by omega)
   rcases List.mem_append.1 hy with hy|hy
   ·exact hx y hy
   ·rw[List.mem_singleton.1 hy]
    exact⟨⟨hs.1,nG _ _,by simp,by simp⟩,by simp,by simp⟩
end
def oE(qq:Nat)(q0:List Ent)(q1 q2:Int)(q3:ByteArray)(q4:List zP)(q5 q6:Int)(q7:ByteArray)(q8:Int)(q9:List zC)(q10:List zP)(q11:List yT)(q12 q13 q14 q15 p1 p2:Int):Option (Bool×Int×Int):=
 if q14==0 then
 if p1 != 0 then
 some ((p1 != 0),p1,p2)
 else
 some ((q14 != 0),q14,q15)
 else
 some ((q14 != 0),q14,q15)
theorem kT{qq q0 q1 q2 q3 q4 q5 q6 q7 q8 q9 q10 q11 q12 q13 q14 q15 p1 p2}:Cz (oE qq q0 q1 q2 q3 q4 q5 q6 q7 q8 q9 q10 q11 q12 q13 q14 q15 p1 p2) 92 [.cells [slv zI q0 .no,ai q1,ai q2,at' q3,slv zB q4 .no,ai q5,ai q6,at' q7,ai q8,slv zH q9 .no,slv zB q10 .no,slv zO q11 .no,.mp 1 0,slv zA ([]:List Tm) .nl,slv yU ([]:List ByteArray) .nl,ai q14,ai q15],.cells [ai q12,ai q13]] [.mp 0 0,ai p1,ai p2] (fun r=>ab r.1) (fun r=>[.cells [slv zI q0 .no,ai q1,ai q2,at' q3,slv zB q4 .no,ai q5,ai q6,at' q7,ai q8,slv zH q9 .no,slv zB q10 .no,slv zO q11 .no,.mp 1 0,slv zA ([]:List Tm) .nl,slv yU ([]:List ByteArray) .nl,ai r.2.1,ai r.2.2],.cells [ai q12,ai q13]]) 0:=fw Tryz.func92<|rB 1 (rB 0 (fG 4 [] [0,1] [] true)<|fG 2 [] [0,1] [] true)<|fG 2 [] [0,1] [] true
def J8(qq:Nat)(q0:List Ent)(q1 q2:Int)(q3:ByteArray)(q4:List zP)(q5 q6:Int)(q7:ByteArray)(q8:Int)(q9:List zC)(q10:List zP)(q11:List yT)(q12 q13 q14 q15:Int)(p1:List Tm):Option ((List Tm×List Int×List Tm×Int×Int×List Ent×List Int×List Int×List Ent×List xN) ⊕ (List Tm×List Int×List Tm×Int×Int)):=
 e39 qq q0>>=fun r1=>
 match r1 with
 |Sum.inl y7=>
  if y7 != 0 then
  oE qq q0 q1 q2 q3 q4 q5 q6 q7 q8 q9 q10 q11 q12 q13 q14 q15 5 0>>=fun r9=>
  some (Sum.inr (p1,[],[],r9.2.1,r9.2.2))
  else
  some (Sum.inr (p1,[],[],q14,q15))
 |Sum.inr y3=>
  if y3.1 != 0 then
  oE qq q0 q1 q2 q3 q4 q5 q6 q7 q8 q9 q10 q11 q12 q13 q14 q15 5 0>>=fun r5=>
  some (Sum.inl (p1,[],[],r5.2.1,r5.2.2,y3.2.1,y3.2.2.1,y3.2.2.2.1,y3.2.2.2.2.1,y3.2.2.2.2.2))
  else
  some (Sum.inl (p1,[],[],q14,q15,y3.2.1,y3.2.2.1,y3.2.2.2.1,y3.2.2.2.2.1,y3.2.2.2.2.2))
theorem zQu{qq q0 q1 q2 q3 q4 q5 q6 q7 q8 q9 q10 q11 q12 q13 q14 q15 p1}:Cz (J8 qq q0 q1 q2 q3 q4 q5 q6 q7 q8 q9 q10 q11 q12 q13 q14 q15 p1) 49 [.cells [slv zI q0 .no,ai q1,ai q2,at' q3,slv zB q4 .no,ai q5,ai q6,at' q7,ai q8,slv zH q9 .no,slv zB q10 .no,slv zO q11 .no,.mp 1 0,slv zA ([]:List Tm) .nl,slv yU ([]:List ByteArray) .nl,ai q14,ai q15],.cells [ai q12,ai q13]] [.mp 0 0,slv zA p1 .no] (Sum.elim (fun x=>.agg [.mp 2 0,.mp 1 0,slv zA x.1 .no,slv zM x.2.1 .no,slv zA x.2.2.1 .no]) (fun x=>.agg [.val (.pointer none),.mp 1 0,slv zA x.1 .no,slv zM x.2.1 .no,slv zA x.2.2.1 .no])) (Sum.elim (fun x=>[.cells [slv zI q0 .no,ai q1,ai q2,at' q3,slv zB q4 .no,ai q5,ai q6,at' q7,ai q8,slv zH q9 .no,slv zB q10 .no,slv zO q11 .no,.mp 1 0,slv zA ([]:List Tm) .nl,slv yU ([]:List ByteArray) .nl,ai x.2.2.2.1,ai x.2.2.2.2.1],.cells [ai q12,ai q13],.cells [slv zI x.2.2.2.2.2.1 .no,.mp 3 0,slv zM x.2.2.2.2.2.2.1 .no,slv zM x.2.2.2.2.2.2.2.1 .no],.cells [slv zI x.2.2.2.2.2.2.2.2.1 .no,slv xX x.2.2.2.2.2.2.2.2.2 .no]]) (fun x=>[.cells [slv zI q0 .no,ai q1,ai q2,at' q3,slv zB q4 .no,ai q5,ai q6,at' q7,ai q8,slv zH q9 .no,slv zB q10 .no,slv zO q11 .no,.mp 1 0,slv zA ([]:List Tm) .nl,slv yU ([]:List ByteArray) .nl,ai x.2.2.2.1,ai x.2.2.2.2],.cells [ai q12,ai q13]])) 0:=fw Tryz.func49<|rC 1 [] c39<|oR (fun _=>rB 2 (rC 0 [0,1] kT fun _=>fG 2 [] [0,1] [] true)<|fG 2 [] [0,1] [] true) fun _=>rB 2 (rC 0 [0,1] kT fun _=>fG 2 [] [0,1,3,4] [] true)<|fG 2 [] [0,1,3,4] [] true
mutual
def tI:Nat->(List Ent)->Int->Int->ByteArray->(List zP)->Int->Int->ByteArray->Int->(List zC)->(List zP)->(List yT)->Int->Int->(List zP)->(List ByteArray)->Int->Int->Int->Option (Int×Int)
 |0,_,_,_,_,_,_,_,_,_,_,_,_,_,_,_,_,_,_,_=>none
 |qq+1,q0,q1,q2,q3,q4,q5,q6,q7,q8,q9,q10,q11,q12,q13,l3,v2,v33,yH,yI=>
 if decide (v33<(List.length l3:Int))then
 zL l3 v33>>=fun x7=>
 tJ qq q0 q1 q2 q3 q4 q5 q6 q7 q8 q9 q10 q11 q12 q13 l3 v2 v33 x7 0 yH yI
 else
 some (yH,yI)
def tJ:Nat->(List Ent)->Int->Int->ByteArray->(List zP)->Int->Int->ByteArray->Int->(List zC)->(List zP)->(List yT)->Int->Int->(List zP)->(List ByteArray)->Int->zP->Int->Int->Int->Option (Int×Int)
 |0,_,_,_,_,_,_,_,_,_,_,_,_,_,_,_,_,_,_,_,_,_=>none
 |qq+1,q0,q1,q2,q3,q4,q5,q6,q7,q8,q9,q10,q11,q12,q13,l3,v2,v33,x7,v39,yH,yI=>
 if decide (v39<(List.length v2:Int))then
 zL v2 v39>>=fun x10=>
 if x10.toList==x7.name_.toList then
 oE qq q0 q1 q2 q3 q4 q5 q6 q7 q8 q9 q10 q11 q12 q13 yH yI 4 x7.at_>>=fun r13=>
 tJ qq q0 q1 q2 q3 q4 q5 q6 q7 q8 q9 q10 q11 q12 q13 l3 v2 v33 x7 (w64 (v39+1)) r13.2.1 r13.2.2
 else
 tJ qq q0 q1 q2 q3 q4 q5 q6 q7 q8 q9 q10 q11 q12 q13 l3 v2 v33 x7 (w64 (v39+1)) yH yI
 else
 yR 16 v2 [x7.name_]>>=fun l15=>
 tI qq q0 q1 q2 q3 q4 q5 q6 q7 q8 q9 q10 q11 q12 q13 l3 l15 (w64 (v33+1)) yH yI
end
def J9(qq:Nat)(q0:List Ent)(q1 q2:Int)(q3:ByteArray)(q4:List zP)(q5 q6:Int)(q7:ByteArray)(q8:Int)(q9:List zC)(q10:List zP)(q11:List yT)(q12 q13 q14 q15:Int):Option (Int×Int):=
 e88 qq q0>>=fun r1=>
 yR 88 [(zP.mk q3 q2 (zC.mk 0 0 (⟨#[]⟩:ByteArray) 0 []))] q10>>=fun l3=>
 tI qq q0 q1 q2 q3 q4 q5 q6 q7 q8 q9 q10 q11 q12 q13 l3 r1 0 q14 q15
theorem pI:∀qq:Nat,(∀q0 q1 q2 q3 q4 q5 q6 q7 q8 q9 q10 q11 q12 q13 l3 v2 v33 yH yI,Lz (tI qq q0 q1 q2 q3 q4 q5 q6 q7 q8 q9 q10 q11 q12 q13 l3 v2 v33 yH yI) 2 Tryz.f73 (inn (inn (rgt (rgt (rgt (bod Tryz.f73)))))) (fun j=>sp j 58 0 [(0,.mp 0 0),(2,slv yU v2 (.st 0 1)),(31,slv zB l3 .full),(32,ai (List.length l3:Int)),(33,ai v33)]) ⟨[(0,.cells [slv zI q0 .no,ai q1,ai q2,at' q3,slv zB q4 .no,ai q5,ai q6,at' q7,ai q8,slv zH q9 .no,slv zB q10 .no,slv zO q11 .no,.mp 1 0,slv zA ([]:List Tm) .nl,slv yU ([]:List ByteArray) .nl,ai yH,ai yI]),(1,.cells [ai q12,ai q13])],2,[0],1,[]⟩ (fun _=>.tup []) (fun r=>[.cells [slv zI q0 .no,ai q1,ai q2,at' q3,slv zB q4 .no,ai q5,ai q6,at' q7,ai q8,slv zH q9 .no,slv zB q10 .no,slv zO q11 .no,.mp 1 0,slv zA ([]:List Tm) .nl,slv yU ([]:List ByteArray) .nl,ai r.1,ai r.2],.cells [ai q12,ai q13]]) 0 [.blk 0]∧Lz (tI qq q0 q1 q2 q3 q4 q5 q6 q7 q8 q9 q10 q11 q12 q13 l3 v2 v33 yH yI) 2 Tryz.f73 (inn (inn (rgt (rgt (rgt (bod Tryz.f73)))))) (fun j=>sp j 58 0 [(0,.mp 0 0),(2,slv yU v2 (.st 0 1)),(31,slv zB l3 (.st 1 7)),(32,ai (List.length l3:Int)),(33,ai v33)]) ⟨[(0,.cells [slv zI q0 .no,ai q1,ai q2,at' q3,slv zB q4 .no,ai q5,ai q6,at' q7,ai q8,slv zH q9 .no,slv zB q10 .no,slv zO q11 .no,.mp 1 0,slv zA ([]:List Tm) .nl,slv yU ([]:List ByteArray) .nl,ai yH,ai yI]),(1,.cells [ai q12,ai q13])],2,[0,1],2,[]⟩ (fun _=>.tup []) (fun r=>[.cells [slv zI q0 .no,ai q1,ai q2,at' q3,slv zB q4 .no,ai q5,ai q6,at' q7,ai q8,slv zH q9 .no,slv zB q10 .no,slv zO q11 .no,.mp 1 0,slv zA ([]:List Tm) .nl,slv yU ([]:List ByteArray) .nl,ai r.1,ai r.2],.cells [ai q12,ai q13]]) 0 [.blk 0])∧(∀q0 q1 q2 q3 q4 q5 q6 q7 q8 q9 q10 q11 q12 q13 l3 v2 v33 x7 v39 yH yI,Lz (tJ qq q0 q1 q2 q3 q4 q5 q6 q7 q8 q9 q10 q11 q12 q13 l3 v2 v33 x7 v39 yH yI) 2 Tryz.f73 (inn (inn (rgt (lft (rgt (inn (lft (rgt (rgt (inn (inn (rgt (rgt (rgt (bod Tryz.f73))))))))))))))) (fun j=>sp j 58 0 [(0,.mp 0 0),(2,slv yU v2 (.st 0 1)),(5,.mp 2 0),(31,slv zB l3 .full),(32,ai (List.length l3:Int)),(33,ai v33),(37,slv yU v2 (.st 0 1)),(38,ai (List.length v2:Int)),(39,ai v39)]) ⟨[(0,.cells [slv zI q0 .no,ai q1,ai q2,at' q3,slv zB q4 .no,ai q5,ai q6,at' q7,ai q8,slv zH q9 .no,slv zB q10 .no,slv zO q11 .no,.mp 1 0,slv zA ([]:List Tm) .nl,slv yU ([]:List ByteArray) .nl,ai yH,ai yI]),(1,.cells [ai q12,ai q13]),(2,.cells [at' x7.name_,ai x7.at_,ai x7.type_.kind_,ai x7.type_.at_,at' x7.type_.name_,ai x7.type_.n_,slv zH x7.type_.sub_ .no])],3,[0],1,[]⟩ (fun _=>.tup []) (fun r=>[.cells [slv zI q0 .no,ai q1,ai q2,at' q3,slv zB q4 .no,ai q5,ai q6,at' q7,ai q8,slv zH q9 .no,slv zB q10 .no,slv zO q11 .no,.mp 1 0,slv zA ([]:List Tm) .nl,slv yU ([]:List ByteArray) .nl,ai r.1,ai r.2],.cells [ai q12,ai q13]]) 0 [.blk 2,.seq (rgt (rgt (inn (lft (rgt (rgt (inn (inn (rgt (rgt (rgt (bod Tryz.f73)))))))))))),.blk 1,.seq (rgt (rgt (rgt (inn (inn (rgt (rgt (rgt (bod Tryz.f73))))))))),.loop (inn (inn (rgt (rgt (rgt (bod Tryz.f73)))))),.blk 0]∧Lz (tJ qq q0 q1 q2 q3 q4 q5 q6 q7 q8 q9 q10 q11 q12 q13 l3 v2 v33 x7 v39 yH yI) 2 Tryz.f73 (inn (inn (rgt (lft (rgt (inn (lft (rgt (rgt (inn (inn (rgt (rgt (rgt (bod Tryz.f73))))))))))))))) (fun j=>sp j 58 0 [(0,.mp 0 0),(2,slv yU v2 (.st 0 1)),(5,.mp 2 0),(31,slv zB l3 (.st 1 7)),(32,ai (List.length l3:Int)),(33,ai v33),(37,slv yU v2 (.st 0 1)),(38,ai (List.length v2:Int)),(39,ai v39)]) ⟨[(0,.cells [slv zI q0 .no,ai q1,ai q2,at' q3,slv zB q4 .no,ai q5,ai q6,at' q7,ai q8,slv zH q9 .no,slv zB q10 .no,slv zO q11 .no,.mp 1 0,slv zA ([]:List Tm) .nl,slv yU ([]:List ByteArray) .nl,ai yH,ai yI]),(1,.cells [ai q12,ai q13]),(2,.cells [at' x7.name_,ai x7.at_,ai x7.type_.kind_,ai x7.type_.at_,at' x7.type_.name_,ai x7.type_.n_,slv zH x7.type_.sub_ .no])],3,[0,1],2,[]⟩ (fun _=>.tup []) (fun r=>[.cells [slv zI q0 .no,ai q1,ai q2,at' q3,slv zB q4 .no,ai q5,ai q6,at' q7,ai q8,slv zH q9 .no,slv zB q10 .no,slv zO q11 .no,.mp 1 0,slv zA ([]:List Tm) .nl,slv yU ([]:List ByteArray) .nl,ai r.1,ai r.2],.cells [ai q12,ai q13]]) 0 [.blk 2,.seq (rgt (rgt (inn (lft (rgt (rgt (inn (inn (rgt (rgt (rgt (bod Tryz.f73)))))))))))),.blk 1,.seq (rgt (rgt (rgt (inn (inn (rgt (rgt (rgt (bod Tryz.f73))))))))),.loop (inn (inn (rgt (rgt (rgt (bod Tryz.f73)))))),.blk 0]):=yW ⟨fun _ _ _ _ _ _ _ _ _ _ _ _ _ _ _ _ _ _ _=>⟨lN,lN⟩,fun _ _ _ _ _ _ _ _ _ _ _ _ _ _ _ _ _ _ _ _ _=>⟨lN,lN⟩⟩ fun qq ih=>⟨fun q0 q1 q2 q3 q4 q5 q6 q7 q8 q9 q10 q11 q12 q13 l3 v2 v33 yH yI=>⟨lw fun _=>rB 0 (rA 0 (zCy (o:=.full)) fun _=>lH 3 [] [0,1,2] [0] [0,2,5,31,32,33,37,38,39] ((ih.2 _ _ _ _ _ _ _ _ _ _ _ _ _ _ _ _ _ _ _ _ _).1))<|lG 0 [] [0,1] [] true,lw fun _=>rB 0 (rA 0 (zCy (o:=(.st 1 7))) fun _=>lH 3 [] [0,1,2] [0,1] [0,2,5,31,32,33,37,38,39] ((ih.2 _ _ _ _ _ _ _ _ _ _ _ _ _ _ _ _ _ _ _ _ _).2))<|lG 0 [] [0,1] [] true⟩,
 fun q0 q1 q2 q3 q4 q5 q6 q7 q8 q9 q10 q11 q12 q13 l3 v2 v33 x7 v39 yH yI=>⟨lw fun _=>rB 0 (rA 0 (zKc (o:=(.st 0 1))) fun _=>rB 2 (rC 1 [0,1] kT fun _=>lH 1 [] [0,1,2] [0] [0,2,5,31,32,33,37,38,39] ((ih.2 _ _ _ _ _ _ _ _ _ _ _ _ _ _ _ _ _ _ _ _ _).1))<|lH 1 [] [0,1,2] [0] [0,2,5,31,32,33,37,38,39] ((ih.2 _ _ _ _ _ _ _ _ _ _ _ _ _ _ _ _ _ _ _ _ _).1))<|rW (fun h16=>oP 2 (O7 h16 (by simp))) fun _=>lH 1 [] [0,1] [1] [0,2,31,32,33] ((ih.1 _ _ _ _ _ _ _ _ _ _ _ _ _ _ _ _ _ _ _).1),lw fun _=>rB 0 (rA 0 (zKc (o:=(.st 0 1))) fun _=>rB 2 (rC 1 [0,1] kT fun _=>lH 1 [] [0,1,2] [0,1] [0,2,5,31,32,33,37,38,39] ((ih.2 _ _ _ _ _ _ _ _ _ _ _ _ _ _ _ _ _ _ _ _ _).2))<|lH 1 [] [0,1,2] [0,1] [0,2,5,31,32,33,37,38,39] ((ih.2 _ _ _ _ _ _ _ _ _ _ _ _ _ _ _ _ _ _ _ _ _).2))<|rW (fun h16=>oP 2 (O7 h16 (by simp))) fun _=>lH 1 [] [0,1] [2,1] [0,2,31,32,33] ((ih.1 _ _ _ _ _ _ _ _ _ _ _ _ _ _ _ _ _ _ _).2)⟩⟩
theorem zQt{qq q0 q1 q2 q3 q4 q5 q6 q7 q8 q9 q10 q11 q12 q13 q14 q15}:Cz (J9 qq q0 q1 q2 q3 q4 q5 q6 q7 q8 q9 q10 q11 q12 q13 q14 q15) 73 [.cells [slv zI q0 .no,ai q1,ai q2,at' q3,slv zB q4 .no,ai q5,ai q6,at' q7,ai q8,slv zH q9 .no,slv zB q10 .no,slv zO q11 .no,.mp 1 0,slv zA ([]:List Tm) .nl,slv yU ([]:List ByteArray) .nl,ai q14,ai q15],.cells [ai q12,ai q13]] [.mp 0 0] (fun _=>.tup []) (fun r=>[.cells [slv zI q0 .no,ai q1,ai q2,at' q3,slv zB q4 .no,ai q5,ai q6,at' q7,ai q8,slv zH q9 .no,slv zB q10 .no,slv zO q11 .no,.mp 1 0,slv zA ([]:List Tm) .nl,slv yU ([]:List ByteArray) .nl,ai r.1,ai r.2],.cells [ai q12,ai q13]]) 0:=fw Tryz.func73<|rC 1 [] c88 fun _=>rH fun _ h4=>rZ (List.length q10=0) (fun h5=>rS (oP 4 (zSV h4 h5))<|fH 1 [] [0,1] [0] [0,2,31,32,33] ((((pI _).1) _ _ _ _ _ _ _ _ _ _ _ _ _ _ _ _ _ _ _).1)) fun h5=>rS (oP 4 (zKg h4 h5))<|fH 1 [] [0,1] [0,1] [0,2,31,32,33] ((((pI _).1) _ _ _ _ _ _ _ _ _ _ _ _ _ _ _ _ _ _ _).2)
def sE:Nat->(List Ent)->Int->Int->ByteArray->(List zP)->Int->Int->ByteArray->Int->(List zC)->(List zP)->(List yT)->(List Tm×List ByteArray×Int×Int)->Int->Int->Int->Int->Int->Option (List Tm×List ByteArray×Int×Int×Int×Int)
 |0,_,_,_,_,_,_,_,_,_,_,_,_,_,_,_,_,_,_=>none
 |qq+1,q0,q1,q2,q3,q4,q5,q6,q7,q8,q9,q10,q11,r1,v38,yH,yI,yL,yP=>
 if decide (v38<(List.length r1.1:Int))then
 zL r1.1 v38>>=fun x8=>
 gsl r1.1 0 v38>>=fun x10=>
 J8 qq q0 q1 q2 q3 q4 q5 q6 q7 q8 q9 q10 q11 yL yP yH yI x10>>=fun r12=>
 match r12 with
 |Sum.inl y14=>
  e98 qq (xO.mk y14.2.2.2.2.2.1 y14.2.2.2.2.2.2.2.2.1 y14.2.2.2.2.2.2.2.2.2 y14.2.2.2.2.2.2.1 y14.2.2.2.2.2.2.2.1) yL yP y14.1 y14.2.1 y14.2.2.1 x8>>=fun r15=>
  zL q4 v38>>=fun x17=>
  oE qq q0 q1 q2 q3 q4 q5 q6 q7 q8 q9 q10 q11 r15.2.2.1 r15.2.2.2 y14.2.2.2.1 y14.2.2.2.2.1 r15.2.1 x17.at_>>=fun r19=>
  if r19.1 then
  some ([],[],r19.2.1,r19.2.2,r15.2.2.1,r15.2.2.2)
  else
  sE qq q0 q1 q2 q3 q4 q5 q6 q7 q8 q9 q10 q11 r1 (w64 (v38+1)) r19.2.1 r19.2.2 r15.2.2.1 r15.2.2.2
 |Sum.inr y22=>
  none
 else
 some (r1.1,r1.2.1,yH,yI,yL,yP)
def K0(qq:Nat)(q0:List Ent)(q1 q2:Int)(q3:ByteArray)(q4:List zP)(q5 q6:Int)(q7:ByteArray)(q8:Int)(q9:List zC)(q10:List zP)(q11:List yT)(q12 q13 q14 q15:Int):Option (List Tm×List ByteArray×Int×Int×Int×Int):=
 zPK qq q0 [] q4>>=fun r1=>
 if r1.2.2.2==2 then
 oE qq q0 q1 q2 q3 q4 q5 q6 q7 q8 q9 q10 q11 q12 q13 q14 q15 r1.2.2.2 q2>>=fun r4=>
 if r4.1 then
 some ([],[],r4.2.1,r4.2.2,q12,q13)
 else
 sE qq q0 q1 q2 q3 q4 q5 q6 q7 q8 q9 q10 q11 r1 0 r4.2.1 r4.2.2 q12 q13
 else
 oE qq q0 q1 q2 q3 q4 q5 q6 q7 q8 q9 q10 q11 q12 q13 q14 q15 r1.2.2.2 r1.2.2.1>>=fun r7=>
 if r7.1 then
 some ([],[],r7.2.1,r7.2.2,q12,q13)
 else
 sE qq q0 q1 q2 q3 q4 q5 q6 q7 q8 q9 q10 q11 r1 0 r7.2.1 r7.2.2 q12 q13
theorem V0:∀qq:Nat,∀q0 q1 q2 q3 q4 q5 q6 q7 q8 q9 q10 q11 r1 v38 yH yI yL yP,Lz (sE qq q0 q1 q2 q3 q4 q5 q6 q7 q8 q9 q10 q11 r1 v38 yH yI yL yP) 2 Tryz.f74 (inn (inn (rgt (lft (rgt (rgt (rgt (bod Tryz.f74)))))))) (fun j=>sp j 75 0 [(0,.mp 0 0),(2,slv zA r1.1 .no),(3,slv yU r1.2.1 .no),(36,slv zA r1.1 .no),(37,ai (List.length r1.1:Int)),(38,ai v38)]) ⟨[(0,.cells [slv zI q0 .no,ai q1,ai q2,at' q3,slv zB q4 .no,ai q5,ai q6,at' q7,ai q8,slv zH q9 .no,slv zB q10 .no,slv zO q11 .no,.mp 1 0,slv zA ([]:List Tm) .nl,slv yU ([]:List ByteArray) .nl,ai yH,ai yI]),(1,.cells [ai yL,ai yP])],2,[],0,[]⟩ (fun _=>.tup []) (fun r=>[.cells [slv zI q0 .no,ai q1,ai q2,at' q3,slv zB q4 .no,ai q5,ai q6,at' q7,ai q8,slv zH q9 .no,slv zB q10 .no,slv zO q11 .no,.mp 1 0,slv zA r.1 .no,slv yU r.2.1 .no,ai r.2.2.1,ai r.2.2.2.1],.cells [ai r.2.2.2.2.1,ai r.2.2.2.2.2]]) 0 [.blk 0,.seq (rgt (rgt (rgt (rgt (bod Tryz.f74)))))]:=yW (fun _ _ _ _ _ _ _ _ _ _ _ _ _ _ _ _ _ _=>lN) fun qq ih=>fun q0 q1 q2 q3 q4 q5 q6 q7 q8 q9 q10 q11 r1 v38 yH yI yL yP=>lw fun _=>rB 0 (rA 0 (yM (o:=.no)) fun _=>rA 2 (jW (o:=.no)) fun _=>rC 0 [0,1] zQu<|oR (fun _=>rC 1 [3,4,1] c98 fun _=>rA 3 (zCy (o:=.no)) fun _=>rK 1 [0,1] kT (fun _=>lE 0) fun _=>lH 1 [] [0,1] [] [0,2,3,36,37,38] (ih _ _ _ _ _ _ _ _ _ _ _ _ _ _ _ _ _ _)) fun _=>rN)<|lE 2
theorem zQs{qq q0 q1 q2 q3 q4 q5 q6 q7 q8 q9 q10 q11 q12 q13 q14 q15}:Cz (K0 qq q0 q1 q2 q3 q4 q5 q6 q7 q8 q9 q10 q11 q12 q13 q14 q15) 74 [.cells [slv zI q0 .no,ai q1,ai q2,at' q3,slv zB q4 .no,ai q5,ai q6,at' q7,ai q8,slv zH q9 .no,slv zB q10 .no,slv zO q11 .no,.mp 1 0,slv zA ([]:List Tm) .nl,slv yU ([]:List ByteArray) .nl,ai q14,ai q15],.cells [ai q12,ai q13]] [.mp 0 0] (fun _=>.tup []) (fun r=>[.cells [slv zI q0 .no,ai q1,ai q2,at' q3,slv zB q4 .no,ai q5,ai q6,at' q7,ai q8,slv zH q9 .no,slv zB q10 .no,slv zO q11 .no,.mp 1 0,slv zA r.1 .no,slv yU r.2.1 .no,ai r.2.2.1,ai r.2.2.2.1],.cells [ai r.2.2.2.2.1,ai r.2.2.2.2.2]]) 0:=fw Tryz.func74<|rC 2 [] zWy fun _=>rB 4 (rK 1 [0,1] kT (fun _=>fE 0) fun _=>fH 1 [] [0,1] [] [0,2,3,36,37,38] (V0 _ _ _ _ _ _ _ _ _ _ _ _ _ _ _ _ _ _ _))<|rK 0 [0,1] kT (fun _=>fE 0) fun _=>fH 1 [] [0,1] [] [0,2,3,36,37,38] (V0 _ _ _ _ _ _ _ _ _ _ _ _ _ _ _ _ _ _ _)
def qQ:Nat->(List jS)->Int->Int->ByteArray->(List zP)->Int->Int->ByteArray->Int->(List zC)->(List zP)->(List yT)->Int->Int->(List Tm)->(List ByteArray)->Int->Int->(List Ent)->(List Ent)->Ent->Int->(List Int)->Option (List Ent×Int×Int)
 |0,_,_,_,_,_,_,_,_,_,_,_,_,_,_,_,_,_,_,_,_,_,_,_=>none
 |qq+1,q0,q1,q2,q3,q4,q5,q6,q7,q8,q9,q10,q11,q12,q13,q14,q15,q16,q17,p1,p2,x1,v21,A8=>
 if decide (v21<(List.length p2:Int))then
 yR 8 A8 [(w64 ((w64 ((List.length p1:Int)+1))+v21))]>>=fun l5=>
 qQ qq q0 q1 q2 q3 q4 q5 q6 q7 q8 q9 q10 q11 q12 q13 q14 q15 q16 q17 p1 p2 x1 (w64 (v21+1)) l5
 else
 yR 192 [(Ent.mk x1.kind x1.name x1.type x1.body x1.fam x1.place x1.pars x1.inds x1.level A8 x1.fields)] p2>>=fun l7=>
 e61 qq p1 l7>>=fun r10=>
 wN qq q0 q1 q2 q3 q4 q5 q6 q7 q8 q9 q10 q11 q12 q13 q14 q15 q16 q17 r10.2 q2>>=fun r12=>
 some (r10.1,r12.2.1,r12.2.2)
def K1(qq:Nat)(q0:List jS)(q1 q2:Int)(q3:ByteArray)(q4:List zP)(q5 q6:Int)(q7:ByteArray)(q8:Int)(q9:List zC)(q10:List zP)(q11:List yT)(q12 q13:Int)(q14:List Tm)(q15:List ByteArray)(q16 q17:Int)(p1 p2:List Ent):Option (List Ent×Int×Int):=
 zL q0 (List.length p1:Int)>>=fun x1=>
 if List.isEmpty x1.cons then
 qQ qq q0 q1 q2 q3 q4 q5 q6 q7 q8 q9 q10 q11 q12 q13 q14 q15 q16 q17 p1 p2 x1 0 []
 else
 none
theorem zFM:∀qq:Nat,∀q0 q1 q2 q3 q4 q5 q6 q7 q8 q9 q10 q11 q12 q13 q14 q15 q16 q17 p1 p2 x1 v21 A8,Lz (qQ qq q0 q1 q2 q3 q4 q5 q6 q7 q8 q9 q10 q11 q12 q13 q14 q15 q16 q17 p1 p2 x1 v21 A8) 2 Tryz.f77 (inn (inn (rgt (lft (rgt (rgt (bod Tryz.f77))))))) (fun j=>sp j 53 0 [(0,.mp 0 0),(1,slv zI p1 .no),(2,slv zI p2 .no),(7,.mp 2 0),(20,ai (List.length p2:Int)),(21,ai v21)]) ⟨[(0,.cells [slv entZ q0 .no,ai q1,ai q2,at' q3,slv zB q4 .no,ai q5,ai q6,at' q7,ai q8,slv zH q9 .no,slv zB q10 .no,slv zO q11 .no,.mp 1 0,slv zA q14 .no,slv yU q15 .no,ai q16,ai q17]),(1,.cells [ai q12,ai q13]),(2,.cells [ai x1.kind,at' x1.name,ai x1.type.k,ai x1.type.n,slv zA x1.type.sub .no,ai x1.body.k,ai x1.body.n,slv zA x1.body.sub .no,ai x1.fam,ai x1.place,ai x1.pars,ai x1.inds,ai x1.level,slv zM A8 (.st 0 1),slv zM x1.fields .no])],3,[0],1,[]⟩ (fun r=>.sl (zD zI r.1) (List.length r.1) .no) (fun r=>[.cells [slv entZ q0 .no,ai q1,ai q2,at' q3,slv zB q4 .no,ai q5,ai q6,at' q7,ai q8,slv zH q9 .no,slv zB q10 .no,slv zO q11 .no,.mp 1 0,slv zA q14 .no,slv yU q15 .no,ai r.2.1,ai r.2.2],.cells [ai q12,ai q13]]) 0 [.blk 0,.seq (rgt (rgt (rgt (bod Tryz.f77))))]:=yW (fun _ _ _ _ _ _ _ _ _ _ _ _ _ _ _ _ _ _ _ _ _ _ _=>lN) fun qq ih=>fun q0 q1 q2 q3 q4 q5 q6 q7 q8 q9 q10 q11 q12 q13 q14 q15 q16 q17 p1 p2 x1 v21 A8=>lw fun _=>rB 0 (rW (fun h6=>oP 5 (nO h6 (by simp))) fun _=>lH 2 [] [0,1,2] [1] [0,1,2,7,20,21] (ih _ _ _ _ _ _ _ _ _ _ _ _ _ _ _ _ _ _ _ _ _ _ _))<|rH fun _ h8=>rZ (List.length p2=0) (fun h9=>rS (oP 2 (O5 h8 h9))<|rC 0 [] c61 fun r10=>rS (oWk 0 (wkE r10.1 .no))<|rC 2 [0,1] wV fun _=>lE 0) fun h9=>rS (oP 2 (C4 h8 h9))<|rC 0 [] c61 fun r10=>rS (oWk 0 (wkE r10.1 .no))<|rC 2 [0,1] wV fun _=>lE 0
theorem zQr{qq q0 q1 q2 q3 q4 q5 q6 q7 q8 q9 q10 q11 q12 q13 q14 q15 q16 q17 p1 p2}:Cz (K1 qq q0 q1 q2 q3 q4 q5 q6 q7 q8 q9 q10 q11 q12 q13 q14 q15 q16 q17 p1 p2) 77 [.cells [slv entZ q0 .no,ai q1,ai q2,at' q3,slv zB q4 .no,ai q5,ai q6,at' q7,ai q8,slv zH q9 .no,slv zB q10 .no,slv zO q11 .no,.mp 1 0,slv zA q14 .no,slv yU q15 .no,ai q16,ai q17],.cells [ai q12,ai q13]] [.mp 0 0,slv zI p1 .no,slv zI p2 .no] (fun r=>.sl (zD zI r.1) (List.length r.1) .no) (fun r=>[.cells [slv entZ q0 .no,ai q1,ai q2,at' q3,slv zB q4 .no,ai q5,ai q6,at' q7,ai q8,slv zH q9 .no,slv zB q10 .no,slv zO q11 .no,.mp 1 0,slv zA q14 .no,slv yU q15 .no,ai r.2.1,ai r.2.2],.cells [ai q12,ai q13]]) 0:=fw Tryz.func77<|rA 2 (zTx (o:=.no)) fun _=>rI (fun h3=>rS (oWk 0 (wkC h3))<|fH 2 [(some 2,13,1)] [0,1,2] [0] [0,1,2,7,20,21] (zFM _ _ _ _ _ _ _ _ _ _ _ _ _ _ _ _ _ _ _ _ _ _ _ _)) fun _=>rN
set_option linter.unusedSectionVars false
def TV{α:Type}(f:Int->Int->Nat->Option α)(P:α->Prop):Prop:=∃a,P a∧∀L U,Evt (f L U) a
section
variable {α β:Type} {P:α->Prop} {Q:β->Prop}
theorem TV.ret{r:α}(h:P r):TV (fun _ _ _=>some r) P:=⟨r,h,fun _ _=>Evt.ret⟩
theorem TV.succ{f:Int->Int->Nat->Option α}(h:TV (fun L U q=>f L U (q+1)) P):TV f P:=by obtain⟨r,p,h⟩:=h;exact⟨r,p,fun L U=>(h L U).succ⟩
theorem TV.tot{x:Nat->Option β}{c:Int->Int->Nat->β->Option α}(h:Tot x Q)(g:∀a,Q a->TV (fun L U q=>c L U q a) P):TV (fun L U q=>x q>>=c L U q) P:=by
 obtain⟨a,h,q⟩:=h
 obtain⟨r,p,g⟩:=g a q
 exact⟨r,p,fun L U=>h.bind (g L U)⟩
theorem TV.evt{x:Int->Int->Nat->Option β}{a:β}{c:Int->Int->Nat->β->Option α}(h:∀L U,Evt (x L U) a)(g:TV (fun L U q=>c L U q a) P):TV (fun L U q=>x L U q>>=c L U q) P:=by
 obtain⟨r,p,g⟩:=g
 exact⟨r,p,fun L U=>(h L U).bind (g L U)⟩
theorem TV.pure{x:Option β}{a:β}{c:Int->Int->Nat->β->Option α}(h:x=some a)(g:TV (fun L U q=>c L U q a) P):TV (fun L U q=>x>>=c L U q) P:=by
 obtain⟨r,p,g⟩:=g
 exact⟨r,p,fun L U=>Evt.pure h (g L U)⟩
theorem TV.ite{b:Bool}{f g:Int->Int->Nat->Option α}(h:b=true->TV f P)(k:b=false->TV g P):TV (fun L U q=>if b=true then f L U q else g L U q) P:=by
 cases b with
 |true=>obtain⟨r,p,g⟩:=h rfl;exact⟨r,p,fun L U=>Evt.ifT rfl (g L U)⟩
 |false=>obtain⟨r,p,g⟩:=k rfl;exact⟨r,p,fun L U=>Evt.ifF rfl (g L U)⟩
end
theorem V1(l:List Ent)(hl:l.length≤65535):∀(r:List Ent) (v:Nat) (acc:List ByteArray),l.drop v=r->acc.length≤v->v≤l.length->Tot (fun q=>kC q l acc (v:Int)) fun r=>r.length≤65535
 | [],v,acc,hd,ha,hv=>by
  refine Tot.succ ?_
  simp only[kC]
  exact Tot.ite (fun h=>by rw[zX hd]at h;cases h) fun _=>Tot.ret (by omega)
 |x::r,v,acc,hd,ha,hv=>by
  have hlt:=yC hd
  refine Tot.succ ?_
  simp only[kC]
  rw[zU v (by omega)]
  exact Tot.ite (fun _=>Tot.pure (zS hd) (Tot.pure (zZ (by simp;omega)) (V1 l hl r (v+1) _ (zQ hd) (by simp;omega) hlt))) fun h=>by rw[zW hd]at h;cases h
section
variable {l:List Ent} (hS:iL l) (q1 q2:Int) (q3:ByteArray) (q4:List zP) (q5 q6:Int) (q7:ByteArray) (q8:Int) (q9:List zC) (q10:List zP) (q11:List yT) (pars:List Tm) (own:List ByteArray)
theorem bU(L U e a p at0:Int):Evt (fun q=>oE q l q1 q2 q3 q4 q5 q6 q7 q8 q9 q10 q11 L U e a p at0) (qB e a p at0):=by
 simp only[oE]
 unfold qB
 by_cases h:e=0
 ·subst h
  rw[if_pos rfl]
  refine Evt.ifT rfl ?_
  by_cases h:p=0
  ·subst h;exact Evt.ifF rfl Evt.ret
  ·rw[if_neg h];exact Evt.ifT (by simpa using h) (Evt.ret.eq (by rw[show (p != 0)=true by simpa using h]))
 ·rw[if_neg h]
  exact Evt.ifF (by simpa using h) (Evt.ret.eq (by rw[show (e != 0)=true by simpa using h]))
def WhP(b:List Ent)(r:List Ent×Int×Int):Prop:=r.2.1=0->r.1.length≤65535∧∀x∈r.1,EOk x∧ECl x
theorem i6(p1 p2:List Ent)(x:Ent)(hx:EOk x∧ECl x)(hl:p1.length+1+p2.length≤65535)(h1:∀e∈p1,EOk e∧ECl e)(h2:∀e∈p2,EOk e∧ECl e)(a:Int):∀(r:List Ent) (v:Nat) (acc:List Int),p2.drop v=r->acc.length≤v->v≤p2.length->TV (fun L U q=>qQ q l q1 q2 q3 q4 q5 q6 q7 q8 q9 q10 q11 L U pars own 0 a p1 p2 x (v:Int) acc) (WhP p2)
 | [],v,acc,hd,ha,hv=>by
  refine TV.succ ?_
  simp only[qQ]
  refine TV.ite (fun h=>by rw[zX hd]at h;cases h) fun _=>TV.pure (zZ (by simp;omega)) ?_
  have hh:∀e∈p1++([Ent.mk x.kind x.name x.type x.body x.fam x.place x.pars x.inds x.level acc x.fields]++p2),EOk e∧ECl e:=fun e he=>by
   rcases List.mem_append.1 he with he|he
   ·exact h1 e he
   ·rcases List.mem_append.1 he with he|he
    ·rw[List.mem_singleton.1 he]
     exact⟨⟨hx.1.1,hx.1.2.1,by show acc.length≤_;omega,hx.1.2.2.2⟩,by show acc.length≤_;omega,hx.2.2⟩
    ·exact h2 e he
  refine TV.tot (zDN p1 _ (by simp;omega) (by simp;omega) (fun e h=>(hh e h).1) fun e h=>(hh e h).2) fun r hr=>?_
  obtain⟨r1,r2⟩:=r
  refine TV.evt (fun L U=>zDU q1 q2 q3 q4 q5 q6 q7 q8 q9 q10 q11 own l pars L U 0 a r2 q2) (TV.ret fun h=>?_)
  have:r2=0:=by
   by_cases h0:r2=0
   ·exact h0
   ·unfold qB at h;simp only[h0,if_false,↓reduceIte]at h
  have:=(hr.2 this).1
  dsimp only at this
  subst this
  exact⟨by simp;omega,hh⟩
 |y::r,v,acc,hd,ha,hv=>by
  have hlt:=yC hd
  refine TV.succ ?_
  simp only[qQ]
  rw[zU v (by omega)]
  exact TV.ite (fun _=>TV.pure (zZ (by simp;omega)) (i6 p1 p2 x hx hl h1 h2 a r (v+1) _ (zQ hd) (by simp;omega) hlt)) fun h=>by rw[zW hd]at h;cases h
theorem zMQ(p1 p2:List Ent)(hl:l.length+p2.length≤65535)(h1:∀e∈l,EOk e∧ECl e)(hi:p1.length<l.length)(hs:∀e∈p1,e∈l)(hc:(ent l p1.length).cons=[])(h2:∀e∈p2,EOk e∧ECl e)(a:Int):TV (fun L U q=>K1 q l q1 q2 q3 q4 q5 q6 q7 q8 q9 q10 q11 L U pars own 0 a p1 p2) (WhP p2):=by
 simp only[K1]
 refine TV.pure (yF (by omega) (by omega)) ?_
 rw[hc]
 exact TV.ite (fun _=>i6 q1 q2 q3 q4 q5 q6 q7 q8 q9 q10 q11 pars own p1 p2 _ (h1 _ (tY (by omega) (by omega))) (by omega) (fun e h=>h1 e (hs e h)) h2 a p2 0 [] rfl (by simp) (by omega)) fun h=>absurd h (by simp)
theorem A9(l3:List zP)(v:Nat)(x:zP)(n:List ByteArray)(hn:n.length≤1000000)(go:∀e a,TV (fun L U q=>tI q l q1 q2 q3 q4 q5 q6 q7 q8 q9 q10 q11 L U l3 (n++[x.name_]) (w64 ((v:Int)+1)) e a) fun _=>True):∀(r:List ByteArray) (w:Nat) (e a:Int),n.drop w=r->TV (fun L U q=>tJ q l q1 q2 q3 q4 q5 q6 q7 q8 q9 q10 q11 L U l3 n (v:Int) x (w:Int) e a) fun _=>True
 | [],w,e,a,hd=>by
  refine TV.succ ?_
  simp only[tJ]
  exact TV.ite (fun h=>by rw[zX hd]at h;cases h) fun _=>TV.pure (zZ (by simp;omega)) (go e a)
 |y::r,w,e,a,hd=>by
  have hlt:=yC hd
  refine TV.succ ?_
  simp only[tJ]
  rw[zU w (by omega)]
  refine TV.ite (fun _=>TV.pure (zS hd) (TV.ite (fun _=>TV.evt (fun L U=>bU q1 q2 q3 q4 q5 q6 q7 q8 q9 q10 q11 L U e a 4 _) (A9 l3 v x n hn go r (w+1) _ _ (zQ hd))) fun _=>A9 l3 v x n hn go r (w+1) _ _ (zQ hd))) fun h=>by rw[zW hd]at h;cases h
theorem i7(l3:List zP)(h3:l3.length≤200000):∀(r:List zP) (v:Nat) (n:List ByteArray) (e a:Int),l3.drop v=r->v≤l3.length->n.length≤65535+v->TV (fun L U q=>tI q l q1 q2 q3 q4 q5 q6 q7 q8 q9 q10 q11 L U l3 n (v:Int) e a) fun _=>True
 | [],v,n,e,a,hd,hv,hn=>by
  refine TV.succ ?_
  simp only[tI]
  exact TV.ite (fun h=>by rw[zX hd]at h;cases h) fun _=>TV.ret trivial
 |x::r,v,n,e,a,hd,hv,hn=>by
  have hlt:=yC hd
  refine TV.succ ?_
  simp only[tI]
  exact TV.ite (fun _=>TV.pure (zS hd) (A9 q1 q2 q3 q4 q5 q6 q7 q8 q9 q10 q11 l3 v x n (by omega) (fun e a=>by rw[zU v (by omega)];exact i7 l3 h3 r (v+1) _ e a (zQ hd) hlt (by simp;omega)) n 0 e a rfl)) fun h=>by rw[zW hd]at h;cases h
theorem zMR(hl:l.length≤65535)(h10:q10.length≤100000):TV (fun L U q=>J9 q l q1 q2 q3 q4 q5 q6 q7 q8 q9 q10 q11 L U 0 0) fun _=>True:=by
 simp only[J9,e88]
 exact TV.tot (V1 l hl l 0 [] rfl (by simp) (by omega)) fun n hn=>TV.pure (zZ (by simp;omega)) (i7 q1 q2 q3 q4 q5 q6 q7 q8 q9 q10 q11 _ (by simp;omega) _ 0 n 0 0 rfl (by omega) (by omega))
include hS
theorem zJl(L U e a:Int)(ctx:List Tm):Evt (fun q=>J8 q l q1 q2 q3 q4 q5 q6 q7 q8 q9 q10 q11 L U e a ctx) (.inl (ctx,[],[],e,a,l,l.map xR,l.map uJ,l,evA l l.length 0)):=by
 simp only[J8]
 exact hS.E.2.bind (Evt.ifF rfl Evt.ret)
theorem i8(T:List Tm)(n:List ByteArray)(x1 x2:Int)(hT:OkA T)(h24:T.length≤24)(h4:T.length=q4.length)(hn:n.length≤24):∀(r:List Tm) (v:Nat) (a f:Int),T.drop v=r->0≤f->Ou (fun L U q=>sE q l q1 q2 q3 q4 q5 q6 q7 q8 q9 q10 q11 (T,n,x1,x2) (v:Int) 0 a L U) zSj QPa True f
 | [],v,a,f,hd,hf=>by
  refine Ou.succ ?_
  simp only[sE]
  exact Ou.ifF (zX hd) (Ou.ret hf ⟨_,_,_,_,rfl,fun _=>⟨hT,h24,hn⟩⟩)
 |t::r,v,a,f,hd,hf=>by
  have hlt:=yC hd
  have hm:t∈T:=List.mem_of_mem_drop (hd▸List.mem_cons_self ..)
  refine Ou.succ ?_
  simp only[sE]
  rw[zU v (by omega)]
  refine Ou.ifT (zW hd) (Ou.pure (zS hd) (Ou.pure (a:=T.take v) (by unfold gsl;rw[if_pos (by omega)];simp) (Ou.evtL (fun L U=>zJl hS q1 q2 q3 q4 q5 q6 q7 q8 q9 q10 q11 L U 0 a _) ?_)))
  obtain⟨x,hx,-⟩:=sM (l:=q4) (i:=(v:Int)) (by omega) (by omega)
  refine Ou.bind (hS.U (T.take v) t (by rw[List.length_take];omega) (fun y hy=>hT y (List.mem_of_mem_take hy)) (hT t hm) f hf) id (fun r hr=>⟨_,Evt.pure hx ((bU q1 q2 q3 q4 q5 q6 q7 q8 q9 q10 q11 _ _ 0 a r.2.1 _).bind (Evt.ifT (by unfold qB;rw[if_pos rfl,if_neg (by have h:r.2.1=8:=hr;omega)]) Evt.ret)),by have h:r.2.1=8:=hr;unfold qB;rw[if_pos rfl,if_neg (by omega)];exact h⟩) ?_
  rintro R k k0 k1 ⟨n,e,h8,rfl⟩
  change Ou _ zSj QPa True _
  dsimp only
  refine Ou.pure hx (Ou.evtL (fun L U=>bU q1 q2 q3 q4 q5 q6 q7 q8 q9 q10 q11 L U 0 a e _) ?_)
  by_cases he:e=0
  ·subst he
   simp only[qB]
   exact Ou.ite (fun h=>by simp at h) fun _=>i8 T _ x1 x2 hT h24 h4 hn r (v+1) _ _ (zQ hd) (by omega)
  ·simp only[qB,he,if_false,↓reduceIte]
   exact Ou.ret (by omega) ⟨_,_,_,_,rfl,fun h=>absurd h he⟩
theorem zMS(hb:bOk q4)(h4:q4.length≤24)(a f:Int)(hf:0≤f):Ou (fun L U q=>K0 q l q1 q2 q3 q4 q5 q6 q7 q8 q9 q10 q11 L U 0 a) zSj QPa True f:=by
 simp only[K0]
 refine Ou.tot (zJq l hS.hl hS.he [] (by simp) q4 hb (by omega)) fun r hr=>?_
 obtain⟨T,n,x1,e⟩:=r
 refine Ou.ite (fun _=>?_) (fun _=>?_) <;>
 ·refine Ou.evtL (fun L U=>bU q1 q2 q3 q4 q5 q6 q7 q8 q9 q10 q11 L U 0 a e _) ?_
  by_cases he:e=0
  ·subst he
   obtain⟨o1,o2,o3,o4⟩:=hr rfl
   dsimp only at o1 o2 o3 o4
   simp only[qB]
   exact Ou.ite (fun h=>by simp at h) fun _=>i8 hS q1 q2 q3 q4 q5 q6 q7 q8 q9 q10 q11 T n x1 0 o1 (by omega) (by omega) (by omega) T 0 _ _ rfl hf
  ·simp only[qB,he,if_false,↓reduceIte]
   exact Ou.ret hf ⟨_,_,_,_,rfl,fun h=>absurd h he⟩
end
def e92(qq:Nat)(q0_l:List Ent)(q0_d:yJ)(fl fu:Int)(q0_pars:List Tm)(q0_own:List ByteArray)(q0_e q0_at p1 p2:Int):Option (Bool×Int×Int):=
 if q0_e==0 then
 if p1 != 0 then
 some ((p1 != 0),p1,p2)
 else
 some ((q0_e != 0),q0_e,q0_at)
 else
 some ((q0_e != 0),q0_e,q0_at)
theorem c92{qq q0_l q0_d fl fu q0_pars q0_own q0_e q0_at p1 p2}:Cz (e92 qq q0_l q0_d fl fu q0_pars q0_own q0_e q0_at p1 p2) 92 [.cells [slv zI q0_l .no,ai q0_d.kind_,ai q0_d.at_,at' q0_d.name_,slv zB q0_d.tele_ .no,ai q0_d.type_.kind_,ai q0_d.type_.at_,at' q0_d.type_.name_,ai q0_d.type_.n_,slv zH q0_d.type_.sub_ .no,slv zB q0_d.cons_ .no,slv zO q0_d.rows_ .no,.mp 1 0,slv zA q0_pars .no,slv yU q0_own .no,ai q0_e,ai q0_at],.cells [ai fl,ai fu]] [.mp 0 0,ai p1,ai p2] (fun r=>ab r.1) (fun r=>[.cells [slv zI q0_l .no,ai q0_d.kind_,ai q0_d.at_,at' q0_d.name_,slv zB q0_d.tele_ .no,ai q0_d.type_.kind_,ai q0_d.type_.at_,at' q0_d.type_.name_,ai q0_d.type_.n_,slv zH q0_d.type_.sub_ .no,slv zB q0_d.cons_ .no,slv zO q0_d.rows_ .no,.mp 1 0,slv zA q0_pars .no,slv yU q0_own .no,ai r.2.1,ai r.2.2],.cells [ai fl,ai fu]]) 0:=fw Tryz.func92<|rB 1 (rB 0 (fE 4)<|fE 2)<|fE 2
def e49(qq:Nat)(q0_l:List Ent)(q0_d:yJ)(fl fu:Int)(q0_pars:List Tm)(q0_own:List ByteArray)(q0_e q0_at:Int)(p1:List Tm):Option ((List Tm×List Int×List Tm×Int×Int×List Ent×List Int×List Int×List Ent×List xN) ⊕ (List Tm×List Int×List Tm×Int×Int)):=
 e39 qq q0_l>>=fun r1=>
 match r1 with
 |Sum.inl y7=>
  if y7 != 0 then
  e92 qq q0_l q0_d fl fu q0_pars q0_own q0_e q0_at 5 0>>=fun r9=>
  some (Sum.inr (p1,[],[],r9.2.1,r9.2.2))
  else
  some (Sum.inr (p1,[],[],q0_e,q0_at))
 |Sum.inr y3=>
  if y3.1 != 0 then
  e92 qq q0_l q0_d fl fu q0_pars q0_own q0_e q0_at 5 0>>=fun r5=>
  some (Sum.inl (p1,[],[],r5.2.1,r5.2.2,y3.2.1,y3.2.2.1,y3.2.2.2.1,y3.2.2.2.2.1,y3.2.2.2.2.2))
  else
  some (Sum.inl (p1,[],[],q0_e,q0_at,y3.2.1,y3.2.2.1,y3.2.2.2.1,y3.2.2.2.2.1,y3.2.2.2.2.2))
theorem c49{qq q0_l q0_d fl fu q0_pars q0_own q0_e q0_at p1}:Cz (e49 qq q0_l q0_d fl fu q0_pars q0_own q0_e q0_at p1) 49 [.cells [slv zI q0_l .no,ai q0_d.kind_,ai q0_d.at_,at' q0_d.name_,slv zB q0_d.tele_ .no,ai q0_d.type_.kind_,ai q0_d.type_.at_,at' q0_d.type_.name_,ai q0_d.type_.n_,slv zH q0_d.type_.sub_ .no,slv zB q0_d.cons_ .no,slv zO q0_d.rows_ .no,.mp 1 0,slv zA q0_pars .no,slv yU q0_own .no,ai q0_e,ai q0_at],.cells [ai fl,ai fu]] [.mp 0 0,slv zA p1 .no] (Sum.elim (fun x=>.agg [.mp 2 0,.mp 1 0,slv zA x.1 .no,slv zM x.2.1 .no,slv zA x.2.2.1 .no]) (fun x=>.agg [.val (.pointer none),.mp 1 0,slv zA x.1 .no,slv zM x.2.1 .no,slv zA x.2.2.1 .no])) (Sum.elim (fun x=>[.cells [slv zI q0_l .no,ai q0_d.kind_,ai q0_d.at_,at' q0_d.name_,slv zB q0_d.tele_ .no,ai q0_d.type_.kind_,ai q0_d.type_.at_,at' q0_d.type_.name_,ai q0_d.type_.n_,slv zH q0_d.type_.sub_ .no,slv zB q0_d.cons_ .no,slv zO q0_d.rows_ .no,.mp 1 0,slv zA q0_pars .no,slv yU q0_own .no,ai x.2.2.2.1,ai x.2.2.2.2.1],.cells [ai fl,ai fu],.cells [slv zI x.2.2.2.2.2.1 .no,.mp 3 0,slv zM x.2.2.2.2.2.2.1 .no,slv zM x.2.2.2.2.2.2.2.1 .no],.cells [slv zI x.2.2.2.2.2.2.2.2.1 .no,slv xX x.2.2.2.2.2.2.2.2.2 .no]]) (fun x=>[.cells [slv zI q0_l .no,ai q0_d.kind_,ai q0_d.at_,at' q0_d.name_,slv zB q0_d.tele_ .no,ai q0_d.type_.kind_,ai q0_d.type_.at_,at' q0_d.type_.name_,ai q0_d.type_.n_,slv zH q0_d.type_.sub_ .no,slv zB q0_d.cons_ .no,slv zO q0_d.rows_ .no,.mp 1 0,slv zA q0_pars .no,slv yU q0_own .no,ai x.2.2.2.1,ai x.2.2.2.2],.cells [ai fl,ai fu]])) 0:=fw Tryz.func49<|rC 1 [] c39<|oR (fun _=>rB 2 (rC 0 [0,1] c92 fun _=>fE 2)<|fE 2) fun _=>rB 2 (rC 0 [0,1] c92 fun _=>fF 2 [0,1,3,4])<|fF 2 [0,1,3,4]
def e75(qq:Nat)(q0_l:List Ent)(q0_d:yJ)(fl fu:Int)(q0_pars:List Tm)(q0_own:List ByteArray)(q0_e q0_at:Int):Option ((List Ent×Int×Int×Int×Int) ⊕ (List jS×Int×Int×Int×Int)):=
 zFF qq q0_l q0_own q0_d.type_>>=fun r1=>
 if r1.2.2==2 then
 e92 qq q0_l q0_d fl fu q0_pars q0_own q0_e q0_at r1.2.2 q0_d.type_.at_>>=fun r4=>
 if r4.1 then
 some (Sum.inl (q0_l,r4.2.1,r4.2.2,fl,fu))
 else
 e49 qq q0_l q0_d fl fu q0_pars q0_own r4.2.1 r4.2.2 q0_pars>>=fun r7=>
 match r7 with
 |Sum.inl y9=>
  e98 qq (xO.mk y9.2.2.2.2.2.1 y9.2.2.2.2.2.2.2.2.1 y9.2.2.2.2.2.2.2.2.2 y9.2.2.2.2.2.2.1 y9.2.2.2.2.2.2.2.1) fl fu y9.1 y9.2.1 y9.2.2.1 r1.1>>=fun r10=>
  e92 qq q0_l q0_d r10.2.2.1 r10.2.2.2 q0_pars q0_own y9.2.2.2.1 y9.2.2.2.2.1 r10.2.1 q0_d.type_.at_>>=fun r12=>
  if r12.1 then
  some (Sum.inl (q0_l,r12.2.1,r12.2.2,r10.2.2.1,r10.2.2.2))
  else
  e99 qq r1.1>>=fun r15=>
  if r15.2.2 != 0 then
  e92 qq q0_l q0_d r10.2.2.1 r10.2.2.2 q0_pars q0_own r12.2.1 r12.2.2 6 q0_d.type_.at_>>=fun r18=>
  some (Sum.inl (q0_l,r18.2.1,r18.2.2,r10.2.2.1,r10.2.2.2))
  else
  if r15.2.1.k != 2 then
  e92 qq q0_l q0_d r10.2.2.1 r10.2.2.2 q0_pars q0_own r12.2.1 r12.2.2 6 q0_d.type_.at_>>=fun r21=>
  some (Sum.inl (q0_l,r21.2.1,r21.2.2,r10.2.2.1,r10.2.2.2))
  else
  if decide ((List.length r15.1:Int)>(w64 (24-(List.length q0_pars:Int))))then
  e92 qq q0_l q0_d r10.2.2.1 r10.2.2.2 q0_pars q0_own r12.2.1 r12.2.2 6 q0_d.type_.at_>>=fun r24=>
  some (Sum.inl (q0_l,r24.2.1,r24.2.2,r10.2.2.1,r10.2.2.2))
  else
  A0 qq q0_pars r1.1>>=fun r26=>
  e92 qq q0_l q0_d r10.2.2.1 r10.2.2.2 q0_pars q0_own r12.2.1 r12.2.2 r26.2 q0_d.at_>>=fun r28=>
  if r28.1 then
  some (Sum.inl (q0_l,r28.2.1,r28.2.2,r10.2.2.1,r10.2.2.2))
  else
  e61 qq q0_l [(Ent.mk 1 q0_d.name_ r26.1 (Tm.mk 0 0 []) 0 0 (List.length q0_pars:Int) (List.length r15.1:Int) r15.2.1.n [] [])]>>=fun r31=>
  e92 qq q0_l q0_d r10.2.2.1 r10.2.2.2 q0_pars q0_own r28.2.1 r28.2.2 r31.2 q0_d.at_>>=fun r33=>
  if r33.1 then
  some (Sum.inl (q0_l,r33.2.1,r33.2.2,r10.2.2.1,r10.2.2.2))
  else
  some (Sum.inr (r31.1,r33.2.1,r33.2.2,r10.2.2.1,r10.2.2.2))
 |Sum.inr y36=>
  none
 else
 e92 qq q0_l q0_d fl fu q0_pars q0_own q0_e q0_at r1.2.2 r1.2.1>>=fun r63=>
 if r63.1 then
 some (Sum.inl (q0_l,r63.2.1,r63.2.2,fl,fu))
 else
 e49 qq q0_l q0_d fl fu q0_pars q0_own r63.2.1 r63.2.2 q0_pars>>=fun r66=>
 match r66 with
 |Sum.inl y68=>
  e98 qq (xO.mk y68.2.2.2.2.2.1 y68.2.2.2.2.2.2.2.2.1 y68.2.2.2.2.2.2.2.2.2 y68.2.2.2.2.2.2.1 y68.2.2.2.2.2.2.2.1) fl fu y68.1 y68.2.1 y68.2.2.1 r1.1>>=fun r69=>
  e92 qq q0_l q0_d r69.2.2.1 r69.2.2.2 q0_pars q0_own y68.2.2.2.1 y68.2.2.2.2.1 r69.2.1 q0_d.type_.at_>>=fun r71=>
  if r71.1 then
  some (Sum.inl (q0_l,r71.2.1,r71.2.2,r69.2.2.1,r69.2.2.2))
  else
  e99 qq r1.1>>=fun r74=>
  if r74.2.2 != 0 then
  e92 qq q0_l q0_d r69.2.2.1 r69.2.2.2 q0_pars q0_own r71.2.1 r71.2.2 6 q0_d.type_.at_>>=fun r77=>
  some (Sum.inl (q0_l,r77.2.1,r77.2.2,r69.2.2.1,r69.2.2.2))
  else
  if r74.2.1.k != 2 then
  e92 qq q0_l q0_d r69.2.2.1 r69.2.2.2 q0_pars q0_own r71.2.1 r71.2.2 6 q0_d.type_.at_>>=fun r80=>
  some (Sum.inl (q0_l,r80.2.1,r80.2.2,r69.2.2.1,r69.2.2.2))
  else
  if decide ((List.length r74.1:Int)>(w64 (24-(List.length q0_pars:Int))))then
  e92 qq q0_l q0_d r69.2.2.1 r69.2.2.2 q0_pars q0_own r71.2.1 r71.2.2 6 q0_d.type_.at_>>=fun r83=>
  some (Sum.inl (q0_l,r83.2.1,r83.2.2,r69.2.2.1,r69.2.2.2))
  else
  A0 qq q0_pars r1.1>>=fun r85=>
  e92 qq q0_l q0_d r69.2.2.1 r69.2.2.2 q0_pars q0_own r71.2.1 r71.2.2 r85.2 q0_d.at_>>=fun r87=>
  if r87.1 then
  some (Sum.inl (q0_l,r87.2.1,r87.2.2,r69.2.2.1,r69.2.2.2))
  else
  e61 qq q0_l [(Ent.mk 1 q0_d.name_ r85.1 (Tm.mk 0 0 []) 0 0 (List.length q0_pars:Int) (List.length r74.1:Int) r74.2.1.n [] [])]>>=fun r90=>
  e92 qq q0_l q0_d r69.2.2.1 r69.2.2.2 q0_pars q0_own r87.2.1 r87.2.2 r90.2 q0_d.at_>>=fun r92=>
  if r92.1 then
  some (Sum.inl (q0_l,r92.2.1,r92.2.2,r69.2.2.1,r69.2.2.2))
  else
  some (Sum.inr (r90.1,r92.2.1,r92.2.2,r69.2.2.1,r69.2.2.2))
 |Sum.inr y95=>
  none
theorem c75{qq q0_l q0_d fl fu q0_pars q0_own q0_e q0_at}:Cz (e75 qq q0_l q0_d fl fu q0_pars q0_own q0_e q0_at) 75 [.cells [slv zI q0_l .no,ai q0_d.kind_,ai q0_d.at_,at' q0_d.name_,slv zB q0_d.tele_ .no,ai q0_d.type_.kind_,ai q0_d.type_.at_,at' q0_d.type_.name_,ai q0_d.type_.n_,slv zH q0_d.type_.sub_ .no,slv zB q0_d.cons_ .no,slv zO q0_d.rows_ .no,.mp 1 0,slv zA q0_pars .no,slv yU q0_own .no,ai q0_e,ai q0_at],.cells [ai fl,ai fu]] [.mp 0 0] (fun _=>.tup []) (Sum.elim (fun x=>[.cells [slv zI x.1 .no,ai q0_d.kind_,ai q0_d.at_,at' q0_d.name_,slv zB q0_d.tele_ .no,ai q0_d.type_.kind_,ai q0_d.type_.at_,at' q0_d.type_.name_,ai q0_d.type_.n_,slv zH q0_d.type_.sub_ .no,slv zB q0_d.cons_ .no,slv zO q0_d.rows_ .no,.mp 1 0,slv zA q0_pars .no,slv yU q0_own .no,ai x.2.1,ai x.2.2.1],.cells [ai x.2.2.2.1,ai x.2.2.2.2]]) (fun x=>[.cells [slv entZ x.1 .no,ai q0_d.kind_,ai q0_d.at_,at' q0_d.name_,slv zB q0_d.tele_ .no,ai q0_d.type_.kind_,ai q0_d.type_.at_,at' q0_d.type_.name_,ai q0_d.type_.n_,slv zH q0_d.type_.sub_ .no,slv zB q0_d.cons_ .no,slv zO q0_d.rows_ .no,.mp 1 0,slv zA q0_pars .no,slv yU q0_own .no,ai x.2.1,ai x.2.2.1],.cells [ai x.2.2.2.1,ai x.2.2.2.2]])) 0:=fw Tryz.func75<|rC 3 [] zMI fun _=>rB 4 (rK 1 [0,1] c92 (fun _=>fE 0) fun _=>rC 1 [0,1] c49<|oR (fun _=>rC 1 [3,4,1] c98 fun _=>rK 3 [0,1] c92 (fun _=>fE 0) fun _=>rC 1 [] c99 fun _=>rB 4 (rC 1 [0,1] c92 fun _=>fE 0)<|rB 1 (rC 1 [0,1] c92 fun _=>fE 0)<|rB 4 (rC 1 [0,1] c92 fun _=>fE 0)<|rC 2 [] A1 fun _=>rK 4 [0,1] c92 (fun _=>fE 0) fun _=>rC 10 [] c61 fun _=>rK 3 [0,1] c92 (fun _=>fE 0) fun _=>fE 1) fun _=>rN)<|rK 0 [0,1] c92 (fun _=>fE 0) fun _=>rC 1 [0,1] c49<|oR (fun _=>rC 1 [3,4,1] c98 fun _=>rK 3 [0,1] c92 (fun _=>fE 0) fun _=>rC 1 [] c99 fun _=>rB 4 (rC 1 [0,1] c92 fun _=>fE 0)<|rB 1 (rC 1 [0,1] c92 fun _=>fE 0)<|rB 4 (rC 1 [0,1] c92 fun _=>fE 0)<|rC 2 [] A1 fun _=>rK 4 [0,1] c92 (fun _=>fE 0) fun _=>rC 10 [] c61 fun _=>rK 3 [0,1] c92 (fun _=>fE 0) fun _=>fE 1) fun _=>rN
def zBw:Nat->(List Ent)->yJ->Int->Int->(List Tm)->(List ByteArray)->Int->Int->Int->Int->(Tm×List Tm)->Ent->Int->Option (Bool)
 |0,_,_,_,_,_,_,_,_,_,_,_,_,_=>none
 |qq+1,q0_l,q0_d,fl,fu,q0_pars,q0_own,q0_e,q0_at,p2,p3,r1,x5,v56=>
 if decide (v56<x5.pars)then
 zL r1.2 v56>>=fun x9=>
 if x9.k != 1 then
 some false
 else
 zL q0_l p2>>=fun x12=>
 if x9.n != (w64 ((w64 ((w64 (x12.pars+p3))-1))-v56))then
 some false
 else
 zBw qq q0_l q0_d fl fu q0_pars q0_own q0_e q0_at p2 p3 r1 x5 (w64 (v56+1))
 else
 some true
def zUk(qq:Nat)(q0_l:List Ent)(q0_d:yJ)(fl fu:Int)(q0_pars:List Tm)(q0_own:List ByteArray)(q0_e q0_at:Int)(p1:Tm)(p2 p3:Int):Option (Bool):=
 jX qq p1>>=fun r1=>
 if r1.1.k != 6 then
 some false
 else
 if r1.1.n != p2 then
 some false
 else
 zL q0_l p2>>=fun x5=>
 if (List.length r1.2:Int) != (w64 (x5.pars+x5.inds))then
 some false
 else
 zBw qq q0_l q0_d fl fu q0_pars q0_own q0_e q0_at p2 p3 r1 x5 0
theorem zQq:∀qq:Nat,∀q0_l q0_d fl fu q0_pars q0_own q0_e q0_at p2 p3 r1 x5 v56,Lz (zBw qq q0_l q0_d fl fu q0_pars q0_own q0_e q0_at p2 p3 r1 x5 v56) 2 Tryz.f100 (inn (inn (rgt (lft (rgt (rgt (rgt (bod Tryz.f100)))))))) (fun j=>sp j 87 0 [(0,.mp 0 0),(2,ai p2),(3,ai p3),(10,slv zA r1.2 .no),(55,ai x5.pars),(56,ai v56)]) ⟨[(0,.cells [slv zI q0_l .no,ai q0_d.kind_,ai q0_d.at_,at' q0_d.name_,slv zB q0_d.tele_ .no,ai q0_d.type_.kind_,ai q0_d.type_.at_,at' q0_d.type_.name_,ai q0_d.type_.n_,slv zH q0_d.type_.sub_ .no,slv zB q0_d.cons_ .no,slv zO q0_d.rows_ .no,.mp 1 0,slv zA q0_pars .no,slv yU q0_own .no,ai q0_e,ai q0_at]),(1,.cells [ai fl,ai fu])],2,[],0,[]⟩ (fun r=>ab r) (fun _=>[.cells [slv zI q0_l .no,ai q0_d.kind_,ai q0_d.at_,at' q0_d.name_,slv zB q0_d.tele_ .no,ai q0_d.type_.kind_,ai q0_d.type_.at_,at' q0_d.type_.name_,ai q0_d.type_.n_,slv zH q0_d.type_.sub_ .no,slv zB q0_d.cons_ .no,slv zO q0_d.rows_ .no,.mp 1 0,slv zA q0_pars .no,slv yU q0_own .no,ai q0_e,ai q0_at],.cells [ai fl,ai fu]]) 0 [.blk 0,.seq (rgt (rgt (rgt (rgt (bod Tryz.f100)))))]:=yW (fun _ _ _ _ _ _ _ _ _ _ _ _ _=>lN) fun qq ih=>fun q0_l q0_d fl fu q0_pars q0_own q0_e q0_at p2 p3 r1 x5 v56=>lw fun _=>rB 0 (rH fun _ h10=>rS (oA 0 (yM (o:=.no) h10))<|rB 1 (lE 0)<|rS (oA 0 (yM (o:=.no) h10))<|rA 2 (yY (o:=.no)) fun _=>rB 4 (lE 0)<|lH 1 [] [0,1] [] [0,2,3,10,55,56] (ih _ _ _ _ _ _ _ _ _ _ _ _ _))<|lE 0
theorem zWp{qq q0_l q0_d fl fu q0_pars q0_own q0_e q0_at p1 p2 p3}:Cz (zUk qq q0_l q0_d fl fu q0_pars q0_own q0_e q0_at p1 p2 p3) 100 [.cells [slv zI q0_l .no,ai q0_d.kind_,ai q0_d.at_,at' q0_d.name_,slv zB q0_d.tele_ .no,ai q0_d.type_.kind_,ai q0_d.type_.at_,at' q0_d.type_.name_,ai q0_d.type_.n_,slv zH q0_d.type_.sub_ .no,slv zB q0_d.cons_ .no,slv zO q0_d.rows_ .no,.mp 1 0,slv zA q0_pars .no,slv yU q0_own .no,ai q0_e,ai q0_at],.cells [ai fl,ai fu]] [.mp 0 0,tmA p1,ai p2,ai p3] (fun r=>ab r) (fun _=>[.cells [slv zI q0_l .no,ai q0_d.kind_,ai q0_d.at_,at' q0_d.name_,slv zB q0_d.tele_ .no,ai q0_d.type_.kind_,ai q0_d.type_.at_,at' q0_d.type_.name_,ai q0_d.type_.n_,slv zH q0_d.type_.sub_ .no,slv zB q0_d.cons_ .no,slv zO q0_d.rows_ .no,.mp 1 0,slv zA q0_pars .no,slv yU q0_own .no,ai q0_e,ai q0_at],.cells [ai fl,ai fu]]) 0:=fw Tryz.func100<|rC 1 [] E8 fun _=>rB 4 (fE 0)<|rB 1 (fE 0)<|rH fun _ h6=>rS (oA 2 (yY (o:=.no) h6))<|rS (oA 2 (yY (o:=.no) h6))<|rB 2 (fE 0)<|rS (oA 1 (yY (o:=.no) h6))<|fH 1 [] [0,1] [] [0,2,3,10,55,56] (zQq _ _ _ _ _ _ _ _ _ _ _ _ _ _)
def zBv:Nat->(List Ent)->yJ->(List Tm)->(List ByteArray)->Int->Int->Int->Int->(List Tm)->Int->Int->Int->Option (Int×Int×Int×Int)
 |0,_,_,_,_,_,_,_,_,_,_,_,_=>none
 |qq+1,q0_l,q0_d,q0_pars,q0_own,p2,p3,yL,yP,x73,v163,yH,yI=>
 if decide (v163<(List.length x73:Int))then
 zL x73 v163>>=fun x76=>
 zMM qq x76 p2>>=fun r78=>
 if r78 then
 e92 qq q0_l q0_d yL yP q0_pars q0_own yH yI 9 p3>>=fun r81=>
 zBv qq q0_l q0_d q0_pars q0_own p2 p3 yL yP x73 (w64 (v163+1)) r81.2.1 r81.2.2
 else
 zBv qq q0_l q0_d q0_pars q0_own p2 p3 yL yP x73 (w64 (v163+1)) yH yI
 else
 some (yH,yI,yL,yP)
def V2:Nat->(List Ent)->yJ->(List Tm)->(List ByteArray)->Int->Int->(List Tm)->(List Tm)->Int->Int->Int->Int->Int->Int->Int->Int->(List Tm)->Option (Int×Int×Int×Int)
 |0,_,_,_,_,_,_,_,_,_,_,_,_,_,_,_,_,_=>none
 |qq+1,q0_l,q0_d,q0_pars,q0_own,p2,p3,v10,v69,v70,v71,yH,yI,yL,yP,xA,xY,xK=>
 if decide (v71<v70)then
 zL v69 v71>>=fun x21=>
 gsl q0_pars 0 (List.length q0_pars:Int)>>=fun x23=>
 gsl v10 0 v71>>=fun x25=>
 yR 40 x23 x25>>=fun l27=>
 e49 qq q0_l q0_d yL yP q0_pars q0_own yH yI l27>>=fun r30=>
 match r30 with
 |Sum.inl y32=>
  e98 qq (xO.mk y32.2.2.2.2.2.1 y32.2.2.2.2.2.2.2.2.1 y32.2.2.2.2.2.2.2.2.2 y32.2.2.2.2.2.2.1 y32.2.2.2.2.2.2.2.1) yL yP y32.1 y32.2.1 y32.2.2.1 x21>>=fun r33=>
  if r33.2.1==0 then
  zL q0_l p2>>=fun x36=>
  if decide (r33.1>x36.level)then
  e92 qq q0_l q0_d r33.2.2.1 r33.2.2.2 q0_pars q0_own y32.2.2.2.1 y32.2.2.2.2.1 7 p3>>=fun r39=>
  if r39.1 then
  some (r39.2.1,r39.2.2,r33.2.2.1,r33.2.2.2)
  else
  V2 qq q0_l q0_d q0_pars q0_own p2 p3 v10 v69 v70 (w64 (v71+1)) r39.2.1 r39.2.2 r33.2.2.1 r33.2.2.2 xA xY xK
  else
  e92 qq q0_l q0_d r33.2.2.1 r33.2.2.2 q0_pars q0_own y32.2.2.2.1 y32.2.2.2.2.1 r33.2.1 p3>>=fun r42=>
  if r42.1 then
  some (r42.2.1,r42.2.2,r33.2.2.1,r33.2.2.2)
  else
  V2 qq q0_l q0_d q0_pars q0_own p2 p3 v10 v69 v70 (w64 (v71+1)) r42.2.1 r42.2.2 r33.2.2.1 r33.2.2.2 xA xY xK
  else
  e92 qq q0_l q0_d r33.2.2.1 r33.2.2.2 q0_pars q0_own y32.2.2.2.1 y32.2.2.2.2.1 r33.2.1 p3>>=fun r45=>
  if r45.1 then
  some (r45.2.1,r45.2.2,r33.2.2.1,r33.2.2.2)
  else
  V2 qq q0_l q0_d q0_pars q0_own p2 p3 v10 v69 v70 (w64 (v71+1)) r45.2.1 r45.2.2 r33.2.2.1 r33.2.2.2 xA xY xK
 |Sum.inr y48=>
  none
 else
 zL q0_l p2>>=fun x64=>
 zML qq v10 p2 x64.pars x64.inds>>=fun r66=>
 e92 qq q0_l q0_d yL yP q0_pars q0_own yH yI r66.2 p3>>=fun r68=>
 if r68.1 then
 some (r68.2.1,r68.2.2,yL,yP)
 else
 jX qq (Tm.mk xA xY xK)>>=fun r71=>
 gsl r71.2 x64.pars (List.length r71.2:Int)>>=fun x73=>
 zBv qq q0_l q0_d q0_pars q0_own p2 p3 yL yP x73 0 r68.2.1 r68.2.2
def e52(qq:Nat)(q0_l:List Ent)(q0_d:yJ)(fl fu:Int)(q0_pars:List Tm)(q0_own:List ByteArray)(q0_e q0_at:Int)(p1:Tm)(p2 p3:Int):Option (Int×Int×Int×Int):=
 e49 qq q0_l q0_d fl fu q0_pars q0_own q0_e q0_at q0_pars>>=fun r1=>
 match r1 with
 |Sum.inl y3=>
  e98 qq (xO.mk y3.2.2.2.2.2.1 y3.2.2.2.2.2.2.2.2.1 y3.2.2.2.2.2.2.2.2.2 y3.2.2.2.2.2.2.1 y3.2.2.2.2.2.2.2.1) fl fu y3.1 y3.2.1 y3.2.2.1 p1>>=fun r4=>
  e92 qq q0_l q0_d r4.2.2.1 r4.2.2.2 q0_pars q0_own y3.2.2.2.1 y3.2.2.2.2.1 r4.2.1 p3>>=fun r6=>
  if r6.1 then
  some (r6.2.1,r6.2.2,r4.2.2.1,r4.2.2.2)
  else
  e99 qq p1>>=fun r9=>
  if r9.2.2 != 0 then
  e92 qq q0_l q0_d r4.2.2.1 r4.2.2.2 q0_pars q0_own r6.2.1 r6.2.2 6 p3>>=fun r12=>
  some (r12.2.1,r12.2.2,r4.2.2.1,r4.2.2.2)
  else
  if decide ((List.length r9.1:Int)>(w64 (24-(List.length q0_pars:Int))))then
  e92 qq q0_l q0_d r4.2.2.1 r4.2.2.2 q0_pars q0_own r6.2.1 r6.2.2 6 p3>>=fun r15=>
  some (r15.2.1,r15.2.2,r4.2.2.1,r4.2.2.2)
  else
  zUk qq q0_l q0_d r4.2.2.1 r4.2.2.2 q0_pars q0_own r6.2.1 r6.2.2 r9.2.1 p2 (List.length r9.1:Int)>>=fun r17=>
  if r17 then
  V2 qq q0_l q0_d q0_pars q0_own p2 p3 r9.1 r9.1 (List.length r9.1:Int) 0 r6.2.1 r6.2.2 r4.2.2.1 r4.2.2.2 r9.2.1.k r9.2.1.n r9.2.1.sub
  else
  e92 qq q0_l q0_d r4.2.2.1 r4.2.2.2 q0_pars q0_own r6.2.1 r6.2.2 6 p3>>=fun r20=>
  some (r20.2.1,r20.2.2,r4.2.2.1,r4.2.2.2)
 |Sum.inr y22=>
  none
theorem zSi:∀qq:Nat,∀q0_l q0_d q0_pars q0_own p2 p3 yL yP x73 v163 yH yI,Lz (zBv qq q0_l q0_d q0_pars q0_own p2 p3 yL yP x73 v163 yH yI) 2 Tryz.f52 (inn (inn (rgt (rgt (rgt (rgt (rgt (rgt (rgt (rgt (bod Tryz.f52))))))))))) (fun j=>sp j 174 0 [(0,.mp 0 0),(2,ai p2),(3,ai p3),(161,slv zA x73 .no),(162,ai (List.length x73:Int)),(163,ai v163)]) ⟨[(0,.cells [slv zI q0_l .no,ai q0_d.kind_,ai q0_d.at_,at' q0_d.name_,slv zB q0_d.tele_ .no,ai q0_d.type_.kind_,ai q0_d.type_.at_,at' q0_d.type_.name_,ai q0_d.type_.n_,slv zH q0_d.type_.sub_ .no,slv zB q0_d.cons_ .no,slv zO q0_d.rows_ .no,.mp 1 0,slv zA q0_pars .no,slv yU q0_own .no,ai yH,ai yI]),(1,.cells [ai yL,ai yP])],2,[],0,[]⟩ (fun _=>.tup []) (fun r=>[.cells [slv zI q0_l .no,ai q0_d.kind_,ai q0_d.at_,at' q0_d.name_,slv zB q0_d.tele_ .no,ai q0_d.type_.kind_,ai q0_d.type_.at_,at' q0_d.type_.name_,ai q0_d.type_.n_,slv zH q0_d.type_.sub_ .no,slv zB q0_d.cons_ .no,slv zO q0_d.rows_ .no,.mp 1 0,slv zA q0_pars .no,slv yU q0_own .no,ai r.1,ai r.2.1],.cells [ai r.2.2.1,ai r.2.2.2]]) 0 [.blk 2]:=yW (fun _ _ _ _ _ _ _ _ _ _ _ _=>lN) fun qq ih=>fun q0_l q0_d q0_pars q0_own p2 p3 yL yP x73 v163 yH yI=>lw fun _=>rB 0 (rA 0 (yM (o:=.no)) fun _=>rK 3 [] zUm (fun _=>rC 0 [0,1] c92 fun _=>lH 1 [] [0,1] [] [0,2,3,161,162,163] (ih _ _ _ _ _ _ _ _ _ _ _ _)) fun _=>lH 1 [] [0,1] [] [0,2,3,161,162,163] (ih _ _ _ _ _ _ _ _ _ _ _ _))<|lE 0
theorem zSh:∀qq:Nat,∀q0_l q0_d q0_pars q0_own p2 p3 v10 v69 v70 v71 yH yI yL yP xA xY xK,Lz (V2 qq q0_l q0_d q0_pars q0_own p2 p3 v10 v69 v70 v71 yH yI yL yP xA xY xK) 2 Tryz.f52 (inn (inn (rgt (lft (rgt (rgt (rgt (rgt (bod Tryz.f52))))))))) (fun j=>sp j 174 0 [(0,.mp 0 0),(2,ai p2),(3,ai p3),(10,slv zA v10 .no),(11,.mp 2 0),(69,slv zA v69 .no),(70,ai v70),(71,ai v71)]) ⟨[(0,.cells [slv zI q0_l .no,ai q0_d.kind_,ai q0_d.at_,at' q0_d.name_,slv zB q0_d.tele_ .no,ai q0_d.type_.kind_,ai q0_d.type_.at_,at' q0_d.type_.name_,ai q0_d.type_.n_,slv zH q0_d.type_.sub_ .no,slv zB q0_d.cons_ .no,slv zO q0_d.rows_ .no,.mp 1 0,slv zA q0_pars .no,slv yU q0_own .no,ai yH,ai yI]),(1,.cells [ai yL,ai yP]),(2,.cells [ai xA,ai xY,slv zA xK .no])],3,[],0,[]⟩ (fun _=>.tup []) (fun r=>[.cells [slv zI q0_l .no,ai q0_d.kind_,ai q0_d.at_,at' q0_d.name_,slv zB q0_d.tele_ .no,ai q0_d.type_.kind_,ai q0_d.type_.at_,at' q0_d.type_.name_,ai q0_d.type_.n_,slv zH q0_d.type_.sub_ .no,slv zB q0_d.cons_ .no,slv zO q0_d.rows_ .no,.mp 1 0,slv zA q0_pars .no,slv yU q0_own .no,ai r.1,ai r.2.1],.cells [ai r.2.2.1,ai r.2.2.2]]) 0 [.blk 0,.seq (rgt (rgt (rgt (rgt (rgt (bod Tryz.f52))))))]:=yW (fun _ _ _ _ _ _ _ _ _ _ _ _ _ _ _ _ _=>lN) fun qq ih=>fun q0_l q0_d q0_pars q0_own p2 p3 v10 v69 v70 v71 yH yI yL yP xA xY xK=>lw fun _=>rB 0 (rA 0 (yM (o:=.no)) fun _=>rA 7 (jW (o:=.no)) fun _=>rA 0 tR fun x25=>rH fun _ h28=>rZ (List.length x25=0) (fun h29=>rS (oP 0 (sJ h28 h29))<|rC 0 [0,1] c49<|oR (fun _=>rC 1 [4,5,1] c98 fun _=>rB 2 (rA 1 (yY (o:=.no)) fun _=>rB 1 (rK 0 [0,1] c92 (fun _=>lE 0) fun _=>lH 1 [] [0,1,2] [] [0,2,3,10,11,69,70,71] (ih _ _ _ _ _ _ _ _ _ _ _ _ _ _ _ _ _))<|rK 0 [0,1] c92 (fun _=>lE 0) fun _=>lH 1 [] [0,1,2] [] [0,2,3,10,11,69,70,71] (ih _ _ _ _ _ _ _ _ _ _ _ _ _ _ _ _ _))<|rK 0 [0,1] c92 (fun _=>lE 0) fun _=>lH 1 [] [0,1,2] [] [0,2,3,10,11,69,70,71] (ih _ _ _ _ _ _ _ _ _ _ _ _ _ _ _ _ _)) fun _=>rN) fun h29=>rS (oP 0 (xU h28 h29))<|rC 0 [0,1] c49<|oR (fun _=>rC 1 [4,5,1] c98 fun _=>rB 2 (rA 1 (yY (o:=.no)) fun _=>rB 1 (rK 0 [0,1] c92 (fun _=>lE 0) fun _=>lH 1 [] [0,1,2] [] [0,2,3,10,11,69,70,71] (ih _ _ _ _ _ _ _ _ _ _ _ _ _ _ _ _ _))<|rK 0 [0,1] c92 (fun _=>lE 0) fun _=>lH 1 [] [0,1,2] [] [0,2,3,10,11,69,70,71] (ih _ _ _ _ _ _ _ _ _ _ _ _ _ _ _ _ _))<|rK 0 [0,1] c92 (fun _=>lE 0) fun _=>lH 1 [] [0,1,2] [] [0,2,3,10,11,69,70,71] (ih _ _ _ _ _ _ _ _ _ _ _ _ _ _ _ _ _)) fun _=>rN)<|rH fun _ h65=>rS (oA 1 (yY (o:=.no) h65))<|rS (oA 2 (yY (o:=.no) h65))<|rC 1 [] zUn fun _=>rK 2 [0,1] c92 (fun _=>lE 0) fun _=>rC 1 [] E8 fun _=>rS (oA 4 (yY (o:=.no) h65))<|rA 1 uX fun _=>lH 1 [] [0,1] [] [0,2,3,161,162,163] (zSi _ _ _ _ _ _ _ _ _ _ _ _ _)
theorem c52{qq q0_l q0_d fl fu q0_pars q0_own q0_e q0_at p1 p2 p3}:Cz (e52 qq q0_l q0_d fl fu q0_pars q0_own q0_e q0_at p1 p2 p3) 52 [.cells [slv zI q0_l .no,ai q0_d.kind_,ai q0_d.at_,at' q0_d.name_,slv zB q0_d.tele_ .no,ai q0_d.type_.kind_,ai q0_d.type_.at_,at' q0_d.type_.name_,ai q0_d.type_.n_,slv zH q0_d.type_.sub_ .no,slv zB q0_d.cons_ .no,slv zO q0_d.rows_ .no,.mp 1 0,slv zA q0_pars .no,slv yU q0_own .no,ai q0_e,ai q0_at],.cells [ai fl,ai fu]] [.mp 0 0,tmA p1,ai p2,ai p3] (fun _=>.tup []) (fun r=>[.cells [slv zI q0_l .no,ai q0_d.kind_,ai q0_d.at_,at' q0_d.name_,slv zB q0_d.tele_ .no,ai q0_d.type_.kind_,ai q0_d.type_.at_,at' q0_d.type_.name_,ai q0_d.type_.n_,slv zH q0_d.type_.sub_ .no,slv zB q0_d.cons_ .no,slv zO q0_d.rows_ .no,.mp 1 0,slv zA q0_pars .no,slv yU q0_own .no,ai r.1,ai r.2.1],.cells [ai r.2.2.1,ai r.2.2.2]]) 0:=fw Tryz.func52<|rC 1 [0,1] c49<|oR (fun _=>rC 1 [3,4,1] c98 fun _=>rK 2 [0,1] c92 (fun _=>fE 0) fun _=>rC 1 [] c99 fun _=>rB 4 (rC 0 [0,1] c92 fun _=>fE 0)<|rB 4 (rC 0 [0,1] c92 fun _=>fE 0)<|rK 2 [0,1] zWp (fun _=>fH 2 [] [0,1,5] [] [0,2,3,10,11,69,70,71] (zSh _ _ _ _ _ _ _ _ _ _ _ _ _ _ _ _ _ _)) fun _=>rC 1 [0,1] c92 fun _=>fE 0) fun _=>rN
def zBu:Nat->(List Ent)->yJ->(List Tm)->(List ByteArray)->Int->(List Ent)->Int->Int->Int->Int->Option (List Ent×Int×Int×Int×Int)
 |0,_,_,_,_,_,_,_,_,_,_=>none
 |qq+1,q0_l,q0_d,q0_pars,q0_own,v23,v4,yH,yI,yL,yP=>
 if decide (v23<(List.length q0_d.cons_:Int))then
 zL q0_d.cons_ v23>>=fun x2=>
 zFF qq q0_l q0_own x2.type_>>=fun r4=>
 if r4.2.2==2 then
 e92 qq q0_l q0_d yL yP q0_pars q0_own yH yI r4.2.2 x2.at_>>=fun r7=>
 if r7.1 then
 some ([],r7.2.1,r7.2.2,yL,yP)
 else
 e52 qq q0_l q0_d yL yP q0_pars q0_own r7.2.1 r7.2.2 r4.1 (w64 ((List.length q0_l:Int)-1)) x2.at_>>=fun r10=>
 if r10.1 != 0 then
 some ([],r10.1,r10.2.1,r10.2.2.1,r10.2.2.2)
 else
 A0 qq q0_pars r4.1>>=fun r13=>
 e92 qq q0_l q0_d r10.2.2.1 r10.2.2.2 q0_pars q0_own r10.1 r10.2.1 r13.2 x2.at_>>=fun r15=>
 if r15.1 then
 some ([],r15.2.1,r15.2.2,r10.2.2.1,r10.2.2.2)
 else
 yR 192 v4 [(Ent.mk 2 x2.name_ r13.1 (Tm.mk 0 0 []) (w64 ((List.length q0_l:Int)-1)) v23 (List.length q0_pars:Int) 0 0 [] [])]>>=fun l18=>
 zBu qq q0_l q0_d q0_pars q0_own (w64 (v23+1)) l18 r15.2.1 r15.2.2 r10.2.2.1 r10.2.2.2
 else
 e92 qq q0_l q0_d yL yP q0_pars q0_own yH yI r4.2.2 r4.2.1>>=fun r21=>
 if r21.1 then
 some ([],r21.2.1,r21.2.2,yL,yP)
 else
 e52 qq q0_l q0_d yL yP q0_pars q0_own r21.2.1 r21.2.2 r4.1 (w64 ((List.length q0_l:Int)-1)) x2.at_>>=fun r24=>
 if r24.1 != 0 then
 some ([],r24.1,r24.2.1,r24.2.2.1,r24.2.2.2)
 else
 A0 qq q0_pars r4.1>>=fun r27=>
 e92 qq q0_l q0_d r24.2.2.1 r24.2.2.2 q0_pars q0_own r24.1 r24.2.1 r27.2 x2.at_>>=fun r29=>
 if r29.1 then
 some ([],r29.2.1,r29.2.2,r24.2.2.1,r24.2.2.2)
 else
 yR 192 v4 [(Ent.mk 2 x2.name_ r27.1 (Tm.mk 0 0 []) (w64 ((List.length q0_l:Int)-1)) v23 (List.length q0_pars:Int) 0 0 [] [])]>>=fun l32=>
 zBu qq q0_l q0_d q0_pars q0_own (w64 (v23+1)) l32 r29.2.1 r29.2.2 r24.2.2.1 r24.2.2.2
 else
 some (v4,yH,yI,yL,yP)
def e76(qq:Nat)(q0_l:List Ent)(q0_d:yJ)(fl fu:Int)(q0_pars:List Tm)(q0_own:List ByteArray)(q0_e q0_at:Int):Option (List Ent×Int×Int×Int×Int):=
 zBu qq q0_l q0_d q0_pars q0_own 0 [] q0_e q0_at fl fu
theorem zSg:∀qq:Nat,∀q0_l q0_d q0_pars q0_own v23 v4 yH yI yL yP,Lz (zBu qq q0_l q0_d q0_pars q0_own v23 v4 yH yI yL yP) 2 Tryz.f76 (inn (inn (rgt (lft (rgt (rgt (rgt (bod Tryz.f76)))))))) (fun j=>sp j 92 0 [(0,.mp 0 0),(3,ai (w64 ((List.length q0_l:Int)-1))),(4,slv zI v4 (.st 0 15)),(21,slv zB q0_d.cons_ .no),(22,ai (List.length q0_d.cons_:Int)),(23,ai v23)]) ⟨[(0,.cells [slv zI q0_l .no,ai q0_d.kind_,ai q0_d.at_,at' q0_d.name_,slv zB q0_d.tele_ .no,ai q0_d.type_.kind_,ai q0_d.type_.at_,at' q0_d.type_.name_,ai q0_d.type_.n_,slv zH q0_d.type_.sub_ .no,slv zB q0_d.cons_ .no,slv zO q0_d.rows_ .no,.mp 1 0,slv zA q0_pars .no,slv yU q0_own .no,ai yH,ai yI]),(1,.cells [ai yL,ai yP])],2,[0],1,[]⟩ (fun r=>.sl (zD zI r.1) (List.length r.1) .no) (fun r=>[.cells [slv zI q0_l .no,ai q0_d.kind_,ai q0_d.at_,at' q0_d.name_,slv zB q0_d.tele_ .no,ai q0_d.type_.kind_,ai q0_d.type_.at_,at' q0_d.type_.name_,ai q0_d.type_.n_,slv zH q0_d.type_.sub_ .no,slv zB q0_d.cons_ .no,slv zO q0_d.rows_ .no,.mp 1 0,slv zA q0_pars .no,slv yU q0_own .no,ai r.2.1,ai r.2.2.1],.cells [ai r.2.2.2.1,ai r.2.2.2.2]]) 0 [.blk 0,.seq (rgt (rgt (rgt (rgt (bod Tryz.f76)))))]:=yW (fun _ _ _ _ _ _ _ _ _ _=>lN) fun qq ih=>fun q0_l q0_d q0_pars q0_own v23 v4 yH yI yL yP=>lw fun _=>rB 0 (rA 0 (zCy (o:=.no)) fun x2=>rC 5 [] zMI fun _=>rB 4 (rK 1 [0,1] c92 (fun _=>lE 0) fun _=>rC 2 [0,1] c52 fun _=>rB 1 (lE 0)<|rC 2 [] A1 fun r13=>rK 4 [0,1] c92 (fun _=>lE 0) fun _=>rH fun _ h19=>rZ (List.length [(Ent.mk 2 x2.name_ r13.1 (Tm.mk 0 0 []) (w64 ((List.length q0_l:Int)-1)) v23 (List.length q0_pars:Int) 0 0 [] [])]=0) (fun h20=>rS (oP 5 (O5 h19 h20))<|lH 1 [] [0,1] [0] [0,3,4,21,22,23] (ih _ _ _ _ _ _ _ _ _ _)) fun h20=>rS (oP 5 (C4 h19 h20))<|lH 1 [] [0,1] [1] [0,3,4,21,22,23] (ih _ _ _ _ _ _ _ _ _ _))<|rK 0 [0,1] c92 (fun _=>lE 0) fun _=>rC 2 [0,1] c52 fun _=>rB 1 (lE 0)<|rC 2 [] A1 fun r27=>rK 4 [0,1] c92 (fun _=>lE 0) fun _=>rH fun _ h33=>rZ (List.length [(Ent.mk 2 x2.name_ r27.1 (Tm.mk 0 0 []) (w64 ((List.length q0_l:Int)-1)) v23 (List.length q0_pars:Int) 0 0 [] [])]=0) (fun h34=>rS (oP 5 (O5 h33 h34))<|lH 1 [] [0,1] [0] [0,3,4,21,22,23] (ih _ _ _ _ _ _ _ _ _ _)) fun h34=>rS (oP 5 (C4 h33 h34))<|lH 1 [] [0,1] [1] [0,3,4,21,22,23] (ih _ _ _ _ _ _ _ _ _ _))<|lE 0
theorem c76{qq q0_l q0_d fl fu q0_pars q0_own q0_e q0_at}:Cz (e76 qq q0_l q0_d fl fu q0_pars q0_own q0_e q0_at) 76 [.cells [slv zI q0_l .no,ai q0_d.kind_,ai q0_d.at_,at' q0_d.name_,slv zB q0_d.tele_ .no,ai q0_d.type_.kind_,ai q0_d.type_.at_,at' q0_d.type_.name_,ai q0_d.type_.n_,slv zH q0_d.type_.sub_ .no,slv zB q0_d.cons_ .no,slv zO q0_d.rows_ .no,.mp 1 0,slv zA q0_pars .no,slv yU q0_own .no,ai q0_e,ai q0_at],.cells [ai fl,ai fu]] [.mp 0 0] (fun r=>.sl (zD zI r.1) (List.length r.1) .no) (fun r=>[.cells [slv zI q0_l .no,ai q0_d.kind_,ai q0_d.at_,at' q0_d.name_,slv zB q0_d.tele_ .no,ai q0_d.type_.kind_,ai q0_d.type_.at_,at' q0_d.type_.name_,ai q0_d.type_.n_,slv zH q0_d.type_.sub_ .no,slv zB q0_d.cons_ .no,slv zO q0_d.rows_ .no,.mp 1 0,slv zA q0_pars .no,slv yU q0_own .no,ai r.2.1,ai r.2.2.1],.cells [ai r.2.2.2.1,ai r.2.2.2.2]]) 0:=fw Tryz.func76<|fH 5 [(none,4,15)] [0,1] [0] [0,3,4,21,22,23] (zSg _ _ _ _ _ _ _ _ _ _ _)
def zMT(qq:Nat)(q0_l:List Ent)(q0_d:yJ)(fl fu:Int)(q0_pars:List Tm)(q0_own:List ByteArray)(q0_e q0_at:Int)(p1 p2:List Ent)(x1:Ent)(v21:Int):Option (List Ent×Int×Int):=
 if decide (v21<(List.length p2:Int))then
 none
 else
 yR 192 [x1] p2>>=fun l6=>
 e61 qq p1 l6>>=fun r9=>
 e92 qq q0_l q0_d fl fu q0_pars q0_own q0_e q0_at r9.2 q0_d.at_>>=fun r11=>
 some (r9.1,r11.2.1,r11.2.2)
def e77(qq:Nat)(q0_l:List Ent)(q0_d:yJ)(fl fu:Int)(q0_pars:List Tm)(q0_own:List ByteArray)(q0_e q0_at:Int)(p1 p2:List Ent):Option (List Ent×Int×Int):=
 zL q0_l (List.length p1:Int)>>=fun x1=>
 zMT qq q0_l q0_d fl fu q0_pars q0_own q0_e q0_at p1 p2 x1 0
theorem zSf{qq q0_l q0_d fl fu q0_pars q0_own q0_e q0_at p1 p2 x1 v21}:Lz (zMT qq q0_l q0_d fl fu q0_pars q0_own q0_e q0_at p1 p2 x1 v21) 2 Tryz.f77 (inn (inn (rgt (lft (rgt (rgt (bod Tryz.f77))))))) (fun j=>sp j 53 0 [(0,.mp 0 0),(1,slv zI p1 .no),(2,slv zI p2 .no),(7,.mp 2 0),(20,ai (List.length p2:Int)),(21,ai v21)]) ⟨[(0,.cells [slv zI q0_l .no,ai q0_d.kind_,ai q0_d.at_,at' q0_d.name_,slv zB q0_d.tele_ .no,ai q0_d.type_.kind_,ai q0_d.type_.at_,at' q0_d.type_.name_,ai q0_d.type_.n_,slv zH q0_d.type_.sub_ .no,slv zB q0_d.cons_ .no,slv zO q0_d.rows_ .no,.mp 1 0,slv zA q0_pars .no,slv yU q0_own .no,ai q0_e,ai q0_at]),(1,.cells [ai fl,ai fu]),(2,.cells [ai x1.kind,at' x1.name,ai x1.type.k,ai x1.type.n,slv zA x1.type.sub .no,ai x1.body.k,ai x1.body.n,slv zA x1.body.sub .no,ai x1.fam,ai x1.place,ai x1.pars,ai x1.inds,ai x1.level,slv zM x1.cons .no,slv zM x1.fields .no])],3,[],0,[]⟩ (fun r=>.sl (zD zI r.1) (List.length r.1) .no) (fun r=>[.cells [slv zI q0_l .no,ai q0_d.kind_,ai q0_d.at_,at' q0_d.name_,slv zB q0_d.tele_ .no,ai q0_d.type_.kind_,ai q0_d.type_.at_,at' q0_d.type_.name_,ai q0_d.type_.n_,slv zH q0_d.type_.sub_ .no,slv zB q0_d.cons_ .no,slv zO q0_d.rows_ .no,.mp 1 0,slv zA q0_pars .no,slv yU q0_own .no,ai r.2.1,ai r.2.2],.cells [ai fl,ai fu]]) 0 [.blk 0,.seq (rgt (rgt (rgt (bod Tryz.f77))))]:=lw fun _=>rB 0 (rN)<|rH fun _ h7=>rZ (List.length p2=0) (fun h8=>rS (oP 2 (O5 h7 h8))<|rC 0 [] c61 fun r9=>rS (oWk 0 (wkE r9.1 .no))<|rC 2 [0,1] c92 fun _=>lE 0) fun h8=>rS (oP 2 (C4 h7 h8))<|rC 0 [] c61 fun r9=>rS (oWk 0 (wkE r9.1 .no))<|rC 2 [0,1] c92 fun _=>lE 0
theorem c77{qq q0_l q0_d fl fu q0_pars q0_own q0_e q0_at p1 p2}:Cz (e77 qq q0_l q0_d fl fu q0_pars q0_own q0_e q0_at p1 p2) 77 [.cells [slv zI q0_l .no,ai q0_d.kind_,ai q0_d.at_,at' q0_d.name_,slv zB q0_d.tele_ .no,ai q0_d.type_.kind_,ai q0_d.type_.at_,at' q0_d.type_.name_,ai q0_d.type_.n_,slv zH q0_d.type_.sub_ .no,slv zB q0_d.cons_ .no,slv zO q0_d.rows_ .no,.mp 1 0,slv zA q0_pars .no,slv yU q0_own .no,ai q0_e,ai q0_at],.cells [ai fl,ai fu]] [.mp 0 0,slv zI p1 .no,slv zI p2 .no] (fun r=>.sl (zD zI r.1) (List.length r.1) .no) (fun r=>[.cells [slv zI q0_l .no,ai q0_d.kind_,ai q0_d.at_,at' q0_d.name_,slv zB q0_d.tele_ .no,ai q0_d.type_.kind_,ai q0_d.type_.at_,at' q0_d.type_.name_,ai q0_d.type_.n_,slv zH q0_d.type_.sub_ .no,slv zB q0_d.cons_ .no,slv zO q0_d.rows_ .no,.mp 1 0,slv zA q0_pars .no,slv yU q0_own .no,ai r.2.1,ai r.2.2],.cells [ai fl,ai fu]]) 0:=fw Tryz.func77<|rA 2 (yY (o:=.no)) fun _=>fH 3 [] [0,1,2] [] [0,1,2,7,20,21] (zSf)
def zFN(qq:Nat)(p0:List Ent)(p1:yJ)(r11:List Tm×List ByteArray×Int×Int×Int×Int)(y16:List Ent×Int×Int×Int×Int):Option (List Ent×Int×Int×Int×Int):=
 e76 qq y16.1 p1 y16.2.2.2.1 y16.2.2.2.2 r11.1 r11.2.1 y16.2.1 y16.2.2.1>>=fun r18=>
 if r18.2.1 != 0 then
 some ([],r18.2.2.1,r18.2.1,r18.2.2.2.1,r18.2.2.2.2)
 else
 e77 qq y16.1 p1 r18.2.2.2.1 r18.2.2.2.2 r11.1 r11.2.1 r18.2.1 r18.2.2.1 p0 r18.1>>=fun r21=>
 if r21.2.1 != 0 then
 some ([],r21.2.2,r21.2.1,r18.2.2.2.1,r18.2.2.2.2)
 else
 some (r21.1,0,0,r18.2.2.2.1,r18.2.2.2.2)
def zFO(qq:Nat)(p0:List Ent)(p1:yJ)(r11:List Tm×List ByteArray×Int×Int×Int×Int)(y18:List jS×Int×Int×Int×Int):Option (List Ent×Int×Int×Int×Int):=
 zBx qq y18.1 p1.kind_ p1.at_ p1.name_ p1.tele_ p1.type_.kind_ p1.type_.at_ p1.type_.name_ p1.type_.n_ p1.type_.sub_ p1.cons_ p1.rows_ y18.2.2.2.1 y18.2.2.2.2 r11.1 r11.2.1 y18.2.1 y18.2.2.1>>=fun r20=>
 if r20.2.1 != 0 then
 some ([],r20.2.2.1,r20.2.1,r20.2.2.2.1,r20.2.2.2.2)
 else
 K1 qq y18.1 p1.kind_ p1.at_ p1.name_ p1.tele_ p1.type_.kind_ p1.type_.at_ p1.type_.name_ p1.type_.n_ p1.type_.sub_ p1.cons_ p1.rows_ r20.2.2.2.1 r20.2.2.2.2 r11.1 r11.2.1 r20.2.1 r20.2.2.1 p0 r20.1>>=fun r23=>
 if r23.2.1 != 0 then
 some ([],r23.2.2,r23.2.1,r20.2.2.2.1,r20.2.2.2.2)
 else
 some (r23.1,0,0,r20.2.2.2.1,r20.2.2.2.2)
def zFP(qq:Nat)(p0:List Ent)(p1:yJ)(r11:List Tm×List ByteArray×Int×Int×Int×Int):Option (List Ent×Int×Int×Int×Int):=
 e75 qq p0 p1 r11.2.2.2.2.1 r11.2.2.2.2.2 r11.1 r11.2.1 r11.2.2.1 r11.2.2.2.1>>=fun r14=>
 match r14 with
 |Sum.inl y16=>
  if y16.2.1 != 0 then
  some ([],y16.2.2.1,y16.2.1,y16.2.2.2.1,y16.2.2.2.2)
  else
  zFN qq p0 p1 r11 y16
 |Sum.inr y18=>
  if y18.2.1 != 0 then
  some ([],y18.2.2.1,y18.2.1,y18.2.2.2.1,y18.2.2.2.2)
  else
  zFO qq p0 p1 r11 y18
def zFQ(qq:Nat)(p0:List Ent)(p1:yJ)(fl fu:Int)(r8:Int×Int):Option (List Ent×Int×Int×Int×Int):=
 K0 qq p0 p1.kind_ p1.at_ p1.name_ p1.tele_ p1.type_.kind_ p1.type_.at_ p1.type_.name_ p1.type_.n_ p1.type_.sub_ p1.cons_ p1.rows_ fl fu r8.1 r8.2>>=fun r11=>
 if r11.2.2.1 != 0 then
 some ([],r11.2.2.2.1,r11.2.2.1,r11.2.2.2.2.1,r11.2.2.2.2.2)
 else
 zFP qq p0 p1 r11
def zFR(qq:Nat)(p0:List Ent)(p1:yJ)(fl fu:Int):Option (List Ent×Int×Int×Int×Int):=
 J9 qq p0 p1.kind_ p1.at_ p1.name_ p1.tele_ p1.type_.kind_ p1.type_.at_ p1.type_.name_ p1.type_.n_ p1.type_.sub_ p1.cons_ p1.rows_ fl fu 0 0>>=fun r8=>
 if r8.1 != 0 then
 some ([],r8.2,r8.1,fl,fu)
 else
 zFQ qq p0 p1 fl fu r8
def e42(qq:Nat)(p0:List Ent)(p1:yJ)(fl fu:Int):Option (List Ent×Int×Int×Int×Int):=
 e47 qq p0>>=fun r1=>
 if r1 then
 e56 qq p1>>=fun r4=>
 if r4 then
 if p1.kind_ != 1 then
 some ([],0,5,fl,fu)
 else
 zFR qq p0 p1 fl fu
 else
 some ([],0,5,fl,fu)
 else
 some ([],0,5,fl,fu)
theorem zSe{qq p0 p1 r11 y16}:Lz (zFN qq p0 p1 r11 y16) 1 Tryz.f42 (inn (inn (rgt (lft (rgt (rgt (rgt (bod Tryz.f42)))))))) (fun j=>sp j 91 0 [(0,slv zI p0 .no),(9,.mp 1 0),(38,.agg [.clo 73 [.mp 1 0] [],.clo 74 [.mp 1 0] [],.clo 75 [.mp 1 0] []]),(39,ai 3)]) ⟨[(0,.cells [ai y16.2.2.2.1,ai y16.2.2.2.2]),(1,.cells [slv zI y16.1 .no,ai p1.kind_,ai p1.at_,at' p1.name_,slv zB p1.tele_ .no,ai p1.type_.kind_,ai p1.type_.at_,at' p1.type_.name_,ai p1.type_.n_,slv zH p1.type_.sub_ .no,slv zB p1.cons_ .no,slv zO p1.rows_ .no,.mp 0 0,slv zA r11.1 .no,slv yU r11.2.1 .no,ai y16.2.1,ai y16.2.2.1])],2,[],0,[]⟩ (fun r=>.tup [.sl (zD zI r.1) (List.length r.1) .no,ai r.2.1,ai r.2.2.1]) (fun r=>[.cells [ai r.2.2.2.1,ai r.2.2.2.2]]) 0 [.blk 0,.seq (rgt (rgt (rgt (rgt (bod Tryz.f42)))))]:=lw fun _=>rC 1 [1,0] c76 fun _=>rB 1 (lE 2)<|rC 0 [1,0] c77 fun _=>rB 1 (lE 2)<|lE 0
theorem zSd{qq p0 p1 r11 y18}:Lz (zFO qq p0 p1 r11 y18) 1 Tryz.f42 (inn (inn (rgt (lft (rgt (rgt (rgt (bod Tryz.f42)))))))) (fun j=>sp j 91 0 [(0,slv zI p0 .no),(9,.mp 1 0),(38,.agg [.clo 73 [.mp 1 0] [],.clo 74 [.mp 1 0] [],.clo 75 [.mp 1 0] []]),(39,ai 3)]) ⟨[(0,.cells [ai y18.2.2.2.1,ai y18.2.2.2.2]),(1,.cells [slv entZ y18.1 .no,ai p1.kind_,ai p1.at_,at' p1.name_,slv zB p1.tele_ .no,ai p1.type_.kind_,ai p1.type_.at_,at' p1.type_.name_,ai p1.type_.n_,slv zH p1.type_.sub_ .no,slv zB p1.cons_ .no,slv zO p1.rows_ .no,.mp 0 0,slv zA r11.1 .no,slv yU r11.2.1 .no,ai y18.2.1,ai y18.2.2.1])],2,[],0,[]⟩ (fun r=>.tup [.sl (zD zI r.1) (List.length r.1) .no,ai r.2.1,ai r.2.2.1]) (fun r=>[.cells [ai r.2.2.2.1,ai r.2.2.2.2]]) 0 [.blk 0,.seq (rgt (rgt (rgt (rgt (bod Tryz.f42)))))]:=lw fun _=>rC 1 [1,0] zQv fun _=>rB 1 (lE 2)<|rC 0 [1,0] zQr fun _=>rB 1 (lE 2)<|lE 0
theorem zSc{qq p0 p1 r11}:Lz (zFP qq p0 p1 r11) 1 Tryz.f42 (inn (inn (rgt (lft (rgt (rgt (rgt (bod Tryz.f42)))))))) (fun j=>sp j 91 0 [(0,slv zI p0 .no),(9,.mp 1 0),(38,.agg [.clo 73 [.mp 1 0] [],.clo 74 [.mp 1 0] [],.clo 75 [.mp 1 0] []]),(39,ai 2)]) ⟨[(0,.cells [ai r11.2.2.2.2.1,ai r11.2.2.2.2.2]),(1,.cells [slv zI p0 .no,ai p1.kind_,ai p1.at_,at' p1.name_,slv zB p1.tele_ .no,ai p1.type_.kind_,ai p1.type_.at_,at' p1.type_.name_,ai p1.type_.n_,slv zH p1.type_.sub_ .no,slv zB p1.cons_ .no,slv zO p1.rows_ .no,.mp 0 0,slv zA r11.1 .no,slv yU r11.2.1 .no,ai r11.2.2.1,ai r11.2.2.2.1])],2,[],0,[]⟩ (fun r=>.tup [.sl (zD zI r.1) (List.length r.1) .no,ai r.2.1,ai r.2.2.1]) (fun r=>[.cells [ai r.2.2.2.1,ai r.2.2.2.2]]) 0 [.blk 0,.seq (rgt (rgt (rgt (rgt (bod Tryz.f42)))))]:=lw fun _=>rC 2 [1,0] c75<|oR (fun _=>rB 1 (lE 2)<|lH 1 [] [0,1] [] [0,9,38,39] (zSe)) fun _=>rB 1 (lE 2)<|lH 1 [] [0,1] [] [0,9,38,39] (zSd)
theorem zSb{qq p0 p1 fl fu r8}:Lz (zFQ qq p0 p1 fl fu r8) 1 Tryz.f42 (inn (inn (rgt (lft (rgt (rgt (rgt (bod Tryz.f42)))))))) (fun j=>sp j 91 0 [(0,slv zI p0 .no),(9,.mp 1 0),(38,.agg [.clo 73 [.mp 1 0] [],.clo 74 [.mp 1 0] [],.clo 75 [.mp 1 0] []]),(39,ai 1)]) ⟨[(0,.cells [ai fl,ai fu]),(1,.cells [slv zI p0 .no,ai p1.kind_,ai p1.at_,at' p1.name_,slv zB p1.tele_ .no,ai p1.type_.kind_,ai p1.type_.at_,at' p1.type_.name_,ai p1.type_.n_,slv zH p1.type_.sub_ .no,slv zB p1.cons_ .no,slv zO p1.rows_ .no,.mp 0 0,slv zA ([]:List Tm) .nl,slv yU ([]:List ByteArray) .nl,ai r8.1,ai r8.2])],2,[],0,[]⟩ (fun r=>.tup [.sl (zD zI r.1) (List.length r.1) .no,ai r.2.1,ai r.2.2.1]) (fun r=>[.cells [ai r.2.2.2.1,ai r.2.2.2.2]]) 0 [.blk 0,.seq (rgt (rgt (rgt (rgt (bod Tryz.f42)))))]:=lw fun _=>rC 2 [1,0] zQs fun _=>rB 1 (lE 2)<|lH 1 [] [0,1] [] [0,9,38,39] (zSc)
theorem zSa{qq p0 p1 fl fu}:Lz (zFR qq p0 p1 fl fu) 1 Tryz.f42 (inn (inn (rgt (lft (rgt (rgt (rgt (bod Tryz.f42)))))))) (fun j=>sp j 91 0 [(0,slv zI p0 .no),(9,.mp 1 0),(38,.agg [.clo 73 [.mp 1 0] [],.clo 74 [.mp 1 0] [],.clo 75 [.mp 1 0] []]),(39,ai 0)]) ⟨[(0,.cells [ai fl,ai fu]),(1,.cells [slv zI p0 .no,ai p1.kind_,ai p1.at_,at' p1.name_,slv zB p1.tele_ .no,ai p1.type_.kind_,ai p1.type_.at_,at' p1.type_.name_,ai p1.type_.n_,slv zH p1.type_.sub_ .no,slv zB p1.cons_ .no,slv zO p1.rows_ .no,.mp 0 0,slv zA ([]:List Tm) .nl,slv yU ([]:List ByteArray) .nl,ai 0,ai 0])],2,[],0,[]⟩ (fun r=>.tup [.sl (zD zI r.1) (List.length r.1) .no,ai r.2.1,ai r.2.2.1]) (fun r=>[.cells [ai r.2.2.2.1,ai r.2.2.2.2]]) 0 [.blk 0,.seq (rgt (rgt (rgt (rgt (bod Tryz.f42)))))]:=lw fun _=>rC 2 [1,0] zQt fun _=>rB 1 (lE 2)<|lH 1 [] [0,1] [] [0,9,38,39] (zSb)
theorem c42{qq p0 p1 fl fu}:Cz (e42 qq p0 p1 fl fu) 42 [.cells [ai fl,ai fu]] [slv zI p0 .no,aI p1,.mp 0 0] (fun r=>.tup [.sl (zD zI r.1) (List.length r.1) .no,ai r.2.1,ai r.2.2.1]) (fun r=>[.cells [ai r.2.2.2.1,ai r.2.2.2.2]]) 0:=fw Tryz.func42<|rK 0 [] c47 (fun _=>rK 2 [] c56 (fun _=>rB 2 (fE 0)<|fH 1 [] [0,2] [] [0,9,38,39] (zSa)) fun _=>fE 1) fun _=>fE 1
set_option linter.unusedSectionVars false
abbrev RF:=(List Ent×Int×Int×Int×Int) ⊕ (List Ent×Int×Int×Int×Int)
def er7:RF->Int
 | .inl y=>y.2.1
 | .inr y=>y.2.1
structure zWo (l l':List Ent):Prop where
 S:iL l'
 len:l'.length=l.length+1
 mem:∀e∈l,e∈l'
 cons:(ent l' l.length).cons=[]
 P:0≤(ent l' l.length).pars∧(ent l' l.length).pars≤24
 I:0≤(ent l' l.length).inds∧(ent l' l.length).inds≤24
def QFm(l:List Ent)(R:Int->Int->RF)(_:Int):Prop:=(∃ll e a,e≠0∧R=fun L U=>.inl (ll,e,a,L,U))∨∃l' a,zWo l l'∧R=fun L U=>.inr (l',0,a,L,U)
section
variable {l:List Ent} (hS:iL l) (d:yJ) {pars:List Tm} (own:List ByteArray) (hp:OkA pars) (hpl:pars.length≤24)
theorem lC(l:List Ent)(pars:List Tm)(L U e a p at0:Int):Evt (fun q=>e92 q l d L U pars own e a p at0) (qB e a p at0):=by
 simp only[e92]
 unfold qB
 by_cases h:e=0
 ·subst h
  rw[if_pos rfl]
  refine Evt.ifT rfl ?_
  by_cases h:p=0
  ·subst h;exact Evt.ifF rfl Evt.ret
  ·rw[if_neg h];exact Evt.ifT (by simpa using h) (Evt.ret.eq (by rw[show (p != 0)=true by simpa using h]))
 ·rw[if_neg h]
  exact Evt.ifF (by simpa using h) (Evt.ret.eq (by rw[show (e != 0)=true by simpa using h]))
theorem dX(a p at0:Int)(h:p≠0):qB 0 a p at0=(true,p,at0):=by unfold qB;rw[if_pos rfl,if_neg h]
theorem K2(a at0:Int):qB 0 a 0 at0=(false,0,a):=rfl
include hS
theorem zJk(pars:List Tm)(L U e a:Int)(ctx:List Tm):Evt (fun q=>e49 q l d L U pars own e a ctx) (.inl (ctx,[],[],e,a,l,l.map xR,l.map uJ,l,evA l l.length 0)):=by
 simp only[e49]
 exact hS.E.2.bind (Evt.ifF rfl Evt.ret)
include hp hpl
theorem zFS(hd:nOk d.type_)(hown:own.length≤65535)(hl:l.length<65535)(a f:Int)(hf:0≤f):Ou (fun L U q=>e75 q l d L U pars own 0 a) er7 (QFm l) True f:=by
 simp only[e75]
 refine Ou.tot (A5 l hS.hl hS.he own hown d.type_ hd) fun r4 hr4=>?_
 obtain⟨t,p,e0⟩:=r4
 have ht:t.Ok:=hr4.1
 refine Ou.ite (fun _=>?_) (fun _=>?_) <;>
 ·refine Ou.evtL (fun L U=>lC d own l pars L U 0 a e0 _) ?_
  by_cases he:e0=0
  rotate_left
  ·rw[dX _ _ _ he]
   exact Ou.ret hf (.inl ⟨_,_,_,he,rfl⟩)
  subst he
  rw[K2]
  refine Ou.ite (fun h=>by simp at h) fun _=>?_
  refine Ou.evtL (fun L U=>zJk hS d own pars L U 0 a _) ?_
  refine Ou.bind (hS.U pars t (by omega) hp ht f hf) id (fun r hr=>⟨_,(lC d own l pars _ _ 0 a r.2.1 _).bind (Evt.ifT (by rw[dX _ _ _ (by have h:r.2.1=8:=hr;omega)]) Evt.ret),by have h:r.2.1=8:=hr;rw[dX _ _ _ (by omega)];exact h⟩) ?_
  rintro R k k0 k1 ⟨n,e,h8,rfl⟩
  change Ou _ er7 (QFm l) True _
  dsimp only
  refine Ou.evtL (fun L U=>lC d own l pars L U 0 a e _) ?_
  by_cases he:e=0
  rotate_left
  ·rw[dX _ _ _ he]
   exact Ou.ret (by omega) (.inl ⟨_,_,_,he,rfl⟩)
  subst he
  rw[K2]
  refine Ou.ite (fun h=>by simp at h) fun _=>Ou.evt (mV t ht) ?_
  have six:∀at0:Int,Ou (fun L U q=>e92 q l d L U pars own 0 a 6 at0>>=fun r=>some (Sum.inl (l,r.2.1,r.2.2,L,U):RF)) er7 (QFm l) True (f-k):=fun at0=>Ou.evtL (fun L U=>lC d own l pars L U 0 a 6 at0) (Ou.ret (by omega) (.inl ⟨_,_,_,by rw[dX _ _ _ (by decide)];show (6:Int)≠0;decide,rfl⟩))
  obtain⟨A,y,e9,hw⟩:∃A y e9,xC t=(A,y,e9):=⟨_,_,_,rfl⟩
  rw[hw]
  refine Ou.ite (fun _=>six _) fun h=>Ou.ite (fun _=>six _) fun _=>Ou.ite (fun _=>six _) fun h3=>?_
  have h9:e9=0:=by simpa using h
  subst h9
  have h3:=of_decide_eq_false h3
  rw[zV (by omega) (by omega)]at h3
  dsimp only at h3
  refine Ou.tot (fR pars t hp ht) fun s hs=>?_
  obtain⟨s1,s2⟩:=s
  refine Ou.evtL (fun L U=>lC d own l pars L U 0 a s2 _) ?_
  by_cases he:s2=0
  rotate_left
  ·rw[dX _ _ _ he]
   exact Ou.ret (by omega) (.inl ⟨_,_,_,he,rfl⟩)
  subst he
  rw[K2]
  refine Ou.ite (fun h=>by simp at h) fun _=>?_
  have hh:∀x∈l++[Ent.mk 1 d.name_ s1 (Tm.mk 0 0 []) 0 0 (pars.length:Int) (A.length:Int) y.n [] []],EOk x∧ECl x:=fun x hx=>by
   rcases List.mem_append.1 hx with hx|hx
   ·exact⟨hS.he x hx,hS.hc x hx⟩
   ·rw[List.mem_singleton.1 hx];exact⟨⟨hs.1,nG _ _,by simp,by simp⟩,by simp,by simp⟩
  refine Ou.tot (zDN l [Ent.mk 1 d.name_ s1 (Tm.mk 0 0 []) 0 0 (pars.length:Int) (A.length:Int) y.n [] []] (by simp) (by simp;omega) (fun x hx=>(hh x hx).1) fun x hx=>(hh x hx).2) fun r hr=>?_
  obtain⟨r1,r2⟩:=r
  refine Ou.evtL (fun L U=>lC d own l pars L U 0 a r2 _) ?_
  by_cases he:r2=0
  rotate_left
  ·rw[dX _ _ _ he]
   exact Ou.ret (by omega) (.inl ⟨_,_,_,he,rfl⟩)
  subst he
  rw[K2]
  refine Ou.ite (fun h=>by simp at h) fun _=>?_
  obtain⟨e1,e2⟩:=hr.2 rfl
  dsimp only at e1
  subst e1
  have en:ent (l++[Ent.mk 1 d.name_ s1 (Tm.mk 0 0 []) 0 0 (pars.length:Int) (A.length:Int) y.n [] []]) (l.length:Int)=Ent.mk 1 d.name_ s1 (Tm.mk 0 0 []) 0 0 (pars.length:Int) (A.length:Int) y.n [] []:=by
   have:=yF (l:=l++[Ent.mk 1 d.name_ s1 (Tm.mk 0 0 []) 0 0 (pars.length:Int) (A.length:Int) y.n [] []]) (n:=(l.length:Int)) (by omega) (by simp<;>omega)
   unfold zL at this
   rw[if_pos (by omega)]at this
   simpa using this.symm
  refine Ou.ret (by omega) (.inr ⟨_,_,⟨⟨fun x hx=>(hh x hx).1,fun x hx=>(hh x hx).2,by simp;omega,e2⟩,by simp,fun e he=>List.mem_append_left _ he,by rw[en],by rw[en];exact⟨by show 0≤(pars.length:Int);omega,by show (pars.length:Int)≤24;omega⟩,by rw[en];exact⟨by show 0≤(A.length:Int);omega,by show (A.length:Int)≤24;omega⟩⟩,rfl⟩)
end
abbrev er8 (r:List Ent×Int×Int×Int×Int):Int:=if r.1=[]then r.2.2.1 else 0
def QDc(R:Int->Int->List Ent×Int×Int×Int×Int)(_:Int):Prop:=∃C a e,R=(fun L U=>(C,a,e,L,U))∧(e≠0->C=[])∧C.length≤65535∧∀x∈C,EOk x∧ECl x
theorem QDc.nil(a e:Int)(k:Int):QDc (fun L U=>([],a,e,L,U)) k:=⟨_,_,_,rfl,fun _=>rfl,by simp,by simp⟩
theorem zDW{l:List Ent}(hS:iL l)(hl:l.length≤100)(d:yJ)(ho:dOk d)(f:Int)(hf:0≤f):Ou (fun L U q=>e42 q l d L U) er8 QDc True f:=by
 simp only[e42]
 refine Ou.evt hS.hF (Ou.ite (fun _=>?_) fun h=>absurd h (by decide))
 refine Ou.tot (zIa d ho) fun b hb=>Ou.ite (fun hb1=>?_) fun _=>Ou.ret hf (QDc.nil _ _ _)
 obtain⟨b1,b2⟩:=hb hb1
 refine Ou.ite (fun _=>Ou.ret hf (QDc.nil _ _ _)) fun _=>?_
 simp only[zFR]
 obtain⟨⟨e,a⟩,-,hN⟩:=zMR (l:=l) d.kind_ d.at_ d.name_ d.tele_ d.type_.kind_ d.type_.at_ d.type_.name_ d.type_.n_ d.type_.sub_ d.cons_ d.rows_ (by omega) (by omega)
 refine Ou.evtL hN (Ou.ite (fun _=>Ou.ret hf (QDc.nil _ _ _)) fun he=>?_)
 have e0:e=0:=by simpa using he
 subst e0
 simp only[zFQ]
 refine Ou.bind (zMS hS d.kind_ d.at_ d.name_ d.tele_ d.type_.kind_ d.type_.at_ d.type_.name_ d.type_.n_ d.type_.sub_ d.cons_ d.rows_ ho.2.1.2 b1 a f hf) id (fun r hr=>⟨_,Evt.ifT (by have h:r.2.2.1=8:=hr;rw[h];rfl) Evt.ret,hr⟩) ?_
 rintro R k k0 k1 ⟨T,n,e,a,rfl,hg⟩
 change Ou _ er8 QDc True _
 dsimp only
 refine Ou.ite (fun _=>Ou.ret (by omega) (QDc.nil _ _ _)) fun he=>?_
 have e0:e=0:=by simpa using he
 subst e0
 obtain⟨g1,g2,g3⟩:=hg rfl
 simp only[zFP,zFO,zFN]
 refine Ou.bind (zFS hS d n g1 g2 ho.1 (by omega) (by omega) a (f-k) (by omega)) id (fun r hr=>?_) ?_
 ·rcases r with y|y
  ·exact⟨_,Evt.ifT (by have h:y.2.1=8:=hr;rw[h];rfl) Evt.ret,hr⟩
  ·exact⟨_,Evt.ifT (by have h:y.2.1=8:=hr;rw[h];rfl) Evt.ret,hr⟩
 rintro R k2 k20 k21 (⟨ll,e,a,he,rfl⟩|⟨l',a,hN,rfl⟩)
 ·change Ou _ er8 QDc True _
  dsimp only
  exact Ou.ifT (by simpa using he) (Ou.ret (by omega) (QDc.nil _ _ _))
 ·change Ou _ er8 QDc True _
  dsimp only
  refine Ou.ifF rfl ?_
  have hlen:=hN.len
  have le:((l'.length:Int)-1)=(l.length:Int):=by omega
  refine Ou.bind (by
   simp only[zBx]
   exact i5 hN.S d.kind_ d.at_ d.name_ d.tele_ d.type_.kind_ d.type_.at_ d.type_.name_ d.type_.n_ d.type_.sub_ d.cons_ d.rows_ n g1 g2 ho.2.2.1.2 ho.2.2.1.1 (by omega) (by omega) (by rw[le];exact hN.P) (by rw[le];exact hN.I) d.cons_ 0 [] a (f-k-k2) rfl (by omega) (by simp) (by simp) (by omega)) id (fun r hr=>⟨_,Evt.ifT (by have h:r.2.1=8:=hr;rw[h];rfl) Evt.ret,hr⟩) ?_
  rintro R k3 k30 k31 ⟨C,e,a,rfl,hc⟩
  change Ou _ er8 QDc True _
  dsimp only
  refine Ou.ite (fun _=>Ou.ret (by omega) (QDc.nil _ _ _)) fun he=>?_
  have e0:e=0:=by simpa using he
  subst e0
  obtain⟨c1,c2⟩:=hc rfl
  obtain⟨⟨w1,w2,w3⟩,hw,hW⟩:=zMQ (l:=l') d.kind_ d.at_ d.name_ d.tele_ d.type_.kind_ d.type_.at_ d.type_.name_ d.type_.n_ d.type_.sub_ d.cons_ d.rows_ T n l C (by omega) (fun x hx=>⟨hN.S.he x hx,hN.S.hc x hx⟩) (by omega) hN.mem hN.cons c2 a
  refine Ou.evtL hW (Ou.ite (fun _=>Ou.ret (by omega) (QDc.nil _ _ _)) fun he=>Ou.ret (by omega) ⟨_,_,_,rfl,fun h=>absurd rfl h,?_⟩)
  exact hw (by simpa using he)
mutual
def dY:Nat->(List Tm)->Int->Option (Int)
 |0,_,_=>none
 |qq+1,v3,v4=>
 if decide ((List.length v3:Int)>0)then
 if decide (v4<129)then
 dZ qq v3 v4 [] 0
 else
 some v4
 else
 some v4
def dZ:Nat->(List Tm)->Int->(List Tm)->Int->Option (Int)
 |0,_,_,_,_=>none
 |qq+1,v3,v4,v5,v6=>
 if decide (v6<(List.length v3:Int))then
 zL v3 v6>>=fun x7=>
 yR 40 v5 x7.sub>>=fun l9=>
 dZ qq v3 v4 l9 (w64 (v6+1))
 else
 dY qq v5 (w64 (v4+1))
end
def e64(qq:Nat)(p0:Tm):Option (Int):=
 e12 qq p0>>=fun r1=>
 if decide (r1>8192)then
 some 129
 else
 dY qq [p0] 0
theorem zBt:∀qq:Nat,(∀v3 v4,Lz (dY qq v3 v4) 0 Tryz.f64 (inn (inn (lft (rgt (rgt (rgt (rgt (bod Tryz.f64)))))))) (fun j=>sp j 37 0 [(3,slv zA v3 .full),(4,ai v4)]) ⟨[],0,[],0,[]⟩ (fun r=>ai r) (fun _=>[]) 0 [.blk 0,.seq (rgt (rgt (rgt (rgt (rgt (bod Tryz.f64))))))]∧Lz (dY qq v3 v4) 0 Tryz.f64 (inn (inn (lft (rgt (rgt (rgt (rgt (bod Tryz.f64)))))))) (fun j=>sp j 37 0 [(3,slv zA v3 (.st 0 3)),(4,ai v4)]) ⟨[],0,[0],1,[]⟩ (fun r=>ai r) (fun _=>[]) 0 [.blk 0,.seq (rgt (rgt (rgt (rgt (rgt (bod Tryz.f64))))))])∧(∀v3 v4 v5 v6,Lz (dZ qq v3 v4 v5 v6) 0 Tryz.f64 (inn (inn (rgt (lft (rgt (inn (rgt (inn (inn (lft (rgt (rgt (rgt (rgt (bod Tryz.f64))))))))))))))) (fun j=>sp j 37 0 [(3,slv zA v3 .full),(4,ai v4),(5,slv zA v5 (.st 0 3)),(6,ai v6)]) ⟨[],0,[0],1,[]⟩ (fun r=>ai r) (fun _=>[]) 0 [.blk 2,.seq (rgt (rgt (inn (rgt (inn (inn (lft (rgt (rgt (rgt (rgt (bod Tryz.f64)))))))))))),.blk 1,.loop (inn (inn (lft (rgt (rgt (rgt (rgt (bod Tryz.f64)))))))),.blk 0,.seq (rgt (rgt (rgt (rgt (rgt (bod Tryz.f64))))))]∧Lz (dZ qq v3 v4 v5 v6) 0 Tryz.f64 (inn (inn (rgt (lft (rgt (inn (rgt (inn (inn (lft (rgt (rgt (rgt (rgt (bod Tryz.f64))))))))))))))) (fun j=>sp j 37 0 [(3,slv zA v3 (.st 0 3)),(4,ai v4),(5,slv zA v5 (.st 1 3)),(6,ai v6)]) ⟨[],0,[0,1],2,[]⟩ (fun r=>ai r) (fun _=>[]) 0 [.blk 2,.seq (rgt (rgt (inn (rgt (inn (inn (lft (rgt (rgt (rgt (rgt (bod Tryz.f64)))))))))))),.blk 1,.loop (inn (inn (lft (rgt (rgt (rgt (rgt (bod Tryz.f64)))))))),.blk 0,.seq (rgt (rgt (rgt (rgt (rgt (bod Tryz.f64))))))]):=yW ⟨fun _ _=>⟨lN,lN⟩,fun _ _ _ _=>⟨lN,lN⟩⟩ fun qq ih=>⟨fun v3 v4=>⟨lw fun _=>rB 1 (rB 0 (lH 1 [(none,5,3)] [] [0] [3,4,5,6] ((ih.2 _ _ _ _).1))<|lE 0)<|lE 0,lw fun _=>rB 1 (rB 0 (lH 1 [(none,5,3)] [] [0,1] [3,4,5,6] ((ih.2 _ _ _ _).2))<|lE 0)<|lE 0⟩,
 fun v3 v4 v5 v6=>⟨lw fun _=>rB 1 (rA 0 (yM (o:=.full)) fun x7=>rH fun _ h10=>rZ (List.length x7.sub=0) (fun h11=>rS (oP 1 (sJ h10 h11))<|lH 1 [] [] [0] [3,4,5,6] ((ih.2 _ _ _ _).1)) fun h11=>rS (oP 1 (xU h10 h11))<|lH 1 [] [] [1] [3,4,5,6] ((ih.2 _ _ _ _).1))<|lH 1 [] [] [0] [3,4] ((ih.1 _ _).2),lw fun _=>rB 1 (rA 0 (yM (o:=(.st 0 3))) fun x7=>rH fun _ h10=>rZ (List.length x7.sub=0) (fun h11=>rS (oP 1 (sJ h10 h11))<|lH 1 [] [] [0,1] [3,4,5,6] ((ih.2 _ _ _ _).2)) fun h11=>rS (oP 1 (xU h10 h11))<|lH 1 [] [] [0,2] [3,4,5,6] ((ih.2 _ _ _ _).2))<|lH 1 [] [] [1] [3,4] ((ih.1 _ _).2)⟩⟩
theorem c64{qq p0}:Cz (e64 qq p0) 64 [] [tmA p0] (fun r=>ai r) (fun _=>[]) 0:=fw Tryz.func64<|rC 1 [] c12 fun _=>rB 0 (fE 0)<|rS (oS 1 (yV xH [p0]))<|fH 0 [] [] [] [3,4] ((((zBt _).1) _ _).1)
mutual
def e65:Nat->Tm->Option (Bool)
 |0,_=>none
 |qq+1,p0=>
 if p0.k==1 then
 if (List.length p0.sub:Int) != 0 then
 some false
 else
 if decide (p0.n<0)then
 some false
 else
 if decide (p0.n>1048576)then
 some false
 else
 if p0.k==7 then
 zL p0.sub 0>>=fun x6=>
 if x6.k != 2 then
 some false
 else
 vP qq p0 0 0
 else
 vP qq p0 0 0
 else
 if p0.k==6 then
 if (List.length p0.sub:Int) != 0 then
 some false
 else
 if decide (p0.n<0)then
 some false
 else
 if decide (p0.n>1048576)then
 some false
 else
 if p0.k==7 then
 zL p0.sub 0>>=fun x14=>
 if x14.k != 2 then
 some false
 else
 vP qq p0 0 0
 else
 vP qq p0 0 0
 else
 if p0.k==8 then
 if (List.length p0.sub:Int) != 0 then
 some false
 else
 if decide (p0.n<0)then
 some false
 else
 if decide (p0.n>1048576)then
 some false
 else
 if p0.k==7 then
 zL p0.sub 0>>=fun x22=>
 if x22.k != 2 then
 some false
 else
 vP qq p0 0 0
 else
 vP qq p0 0 0
 else
 if p0.k==2 then
 if (List.length p0.sub:Int) != 0 then
 some false
 else
 if decide (p0.n<0)then
 some false
 else
 if decide (p0.n>7)then
 some false
 else
 if p0.k==7 then
 zL p0.sub 0>>=fun x30=>
 if x30.k != 2 then
 some false
 else
 vP qq p0 0 0
 else
 vP qq p0 0 0
 else
 if p0.k==3 then
 if (List.length p0.sub:Int) != 2 then
 some false
 else
 if decide (p0.n<0)then
 some false
 else
 if decide (p0.n>0)then
 some false
 else
 if p0.k==7 then
 zL p0.sub 0>>=fun x38=>
 if x38.k != 2 then
 some false
 else
 vP qq p0 2 0
 else
 vP qq p0 2 0
 else
 if p0.k==4 then
 if (List.length p0.sub:Int) != 2 then
 some false
 else
 if decide (p0.n<0)then
 some false
 else
 if decide (p0.n>0)then
 some false
 else
 if p0.k==7 then
 zL p0.sub 0>>=fun x46=>
 if x46.k != 2 then
 some false
 else
 vP qq p0 2 0
 else
 vP qq p0 2 0
 else
 if p0.k==5 then
 if (List.length p0.sub:Int) != 2 then
 some false
 else
 if decide (p0.n<0)then
 some false
 else
 if decide (p0.n>0)then
 some false
 else
 if p0.k==7 then
 zL p0.sub 0>>=fun x54=>
 if x54.k != 2 then
 some false
 else
 vP qq p0 2 0
 else
 vP qq p0 2 0
 else
 if p0.k==7 then
 if (List.length p0.sub:Int) != 1 then
 some false
 else
 if decide (p0.n<0)then
 some false
 else
 if decide (p0.n>1048576)then
 some false
 else
 zL p0.sub 0>>=fun x61=>
 if x61.k != 2 then
 some false
 else
 vP qq p0 1 0
 else
 some false
def vP:Nat->Tm->Int->Int->Option (Bool)
 |0,_,_,_=>none
 |qq+1,p0,v3,v5=>
 if decide (v5<v3)then
 zL p0.sub v5>>=fun x10=>
 e65 qq x10>>=fun r12=>
 if r12 then
 vP qq p0 v3 (w64 (v5+1))
 else
 some false
 else
 some true
end
theorem zJj:∀qq:Nat,(∀p0,Cz (e65 qq p0) 65 [] [tmA p0] (fun r=>ab r) (fun _=>[]) 0)∧(∀p0 v3 v5,Lz (vP qq p0 v3 v5) 0 Tryz.f65 (inn (inn (rgt (lft (rgt (rgt (rgt (rgt (rgt (bod Tryz.f65)))))))))) (fun j=>sp j 61 0 [(1,.mp 0 0),(3,ai v3),(5,ai v5)]) ⟨[(0,.cells [ai p0.k,ai p0.n,slv zA p0.sub .no])],1,[],0,[]⟩ (fun r=>ab r) (fun _=>[]) 0 [.blk 1,.seq (rgt (rgt (rgt (rgt (rgt (rgt (bod Tryz.f65)))))))]):=yW ⟨fun _=>cN,fun _ _ _=>lN⟩ fun qq ih=>⟨fun p0=>fw Tryz.func65<|rB 1 (rB 2 (fE 0)<|rB 1 (fE 0)<|rB 1 (fE 0)<|rB 1 (rA 1 (yM (o:=.no)) fun _=>rB 1 (fE 0)<|fH 0 [] [0] [] [1,3,5] (ih.2 _ _ _))<|fH 0 [] [0] [] [1,3,5] (ih.2 _ _ _))<|rB 0 (rB 2 (fE 0)<|rB 1 (fE 0)<|rB 1 (fE 0)<|rB 1 (rA 1 (yM (o:=.no)) fun _=>rB 1 (fE 0)<|fH 0 [] [0] [] [1,3,5] (ih.2 _ _ _))<|fH 0 [] [0] [] [1,3,5] (ih.2 _ _ _))<|rB 0 (rB 2 (fE 0)<|rB 1 (fE 0)<|rB 1 (fE 0)<|rB 1 (rA 1 (yM (o:=.no)) fun _=>rB 1 (fE 0)<|fH 0 [] [0] [] [1,3,5] (ih.2 _ _ _))<|fH 0 [] [0] [] [1,3,5] (ih.2 _ _ _))<|rB 0 (rB 2 (fE 0)<|rB 1 (fE 0)<|rB 1 (fE 0)<|rB 1 (rA 1 (yM (o:=.no)) fun _=>rB 1 (fE 0)<|fH 0 [] [0] [] [1,3,5] (ih.2 _ _ _))<|fH 0 [] [0] [] [1,3,5] (ih.2 _ _ _))<|rB 0 (rB 2 (fE 0)<|rB 1 (fE 0)<|rB 1 (fE 0)<|rB 1 (rA 1 (yM (o:=.no)) fun _=>rB 1 (fE 0)<|fH 0 [] [0] [] [1,3,5] (ih.2 _ _ _))<|fH 0 [] [0] [] [1,3,5] (ih.2 _ _ _))<|rB 0 (rB 2 (fE 0)<|rB 1 (fE 0)<|rB 1 (fE 0)<|rB 1 (rA 1 (yM (o:=.no)) fun _=>rB 1 (fE 0)<|fH 0 [] [0] [] [1,3,5] (ih.2 _ _ _))<|fH 0 [] [0] [] [1,3,5] (ih.2 _ _ _))<|rB 0 (rB 2 (fE 0)<|rB 1 (fE 0)<|rB 1 (fE 0)<|rB 1 (rA 1 (yM (o:=.no)) fun _=>rB 1 (fE 0)<|fH 0 [] [0] [] [1,3,5] (ih.2 _ _ _))<|fH 0 [] [0] [] [1,3,5] (ih.2 _ _ _))<|rI (fun h57=>rS (oB 0 h57)<|rB 2 (fE 0)<|rB 1 (fE 0)<|rB 1 (fE 0)<|rS (oB 1 h57)<|rA 1 (yM (o:=.no)) fun _=>rB 1 (fE 0)<|fH 0 [] [0] [] [1,3,5] (ih.2 _ _ _)) fun h57=>rS (oB 0 h57)<|fE 0,
 fun p0 v3 v5=>lw fun _=>rB 0 (rA 1 (yM (o:=.no)) fun _=>rK 1 [] (ih.1 _) (fun _=>lH 2 [] [0] [] [1,3,5] (ih.2 _ _ _)) fun _=>lE 1)<|lE 0⟩
theorem c65{qq p0}:Cz (e65 qq p0) 65 [] [tmA p0] (fun r=>ab r) (fun _=>[]) 0:=(zJj _).1 _
def e34(qq:Nat)(p0:Tm):Option (Bool):=
 e64 qq p0>>=fun r1=>
 if decide (r1≤128)then
 e65 qq p0>>=fun r4=>
 some r4
 else
 some false
theorem c34{qq p0}:Cz (e34 qq p0) 34 [] [tmA p0] (fun r=>ab r) (fun _=>[]) 0:=fw Tryz.func34<|rC 1 [] c64 fun _=>rB 0 (rC 1 [] c65 fun _=>fE 0)<|fE 0
def e32(qq:Nat)(p0 p1:Tm):Option (Bool):=
 e34 qq p0>>=fun r1=>
 e34 qq p1>>=fun r3=>
 if !(r1==r3)then
 some false
 else
 if r1 then
 e63 qq p0 p1>>=fun r7=>
 some r7
 else
 some true
theorem c32{qq p0 p1}:Cz (e32 qq p0 p1) 32 [] [tmA p0,tmA p1] (fun r=>ab r) (fun _=>[]) 0:=fw Tryz.func32<|rH fun _ h2=>rS (oC 1 [] (c34 _ h2))<|rC 1 [] c34 fun _=>rB 0 (fE 0)<|rI (fun h6=>rS (oK 1 [] h6 (c34 _ h2))<|rC 3 [] c63 fun _=>fE 0) fun h6=>rS (oK 1 [] h6 (c34 _ h2))<|fE 1
def B0:Nat->(List Int)->(List Int)->Int->Option (Bool)
 |0,_,_,_=>none
 |qq+1,p0,p1,v5=>
 if decide (v5<(List.length p0:Int))then
 zL p0 v5>>=fun x3=>
 zL p1 v5>>=fun x5=>
 if x3 != x5 then
 some false
 else
 B0 qq p0 p1 (w64 (v5+1))
 else
 some true
def e33(qq:Nat)(p0 p1:List Int):Option (Bool):=
 if (List.length p0:Int) != (List.length p1:Int)then
 some false
 else
 B0 qq p0 p1 0
theorem zSA:∀qq:Nat,∀p0 p1 v5,Lz (B0 qq p0 p1 v5) 0 Tryz.f33 (inn (inn (rgt (lft (rgt (rgt (bod Tryz.f33))))))) (fun j=>sp j 26 0 [(0,slv zM p0 .no),(1,slv zM p1 .no),(5,ai v5)]) ⟨[],0,[],0,[]⟩ (fun r=>ab r) (fun _=>[]) 0 [.blk 0,.seq (rgt (rgt (rgt (bod Tryz.f33))))]:=yW (fun _ _ _=>lN) fun qq ih=>fun p0 p1 v5=>lw fun _=>rB 1 (rA 0 (pL (o:=.no)) fun _=>rA 1 (pL (o:=.no)) fun _=>rB 1 (lE 0)<|lH 1 [] [] [] [0,1,5] (ih _ _ _))<|lE 0
theorem c33{qq p0 p1}:Cz (e33 qq p0 p1) 33 [] [slv zM p0 .no,slv zM p1 .no] (fun r=>ab r) (fun _=>[]) 0:=fw Tryz.func33<|rB 2 (fE 0)<|fH 0 [] [] [] [0,1,5] (zSA _ _ _ _)
def B1:Nat->(List Ent)->(List Ent)->Int->Option (Bool)
 |0,_,_,_=>none
 |qq+1,p0,p1,v5=>
 if decide (v5<(List.length p0:Int))then
 zL p0 v5>>=fun x3=>
 zL p1 v5>>=fun x5=>
 if x3.kind != x5.kind then
 some false
 else
 if !(x3.name.toList==x5.name.toList)then
 some false
 else
 if x3.fam != x5.fam then
 some false
 else
 if x3.place != x5.place then
 some false
 else
 if x3.pars != x5.pars then
 some false
 else
 if x3.inds != x5.inds then
 some false
 else
 if x3.level != x5.level then
 some false
 else
 e32 qq x3.type x5.type>>=fun r14=>
 if r14 then
 e32 qq x3.body x5.body>>=fun r17=>
 if r17 then
 e33 qq x3.cons x5.cons>>=fun r20=>
 if r20 then
 e33 qq x3.fields x5.fields>>=fun r23=>
 if r23 then
 B1 qq p0 p1 (w64 (v5+1))
 else
 some false
 else
 some false
 else
 some false
 else
 some false
 else
 some true
def e10(qq:Nat)(p0 p1:List Ent):Option (Bool):=
 if (List.length p0:Int) != (List.length p1:Int)then
 some false
 else
 B1 qq p0 p1 0
theorem zSB:∀qq:Nat,∀p0 p1 v5,Lz (B1 qq p0 p1 v5) 0 Tryz.f10 (inn (inn (rgt (lft (rgt (rgt (bod Tryz.f10))))))) (fun j=>sp j 104 0 [(0,slv zI p0 .no),(1,slv zI p1 .no),(5,ai v5)]) ⟨[],0,[],0,[]⟩ (fun r=>ab r) (fun _=>[]) 0 [.blk 0,.seq (rgt (rgt (rgt (bod Tryz.f10))))]:=yW (fun _ _ _=>lN) fun qq ih=>fun p0 p1 v5=>lw fun _=>rB 1 (rA 0 (yY (o:=.no)) fun _=>rA 2 (yY (o:=.no)) fun _=>rB 4 (lE 0)<|rB 2 (lE 0)<|rB 2 (lE 0)<|rB 2 (lE 0)<|rB 2 (lE 0)<|rB 2 (lE 0)<|rB 2 (lE 0)<|rK 2 [] c32 (fun _=>rK 3 [] c32 (fun _=>rK 3 [] c33 (fun _=>rK 3 [] c33 (fun _=>lH 2 [] [] [] [0,1,5] (ih _ _ _)) fun _=>lE 1) fun _=>lE 1) fun _=>lE 1) fun _=>lE 1)<|lE 0
theorem c10{qq p0 p1}:Cz (e10 qq p0 p1) 10 [] [slv zI p0 .no,slv zI p1 .no] (fun r=>ab r) (fun _=>[]) 0:=fw Tryz.func10<|rB 2 (fE 0)<|fH 0 [] [] [] [0,1,5] (zSB _ _ _ _)
set_option linter.unusedSectionVars false
theorem V3:∀l:List Tm,yN l=l.length+yN (l.flatMap Tm.sub)
 | []=>by simp[yN]
 |t::l=>by rw[yN,List.flatMap_cons,nE,V3 l,fN t];simp;omega
theorem zDX:∀(m d:Nat) (l:List Tm),d+m=129->yN l≤8192->Tot (fun q=>dY q l (d:Int)) fun _=>True:=by
 intro m
 induction m with
 |zero=>
  intro d l hm hl
  refine Tot.succ ?_
  simp only[dY]
  exact Tot.ite (fun _=>Tot.ite (fun h=>absurd (of_decide_eq_true h) (by omega)) fun _=>Tot.ret trivial) fun _=>Tot.ret trivial
 |succ m ih=>
  intro d l hm hl
  refine Tot.succ ?_
  simp only[dY]
  have hfn:=V3 l
  have key:∀(r:List Tm) (v:Nat) (acc:List Tm),l.drop v=r->yN acc+yN (r.flatMap Tm.sub)≤8192->Tot (fun q=>dZ q l (d:Int) acc (v:Int)) fun _=>True:=by
   intro r
   induction r with
   |nil=>
    intro v acc hd ha
    refine Tot.succ ?_
    simp only[dZ]
    refine Tot.ite (fun h=>by rw[zX hd]at h;cases h) fun _=>?_
    rw[zU d (by omega)]
    exact ih (d+1) acc (by omega) (by omega)
   |cons x r ihr=>
    intro v acc hd ha
    have hlt:=yC hd
    have hll:=qM l
    rw[List.flatMap_cons,nE]at ha
    have h1:=qM acc
    have h2:=qM x.sub
    refine Tot.succ ?_
    simp only[dZ]
    rw[zU v (by omega)]
    exact Tot.ite (fun _=>Tot.pure (zS hd) (Tot.pure (zZ (by omega)) (ihr (v+1) _ (zQ hd) (by rw[nE];omega)))) fun h=>by rw[zW hd]at h;cases h
  exact Tot.ite (fun _=>Tot.ite (fun _=>key l 0 [] rfl (by rw[yN];omega)) fun _=>Tot.ret trivial) fun _=>Tot.ret trivial
theorem zFT(t:Tm):Tot (fun q=>e64 q t) fun _=>True:=by
 simp only[e64]
 refine((zMk t).tot rfl).bind fun a ha=>Tot.ite (fun _=>Tot.ret trivial) fun h=>zDX 129 0 [t] rfl ?_
 have:=of_decide_eq_false h
 rw[yN,yN]
 subst ha
 omega
mutual
theorem i9:∀(t:Tm),t.Ok->Tot (fun q=>e65 q t) fun _=>True
 | .mk k n l,ho=>by
  have fin:∀c:Nat,l.length=c->Tot (fun q=>vP q (.mk k n l) (c:Int) 0) fun _=>True:=fun c hc=>V4 l (.mk k n l) 0 c rfl hc ho.1 ho.2
  have gu:∀(c:Nat) (m:Int) (X:Nat->Option Bool),(l.length=c->Tot X fun _=>True)->Tot (fun q=>if ((List.length l:Int) != (c:Int))=true then some false else if decide (n<0)=true then some false else if decide (n>m)=true then some false else X q) fun _=>True:=fun c m X h=>Tot.ite (fun _=>Tot.ret trivial) fun h1=>Tot.ite (fun _=>Tot.ret trivial) fun _=>Tot.ite (fun _=>Tot.ret trivial) fun _=>h (by simp at h1;omega)
  have no:∀(j:Int) (c:Nat) (X:Nat->Option Bool),j≠7->(k==j)=true->l.length=c->Tot (fun q=>if (k==7)=true then X q else vP q (.mk k n l) (c:Int) 0) fun _=>True:=fun j c X hj hk hc=>Tot.ite (fun h=>absurd (eq_of_beq h:k=7) fun e=>hj ((eq_of_beq hk).symm.trans e)) fun _=>fin c hc
  refine Tot.succ ?_
  simp only[e65]
  refine Tot.ite (fun h=>gu 0 _ _ (no 1 0 _ (by decide) h)) fun _=>Tot.ite (fun h=>gu 0 _ _ (no 6 0 _ (by decide) h)) fun _=>Tot.ite (fun h=>gu 0 _ _ (no 8 0 _ (by decide) h)) fun _=>Tot.ite (fun h=>gu 0 _ _ (no 2 0 _ (by decide) h)) fun _=>Tot.ite (fun h=>gu 2 _ _ (no 3 2 _ (by decide) h)) fun _=>Tot.ite (fun h=>gu 2 _ _ (no 4 2 _ (by decide) h)) fun _=>Tot.ite (fun h=>gu 2 _ _ (no 5 2 _ (by decide) h)) fun _=>Tot.ite (fun h=>gu 1 _ _ fun hc=>?_) fun _=>Tot.ret trivial
  obtain⟨x,hx,-⟩:=sM (l:=l) (i:=0) (by omega) (by omega)
  exact Tot.pure hx (Tot.ite (fun _=>Tot.ret trivial) fun _=>fin 1 hc)
theorem V4:∀(l:List Tm) (p:Tm) (v c:Nat),p.sub.drop v=l->p.sub.length=c->p.sub.length<9223372036854775808->OkL l->Tot (fun q=>vP q p (c:Int) (v:Int)) fun _=>True
 | [],p,v,c,hd,hc,hl,ho=>by
  refine Tot.succ ?_
  simp only[vP]
  exact Tot.ite (fun h=>by rw[←hc,zX hd]at h;cases h) fun _=>Tot.ret trivial
 |t::l,p,v,c,hd,hc,hl,ho=>by
  have:=yC hd
  refine Tot.succ ?_
  simp only[vP]
  rw[zU v (by omega)]
  exact Tot.ite (fun _=>Tot.pure (zS hd) ((i9 t ho.1).bind fun _ _=>Tot.ite (fun _=>V4 l p (v+1) c (zQ hd) hc hl ho.2) fun _=>Tot.ret trivial)) fun h=>by rw[←hc,zW hd]at h;cases h
end
theorem E1(t:Tm)(ho:t.Ok):Evt (fun q=>e32 q t t) true:=by
 obtain⟨b,hb,-⟩:Tot (fun q=>e34 q t) fun _=>True:=by
  simp only[e34]
  exact(zFT t).bind fun _ _=>Tot.ite (fun _=>(i9 t ho).bind fun _ _=>Tot.ret trivial) fun _=>Tot.ret trivial
 simp only[e32]
 refine hb.bind (hb.bind (Evt.ifF (by simp) (Evt.iff (fun _=>(m5 t ho).bind Evt.ret) fun _=>Evt.ret)))
theorem bV(p:List Int)(hl:p.length<9223372036854775808):∀(r:List Int) (v:Nat),p.drop v=r->Evt (fun q=>B0 q p p (v:Int)) true
 | [],v,hd=>by
  refine Evt.succ ?_
  simp only[B0]
  exact Evt.ifF (zX hd) Evt.ret
 |x::r,v,hd=>by
  have:=yC hd
  refine Evt.succ ?_
  simp only[B0]
  rw[zU v (by omega)]
  exact Evt.ifT (zW hd) (Evt.pure (zS hd) (Evt.pure (zS hd) (Evt.ifF (by simp) (bV p hl r (v+1) (zQ hd)))))
theorem E2(p:List Int)(hl:p.length<9223372036854775808):Evt (fun q=>e33 q p p) true:=by
 simp only[e33]
 exact Evt.ifF (by simp) (bV p hl p 0 rfl)
theorem zDY(p:List Ent)(hl:p.length<9223372036854775808)(hp:∀x∈p,EOk x∧ECl x):∀(r:List Ent) (v:Nat),p.drop v=r->Evt (fun q=>B1 q p p (v:Int)) true
 | [],v,hd=>by
  refine Evt.succ ?_
  simp only[B1]
  exact Evt.ifF (zX hd) Evt.ret
 |x::r,v,hd=>by
  have:=yC hd
  have hx:=hp x (List.mem_of_mem_drop (hd▸List.mem_cons_self ..))
  refine Evt.succ ?_
  simp only[B1]
  rw[zU v (by omega)]
  exact Evt.ifT (zW hd) (Evt.pure (zS hd) (Evt.pure (zS hd) (Evt.ifF (by simp) (Evt.ifF (by simp) (Evt.ifF (by simp) (Evt.ifF (by simp) (Evt.ifF (by simp) (Evt.ifF (by simp) (Evt.ifF (by simp) ((E1 _ hx.1.1).bind (Evt.ifT rfl ((E1 _ hx.1.2.1).bind (Evt.ifT rfl ((E2 _ (by have:=hx.2.1;omega)).bind (Evt.ifT rfl ((E2 _ (by have:=hx.2.2;omega)).bind (Evt.ifT rfl (zDY p hl hp r (v+1) (zQ hd)))))))))))))))))))
theorem zQp(p:List Ent)(hl:p.length<9223372036854775808)(hp:∀x∈p,EOk x∧ECl x):Evt (fun q=>e10 q p p) true:=by
 simp only[e10]
 exact Evt.ifF (by simp) (zDY p hl hp p 0 rfl)
def e18(qq:Nat)(p0:List Ent)(p1:ByteArray)(p2:Int):Option (List Ent×Int×Int):=
 e22 qq p1>>=fun r1=>
 e20 qq p2>>=fun r3=>
 match r3 with
 |Sum.inl y13=>
  if r1.2.2 != 0 then
  some ([],0,1)
  else
  if y13 != 0 then
  some ([],0,1)
  else
  if (List.length r1.1:Int)==0 then
  some ([],0,1)
  else
  none
 |Sum.inr y5=>
  if r1.2.2 != 0 then
  some ([],0,1)
  else
  if y5.1 != 0 then
  some ([],0,1)
  else
  if (List.length r1.1:Int)==0 then
  some ([],0,1)
  else
  zL r1.1 0>>=fun x9=>
  e42 qq p0 x9 y5.2.1 y5.2.2>>=fun r11=>
  some (r11.1,r11.2.1,r11.2.2.1)
theorem c18{qq p0 p1 p2}:Cz (e18 qq p0 p1 p2) 18 [] [slv zI p0 .no,at' p1,ai p2] (fun r=>.tup [.sl (zD zI r.1) (List.length r.1) .no,ai r.2.1,ai r.2.2]) (fun _=>[]) 0:=fw Tryz.func18<|rC 0 [] c22 fun _=>rC 3 [] c20<|oR (fun _=>rB 2 (fE 0)<|rB 0 (fE 0)<|rB 1 (fE 0) rN) fun _=>rB 2 (fE 0)<|rB 0 (fE 0)<|rB 1 (fE 0)<|rA 0 (zUc (o:=.no)) fun _=>rC 1 [0] c42 fun _=>fE 3
def e17(qq:Nat)  : Option (Bool):=
 e18 qq [] (⟨#[100,97,116,97,32,78,32,58,32,83,101,116,32,123,32,122,32,58,32,78,59,32,115,32,58,32,78,32,45,62,32,78,59,32,125]⟩:ByteArray) 100>>=fun r1=>
 if r1.2.2==0 then
 if (List.length r1.1:Int)==3 then
 zL r1.1 2>>=fun x5=>
 some (x5.name.toList==(⟨#[115]⟩:ByteArray).toList)
 else
 some false
 else
 some false
theorem c17{qq}:Cz (e17 qq) 17 [] [] (fun r=>ab r) (fun _=>[]) 0:=fw Tryz.func17<|rC 0 [] c18 fun _=>rB 3 (rB 1 (rA 0 (yY (o:=.no)) fun _=>fE 2)<|fE 0)<|fE 0
def e38(qq:Nat)(p0 p1:Int):Option (Tm):=
 some (Tm.mk p0 p1 [])
theorem c38{qq p0 p1}:Cz (e38 qq p0 p1) 38 [] [ai p0,ai p1] (fun r=>tmA r) (fun _=>[]) 0:=fw Tryz.func38<|fE 1
def e14(qq:Nat)(p0:Int):Option (Tm):=
 e38 qq 6 p0>>=fun r1=>
 some r1
theorem c14{qq p0}:Cz (e14 qq p0) 14 [] [ai p0] (fun r=>tmA r) (fun _=>[]) 0:=fw Tryz.func14<|rC 0 [] c38 fun _=>fE 1
def e37(qq:Nat)(p0:Int)(p1 p2:Tm):Option (Tm):=
 some (Tm.mk p0 0 [p1,p2])
theorem c37{qq p0 p1 p2}:Cz (e37 qq p0 p1 p2) 37 [] [ai p0,tmA p1,tmA p2] (fun r=>tmA r) (fun _=>[]) 0:=fw Tryz.func37<|rS (oS 2 (yV xH [p1,p2]))<|fE 1
def zFU:Nat->(List Tm)->Int->Int->Int->(List Tm)->Option (Tm)
 |0,_,_,_,_,_=>none
 |qq+1,p1,v5,zR,yA,zN=>
 if decide (v5<(List.length p1:Int))then
 zL p1 v5>>=fun x2=>
 e37 qq 5 (Tm.mk zR yA zN) x2>>=fun r4=>
 zFU qq p1 (w64 (v5+1)) r4.k r4.n r4.sub
 else
 some (Tm.mk zR yA zN)
def e13(qq:Nat)(p0:Tm)(p1:List Tm):Option (Tm):=
 zFU qq p1 0 p0.k p0.n p0.sub
theorem zSC:∀qq:Nat,∀p1 v5 zR yA zN,Lz (zFU qq p1 v5 zR yA zN) 0 Tryz.f13 (inn (inn (rgt (lft (rgt (bod Tryz.f13)))))) (fun j=>sp j 19 0 [(1,slv zA p1 .no),(2,.mp 0 0),(4,.mp 1 0),(5,ai v5)]) ⟨[(0,.cells [ai zR,ai yA,slv zA zN .no]),(1,.cells [ai 0,ai 0,slv zA ([]:List Tm) .nl])],2,[],0,[]⟩ (fun r=>tmA r) (fun _=>[]) 0 [.blk 0,.seq (rgt (rgt (bod Tryz.f13)))]:=yW (fun _ _ _ _ _=>lN) fun qq ih=>fun p1 v5 zR yA zN=>lw fun _=>rB 1 (rA 1 (yM (o:=.no)) fun _=>rC 1 [] c37 fun _=>lH 2 [] [0,1] [] [1,2,4,5] (ih _ _ _ _ _))<|lE 2
theorem c13{qq p0 p1}:Cz (e13 qq p0 p1) 13 [] [tmA p0,slv zA p1 .no] (fun r=>tmA r) (fun _=>[]) 0:=fw Tryz.func13<|fH 0 [] [0,1] [] [1,2,4,5] (zSC _ _ _ _ _ _)
def e16(qq:Nat)(p0:Tm)(p1:List Tm):Option (Tm):=
 e13 qq p0 p1>>=fun r1=>
 some r1
theorem c16{qq p0 p1}:Cz (e16 qq p0 p1) 16 [] [tmA p0,slv zA p1 .no] (fun r=>tmA r) (fun _=>[]) 0:=fw Tryz.func16<|rC 1 [] c13 fun _=>fE 1
def e24(qq:Nat)(p0:ByteArray)(p1:Tm)(p2 p3:Int)(p4:List Int):Option (Ent):=
 some (Ent.mk 1 p0 p1 (Tm.mk 0 0 []) 0 0 p2 p3 0 p4 [])
theorem c24{qq p0 p1 p2 p3 p4}:Cz (e24 qq p0 p1 p2 p3 p4) 24 [] [at' p0,tmA p1,ai p2,ai p3,slv zM p4 .no] (fun r=>zQP r) (fun _=>[]) 0:=fw Tryz.func24<|fE 2
def e25(qq:Nat)(p0 p1:Tm):Option (Tm):=
 e37 qq 3 p0 p1>>=fun r1=>
 some r1
theorem c25{qq p0 p1}:Cz (e25 qq p0 p1) 25 [] [tmA p0,tmA p1] (fun r=>tmA r) (fun _=>[]) 0:=fw Tryz.func25<|rC 2 [] c37 fun _=>fE 1
def e26(qq:Nat)(p0:Int):Option (Tm):=
 e38 qq 2 p0>>=fun r1=>
 some r1
theorem c26{qq p0}:Cz (e26 qq p0) 26 [] [ai p0] (fun r=>tmA r) (fun _=>[]) 0:=fw Tryz.func26<|rC 0 [] c38 fun _=>fE 1
def e27(qq:Nat)(p0:Int):Option (Tm):=
 e38 qq 1 p0>>=fun r1=>
 some r1
theorem c27{qq p0}:Cz (e27 qq p0) 27 [] [ai p0] (fun r=>tmA r) (fun _=>[]) 0:=fw Tryz.func27<|rC 0 [] c38 fun _=>fE 1
def e28(qq:Nat)(p0 p1:Tm):Option (Tm):=
 e37 qq 4 p0 p1>>=fun r1=>
 some r1
theorem c28{qq p0 p1}:Cz (e28 qq p0 p1) 28 [] [tmA p0,tmA p1] (fun r=>tmA r) (fun _=>[]) 0:=fw Tryz.func28<|rC 2 [] c37 fun _=>fE 1
def e62(qq:Nat)(p0 p1:Int)(p2:List Tm):Option (Tm):=
 some (Tm.mk p0 p1 p2)
theorem c62{qq p0 p1 p2}:Cz (e62 qq p0 p1 p2) 62 [] [ai p0,ai p1,slv zA p2 .no] (fun r=>tmA r) (fun _=>[]) 0:=fw Tryz.func62<|fE 1
def e29(qq:Nat)(p0 p1:Int):Option (Tm):=
 e26 qq p1>>=fun r1=>
 e62 qq 7 p0 [r1]>>=fun r3=>
 some r3
theorem c29{qq p0 p1}:Cz (e29 qq p0 p1) 29 [] [ai p0,ai p1] (fun r=>tmA r) (fun _=>[]) 0:=fw Tryz.func29<|rC 0 [] c26 fun r1=>rS (oS 0 (yV xH [r1]))<|rC 0 [] c62 fun _=>fE 1
def e30(qq:Nat)(p0:ByteArray)(p1:Tm)(p2 p3 p4:Int):Option (Ent):=
 some (Ent.mk 2 p0 p1 (Tm.mk 0 0 []) p2 p3 p4 0 0 [] [])
theorem c30{qq p0 p1 p2 p3 p4}:Cz (e30 qq p0 p1 p2 p3 p4) 30 [] [at' p0,tmA p1,ai p2,ai p3,ai p4] (fun r=>zQP r) (fun _=>[]) 0:=fw Tryz.func30<|fE 2
def e31(qq:Nat)(p0:ByteArray)(p1:Tm)(p2:Int):Option (Ent):=
 some (Ent.mk 4 p0 p1 (Tm.mk 0 0 []) 14 p2 2 0 0 [] [])
theorem c31{qq p0 p1 p2}:Cz (e31 qq p0 p1 p2) 31 [] [at' p0,tmA p1,ai p2] (fun r=>zQP r) (fun _=>[]) 0:=fw Tryz.func31<|fE 2
def e9(qq:Nat)  : Option (List Ent):=
 e14 qq 0>>=fun r1=>
 e26 qq 0>>=fun r3=>
 e25 qq r3 r3>>=fun r5=>
 e25 qq r3 r5>>=fun r7=>
 e24 qq (⟨#[80,97,105,114]⟩:ByteArray) r7 2 0 [15]>>=fun r9=>
 e14 qq 14>>=fun r11=>
 e27 qq 1>>=fun r13=>
 e27 qq 0>>=fun r15=>
 e16 qq r11 [r13,r15]>>=fun r17=>
 e29 qq 0 0>>=fun r19=>
 e28 qq r1 r1>>=fun r21=>
 e14 qq 2>>=fun r23=>
 e16 qq r23 [r15]>>=fun r25=>
 e28 qq r1 r25>>=fun r27=>
 e28 qq r1 r27>>=fun r29=>
 e16 qq r19 [r21,r15,r29,r13]>>=fun r31=>
 e28 qq r1 r31>>=fun r33=>
 e28 qq r1 r33>>=fun r35=>
 e24 qq (⟨#[78,97,116]⟩:ByteArray) r3 0 0 [1,2]>>=fun r37=>
 e30 qq (⟨#[122,101,114,111]⟩:ByteArray) r1 0 0 0>>=fun r39=>
 e25 qq r1 r1>>=fun r41=>
 e30 qq (⟨#[115,117,99]⟩:ByteArray) r41 0 1 0>>=fun r43=>
 e24 qq (⟨#[66,111,111,108]⟩:ByteArray) r3 0 0 [4,5]>>=fun r45=>
 e14 qq 3>>=fun r47=>
 e30 qq (⟨#[116,114,117,101]⟩:ByteArray) r47 3 0 0>>=fun r49=>
 e30 qq (⟨#[102,97,108,115,101]⟩:ByteArray) r47 3 1 0>>=fun r51=>
 e24 qq (⟨#[76,105,115,116]⟩:ByteArray) r5 1 0 [7,8]>>=fun r53=>
 e14 qq 6>>=fun r55=>
 e16 qq r55 [r15]>>=fun r57=>
 e25 qq r3 r57>>=fun r59=>
 e30 qq (⟨#[110,105,108]⟩:ByteArray) r59 6 0 1>>=fun r61=>
 e16 qq r55 [r13]>>=fun r63=>
 e27 qq 2>>=fun r65=>
 e16 qq r55 [r65]>>=fun r67=>
 e25 qq r63 r67>>=fun r69=>
 e25 qq r15 r69>>=fun r71=>
 e25 qq r3 r71>>=fun r73=>
 e30 qq (⟨#[99,111,110,115]⟩:ByteArray) r73 6 1 1>>=fun r75=>
 e25 qq r1 r3>>=fun r77=>
 e25 qq r3 r77>>=fun r79=>
 e24 qq (⟨#[86,101,99]⟩:ByteArray) r79 1 1 [10,11]>>=fun r81=>
 e14 qq 9>>=fun r83=>
 e14 qq 1>>=fun r85=>
 e16 qq r83 [r15,r85]>>=fun r87=>
 e25 qq r3 r87>>=fun r89=>
 e30 qq (⟨#[118,110,105,108]⟩:ByteArray) r89 9 0 1>>=fun r91=>
 e16 qq r83 [r65,r13]>>=fun r93=>
 e27 qq 3>>=fun r95=>
 e16 qq r23 [r65]>>=fun r97=>
 e16 qq r83 [r95,r97]>>=fun r99=>
 e25 qq r93 r99>>=fun r101=>
 e25 qq r13 r101>>=fun r103=>
 e25 qq r1 r103>>=fun r105=>
 e25 qq r3 r105>>=fun r107=>
 e30 qq (⟨#[118,99,111,110,115]⟩:ByteArray) r107 9 1 1>>=fun r109=>
 e25 qq r13 r3>>=fun r111=>
 e25 qq r15 r111>>=fun r113=>
 e25 qq r3 r113>>=fun r115=>
 e24 qq (⟨#[69,113]⟩:ByteArray) r115 2 1 [13]>>=fun r117=>
 e14 qq 12>>=fun r119=>
 e16 qq r119 [r13,r15,r15]>>=fun r121=>
 e25 qq r15 r121>>=fun r123=>
 e25 qq r3 r123>>=fun r125=>
 e30 qq (⟨#[114,101,102,108]⟩:ByteArray) r125 12 0 2>>=fun r127=>
 e16 qq r11 [r95,r65]>>=fun r129=>
 e25 qq r13 r129>>=fun r131=>
 e25 qq r13 r131>>=fun r133=>
 e25 qq r3 r133>>=fun r135=>
 e25 qq r3 r135>>=fun r137=>
 e30 qq (⟨#[112,97,105,114]⟩:ByteArray) r137 14 0 2>>=fun r139=>
 e25 qq r17 r65>>=fun r141=>
 e25 qq r3 r141>>=fun r143=>
 e25 qq r3 r143>>=fun r145=>
 e31 qq (⟨#[102,115,116]⟩:ByteArray) r145 0>>=fun r147=>
 e25 qq r17 r13>>=fun r149=>
 e25 qq r3 r149>>=fun r151=>
 e25 qq r3 r151>>=fun r153=>
 e31 qq (⟨#[115,110,100]⟩:ByteArray) r153 1>>=fun r155=>
 e24 qq (⟨#[84,114,101,101]⟩:ByteArray) r3 0 0 [19,20]>>=fun r157=>
 e14 qq 18>>=fun r159=>
 e30 qq (⟨#[108,101,97,102]⟩:ByteArray) r159 18 0 0>>=fun r161=>
 e25 qq r1 r159>>=fun r163=>
 e25 qq r163 r159>>=fun r165=>
 e30 qq (⟨#[110,111,100,101]⟩:ByteArray) r165 18 1 0>>=fun r167=>
 e25 qq r1 r41>>=fun r169=>
 e25 qq r15 r13>>=fun r171=>
 e25 qq r3 r171>>=fun r173=>
 e28 qq r15 r15>>=fun r175=>
 e28 qq r3 r175>>=fun r177=>
 some [r37,r39,r43,r45,r49,r51,r53,r61,r75,r81,r91,r109,r117,r127,(Ent.mk r9.kind r9.name r9.type r9.body r9.fam r9.place r9.pars r9.inds r9.level r9.cons [16,17]),r139,r147,r155,r157,r161,r167,(Ent.mk 3 (⟨#[112,108,117,115]⟩:ByteArray) r169 r35 0 0 0 0 0 [] []),(Ent.mk 3 (⟨#[105,100]⟩:ByteArray) r173 r177 0 0 0 0 0 [] [])]
theorem c9{qq}:Cz (e9 qq) 9 [] [] (fun r=>.sl (zD zI r) (List.length r) .no) (fun _=>[]) 0:=fw Tryz.func9<|rC 0 [] c14 fun _=>rH fun _ h4=>rS (oC 1 [] (c26 _ h4))<|rS (oC 0 [] (c26 _ h4))<|rS (oC 0 [] (c26 _ h4))<|rH fun _ h6=>rS (oC 0 [] (c25 _ h6))<|rC 0 [] c25 fun _=>rC 1 [] c24 fun _=>rH fun _ h12=>rS (oC 3 [] (c14 _ h12))<|rH fun r13 h14=>rS (oC 0 [] (c27 _ h14))<|rH fun r15 h16=>rS (oC 0 [] (c27 _ h16))<|rS (oS 0 (yV xH [r13,r15]))<|rC 0 [] c16 fun _=>rC 3 [] c29 fun _=>rC 2 [] c28 fun r21=>rS (oC 0 [] (c27 _ h16))<|rH fun _ h24=>rS (oC 2 [] (c14 _ h24))<|rS (oC 0 [] (c27 _ h16))<|rS (oS 0 (yV xH [r15]))<|rC 0 [] c16 fun _=>rC 0 [] c28 fun _=>rC 0 [] c28 fun r29=>rS (oC 0 [] (c27 _ h14))<|rS (oS 0 (yV xH [r21,r15,r29,r13]))<|rC 0 [] c16 fun _=>rC 0 [] c28 fun _=>rC 0 [] c28 fun _=>rS (oC 1 [] (c26 _ h4))<|rC 1 [] c24 fun _=>rC 1 [] c30 fun _=>rH fun _ h42=>rS (oC 2 [] (c25 _ h42))<|rC 0 [] c30 fun _=>rS (oC 0 [] (c26 _ h4))<|rC 1 [] c24 fun _=>rH fun _ h48=>rS (oC 0 [] (c14 _ h48))<|rC 0 [] c30 fun _=>rS (oC 0 [] (c14 _ h48))<|rC 0 [] c30 fun _=>rS (oC 0 [] (c26 _ h4))<|rS (oC 0 [] (c26 _ h4))<|rS (oC 0 [] (c25 _ h6))<|rC 1 [] c24 fun _=>rS (oC 0 [] (c26 _ h4))<|rH fun _ h56=>rS (oC 0 [] (c14 _ h56))<|rS (oC 0 [] (c27 _ h16))<|rS (oS 0 (yV xH [r15]))<|rC 0 [] c16 fun _=>rC 0 [] c25 fun _=>rC 0 [] c30 fun _=>rS (oC 0 [] (c26 _ h4))<|rS (oC 0 [] (c27 _ h16))<|rS (oC 0 [] (c14 _ h56))<|rS (oC 0 [] (c27 _ h14))<|rS (oS 0 (yV xH [r13]))<|rC 0 [] c16 fun _=>rS (oC 0 [] (c14 _ h56))<|rH fun r65 h66=>rS (oC 0 [] (c27 _ h66))<|rS (oS 0 (yV xH [r65]))<|rC 0 [] c16 fun _=>rC 0 [] c25 fun _=>rC 0 [] c25 fun _=>rC 0 [] c25 fun _=>rC 0 [] c30 fun _=>rS (oC 0 [] (c26 _ h4))<|rS (oC 1 [] (c26 _ h4))<|rC 0 [] c25 fun _=>rC 0 [] c25 fun _=>rC 1 [] c24 fun _=>rS (oC 0 [] (c26 _ h4))<|rH fun _ h84=>rS (oC 0 [] (c14 _ h84))<|rS (oC 0 [] (c27 _ h16))<|rC 0 [] c14 fun r85=>rS (oS 0 (yV xH [r15,r85]))<|rC 0 [] c16 fun _=>rC 0 [] c25 fun _=>rC 0 [] c30 fun _=>rS (oC 0 [] (c26 _ h4))<|rS (oC 1 [] (c27 _ h14))<|rS (oC 0 [] (c14 _ h84))<|rS (oC 0 [] (c27 _ h66))<|rS (oC 0 [] (c27 _ h14))<|rS (oS 0 (yV xH [r65,r13]))<|rC 0 [] c16 fun _=>rS (oC 0 [] (c14 _ h84))<|rH fun r95 h96=>rS (oC 0 [] (c27 _ h96))<|rS (oC 0 [] (c14 _ h24))<|rS (oC 0 [] (c27 _ h66))<|rS (oS 0 (yV xH [r65]))<|rC 0 [] c16 fun r97=>rS (oS 0 (yV xH [r95,r97]))<|rC 0 [] c16 fun _=>rC 0 [] c25 fun _=>rC 0 [] c25 fun _=>rC 0 [] c25 fun _=>rC 0 [] c25 fun _=>rC 0 [] c30 fun _=>rS (oC 0 [] (c26 _ h4))<|rS (oC 0 [] (c27 _ h16))<|rS (oC 0 [] (c27 _ h14))<|rS (oC 0 [] (c26 _ h4))<|rC 0 [] c25 fun _=>rC 0 [] c25 fun _=>rC 0 [] c25 fun _=>rC 1 [] c24 fun _=>rS (oC 0 [] (c26 _ h4))<|rS (oC 0 [] (c27 _ h16))<|rC 0 [] c14 fun _=>rS (oC 0 [] (c27 _ h14))<|rS (oC 0 [] (c27 _ h16))<|rS (oC 0 [] (c27 _ h16))<|rS (oS 0 (yV xH [r13,r15,r15]))<|rC 0 [] c16 fun _=>rC 0 [] c25 fun _=>rC 0 [] c25 fun _=>rC 0 [] c30 fun _=>rS (oC 1 [] (c26 _ h4))<|rS (oC 0 [] (c26 _ h4))<|rS (oC 0 [] (c27 _ h14))<|rS (oC 0 [] (c27 _ h14))<|rS (oC 0 [] (c14 _ h12))<|rS (oC 0 [] (c27 _ h96))<|rS (oC 0 [] (c27 _ h66))<|rS (oS 0 (yV xH [r95,r65]))<|rC 0 [] c16 fun _=>rC 0 [] c25 fun _=>rC 0 [] c25 fun _=>rC 0 [] c25 fun _=>rC 0 [] c25 fun _=>rC 0 [] c30 fun _=>rS (oC 0 [] (c26 _ h4))<|rS (oC 0 [] (c26 _ h4))<|rS (oC 1 [] (c27 _ h66))<|rC 0 [] c25 fun _=>rC 0 [] c25 fun _=>rC 0 [] c25 fun _=>rC 0 [] c31 fun _=>rS (oC 0 [] (c26 _ h4))<|rS (oC 0 [] (c26 _ h4))<|rS (oC 1 [] (c27 _ h14))<|rC 0 [] c25 fun _=>rC 0 [] c25 fun _=>rC 0 [] c25 fun _=>rC 0 [] c31 fun _=>rS (oC 0 [] (c26 _ h4))<|rC 1 [] c24 fun _=>rH fun _ h160=>rS (oC 0 [] (c14 _ h160))<|rC 0 [] c30 fun _=>rS (oC 1 [] (c14 _ h160))<|rC 0 [] c25 fun _=>rS (oC 0 [] (c14 _ h160))<|rC 0 [] c25 fun _=>rC 0 [] c30 fun _=>rS (oC 3 [] (c25 _ h42))<|rC 0 [] c25 fun _=>rS (oC 1 [] (c26 _ h4))<|rS (oC 0 [] (c27 _ h16))<|rS (oC 0 [] (c27 _ h14))<|rC 0 [] c25 fun _=>rC 0 [] c25 fun _=>rS (oC 0 [] (c26 _ h4))<|rS (oC 0 [] (c27 _ h16))<|rS (oC 0 [] (c27 _ h16))<|rC 0 [] c28 fun _=>rC 0 [] c28 fun _=>fE 1
def e5(qq:Nat)(p0:ByteArray)(p1 p2:U8):Option (Bool):=
 if decide ((p0.size:Int)>600)then
 e17 qq>>=fun r2=>
 some r2
 else
 e9 qq>>=fun r4=>
 e18 qq r4 p0 (w64 (p1))>>=fun r6=>
 if r6.2.2==8 then
 if (List.length r6.1:Int)==0 then
 e17 qq>>=fun r10=>
 some r10
 else
 some false
 else
 e18 qq r4 p0 (w64 ((w64 (p1))+(w64 (p2))))>>=fun r12=>
 if r6.2.2==r12.2.2 then
 if r6.2.1==r12.2.1 then
 e10 qq r6.1 r12.1>>=fun r16=>
 if r16 then
 if r6.2.2==0 then
 e17 qq>>=fun r20=>
 some r20
 else
 if (List.length r6.1:Int)==0 then
 e17 qq>>=fun r23=>
 some r23
 else
 some false
 else
 some false
 else
 some false
 else
 some false
theorem c5{qq p0 p1 p2}:Cz (e5 qq p0 p1 p2) 5 [] [at' p0,.val (.int .u8 p1),.val (.int .u8 p2)] (fun r=>ab r) (fun _=>[]) 0:=fw Tryz.func5<|rB 1 (rC 0 [] c17 fun _=>fE 0)<|rH fun _ h5=>rS (oC 0 [] (c9 _ h5))<|rC 1 [] c18 fun _=>rB 3 (rB 1 (rC 0 [] c17 fun _=>fE 0)<|fE 0)<|rS (oC 0 [] (c9 _ h5))<|rC 3 [] c18 fun _=>rB 3 (rB 0 (rK 0 [] c10 (fun _=>rB 0 (rC 0 [] c17 fun _=>fE 0)<|rB 1 (rC 0 [] c17 fun _=>fE 0)<|fE 0) fun _=>fE 0)<|fE 0)<|fE 0
set_option linter.unusedSectionVars false
theorem zFV{α:Type}{f:Nat->Option α}{r:α}(n:Nat)(h:∀q,f (q+n)=some r):Evt f r:=⟨n,fun q hq=>by rw[show q=q-n+n by omega];exact h _⟩
def nW:List Ent:=match e9 300 with|some l=>l|none=>[]
theorem zQo:Evt (fun q=>e9 q) nW:=zFV 300 fun q=>by kernel_rfl
theorem zMU:Evt (fun q=>e47 q nW) true:=zFV 1000 fun q=>by kernel_rfl
theorem g6:nW.length=23:=by kernel_rfl
def zUj(e:Ent):Bool:=xS e.type&&(xS e.body||e.body.sub.isEmpty)&&decide (e.cons.length≤8)&&decide (e.fields.length≤8)
theorem zQn:nW.all zUj=true:=by kernel_rfl
theorem zUi:iL nW:=by
 have h:∀e∈nW,EOk e∧ECl e:=fun e h=>by
  have:=List.all_eq_true.1 zQn e h
  unfold zUj at this
  simp only[Bool.and_eq_true,Bool.or_eq_true,decide_eq_true_eq]at this
  obtain⟨⟨⟨h1,h2⟩,h3⟩,h4⟩:=this
  refine⟨⟨wF _ h1,?_,by omega,by omega⟩,by omega,by omega⟩
  rcases h2 with h2|h2
  ·exact wF _ h2
  ·generalize e.body=b at h2
   obtain⟨k,n,l⟩:=b
   have:l=[]:=by simpa[Tm.sub]using h2
   subst this
   exact nG _ _
 exact⟨fun e he=>(h e he).1,fun e he=>(h e he).2,by rw[g6];omega,zMU⟩
theorem lD:Evt (fun q=>e17 q) true:=zFV 2000 fun q=>by kernel_rfl
theorem zDZ(s:ByteArray)(a b:Int)(h0:0≤a∧a≤255)(h1:0≤b∧b≤255):Evt (fun q=>e5 q s a b) true:=by
  simp only[e5]
  refine Evt.iff (fun _=>lD.bind Evt.ret) fun _=>zQo.bind ?_
  rw[zV (x:=a) (by omega) (by omega),zV (x:=b) (by omega) (by omega),zV (x:=a+b) (by omega) (by omega)]
  obtain⟨⟨D,x,e⟩,hF,hD,-⟩:=zLF s
  dsimp only at hD
  have run:∀f:Int,0≤f->f≤1000->∀z,Evt (fun q=>if (e != 0)=true then some (([]:List Ent),(0:Int),(1:Int))else if ((D.length:Int)==0)=true then some ([],0,1)else zL D 0>>=fun x9=>e42 q nW x9 f 0>>=fun r11=>some (r11.1,r11.2.1,r11.2.2.1)) z->Evt (fun q=>e18 q nW s f) z:=fun f h0 h1 z h=>by
    simp only[e18]
    refine hF.bind ((zPn f h0 (by omega)).bind ?_)
    dsimp only
    by_cases he:(e != 0)=true
    · exact Evt.ifT he (by simp only[if_pos he]at h;exact h)
    · have he':(e != 0)=false:=by simpa using he
      simp only[if_neg he]at h
      exact Evt.ifF he' (Evt.ifF rfl h)
  have same:∀(l:List Ent) (x e:Int),l.length<9223372036854775808->(∀y∈l,EOk y∧ECl y)->(e≠0->l=[])->Evt (fun q=>e18 q nW s a) (l,x,e)->Evt (fun q=>e18 q nW s (a+b)) (l,x,e)->Evt (fun q=>e18 q nW s a>>=fun r6=>if (r6.2.2==8)=true then if ((r6.1.length:Int)==0)=true then e17 q>>=fun r10=>some r10 else some false else e18 q nW s (a+b)>>=fun r12=>if (r6.2.2==r12.2.2)=true then if (r6.2.1==r12.2.1)=true then e10 q r6.1 r12.1>>=fun r16=>if r16=true then if (r6.2.2==0)=true then e17 q>>=fun r20=>some r20 else if ((r6.1.length:Int)==0)=true then e17 q>>=fun r23=>some r23 else some false else some false else some false else some false) true:=fun l x e hl ho hz r1 r2=>by
    refine r1.bind ?_
    dsimp only
    refine Evt.iff (fun h=>Evt.ifT (by rw[hz (fun h0=>absurd ((beq_iff_eq.1 h).symm.trans h0) (by decide))];rfl) (lD.bind Evt.ret)) fun _=>r2.bind ?_
    dsimp only
    refine Evt.ifT (by simp) (Evt.ifT (by simp) ((zQp l hl ho).bind (Evt.ifT rfl (Evt.iff (fun _=>lD.bind Evt.ret) fun h=>Evt.ifT (by rw[hz (by simpa using h)];rfl) (lD.bind Evt.ret)))))
  by_cases he:(e != 0)=true
  · exact same [] 0 1 (by simp) (by simp) (fun _=>rfl) (run a h0.1 (by omega) _ (Evt.ifT he Evt.ret)) (run (a+b) (by omega) (by omega) _ (Evt.ifT he Evt.ret))
  have he':(e != 0)=false:=by simpa using he
  by_cases hn:((D.length:Int)==0)=true
  · exact same [] 0 1 (by simp) (by simp) (fun _=>rfl) (run a h0.1 (by omega) _ (Evt.ifF he' (Evt.ifT hn Evt.ret))) (run (a+b) (by omega) (by omega) _ (Evt.ifF he' (Evt.ifT hn Evt.ret)))
  have hn':((D.length:Int)==0)=false:=by simpa using hn
  obtain⟨d,hd,hm⟩:=sM (l:=D) (i:=0) (by omega) (by rcases Nat.eq_zero_or_pos D.length with h0|h0;exact absurd (by simp[h0]) hn;omega)
  have go:∀f r,0≤f->f≤1000->Evt (fun q=>e42 q nW d f 0) r->Evt (fun q=>e18 q nW s f) (r.1,r.2.1,r.2.2.1):=fun f r h0 h1 h=>run f h0 h1 _ (Evt.ifF he' (Evt.ifF hn' (Evt.pure hd (h.bind Evt.ret))))
  rcases zDW zUi (by rw[g6];omega) d (hD d hm) a h0.1 with⟨R,k,k0,k1,⟨C,x,e,rfl,q1,q2,q3⟩,h3,-⟩|⟨hsh,-⟩
  · have e1:=go a _ h0.1 (by omega) (h3 a 0 k1 (by omega) (by omega))
    have e2:=go (a+b) _ (by omega) (by omega) (h3 (a+b) 0 (by omega) (by omega) (by omega))
    exact same C x e (by omega) q3 q1 e1 e2
  · obtain⟨⟨C,x,e,L,U⟩,hr8,h8⟩:=hsh 0 (by omega) (by omega)
    have e1:=go a _ h0.1 (by omega) hr8
    refine e1.bind ?_
    have hC:C=[]∧e=8:=by
      by_cases hc:C=[]
      · exact⟨hc,by have h:(if C=[]then e else 0)=8:=h8;rw[if_pos hc]at h;exact h⟩
      · have h:(if C=[]then e else 0)=8:=h8
        rw[if_neg hc]at h;omega
    obtain⟨rfl,rfl⟩:=hC
    exact Evt.ifT rfl (Evt.ifT rfl (lD.bind Evt.ret))
theorem zEz(s:ByteArray)(a b:Int)(w1:(Lit.int .u8 a).wf=true)(w2:(Lit.int .u8 b).wf=true):CT Tryz.prog 5 [] [at' s,.val (.int .u8 a),.val (.int .u8 b)] (ab true) [] 0:=by
 have u:∀x:Int,(Lit.int .u8 x).wf=true->0≤x∧x≤255:=fun x h=>by
  simp[Lit.wf,IntKind.min,IntKind.max,IntKind.signed,IntKind.bits]at h
  omega
 obtain⟨q,hq⟩:=(zDZ s a b (u a w1) (u b w2)).at
 exact c5 _ hq
end Go.Proofs.YthncchbcdpbgaaaGreat
namespace Go.Ab
open Go Go.RowKit
def rdG(W:World):Gh:=⟨fun _=>none,fun _=>none,fun b o=>∃v,W.cell? ⟨b,o,none⟩=some v,W,fun b=>b<W.heap.size,fun _=>False⟩
theorem zSD(W:World):yD (rdG W) (yK (Emp 0) (st0 [])) W:=by
 refine⟨fun _=>⟨fun _=>.inr rfl,fun _=>⟨rfl,id⟩,fun e=>e.elim⟩,⟨0,fun _ _=>rfl⟩,fun _ _ _ h=>?_,fun _ _ _ h=>?_,fun _ _ h=>⟨h,fun i e=>by cases e⟩,fun _ _=>rfl,fun _ h=>?_,fun _ _ _ _ _ _ _ h=>?_,wW.refl _ _,fun _ h=>h⟩
 ·cases h
 ·cases h
 ·cases h
 ·cases h
theorem zQm(W:World):lM (0:Nat) (rdG W):=⟨fun _ _=>⟨rfl,id⟩,fun _=>rfl,fun _ _ ⟨_,h⟩=>World.block_lt_of_cell? W _ h,trivial⟩
end Go.Ab
