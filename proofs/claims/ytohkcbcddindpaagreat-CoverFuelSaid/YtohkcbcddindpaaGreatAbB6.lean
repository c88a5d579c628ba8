/- Parts of the proof that the law returns true: walks of the functions, plain laws. -/
import Derived.ChangeArms
import Derived.ChangeShapes
import Derived.KernelRfl
import Derived.LoopIn
import Derived.LoopNIn
import Derived.OwnWalkIn
import Derived.RangeFuncBound
import Derived.RangeFuncBox
import Derived.RangeFuncCalls
import Derived.RangeFuncFrom
import Derived.RangeFuncLeaves
import Derived.RangeFuncNested
import Derived.Shelf.Abstract
import Derived.TacticsInMore
import Derived.Test.YtohkcbcddindpaaGreatChecked
import Derived.WalkKit
import Derived.Test.YtohkcbcddindpaaGreatAbB5
set_option linter.unusedVariables false
set_option linter.unusedSimpArgs false
set_option linter.unusedSectionVars false
namespace Go.Proofs.YtohkcbcddindpaaGreat
open Go Go.Ab Go.Proofs.Tryz
theorem zDO{t:Tm}{N:Int}:¬N∈uT t↔xS (λk n=>k=8->n≠N) t:=⟨λh=>pU.1 λx hx e=>h (e▸hx),λh hx=>pU.2 h N hx rfl⟩
theorem zVp{f:Tm}{l:List Tm}{N:Int}(hf:¬N∈uT f)(hl:∀a∈l,¬N∈uT a):¬N∈uT (nP f l):=zDO.2 (iS l f (λh=>absurd h (by decide)) (zDO.1 hf) λa ha=>zDO.1 (hl a ha))
theorem zCj(so:List zN)(hl:so.length<=1048576)(hs:∀s∈so,s.t_.Ok)(H:∀s∈so,∀r∈so,¬s.n_∈uT r.t_)(N:Int)(hN:∀s∈so,¬N∈uT s.t_):∀(r:List zN)(v:Nat)(x:Tm),so.drop v=r->zF x=true->(∀s∈so.take v,¬s.n_∈uT x)->¬N∈uT x->zG (λq=>bA q so (v:Int) x.k x.n x.sub) λy=>y.1.Ok/\(y.2=0->zF y.1=true/\(∀s∈so,¬s.n_∈uT y.1)/\¬N∈uT y.1)
 |[],v,x,hd,hx,hp,hn=>by
  refine zG.succ ?_;simp only[bA,rD];refine zG.ite (λh=>?_) λ_=>zG.ret ⟨zX hx,λ_=>⟨hx,λs hs=>hp s ?_,hn⟩⟩;·rw[yB hd]at h;cases h
  ·rwa[List.take_of_length_le (List.drop_eq_nil_iff.1 hd)]|s::r,v,x,hd,hx,hp,hn=>by
  have hlt:=yF hd;have hms:s∈so:=List.mem_of_mem_drop (by rw[hd];simp);refine zG.succ ?_;simp only[bA,rD];refine zG.ite (λ_=>zG.pure (zZ hd) ((lR x s.t_ s.n_ (zX hx) (hs s hms)).bind λr9 h9=>zG.ite (λh=>zG.ret ⟨wH 0 0,λh2=>?_⟩) λh=>?_)) λh=>?_
  ·have:r9.2≠0:=by simpa using h
   exact absurd h2 this
  ·have h0:r9.2=0:=by simpa using h
   obtain⟨-,-,-,-,h5,h6⟩:=h9.2.2.1 h0;rw[h6,zW v (by omega)];refine zCj so hl hs H N hN r (v+1) _ (zS hd) h5 (λs' hs' hz=>?_) λhz=>?_
   ·rw[tE hd]at hs';rcases zGs hz with h7|h7
    ·rcases List.mem_append.1 hs' with h8|h8;·exact H s' (List.mem_of_mem_take h8) s hms h7
     ·rw[List.mem_singleton.1 h8]at h7;exact H s hms s hms h7
    ·rcases List.mem_append.1 hs' with h8|h8;·exact hp s' h8 h7.1
     ·rw[List.mem_singleton.1 h8]at h7;exact h7.2 rfl
   ·rcases zGs hz with h7|h7;·exact hN s hms h7
    ·exact hn h7.1
  ·rw[yA hd]at h;cases h
theorem zGM(so:List zN)(hl:so.length<=1048576)(hs:∀s∈so,s.t_.Ok)(H:∀s∈so,∀r∈so,¬s.n_∈uT r.t_)(N:Int)(hN:∀s∈so,¬N∈uT s.t_)(x:Tm)(hx:zF x=true)(hn:¬N∈uT x):zG (λq=>zNs q so x) λy=>y.1.Ok/\(y.2=0->zF y.1=true/\(∀s∈so,¬s.n_∈uT y.1)/\¬N∈uT y.1):=by
 simp only[zNs];refine zG.bind (P:=λb=>b=zF x) ((xI x (zX hx)).tot rfl) λb hb=>zG.ite (λ_=>zG.bind (P:=λy=>y=x) ((tU x (zX hx)).tot (by unfold nO;rw[if_pos hx])) λy hy=>?_) λh=>?_
 ·subst hy;exact zCj so hl hs H N hN _ 0 y rfl hx (λs h=>by cases h) hn
 ·rw[hb,hx]at h;cases h
theorem zKS{a:Tm}{n b:Int}:kV a n (.mk 2 0 []) b=.mk 2 0 []:=by rw[kV,if_neg (by omega),naL]
theorem Un.extra(n0:Int){l:List yL}{c:List zJ}{td:List zI}{so:List zN}{r:Option (List zJ×List zN)}(h:Un l c td so r):Un l c td (⟨n0,.mk 2 0 []⟩::so) (r.map λp=>(p.1,⟨n0,.mk 2 0 []⟩::p.2)):=by induction h with
 |done=>exact .done|@sol c d e td so n t r a b hp f g _ ih=>
  refine .sol a b hp f (λs hs=>?_) ?_
  ·rcases List.mem_cons.1 hs with rfl|hs
   ·show zF (kV t n (.mk 2 0 []) 0)=true;rw[zKS];rfl
   ·exact g s hs
  ·rw[List.map_cons];have e2:naS t n ⟨n0,.mk 2 0 []⟩=⟨n0,.mk 2 0 []⟩:=by unfold naS;rw[zKS]
   rw[e2];exact ih|cyc a b=>exact .cyc a b|conf a b cx cy hn=>exact .conf a b cx cy hn|inj a b cx cy he hp _ ih=>exact .inj a b cx cy he hp ih
theorem eN.startX{l:List yL}{c:List zJ}{td:List zI}{n0:Int}(hc:bR c)(ht:∀w∈c,uH l w.type_)(hm:∀e∈td,uH l e.a_/\uH l e.b_)(h1:∀v∈c,v.n_≠n0/\¬n0∈uT v.type_)(h2:∀e∈td,¬n0∈uT e.a_/\¬n0∈uT e.b_):eN l c td [⟨n0,.mk 2 0 []⟩] (c.length+1):=by
 have hz:∀z,¬z∈uT (Tm.mk 2 0 []):=λz h=>by simp[uT,rY,D4]at h
 have hM:uH l (.mk 2 0 []):=eI.2 ⟨rfl,λj=>zDe (by decide),eD (.inr λh=>by omega)⟩;have key:∀s∈[(⟨n0,.mk 2 0 []⟩:zN)],s=⟨n0,.mk 2 0 []⟩:=λs hs=>List.mem_singleton.1 hs;refine⟨hc,ht,hm,λs hs=>?_,λs hs v hv=>?_,λs hs e he=>?_,λs hs r hr=>?_,by simp,by simp⟩;·rw[key s hs];exact hM
 ·rw[key s hs];exact h1 v hv
 ·rw[key s hs];exact h2 e he
 ·rw[key r hr];exact hz _
def Fu(T fl fu:Int):Prop:=0<=fl/\0<=fu/\fl+fu=T
theorem zGN(c:List zJ)(n:Int)(hl:c.length<=1048576)(hc:bR c):∀(r:List zJ)(v:Nat),c.drop v=r->zG (λq=>mL q c n (v:Int)) λx=>x.1.Ok/\(x.2=0->∃w∈c,w.n_=n/\x.1=w.type_)
 |[],v,hd=>by refine zG.succ ?_;simp only[mL];refine zG.ite (λh=>?_) λ_=>zG.ret ⟨wH 0 0,λh=>by cases h⟩;rw[yB hd]at h;cases h|x::r,v,hd=>by
  have hlt:=yF hd;have hx:x∈c:=List.mem_of_mem_drop (by rw[hd];simp);have hs:=(hc.each x hx).2.2.1;refine zG.succ ?_;simp only[mL];refine zG.ite (λ_=>zG.pure (zZ hd) (zG.ite (λh=>zG.bind (P:=λy=>y=x.type_) ((tU x.type_ (zX hs)).tot (by unfold nO;rw[if_pos hs])) λy hy=>zG.ret ?_) λ_=>?_)) λh=>?_;·subst hy;exact⟨zX hs,λ_=>⟨x,hx,by simpa using h,rfl⟩⟩
  ·rw[zW v (by omega)];exact zGN c n hl hc r (v+1) (zS hd)
  ·rw[yA hd]at h;cases h
section
variable{N:ByteArray->Bool}{l:List yL}(hE:wZ N l)(he:∀e∈l,jL e)(hl:l.length<=65535)(hcl:∀e∈l,ECl e)
include hE he
def zXE(c:List zJ)(n:Int)(r:List zJ×List Tm×Int):Prop:=r.2.2=0->r.1.length<=24/\(∀w∈r.1,w.type_.Ok/\∀v∈c,v.n_<w.n_)/\r.2.1.length<=8192/\∀t∈r.2.1,zF t=true/\((∀v∈r.1,v.n_≠n)->¬n∈uT t)
theorem zCi(c:List zJ)(n L U:Int)(pars inds:List Tm)(r1:tQ×Int)(r10:List zJ×Int)(l17:List Tm)(hr:r1.1.inds.length<=8192)(hi:∀t∈r1.1.inds,t.Ok/\¬n∈uT t)(h24:r10.1.length<=24)(hw:∀w∈r10.1,w.type_.Ok/\∀v∈c,v.n_<w.n_)(hl17:l17.length<=1000000)(ho:∀a∈l17,a.Ok)(hf:∀a∈l17,(∀v∈r10.1,v.n_≠n)->¬n∈uT a):∀(r:List Tm)(v:Nat)(acc:List Tm),r1.1.inds.drop v=r->acc.length<=v->v<=r1.1.inds.length->(∀t∈acc,zF t=true/\((∀v∈r10.1,v.n_≠n)->¬n∈uT t))->zG (λq=>mO q (xB l) l c n L U pars inds r1 r10 l17 acc (v:Int)) (zXE c n)
 |[],v,acc,hd,ha,hvl,hacc=>by
  refine zG.succ ?_;simp only[mO];refine zG.ite (λh=>?_) λ_=>zG.ret λ_=>⟨h24,hw,?_,hacc⟩;·rw[yB hd]at h;cases h
  ·show acc.length<=8192;omega|t::r,v,acc,hd,ha,hvl,hacc=>by
  have hlt:=yF hd;have ht:=hi t (List.mem_of_mem_drop (by rw[hd];simp));refine zG.succ ?_;simp only[mO];refine zG.ite (λ_=>zG.pure (zZ hd) ((N9 t l17 ht.1 hl17 ho).bind λr23 q=>zG.ite (λh=>zG.ret λh2=>?_) λh=>zG.pure (yG (by simp;omega)) ?_)) λh=>?_
  ·have:r23.2≠0:=by simpa using h
   exact absurd h2 this
  ·rw[zW v (by omega)];refine zCi c n L U pars inds r1 r10 l17 hr hi h24 hw hl17 ho hf r (v+1) _ (zS hd) (by simp;omega) hlt λx hx=>?_;rcases List.mem_append.1 hx with hx|hx;·exact hacc x hx
   ·rw[List.mem_singleton.1 hx];have q2:=q.2 (by simpa using h);refine⟨q2.1,λhv hz=>?_⟩;rcases q2.2 n hz with h3|⟨a,ha,h3⟩;·exact ht.2 h3
    ·exact hf a ha hv h3
  ·rw[yA hd]at h;cases h
theorem zNr(hfm:zH (λq=>X3 q l) true)(c:List zJ)(n L U:Int)(pars inds:List Tm)(con:Int)(hc:bR c)(hp8:pars.length<=8192)(hps:∀t∈pars,zF t=true/\¬n∈uT t):zG (λq=>zIU q (xB l) l c n L U pars inds con) (zXE c n):=by
 have hcn:=hc.len;simp only[zIU,zXD,zXc];have no:∀e:Int,e≠0->zG (λ_:Nat=>some (([]:List zJ),([]:List Tm),e)) (zXE c n):=λe h=>zG.ret λh2=>absurd h2 h;have hpo:∀t∈pars,t.Ok:=λt ht=>zX (hps t ht).1;refine zG.bind (P:=λr=>r.2=0->0<=con/\con<l.length/\(zU l con).kind=2/\r.1=vJ l con) ?_ λr1 q1=>zG.ite (λh=>no _ (by simpa using h)) λh=>?_
 ·refine zG.bind (P:=λb=>b=true) (hfm.tot rfl) λb hb=>?_;subst hb;refine zG.ite (λ_=>zG.bind (P:=λb=>b=S7 l con 2) ((zPf l con 2).tot rfl) λb hb=>zG.ite (λh=>?_) λ_=>zG.ret λh=>by cases h) λh=>by cases h
  rw[hb]at h;obtain⟨h1,h2,h3⟩:=tL h;exact zG.bind (P:=λr=>r=vJ l con) ((zFB l con hE h1 h2 h3 he).tot rfl) λr hr=>zG.ret λ_=>⟨h1,h2,h3,hr⟩
 obtain⟨c0,c1,ck,cp⟩:=q1 (by simpa using h);obtain⟨A,y,hw,hy,hA,hAp,hA24,p0,p1,-⟩:=vX hE c0 c1 ck;have hcl:=(xP (hE.2 con c0 c1)).1;have hno:xS (λk x=>k=8->x≠n) (zU l con).type:=sA (λk x h e=>absurd e h.2) (iT hcl);have hws:=jQ hw;have hsp:=G8 A.length (zU l con).type (A,y) hws.1 hws.2 hno;have ey:(xC (zU l con).type)=(A,y,0):=hw;have hargs:r1.1.args=A.drop (zU l con).pars.toNat:=by rw[cp];unfold vJ;rw[ey]
 have hinds:r1.1.inds=(xD y).drop (zU l con).pars.toNat:=by rw[cp];unfold vJ;rw[ey]
 have hyg:=(zM hy).2.2;have hyl:=tS y hyg;have hyn:=(zM hy).1;have hi:∀t∈r1.1.inds,t.Ok/\¬n∈uT t:=λt ht=>by rw[hinds]at ht;have hm:=List.mem_of_mem_drop ht;exact⟨zX (xL hy hm),zDO.2 ((oY y hyg hsp.1).2 t hm)⟩
 refine(zGL r1.1.args pars (by rw[hargs,List.length_drop];omega) (λt ht=>by rw[hargs]at ht;exact zX (hA t (List.mem_of_mem_drop ht))) (by omega) hpo).bind λr4 q4=>zG.ite (λh=>no _ (by simpa using h)) λ_=>?_;have h4l:r4.1.length<=24:=by have:=q4.2;rw[hargs,List.length_drop]at this;omega
 refine(zCk c (by omega) hc _ 0 0 rfl (by omega) (by omega) (λw h=>by cases h)).bind λr7 q7=>zG.ite (λ_=>no 2 (by decide)) λ_=>?_;refine(zRw r4.1 (by omega) q4.1 r7 q7.1).bind λr10 q10=>zG.ite (λh=>no _ (by simpa using h)) λ_=>?_;have hcln:zH (λq=>zIl q pars) pars:=zH.mk λq=>by unfold zIl;exact yG (by simp;omega)
 refine zG.bind (P:=λr=>r=pars) (hcln.tot rfl) λr13 q13=>zG.bind (P:=λr=>r=lU r10.1) ((eU r10.1 (by omega)).tot rfl) λr15 q15=>?_;subst q13;subst q15;have htl:(lU r10.1).length<=24:=by unfold lU;rw[List.length_map];exact q10.2
 refine zG.pure (yG (by omega)) (zCi hE he c n L U r13 inds r1 r10 _ (by rw[hinds,List.length_drop];omega) hi q10.2 (λw hw=>⟨(q10.1 w hw).2,λv hv=>?_⟩) (by simp only[List.length_append];omega) (λa ha=>?_) (λa ha hv=>?_) _ 0 [] rfl (Nat.le_refl _) (Nat.zero_le _) λt h=>by cases h)
 ·have:=(q10.1 w hw).1;have:=q7.2.2 v hv;omega
 ·rcases List.mem_append.1 ha with h|h;·exact hpo a h
  ·exact Y0 _ a h
 ·rcases List.mem_append.1 ha with h|h;·exact(hps a h).2
  ·intro hz;obtain⟨v,hv',e⟩:=zKQ h hz;exact hv v hv' e
include hl hcl
end
def bB:Nat->xG->xQ->Int->Option (Bool)|0,_,_,_=>none|c+1,M,b,a=>if decide (a<(b.length:Int))then zV b a>>=λx5=>zGa c M>>=λr7=>e68 c x5.type_ 0 r7>>=λr9=>if r9 then bB c M b (xF (a+1))else some false else some true
def zUk(c:Nat)(M:xG)(b:xQ):Option (Bool):=e50 c b>>=λr1=>if r1 then bB c M b 0 else some false
theorem zUj:∀c:Nat,∀M b a,Lz (bB c M b a) 2 f189 (pt 4021 f189) (λj=>sp j 27 0 [(0,.mp 0 0),(14,zP zD b .no),(15,ai (b.length:Int)),(16,ai a)]) ⟨[(0,mB M 1),(1,mR M)],2,[],0,[]⟩ (λr=>ab r) (λ_=>[mB M 1,mR M]) 0 [.blk 0,.seq (pt 63 f189)]:=wF (λ_ _ _=>lN) λc ih=>λM b a=>lw λ_=>rB 0 (rA 0 (s8 (o:=.no)) λ_=>rC 3 [0,1] zTY λ_=>rK 0 [] c68 (λ_=>lH 2 [] [0,1] [] [0,14,15,16] (ih _ _ _)) λ_=>lE 1)<|lE 0
theorem yCi{c M b}:Cz (zUk c M b) 189 [mB M 1,mR M] [.mp 0 0,zP zD b .no] (λr=>ab r) (λ_=>[mB M 1,mR M]) 0:=fw func189<|rK 1 [] c50 (λ_=>fH 2 [] [0,1] [] [0,14,15,16] (zUj _ _ _ _)) λ_=>fE 1
def zRu(b:Nat)(M:xG)(a:xQ)(c d e:Int):Option ((Int×Int×Int×Int×xJ×xQ×Int×yV×yV)⊕(Int×Int×Int×Int)):=zUk b M a>>=λr1=>if r1 then e67 b M>>=λr4=>zUm b M r4 a c d e>>=λr6=>some (Sum.inl (r6.1,r6.2.2.2.1,r6.2.2.2.2.1,r6.2.2.2.2.2,r4,a,c,r6.2.1,r6.2.2.1))else some (Sum.inr (0,5,d,e))
theorem zXF{b M a c d e}:Cz (zRu b M a c d e) 151 [mB M 1,mR M,.cells [ai d,ai e]] [.mp 0 0,zP zD a .no,ai c,.mp 2 0] (Sum.elim (λx=>.tup [.mp 3 0,ai x.1,ai x.2.1]) (λx=>.tup [.val (.pointer none),ai x.1,ai x.2.1])) (Sum.elim (λx=>[mB M 1,mR M,.cells [ai x.2.2.1,ai x.2.2.2.1],.cells [.mp 0 0,zP xE x.2.2.2.2.1 .no,zP zD x.2.2.2.2.2.1 .no,ai x.2.2.2.2.2.2.1,.mp 2 0,zP zA x.2.2.2.2.2.2.2.1 .no,zP zA x.2.2.2.2.2.2.2.2 .no]]) (λx=>[mB M 1,mR M,.cells [ai x.2.2.1,ai x.2.2.2]])) 0:=fw func151<|rK 0 [0,1] yCi (λ_=>rC 1 [0,1] c67 λ_=>rC 1 [0,1,2] yCm λ_=>fF 6 [0,1,2,3]) λ_=>fE 1
def zUi(a:Nat)(M:xG)(c:xQ)(d b e f:Int):Option (zR×Int×Int×Int):=zRu a M c d e f>>=λr1=>match r1 with|Sum.inl y3=>if y3.2.1 !=0 then some ((zR.mk 0 false [] [] []),y3.2.1,y3.2.2.1,y3.2.2.2.1)else zV y3.2.2.2.2.1 y3.1>>=λx5=>zGl a x5.cons b>>=λr7=>if r7 then zUl a M y3.2.2.2.2.1 y3.2.2.2.2.2.1 y3.2.2.2.2.2.2.1 y3.2.2.1 y3.2.2.2.1 y3.2.2.2.2.2.2.2.1 y3.2.2.2.2.2.2.2.2 b>>=λr10=>some (r10.1,r10.2.1,r10.2.2.1,r10.2.2.2)else some ((zR.mk 0 false [] [] []),16,y3.2.2.1,y3.2.2.2.1)|Sum.inr y12=>if y12.2.1 !=0 then some ((zR.mk 0 false [] [] []),y12.2.1,y12.2.2.1,y12.2.2.2)else none
theorem yCh{a M c d b e f}:Cz (zUi a M c d b e f) 153 [mB M 1,mR M,.cells [ai e,ai f]] [.mp 0 0,zP zD c .no,ai d,ai b,.mp 2 0] (λr=>.tup [mI r.1,ai r.2.1]) (λr=>[mB M 1,mR M,.cells [ai r.2.2.1,ai r.2.2.2]]) 0:=fw func153<|rC 0 [0,1,2] zXF<|sD (λ_=>rB 3 (fE 1)<|rA 1 (wO (o:=.no)) λ_=>rK 1 [] zQF (λ_=>rC 1 [4,0,1,2] yCj λ_=>fE 3) λ_=>fE 2) λ_=>rB 3 (fE 1) rN
def eV(t:Nat)(s c:Int)(d e:xJ)(f:tR)(g m:yE)(n:xQ)(p q b:Int)(a:List zR):Option (Int×Int×Int×List zR):=if c==0 then zUi t (xG.mk d e f g m) n p s q b>>=λr2=>yZ 88 a [r2.1]>>=λl4=>some (r2.2.1,r2.2.2.1,r2.2.2.2,l4)else some (c,q,b,a)
theorem zRt{t s c d e f g m n p q b a}:Cz (eV t s c d e f g m n p q b a) 152 [.cells [ai c],.cells [.mp 2 0],qB d 3 g m,qR e f,.cells [zP zD n .no],.cells [ai p],.cells [.mp 7 0],.cells [ai q,ai b],.cells [.ms 9 0 a.length a.length 5],.row (zC yT a)] [ai s,.mp 0 0,.mp 1 0,.mp 4 0,.mp 5 0,.mp 6 0,.mp 8 0] (λ_=>.tup []) (λr=>[.cells [ai r.1],.cells [.mp 2 0],qB d 3 g m,qR e f,.cells [zP zD n .no],.cells [ai p],.cells [.mp 7 0],.cells [ai r.2.1,ai r.2.2.1],.cells [.ms 10 0 r.2.2.2.length r.2.2.2.length 5],.dead,.row (zC yT r.2.2.2)]) 0:=fw func152<|rB 1 (rC 4 [2,3,7] yCh λ_=>rW (λh5=>oM 7 (zVQ h5 (by simp))) λ_=>fF 1 [0,1,2,3,4,5,6,7,8,9,11])<|fG 0 [(some 9,0,0)] [0,1,2,3,4,5,6,7,8,9,10] [] false
def nJ:Nat->xG->xQ->Int->yL->Int->Int->Int->Int->(List zR)->Option ((List zR×Int×Int×Int)⊕(List zR×Int×Int×Int))|0,_,_,_,_,_,_,_,_,_=>none|p+1,M,e,f,x5,g,b,c,d,a=>if decide (g<(x5.cons.length:Int))then zV x5.cons g>>=λx8=>eV p x8 d M.l M.rl M.parts M.args M.own e f b c a>>=λr10=>nJ p M e f x5 (xF (g+1)) r10.2.1 r10.2.2.1 r10.1 r10.2.2.2 else if d !=0 then some (Sum.inl ([],d,b,c))else E1 a.length a>>=λl13=>some (Sum.inr (l13,0,b,c))
def zGO(p:Nat)(M:xG)(e:xQ)(f m n:Int):Option ((List zR×Int×Int×Int)⊕(List zR×Int×Int×Int)):=zRu p M e f m n>>=λr1=>match r1 with|Sum.inl y3=>if y3.2.1 !=0 then some (Sum.inl ([],y3.2.1,y3.2.2.1,y3.2.2.2.1))else zV y3.2.2.2.2.1 y3.1>>=λx5=>nJ p M e f x5 0 y3.2.2.1 y3.2.2.2.1 y3.2.1 ([]:List zR)|Sum.inr y7=>if y7.2.1 !=0 then some (Sum.inl ([],y7.2.1,y7.2.2.1,y7.2.2.2))else none
def zNq(j:Nat->Value)(M:xG)(e:xQ)(f:Int)(x5:yL)(g b c d:Int)(a:List zR):=sp j 51 0 [(12,.mp 3 0),(13,.mp 4 0),(14,.clo 152 [] [.mp 3 0,.mp 5 0,.mp 6 0,.mp 7 0,.mp 8 0,.mp 4 0]),(37,zP zY x5.cons .no),(38,ai (x5.cons.length:Int)),(39,ai g)]
def zNp(M:xG)(e:xQ)(f:Int)(x5:yL)(g b c d:Int)(a:List zR):yW:=⟨[(0,mB M 1),(1,mR M),(2,.cells [ai b,ai c]),(3,.cells [ai d]),(4,.cells [.ms 9 0 a.length a.length 5]),(5,.cells [.mp 0 0]),(6,.cells [zP zD e .no]),(7,.cells [ai f]),(8,.cells [.mp 2 0]),(9,.row (zC yT a))],10,[],0,[]⟩
abbrev zIV(M:xG)(e:xQ)(f m n:Int)(r:List zR×Int×Int×Int)(C:Cf):Prop:=C 110 [mB M 1,mR M,.cells [ai m,ai n]] [.mp 0 0,zP zD e .no,ai f,.mp 2 0] (.tup [.sl (zC yT r.1) r.1.length .no,ai r.2.1]) [mB M 1,mR M,.cells [ai r.2.2.1,ai r.2.2.2]] 0
abbrev zIW(M:xG)(e:xQ)(f m n:Int)(r:List zR×Int×Int×Int)(C:Cf):Prop:=C 110 [mB M 1,mR M,.cells [ai m,ai n]] [.mp 0 0,zP zD e .no,ai f,.mp 2 0] (.tup [.ms 3 0 r.1.length r.1.length 5,ai r.2.1]) [mB M 1,mR M,.cells [ai r.2.2.1,ai r.2.2.2],.row (zC yT r.1)] 0
theorem zUh:Qf 110 f110:=⟨func110,by kernel_rfl⟩
theorem zIX{M e f m n r}(h:zIV M e f m n r Ci):zIV M e f m n r Ct:=⟨h,⟨(lz rfl),⟨tv,yC _⟩,tv,(lz rfl),tv⟩,(fMa (lz rfl) (yJ ⟨tv,tv,tv⟩ yO)),⟨uB _,tv,tv⟩,(fMf (lz rfl) (yJ ⟨tv,tv,tv⟩ yO))⟩
theorem zXG{M e f m n r}(h:zIW M e f m n r Ci):zIW M e f m n r Ct:=⟨h,⟨(lz rfl),⟨tv,yC _⟩,tv,(lz rfl),tv⟩,(fMa (lz rfl) (yJ ⟨tv,tv,tv⟩ yO)),⟨(lz rfl),tv,tv⟩,(fMf (lz rfl) (yJ ⟨tv,tv,tv⟩ (yJ (uB _) yO)))⟩
theorem zKT:∀p:Nat,(∀M e f x5 g b c d a r,nJ p M e f x5 g b c d a=some r->(∀j,Dl prog 3 (pt 262069 f110) (zNq j M e f x5 g b c d a) (zNp M e f x5 g b c d a) (vA prog 3 ((match(generalizing:=false)r with|Sum.inl x=>oO prog 3 f110 (.tup [.sl (zC yT x.1) x.1.length .no,ai x.2.1]) [mB M 1,mR M,.cells [ai x.2.2.1,ai x.2.2.2]] 0|Sum.inr x=>oO prog 3 f110 (.tup [.ms 3 0 x.1.length x.1.length 5,ai x.2.1]) [mB M 1,mR M,.cells [ai x.2.2.1,ai x.2.2.2],.row (zC yT x.1)] 0)) [.blk 0,.seq (pt 4095 f110)]))):=by intro p;induction p with|zero=>exactλ_ _ _ _ _ _ _ _ _ _ h=>nn h|succ p ih=>
 intro M e f x5 g b c d a r h;rw[nJ]at h;rcases W4 h with⟨h7,h⟩|⟨h7,h⟩;obtain⟨x8,h9,h⟩:=wP h;obtain⟨r10,h11,h⟩:=wP h;exactλj=>olH 1 [] [0,1,2,3,4,5,6,7,8,10] [] [12,13,14,37,38,39] (oD (dI x5.cons)<|oD (uB r10.2.2.2)<|oD (yC e)<|L2 M<|oC 1 [3,5,0,1,6,7,8,2,4,9] (zRt _ h11)<|oA 0 (gQ (o:=.no) h9)<|oB 0 h7 o0) (ih _ _ _ _ _ _ _ _ _ _ h);have k:=oB 0 h7 o0;rcases W4 h with⟨h12,h⟩|⟨h12,h⟩;obtain rfl:=sj h;exactλj=>olF 1 [0,1,2] (oD (uB ([]:List zR))<|L2 M<|oB 1 h12 k);obtain⟨l13,h14,h⟩:=wP h;obtain⟨h14a,h14b⟩:=sU h14;obtain rfl:=sj h;obtain rfl:=h14a.symm;try dsimp only
 rw[<-h14b];exactλj=>olF 1 [0,1,2,9] (oD (uB a)<|L2 M<|oB 1 h12 k)
theorem yAp{p M e f m n r}(h:zGO p M e f m n=some r):(match(generalizing:=false)r with|Sum.inl x=>zIV M e f m n x Ct|Sum.inr x=>zIW M e f m n x Ct):=by unfold zGO at h;obtain⟨r1,h2,h⟩:=wP h;rcases r1 with y3|y7;dsimp only at h;have k:=oC 4 [0,1,2] (zXF _ h2) o0;rcases W4 h with⟨h4,h⟩|⟨h4,h⟩;obtain rfl:=sj h;exact zIX (tF zUh 1 [0,1,2] (oD (uB ([]:List zR))<|L2 M<|oB 5 h4 k));obtain⟨x5,h6,h⟩:=wP h;rcases r with y0|y1;exact zIX (tH zUh 2 [(some 9,0,4101)] [0,1,2,8,9,3,4,5,6,10] [] [12,13,14,37,38,39] (oD (dI x5.cons)<|oD (uB ([]:List zR))<|oD (yC e)<|L2 M<|oA 1 (wO (o:=.no) h6)<|oB 5 h4 k) (zKT _ _ _ _ _ _ _ _ _ _ _ h));exact zXG (tH zUh 2 [(some 9,0,4101)] [0,1,2,8,9,3,4,5,6,10] [] [12,13,14,37,38,39] (oD (dI x5.cons)<|oD (uB ([]:List zR))<|oD (yC e)<|L2 M<|oA 1 (wO (o:=.no) h6)<|oB 5 h4 k) (zKT _ _ _ _ _ _ _ _ _ _ _ h));dsimp only at h;have k:=oC 4 [0,1,2] (zXF _ h2) o0;obtain⟨h8,h⟩:=spT h;obtain rfl:=sj h;exact zIX (tF zUh 1 [0,1,2] (oD (uB ([]:List zR))<|L2 M<|oB 5 h8 k))
theorem yAo{p M e f m n r}(h:zGO p M e f m n=some r):(match(generalizing:=false)r with|Sum.inl x=>CT prog 110 [mB M 1,mR M,.cells [ai m,ai n]] [.mp 0 0,zP zD e .no,ai f,.mp 2 0] (.tup [.sl (zC yT x.1) x.1.length .no,ai x.2.1]) [mB M 1,mR M,.cells [ai x.2.2.1,ai x.2.2.2]] 0|Sum.inr x=>CT prog 110 [mB M 1,mR M,.cells [ai m,ai n]] [.mp 0 0,zP zD e .no,ai f,.mp 2 0] (.tup [.sl (zC yT x.1) x.1.length .no,ai x.2.1]) [mB M 1,mR M,.cells [ai x.2.2.1,ai x.2.2.2]] 0):=by
 have k:=yAp h;rcases r with y0|y1;·exact k
 ·exact CT.freeze (H1:=[mB M 1,mR M,.cells [ai y1.2.2.1,ai y1.2.2.2]]) (cs:=zC yT y1.1) (res':=(.tup [.sl (zC yT y1.1) y1.1.length .no,ai y1.2.1])) k (Nat.le_of_ble_eq_true rfl) (fMf (lz rfl) (yJ ⟨tv,tv,tv⟩ yO)) (uB _) ⟨(.inl ⟨rfl,rfl⟩),trivial,tv⟩ (by rfl) rfl
theorem yAn{p M e f m n}:Cz (zGO p M e f m n) 110 [mB M 1,mR M,.cells [ai m,ai n]] [.mp 0 0,zP zD e .no,ai f,.mp 2 0] (Sum.elim (λx=>.tup [.sl (zC yT x.1) x.1.length .no,ai x.2.1]) (λx=>.tup [.sl (zC yT x.1) x.1.length .no,ai x.2.1])) (Sum.elim (λx=>[mB M 1,mR M,.cells [ai x.2.2.1,ai x.2.2.2]]) (λx=>[mB M 1,mR M,.cells [ai x.2.2.1,ai x.2.2.2]])) 0:=λr h=>by have k:=yAo h;rcases r with _|_<;>exact k
abbrev StT:=(Int×Int×Int×Int×List yL×List zJ×Int×List Tm×List Tm)⊕(Int×Int×Int×Int)
section
variable{N:ByteArray->Bool}{l:List yL}(hE:wZ N l)(he:∀e∈l,jL e)(hl:l.length<=65535)(hcl:∀e∈l,ECl e)
theorem zAB(c:List zJ)(hl:c.length<=1048576)(ho:∀v∈c,v.type_.Ok):∀(r:List zJ)(v:Nat),c.drop v=r->(∀w∈c.take v,uH l w.type_)->zG (λq=>bB q (xB l) c (v:Int)) λb=>b=true->∀w∈c,uH l w.type_
 |[],v,hd,hm=>by
  refine zG.succ ?_;simp only[bB];refine zG.ite (λh=>?_) λ_=>zG.ret λ_ w hw=>hm w ?_;·rw[yB hd]at h;cases h
  ·rwa[List.take_of_length_le (List.drop_eq_nil_iff.1 hd)]|x::r,v,hd,hm=>by
  have hlt:=yF hd;have hx:=ho x (List.mem_of_mem_drop (by rw[hd];simp));have hLen:zH (λq=>zGa q (xB l)) (l.length:Int):=zH.mk λ_=>rfl;refine zG.succ ?_;simp only[bB];refine zG.ite (λ_=>zG.pure (zZ hd) (zG.bind (P:=λk=>k=(l.length:Int)) (hLen.tot rfl) λk hk=>zG.bind (P:=λb=>b=rQ x.type_ 0 l.length) ((lK x.type_ 0 k hx).tot (by rw[hk])) λb hb=>zG.ite (λh=>?_) λ_=>zG.ret λh=>by cases h)) λh=>?_
  ·rw[zW v (by omega)];refine zAB c hl ho r (v+1) (zS hd) λw hw=>?_;rw[tE hd]at hw;rcases List.mem_append.1 hw with hw|hw;·exact hm w hw
   ·rw[List.mem_singleton.1 hw];rw[hb]at h;exact h
  ·rw[yA hd]at h;cases h
include hE he hl hcl
end
def me3{α:Type}:Me (α×Int×Int×Int):=⟨λr=>r.2.1,λr=>r.2.2.1,λr L=>(r.1,r.2.1,L,r.2.2.2)⟩
def meF:Me (Int×List Tm×List Tm×Int×Int×Int):=⟨λr=>r.2.2.2.1,λr=>r.2.2.2.2.1,λr L=>(r.1,r.2.1,r.2.2.1,r.2.2.2.1,L,r.2.2.2.2.2)⟩
def zRs:Me StT:=⟨λ|.inl x=>x.2.1|.inr x=>x.2.1,λ|.inl x=>x.2.2.1|.inr x=>x.2.2.1,λr L=>match r with|.inl x=>.inl (x.1,x.2.1,L,x.2.2.2)|.inr x=>.inr (x.1,x.2.1,L,x.2.2.2)⟩
def meA:Me ((List zR×Int×Int×Int)⊕(List zR×Int×Int×Int)):=⟨λ|.inl x=>x.2.1|.inr x=>x.2.1,λ|.inl x=>x.2.2.1|.inr x=>x.2.2.1,λr L=>match r with|.inl x=>.inl (x.1,x.2.1,L,x.2.2.2)|.inr x=>.inr (x.1,x.2.1,L,x.2.2.2)⟩
def zAC(l:List yL)(b:zR):Prop:=b.yes_=false\/(b.yes_=true/\bR b.vars_/\(∀w∈b.vars_,uH l w.type_)/\b.solved_.length<=1048576/\∀s∈b.solved_,zF s.t_=true/\∀r∈b.solved_,¬s.n_∈uT r.t_)
def zUg(l:List yL)(_n T F:Int)(r:zR×Int×Int×Int):Prop:=r.2.1=0->zAC l r.1/\Fu T r.2.2.1 r.2.2.2/\r.2.2.1<=F
def zXJ(l:List yL)(c:List zJ)(n T F:Int)(r:Int×List Tm×List Tm×Int×Int×Int):Prop:=r.2.2.2.1=0->n∈c.map (·.n_)/\0<=r.1/\r.1<l.length/\(zU l r.1).cons.length<=16/\r.2.1.length<=8192/\r.2.2.1.length<=8192/\(∀t∈r.2.1,zF t=true/\¬n∈uT t)/\(∀t∈r.2.2.1,zF t=true/\¬n∈uT t)/\Fu T r.2.2.2.2.1 r.2.2.2.2.2/\r.2.2.2.2.1<=F
def StC(l:List yL)(c:List zJ)(n T F:Int)(x:StT):Prop:=(∃d a b,x=.inr (d,5,a,b))\/∃d e fl fu p i,x=.inl (d,e,fl,fu,l,c,n,p,i)/\bR c/\(∀w∈c,uH l w.type_)/\zXJ l c n T F (d,p,i,e,fl,fu)
theorem zXK(L L':Int):∀q M a b c fu d e f g h i j,mO q M a b c L fu d e f g h i j=mO q M a b c L' fu d e f g h i j:=by intro q;induction q with|zero=>intros;rfl|succ q ih=>intros;simp only[mO,ih]
theorem yAm(L L':Int)(q:Nat){M a b c fu d e f}:zIU q M a b c L fu d e f=zIU q M a b c L' fu d e f:=by simp only[zIU,zXK L L']
section
variable{N:ByteArray->Bool}{l:List yL}(hE:wZ N l)(he:∀e∈l,jL e)(hl:l.length<=65535)(hcl:∀e∈l,ECl e)
include hE he
theorem zIY(c:List zJ)(n:Int)(hc:bR c)(hm:∀w∈c,uH l w.type_){L U T:Int}(h0:0<=L)(h1:0<=U)(h2:L+U=T)(hT:T<=100000){d:Int}(hd:0<=d)(hdd:d<=100000):yI d meF (λL q=>zUm q (xB l) l c n L U) L (zXJ l c n T L):=by
 have hcn:=hc.len;simp only[zUm,zQX];have no:∀(e L1 b:Int),e≠0->yI d meF (λL1(_:Nat)=>some ((0:Int),([]:List Tm),([]:List Tm),e,L1,b)) L1 (zXJ l c n T L):=λe a b h=>yI.ret λh2=>absurd h2 h;refine yI.tot (zGN c n (by omega) hc _ 0 rfl) λr1 q1=>yI.ite (λh=>no _ _ _ (by simpa using h)) λh=>?_;obtain⟨w,hw,hwn,hwt⟩:=q1.2 (by simpa using h);have hmw:=hm w hw;have hsw:=(eI.1 hmw).1;refine yI.bind (N4 hE he (x:=r1.1) (by rw[hwt];exact zX hsw) h0 h1 hd (by omega)) (λr _ h8=>zG.ite (λ_=>zG.ret h8) λh=>by have e:r.2.1=8:=h8;rw[e]at h;cases h) λr4 q4=>?_;dsimp only[meB];refine yI.ite (λh=>no _ _ _ (by simpa using h)) λh=>?_;obtain⟨k,k0,k1,hbr,f1,f2⟩:=q4 (by simpa using h);rw[hwt]at hbr;obtain⟨hmy,hfy⟩:=hmw.br hE hbr;have hsy:=(eI.1 hmy).1;have hnf:¬n∈uT r4.1:=λhz=>hc.self w hw (by rw[hwn];exact hfy n hz);refine yI.tot (Q:=λr=>r=(yN r4.1,xD r4.1)) ((lM r4.1 hsy).tot rfl) λr7 q7=>?_;subst q7;have hsp:=zM hsy;have hlen:=tS r4.1 hsp.2.2;refine yI.ite (λ_=>no _ _ _ (by decide)) λh6=>?_;have h6:(yN r4.1).k=6:=by simpa using h6
 have hhd:=(oY r4.1 hsp.2.2 (eI.1 hmy).2.2).1;have hn0:=eH (zM (tZ hsy)).2.2;have hn1:(yN r4.1).n<l.length:=by
  revert hhd h6;generalize yN r4.1=z;obtain⟨k,m,ls⟩:=z;intro h6 hhd;rw[xS]at hhd;rcases hhd.1 with q|q;·have:k=6:=h6;omega
  ·exact q (.inl h6)
 refine yI.pure (yU hn0 hn1) (yI.ite (λ_=>no _ _ _ (by decide)) λhk=>?_);have hk:(zU l (yN r4.1).n).kind=1:=by simpa using hk
 have hf:=vT ((xP (hE.2 _ hn0 hn1)).2.1 hk);rw[yQ (x:=(zU l (yN r4.1).n).pars+(zU l (yN r4.1).n).inds) (by omega) (by omega)];refine yI.ite (λ_=>no _ _ _ (by decide)) λhq=>?_;have hq:((xD r4.1).length:Int)=(zU l (yN r4.1).n).pars+(zU l (yN r4.1).n).inds:=by simpa using hq
 have g1:kE (xD r4.1) 0 (zU l (yN r4.1).n).pars=some ((xD r4.1).take (zU l (yN r4.1).n).pars.toNat):=by unfold kE;rw[if_pos (by omega)];simp
 have g2:kE (xD r4.1) (zU l (yN r4.1).n).pars ((xD r4.1).length:Int)=some ((xD r4.1).drop (zU l (yN r4.1).n).pars.toNat):=qN hf.1 (by omega);refine yI.pure g1 (yI.pure g2 (yI.ret λ_=>?_));have ha:∀t∈xD r4.1,zF t=true/\¬n∈uT t:=λt ht=>⟨xL hsy ht,λhz=>hnf ((hmy.ar ht).2 n hz)⟩;refine⟨List.mem_map.2 ⟨w,hw,hwn⟩,hn0,hn1,hf.2.2.2,?_,?_,λt ht=>ha t (List.mem_of_mem_take ht),λt ht=>ha t (List.mem_of_mem_drop ht),?_⟩;·show((xD r4.1).take _).length<=_;rw[List.length_take];omega
 ·show((xD r4.1).drop _).length<=_;rw[List.length_drop];omega
 ·refine⟨⟨?_,?_,?_⟩,?_⟩;·show 0<=r4.2.2.1;omega
  ·show 0<=r4.2.2.2;omega
  ·show r4.2.2.1+r4.2.2.2=T;omega
  ·show r4.2.2.1<=L;omega
include hl hcl
theorem zIZ(hfm:zH (λq=>X3 q l) true)(c:List zJ)(n:Int)(pars inds:List Tm)(con:Int)(hc:bR c)(hm:∀w∈c,uH l w.type_)(hn:n∈c.map (·.n_))(hp8:pars.length<=8192)(hi8:inds.length<=8192)(hps:∀t∈pars,zF t=true/\¬n∈uT t)(his:∀t∈inds,zF t=true/\¬n∈uT t){L U T:Int}(h0:0<=L)(h1:0<=U)(h2:L+U=T)(hT:T<=100000){d:Int}(hd:0<=d)(hdd:d<=100000):yI d me3 (λL q=>zUl q (xB l) l c n L U pars inds con) L (zUg l n T L):=by
 have hcn:=hc.len;simp only[zUl];have no:∀(e L1 b:Int),e≠0->yI d me3 (λL1(_:Nat)=>some (zR.mk 0 false [] [] [],e,L1,b)) L1 (zUg l n T L):=λe a b h=>yI.ret λh2=>absurd h2 h;refine yI.totL (zNr hE he hfm c n L U pars inds con hc hp8 hps) (λL' q=>yAm L' L q) λr1 q1=>yI.ite (λh=>no _ _ _ (by simpa using h)) λh=>?_;obtain⟨a24,aw,i8,ii⟩:=q1 (by simpa using h);obtain⟨v0,hv0,ev0⟩:=List.mem_map.1 hn;have hne:∀v∈r1.1,v.n_≠n:=λv hv e=>by have:=(aw v hv).2 v0 hv0;have e2:v0.n_=n:=ev0;omega
 have hcon:zH (λq=>zMT q con) (.mk 6 con []):=zH.mk λ_=>rfl;have htl:(lU r1.1).length<=24:=by unfold lU;rw[List.length_map];exact a24
 refine yI.tot (Q:=λr=>r=.mk 6 con []) (hcon.tot rfl) λr4 q4=>yI.tot (Q:=λr=>r=nP r4 pars) ((qL r4 pars (by omega)).tot rfl) λr6 q6=>yI.tot (Q:=λr=>r=lU r1.1) ((eU r1.1 (by omega)).tot rfl) λr8 q8=>yI.tot (Q:=λr=>r=nP r6 r8) ((qL r6 r8 (by rw[q8];omega)).tot rfl) λr10 q10=>?_;subst q4;subst q6;subst q8;have hof:¬n∈uT r10:=by rw[q10];refine zVp (zVp (λh=>by simp[uT,rY,D4]at h) λa ha=>(hps a ha).2) λa ha hz=>?_;obtain⟨v,hv,e⟩:=zKQ ha hz;exact hne v hv e
 have hoo:r10.Ok:=by rw[q10];exact mC _ _ (mC _ _ (wH 6 con) λa ha=>zX (hps a ha).1) (Y0 _)
 refine yI.tot (Q:=λb=>b=zF r10) ((xI r10 hoo).tot rfl) λb hb=>yI.ite (λhsh=>?_) λ_=>no 2 _ _ (by decide);rw[hb]at hsh;have hcln:zH (λq=>zQG q c) c:=zH.mk λq=>by unfold zQG;exact yG (by simp;omega)
 refine yI.tot (Q:=λr=>r=c) (hcln.tot rfl) λr15 q15=>?_;subst q15;refine yI.pure (yG (by omega)) (yI.tot (T7 (c:=r15++r1.1) (by simp only[List.length_append];omega) (λv hv=>?_) n r10 hoo) λr20 q20=>yI.ite (λh=>no _ _ _ (by simpa using h)) λh=>?_)
 ·rcases List.mem_append.1 hv with h|h;·exact zX (hc.each v h).2.2.1
  ·exact(aw v h).1
 obtain⟨hPut,-⟩:=q20 (by simpa using h);have hdl:=hPut.right.len;have hdx:∀v∈r20.1,v.n_≠n/\¬n∈uT v.type_:=λv hv=>by
  obtain⟨w,hw,e1,e2,e3⟩:=hPut.typ v hv;refine⟨by rw[<-e1];exact e2,λhz=>?_⟩;rw[e3]at hz;rcases zGs hz with h|h;·exact hof h
  ·exact h.2 rfl
 refine yI.bind (zIS hE he hl hcl r20.1 r1.2.1 inds (λt ht=>zX (ii t ht).1) (λt ht=>zX (his t ht).1) (by omega) (by omega) (λv hv=>zX (hPut.right.each v hv).2.2.1) L U h0 (by omega) h1 hd (by omega)) (λx q e8=>?_) (λr23 q23=>?_) (by rintro(x|x|x)<;>rfl)
 ·have key:∀e:Int,e=8->(e !=0)=true:=λe h=>by rw[h];rfl
  rcases q with⟨a,e,fl,fu,e0,rfl⟩|⟨-,-,-,-,z5⟩;·exact zG.ite (λ_=>zG.ret e8) λh=>by rw[key e e8]at h;cases h
  ·cases z5 with|@err a e fl fu e0=>exact zG.ite (λ_=>zG.ret e8) λh=>by rw[key e e8]at h;cases h|no hF hU=>exact absurd e8 (show¬(0:Int)=8 by decide)|yes hF hU=>exact absurd e8 (show¬(0:Int)=8 by decide)
 rcases q23 with⟨a,e,fl,fu,e0,rfl⟩|⟨z1,z2,z3,z4,z5⟩
 ·dsimp only[meV];exact yI.ite (λ_=>no _ _ _ e0) λh=>absurd (by simpa using h) e0
 ·have hI:=eN.startX (n0:=n) z1 z4 z3 hdx λe he'=>⟨(ii _ (eO he').1).2 hne,(his _ (eO he').2).2⟩;cases z5 with|err e0=>dsimp only[meV];exact yI.ite (λ_=>no _ _ _ e0) λh=>absurd (by simpa using h) e0|no hF hU=>exact yI.ite (λh=>by cases h) λ_=>yI.ret λ_=>⟨.inl rfl,⟨hF.1,hF.2.1,by rw[<-h2];exact hF.2.2.1⟩,hF.2.2.2⟩|@yes c' so' s k fl fu hF hU=>
   have hJ:=(hU.extra n).inv hE hI c' (⟨n,.mk 2 0 []⟩::so') rfl;have hlen:=hJ.len;have hso:so'.length<=256:=by simp only[List.length_cons]at hlen;omega
   have m0:(⟨n,.mk 2 0 []⟩:zN)∈(⟨n,.mk 2 0 []⟩:zN)::so':=List.mem_cons_self ..;have mm:∀s∈so',s∈(⟨n,.mk 2 0 []⟩:zN)::so':=λs h=>List.mem_cons_of_mem _ h;dsimp only[meV];refine yI.ite (λh=>by cases h) λ_=>yI.tot (zGM so' (by omega) (λs hs=>zX (eI.1 (hJ.sol s (mm s hs))).1) (λs hs r hr=>hJ.os s (mm s hs) r (mm r hr)) n (λs hs=>hJ.os _ m0 s (mm s hs)) r10 hsh hof) λr40 q40=>yI.ite (λh=>no _ _ _ (by simpa using h)) λh=>?_;obtain⟨g1,g2,g3⟩:=q40.2 (by simpa using h);refine yI.pure (yG (by simp;omega)) (yI.tot (Q:=λ_=>True) ?_ λr46 _=>yI.ret λ_=>⟨.inr ⟨rfl,hJ.ctx,hJ.typ,?_,λs hs=>?_⟩,⟨hF.1,hF.2.1,by rw[<-h2];exact hF.2.2.1⟩,hF.2.2.2⟩);·simp only[zGi];exact(mK r1.1 (by omega) _ 0 [] rfl (Nat.zero_le _) rfl).mono λ_ _=>trivial
   ·show(([⟨n,r40.1⟩]:List zN)++so').length<=_;simp;omega
   ·have hs':s=⟨n,r40.1⟩\/s∈so':=by simpa using hs
    have hr':∀r∈([⟨n,r40.1⟩]:List zN)++so',r=⟨n,r40.1⟩\/r∈so':=λr hr=>by simpa using hr
    rcases hs' with rfl|hs'
    ·refine⟨g1,λr hr=>?_⟩;rcases hr' r hr with rfl|hr;·exact g3
     ·exact hJ.os _ m0 r (mm r hr)
    ·refine⟨(eI.1 (hJ.sol s (mm s hs'))).1,λr hr=>?_⟩;rcases hr' r hr with rfl|hr;·exact g2 s hs'
     ·exact hJ.os s (mm s hs') r (mm r hr)
theorem zAD(c:List zJ)(n:Int)(hcn:c.length<=1048576)(ho:∀v∈c,v.type_.Ok){L U T:Int}(h0:0<=L)(h1:0<=U)(h2:L+U=T)(hT:T<=100000){d:Int}(hd:0<=d)(hdd:d<=100000):yI d zRs (λL q=>zRu q (xB l) c n L U) L (StC l c n T L):=by
 have hEnt:zH (λq=>e67 q (xB l)) l:=by simp only[e67];exact((eA l hl he hcl).eq (jM hE)).bind zH.ret
 simp only[zRu];have hR:zG (λq=>zUk q (xB l) c) λb=>b=true->bR c/\∀w∈c,uH l w.type_:=by simp only[zUk];exact(nI (by omega) ho).bind λb hb=>zG.ite (λh=>(zAB c hcn ho _ 0 rfl λw h=>by cases h).mono λb2 h2 h3=>⟨hb h,h2 h3⟩) λ_=>zG.ret λh=>by cases h
 refine yI.tot hR λb hb=>yI.ite (λh=>?_) λ_=>yI.ret (.inl ⟨_,_,_,rfl⟩);obtain⟨hc,hm⟩:=hb h;refine yI.tot (Q:=λr=>r=l) (hEnt.tot rfl) λr4 q4=>?_;subst q4;exact yI.bind (zIY hE he c n hc hm h0 h1 h2 hT hd hdd) (λr _ h8=>zG.ret h8) λr6 q6=>yI.ret (.inr ⟨_,_,_,_,_,_,rfl,hc,hm,q6⟩)
theorem zUf(hfm:zH (λq=>X3 q l) true)(c:List zJ)(n con:Int)(hcn:c.length<=1048576)(ho:∀v∈c,v.type_.Ok){L U T:Int}(h0:0<=L)(h1:0<=U)(h2:L+U=T)(hT:T<=100000){d:Int}(hd:0<=d)(hdd:d<=100000):yI d me3 (λL q=>zUi q (xB l) c n con L U) L (zUg l n T L):=by
 simp only[zUi];have no:∀(e L1 b:Int),e≠0->yI d me3 (λL1(_:Nat)=>some (zR.mk 0 false [] [] [],e,L1,b)) L1 (zUg l n T L):=λe a b h=>yI.ret λh2=>absurd h2 h;refine yI.bind (zAD hE he hl hcl c n hcn ho h0 h1 h2 hT hd hdd) (λx q e8=>?_) (λr1 q1=>?_) (by rintro(x|x)<;>rfl)
 ·rcases q with⟨d,a,b,rfl⟩|⟨d,e,fl,fu,p,i,rfl,hc,hm,hf⟩;·exact absurd e8 (show¬(5:Int)=8 by decide)
  ·exact zG.ite (λ_=>zG.ret e8) λh=>by have e':e=8:=e8;rw[e']at h;cases h
 rcases q1 with⟨d,a,b,rfl⟩|⟨d,e,fl,fu,p,i,rfl,hc,hm,hf⟩;·dsimp only[zRs];exact yI.ite (λ_=>no 5 _ _ (by decide)) λh=>by cases h
 ·dsimp only[zRs];refine yI.ite (λh=>no _ _ _ (by simpa using h)) λh=>?_;have e0:e=0:=by simpa using h
  obtain⟨hn,d0,d1,d16,p8,i8,hp,hi,hF⟩:=hf e0;have hcons:(zU l d).cons.length<=17592186044416:=(hcl _ (nH d0 d1)).1;refine yI.pure (yU d0 d1) (yI.tot (eQ (zU l d).cons con hcons) λb hb=>yI.ite (λhbt=>?_) λ_=>no 16 _ _ (by decide));exact yI.bind (zIZ hE he hl hcl hfm c n p i con hc hm hn p8 i8 hp hi hF.1.1 hF.1.2.1 hF.1.2.2 hT hd hdd) (λr _ h8=>zG.ret h8) λr10 q10=>yI.ret λh0=>⟨(q10 h0).1,(q10 h0).2.1,Int.le_trans (q10 h0).2.2 hF.2⟩
end
def zXL(b:Nat)(a:zR):Option (Bool):=some a.yes_
theorem yCg{b a}:Cz (zXL b a) 150 [] [mI a] (λr=>ab r) (λ_=>[]) 0:=fw func150<|fE 1
def pI:Nat->(List zR)->Int->Option (Int)|0,_,_=>none|b+1,a,c=>if decide (c<(a.length:Int))then zV a c>>=λx2=>zXL b x2>>=λr4=>if r4 then some c else pI b a (xF (c+1))else some (-1)
def zAE(b:Nat)(a:List zR):Option (Int):=pI b a 0
theorem zGP:∀b:Nat,∀a c,Lz (pI b a c) 0 f188 (pt 949 f188) (λj=>sp j 19 0 [(0,zP yT a .no),(1,.clo 150 [] []),(7,ai (a.length:Int)),(8,ai c)]) ⟨[],0,[],0,[]⟩ (λr=>ai r) (λ_=>[]) 0 [.blk 0,.seq (pt 15 f188)]:=wF (λ_ _=>lN) λb ih=>λa c=>lw λ_=>rB 0 (rA 0 (zVz (o:=.no)) λ_=>rK 1 [] yCg (λ_=>lE 0) λ_=>lH 1 [] [] [] [0,1,7,8] (ih _ _))<|lE 0
theorem zRr{b a}:Cz (zAE b a) 188 [] [zP yT a .no,.clo 150 [] []] (λr=>ai r) (λ_=>[]) 0:=fw func188<|fH 1 [] [] [] [0,1,7,8] (zGP _ _ _)
def eW(b:Nat)(a:List zR):Option (Bool):=zAE b a>>=λr1=>some (decide (r1>=0))
theorem zGQ{b a}:Cz (eW b a) 149 [] [zP yT a .no,.clo 150 [] []] (λr=>ab r) (λ_=>[]) 0:=fw func149<|rC 0 [] zRr λ_=>fE 1
def zUe(a:Nat)(M:xG)(b:xQ)(c d e:Int):Option (Bool×Int×Int×Int):=zGO a M b c d e>>=λr1=>match r1 with|Sum.inl y3=>if y3.2.1 !=0 then some (false,y3.2.1,y3.2.2.1,y3.2.2.2)else eW a y3.1>>=λr5=>some (!r5,0,y3.2.2.1,y3.2.2.2)|Sum.inr y7=>if y7.2.1 !=0 then some (false,y7.2.1,y7.2.2.1,y7.2.2.2)else eW a y7.1>>=λr9=>some (!r9,0,y7.2.2.1,y7.2.2.2)
theorem yCf{a M b c d e}:Cz (zUe a M b c d e) 109 [mB M 1,mR M,.cells [ai d,ai e]] [.mp 0 0,zP zD b .no,ai c,.mp 2 0] (λr=>.tup [ab r.1,ai r.2.1]) (λr=>[mB M 1,mR M,.cells [ai r.2.2.1,ai r.2.2.2]]) 0:=fw func109<|rC 0 [0,1,2] yAn<|sD (λ_=>rB 2 (fE 0)<|rC 0 [] zGQ λ_=>fE 1) λ_=>rB 2 (fE 0)<|rC 0 [] zGQ λ_=>fE 1
def AlC(l:List yL)(T F:Int)(x:(List zR×Int×Int×Int)⊕(List zR×Int×Int×Int)):Prop:=(∃e a b,e≠0/\x=.inl ([],e,a,b))\/∃bs a b,bs.length<=65535/\(∀y∈bs,zAC l y)/\Fu T a b/\a<=F/\x=.inr (bs,0,a,b)
theorem zNo(bs:List zR)(hb:bs.length<=65535):zG (λq=>eW q bs) λ_=>True:=by
 have key:∀(r:List zR)(v:Nat),bs.drop v=r->zG (λq=>pI q bs (v:Int)) λ_=>True:=by intro r;induction r with|nil=>intro v hd;refine zG.succ ?_;simp only[pI];refine zG.ite (λh=>?_) λ_=>zG.ret trivial;rw[yB hd]at h;cases h|cons x r ih=>
  intro v hd;have hlt:=yF hd;refine zG.succ ?_;simp only[pI,zXL];refine zG.ite (λ_=>zG.pure (zZ hd) (zG.pure rfl (zG.ite (λ_=>zG.ret trivial) λ_=>?_))) λh=>?_;·rw[zW v (by omega)];exact ih (v+1) (zS hd)
  ·rw[yA hd]at h;cases h
 simp only[eW,zAE];exact(key bs 0 rfl).bind λ_ _=>zG.ret trivial
section
variable{N:ByteArray->Bool}{l:List yL}(hE:wZ N l)(he:∀e∈l,jL e)(hl:l.length<=65535)(hcl:∀e∈l,ECl e)
theorem zGR(c:List zJ)(n:Int)(x5:yL)(hx:x5.cons.length<=65535):∀(r:List Int)(v:Nat)(L U:Int)(bs:List zR),x5.cons.drop v=r->zG (λq=>nJ q (xB l) c n x5 (v:Int) L U 8 bs) λr=>meA.er r=8
 |[],v,L,U,bs,hd=>by
  refine zG.succ ?_;simp only[nJ];refine zG.ite (λh=>?_) λ_=>zG.ite (λ_=>zG.ret rfl) λh=>by cases h
  rw[yB hd]at h;cases h|con::r,v,L,U,bs,hd=>by
  have hlt:=yF hd;refine zG.succ ?_;simp only[nJ,eV];refine zG.ite (λ_=>zG.pure (zZ hd) (zG.bind (P:=λy=>y.1=8) (zG.ite (λh=>by cases h) λ_=>zG.ret rfl) λy hy=>?_)) λh=>?_;·rw[zW v (by omega),hy];exact zGR c n x5 hx r (v+1) _ _ _ (zS hd)
  ·rw[yA hd]at h;cases h
def meX:Me (Int×Int×Int×List zR):=⟨λr=>r.1,λr=>r.2.1,λr L=>(r.1,L,r.2.2)⟩
include hE he hl hcl
theorem zGS(hfm:zH (λq=>X3 q l) true)(c:List zJ)(n:Int)(hcn:c.length<=1048576)(ho:∀v∈c,v.type_.Ok){T F d:Int}(hT:T<=100000)(hd0:0<=d)(hdd:d<=100000)(x5:yL)(hx:x5.cons.length<=65535):∀(r:List Int)(v:Nat)(L U e:Int)(bs:List zR),x5.cons.drop v=r->bs.length<=v->v<=x5.cons.length->(e=0->(Fu T L U/\L<=F)/\∀y∈bs,zAC l y)->yI d meA (λL q=>nJ q (xB l) c n x5 (v:Int) L U e bs) L (AlC l T F)
 |[],v,L,U,e,bs,hd,hb,hvl,hi=>by
  refine yI.succ ?_;simp only[nJ];refine yI.ite (λh=>?_) λ_=>yI.ite (λh=>yI.ret (.inl ⟨e,L,U,by simpa using h,rfl⟩)) λh=>?_;·rw[yB hd]at h;cases h
  ·have e0:e=0:=by simpa using h
   exact yI.pure (a:=bs) (by unfold E1;rw[if_pos rfl]) (yI.ret (.inr ⟨bs,L,U,by omega,(hi e0).2,(hi e0).1.1,(hi e0).1.2,rfl⟩))|con::r,v,L,U,e,bs,hd,hb,hvl,hi=>by
  have hlt:=yF hd;refine yI.succ ?_;simp only[nJ];refine yI.ite (λ_=>yI.pure (zZ hd) ?_) λh=>?_
  ·have step:yI d meX (λL q=>eV q con e l l (lX l l.length 0) (l.map wU) (l.map rR) c n L U bs) L λy=>y.2.2.2.length<=v+1/\(y.1=0->(Fu T y.2.1 y.2.2.1/\y.2.1<=F)/\∀z∈y.2.2.2,zAC l z):=by
    simp only[eV];refine yI.ite (λh=>?_) λh=>yI.ret ⟨by show bs.length<=_;omega,λh0=>?_⟩
    ·obtain⟨hF,hg⟩:=hi (by simpa using h);refine yI.bind (zUf hE he hl hcl hfm c n con hcn ho hF.1.1 hF.1.2.1 hF.1.2.2 hT hd0 hdd) (λr2 _ h8=>zG.pure (yG (by simp;omega)) (zG.ret h8)) λr2 q2=>?_;dsimp only[me3];refine yI.pure (yG (by simp;omega)) (yI.ret ⟨by simp;omega,λh0=>?_⟩);obtain⟨g1,g2,g3⟩:=q2 h0;refine⟨⟨g2,Int.le_trans g3 hF.2⟩,λz hz=>?_⟩;rcases List.mem_append.1 hz with hz|hz;·exact hg z hz
     ·rw[List.mem_singleton.1 hz];exact g1
    ·have h0':e=0:=h0;rw[h0']at h;cases h
   refine yI.bind step (λy _ h8=>?_) λy hy=>?_
   ·have e8:y.1=8:=h8;rw[zW v (by omega),e8];exact zGR c n x5 hx r (v+1) _ _ _ (zS hd)
   ·dsimp only[meX];rw[zW v (by omega)];exact zGS hfm c n hcn ho hT hd0 hdd x5 hx r (v+1) _ _ _ _ (zS hd) hy.1 hlt hy.2
  ·rw[yA hd]at h;cases h
theorem zAF(hfm:zH (λq=>X3 q l) true)(c:List zJ)(n:Int)(hcn:c.length<=1048576)(ho:∀v∈c,v.type_.Ok){L U T d:Int}(h0:0<=L)(h1:0<=U)(h2:L+U=T)(hT:T<=100000)(hd0:0<=d)(hdd:d<=100000):yI d meA (λL q=>zGO q (xB l) c n L U) L (AlC l T L):=by
 simp only[zGO];refine yI.bind (zAD hE he hl hcl c n hcn ho h0 h1 h2 hT hd0 hdd) (λx q e8=>?_) (λr1 q1=>?_) (by rintro(x|x)<;>rfl)
 ·rcases q with⟨d,a,b,rfl⟩|⟨d,e,fl,fu,p,i,rfl,hc,hm,hf⟩;·exact absurd e8 (show¬(5:Int)=8 by decide)
  ·exact zG.ite (λ_=>zG.ret e8) λh=>by have e':e=8:=e8;rw[e']at h;cases h
 rcases q1 with⟨d,a,b,rfl⟩|⟨d,e,fl,fu,p,i,rfl,hc,hm,hf⟩
 ·dsimp only[zRs];exact yI.ite (λ_=>yI.ret (.inl ⟨5,_,_,by decide,rfl⟩)) λh=>by cases h
 ·dsimp only[zRs];refine yI.ite (λh=>yI.ret (.inl ⟨e,_,_,by simpa using h,rfl⟩)) λh=>?_;have e0:e=0:=by simpa using h
  obtain⟨hn,d0,d1,d16,p8,i8,hp,hi,hF⟩:=hf e0;exact yI.pure (yU d0 d1) (zGS hE he hl hcl hfm c n hcn ho hT hd0 hdd (zU l d) (Nat.le_trans d16 (by decide)) _ 0 fl fu e [] rfl (Nat.le_refl _) (Nat.zero_le _) λ_=>⟨hF,λy h=>nomatch h⟩)
theorem zNn(hfm:zH (λq=>X3 q l) true)(c:List zJ)(n:Int)(hcn:c.length<=1048576)(ho:∀v∈c,v.type_.Ok){L U T d:Int}(h0:0<=L)(h1:0<=U)(h2:L+U=T)(hT:T<=100000)(hd0:0<=d)(hdd:d<=100000):yI d me3 (λL q=>zUe q (xB l) c n L U) L λr=>r.2.1=0->Fu T r.2.2.1 r.2.2.2/\r.2.2.1<=L:=by
 simp only[zUe];refine yI.bind (zAF hE he hl hcl hfm c n hcn ho h0 h1 h2 hT hd0 hdd) (λx q e8=>?_) (λr1 q1=>?_) (by rintro(x|x)<;>rfl)
 ·rcases q with⟨e,a,b,e0,rfl⟩|⟨bs,a,b,hb,hg,hF,hFL,rfl⟩;·exact zG.ite (λ_=>zG.ret e8) λh=>by have e':e=8:=e8;rw[e']at h;cases h
  ·exact absurd e8 (show¬(0:Int)=8 by decide)
 rcases q1 with⟨e,a,b,e0,rfl⟩|⟨bs,a,b,hb,hg,hF,hFL,rfl⟩
 ·dsimp only[meA];exact yI.ite (λ_=>yI.ret λh=>absurd h e0) λh=>absurd (by simpa using h) e0
 ·dsimp only[meA];exact yI.ite (λh=>by cases h) λ_=>yI.tot (zNo bs hb) λ_ _=>yI.ret λ_=>⟨hF,hFL⟩
end
mutual def zNm:Nat->zB->Int->Option (Int)|0,_,_=>none|c+1,a,d=>bC c a (xF (d+1)) 0 def bC:Nat->zB->Int->Int->Option (Int)
 |0,_,_,_=>none|c+1,a,e,b=>if decide (b<(a.sub_.length:Int))then zV a.sub_ b>>=λx2=>if decide (e>8192)then some e else zNm c (zB.mk x2.kind_ x2.n_ x2.at_ x2.sub_ x2.t_) e>>=λr5=>bC c a r5 (xF (b+1))else some e end
theorem zGT:∀c:Nat,(∀a d,Cz (zNm c a d) 179 [] [wQ a,ai d] (λr=>ai r) (λ_=>[]) 0)/\(∀a e b,Lz (bC c a e b) 0 f179 (pt 4021 f179) (λj=>sp j 23 0 [(1,ai e),(10,zP zK a.sub_ .no),(11,ai (a.sub_.length:Int)),(12,ai b)]) ⟨[],0,[],0,[]⟩ (λr=>ai r) (λ_=>[]) 0 [.blk 0,.seq (pt 63 f179)]):=wF ⟨λ_ _=>cN,λ_ _ _=>lN⟩ λc ih=>⟨λa d=>fw func179<|fH 3 [] [] [] [1,10,11,12] (ih.2 _ _ _),λa e b=>lw λ_=>rB 0 (rA 0 (zBx (o:=.no)) λ_=>rB 2 (lE 0)<|rC 1 [] (ih.1 _ _) λ_=>lH 1 [] [] [] [1,10,11,12] (ih.2 _ _ _))<|lE 0⟩
theorem yCe{c a d}:Cz (zNm c a d) 179 [] [wQ a,ai d] (λr=>ai r) (λ_=>[]) 0:=(zGT _).1 _ _
def zXM(b:Nat)(a:zB):Option (Int):=zNm b (zB.mk a.kind_ a.n_ a.at_ a.sub_ a.t_) 0>>=λr1=>some r1
theorem yCd{b a}:Cz (zXM b a) 129 [] [wQ a] (λr=>ai r) (λ_=>[]) 0:=fw func129<|rC 1 [] yCe λ_=>fE 0
mutual def zNl:Nat->zB->Int->Option (Int)
 |0,_,_=>none|d+1,b,a=>if decide (a>128)then some a else bD d b a 0 a def bD:Nat->zB->Int->Int->Int->Option (Int)
 |0,_,_,_,_=>none|d+1,b,a,c,e=>if decide (c<(b.sub_.length:Int))then zV b.sub_ c>>=λx3=>zNl d (zB.mk x3.kind_ x3.n_ x3.at_ x3.sub_ x3.t_) (xF (a+1))>>=λr5=>bD d b a (xF (c+1)) (kP e r5)else some e end
theorem zGU:∀d:Nat,(∀b a,Cz (zNl d b a) 130 [] [wQ b,ai a] (λr=>ai r) (λ_=>[]) 0)/\(∀b a c e,Lz (bD d b a c e) 0 f130 (pt 16309 f130) (λj=>sp j 27 0 [(1,ai a),(5,ai e),(13,zP zK b.sub_ .no),(14,ai (b.sub_.length:Int)),(15,ai c)]) ⟨[],0,[],0,[]⟩ (λr=>ai r) (λ_=>[]) 0 [.blk 0,.seq (pt 255 f130)]):=wF ⟨λ_ _=>cN,λ_ _ _ _=>lN⟩ λd ih=>⟨λb a=>fw func130<|rB 0 (fE 0)<|fH 2 [] [] [] [1,5,13,14,15] (ih.2 _ _ _ _),λb a c e=>lw λ_=>rB 0 (rA 0 (zBx (o:=.no)) λ_=>rC 4 [] (ih.1 _ _) λ_=>lH 2 [] [] [] [1,5,13,14,15] (ih.2 _ _ _ _))<|lE 0⟩
theorem yCc{d b a}:Cz (zNl d b a) 130 [] [wQ b,ai a] (λr=>ai r) (λ_=>[]) 0:=(zGU _).1 _ _
def zRq(b:Nat)(a:zB):Option (Bool):=zXM b (zB.mk a.kind_ a.n_ a.at_ a.sub_ a.t_)>>=λr1=>if decide (r1<=8192)then zNl b (zB.mk a.kind_ a.n_ a.at_ a.sub_ a.t_) 1>>=λr4=>some (decide (r4<=128))else some false
theorem yAl{b a}:Cz (zRq b a) 102 [] [wQ a] (λr=>ab r) (λ_=>[]) 0:=fw func102<|rC 1 [] yCd λ_=>rB 0 (rC 1 [] yCc λ_=>fE 1)<|fE 0
def zNk(b:Nat)(a:Tm):Option (Bool):=if a.k==0 then if a.n==0 then some ((a.sub.length:Int)==0)else some false else some false
theorem zXN{b a}:Cz (zNk b a) 131 [] [yY a] (λr=>ab r) (λ_=>[]) 0:=fw func131<|rB 1 (rB 1 (fE 3)<|fE 0)<|fE 0
def J0:Nat->xJ->Int->Int->Int->Int->yV->Option (Int)|0,_,_,_,_,_,_=>none|f+1,e,d,g,a,c,b=>if a==3 then zV b 1>>=λx7=>J0 f e d (xF (g+1)) x7.k x7.n x7.sub else zV e d>>=λx9=>some (xF (g-x9.pars))
def zUd(f:Nat)(e:xJ)(d:Int):Option (Int):=if decide (d<0)then some (-1)else if decide (d>=(e.length:Int))then some (-1)else zV e d>>=λx3=>if x3.kind !=2 then some (-1)else J0 f e d 0 x3.type.k x3.type.n x3.type.sub
theorem zUc:∀f:Nat,∀e d g a c b,Lz (J0 f e d g a c b) 0 f132 (pt 16309 f132) (λj=>sp j 45 0 [(0,zP xE e .no),(1,ai d),(5,ai g),(6,.mp 0 0)]) ⟨[(0,.cells [ai a,ai c,zP zA b .no])],1,[],0,[]⟩ (λr=>ai r) (λ_=>[]) 0 [.blk 0,.seq (pt 255 f132)]:=wF (λ_ _ _ _ _ _=>lN) λf ih=>λe d g a c b=>lw λ_=>rB 1 (rA 4 (wE (o:=.no)) λ_=>lH 2 [] [1] [] [0,1,5,6] (ih _ _ _ _ _ _))<|rA 0 (wO (o:=.no)) λ_=>lE 2
theorem yCb{f e d}:Cz (zUd f e d) 132 [] [zP xE e .no,ai d] (λr=>ai r) (λ_=>[]) 0:=fw func132<|rB 0 (fE 0)<|rB 1 (fE 0)<|rH λ_ h4=>rS (oA 0 (wO (o:=.no) h4))<|rB 1 (fE 0)<|rS (oA 0 (wO (o:=.no) h4))<|fH 2 [] [0] [] [0,1,5,6] (zUc _ _ _ _ _ _ _)
mutual def zAG:Nat->(List zB)->xJ->Option (Bool)|0,_,_=>none|d+1,a,b=>zAH d a b>>=λr1=>some (decide (r1>=0))def zAH:Nat->(List zB)->xJ->Option (Int)|0,_,_=>none|d+1,a,b=>pJ d a b 0 def pJ:Nat->(List zB)->xJ->Int->Option (Int)|0,_,_,_=>none|d+1,a,b,e=>if decide (e<(a.length:Int))then zV a e>>=λx2=>zAI d (zB.mk x2.kind_ x2.n_ x2.at_ x2.sub_ x2.t_) b>>=λr4=>if r4 then some e else pJ d a b (xF (e+1))else some (-1)def zAI:Nat->zB->xJ->Option (Bool)|0,_,_=>none|d+1,a,b=>jX d b (zB.mk a.kind_ a.n_ a.at_ a.sub_ a.t_)>>=λr1=>some (!r1)def jX:Nat->xJ->zB->Option (Bool)
 |0,_,_=>none|d+1,a,c=>if c.kind_==1 then if decide (c.n_>=0)then if decide (c.n_<=1048576)then if(c.sub_.length:Int)==0 then zNk d c.t_>>=λr5=>some r5 else some false else some false else some false else if c.kind_==3 then if c.n_==0 then if(c.sub_.length:Int)==0 then dV d c.t_>>=λr10=>some r10 else some false else some false else if c.kind_==4 then if c.n_==0 then if(c.sub_.length:Int)==0 then zNk d c.t_>>=λr15=>some r15 else some false else some false else if c.kind_==2 then zUd d a c.n_>>=λr18=>if r18 !=(c.sub_.length:Int)then some false else zNk d c.t_>>=λr21=>if r21 then zAG d c.sub_ a>>=λr24=>some (!r24)else some false else some false end
theorem sE:∀d:Nat,(∀a b,Cz (zAG d a b) 133 [.cells [zP xE b .no]] [zP zK a .no,.clo 134 [] [.mp 0 0]] (λr=>ab r) (λ_=>[.cells [zP xE b .no]]) 0)/\(∀a b,Cz (zAH d a b) 180 [.cells [zP xE b .no]] [zP zK a .no,.clo 134 [] [.mp 0 0]] (λr=>ai r) (λ_=>[.cells [zP xE b .no]]) 0)/\(∀a b e,Lz (pJ d a b e) 1 f180 (pt 949 f180) (λj=>sp j 19 0 [(0,zP zK a .no),(1,.clo 134 [] [.mp 0 0]),(7,ai (a.length:Int)),(8,ai e)]) ⟨[(0,.cells [zP xE b .no])],1,[],0,[]⟩ (λr=>ai r) (λ_=>[.cells [zP xE b .no]]) 0 [.blk 0,.seq (pt 15 f180)])/\(∀a b,Cz (zAI d a b) 134 [.cells [zP xE b .no]] [wQ a,.mp 0 0] (λr=>ab r) (λ_=>[.cells [zP xE b .no]]) 0)/\(∀a c,Cz (jX d a c) 103 [] [zP xE a .no,wQ c] (λr=>ab r) (λ_=>[]) 0):=wF ⟨λ_ _=>cN,λ_ _=>cN,λ_ _ _=>lN,λ_ _=>cN,λ_ _=>cN⟩ λd ih=>⟨λa b=>fw func133<|rC 0 [0] (ih.2.1 _ _) λ_=>fE 1,λa b=>fw func180<|fH 1 [] [0] [] [0,1,7,8] (ih.2.2.1 _ _ _),λa b e=>lw λ_=>rB 0 (rA 0 (zBx (o:=.no)) λ_=>rK 1 [0] (ih.2.2.2.1 _ _) (λ_=>lE 0) λ_=>lH 1 [] [0] [] [0,1,7,8] (ih.2.2.1 _ _ _))<|lE 0,λa b=>fw func134<|rC 2 [] (ih.2.2.2.2 _ _) λ_=>fE 1,λa c=>fw func103<|rB 1 (rB 1 (rB 1 (rB 2 (rC 1 [] zXN λ_=>fE 0)<|fE 0)<|fE 0)<|fE 0)<|rB 0 (rB 1 (rB 2 (rC 1 [] aA λ_=>fE 0)<|fE 0)<|fE 0)<|rB 0 (rB 1 (rB 2 (rC 1 [] zXN λ_=>fE 0)<|fE 0)<|fE 0)<|rB 0 (rC 2 [] yCb λ_=>rS (gP 0)<|rB 1 (fE 0)<|rK 1 [] zXN (λ_=>rC 2 [0] (ih.1 _ _) λ_=>fE 1) λ_=>fE 1)<|fE 0⟩
theorem zRp{d a c}:Cz (jX d a c) 103 [] [zP xE a .no,wQ c] (λr=>ab r) (λ_=>[]) 0:=(sE _).2.2.2.2 _ _
mutual def e99:Nat->(List zB)->Option yE|0,_=>none|b+1,a=>B4 b a [] 0 def B4:Nat->(List zB)->yE->Int->Option yE|0,_,_,_=>none|b+1,a,d,c=>if decide (c<(a.length:Int))then zV a c>>=λx2=>zRq b (zB.mk x2.kind_ x2.n_ x2.at_ x2.sub_ x2.t_)>>=λr4=>if r4 then zUb b (zB.mk x2.kind_ x2.n_ x2.at_ x2.sub_ x2.t_)>>=λr7=>yZ 8 d r7>>=λl9=>B4 b a l9 (xF (c+1))else B4 b a d (xF (c+1))else some d def zUb:Nat->zB->Option yE|0,_=>none|b+1,a=>if a.kind_==1 then some [a.n_]else e99 b a.sub_>>=λr2=>some r2 end
theorem zBo:∀b:Nat,(∀a,Cz (e99 b a) 99 [] [zP zK a .no] (λr=>zP zY r (.st 0 1)) (λ_=>[]) 1)/\(∀a d c,Lz (B4 b a d c) 0 f99 (pt 4021 f99) (λj=>sp j 20 0 [(3,zP zY d (.st 0 1)),(6,zP zK a .no),(7,ai (a.length:Int)),(8,ai c)]) ⟨[],0,[0],1,[]⟩ (λr=>zP zY r (.st 0 1)) (λ_=>[]) 1 [.blk 0,.seq (pt 63 f99)])/\(∀a,Cz (zUb b a) 126 [] [wQ a] (λr=>.sl (zC zY r) r.length .no) (λ_=>[]) 0):=wF ⟨λ_=>cN,λ_ _ _=>lN,λ_=>cN⟩ λb ih=>⟨λa=>fw func99<|fH 1 [(none,3,1)] [] [0] [3,6,7,8] (ih.2.1 _ _ _),λa d c=>lw λ_=>rB 0 (rA 0 (zBx (o:=.no)) λ_=>rK 3 [] yAl (λ_=>rC 1 [] (ih.2.2 _) λr7=>rH λ_ h10=>rZ (List.length r7=0) (λh11=>rS (oP 0 (zJO h10 h11))<|lH 1 [] [] [0] [3,6,7,8] (ih.2.1 _ _ _)) λh11=>rS (oP 0 (kI h10 h11))<|lH 1 [] [] [1] [3,6,7,8] (ih.2.1 _ _ _)) λ_=>lH 1 [] [] [0] [3,6,7,8] (ih.2.1 _ _ _))<|lG 0 [] [] [0] true,λa=>fw func126<|rB 1 (fE 2)<|rC 1 [] (ih.1 _) λ_=>fE 0⟩
theorem c99{b a}:Cz (e99 b a) 99 [] [zP zK a .no] (λr=>zP zY r (.st 0 1)) (λ_=>[]) 1:=(zBo _).1 _
def e70(qq:Nat)(p0:List zB):Option Bool:=(e99 qq p0)>>=λl=>if decide (List.length l<4611686018427387904)=true then(e65 qq (wG l))>>=λm=>some ((List.length (uC m):Int)==(List.length (wG l):Int))else none
theorem yAk{qq:Nat}{p0:yE}{r:yE}(h:e65 qq p0=some r):CT prog 65 [] [.sl (zC zY p0) p0.length .no] (.sl (zC zY r) r.length (.st 0 1)) [] 1:=by
 have hr:r=p0:=by have:=(qY h).2;simpa using this
 subst hr;by_cases h1:List.length r=0
 ·have hp:r=[]:=List.length_eq_zero_iff.1 h1;subst hp;exact CT.stampNil (zVx (qq:=qq) (p0:=[]) (.inl ()) rfl)
 ·exact CT.freezeS (zVx (qq:=qq) (p0:=r) (r:=.inr r) (by unfold zKt;rw[if_neg (by simpa using h1),show yZ 8 ([]:yE) r=some r from h];rfl)) (dI _) (vL lA.len _)
section
open Go.RowKit Go.Sort Go.Proofs
theorem V.blind{G G':Gh}{w w':World}{es:List AV}{n:Nat}{o:Go.Ab.Own}{u:Value}(h:V G w (.sl es n o) u):V G' w' (.sl [] n .no) u:=by
 simp only[V]at h⊢;obtain⟨cap,h1,⟨h2,h3,h4,h5,_⟩|⟨b,off,h2,_,_⟩⟩:=h;·exact⟨cap,h1,.inl ⟨trivial,h3,h4,h5,trivial⟩⟩
 ·exact⟨cap,h1,.inr ⟨b,off,h2,by simp only[VC],trivial⟩⟩
theorem zKU{G:Gh}{w:World}{s:yW}{k:Nat}{l:yE}{u:Value}(hR:yK G (yX (vW 0) s) w)(ho:s.own.any (Nat.beq k)=true)(hu:V G w (.sl (zC zY l) l.length (.st k 1)) u):(l=[]/\∃p cap,u=.slice p 0 cap)\/∃b off cap,u=.slice (some ⟨b,off,none⟩) l.length cap/\l.length<=cap/\Holds (Value.int .i64) w b off l.toArray/\b<w.heap.size/\¬G.F b/\(∀i,G.ρ i≠some b)/\∀u',V G w (.sl (zC zY l) l.length (.st k 1)) u'->u'=.slice (some ⟨b,off,none⟩) l.length cap:=by
 have hu0:=hu;simp only[V]at hu;obtain⟨cap,hcap,⟨he,hn,hc0,hu',_⟩|⟨b,off,rfl,hC,hq,hO⟩⟩:=hu;·exact .inl ⟨List.length_eq_zero_iff.1 hn,_,_,hu'⟩
 ·rcases hO with⟨hn,hc⟩|⟨hm,hF,hτ⟩;·exact .inl ⟨List.length_eq_zero_iff.1 hn,_,_,by rw[hn]⟩
  ·by_cases hl:l=[];·exact .inl ⟨hl,_,cap,by rw[hl];rfl⟩
   right;obtain⟨b',f,t,q1,q2⟩:=hR.own k (by rw[sT];exact ho);rw[hτ]at q1;cases q1;have hpos:0<l.length:=List.length_pos_iff.2 hl;rcases q2 with q2|⟨_,q3,_,vs,T,q5,q6⟩;·omega
   obtain⟨us,h1,h2⟩:=VC.cells _ _ _ hC;have hus:=VL.ints_eq l us h1;subst hus;have hH:Holds (Value.int .i64) w b off l.toArray:=by
    intro j hj;have hj':j<l.length:=by simpa using hj
    refine⟨?_,by simp[World.frozen?,q5]⟩;rw[h2 j (by simpa using hj')];simp[hj']
   refine⟨b,off,cap,rfl,hcap,hH,(Array.getElem?_eq_some_iff.1 q5).1,hF,q3,λu' hu'=>?_⟩;simp only[V]at hu';obtain⟨cap',_,⟨_,hn,_⟩|⟨b2,off2,rfl,_,_,hO2⟩⟩:=hu';·omega
   ·rcases hO2 with⟨hn,_⟩|⟨hm2,_,hτ2⟩;·omega
    ·rw[hτ,hm]at hτ2;simp only[Option.some.injEq,Prod.mk.injEq]at hτ2;obtain⟨rfl,h5,h6⟩:=hτ2;obtain rfl:off2=off:=by omega
     obtain rfl:cap'=cap:=by omega
     rfl
theorem O0(l:yE):(wG l).length=l.length:=(lC l).length_eq
theorem zNj{G:Gh}{w:World}{s:yW}{k:Nat}{l:yE}{u:Value}(hR:yK G (yX (vW 0) s) w)(ho:s.own.any (Nat.beq k)=true)(hsz:l.length<4611686018427387904)(hu:V G w (.sl (zC zY l) l.length (.st k 1)) u):Calls prog 100 #[u] w λe w'=>∃(v:Value)(b:Nat)(S:Nat->Nat->Prop),e=.returned v/\¬G.F b/\(∀i,G.ρ i≠some b)/\vQ (λc=>c<w.heap.size/\c≠b) w w'/\(∀c o,S c o->c=b/\∃x,w'.cell? ⟨c,o,none⟩=some x)/\∀G',(∀c o,S c o->G'.L c o)->V G' w' (.val (.tuple #[])) v/\∀u',V G w (.sl (zC zY l) l.length (.st k 1)) u'->V G' w' (.sl (zC zY (wG l)) (wG l).length .no) u':=by
 rcases zKU hR ho hu with⟨rfl,p,cap,rfl⟩|⟨b,off,cap,rfl,hcap,hH,hb,hF,hρ,huniq⟩
 ·refine Calls.mono (AnyM.slices_Sort_int_none Tryz.sortI p cap w) ?_;rintro e w'⟨rfl,rfl⟩;exact⟨_,w'.heap.size,λ_ _=>False,rfl,λh=>Nat.lt_irrefl _ (hR.base _ h),λi hi=>Nat.lt_irrefl _ (hR.ρ_lt hi),vQ.refl _ _,λ_ _ h=>h.elim,λG' _=>⟨by simp only[V],λu' h=>V.blind h⟩⟩
 ·refine Calls.mono (zBa (cap:=cap) hH hb hsz) ?_;rintro e w'⟨rfl,n,os,rfl⟩;have hl:(l.mergeSort λx y=>decide (x<=y)).length=l.length:=List.length_mergeSort _;have hH1:Holds (Value.int .i64) (Sort.grow (putRow (Value.int .i64) (Sort.ahead w n) b off (l.mergeSort λx y=>decide (x<=y)).toArray) os) b off (l.mergeSort λx y=>decide (x<=y)).toArray:=holds_grow _ _ _ _ _ _ (by simpa using hb) (holds_putRow _ _ _ _ l.toArray _ hH (by simp[hl]));rw[gL]at hH1⊢;have hil:=O0 l;have hcell:∀i(h:i<(wG l).length),(Sort.grow (putRow (Value.int .i64) (Sort.ahead w n) b off (wG l).toArray) os).cell? ⟨b,off+i,none⟩=some (.int .i64 (wG l)[i]):=λi h=>by have:=(hH1 i (by simpa using h)).1;rw[this];simp[h]
  refine⟨_,b,λc o=>c=b/\off<=o/\o<off+(wG l).length,rfl,hF,hρ,vQ.trans (vQ.putRow _ w n b off _) ((vQ.grow _ os b).mono λk hk=>⟨by simpa using hk.1,hk.2⟩),?_,λG' hS=>⟨by simp only[V],λu' h=>?_⟩⟩;·rintro c o⟨rfl,h1,h2⟩;exact⟨rfl,.int .i64 ((wG l)[o-off]'(by omega)),by have:=hcell (o-off) (by omega);rwa[show off+(o-off)=o by omega]at this⟩
  ·rw[huniq u' h];simp only[V];refine⟨cap,by omega,.inr ⟨b,off,by rw[hil],VC.of_cells _ _ b off (VL.ints (wG l)) (λi hi=>hS _ _ ⟨rfl,by omega,?_⟩) (λi hi=>?_),trivial⟩⟩
   ·have:i<(wG l).length:=by simpa using hi
    omega
   ·rw[hcell i (by simpa using hi)];simp
theorem zDP{w:World}{p:Option Addr}{cap:Nat}{G:Gh}(hV:V G w (.sl [] 0 .no) (.slice p 0 cap)):Calls prog 101 #[.slice p 0 cap] w λe w'=>∃v,e=.returned v/\(vQ (λc=>c<w.heap.size) w w'/\∀G',V G' w' (.sl [] 0 .no) v):=by
 refine(zUU (atW w) w #[.slice p 0 cap] (zEK w) (zJL w) ?_).mono ?_;·simp only[VL];exact⟨V.none hV,trivial⟩
 ·rintro e w2⟨v,G',s',rfl,hE,hR,hv,_⟩;refine⟨v,rfl,?_,λG'=>V.none hv⟩;have:=hR.below;rw[hE.F,hE.w0]at this;exact this
theorem zDQ{G:Gh}{w:World}{s:yW}{k:Nat}{l:yE}{u:Value}(hR:yK G (yX (vW 0) s) w)(ho:s.own.any (Nat.beq k)=true)(hsz:l.length<4611686018427387904)(hu:V G w (.sl (zC zY l) l.length (.st k 1)) u):Calls prog 101 #[u] w λe w'=>∃(v:Value)(b:Nat)(S:Nat->Nat->Prop),e=.returned v/\¬G.F b/\(∀i,G.ρ i≠some b)/\vQ (λc=>c<w.heap.size/\c≠b) w w'/\(∀c o,S c o->c=b/\∃x,w'.cell? ⟨c,o,none⟩=some x)/\∀G',(∀c o,S c o->G'.L c o)->V G' w' (.sl (zC zY (uC l)) (uC l).length .no) v:=by
 rcases zKU hR ho hu with⟨rfl,p,cap,rfl⟩|⟨b,off,cap,rfl,hcap,hH,hb,hF,hρ,huniq⟩
 ·refine(zDP (G:=G) (V.blind hu)).mono ?_;rintro e w'⟨v,rfl,hK,hv⟩;exact⟨v,w.heap.size,λ_ _=>False,rfl,λh=>Nat.lt_irrefl _ (hR.base _ h),λi hi=>Nat.lt_irrefl _ (hR.ρ_lt hi),hK.mono λk hk=>hk.1,λ_ _ h=>h.elim,λG' _=>hv G'⟩
 ·have hc:=E0 (cap:=cap) hH hsz hcap;have e1:Go.Lib.compactUpTo l.toArray l.toArray.size=uC l:=by have:=iK l l.length (Nat.le_refl _);rw[List.take_length]at this;simpa using this
  rw[e1]at hc;have hcl:=u3 l;refine hc.mono ?_;rintro e w'⟨rfl,q,rfl⟩;have hcell:∀i(h:i<(uC l).length),(putRow (Value.int .i64) (Sort.ahead w q) b off (uC l++List.replicate (l.toArray.size-(uC l).length) 0).toArray).cell? ⟨b,off+i,none⟩=some (.int .i64 (uC l)[i]):=λi h=>by rw[cell?_putRow (Value.int .i64) _ b off l.toArray _ (holds_ahead _ _ _ _ _ _ hH) (by simp;omega) i (by simp;omega)];simp[List.getElem?_append_left h,h]
  refine⟨_,b,λc o=>c=b/\off<=o/\o<off+(uC l).length,rfl,hF,hρ,(vQ.putRow _ w q b off _),?_,λG' hS=>?_⟩;·rintro c o⟨rfl,h1,h2⟩;exact⟨rfl,.int .i64 ((uC l)[o-off]'(by omega)),by have:=hcell (o-off) (by omega);rwa[show off+(o-off)=o by omega]at this⟩
  ·simp only[V];refine⟨cap,Nat.le_trans hcl hcap,.inr ⟨b,off,rfl,VC.of_cells _ _ b off (VL.ints (uC l)) (λi hi=>hS _ _ ⟨rfl,by omega,?_⟩) (λi hi=>?_),trivial⟩⟩
   ·have:i<(uC l).length:=by simpa using hi
    omega
   ·rw[hcell i (by simpa using hi)];simp
end
theorem yCa{qq:Nat}{p0:List zB}{r:Bool}(h:e70 qq p0=some r):CT prog 70 [] [zP zK p0 .no] (ab r) [] 0:=by
 unfold e70 at h;obtain⟨l,h2,h⟩:=wP h;rcases s7 (decide (List.length l<4611686018427387904))with h6|h6
 ·replace h:=ifT h6 h;obtain⟨m,h5,h⟩:=wP h;replace h:=Option.some.inj h;subst h;have hsz:List.length l<4611686018427387904:=by simpa using h6
  have hm:m=wG l:=by have:=(qY h5).2;simpa using this
  have hsm:List.length m<4611686018427387904:=by rw[hm,O0];exact hsz
  refine⟨?_,⟨⟨tv,zEV _⟩,tv⟩,yO,tv,yO⟩;have k0:knd (tI f70)=1:=by kernel_rfl
  have k1:knd (uF (tI f70))=1:=by kernel_rfl
  have k2:knd (uF (uF (tI f70)))=1:=by kernel_rfl
  have k3:D6 (nY (uF (uF (tI f70))))=true:=by kernel_rfl
  have k4:zCZ (vC (nY (uF (uF (tI f70)))))[1]?=some (some 7,100,#[.tmp 6]):=by kernel_rfl
  have k5:(f100.name=="runtime.NumGoroutine")=false:=by kernel_rfl
  have k6:f100.body.isNone=false:=by kernel_rfl
  have k7:knd (uF (uF (uF (tI f70))))=1:=by kernel_rfl
  have k8:D6 (nY (uF (uF (uF (tI f70)))))=true:=by kernel_rfl
  have k9:zCZ (vC (nY (uF (uF (uF (tI f70))))))[2]?=some (some 10,101,#[.tmp 9]):=by kernel_rfl
  have k10:(f101.name=="runtime.NumGoroutine")=false:=by kernel_rfl
  have k11:f101.body.isNone=false:=by kernel_rfl
  have x1:pK prog qJ 3000 (.run (nY (tI f70))) [] ([zP zK p0 .no]++List.replicate (f70.ntmps-1) (.val undef)) (aM []) []=some (.fin .normal,[zP zK p0 .no,.val undef,ab false,.val undef,.val undef,.val undef,.val undef,.val undef,.val undef,.val undef,.val undef,.val undef,.val undef,.val undef,.val undef],⟨[],0,[],0,[]⟩,[],[]):=by kernel_rfl
  have x2:pK prog qJ 3000 (.run (nY (uF (tI f70)))) [] [zP zK p0 .no,.val undef,ab false,.val undef,.val undef,.val undef,.val undef,.val undef,.val undef,.val undef,.val undef,.val undef,.val undef,.val undef,.val undef] ⟨[],0,[],0,[]⟩ [.call [] [] 1 (.sl (zC zY l) l.length (.st 0 1)) none]=some (.fin .normal,[zP zK p0 .no,.val undef,ab false,.sl (zC zY l) l.length (.st 0 1),zP zK p0 .no,.sl (zC zY l) l.length (.st 0 1),.val undef,.val undef,.val undef,.val undef,.val undef,.val undef,.val undef,.val undef,.val undef],⟨[],0,[0],1,[]⟩,[],[.call 99 [] [zP zK p0 .no] (.sl (zC zY l) l.length (.st 0 1)) [] 1]):=by kernel_rfl
  have x3:(bJ prog qJ (vC (nY (uF (uF (tI f70))))) ((vC (nY (uF (uF (tI f70))))).toList.take 1) 0 [zP zK p0 .no,.val undef,ab false,.sl (zC zY l) l.length (.st 0 1),zP zK p0 .no,.sl (zC zY l) l.length (.st 0 1),.val undef,.val undef,.val undef,.val undef,.val undef,.val undef,.val undef,.val undef,.val undef] ⟨[],0,[0],1,[]⟩ []).map Prod.snd=some ([zP zK p0 .no,.val undef,ab false,.sl (zC zY l) l.length (.st 0 1),zP zK p0 .no,.sl (zC zY l) l.length (.st 0 1),.sl (zC zY l) l.length (.st 0 1),.val undef,.val undef,.val undef,.val undef,.val undef,.val undef,.val undef,.val undef],⟨[],0,[0],1,[]⟩,[],[]):=by kernel_rfl
  have x4:∀j:Nat->Value,(bJ prog qJ (vC (nY (uF (uF (tI f70))))) ((vC (nY (uF (uF (tI f70))))).toList.drop 2) 2 (eset (tells [(3,.sl (zC zY (wG l)) (wG l).length .no)] (mutEnv [] j [zP zK p0 .no,.val undef,ab false,.sl (zC zY l) l.length (.st 0 1),zP zK p0 .no,.sl (zC zY l) l.length (.st 0 1),.sl (zC zY l) l.length (.st 0 1),.val undef,.val undef,.val undef,.val undef,.val undef,.val undef,.val undef,.val undef] 0)) (some 7) (.val (.tuple #[]))) (nZ [] ⟨[],0,[0],1,[]⟩) []).map Prod.snd=some ([.val (j 0),.val undef,ab false,.sl (zC zY (wG l)) (wG l).length .no,.val (j 4),.val (j 5),.val (j 6),.val (.tuple #[]),.val undef,.val undef,.val undef,.val undef,.val undef,.val undef,.val undef],⟨[],0,[],0,[]⟩,[],[]):=λj=>by kernel_rfl
  have x5:∀j:Nat->Value,(bJ prog qJ (vC (nY (uF (uF (uF (tI f70)))))) ((vC (nY (uF (uF (uF (tI f70)))))).toList.take 2) 0 [.val (j 0),.val undef,ab false,.sl (zC zY (wG l)) (wG l).length .no,.val (j 4),.val (j 5),.val (j 6),.val (.tuple #[]),.val undef,.val undef,.val undef,.val undef,.val undef,.val undef,.val undef] ⟨[],0,[],0,[]⟩ [.call [] [] 1 (.sl (zC zY m) m.length (.st 0 1)) none]).map Prod.snd=some ([.val (j 0),.val undef,ab false,.sl (zC zY (wG l)) (wG l).length .no,.val (j 4),.val (j 5),.val (j 6),.val (.tuple #[]),.sl (zC zY (wG l)) (wG l).length .no,.sl (zC zY m) m.length (.st 0 1),.val undef,.val undef,.val undef,.val undef,.val undef],⟨[],0,[0],1,[]⟩,[],[.call 65 [] [.sl (zC zY (wG l)) (wG l).length .no] (.sl (zC zY m) m.length (.st 0 1)) [] 1]):=λj=>by kernel_rfl
  have x6:∀j i:Nat->Value,(bJ prog qJ (vC (nY (uF (uF (uF (tI f70)))))) ((vC (nY (uF (uF (uF (tI f70)))))).toList.drop 3) 3 (eset (tells [(3,.sl [] (wG l).length .no)] (mutEnv [] i [.val (j 0),.val undef,ab false,.sl (zC zY (wG l)) (wG l).length .no,.val (j 4),.val (j 5),.val (j 6),.val (.tuple #[]),.sl (zC zY (wG l)) (wG l).length .no,.sl (zC zY m) m.length (.st 0 1),.val undef,.val undef,.val undef,.val undef,.val undef] 0)) (some 10) (.sl (zC zY (uC m)) (uC m).length .no)) (nZ [] ⟨[],0,[0],1,[]⟩) [.no,.no,.no]).map Prod.snd=some ([.val (j 0),.val undef,ab ((List.length (uC m):Int)==(List.length (wG l):Int)),.sl [] (wG l).length .no,.val (j 4),.val (j 5),.val (j 6),.val (.tuple #[]),.val (i 8),.val (i 9),.sl (zC zY (uC m)) (uC m).length .no,ai (uC m).length,.sl [] (wG l).length .no,ai (wG l).length,ab ((List.length (uC m):Int)==(List.length (wG l):Int))],⟨[],0,[],0,[]⟩,[],[]):=λj i=>by kernel_rfl
  have x7:∀j i:Nat->Value,U4 prog qJ 0 f70 3000 (.run (uF (uF (uF (uF (tI f70)))))) [] [.val (j 0),.val undef,ab ((List.length (uC m):Int)==(List.length (wG l):Int)),.sl [] (wG l).length .no,.val (j 4),.val (j 5),.val (j 6),.val (.tuple #[]),.val (i 8),.val (i 9),.sl (zC zY (uC m)) (uC m).length .no,ai (uC m).length,.sl [] (wG l).length .no,ai (wG l).length,ab ((List.length (uC m):Int)==(List.length (wG l):Int))] ⟨[],0,[],0,[]⟩ [] [] [] [] false=some (ab ((List.length (uC m):Int)==(List.length (wG l):Int)),[],[]):=λj i=>by kernel_rfl
  refine uG.body func70 (by kernel_rfl) ?_;refine Dv.seqP k0 ?_;refine nD (Q:=_) wR mixed 3000 (.run (nY (tI f70))) [] _ _ _ _ _ _ _ _ x1 yR.nil ?_;refine Dv.seqP k1 ?_;refine nD (Q:=_) wR mixed 3000 (.run (nY (uF (tI f70)))) [] _ _ _ _ _ _ _ _ x2 (yR.cons (fM (c99 _ h2)) yR.nil) ?_;refine Dv.seqP k2 ?_;obtain⟨id,z7⟩:=zRY k3;rw[z7];refine Dv.mut wR (na:=(0:Nat)) rfl 1 [] [(3,.sl (zC zY (wG l)) (wG l).length .no)] (.val (.tuple #[])) x3 yR.nil k4 func100 k5 k6 (λi X h=>by cases h) ?_ x4 yR.nil ?_
  ·intro G0 W hB G w hE hR u hu;refine(zNj hR (by rfl) hsz hu).mono ?_;rintro e w'⟨v,b,S,z1,z2,z3,z4,z5,z6⟩;refine⟨v,b,S,z1,z2,z3,z4,z5,λG' _ _ hS=>⟨(z6 G' hS).1,λq hq u' hu'=>?_⟩⟩;simp only[List.mem_singleton]at hq;subst hq;exact(z6 G' hS).2 u' hu'
  intro j;refine Dv.seqP k7 ?_;obtain⟨id2,z8⟩:=zRY k8;rw[z8];refine Dv.mut wR (na:=(0:Nat)) rfl 2 [] [(3,.sl [] (wG l).length .no)] (.sl (zC zY (uC m)) (uC m).length .no) (x5 j) (yR.cons (fM (yAk h5)) yR.nil) k9 func101 k10 k11 (λi X h=>by cases h) ?_ (x6 j) yR.nil ?_
  ·intro G0 W hB G w hE hR u hu;refine(zDQ hR (by rfl) hsm hu).mono ?_;rintro e w'⟨v,b,S,z1,z2,z3,z4,z5,z6⟩;refine⟨v,b,S,z1,z2,z3,z4,z5,λG' _ _ hS=>⟨z6 G' hS,λq hq u' hu'=>?_⟩⟩;simp only[List.mem_singleton]at hq;subst hq;exact V.blind hu'
  intro i;exact D1 (na:=(0:Nat)) wR mixed (x7 j i) yR.nil (by decide)
 ·replace h:=ifF h6 h;cases h
theorem c70{qq:Nat}{p0:List zB}:Cz (e70 qq p0) 70 [] [zP zK p0 .no] (λr=>ab r) (λ_=>[]) 0:=λ_ h=>yCa h
theorem mD(p:zB):zB.mk p.kind_ p.n_ p.at_ p.sub_ p.t_=p:=by cases p;rfl
mutual def mE:zB->Prop|.mk _ _ _ sub t=>sub.length<=17592186044416/\kU sub/\t.Ok def kU:List zB->Prop|[]=>True|p::ps=>mE p/\kU ps end
theorem zDR:∀{l:List zB},(∀k∈l,mE k)->kU l|[],_=>trivial|k::l,h=>by rw[kU];exact⟨h k (by simp),zDR λx hx=>h x (by simp[hx])⟩
theorem J1:∀{l:List zB},kU l->∀k∈l,mE k
 |[],_,_,h=>nomatch h|k::l,h,x,hx=>by
  rw[kU]at h;rcases List.mem_cons.1 hx with rfl|hx;·exact h.1
  ·exact J1 h.2 x hx
mutual def ndP:zB->Nat|.mk _ _ _ sub _=>1+sC sub def sC:List zB->Nat|[]=>0|p::ps=>ndP p+sC ps end
theorem zKV(p:zB):ndP p=1+sC p.sub_:=by cases p;rw[ndP];rfl
theorem zAJ:∀{l:List zB}{p:zB},p∈l->ndP p<=sC l
 |[],_,h=>nomatch h|x::l,p,h=>by
  rw[sC];rcases List.mem_cons.1 h with rfl|h;·omega
  ·have:=zAJ h;omega
theorem zAK:∀l:List zB,l.length<=sC l|[]=>by simp|x::l=>by rw[sC,zKV];have:=zAK l;simp;omega
mutual theorem zKW:∀(p:zB)(n:Int),mE p->zG (λq=>zNm q p n) λ_=>True|.mk k n0 a sub t,n,ho=>by rw[mE]at ho;refine zG.succ ?_;simp only[zNm];exact zGV sub (.mk k n0 a sub t) _ 0 rfl ho.2.1 ho.1 theorem zGV:∀(r:List zB)(p:zB)(n:Int)(v:Nat),p.sub_.drop v=r->kU r->p.sub_.length<=17592186044416->zG (λq=>bC q p n (v:Int)) λ_=>True
 |[],p,n,v,hd,ho,hl=>by refine zG.succ ?_;simp only[bC];refine zG.ite (λh=>?_) λ_=>zG.ret trivial;rw[yB hd]at h;cases h|x::r,p,n,v,hd,ho,hl=>by
  have hlt:=yF hd;rw[kU]at ho;refine zG.succ ?_;simp only[bC,mD];refine zG.ite (λ_=>zG.pure (zZ hd) (zG.ite (λ_=>zG.ret trivial) λ_=>(zKW x n ho.1).bind λy _=>?_)) λh=>?_
  ·rw[zW v (by omega)];exact zGV r p y (v+1) (zS hd) ho.2 hl
  ·rw[yA hd]at h;cases h end
mutual theorem zKX:∀(p:zB)(n:Int),mE p->zG (λq=>zNl q p n) λ_=>True|.mk k n0 a sub t,n,ho=>by rw[mE]at ho;refine zG.succ ?_;simp only[zNl];exact zG.ite (λ_=>zG.ret trivial) λ_=>zGW sub (.mk k n0 a sub t) _ _ 0 rfl ho.2.1 ho.1 theorem zGW:∀(r:List zB)(p:zB)(n m:Int)(v:Nat),p.sub_.drop v=r->kU r->p.sub_.length<=17592186044416->zG (λq=>bD q p n (v:Int) m) λ_=>True
 |[],p,n,m,v,hd,ho,hl=>by refine zG.succ ?_;simp only[bD];refine zG.ite (λh=>?_) λ_=>zG.ret trivial;rw[yB hd]at h;cases h|x::r,p,n,m,v,hd,ho,hl=>by
  have hlt:=yF hd;rw[kU]at ho;refine zG.succ ?_;simp only[bD,mD];refine zG.ite (λ_=>zG.pure (zZ hd) ((zKX x _ ho.1).bind λy _=>?_)) λh=>?_
  ·rw[zW v (by omega)];exact zGW r p n _ (v+1) (zS hd) ho.2 hl
  ·rw[yA hd]at h;cases h end
theorem zAL(p:zB)(ho:mE p):zG (λq=>zRq q p) λ_=>True:=by simp only[zRq,zXM,mD];exact zG.bind (P:=λ_=>True) ((zKW p 0 ho).bind λ_ _=>zG.ret trivial) λ_ _=>zG.ite (λ_=>(zKX p 1 ho).bind λ_ _=>zG.ret trivial) λ_=>zG.ret trivial
mutual theorem zNi:∀(p:zB),mE p->ndP p<=100000->zG (λq=>zUb q p) λr=>r.length<=ndP p|.mk k n0 a sub t,ho,hn=>by rw[mE]at ho;rw[ndP]at hn⊢;refine zG.succ ?_;simp only[zUb];refine zG.ite (λ_=>zG.ret (by simp)) λ_=>zG.bind (P:=λr=>r.length<=sC sub) ?_ λr hr=>zG.ret (by omega);refine zG.succ ?_;simp only[e99];exact(gE sub sub 0 [] rfl ho.2.1 (by simp;omega) ho.1).mono λr hr=>by simpa using hr theorem gE:∀(r l:List zB)(v:Nat)(acc:List Int),l.drop v=r->kU r->acc.length+sC r<=100000->l.length<=17592186044416->zG (λq=>B4 q l acc (v:Int)) λo=>o.length<=acc.length+sC r
 |[],l,v,acc,hd,ho,hn,hl=>by refine zG.succ ?_;simp only[B4];refine zG.ite (λh=>?_) λ_=>zG.ret (by omega);rw[yB hd]at h;cases h|x::r,l,v,acc,hd,ho,hn,hl=>by
  have hlt:=yF hd;rw[kU]at ho;rw[sC]at hn⊢;refine zG.succ ?_;simp only[B4,mD];refine zG.ite (λ_=>zG.pure (zZ hd) ((zAL x ho.1).bind λ_ _=>zG.ite (λ_=>(zNi x ho.1 (by omega)).bind λy hy=>zG.pure (yG (by omega)) ?_) λ_=>?_)) λh=>?_
  ·rw[zW v (by omega)];exact(gE r l (v+1) _ (zS hd) ho.2 (by simp;omega) hl).mono λo h=>by simp at h;omega
  ·rw[zW v (by omega)];exact(gE r l (v+1) _ (zS hd) ho.2 (by omega) hl).mono λo h=>by omega
  ·rw[yA hd]at h;cases h end
theorem zNh(l:List zB)(ho:kU l)(hn:sC l<=100000):zG (λq=>e99 q l) λr=>r.length<=sC l:=by have:=zAK l;refine zG.succ ?_;simp only[e99];exact(gE l l 0 [] rfl ho (by simp;omega) (by omega)).mono λr hr=>by simpa using hr
theorem zGX(l:List zB)(ho:kU l)(hn:sC l<=100000):zG (λq=>e70 q l) λ_=>True:=by
 simp only[e70];refine(zNh l ho hn).bind λr hr=>zG.ite (λ_=>?_) λh=>?_
 ·refine zG.bind (P:=λ_=>True) ?_ λ_ _=>zG.ret trivial;have hi:=O0 r;exact zG.mono (P:=λ_=>True) ⟨_,zH.mk λ_=>yG (by simp;omega),trivial⟩ λ_ h=>h
 ·have:=of_decide_eq_false h;omega
def zNg(l:List yL)(n:Int):Int:=if 0<=n/\n<l.length/\(zU l n).kind=2 then uY (zU l n).type-(zU l n).pars else-1
theorem zNf(l:List yL)(n:Int)(h0:0<=n)(h1:n<l.length)(tot:Int)(ht:tot<=8192)(hp:0<=(zU l n).pars/\(zU l n).pars<=24):∀(m:Nat)(t:Tm)(v:Int),t.nodes<=m->xZ t=true->0<=v->v+uY t=tot->zH (λq=>J0 q l n v t.k t.n t.sub) (tot-(zU l n).pars):=by intro m;induction m with|zero=>intro t v h;have:=sX t;omega|succ m ih=>
 intro t v hm hg hv0 hv;refine zH.succ ?_;simp only[J0];by_cases k:t.k=3
 ·obtain⟨x,y,e,hx,hy⟩:=iQ hg k;rw[e]at hv hm⊢;rw[F8]at hv;refine zH.ifT (by simp[Tm.k]) (zH.pure (a:=y) (by simp[zV,Tm.sub]) ?_);rw[yQ (x:=v+1) (by omega) (by omega)];refine ih y (v+1) ?_ hy (by omega) (by omega);rw[Tm.nodes,xU,xU,xU]at hm;have:=sX x;omega
 ·rw[zDm k]at hv;refine zH.ifF (by simp[k]) (zH.pure (yU h0 h1) (zH.ret.eq ?_));rw[yQ (by omega) (by omega)];omega
theorem zRo{N:ByteArray->Bool}{l:List yL}(hE:wZ N l)(n:Int):zH (λq=>zUd q l n) (zNg l n):=by
 simp only[zUd];unfold zNg;by_cases h0:0<=n
 ·by_cases h1:n<l.length
  ·by_cases hk:(zU l n).kind=2
   ·rw[if_pos ⟨h0,h1,hk⟩];have hs:=xP (hE.2 n h0 h1);have hsh:=(zM (qM hs.1));have hp:uY (zU l n).type<=8192:=Nat.le_trans (zBU _ hsh.2.2) hsh.1;obtain⟨A,y,-,-,-,a3,a4,a5,a6,-⟩:=vX hE h0 h1 hk;refine zH.ifF (decide_eq_false (by omega)) (zH.ifF (decide_eq_false (by omega)) (zH.pure (yU h0 h1) (zH.ifF (by simp[hk]) ?_)));exact zNf l n h0 h1 (uY (zU l n).type) (by omega) ⟨a5,by omega⟩ _ _ 0 (Nat.le_refl _) hsh.2.2 (by omega) (by omega)
   ·rw[if_neg λh=>hk h.2.2];exact zH.ifF (decide_eq_false (by omega)) (zH.ifF (decide_eq_false (by omega)) (zH.pure (yU h0 h1) (zH.ifT (by simp[hk]) zH.ret)))
  ·rw[if_neg λh=>h1 h.2.1];exact zH.ifF (decide_eq_false (by omega)) (zH.ifT (decide_eq_true (by omega)) zH.ret)
 ·rw[if_neg λh=>h0 h.1];exact zH.ifT (decide_eq_true (by omega)) zH.ret
mutual def GP(l:List yL):zB->Prop|.mk k n _ sub _=>(k≠1->k≠3->k≠4->k=2/\zNg l n=sub.length)/\GPs l sub def GPs(l:List yL):List zB->Prop|[]=>True|p::ps=>GP l p/\GPs l ps end
theorem zRn{l:List yL}:∀{ps:List zB},GPs l ps->∀k∈ps,GP l k
 |[],_,_,h=>nomatch h|k::ps,h,x,hx=>by
  rw[GPs]at h;rcases List.mem_cons.1 hx with rfl|hx;·exact h.1
  ·exact zRn h.2 x hx
theorem zKY(l:List yL):GPs l []:=by rw[GPs];trivial
theorem O1(t:Tm):zG (λq=>zNk q t) λ_=>True:=by simp only[zNk];exact zG.ite (λ_=>zG.ite (λ_=>zG.ret trivial) λ_=>zG.ret trivial) λ_=>zG.ret trivial
section
variable{N:ByteArray->Bool}{l:List yL}(hE:wZ N l)
include hE
mutual theorem zGY:∀(p:zB),mE p->zG (λq=>jX q l p) λb=>b=true->GP l p
 |.mk k n a sub t,ho=>by
  rw[mE]at ho;have no:∀b:Bool,b=false->(b=true->GP l (.mk k n a sub t)):=λb h h'=>by rw[h]at h';cases h'
  have leaf:sub.length=0->(k=1\/k=3\/k=4)->GP l (.mk k n a sub t):=λh hk=>by have:sub=[]:=List.length_eq_zero_iff.1 h;subst this;rw[GP];exact⟨λa b c=>by omega,zKY l⟩
  refine zG.succ ?_;simp only[jX];refine zG.ite (λh1=>zG.ite (λ_=>zG.ite (λ_=>zG.ite (λhs=>?_) λ_=>zG.ret (no _ rfl)) λ_=>zG.ret (no _ rfl)) λ_=>zG.ret (no _ rfl)) λh1=>zG.ite (λh3=>zG.ite (λ_=>zG.ite (λhs=>?_) λ_=>zG.ret (no _ rfl)) λ_=>zG.ret (no _ rfl)) λh3=>zG.ite (λh4=>zG.ite (λ_=>zG.ite (λhs=>?_) λ_=>zG.ret (no _ rfl)) λ_=>zG.ret (no _ rfl)) λh4=>zG.ite (λh2=>?_) λ_=>zG.ret (no _ rfl)
  ·have e:sub.length=0:=by have:(sub.length:Int)=0:=(by simpa[zB.sub_]using hs);omega
   exact(O1 t).bind λ_ _=>zG.ret λ_=>leaf e (.inl (by simpa[zB.kind_]using h1))
  ·have e:sub.length=0:=by have:(sub.length:Int)=0:=(by simpa[zB.sub_]using hs);omega
   exact zG.bind (P:=λ_=>True) ((xI t ho.2.2).tot trivial) λ_ _=>zG.ret λ_=>leaf e (.inr (.inl (by simpa[zB.kind_]using h3)))
  ·have e:sub.length=0:=by have:(sub.length:Int)=0:=(by simpa[zB.sub_]using hs);omega
   exact(O1 t).bind λ_ _=>zG.ret λ_=>leaf e (.inr (.inr (by simpa[zB.kind_]using h4)))
  ·refine zG.bind (P:=λr=>r=zNg l n) ((zRo hE n).tot rfl) λr hr=>zG.ite (λ_=>zG.ret (no _ rfl)) λhn=>(O1 t).bind λ_ _=>zG.ite (λ_=>?_) λ_=>zG.ret (no _ rfl);have hn':r=(sub.length:Int):=by simpa[zB.sub_]using hn
   refine zG.bind (P:=λb=>b=false->GPs l sub) ?_ λb hb=>zG.ret λh=>?_
   ·refine zG.succ ?_;simp only[zAG];refine zG.bind (P:=λi:Int=>i<0->GPs l sub) ?_ λi hi=>zG.ret λh=>hi (by have:=of_decide_eq_false h;omega);refine zG.succ ?_;simp only[zAH];exact zCh sub sub 0 rfl ho.2.1 ho.1
   ·rw[GP];exact⟨λ_ _ _=>⟨by simpa[zB.kind_]using h2,by rw[<-hr,hn']⟩,hb (by simpa using h)⟩theorem zCh:∀(r ps:List zB)(v:Nat),ps.drop v=r->kU r->ps.length<=17592186044416->zG (λq=>pJ q ps l (v:Int)) λi=>i<0->GPs l r
 |[],ps,v,hd,ho,hl=>by refine zG.succ ?_;simp only[pJ];refine zG.ite (λh=>?_) λ_=>zG.ret λ_=>zKY l;rw[yB hd]at h;cases h|x::r,ps,v,hd,ho,hl=>by
  have hlt:=yF hd;rw[kU]at ho;refine zG.succ ?_;simp only[pJ,mD];refine zG.ite (λ_=>zG.pure (zZ hd) (zG.bind (P:=λb=>b=false->GP l x) ?_ λb hb=>zG.ite (λ_=>zG.ret λh=>by omega) λhf=>?_)) λh=>?_
  ·refine zG.succ ?_;simp only[zAI,mD];exact(zGY x ho.1).bind λb hb=>zG.ret λh=>hb (by simpa using h)
  ·rw[zW v (by omega)];exact(zCh r ps (v+1) (zS hd) ho.2 hl).mono λi hi h=>by rw[GPs];exact⟨hb hf,hi h⟩
  ·rw[yA hd]at h;cases h end
end
def zXP(p:Nat)(f a b g:Bool)(n m:Int)(e:yV)(c d:Nat):Option (Bool):=if f then some true else if a then some true else some b
theorem yCA{p f a b g n m e c d}:Cz (zXP p f a b g n m e c d) 144 [.cells [ab f,ab a,ab b,ab g,ai n,ai m,.ms 1 0 c d 3],.row (zC zA e)] [.mp 0 0] (λr=>ab r) (λ_=>[.cells [ab f,ab a,ab b,ab g,ai n,ai m,.ms 1 0 c d 3],.row (zC zA e)]) 0:=fw func144<|rB 0 (fE 0)<|rB 0 (fE 0)<|fE 1
mutual def zBn:Nat->xG->Int->Int->(List (List zB))->yS->Bool->Bool->Bool->Bool->Int->Int->yV->Nat->Nat->xQ->zB->Tm->Option ((Bool×Bool×Bool×Bool×Int×Int×yV×Nat×Nat)⊕((Bool×Bool×Bool×Int×Int×yV×Nat×Nat)⊕((Bool×Bool×Bool×Int×Int×yV×Nat×Nat)⊕(Bool×Bool×Bool×Int×Int×yV×Nat×Nat))))
 |0,_,_,_,_,_,_,_,_,_,_,_,_,_,_,_,_,_=>none|H+1,M,w,y,d,a,s,q,m,p,u,t,g,e,f,I,v,L=>zXP H s q m p u t g e f>>=λr1=>if r1 then some (Sum.inl (s,q,m,p,u,t,g,e,f))else if v.kind_==3 then some (Sum.inl (s,q,m,p,u,t,g,e,f))else if v.kind_==1 then E1 e g>>=λl6=>yZ 40 l6 [(Tm.mk 0 0 [])]>>=λl8=>pX l8.length (e:Int)>>=λx10=>kR l8 x10 L>>=λx12=>some (Sum.inl (s,q,m,p,u,t,x12,List.length l8,List.length l8))else if L.k==8 then zGi H I>>=λr15=>zGl H r15 L.n>>=λr17=>if r17 then some (Sum.inr (Sum.inl (s,q,(v.kind_==4),L.n,v.at_,g,e,f)))else M8 H M L>>=λr20=>if r20.2.2 then if v.kind_==4 then some (Sum.inr (Sum.inr (Sum.inl (s,m,p,u,v.at_,g,e,f))))else if r20.1 !=v.n_ then some (Sum.inr (Sum.inr (Sum.inr (q,m,p,u,t,g,e,f))))else sQ H M w y d a I v r20.1 r20.2.1 0 s q m p u t f e g else some (Sum.inr (Sum.inr (Sum.inl (s,m,p,u,v.at_,g,e,f))))else M8 H M L>>=λr25=>if r25.2.2 then if v.kind_==4 then some (Sum.inr (Sum.inr (Sum.inl (s,m,p,u,v.at_,g,e,f))))else if r25.1 !=v.n_ then some (Sum.inr (Sum.inr (Sum.inr (q,m,p,u,t,g,e,f))))else sQ H M w y d a I v r25.1 r25.2.1 0 s q m p u t f e g else some (Sum.inr (Sum.inr (Sum.inl (s,m,p,u,v.at_,g,e,f))))termination_by structural n=>n def sQ:Nat->xG->Int->Int->(List (List zB))->yS->xQ->zB->Int->yV->Int->Bool->Bool->Bool->Bool->Int->Int->Nat->Nat->yV->Option ((Bool×Bool×Bool×Bool×Int×Int×yV×Nat×Nat)⊕((Bool×Bool×Bool×Int×Int×yV×Nat×Nat)⊕((Bool×Bool×Bool×Int×Int×yV×Nat×Nat)⊕(Bool×Bool×Bool×Int×Int×yV×Nat×Nat))))|0,_,_,_,_,_,_,_,_,_,_,_,_,_,_,_,_,_,_,_=>none|H+1,M,w,y,d,a,I,v,J,K,G,i,A,B,C,D,E,xK,xH,F=>if decide (G<(v.sub_.length:Int))then zV v.sub_ G>>=λx26=>zMP H M J>>=λr28=>zV K (xF (r28+G))>>=λx30=>zBn H M w y d a i A B C D E F xH xK I (zB.mk x26.kind_ x26.n_ x26.at_ x26.sub_ x26.t_) x30>>=λr32=>match r32 with|Sum.inl y34=>sQ H M w y d a I v J K (xF (G+1)) y34.1 y34.2.1 y34.2.2.1 y34.2.2.2.1 y34.2.2.2.2.1 y34.2.2.2.2.2.1 y34.2.2.2.2.2.2.2.2 y34.2.2.2.2.2.2.2.1 y34.2.2.2.2.2.2.1|Sum.inr (Sum.inl y35)=>sQ H M w y d a I v J K (xF (G+1)) y35.1 y35.2.1 true y35.2.2.1 y35.2.2.2.1 y35.2.2.2.2.1 y35.2.2.2.2.2.2.2 y35.2.2.2.2.2.2.1 y35.2.2.2.2.2.1|Sum.inr (Sum.inr (Sum.inl y36))=>sQ H M w y d a I v J K (xF (G+1)) y36.1 true y36.2.1 y36.2.2.1 y36.2.2.2.1 y36.2.2.2.2.1 y36.2.2.2.2.2.2.2 y36.2.2.2.2.2.2.1 y36.2.2.2.2.2.1|Sum.inr (Sum.inr (Sum.inr y37))=>sQ H M w y d a I v J K (xF (G+1)) true y37.1 y37.2.1 y37.2.2.1 y37.2.2.2.1 y37.2.2.2.2.1 y37.2.2.2.2.2.2.2 y37.2.2.2.2.2.2.1 y37.2.2.2.2.2.1 else some (Sum.inl (i,A,B,C,D,E,F,xH,xK))termination_by structural n=>n end
theorem zGZ:∀H:Nat,(∀M w y d a s q m p u t g e f I v L,Cz (zBn H M w y d a s q m p u t g e f I v L) 108 [.cells [.mp 1 0,.mp 3 0,zP (qS zK) d .no,ai a.e_,ai a.row_,ai a.at_],mB M 2,mR M,.cells [ai w,ai y],.cells [ab s,ab q,ab m,ab p,ai u,ai t,.ms 5 0 e f 3],.row (zC zA g)] [.mp 0 0,.mp 4 0,zP zD I .no,wQ v,yY L] (λ_=>.tup []) (Sum.elim (λx=>[.cells [.mp 1 0,.mp 3 0,zP (qS zK) d .no,ai a.e_,ai a.row_,ai a.at_],mB M 2,mR M,.cells [ai w,ai y],.cells [ab x.1,ab x.2.1,ab x.2.2.1,ab x.2.2.2.1,ai x.2.2.2.2.1,ai x.2.2.2.2.2.1,.ms 6 0 x.2.2.2.2.2.2.2.1 x.2.2.2.2.2.2.2.2 3],.dead,.row (zC zA x.2.2.2.2.2.2.1)]) (Sum.elim (λx=>[.cells [.mp 1 0,.mp 3 0,zP (qS zK) d .no,ai a.e_,ai a.row_,ai a.at_],mB M 2,mR M,.cells [ai w,ai y],.cells [ab x.1,ab x.2.1,ab true,ab x.2.2.1,ai x.2.2.2.1,ai x.2.2.2.2.1,.ms 6 0 x.2.2.2.2.2.2.1 x.2.2.2.2.2.2.2 3],.dead,.row (zC zA x.2.2.2.2.2.1)]) (Sum.elim (λx=>[.cells [.mp 1 0,.mp 3 0,zP (qS zK) d .no,ai a.e_,ai a.row_,ai a.at_],mB M 2,mR M,.cells [ai w,ai y],.cells [ab x.1,ab true,ab x.2.1,ab x.2.2.1,ai x.2.2.2.1,ai x.2.2.2.2.1,.ms 6 0 x.2.2.2.2.2.2.1 x.2.2.2.2.2.2.2 3],.dead,.row (zC zA x.2.2.2.2.2.1)]) (λx=>[.cells [.mp 1 0,.mp 3 0,zP (qS zK) d .no,ai a.e_,ai a.row_,ai a.at_],mB M 2,mR M,.cells [ai w,ai y],.cells [ab true,ab x.1,ab x.2.1,ab x.2.2.1,ai x.2.2.2.1,ai x.2.2.2.2.1,.ms 6 0 x.2.2.2.2.2.2.1 x.2.2.2.2.2.2.2 3],.dead,.row (zC zA x.2.2.2.2.2.1)])))) 0)/\(∀M w y d a I v J K G i A B C D E xK xH F,Lz (sQ H M w y d a I v J K G i A B C D E xK xH F) 6 f108 (pt 16744437 f108) (λj=>sp j 126 0 [(0,.mp 0 0),(1,.mp 4 0),(2,zP zD I .no),(10,ai J),(11,zP zA K .no),(78,zP zK v.sub_ .no),(79,ai (v.sub_.length:Int)),(80,ai G)]) ⟨[(0,.cells [.mp 1 0,.mp 3 0,zP (qS zK) d .no,ai a.e_,ai a.row_,ai a.at_]),(1,mB M 2),(2,mR M),(3,.cells [ai w,ai y]),(4,.cells [ab i,ab A,ab B,ab C,ai D,ai E,.ms 6 0 xH xK 3]),(5,.dead),(6,.row (zC zA F))],7,[],0,[]⟩ (λ_=>.tup []) (Sum.elim (λx=>[.cells [.mp 1 0,.mp 3 0,zP (qS zK) d .no,ai a.e_,ai a.row_,ai a.at_],mB M 2,mR M,.cells [ai w,ai y],.cells [ab x.1,ab x.2.1,ab x.2.2.1,ab x.2.2.2.1,ai x.2.2.2.2.1,ai x.2.2.2.2.2.1,.ms 6 0 x.2.2.2.2.2.2.2.1 x.2.2.2.2.2.2.2.2 3],.dead,.row (zC zA x.2.2.2.2.2.2.1)]) (Sum.elim (λx=>[.cells [.mp 1 0,.mp 3 0,zP (qS zK) d .no,ai a.e_,ai a.row_,ai a.at_],mB M 2,mR M,.cells [ai w,ai y],.cells [ab x.1,ab x.2.1,ab true,ab x.2.2.1,ai x.2.2.2.1,ai x.2.2.2.2.1,.ms 6 0 x.2.2.2.2.2.2.1 x.2.2.2.2.2.2.2 3],.dead,.row (zC zA x.2.2.2.2.2.1)]) (Sum.elim (λx=>[.cells [.mp 1 0,.mp 3 0,zP (qS zK) d .no,ai a.e_,ai a.row_,ai a.at_],mB M 2,mR M,.cells [ai w,ai y],.cells [ab x.1,ab true,ab x.2.1,ab x.2.2.1,ai x.2.2.2.1,ai x.2.2.2.2.1,.ms 6 0 x.2.2.2.2.2.2.1 x.2.2.2.2.2.2.2 3],.dead,.row (zC zA x.2.2.2.2.2.1)]) (λx=>[.cells [.mp 1 0,.mp 3 0,zP (qS zK) d .no,ai a.e_,ai a.row_,ai a.at_],mB M 2,mR M,.cells [ai w,ai y],.cells [ab true,ab x.1,ab x.2.1,ab x.2.2.1,ai x.2.2.2.1,ai x.2.2.2.2.1,.ms 6 0 x.2.2.2.2.2.2.1 x.2.2.2.2.2.2.2 3],.dead,.row (zC zA x.2.2.2.2.2.1)])))) 0 [.blk 2,.blk 1]):=wF ⟨λ_ _ _ _ _ _ _ _ _ _ _ _ _ _ _ _ _=>cN,λ_ _ _ _ _ _ _ _ _ _ _ _ _ _ _ _ _ _ _=>lN⟩ λH ih=>⟨λM w y d a s q m p u t g e f I v L=>fw func108<|rK 0 [4,5] yCA (λ_=>fG 0 [(some 5,0,0)] [0,1,2,3,4,5,8] [] false) λ_=>rB 1 (fG 0 [(some 5,0,0)] [0,1,2,3,4,5,8] [] false)<|rB 1 (rS (oS 3 (xR wC [(Tm.mk 0 0 [])]))<|rH λ_ h7=>rW (λh9=>oM 0 (zVR h7 h9 (by simp))) λl8=>rA 0 (zBI (b:=8) (c:=List.length l8) (z:=3)) λ_=>rW (λh13=>oW 0 (wtE (x:=L) (cs:=[ai L.k,ai L.n,zP zA L.sub .no]) uX (by rw[wC];rfl) h13)) λ_=>fF 1 [0,1,2,3,4,5,8])<|rB 1 (rC 0 [] zBp λ_=>rS (gP 0)<|rK 0 [] zQF (λ_=>fG 8 [(some 5,0,0)] [0,1,2,3,4,5,8] [] false) λ_=>rC 2 [1,2] zIC λ_=>rB 2 (rB 2 (fG 3 [(some 5,0,0)] [0,1,2,3,4,5,8] [] false)<|rB 1 (fG 1 [(some 5,0,0)] [0,1,2,3,4,5,8] [] false)<|fH 2 [(some 5,0,0)] [0,1,2,3,4,5,8] [] [0,1,2,10,11,78,79,80] (ih.2 _ _ _ _ _ _ _ _ _ _ _ _ _ _ _ _ _ _ _))<|fG 4 [(some 5,0,0)] [0,1,2,3,4,5,8] [] false)<|rC 2 [1,2] zIC λ_=>rB 2 (rB 2 (fG 3 [(some 5,0,0)] [0,1,2,3,4,5,8] [] false)<|rB 1 (fG 1 [(some 5,0,0)] [0,1,2,3,4,5,8] [] false)<|fH 2 [(some 5,0,0)] [0,1,2,3,4,5,8] [] [0,1,2,10,11,78,79,80] (ih.2 _ _ _ _ _ _ _ _ _ _ _ _ _ _ _ _ _ _ _))<|fG 4 [(some 5,0,0)] [0,1,2,3,4,5,8] [] false,λM w y d a I v J K G i A B C D E xK xH F=>lw λ_=>rB 0 (rA 0 (zBx (o:=.no)) λ_=>rC 4 [1,2] zWX λ_=>rA 1 (wE (o:=.no)) λ_=>rC 1 [0,1,2,3,4,6] (ih.1 _ _ _ _ _ _ _ _ _ _ _ _ _ _ _ _ _)<|sD (λ_=>lH 1 [] [0,1,2,3,4,5,8] [] [0,1,2,10,11,78,79,80] (ih.2 _ _ _ _ _ _ _ _ _ _ _ _ _ _ _ _ _ _ _))<|sD (λ_=>lH 1 [] [0,1,2,3,4,5,8] [] [0,1,2,10,11,78,79,80] (ih.2 _ _ _ _ _ _ _ _ _ _ _ _ _ _ _ _ _ _ _))<|sD (λ_=>lH 1 [] [0,1,2,3,4,5,8] [] [0,1,2,10,11,78,79,80] (ih.2 _ _ _ _ _ _ _ _ _ _ _ _ _ _ _ _ _ _ _)) λ_=>lH 1 [] [0,1,2,3,4,5,8] [] [0,1,2,10,11,78,79,80] (ih.2 _ _ _ _ _ _ _ _ _ _ _ _ _ _ _ _ _ _ _))<|lF 0 [0,1,2,3,4,5,6]⟩
theorem yCB{H M w y d a s q m p u t g e f I v L}:Cz (zBn H M w y d a s q m p u t g e f I v L) 108 [.cells [.mp 1 0,.mp 3 0,zP (qS zK) d .no,ai a.e_,ai a.row_,ai a.at_],mB M 2,mR M,.cells [ai w,ai y],.cells [ab s,ab q,ab m,ab p,ai u,ai t,.ms 5 0 e f 3],.row (zC zA g)] [.mp 0 0,.mp 4 0,zP zD I .no,wQ v,yY L] (λ_=>.tup []) (Sum.elim (λx=>[.cells [.mp 1 0,.mp 3 0,zP (qS zK) d .no,ai a.e_,ai a.row_,ai a.at_],mB M 2,mR M,.cells [ai w,ai y],.cells [ab x.1,ab x.2.1,ab x.2.2.1,ab x.2.2.2.1,ai x.2.2.2.2.1,ai x.2.2.2.2.2.1,.ms 6 0 x.2.2.2.2.2.2.2.1 x.2.2.2.2.2.2.2.2 3],.dead,.row (zC zA x.2.2.2.2.2.2.1)]) (Sum.elim (λx=>[.cells [.mp 1 0,.mp 3 0,zP (qS zK) d .no,ai a.e_,ai a.row_,ai a.at_],mB M 2,mR M,.cells [ai w,ai y],.cells [ab x.1,ab x.2.1,ab true,ab x.2.2.1,ai x.2.2.2.1,ai x.2.2.2.2.1,.ms 6 0 x.2.2.2.2.2.2.1 x.2.2.2.2.2.2.2 3],.dead,.row (zC zA x.2.2.2.2.2.1)]) (Sum.elim (λx=>[.cells [.mp 1 0,.mp 3 0,zP (qS zK) d .no,ai a.e_,ai a.row_,ai a.at_],mB M 2,mR M,.cells [ai w,ai y],.cells [ab x.1,ab true,ab x.2.1,ab x.2.2.1,ai x.2.2.2.1,ai x.2.2.2.2.1,.ms 6 0 x.2.2.2.2.2.2.1 x.2.2.2.2.2.2.2 3],.dead,.row (zC zA x.2.2.2.2.2.1)]) (λx=>[.cells [.mp 1 0,.mp 3 0,zP (qS zK) d .no,ai a.e_,ai a.row_,ai a.at_],mB M 2,mR M,.cells [ai w,ai y],.cells [ab true,ab x.1,ab x.2.1,ab x.2.2.1,ai x.2.2.2.1,ai x.2.2.2.2.1,.ms 6 0 x.2.2.2.2.2.2.1 x.2.2.2.2.2.2.2 3],.dead,.row (zC zA x.2.2.2.2.2.1)])))) 0:=(zGZ _).1 _ _ _ _ _ _ _ _ _ _ _ _ _ _ _ _ _
structure PS where
 out:Bool
 st:Bool
 wa:Bool
 no:Bool
 n:Int
 at_:Int
 bs:List Tm
def PS.ended(s:PS):Bool:=s.out||s.st||s.wa
mutual def hP(l:List yL)(ns:List Int):zB->Tm->PS->PS|.mk k m a sub _,t,s=>if s.ended=true\/k=3 then s else if k=1 then{s with bs:=s.bs++[t]}else if t.k=8/\t.n∈ns then{s with wa:=true,no:=k==4,n:=t.n,at_:=a}else if uA l t/\k≠4 then(if(yN t).n≠m then{s with out:=true}else hPs l ns sub (qH l t) s)else{s with st:=true,at_:=a}def hPs(l:List yL)(ns:List Int):List zB->List Tm->PS->PS|[],_,s=>s|p::ps,ts,s=>match ts with|[]=>s|t::ts=>hPs l ns ps ts (hP l ns p t s)end
abbrev H8:=Bool×Bool×Bool×Int×Int×List Tm×Nat×Nat
abbrev HXT:=(Bool×H8)⊕(H8⊕(H8⊕H8))
def hsX:HXT->Bool×H8|.inl y=>y|.inr (.inl y)=>(y.1,y.2.1,true,y.2.2)|.inr (.inr (.inl y))=>(y.1,true,y.2)|.inr (.inr (.inr y))=>(true,y)
def HR(s:PS)(x:HXT):Prop:=∃c,hsX x=(s.out,s.st,s.wa,s.no,s.n,s.at_,s.bs,s.bs.length,c)
mutual theorem zRm(l:List yL)(ns:List Int):∀(p:zB)(t:Tm)(s:PS),zF t=true->(∀b∈s.bs,zF b=true)->(hP l ns p t s).bs.length<=s.bs.length+ndP p/\∀b∈(hP l ns p t s).bs,zF b=true
 |.mk k m a sub pt,t,s,ht,hs=>by
  rw[hP,ndP];split;·exact⟨by omega,hs⟩
  split
  ·refine⟨by simp,λb hb=>?_⟩;rcases List.mem_append.1 hb with hb|hb;·exact hs b hb
   ·rw[List.mem_singleton.1 hb];exact ht
  split;·exact⟨by show s.bs.length<=_;omega,hs⟩
  split
  ·split;·exact⟨by show s.bs.length<=_;omega,hs⟩
   ·have:=zJz l ns sub (qH l t) s (λx hx=>xL ht (List.mem_of_mem_drop hx)) hs;exact⟨by omega,this.2⟩
  ·exact⟨by show s.bs.length<=_;omega,hs⟩theorem zJz(l:List yL)(ns:List Int):∀(ps:List zB)(ts:List Tm)(s:PS),(∀t∈ts,zF t=true)->(∀b∈s.bs,zF b=true)->(hPs l ns ps ts s).bs.length<=s.bs.length+sC ps/\∀b∈(hPs l ns ps ts s).bs,zF b=true|[],_,s,_,hs=>by rw[hPs];exact⟨by omega,hs⟩|p::ps,[],s,_,hs=>by rw[hPs];exact⟨by omega,hs⟩|p::ps,t::ts,s,ht,hs=>by rw[hPs,sC];have h1:=zRm l ns p t s (ht t (List.mem_cons_self ..)) hs;have h2:=zJz l ns ps ts _ (λx hx=>ht x (List.mem_cons_of_mem _ hx)) h1.2;exact⟨by omega,h2.2⟩end
theorem zUa(L L' U U':Int):∀q,(∀M r b o s w n k a bs bn bc c p t,zBn q M L U r b o s w n k a bs bn bc c p t=zBn q M L' U' r b o s w n k a bs bn bc c p t)/\∀M r b c p con ar v o s w n k a bc bn bs,sQ q M L U r b c p con ar v o s w n k a bc bn bs=sQ q M L' U' r b c p con ar v o s w n k a bc bn bs:=by intro q;induction q with|zero=>exact⟨by intros;rfl,by intros;rfl⟩|succ q ih=>exact⟨by intros;simp only[zBn,ih.2],by intros;simp only[sQ,ih.1,ih.2]⟩
section
variable{N:ByteArray->Bool}{l:List yL}(hE:wZ N l)(he:∀e∈l,jL e)
include hE he
theorem zCg(fl fu:Int)(rows:List (List zB))(bad:yS)(c:List zJ)(p:zB)(t:Tm)(ht:zF t=true)(hc:uA l t)(hps:p.sub_.length<=8192)(H:∀x∈p.sub_,∀(t:Tm)(s:PS)(bc:Nat),zF t=true->(∀b∈s.bs,zF b=true)->s.bs.length+ndP x<=100000->zG (λq=>zBn q (xB l) fl fu rows bad s.out s.st s.wa s.no s.n s.at_ s.bs s.bs.length bc c x t) (HR (hP l (c.map (·.n_)) x t s))):∀(r:List zB)(v:Nat)(ts:List Tm)(s:PS)(bc:Nat),p.sub_.drop v=r->(qH l t).drop v=ts->r.length=ts.length->(∀b∈s.bs,zF b=true)->s.bs.length+sC r<=100000->zG (λq=>sQ q (xB l) fl fu rows bad c p (yN t).n (xD t) (v:Int) s.out s.st s.wa s.no s.n s.at_ bc s.bs.length s.bs) (HR (hPs l (c.map (·.n_)) r ts s))
 |[],v,ts,s,bc,hd,htd,hn,hs,hb=>by
  refine zG.succ ?_;simp only[sQ];refine zG.ite (λh=>?_) λ_=>zG.ret ?_;·rw[yB hd]at h;cases h
  ·rw[hPs];exact⟨bc,rfl⟩|x::r,v,[],s,bc,hd,htd,hn,hs,hb=>by simp at hn|x::r,v,y::ts,s,bc,hd,htd,hn,hs,hb=>by
  have hlt:=yF hd;have hx:x∈p.sub_:=List.mem_of_mem_drop (by rw[hd];simp);have hy:y∈qH l t:=List.mem_of_mem_drop (by rw[htd];simp);have hsy:zF y=true:=xL ht (List.mem_of_mem_drop hy);obtain⟨pp,hp',h1,h2,h3⟩:=jT hE ht hc;have hal:=tS t (zM ht).2.2;have htn:=(zM ht).1;rw[sC]at hb;have hidx:zV (xD t) (xF ((pp:Int)+(v:Int)))=some y:=by
   rw[yQ (by omega) (by omega),show((pp:Int)+(v:Int))=((pp+v:Nat):Int)by omega];refine uN ?_;have:(qH l t)[v]?=some y:=by have:=congrArg (λl=>l[0]?) htd;simpa[List.getElem?_drop]using this
   unfold qH at this;rw[hp']at this;simpa[List.getElem?_drop]using this
  refine zG.succ ?_;simp only[sQ,mD];refine zG.ite (λ_=>zG.pure (zZ hd) (zG.bind (P:=λr=>r=(pp:Int)) ((zAy l h2 h3).tot hp') λr28 e28=>?_)) λh=>?_
  ·subst e28;refine zG.pure hidx ((H x hx y s bc hsy hs (by omega)).bind λz hz=>?_);rw[hPs];have hbs:=zRm l (c.map (·.n_)) x y s hsy hs;generalize hP l (c.map (·.n_)) x y s=s' at hz hbs⊢;obtain⟨o,st,w,no,n,a,b⟩:=s';rw[zW v (by omega)];obtain⟨c',hz⟩:=hz;have nx:∀o st w:Bool,zG (λq=>sQ q (xB l) fl fu rows bad c p (yN t).n (xD t) ((v+1:Nat):Int) o st w no n a c' b.length b) (HR (hPs l (c.map (·.n_)) r ts ⟨o,st,w,no,n,a,b⟩)):=λo st w=>zCg fl fu rows bad c p t ht hc hps H r (v+1) ts ⟨o,st,w,no,n,a,b⟩ c' (zS hd) (by have:=congrArg (List.drop 1) htd;simpa[List.drop_drop,Nat.add_comm]using this) (by simpa using hn) hbs.2 (by have:=hbs.1;dsimp only at this⊢;omega);rcases z with⟨y1,y2,y3,y4,y5,y6,y7,y8,y9⟩|⟨y1,y2,y4,y5,y6,y7,y8,y9⟩|⟨y1,y3,y4,y5,y6,y7,y8,y9⟩|⟨y2,y3,y4,y5,y6,y7,y8,y9⟩;all_goals simp only[hsX,Prod.mk.injEq]at hz
   ·obtain⟨rfl,rfl,rfl,rfl,rfl,rfl,rfl,rfl,rfl⟩:=hz;exact nx _ _ _
   ·obtain⟨rfl,rfl,rfl,rfl,rfl,rfl,rfl,rfl,rfl⟩:=hz;exact nx _ _ _
   ·obtain⟨rfl,rfl,rfl,rfl,rfl,rfl,rfl,rfl,rfl⟩:=hz;exact nx _ _ _
   ·obtain⟨rfl,rfl,rfl,rfl,rfl,rfl,rfl,rfl,rfl⟩:=hz;exact nx _ _ _
  ·rw[yA hd]at h;cases h
theorem zRl(fl fu:Int)(rows:List (List zB))(bad:yS)(c:List zJ)(hcl:c.length<=1048576):∀(m:Nat)(p:zB),ndP p<=m->GP l p->mE p->m<=8192->∀(t:Tm)(s:PS)(bc:Nat),zF t=true->(∀b∈s.bs,zF b=true)->s.bs.length+ndP p<=100000->zG (λq=>zBn q (xB l) fl fu rows bad s.out s.st s.wa s.no s.n s.at_ s.bs s.bs.length bc c p t) (HR (hP l (c.map (·.n_)) p t s)):=by intro m;induction m with|zero=>intro p hm;rw[zKV]at hm;omega|succ m ih=>
 intro p hm hg ho hm8 t s bc ht hs hb;obtain⟨k,pn,pa,sub,pt⟩:=p;rw[mE]at ho;rw[GP]at hg;rw[ndP]at hm hb;have hsl:=zAK sub;refine zG.succ ?_;simp only[zBn,zXP];rw[hP];have hend:zG (λq=>if s.out=true then some true else if s.st=true then some true else some s.wa) λb=>b=s.ended:=by refine zG.ite (λh=>zG.ret (by simp[PS.ended,h])) λh=>zG.ite (λh2=>zG.ret (by simp[PS.ended,h2])) λh2=>zG.ret (by simp[PS.ended,h,h2])
 refine hend.bind λb e=>?_;subst e;refine zG.ite (λh=>zG.ret ?_) λhen=>zG.ite (λh3=>zG.ret ?_) λh3=>?_;·rw[if_pos (.inl h)];exact⟨bc,rfl⟩
 ·have h3':k=3:=by simpa[zB.kind_]using h3
  rw[if_pos (.inr h3')];exact⟨bc,rfl⟩
 have h3':k≠3:=by simpa[zB.kind_]using h3
 rw[if_neg (λh=>h.elim (λh=>by rw[hen]at h;cases h) h3')];refine zG.ite (λh1=>?_) λh1=>?_
 ·have h1':k=1:=by simpa[zB.kind_]using h1
  rw[if_pos h1'];refine zG.pure (a:=s.bs) (by unfold E1;rw[if_pos rfl]) (zG.pure (yG (by simp;omega)) (zG.pure (a:=s.bs.length) (rU (by simp)) (zG.pure (a:=s.bs++[t]) ?_ (zG.ret ⟨_,by simp[hsX];rfl⟩))));unfold kR;rw[if_pos (by simp)];simp
 have h1':k≠1:=by simpa[zB.kind_]using h1
 rw[if_neg h1'];have con:zG (λq=>M8 q (xB l) t>>=λr20=>if r20.2.2=true then(if(zB.kind_ (.mk k pn pa sub pt)==4)=true then some (Sum.inr (Sum.inr (Sum.inl (s.out,s.wa,s.no,s.n,zB.at_ (.mk k pn pa sub pt),s.bs,s.bs.length,bc))))else if(r20.1 !=zB.n_ (.mk k pn pa sub pt))=true then some (Sum.inr (Sum.inr (Sum.inr (s.st,s.wa,s.no,s.n,s.at_,s.bs,s.bs.length,bc))))else sQ q (xB l) fl fu rows bad c (.mk k pn pa sub pt) r20.1 r20.2.1 0 s.out s.st s.wa s.no s.n s.at_ bc s.bs.length s.bs)else some (Sum.inr (Sum.inr (Sum.inl (s.out,s.wa,s.no,s.n,zB.at_ (.mk k pn pa sub pt),s.bs,s.bs.length,bc))))) (HR (if uA l t/\k≠4 then(if(yN t).n≠pn then{s with out:=true}else hPs l (c.map (·.n_)) sub (qH l t) s)else{s with st:=true,at_:=pa})):=by
  refine zG.bind (P:=λr=>r=kA l t) ((H6 l t ht).tot rfl) λr e=>?_;subst e;by_cases hc:uA l t
  ·have xc:kA l t=((yN t).n,xD t,true):=if_pos hc;rw[xc];refine zG.ite (λ_=>zG.ite (λh4=>zG.ret ?_) λh4=>zG.ite (λhn=>zG.ret ?_) λhn=>?_) λh=>by cases h
   ·have h4':k=4:=by simpa[zB.kind_]using h4
    rw[if_neg (λh=>h.2 h4')];exact⟨bc,rfl⟩
   ·have h4':k≠4:=by simpa[zB.kind_]using h4
    have hn':(yN t).n≠pn:=by simpa[zB.n_]using hn
    rw[if_pos ⟨hc,h4'⟩,if_pos hn'];exact⟨bc,rfl⟩
   ·have h4':k≠4:=by simpa[zB.kind_]using h4
    have hn':(yN t).n=pn:=by simpa[zB.n_]using hn
    rw[if_pos ⟨hc,h4'⟩,if_neg (λh=>h hn')];have sc:=vY ht hc;obtain⟨A,y,hw,-,-,hp,-,q0,q1,-⟩:=vX hE sc.1 sc.2.1 sc.2.2.1;have hk:=hg.1 h1' h3' h4';have har:zNg l pn=uY (zU l pn).type-(zU l pn).pars:=by unfold zNg;rw[<-hn',if_pos ⟨sc.1,sc.2.1,sc.2.2.1⟩]
    refine zCg hE he fl fu rows bad c (.mk k pn pa sub pt) t ht hc (by show sub.length<=_;omega) (λx hx t' s' bc' ht' hs' hb'=>?_) sub 0 (qH l t) s bc rfl rfl ?_ hs (by omega)
    ·have:ndP x<=sC sub:=zAJ hx;exact ih x (by omega) (zRn hg.2 x hx) (J1 ho.2.1 x hx) (by omega) t' s' bc' ht' hs' hb'
    ·have h5:=hk.2;rw[har,<-hn']at h5;unfold qH;rw[List.length_drop];have:=sc.2.2.2;omega
  ·have xc:kA l t=(0,[],false):=if_neg hc;rw[xc];refine zG.ite (λh=>by cases h) λ_=>zG.ret ?_;rw[if_neg (λh=>hc h.1)];exact⟨bc,rfl⟩
 refine zG.ite (λh8=>?_) λh8=>?_
 ·have h8':t.k=8:=by simpa using h8
  simp only[zGi];refine(mK c hcl _ 0 [] rfl (Nat.zero_le _) rfl).bind λns hns=>?_;subst hns;refine(eQ (c.map (·.n_)) t.n (by rw[List.length_map];omega)).bind λb hb'=>zG.ite (λhbt=>zG.ret ?_) λhbf=>?_;·rw[if_pos ⟨h8',hb'.1 hbt⟩];exact⟨bc,rfl⟩
  ·rw[if_neg (λh=>by rw[hb'.2 h.2]at hbf;cases hbf)];exact con
 ·have h8':t.k≠8:=by simpa using h8
  rw[if_neg (λh=>h8' h.1)];exact con
end
def nA:Nat->xG->Int->Int->(List (List zB))->yS->xO->(List zB)->Int->Bool->Bool->Bool->Bool->Int->Int->Nat->Nat->yV->Option (Bool×Bool×Bool×Bool×Int×Int×yV×Nat×Nat)|0,_,_,_,_,_,_,_,_,_,_,_,_,_,_,_,_,_=>none|u+1,M,q,s,b,a,t,x1,p,c,d,e,f,g,m,bE,bF,n=>if decide (p<(x1.length:Int))then zV x1 p>>=λx4=>zV t.args_ p>>=λx6=>zBn u M q s b a c d e f g m n bF bE t.c_ (zB.mk x4.kind_ x4.n_ x4.at_ x4.sub_ x4.t_) x6>>=λr8=>match r8 with|Sum.inl y10=>nA u M q s b a t x1 (xF (p+1)) y10.1 y10.2.1 y10.2.2.1 y10.2.2.2.1 y10.2.2.2.2.1 y10.2.2.2.2.2.1 y10.2.2.2.2.2.2.2.2 y10.2.2.2.2.2.2.2.1 y10.2.2.2.2.2.2.1|Sum.inr (Sum.inl y11)=>nA u M q s b a t x1 (xF (p+1)) y11.1 y11.2.1 true y11.2.2.1 y11.2.2.2.1 y11.2.2.2.2.1 y11.2.2.2.2.2.2.2 y11.2.2.2.2.2.2.1 y11.2.2.2.2.2.1|Sum.inr (Sum.inr (Sum.inl y12))=>nA u M q s b a t x1 (xF (p+1)) y12.1 true y12.2.1 y12.2.2.1 y12.2.2.2.1 y12.2.2.2.2.1 y12.2.2.2.2.2.2.2 y12.2.2.2.2.2.2.1 y12.2.2.2.2.2.1|Sum.inr (Sum.inr (Sum.inr y13))=>nA u M q s b a t x1 (xF (p+1)) true y13.1 y13.2.1 y13.2.2.1 y13.2.2.2.1 y13.2.2.2.2.1 y13.2.2.2.2.2.2.2 y13.2.2.2.2.2.2.1 y13.2.2.2.2.2.1 else some (c,d,e,f,g,m,n,bF,bE)
def e78(u:Nat)(M:xG)(q s:Int)(b:List (List zB))(a:yS)(t:xO)(v:Int):Option (Bool×Bool×Bool×Bool×Int×Int×yV×Nat×Nat):=zV b v>>=λx1=>nA u M q s b a t x1 0 false false false false 0 0 (List.length ([]:yV)) (List.length ([]:yV)) ([]:yV)
theorem zXR:∀u:Nat,∀M q s b a t x1 p c d e f g m bE bF n,Lz (nA u M q s b a t x1 p c d e f g m bE bF n) 4 f78 (pt 4021 f78) (λj=>sp j 38 0 [(0,.mp 0 0),(4,.mp 4 0),(7,.mp 5 0),(18,zP zK x1 .no),(19,ai (x1.length:Int)),(20,ai p)]) ⟨[(0,.cells [.mp 1 0,.mp 3 0,zP (qS zK) b .no,ai a.e_,ai a.row_,ai a.at_]),(1,mB M 2),(2,mR M),(3,.cells [ai q,ai s]),(4,.cells [zP zD t.c_ .no,zP zA t.args_ .no]),(5,.cells [ab c,ab d,ab e,ab f,ai g,ai m,.ms 6 0 bF bE 3]),(6,.row (zC zA n))],7,[],0,[]⟩ (λ_=>.mp 4 0) (λr=>[.cells [.mp 1 0,.mp 3 0,zP (qS zK) b .no,ai a.e_,ai a.row_,ai a.at_],mB M 2,mR M,.cells [ai q,ai s],.cells [ab r.1,ab r.2.1,ab r.2.2.1,ab r.2.2.2.1,ai r.2.2.2.2.1,ai r.2.2.2.2.2.1,.ms 5 0 r.2.2.2.2.2.2.2.1 r.2.2.2.2.2.2.2.2 3],.row (zC zA r.2.2.2.2.2.2.1)]) 0 [.blk 0,.seq (pt 63 f78)]:=wF (λ_ _ _ _ _ _ _ _ _ _ _ _ _ _ _ _ _=>lN) λu ih=>λM q s b a t x1 p c d e f g m bE bF n=>lw λ_=>rB 0 (rA 0 (zBx (o:=.no)) λ_=>rA 5 (wE (o:=.no)) λ_=>rC 1 [0,1,2,3,5,6] yCB<|sD (λ_=>lH 1 [] [0,1,2,3,4,5,8] [] [0,4,7,18,19,20] (ih _ _ _ _ _ _ _ _ _ _ _ _ _ _ _ _ _))<|sD (λ_=>lH 1 [] [0,1,2,3,4,5,8] [] [0,4,7,18,19,20] (ih _ _ _ _ _ _ _ _ _ _ _ _ _ _ _ _ _))<|sD (λ_=>lH 1 [] [0,1,2,3,4,5,8] [] [0,4,7,18,19,20] (ih _ _ _ _ _ _ _ _ _ _ _ _ _ _ _ _ _)) λ_=>lH 1 [] [0,1,2,3,4,5,8] [] [0,4,7,18,19,20] (ih _ _ _ _ _ _ _ _ _ _ _ _ _ _ _ _ _))<|lF 0 [0,1,2,3,5,6]
theorem c78{u M q s b a t v}:Cz (e78 u M q s b a t v) 78 [.cells [.mp 1 0,.mp 3 0,zP (qS zK) b .no,ai a.e_,ai a.row_,ai a.at_],mB M 2,mR M,.cells [ai q,ai s]] [.mp 0 0,qZ t,ai v] (λ_=>.mp 4 0) (λr=>[.cells [.mp 1 0,.mp 3 0,zP (qS zK) b .no,ai a.e_,ai a.row_,ai a.at_],mB M 2,mR M,.cells [ai q,ai s],.cells [ab r.1,ab r.2.1,ab r.2.2.1,ab r.2.2.2.1,ai r.2.2.2.2.1,ai r.2.2.2.2.2.1,.ms 5 0 r.2.2.2.2.2.2.2.1 r.2.2.2.2.2.2.2.2 3],.row (zC zA r.2.2.2.2.2.2.1)]) 0:=fw func78<|rA 1 (zOI (o:=.no)) λ_=>fH 2 [(some 5,6,4099)] [0,1,2,3,4,5,6] [] [0,4,7,18,19,20] (zXR _ _ _ _ _ _ _ _ _ _ _ _ _ _ _ _ _ _)
def O2:Nat->xQ->xQ->Int->Option xQ|0,_,_,_=>none|b+1,a,d,c=>if decide (c<(a.length:Int))then zV a c>>=λx2=>e64 b x2.type_>>=λr4=>yZ 48 d [(zJ.mk x2.n_ r4)]>>=λl6=>O2 b a l6 (xF (c+1))else some d
def e81(b:Nat)(a:xQ):Option xQ:=O2 b a [] 0
theorem zXS:∀b:Nat,∀a d c,Lz (O2 b a d c) 0 f81 (pt 4021 f81) (λj=>sp j 23 0 [(3,zP zD d (.st 0 4)),(6,zP zD a .no),(7,ai (a.length:Int)),(8,ai c)]) ⟨[],0,[0],1,[]⟩ (λr=>.sl (zC zD r) r.length .no) (λ_=>[]) 0 [.blk 0,.seq (pt 63 f81)]:=wF (λ_ _ _=>lN) λb ih=>λa d c=>lw λ_=>rB 0 (rA 0 (s8 (o:=.no)) λ_=>rS (gP 2)<|rC 1 [] c64 λ_=>rW (λh7=>oP 1 (zEY h7 (by simp))) λ_=>lH 1 [] [] [1] [3,6,7,8] (ih _ _ _))<|lE 0
theorem c81{b a}:Cz (e81 b a) 81 [] [zP zD a .no] (λr=>.sl (zC zD r) r.length .no) (λ_=>[]) 0:=fw func81<|fH 1 [(none,3,4)] [] [0] [3,6,7,8] (zXS _ _ _ _)
def O3:Nat->yV->yV->Int->Option yV|0,_,_,_=>none|b+1,a,d,c=>if decide (c<(a.length:Int))then zV a c>>=λx2=>e64 b x2>>=λr4=>yZ 40 d [r4]>>=λl6=>O3 b a l6 (xF (c+1))else some d
def e82(b:Nat)(a:yV):Option yV:=O3 b a [] 0
theorem zXT:∀b:Nat,∀a d c,Lz (O3 b a d c) 0 f82 (pt 4021 f82) (λj=>sp j 19 0 [(3,zP zA d (.st 0 3)),(6,zP zA a .no),(7,ai (a.length:Int)),(8,ai c)]) ⟨[],0,[0],1,[]⟩ (λr=>.sl (zC zA r) r.length .no) (λ_=>[]) 0 [.blk 0,.seq (pt 63 f82)]:=wF (λ_ _ _=>lN) λb ih=>λa d c=>lw λ_=>rB 0 (rA 0 (wE (o:=.no)) λ_=>rC 3 [] c64 λr4=>rS (oS 0 (xR wC [r4]))<|rW (λh7=>oP 0 (vZ h7 (by simp))) λ_=>lH 1 [] [] [1] [3,6,7,8] (ih _ _ _))<|lE 0
theorem c82{b a}:Cz (e82 b a) 82 [] [zP zA a .no] (λr=>.sl (zC zA r) r.length .no) (λ_=>[]) 0:=fw func82<|fH 1 [(none,3,3)] [] [0] [3,6,7,8] (zXT _ _ _ _)
def nB:Nat->yV->Nat->Nat->yV->Int->Option yV|0,_,_,_,_,_=>none|g+1,d,e,f,p,m=>if decide (m<(e:Int))then pX e m>>=λx2=>zV d (x2:Int)>>=λx4=>e64 g x4>>=λr6=>yZ 40 p [r6]>>=λl8=>nB g d e f l8 (xF (m+1))else some p
def zDS(g:Nat)(d:yV)(e f:Nat):Option yV:=nB g d e f [] 0
theorem zJy:∀g:Nat,∀d e f p m,Lz (nB g d e f p m) 1 f82 (pt 4021 f82) (λj=>sp j 19 0 [(3,zP zA p (.st 0 3)),(6,.ms 0 0 e f 3),(7,ai (e:Int)),(8,ai m)]) ⟨[(0,.row (zC zA d))],1,[0],1,[]⟩ (λr=>.sl (zC zA r) r.length .no) (λ_=>[.row (zC zA d)]) 0 [.blk 0,.seq (pt 63 f82)]:=wF (λ_ _ _ _ _=>lN) λg ih=>λd e f p m=>lw λ_=>rB 0 (rA 0 (zBI (b:=0) (c:=f) (z:=3)) λ_=>rH λx4 h5=>rS (oG (a:=(.agg [ai x4.k,ai x4.n,zP zA x4.sub .no])) 0 (ldE uX h5 (true,3) (val:=.agg [ai x4.k,ai x4.n,zP zA x4.sub .no]) (by rw[wC];rfl)))<|rC 2 [] c64 λr6=>rS (oS 0 (xR wC [r6]))<|rW (λh9=>oP 0 (vZ h9 (by simp))) λ_=>lH 1 [] [0] [1] [3,6,7,8] (ih _ _ _ _ _))<|lE 0
theorem zUA{g d e f}:Cz (zDS g d e f) 82 [.row (zC zA d)] [.ms 0 0 e f 3] (λr=>.sl (zC zA r) r.length .no) (λ_=>[.row (zC zA d)]) 0:=fw func82<|fH 1 [(none,3,3)] [0] [0] [3,6,7,8] (zJy _ _ _ _ _ _)
def PS0:PS:=⟨false,false,false,false,0,0,[]⟩
def RR(s:PS)(r:Bool×H8):Prop:=∃c,r=(s.out,s.st,s.wa,s.no,s.n,s.at_,s.bs,s.bs.length,c)
theorem zXU(L L' U U':Int):∀q M r b x p v o s w n k a c m bs,nA q M L U r b x p v o s w n k a c m bs=nA q M L' U' r b x p v o s w n k a c m bs:=by intro q;induction q with|zero=>intros;rfl|succ q ih=>intros;simp only[nA,(zUa L L' U U' q).1,ih]
theorem yAi(L L' U U':Int)(q:Nat){M r b x i}:e78 q M L U r b x i=e78 q M L' U' r b x i:=by simp only[e78,zXU L L' U U']
section
variable{N:ByteArray->Bool}{l:List yL}(hE:wZ N l)(he:∀e∈l,jL e)
include hE he
theorem zHz(fl fu:Int)(rows:List (List zB))(bad:yS)(x:xO)(hcl:x.c_.length<=1048576)(ha:∀t∈x.args_,zF t=true)(hal:x.args_.length<=65535)(x1:List zB)(hg:∀p∈x1,GP l p/\mE p)(hn:sC x1<=8192)(hxl:x1.length=x.args_.length):∀(r:List zB)(v:Nat)(s:PS)(bc:Nat),x1.drop v=r->(∀b∈s.bs,zF b=true)->s.bs.length+sC r<=100000->zG (λq=>nA q (xB l) fl fu rows bad x x1 (v:Int) s.out s.st s.wa s.no s.n s.at_ bc s.bs.length s.bs) (RR (hPs l (x.c_.map (·.n_)) r (x.args_.drop v) s))
 |[],v,s,bc,hd,hs,hb=>by
  refine zG.succ ?_;simp only[nA];refine zG.ite (λh=>?_) λ_=>zG.ret ?_;·rw[yB hd]at h;cases h
  ·rw[hPs];exact⟨bc,rfl⟩|p::r,v,s,bc,hd,hs,hb=>by
  have hlt:=yF hd;have hp:p∈x1:=List.mem_of_mem_drop (by rw[hd];simp);obtain⟨t,ht⟩:∃t,x.args_[v]?=some t:=⟨_,List.getElem?_eq_getElem (by omega)⟩;have htm:=List.mem_of_getElem? ht;have hdt:x.args_.drop v=t::x.args_.drop (v+1):=by obtain⟨g1,g2⟩:=List.getElem?_eq_some_iff.1 ht;rw[List.drop_eq_getElem_cons g1,g2]
  have hpn:=zAJ hp;rw[sC]at hb;refine zG.succ ?_;simp only[nA,mD];refine zG.ite (λ_=>zG.pure (zZ hd) (zG.pure (uN ht) ((zRl hE he fl fu rows bad x.c_ hcl 8192 p (by omega) (hg p hp).1 (hg p hp).2 (Nat.le_refl _) t s bc (ha t htm) hs (by omega)).bind λz hz=>?_))) λh=>?_
  ·rw[hdt,hPs];have hbs:=zRm l (x.c_.map (·.n_)) p t s (ha t htm) hs;generalize hP l (x.c_.map (·.n_)) p t s=s' at hz hbs⊢;obtain⟨o,st,w,no,n,a,b⟩:=s';rw[zW v (by omega)];obtain⟨c',hz⟩:=hz;have nx:∀o st w:Bool,zG (λq=>nA q (xB l) fl fu rows bad x x1 ((v+1:Nat):Int) o st w no n a c' b.length b) (RR (hPs l (x.c_.map (·.n_)) r (x.args_.drop (v+1)) ⟨o,st,w,no,n,a,b⟩)):=λo st w=>zHz fl fu rows bad x hcl ha hal x1 hg hn hxl r (v+1) ⟨o,st,w,no,n,a,b⟩ c' (zS hd) hbs.2 (by have:=hbs.1;dsimp only at this⊢;omega);rcases z with⟨y1,y2,y3,y4,y5,y6,y7,y8,y9⟩|⟨y1,y2,y4,y5,y6,y7,y8,y9⟩|⟨y1,y3,y4,y5,y6,y7,y8,y9⟩|⟨y2,y3,y4,y5,y6,y7,y8,y9⟩;all_goals simp only[hsX,Prod.mk.injEq]at hz;obtain⟨rfl,rfl,rfl,rfl,rfl,rfl,rfl,rfl,rfl⟩:=hz;exact nx _ _ _
  ·rw[yA hd]at h;cases h
theorem zUB(fl fu:Int)(rows:List (List zB))(bad:yS)(x:xO)(hcl:x.c_.length<=1048576)(ha:∀t∈x.args_,zF t=true)(hal:x.args_.length<=65535)(v:Nat)(x1:List zB)(hx:rows[v]?=some x1)(hg:∀p∈x1,GP l p/\mE p)(hn:sC x1<=8192)(hxl:x1.length=x.args_.length):zG (λq=>e78 q (xB l) fl fu rows bad x (v:Int)) (RR (hPs l (x.c_.map (·.n_)) x1 x.args_ PS0)):=by simp only[e78];exact zG.pure (uN hx) (zHz hE he fl fu rows bad x hcl ha hal x1 hg hn hxl x1 0 PS0 0 rfl (λb h=>nomatch h) (by show 0+sC x1<=_;omega))
end
theorem zHy(c:List zJ)(hl:c.length<=1048576)(hc:∀v∈c,zF v.type_=true):∀(r:List zJ)(v:Nat)(acc:List zJ),c.drop v=r->acc=c.take v->zH (λq=>O2 q c acc (v:Int)) c|[],v,acc,hd,ha=>by refine zH.succ ?_;simp only[O2];exact zH.ifF (yB hd) (zH.ret.eq (by rw[ha,List.take_of_length_le (List.drop_eq_nil_iff.1 hd)]))|x::r,v,acc,hd,ha=>by have hlt:=yF hd;have hsx:=hc x (List.mem_of_mem_drop (by rw[hd];simp));refine zH.succ ?_;simp only[O2];refine zH.ifT (yA hd) (zH.pure (zZ hd) (((tU x.type_ (zX hsx)).eq (by unfold nO;rw[if_pos hsx])).bind (zH.pure (yG (by rw[ha];simp;omega)) ?_)));rw[zW v (by omega),zIE];exact zHy c hl hc r (v+1) _ (zS hd) (by rw[tE hd,ha])
theorem zKZ(c:List Tm)(hl:c.length<=1048576)(hc:∀t∈c,zF t=true):∀(r:List Tm)(v:Nat)(acc:List Tm),c.drop v=r->acc=c.take v->zH (λq=>O3 q c acc (v:Int)) c|[],v,acc,hd,ha=>by refine zH.succ ?_;simp only[O3];exact zH.ifF (yB hd) (zH.ret.eq (by rw[ha,List.take_of_length_le (List.drop_eq_nil_iff.1 hd)]))|x::r,v,acc,hd,ha=>by have hlt:=yF hd;have hsx:=hc x (List.mem_of_mem_drop (by rw[hd];simp));refine zH.succ ?_;simp only[O3];refine zH.ifT (yA hd) (zH.pure (zZ hd) (((tU x (zX hsx)).eq (by unfold nO;rw[if_pos hsx])).bind (zH.pure (yG (by rw[ha];simp;omega)) ?_)));rw[zW v (by omega)];exact zKZ c hl hc r (v+1) _ (zS hd) (by rw[tE hd,ha])
theorem zLz(c:List Tm)(bc:Nat)(hl:c.length<=1048576)(hc:∀t∈c,zF t=true):∀(r:List Tm)(v:Nat)(acc:List Tm),c.drop v=r->acc=c.take v->zH (λq=>nB q c c.length bc acc (v:Int)) c|[],v,acc,hd,ha=>by refine zH.succ ?_;simp only[nB];exact zH.ifF (yB hd) (zH.ret.eq (by rw[ha,List.take_of_length_le (List.drop_eq_nil_iff.1 hd)]))|x::r,v,acc,hd,ha=>by have hlt:=yF hd;have hsx:=hc x (List.mem_of_mem_drop (by rw[hd];simp));refine zH.succ ?_;simp only[nB];refine zH.ifT (yA hd) (zH.pure (rU hlt) (zH.pure (zZ hd) (((tU x (zX hsx)).eq (by unfold nO;rw[if_pos hsx])).bind (zH.pure (yG (by rw[ha];simp;omega)) ?_))));rw[zW v (by omega)];exact zLz c bc hl hc r (v+1) _ (zS hd) (by rw[tE hd,ha])
def e77(m:Nat)(M:xG)(c d:Int)(b:List (List zB))(a:yS)(e f g:Int):Option (zQ×Int×Int×Int):=if a.e_==0 then some ((zQ.mk 0 0 0 [] [] [] []),e,f,g)else some ((zQ.mk 0 0 0 [] [] [] []),a.e_,a.row_,a.at_)
theorem c77{m M c d b a e f g}:Cz (e77 m M c d b a e f g) 77 [.cells [.mp 1 0,.mp 3 0,zP (qS zK) b .no,ai a.e_,ai a.row_,ai a.at_],mB M 2,mR M,.cells [ai c,ai d]] [.mp 0 0,ai e,ai f,ai g] (λr=>xT r.1) (λr=>[.cells [.mp 1 0,.mp 3 0,zP (qS zK) b .no,ai r.2.1,ai r.2.2.1,ai r.2.2.2],mB M 2,mR M,.cells [ai c,ai d]]) 0:=fw func77<|rB 1 (fE 2)<|fE 1
def e79(t:Nat)(M:xG)(u v:Int)(b:List (List zB))(a:yS)(w:xO)(p e f n:Bool)(q m:Int)(g:yV)(c d:Nat)(s:Int):Option (zQ×Int×Int×Int×Int×Int):=zUe t M w.c_ q u v>>=λr1=>if r1.1 then if r1.2.1 !=0 then e77 t M r1.2.2.1 r1.2.2.2 b a r1.2.1 s m>>=λr5=>some (r5.1,r5.2.1,r5.2.2.1,r5.2.2.2,r1.2.2.1,r1.2.2.2)else some ((zQ.mk 2 s q [] [] [] []),a.e_,a.row_,a.at_,r1.2.2.1,r1.2.2.2)else if r1.2.1 !=0 then e77 t M r1.2.2.1 r1.2.2.2 b a r1.2.1 s m>>=λr8=>some (r8.1,r8.2.1,r8.2.2.1,r8.2.2.2,r1.2.2.1,r1.2.2.2)else e77 t M r1.2.2.1 r1.2.2.2 b a 17 s m>>=λr10=>some (r10.1,r10.2.1,r10.2.2.1,r10.2.2.2,r1.2.2.1,r1.2.2.2)
theorem c79{t M u v b a w p e f n q m g c d s}:Cz (e79 t M u v b a w p e f n q m g c d s) 79 [.cells [.mp 1 0,.mp 3 0,zP (qS zK) b .no,ai a.e_,ai a.row_,ai a.at_],mB M 2,mR M,.cells [ai u,ai v],.cells [ab p,ab e,ab f,ab n,ai q,ai m,.ms 5 0 c d 3],.row (zC zA g)] [.mp 0 0,qZ w,.mp 4 0,ai s] (λr=>xT r.1) (λr=>[.cells [.mp 1 0,.mp 3 0,zP (qS zK) b .no,ai r.2.1,ai r.2.2.1,ai r.2.2.2.1],mB M 2,mR M,.cells [ai r.2.2.2.2.1,ai r.2.2.2.2.2],.cells [ab p,ab e,ab f,ab n,ai q,ai m,.ms 5 0 c d 3],.row (zC zA g)]) 0:=fw func79<|rC 4 [1,2,3] yCf λ_=>rB 0 (rB 1 (rC 1 [0,1,2,3] c77 λ_=>fE 1)<|fE 3)<|rB 1 (rC 1 [0,1,2,3] c77 λ_=>fE 1)<|rC 2 [0,1,2,3] c77 λ_=>fE 1
mutual def e51:Nat->xG->Int->Int->(List (List zB))->yS->xO->Option (zQ×Int×Int×Int×Int×Int)|0,_,_,_,_,_,_=>none|u+1,M,w,y,a,b,t=>e76 u w y>>=λr1=>if r1.1 !=0 then e77 u M r1.2.1 r1.2.2 a b r1.1 0 0>>=λr4=>some (r4.1,r4.2.1,r4.2.2.1,r4.2.2.2,r1.2.1,r1.2.2)else O4 u M a b t r1 0 termination_by structural n=>n def O4:Nat->xG->(List (List zB))->yS->xO->(Int×Int×Int)->Int->Option (zQ×Int×Int×Int×Int×Int)
 |0,_,_,_,_,_,_=>none|u+1,M,a,b,t,r1,G=>if decide (G<(a.length:Int))then e78 u M r1.2.1 r1.2.2 a b t G>>=λr7=>if r7.1 then O4 u M a b t r1 (xF (G+1))else if r7.2.1 then e77 u M r1.2.1 r1.2.2 a b 13 G r7.2.2.2.2.2.1>>=λr11=>some (r11.1,r11.2.1,r11.2.2.1,r11.2.2.2,r1.2.1,r1.2.2)else if r7.2.2.1 then if r7.2.2.2.1 then e79 u M r1.2.1 r1.2.2 a b t r7.1 r7.2.1 r7.2.2.1 r7.2.2.2.1 r7.2.2.2.2.1 r7.2.2.2.2.2.1 r7.2.2.2.2.2.2.1 r7.2.2.2.2.2.2.2.1 r7.2.2.2.2.2.2.2.2 G>>=λr15=>some (r15.1,r15.2.1,r15.2.2.1,r15.2.2.2.1,r15.2.2.2.2.1,r15.2.2.2.2.2)else e80 u M r1.2.1 r1.2.2 a b t r7.1 r7.2.1 r7.2.2.1 r7.2.2.2.1 r7.2.2.2.2.1 r7.2.2.2.2.2.1 r7.2.2.2.2.2.2.1 r7.2.2.2.2.2.2.2.1 r7.2.2.2.2.2.2.2.2 G>>=λr17=>some (r17.1,r17.2.1,r17.2.2.1,r17.2.2.2.1,r17.2.2.2.2.1,r17.2.2.2.2.2)else e81 u t.c_>>=λr19=>zDS u r7.2.2.2.2.2.2.1 r7.2.2.2.2.2.2.2.1 r7.2.2.2.2.2.2.2.2>>=λr21=>e82 u t.args_>>=λr23=>some ((zQ.mk 1 G 0 r19 r21 r23 []),b.e_,b.row_,b.at_,r1.2.1,r1.2.2)else e77 u M r1.2.1 r1.2.2 a b 10 (-1) 0>>=λr25=>some (r25.1,r25.2.1,r25.2.2.1,r25.2.2.2,r1.2.1,r1.2.2)termination_by structural n=>n def e80:Nat->xG->Int->Int->(List (List zB))->yS->xO->Bool->Bool->Bool->Bool->Int->Int->yV->Nat->Nat->Int->Option (zQ×Int×Int×Int×Int×Int)|0,_,_,_,_,_,_,_,_,_,_,_,_,_,_,_,_=>none|u+1,M,w,y,a,b,t,p,e,f,m,s,q,g,c,d,z=>zGO u M t.c_ s w y>>=λr1=>match r1 with|Sum.inl y3=>if y3.2.1 !=0 then e77 u M y3.2.2.1 y3.2.2.2 a b y3.2.1 z q>>=λr5=>some (r5.1,r5.2.1,r5.2.2.1,r5.2.2.2,y3.2.2.1,y3.2.2.2)else B5 u M a t p e f m s q g c d z y3.1 (y3.1.length:Int) 0 b.e_ b.row_ b.at_ y3.2.2.1 y3.2.2.2 []|Sum.inr y7=>if y7.2.1 !=0 then e77 u M y7.2.2.1 y7.2.2.2 a b y7.2.1 z q>>=λr9=>some (r9.1,r9.2.1,r9.2.2.1,r9.2.2.2,y7.2.2.1,y7.2.2.2)else B5 u M a t p e f m s q g c d z y7.1 (y7.1.length:Int) 0 b.e_ b.row_ b.at_ y7.2.2.1 y7.2.2.2 []termination_by structural n=>n def B5:Nat->xG->(List (List zB))->xO->Bool->Bool->Bool->Bool->Int->Int->yV->Nat->Nat->Int->(List zR)->Int->Int->Int->Int->Int->Int->Int->(List yP)->Option (zQ×Int×Int×Int×Int×Int)|0,_,_,_,_,_,_,_,_,_,_,_,_,_,_,_,_,_,_,_,_,_,_=>none|u+1,M,a,t,p,e,f,m,s,q,g,c,d,z,J,K,H,i,A,B,C,D,E=>if decide (H<K)then zV J H>>=λx8=>zUD u M C D a (yS.mk i A B) t x8 z q>>=λr10=>yZ 184 E [r10.1]>>=λl12=>if r10.2.1 !=0 then some ((zQ.mk 0 0 0 [] [] [] []),r10.2.1,r10.2.2.1,r10.2.2.2.1,r10.2.2.2.2.1,r10.2.2.2.2.2)else B5 u M a t p e f m s q g c d z J K (xF (H+1)) r10.2.1 r10.2.2.1 r10.2.2.2.1 r10.2.2.2.2.1 r10.2.2.2.2.2 l12 else some ((zQ.mk 3 0 s [] [] [] E),i,A,B,C,D)termination_by structural n=>n def zUD:Nat->xG->Int->Int->(List (List zB))->yS->xO->zR->Int->Int->Option (yP×Int×Int×Int×Int×Int)|0,_,_,_,_,_,_,_,_,_=>none|u+1,M,w,y,a,b,t,v,z,L=>if v.yes_ then bG u M w y a b t v z L 0 []else some ((yP.mk v.con_ v.yes_ v.args_ v.solved_ (zQ.mk 0 0 0 [] [] [] [])),b.e_,b.row_,b.at_,w,y)termination_by structural n=>n def bG:Nat->xG->Int->Int->(List (List zB))->yS->xO->zR->Int->Int->Int->yV->Option (yP×Int×Int×Int×Int×Int)
 |0,_,_,_,_,_,_,_,_,_,_,_=>none|u+1,M,w,y,a,b,t,v,z,L,I,F=>if decide (I<(t.args_.length:Int))then zV t.args_ I>>=λx3=>zNs u v.solved_ x3>>=λr5=>if r5.2 !=0 then e77 u M w y a b r5.2 z L>>=λr8=>some ((yP.mk v.con_ v.yes_ v.args_ v.solved_ (zQ.mk 0 0 0 [] [] [] [])),r8.2.1,r8.2.2.1,r8.2.2.2,w,y)else yZ 40 F [r5.1]>>=λl10=>bG u M w y a b t v z L (xF (I+1)) l10 else e51 u M w y a b (xO.mk v.vars_ F)>>=λr12=>some ((yP.mk v.con_ v.yes_ v.args_ v.solved_ r12.1),r12.2.1,r12.2.2.1,r12.2.2.2.1,r12.2.2.2.2.1,r12.2.2.2.2.2)termination_by structural n=>n end
theorem nV:∀u:Nat,(∀M w y a b t,Cz (e51 u M w y a b t) 51 [.cells [.mp 1 0,.mp 3 0,zP (qS zK) a .no,ai b.e_,ai b.row_,ai b.at_],mB M 2,mR M,.cells [ai w,ai y]] [.mp 0 0,qZ t] (λr=>xT r.1) (λr=>[.cells [.mp 1 0,.mp 3 0,zP (qS zK) a .no,ai r.2.1,ai r.2.2.1,ai r.2.2.2.1],mB M 2,mR M,.cells [ai r.2.2.2.2.1,ai r.2.2.2.2.2]]) 0)/\(∀M a b t r1 G,Lz (O4 u M a b t r1 G) 4 f51 (pt 4021 f51) (λj=>sp j 89 0 [(0,.mp 0 0),(3,.mp 4 0),(4,.mp 5 0),(22,ai (a.length:Int)),(23,ai G)]) ⟨[(0,.cells [.mp 1 0,.mp 3 0,zP (qS zK) a .no,ai b.e_,ai b.row_,ai b.at_]),(1,mB M 2),(2,mR M),(3,.cells [ai r1.2.1,ai r1.2.2]),(4,.cells [zP zD t.c_ .no,zP zA t.args_ .no]),(5,.cells [ai 0,ai 0,ai 0,zP zD ([]:xQ) .nl,zP zA ([]:yV) .nl,zP zA ([]:yV) .nl,zP wA ([]:List yP) .nl])],6,[],0,[]⟩ (λr=>xT r.1) (λr=>[.cells [.mp 1 0,.mp 3 0,zP (qS zK) a .no,ai r.2.1,ai r.2.2.1,ai r.2.2.2.1],mB M 2,mR M,.cells [ai r.2.2.2.2.1,ai r.2.2.2.2.2]]) 0 [.blk 0,.seq (pt 63 f51)])/\(∀M w y a b t p e f m s q g c d z,Cz (e80 u M w y a b t p e f m s q g c d z) 80 [.cells [.mp 1 0,.mp 3 0,zP (qS zK) a .no,ai b.e_,ai b.row_,ai b.at_],mB M 2,mR M,.cells [ai w,ai y],.cells [ab p,ab e,ab f,ab m,ai s,ai q,.ms 5 0 c d 3],.row (zC zA g)] [.mp 0 0,qZ t,.mp 4 0,ai z] (λr=>xT r.1) (λr=>[.cells [.mp 1 0,.mp 3 0,zP (qS zK) a .no,ai r.2.1,ai r.2.2.1,ai r.2.2.2.1],mB M 2,mR M,.cells [ai r.2.2.2.2.1,ai r.2.2.2.2.2],.cells [ab p,ab e,ab f,ab m,ai s,ai q,.ms 5 0 c d 3],.row (zC zA g)]) 0)/\(∀M a t p e f m s q g c d z J K H i A B C D E,Lz (B5 u M a t p e f m s q g c d z J K H i A B C D E) 6 f80 (pt 65461 f80) (λj=>sp j 76 0 [(0,.mp 0 0),(2,.mp 4 0),(3,ai z),(5,.mp 6 0),(8,.mp 7 0),(11,.mp 8 0),(47,zP yT J .no),(48,ai K),(49,ai H)]) ⟨[(0,.cells [.mp 1 0,.mp 3 0,zP (qS zK) a .no,ai i,ai A,ai B]),(1,mB M 2),(2,mR M),(3,.cells [ai C,ai D]),(4,.cells [ab p,ab e,ab f,ab m,ai s,ai q,.ms 5 0 c d 3]),(5,.row (zC zA g)),(6,.cells [zP zD t.c_ .no,zP zA t.args_ .no]),(7,.cells [ai 0,ai 0,ai 0,zP zD ([]:xQ) .nl,zP zA ([]:yV) .nl,zP zA ([]:yV) .nl,zP wA ([]:List yP) .nl]),(8,.cells [ai 3,ai 0,ai s,zP zD ([]:xQ) .nl,zP zA ([]:yV) .nl,zP zA ([]:yV) .nl,zP wA E (.st 0 11)])],9,[0],1,[]⟩ (λr=>xT r.1) (λr=>[.cells [.mp 1 0,.mp 3 0,zP (qS zK) a .no,ai r.2.1,ai r.2.2.1,ai r.2.2.2.1],mB M 2,mR M,.cells [ai r.2.2.2.2.1,ai r.2.2.2.2.2],.cells [ab p,ab e,ab f,ab m,ai s,ai q,.ms 5 0 c d 3],.row (zC zA g)]) 0 [.blk 0,.seq (pt 1023 f80)])/\(∀M w y a b t v z L,Cz (zUD u M w y a b t v z L) 111 [.cells [.mp 1 0,.mp 3 0,zP (qS zK) a .no,ai b.e_,ai b.row_,ai b.at_],mB M 2,mR M,.cells [ai w,ai y]] [.mp 0 0,qZ t,mI v,ai z,ai L] (λr=>zBG r.1) (λr=>[.cells [.mp 1 0,.mp 3 0,zP (qS zK) a .no,ai r.2.1,ai r.2.2.1,ai r.2.2.2.1],mB M 2,mR M,.cells [ai r.2.2.2.2.1,ai r.2.2.2.2.2]]) 0)/\(∀M w y a b t v z L I F,Lz (bG u M w y a b t v z L I F) 4 f111 (pt 65461 f111) (λj=>sp j 67 0 [(0,.mp 0 0),(3,ai z),(4,ai L),(7,.mp 4 0),(10,.mp 5 0),(11,.mp 6 0),(12,.mp 7 0),(34,zP zA t.args_ .no),(35,ai (t.args_.length:Int)),(36,ai I)]) ⟨[(0,.cells [.mp 1 0,.mp 3 0,zP (qS zK) a .no,ai b.e_,ai b.row_,ai b.at_]),(1,mB M 2),(2,mR M),(3,.cells [ai w,ai y]),(4,.cells [ai v.con_,ab v.yes_,zP zY v.args_ .no,zP zD v.vars_ .no,zP zL v.solved_ .no]),(5,.cells [ai 0,ab false,zP zY ([]:yE) .nl,zP zL ([]:tT) .nl,ai 0,ai 0,ai 0,zP zD ([]:xQ) .nl,zP zA ([]:yV) .nl,zP zA ([]:yV) .nl,zP wA ([]:List yP) .nl]),(6,.cells [ai v.con_,ab v.yes_,zP zY v.args_ .no,zP zL v.solved_ .no,ai 0,ai 0,ai 0,zP zD ([]:xQ) .nl,zP zA ([]:yV) .nl,zP zA ([]:yV) .nl,zP wA ([]:List yP) .nl]),(7,.cells [zP zD v.vars_ .no,zP zA F (.st 0 3)])],8,[0],1,[]⟩ (λr=>zBG r.1) (λr=>[.cells [.mp 1 0,.mp 3 0,zP (qS zK) a .no,ai r.2.1,ai r.2.2.1,ai r.2.2.2.1],mB M 2,mR M,.cells [ai r.2.2.2.2.1,ai r.2.2.2.2.2]]) 0 [.blk 0,.seq (pt 1023 f111)]):=wF ⟨λ_ _ _ _ _ _=>cN,λ_ _ _ _ _ _=>lN,λ_ _ _ _ _ _ _ _ _ _ _ _ _ _ _ _=>cN,λ_ _ _ _ _ _ _ _ _ _ _ _ _ _ _ _ _ _ _ _ _ _=>lN,λ_ _ _ _ _ _ _ _ _=>cN,λ_ _ _ _ _ _ _ _ _ _ _=>lN⟩ λu ih=>⟨λM w y a b t=>fw func51<|rC 1 [3] c76 λ_=>rB 0 (rC 0 [0,1,2,3] c77 λ_=>fE 1)<|fH 2 [] [0,1,2,3,4,5] [] [0,3,4,22,23] (ih.2.1 _ _ _ _ _ _),λM a b t r1 G=>lw λ_=>rB 0 (rC 1 [0,1,2,3] c78 λ_=>rB 0 (lH 1 [] [0,1,2,3,4,5] [] [0,3,4,22,23] (ih.2.1 _ _ _ _ _ _))<|rB 0 (rC 1 [0,1,2,3] c77 λ_=>lE 1)<|rI (λh13=>rS (oB 0 h13)<|rB 0 (rC 1 [0,1,2,3,6,7] c79 λ_=>lE 1)<|rS (oB 0 h13)<|rC 1 [0,1,2,3,6,7] (ih.2.2.1 _ _ _ _ _ _ _ _ _ _ _ _ _ _ _ _) λ_=>lE 1) λh13=>rS (oB 0 h13)<|rS (oB 0 h13)<|rC 1 [] c81 λ_=>rS (gP 0)<|rC 0 [7] zUA λ_=>rS (gP 0)<|rC 0 [] c82 λ_=>lE 1)<|rC 0 [0,1,2,3] c77 λ_=>lE 1,λM w y a b t p e f m s q g c d z=>fw func80<|rC 4 [1,2,3] yAn<|sD (λ_=>rB 2 (rC 1 [0,1,2,3] c77 λ_=>fE 1)<|fH 3 [(some 8,6,11)] [0,1,2,3,4,5,6,7,8] [0] [0,2,3,5,8,11,47,48,49] (ih.2.2.2.1 _ _ _ _ _ _ _ _ _ _ _ _ _ _ _ _ _ _ _ _ _ _)) λ_=>rB 2 (rC 1 [0,1,2,3] c77 λ_=>fE 1)<|fH 3 [(some 8,6,11)] [0,1,2,3,4,5,6,7,8] [0] [0,2,3,5,8,11,47,48,49] (ih.2.2.2.1 _ _ _ _ _ _ _ _ _ _ _ _ _ _ _ _ _ _ _ _ _ _),λM a t p e f m s q g c d z J K H i A B C D E=>lw λ_=>rB 0 (rA 0 (zVz (o:=.no)) λ_=>rS (gP 2)<|rC 3 [0,1,2,3] (ih.2.2.2.2.1 _ _ _ _ _ _ _ _ _) λr10=>rS (oS 0 (xR fO [r10.1]))<|rW (λh13=>oP 0 (zYY h13 (by simp))) λ_=>rB 2 (lE 1)<|lH 1 [] [0,1,2,3,4,5,6,7,8] [1] [0,2,3,5,8,11,47,48,49] (ih.2.2.2.1 _ _ _ _ _ _ _ _ _ _ _ _ _ _ _ _ _ _ _ _ _ _))<|lE 2,λM w y a b t v z L=>fw func111<|rB 5 (fH 5 [(some 8,1,3)] [0,1,2,3,5,6,7,8] [0] [0,3,4,7,10,11,12,34,35,36] (ih.2.2.2.2.2 _ _ _ _ _ _ _ _ _ _ _))<|fE 3,λM w y a b t v z L I F=>lw λ_=>rB 0 (rA 0 (wE (o:=.no)) λ_=>rC 4 [] zRv λr5=>rB 3 (rC 0 [0,1,2,3] c77 λ_=>lE 2)<|rS (oS 2 (xR wC [r5.1]))<|rW (λh11=>oP 0 (vZ h11 (by simp))) λ_=>lH 2 [] [0,1,2,3,4,5,6,7] [1] [0,3,4,7,10,11,12,34,35,36] (ih.2.2.2.2.2 _ _ _ _ _ _ _ _ _ _ _))<|rC 1 [0,1,2,3] (ih.1 _ _ _ _ _ _) λ_=>lE 3⟩
theorem c51{u M w y a b t}:Cz (e51 u M w y a b t) 51 [.cells [.mp 1 0,.mp 3 0,zP (qS zK) a .no,ai b.e_,ai b.row_,ai b.at_],mB M 2,mR M,.cells [ai w,ai y]] [.mp 0 0,qZ t] (λr=>xT r.1) (λr=>[.cells [.mp 1 0,.mp 3 0,zP (qS zK) a .no,ai r.2.1,ai r.2.2.1,ai r.2.2.2.1],mB M 2,mR M,.cells [ai r.2.2.2.2.1,ai r.2.2.2.2.2]]) 0:=(nV _).1 _ _ _ _ _ _
end Go.Proofs.YtohkcbcddindpaaGreat
namespace Go.Proofs.YtohkcbcddindpaaGreat
open Go Go.RowKit Go.Shelf
attribute[local go_sem]Oper.semAt_some
theorem zDT{F:Fence}(hd:F.depth=none)(k:Nat):F.room k:=λd h=>by rw[hd]at h;cases h
theorem RoundIn.anyDepth{F:Fence}(hd:F.depth=none){m m':Nat}{P:Program}{l:Nat}{f:FuncId}{tmps:Array Value}{assign body:Code}{w:World}{R:Ending->World->Prop}(h:RoundIn F m P l f tmps assign body w R):RoundIn F m' P l f tmps assign body w R:=⟨h.1,λc cs _=>h.2 c cs (zDT hd _)⟩
theorem YieldAt.anyDepth{F:Fence}(hd:F.depth=none){m:Nat}(m':Nat){P:Program}{l:Nat}{args:Array Value}{W:World}{R:Ending->World->Prop}(h:YieldAt F m P l args W R):YieldAt F m' P l args W R:=by obtain⟨fn,tmps,assign,body,hy,hR⟩:=h;exact⟨fn,tmps,assign,body,hy,RoundIn.anyDepth hd hR⟩
structure SV where
 p:Option Addr
 n:Nat
 m:Nat
structure TN where
 k:Int
 r:Int
 v:Int
 a:SV
 b:SV
 c:SV
 d:SV
def TN.cs(x:TN):Array Value:=#[.int .i64 x.k,.int .i64 x.r,.int .i64 x.v,.slice x.a.p x.a.n x.a.m,.slice x.b.p x.b.n x.b.m,.slice x.c.p x.c.n x.c.m,.slice x.d.p x.d.n x.d.m]
mutual inductive TT where|mk(x:TN)(ks:Y1)inductive Y1 where|nil|cons(con:Int)(yes:Bool)(a s:SV)(t:TT)(ks:Y1)end
def TT.x:TT->TN|.mk x _=>x
def Y1.len:Y1->Nat|.nil=>0|.cons _ _ _ _ _ ks=>ks.len+1
mutual def TT.nodes:TT->List TN|.mk x ks=>x::ks.nodes def Y1.nodes:Y1->List TN|.nil=>[]|.cons _ yes _ _ t ks=>(if yes=true then t.nodes else[])++ks.nodes end
mutual def O5(n₀:Nat)(W:World):TT->Prop|.mk x ks=>x.d.n=ks.len/\ks.len*184<=140737488351232/\∃b o,(ks.len≠0->x.d.p=some ⟨b,o,none⟩)/\(ks.len≠0->b<n₀)/\J2 n₀ W b o ks def J2(n₀:Nat)(W:World)(b o:Nat):Y1->Prop|.nil=>True|.cons con yes a s t ks=>W.cell? ⟨b,o,none⟩=some (.int .i64 con)/\W.cell? ⟨b,o+1,none⟩=some (.bool yes)/\W.cell? ⟨b,o+2,none⟩=some (.slice a.p a.n a.m)/\W.cell? ⟨b,o+3,none⟩=some (.slice s.p s.n s.m)/\W.cell? ⟨b,o+4,none⟩=some (.int .i64 t.x.k)/\W.cell? ⟨b,o+5,none⟩=some (.int .i64 t.x.r)/\W.cell? ⟨b,o+6,none⟩=some (.int .i64 t.x.v)/\W.cell? ⟨b,o+7,none⟩=some (.slice t.x.a.p t.x.a.n t.x.a.m)/\W.cell? ⟨b,o+8,none⟩=some (.slice t.x.b.p t.x.b.n t.x.b.m)/\W.cell? ⟨b,o+9,none⟩=some (.slice t.x.c.p t.x.c.n t.x.c.m)/\W.cell? ⟨b,o+10,none⟩=some (.slice t.x.d.p t.x.d.n t.x.d.m)/\O5 n₀ W t/\J2 n₀ W b (o+11) ks end
def Bl(n₀:Nat)(A B:World):Prop:=∀(b i:Nat)(v:Value),b<n₀->A.cell? ⟨b,i,none⟩=some v->B.cell? ⟨b,i,none⟩=some v
theorem Bl.trans{n₀:Nat}{A B C:World}(h:Bl n₀ A B)(k:Bl n₀ B C):Bl n₀ A C:=λb i v hb e=>k b i v hb (h b i v hb e)
theorem Bl.grown{n₀:Nat}{A B:World}(hn:n₀<=A.heap.size)(h:∀k,k<A.heap.size->B.heap[k]?=A.heap[k]?):Bl n₀ A B:=λb i v hb e=>(World.cell?_of_block (h b (by omega))).trans e
mutual theorem O5.below{n₀:Nat}{A B:World}(h:Bl n₀ A B):∀{t:TT},O5 n₀ A t->O5 n₀ B t|.mk _ _,⟨h1,h0,b,o,h2,h3,h4⟩=>⟨h1,h0,b,o,h2,h3,J2.below h h3 h4⟩theorem J2.below{n₀:Nat}{A B:World}(h:Bl n₀ A B){b:Nat}:∀{o:Nat}{ks:Y1},(ks.len≠0->b<n₀)->J2 n₀ A b o ks->J2 n₀ B b o ks|_,.nil,_,_=>trivial|_,.cons _ _ _ _ _ _,hb,⟨c0,c1,c2,c3,c4,c5,c6,c7,c8,c9,c10,ht,hk⟩=>have hb:b<n₀:=hb (by simp[Y1.len])
 ⟨h _ _ _ hb c0,h _ _ _ hb c1,h _ _ _ hb c2,h _ _ _ hb c3,h _ _ _ hb c4,h _ _ _ hb c5,h _ _ _ hb c6,h _ _ _ hb c7,h _ _ _ hb c8,h _ _ _ hb c9,h _ _ _ hb c10,O5.below h ht,J2.below h (λ_=>hb) hk⟩end
def B6(n₀:Nat)(E:Nat->Prop)(A B:World):Prop:=A.heap.size<=B.heap.size/\Bl n₀ A B/\∀k i v,¬E k->i<7->A.cell? ⟨k,i,none⟩=some v->B.cell? ⟨k,i,none⟩=some v
theorem B6.trans{n₀:Nat}{E:Nat->Prop}{A B C:World}(h:B6 n₀ E A B)(k:B6 n₀ E B C):B6 n₀ E A C:=⟨Nat.le_trans h.1 k.1,h.2.1.trans k.2.1,λj i v he hi e=>k.2.2 j i v he hi (h.2.2 j i v he hi e)⟩
def zJx(F:Fence)(l n₀ N B:Nat)(J Jx:List TN->World->Prop)(t:TT):Prop:=∀(n:Nat)(pre:List TN)(W:World),O5 n₀ W t->B<=W.heap.size->J pre W->pre.length+t.nodes.length<=N->CallsIn F n Tryz.prog 56 #[.agg t.x.cs,.func (.yield l) #[] #[]] W λe W'=>(e=.returned (.bool true)/\J (pre++t.nodes) W'/\Bl n₀ W W'/\W.heap.size<=W'.heap.size)\/(e=.returned (.bool false)/\∃q,q<+:t.nodes/\Jx (pre++q) W')
def Y2(F:Fence)(l n₀ N B:Nat)(J Jx:List TN->World->Prop):Y1->Prop|.nil=>True|.cons _ _ _ _ t ks=>zJx F l n₀ N B J Jx t/\Y2 F l n₀ N B J Jx ks
def J3(F:Fence)(l n₀ N:Nat)(J Jx:List TN->World->Prop)(E:Nat->Prop):Prop:=∀m pre x W,J pre W->pre.length<N->YieldAt F m Tryz.prog l #[.agg x.cs] W λe W'=>(e=.returned (.bool true)/\J (pre++[x]) W'/\B6 n₀ E W W')\/(e=.returned (.bool false)/\Jx (pre++[x]) W')
set_option maxRecDepth 100000 in set_option maxHeartbeats 3200000 in theorem zUE(F:Fence)(hd:F.depth=none)(h56:F.fn 56)(hro:F.round=none)(l n₀ N B:Nat)(J Jx:List TN->World->Prop)(E:Nat->Prop)(hn:n₀<=B)(hJ:AbidesFrom B J)(hE:∀k,E k->k<B)(hY:J3 F l n₀ N J Jx E)(x:TN)(ks:Y1)(hks:Y2 F l n₀ N B J Jx ks):zJx F l n₀ N B J Jx (.mk x ks):=by
 intro n pre W ht hB hj hN;obtain⟨hn6,hbig,b,o,hp,hb,hk⟩:=ht;replace hn6:=hn6.symm;have hdd:∀k:Nat,(F.depth.isSome=true->1<=k):=λk h=>by rw[hd]at h;cases h
 have hN':pre.length+(ks.nodes.length+1)<=N:=by simpa[TT.nodes]using hN
 have hj1:J pre (W.alloc (.cells x.cs 36)):=hJ pre W _ none hj (World.grownBy_alloc W _ none) (λr e=>by cases e);have hbox:∀i v,x.cs[i]?=some v->(W.alloc (.cells x.cs 36)).cell? ⟨W.heap.size,i,none⟩=some v:=λi v h=>by have:=World.alloc_heap_new W (.cells x.cs 36);simp only[World.cell?];rw[this];exact h
 have hy0:=YieldAt.mono (R':=λe W2=>(e=.returned (.bool true)/\J (pre++[x]) W2/\Bl n₀ W W2/\W.heap.size<=W2.heap.size/\W2.cell? ⟨W.heap.size,6,none⟩=some (.slice x.d.p x.d.n x.d.m))\/(e=.returned (.bool false)/\Jx (pre++[x]) W2)) (hY (n-1) pre x _ hj1 (by omega)) λe W2 h=>h.elim (λ⟨h1,h2,h3⟩=>.inl ⟨h1,h2,(Bl.grown (by omega) (λk hk=>Below.heap_alloc W _ k hk)).trans h3.2.1,by have:=h3.1;simp at this;omega,h3.2.2 _ _ _ (λhe=>by have:=hE _ he;omega) (by decide) (hbox 6 _ (by simp[TN.cs]))⟩) .inr;obtain⟨fn,tmps,assign,body,hy,hR⟩:=hy0;simp only[TN.cs,TT.x]at hy hR⊢;refine callsIn_of_wp Tryz.func56 rfl h56 ?_ hro;simp only[Tryz.ntmps56,List.size_toArray,List.length_cons,List.length_nil,Nat.reduceAdd,Nat.reduceSub,Array.replicate_succ,Array.replicate_zero,List.push_toArray,List.append_toArray,List.nil_append,List.cons_append];gi_wp2;refine hR.mono ?_;clear hR hy hbox hj1;rintro e W2(⟨rfl,hJ2,hb2,hB2,c6⟩|⟨rfl,hx2⟩);rotate_left;·gi_wp2;go_ret;exact .inr ⟨rfl,[x],⟨ks.nodes,rfl⟩,hx2⟩
 gi_wp2;gi_loopw[14](λp wr=>∃(i:Nat)(rest:Y1)(dn:List TN),p=.int .i64 i/\i+rest.len=x.d.n/\J2 n₀ wr b (o+i*11) rest/\Y2 F l n₀ N B J Jx rest/\ks.nodes=dn++rest.nodes/\J (pre++x::dn) wr/\Bl n₀ W wr/\W.heap.size<=wr.heap.size)(λp _=>x.d.n-(intOf p).toNat);case atStart=>exact⟨0,ks,[],rfl,by omega,by simpa using J2.below hb2 hb hk,hks,rfl,hJ2,hb2,hB2⟩
 case round=>obtain⟨i,rest,dn,rfl,hir,hks',hall,hnd,hJs,hbl,hBs⟩:=hrel;cases rest with|nil=>simp only[Y1.len,Nat.add_zero]at hir;subst hir;gi_wp2;go_ret;exact .inl ⟨rfl,by simpa[TT.nodes,hnd,Y1.nodes]using hJs,hbl,hBs⟩|cons con yes a s t rest=>
  simp only[Y1.len]at hir;have hlt:i<x.d.n:=by omega
  replace hb:=hb (by omega);have hdp:=hp (by omega);obtain⟨c0,c1,c2,c3,c4,c5,c6',c7,c8,c9,c10,ht,hk'⟩:=hks';obtain⟨hat,hall⟩:=hall;have hk2:J2 n₀ wr b (o+(i+1)*11) rest:=by rw[show o+(i+1)*11=o+i*11+11 by omega];exact hk'
  have hJa:∀X,J (pre++x::dn) (wr.alloc X):=λX=>hJ _ wr _ none hJs (World.grownBy_alloc wr _ none) (λr e=>by cases e);have hBw:B<=wr.heap.size:=by omega
  have hBa:∀X,Bl n₀ wr (wr.alloc X):=λX=>Bl.grown (by omega) (λk hk=>Below.heap_alloc wr _ k hk);cases yes with|true=>
   have hnl:pre.length+(dn.length+(t.nodes.length+rest.nodes.length)+1)<=N:=by rw[hnd]at hN';simp only[Y1.nodes,if_true,List.length_append]at hN';omega
   have hc:=hat (n-1) (pre++x::dn) _ (ht.below (hBa (.cells #[.int .i64 con,.bool true,.slice a.p a.n a.m,.slice s.p s.n s.m,.int .i64 t.x.k,.int .i64 t.x.r,.int .i64 t.x.v,.slice t.x.a.p t.x.a.n t.x.a.m,.slice t.x.b.p t.x.b.n t.x.b.m,.slice t.x.c.p t.x.c.n t.x.c.m,.slice t.x.d.p t.x.d.n t.x.d.m] 163))) (by simp;omega) (hJa _) (by simp;omega);simp only[TN.cs]at hc;gi_wp2_with((try refine⟨hdd _,?_⟩);gi_at_call 56;refine hc.mono ?_;clear hc;rintro e W3(⟨rfl,hJ3,hb3,hs3⟩|⟨rfl,q,hq,hx3⟩))
   ·rw[<-hdp];refine⟨⟨_,_,_,_,_,_,_,_,_,_,_,_,_,_,_,_,?rel,rfl⟩,?measure⟩;case rel=>exact⟨i+1,rest,dn++t.nodes,by simp,by omega,J2.below hb3 (λ_=>hb) (hk2.below (hBa _) λ_=>hb),hall,by rw[hnd];simp[Y1.nodes],by simpa using hJ3,(hbl.trans (hBa _)).trans hb3,by simp at hs3;omega⟩
    case measure=>simp[intOf];omega
   ·go_ret;obtain⟨r,hr⟩:=hq;exact .inr ⟨rfl,x::(dn++q),⟨r++rest.nodes,by simp[TT.nodes,hnd,Y1.nodes,<-hr]⟩,by simpa using hx3⟩|false=>
   gi_wp2;rw[<-hdp];refine⟨⟨_,_,_,_,_,_,_,_,_,_,_,_,_,_,_,_,?rel2,rfl⟩,?measure2⟩;case rel2=>exact⟨i+1,rest,dn,by simp,by omega,hk2.below (hBa _) (λ_=>hb),hall,by rw[hnd];simp[Y1.nodes],hJa _,hbl.trans (hBa _),by simp;omega⟩
   case measure2=>simp[intOf];omega
mutual theorem zLy(F:Fence)(hd:F.depth=none)(h56:F.fn 56)(hro:F.round=none)(l n₀ N B:Nat)(J Jx:List TN->World->Prop)(E:Nat->Prop)(hn:n₀<=B)(hJ:AbidesFrom B J)(hE:∀k,E k->k<B)(hY:J3 F l n₀ N J Jx E):∀t,zJx F l n₀ N B J Jx t|.mk x ks=>zUE F hd h56 hro l n₀ N B J Jx E hn hJ hE hY x ks (zHx F hd h56 hro l n₀ N B J Jx E hn hJ hE hY ks)theorem zHx(F:Fence)(hd:F.depth=none)(h56:F.fn 56)(hro:F.round=none)(l n₀ N B:Nat)(J Jx:List TN->World->Prop)(E:Nat->Prop)(hn:n₀<=B)(hJ:AbidesFrom B J)(hE:∀k,E k->k<B)(hY:J3 F l n₀ N J Jx E):∀ks,Y2 F l n₀ N B J Jx ks|.nil=>trivial|.cons _ _ _ _ t ks=>⟨zLy F hd h56 hro l n₀ N B J Jx E hn hJ hE hY t,zHx F hd h56 hro l n₀ N B J Jx E hn hJ hE hY ks⟩end
set_option maxRecDepth 100000 in set_option maxHeartbeats 1600000 in theorem zNe(F:Fence)(hd:F.depth=none)(h55:F.fn 55)(h56:F.fn 56)(hro:F.round=none)(n l Bt n₀:Nat)(t:TT)(J Jx:List TN->World->Prop)(E:Nat->Prop)(W:World)(hn:n₀<=W.heap.size)(hJ:AbidesFrom W.heap.size J)(hE:∀k,E k->k<W.heap.size)(hY:J3 F l n₀ t.nodes.length J Jx E)(hc:∀i v,t.x.cs[i]?=some v->W.cell? ⟨Bt,i,none⟩=some v)(hT:O5 n₀ W t)(h0:J [] W):CallsIn F n Tryz.prog 55 #[.func (.yield l) #[] #[],.pointer (some ⟨Bt,0,none⟩)] W λe W'=>(∃v,e=.returned v)/\((∃ys,ys=t.nodes/\J ys W')\/(∃pre,pre<+:t.nodes/\Jx pre W')):=by
 have hdd:∀k:Nat,(F.depth.isSome=true->1<=k):=λk h=>by rw[hd]at h;cases h
 have hp:=zLy F hd h56 hro l n₀ t.nodes.length W.heap.size J Jx E hn hJ hE hY t (n-1) [] W hT (Nat.le_refl _) h0 (by simp);have c0:=hc 0 _ rfl;have c1:=hc 1 _ rfl;have c2:=hc 2 _ rfl;have c3:=hc 3 _ rfl;have c4:=hc 4 _ rfl;have c5:=hc 5 _ rfl;have c6:=hc 6 _ rfl;simp only[TN.cs]at hp;refine callsIn_of_wp Tryz.func55 rfl h55 ?_ hro;simp only[Tryz.ntmps55,List.size_toArray,List.length_cons,List.length_nil,Nat.reduceAdd,Nat.reduceSub,Array.replicate_succ,Array.replicate_zero,List.push_toArray,List.append_toArray,List.nil_append,List.cons_append];gi_wp2_with((try refine⟨hdd _,?_⟩);gi_at_call 56;refine hp.mono ?_;clear hp;rintro e W1(⟨rfl,hJ1,_⟩|⟨rfl,q,hq,hx⟩));·go_end0;exact⟨⟨_,rfl⟩,.inl ⟨_,rfl,by simpa using hJ1⟩⟩
 ·go_end0;exact⟨⟨_,rfl⟩,.inr ⟨q,hq,by simpa using hx⟩⟩
set_option maxRecDepth 100000 in set_option maxHeartbeats 1600000 in theorem zAM(F:Fence)(n:Nat)(h:F.fn 33)(hro:F.round=none)(cs:Array Value)(w:World):CallsIn F n Tryz.prog 33 #[.agg cs] w λe w'=>e=.returned (.func (.func 55) #[] #[.pointer (some ⟨w.heap.size,0,none⟩)])/\w'=w.alloc (.cells cs 36):=by refine callsIn_of_wp Tryz.func33 rfl h ?_ hro;simp only[Tryz.ntmps33,List.size_toArray,List.length_cons,List.length_nil,Nat.reduceAdd,Nat.reduceSub,Array.replicate_succ,Array.replicate_zero,List.push_toArray,List.append_toArray,List.nil_append,List.cons_append];gi_wp2;go_ret;exact⟨rfl,rfl⟩
theorem eX(F:Fence)(hd:F.depth=none)(n:Nat)(h55:F.fn 55)(h56:F.fn 56)(hro:F.round=none)(Bt n₀:Nat)(t:TT)(E:Nat->Prop)(w:World)(hBt:Bt<w.heap.size)(hn₀:n₀<=w.heap.size)(hc:∀i v,t.x.cs[i]?=some v->w.cell? ⟨Bt,i,none⟩=some v)(hT:O5 n₀ w t)(hE:∀k,E k->k<w.heap.size):SeqStopsK F n Tryz.prog 55 #[.pointer (some ⟨Bt,0,none⟩)] (λx:TN=>#[Value.agg x.cs]) (B6 n₀ E) (λys=>ys=t.nodes) (λpre=>pre<+:t.nodes) t.nodes.length w:=λl J Jx W hW hJ hJx hY h0=>zNe F hd h55 h56 hro n l Bt n₀ t J Jx E W (by have:=hW.size;omega) hJ (λk hk=>Nat.lt_of_lt_of_le (hE k hk) hW.size) (λm pre x W1 h1 h2=>YieldAt.anyDepth hd m (hY pre x W1 h1 h2)) (λi v h=>(hW.cell (p:=⟨Bt,i,none⟩) hBt).trans (hc i v h)) (hT.below λb i v hb e=>(hW.cell (p:=⟨b,i,none⟩) (by show b<_;omega)).trans e) h0
attribute[local go_sem]Oper.semAt_some
theorem zJw(W:World)(v:Value)(t:TypeId):(W.alloc (.cells #[v] t)).cell? ⟨W.heap.size,0,none⟩=some v/\(W.alloc (.cells #[v] t)).frozen? ⟨W.heap.size,0,none⟩=false:=by
 have h:=World.alloc_heap_new W (.cells #[v] t);constructor;·simp only[World.cell?];rw[h];rfl
 ·simp only[World.frozen?];rw[h];rfl
theorem gF{W:World}{a:Addr}{v:Value}(o:Obj)(h:W.cell? a=some v):(W.alloc o).cell? a=some v:=cell_kept h (World.grownBy_alloc W o none) (λr e=>by cases e)
theorem zAN{W:World}{a:Addr}{v:Value}(o:Obj)(h:W.cell? a=some v)(hf:W.frozen? a=false):(W.alloc o).frozen? a=false:=(frozen_kept h (World.grownBy_alloc W o none) (λr e=>by cases e)).trans hf
theorem kM(W:World)(cs:Array Value)(t:TypeId)(i:Nat)(v:Value)(h:cs[i]?=some v):(W.alloc (.cells cs t)).cell? ⟨W.heap.size,i,none⟩=some v:=by have:=World.alloc_heap_new W (.cells cs t);simp only[World.cell?];rw[this];exact h
theorem B6.putObj{n₀:Nat}{E:Nat->Prop}(W:World)(l:Nat)(o o':Obj)(h:W.heap[l]?=some o)(ho:o.isCells=false):B6 n₀ E W (W.putObj l o'):=by have key:∀(k i:Nat)(v:Value),W.cell? ⟨k,i,none⟩=some v->(W.putObj l o').cell? ⟨k,i,none⟩=some v:=λk i v e=>cell_kept e (grownBy_putObj' W l o') (λr e=>by cases e;exact⟨o,h,ho⟩);exact⟨by simp,λb i v _ e=>key b i v e,λk i v _ _ e=>key k i v e⟩
theorem B6.setCell{n₀:Nat}{E:Nat->Prop}(W:World)(k:Nat)(v:Value)(hE:E k)(hk:n₀<=k):B6 n₀ E W (W.setCell ⟨k,0,none⟩ v):=by have key:∀(b i:Nat)(u:Value),b≠k->W.cell? ⟨b,i,none⟩=some u->(W.setCell ⟨k,0,none⟩ v).cell? ⟨b,i,none⟩=some u:=λb i u hb e=>(World.cell?_of_block (Below.heap_setCell _ _ _ b hb)).trans e;exact⟨by simp,λb i u hb e=>key b i u (by omega) e,λb i u hb _ e=>key b i u (λh=>hb (h▸hE)) e⟩
set_option maxRecDepth 100000 in set_option maxHeartbeats 3200000 in theorem zUF(F:Fence)(hd:F.depth=none)(n:Nat)(h10:F.fn 10)(h33:F.fn 33)(h55:F.fn 55)(h56:F.fn 56)(hro:F.round=none)(hn:3<=n)(t:TT)(w:World)(hT:O5 w.heap.size w t):CallsIn F n Tryz.prog 10 #[.agg t.x.cs] w λe W'=>e=.returned (.int .i64 ((min t.nodes.length 8193:Nat):Int))/\Below w.heap.size w W':=by
 have h1:1<=n:=by omega
 have hdd:∀k:Nat,(F.depth.isSome=true->1<=k):=λk h=>by rw[hd]at h;cases h
 have hnd:=zAM F (n-1) h33 hro;simp only[TN.cs];refine callsIn_of_wp_marks Tryz.func10 rfl h10 ?_ hro;simp only[Tryz.ntmps10,List.size_toArray,List.length_cons,List.length_nil,Nat.reduceAdd,Nat.reduceSub,Array.replicate_succ,Array.replicate_zero,List.push_toArray,List.append_toArray,List.nil_append,List.cons_append];gi_wp2_with((try refine⟨hdd _,?_⟩);gi_at_call 33;refine(hnd _ _).mono ?_;rintro e w'⟨rfl,rfl⟩);obtain⟨cs,hcs⟩:∃cs:Array Value,#[.int .i64 t.x.k,.int .i64 t.x.r,.int .i64 t.x.v,.slice t.x.a.p t.x.a.n t.x.a.m,.slice t.x.b.p t.x.b.n t.x.b.m,.slice t.x.c.p t.x.c.n t.x.c.m,.slice t.x.d.p t.x.d.n t.x.d.m]=cs:=⟨_,rfl⟩;rw[hcs];have hcs':t.x.cs=cs:=hcs;have hs:=zJw (w.alloc (.cells cs 36)) (.int .i64 0) 3;rw[World.size_alloc]at hs;have hB0:Below w.heap.size w (((w.alloc (.cells cs 36)).alloc (.cells #[.int .i64 0] 3)).alloc (.cells cs 36)):=(((Below.refl _ w).alloc (Nat.le_refl _) _).alloc (by simp) _).alloc (by simp;omega) _;refine wpIn_rangeFunc_ownF hro h1 (gf:=55) (lb:=#[.pointer (some ⟨w.heap.size+1+1,0,none⟩)]) rfl h55 (enters_of Tryz.func55 (by kernel_rfl) rfl) (eX F hd (n-1) h55 h56 hro (w.heap.size+1+1) w.heap.size t (λk=>k=w.heap.size+1) _ (by simp) (by simp only[World.size_alloc];omega) (λi v h=>by have:=kM ((w.alloc (.cells cs 36)).alloc (.cells #[.int .i64 0] 3)) cs 36 i v (hcs'▸h);simpa using this) (hT.below λb i v hb e=>(hB0.cell (p:=⟨b,i,none⟩) hb).trans e) (by rintro k rfl;simp only[World.size_alloc];omega)) B6.trans (λW l o o' _ h ho _=>B6.putObj W l o o' h ho) (Below.refl _ _) (λ_=>rfl) (λpre W=>(W.cell? ⟨w.heap.size+1,0,none⟩=some (.int .i64 (pre.length:Int))/\W.frozen? ⟨w.heap.size+1,0,none⟩=false/\pre.length<=8192)/\Below w.heap.size w W) (λc pre W=>(W.cell? ⟨w.heap.size+1,0,none⟩=some (.int .i64 8193)/\W.frozen? ⟨w.heap.size+1,0,none⟩=false/\pre.length=8193/\c=.exit 0)/\Below w.heap.size w W) (OwnFrom.and (Go.Own.from (λs A B row hs hg hr=>⟨cell_kept hs.1 hg hr,(frozen_kept hs.1 hg hr).trans hs.2.1,hs.2.2⟩) _) (ownFrom_below (Nat.le_refl _) (by simp;omega))) (λc=>OwnFrom.and (Go.Own.from (λs A B row hs hg hr=>⟨cell_kept hs.1 hg hr,(frozen_kept hs.1 hg hr).trans hs.2.1,hs.2.2⟩) _) (ownFrom_below (Nat.le_refl _) (by simp;omega))) ⟨⟨gF _ hs.1,zAN _ hs.1 hs.2,Nat.zero_le _⟩,hB0⟩ (λx=>{tmps:=#[.agg cs,.pointer (some ⟨w.heap.size,0,none⟩),.int .i64 0,.pointer (some ⟨w.heap.size+1,0,none⟩),.agg cs,.func (.func 55) #[] #[.pointer (some ⟨w.heap.size+1+1,0,none⟩)],.agg x.cs,undef,undef,undef,undef,undef],defers:=[]}) ?assign ?body ?done ?stop;case assign=>intro l x W K hK;gi_wp2;first|exact hK|simpa using hK
 case body=>
  rintro l pre x W⟨⟨hc,hf,hle⟩,hB⟩_;gi_wp2
  ·have e:pre.length=8192:=by omega
   refine⟨KeepsOthers.setCell _ _ _,⟨?_,by rw[World.frozen?_setCell];exact hf,by simp[e],rfl⟩,hB.setCell (p:=⟨w.heap.size+1,0,none⟩) (by simp) _⟩;rw[World.cell?_setCell_same' _ _ _ (by rw[hc];rfl),e];rfl
  ·exact⟨KeepsOthers.setCell _ _ _,B6.setCell W _ _ rfl (by omega),⟨by rw[World.cell?_setCell_same' _ _ _ (by rw[hc];rfl)];simp,by rw[World.frozen?_setCell];exact hf,by simp;omega⟩,hB.setCell (p:=⟨w.heap.size+1,0,none⟩) (by simp) _⟩
 case done=>rintro D ys W hD rfl⟨⟨hc,_,hle⟩,hB⟩hK;gi_wp2;refine⟨by simp,.inl ⟨_,_,rfl,run_takeDeferred hK,?_⟩⟩;exact⟨_,results_tmp rfl _ _ _,by rw[Nat.min_eq_left (by omega)];rfl,hB.trans (belowK_b (w:=w) (Nat.le_refl _) W D _ _ (by simp at hD;omega) hK rfl rfl)⟩
 case stop=>rintro D c pre W hD hp⟨⟨hc,_,hle,rfl⟩,hB⟩hK;have hlen:=hp.length_le;gi_wp2;refine⟨by simp,.inl ⟨_,_,rfl,run_takeDeferred hK,?_⟩⟩;exact⟨_,results_tmp rfl _ _ _,by rw[Nat.min_eq_right (by omega)];rfl,hB.trans (belowK_b (w:=w) (Nat.le_refl _) W D _ _ (by simp at hD;omega) hK rfl rfl)⟩
attribute[local go_sem]Oper.semAt_some
theorem zRk{P:Program}(w:World)(base:Nat)(t ty e:TypeId)(i:TypeInfo)(z:Value)(size bytes:Nat)(ht:P.underlying t=some (.slice e))(hi:P.info? e=some i)(hz:i.zero=some z)(hsize:i.size=size)(hby:i.bytes=bytes)(hzs:z.cells.size=size)(hsz:0<size)(v:Value)(n:Nat)(xs:List Value)(hown:w.ownsRow base e size v n xs)(a:Addr)(m c:Nat)(news:List Value)(hl:news.length=m*size)(hnews:∀j u,news[j]?=some u->w.cell? (a.add j)=some u)(h1:∀u∈news,u.oneCell'=true)(h63:n+m<=maxLen)(hbytes:(n+m)*bytes<=140737488355328)(hbase:base<=w.heap.size):∃v' w',(Builtin.append_ #[t,t] ty #[v,.slice (some a) m c]).run P w=.ok v' w'/\w'.ownsRow base e size v' (n+m) (xs++news)/\w.grownBy w' v.ownBlock/\(w.grownBy w' none\/v'.ownBlock=v.ownBlock):=by
 obtain⟨v',w',hr,ho,hg,-⟩:=run_append_own (P:=P) w base t ty e i z size bytes ht hi hz hsize hby hzs hsz v n xs hown a m c news hl hnews h1 h63 hbytes hbase;refine⟨v',w',hr,ho,hg,?_⟩;subst hsize;rcases hown.2 with⟨rfl,rfl⟩|⟨g,cap,cur,rfl,hbg,hgg,hnc,hcm,hcs,htake⟩;·exact .inl hg
 ·by_cases hroom:n+m<=cap
  ·have hfit:n*i.size+news.length<=cur.size:=by rw[hl,hcs,<-Nat.add_mul];exact Nat.mul_le_mul_right _ hroom
   have hr2:=run_append_room (P:=P) w t ty e i ht hi g n cap cur hgg a m c news hl hnews h1 hroom hfit;rw[hr2]at hr;cases hr;exact .inr rfl
  ·have holds:∀j u,xs[j]?=some u->w.cell? ((⟨g,0,none⟩:Addr).add j)=some u:=hown.cells (g:=g) rfl;subst hby;have hsmall:n+m<=9223372036854775807:=by simp only[maxLen]at h63;omega
   have hr2:=run_append_grow (P:=P) w t ty e i z ht hi hz ⟨g,0,none⟩ n cap xs hown.1 holds a m c news hl hnews (by omega) (by omega) (growslice_fits (by omega) hbytes);rw[hr2]at hr;cases hr;exact .inl ⟨rfl,rfl,rfl,by simp,λk hk _=>Below.heap_alloc w.drew _ k hk⟩
theorem zBm{F:Fence}{n:Nat}{P:Program}(w:World){ops:Array Oper}{rest:List Oper}{o:Oper}{a:Go.Act}{Q:Exit->Go.Act->World->Prop}(hg:o.guard=none)(s x:Operand)(t:TypeId)(hop:o.op=Op.call {callee:=Callee.builtin Builtin.append,args:=#[s,x],argTypes:=#[t,t]})(base:Nat)(e:TypeId)(i:TypeInfo)(z:Value)(size bytes:Nat)(h1:P.underlying t=some (.slice e))(h2:P.info? e=some i)(h3:i.zero=some z)(h4:i.size=size)(h5:i.bytes=bytes)(h6:z.cells.size=size)(h7:0<size)(v:Value)(k:Nat)(xs:List Value)(hs:a.eval s=v)(hown:w.ownsRow base e size v k xs)(ad:Addr)(m c:Nat)(news:List Value)(hx:a.eval x=.slice (some ad) m c)(hn:news.length=m*size)(hc:∀j u,news[j]?=some u->w.cell? (ad.add j)=some u)(h1c:∀u∈news,u.oneCell'=true)(b1:k+m<=maxLen)(b2:(k+m)*bytes<=140737488355328)(b3:base<=w.heap.size)(hK:∀v' w',w'.ownsRow base e size v' (k+m) (xs++news)->w.grownBy w' v.ownBlock->(w.grownBy w' none\/v'.ownBlock=v.ownBlock)->wpListIn F n P ops Q rest (a.put o.dst v') w'):wpListIn F n P ops Q (o::rest) a w:=by
 refine wpListIn_plain hg λK hK'=>?_;obtain⟨v',w',hrun,r1,r2,r3⟩:=zRk (P:=P) w base t o.type e i z size bytes h1 h2 h3 h4 h5 h6 h7 v k xs hown ad m c news hn hc h1c b1 b2 b3;unfold Oper.wpIn;refine⟨?_,?_⟩;·simp[Oper.about,hop,resolve,Target.leads,Sem.run_pure]
 ·rw[Oper.semAt_plain F _ _ (by rw[hop];intro c hc';cases hc')];simp[execOp,hop,resolve,invoke,builtin,hs,hx,hrun,Result.andThen];exact hK' _ _ (hK v' w' r1 r2 r3)
theorem B6.alloc{n₀:Nat}{E:Nat->Prop}(W:World)(X:Obj):B6 n₀ E W (W.alloc X):=⟨by simp,λb i v _ e=>gF _ e,λk i v _ _ e=>gF _ e⟩
theorem B6.app{n₀:Nat}{E:Nat->Prop}{W W':World}{e:TypeId}{v v':Value}{k:Nat}{xs news:List Value}(h0:v=.slice none 0 0\/1<=k)(hown:W.ownsRow n₀ e 7 v k xs)(hown':W'.ownsRow n₀ e 7 v' (k+1) (xs++news))(hg:W.grownBy W' v.ownBlock)(ho:W.grownBy W' none\/v'.ownBlock=v.ownBlock):B6 n₀ E W W':=by
 have key:∀(b i:Nat)(u:Value),i<7->W.cell? ⟨b,i,none⟩=some u->W'.cell? ⟨b,i,none⟩=some u:=by
  intro b i u hi hu;rcases ho with ho|ho;·exact(ho.cell (a:=⟨b,i,none⟩) hu (by simp))
  ·by_cases hb:v.ownBlock=some b
   ·have hk:1<=k:=h0.resolve_left (λh=>by rw[h]at hb;simp[Value.ownBlock]at hb);have hl:=hown.1;have hx:xs[i]?=some u:=by
     have:i<xs.length:=by omega
     have h2:=hown.cells hb i _ (List.getElem?_eq_getElem this);have hadd:(⟨b,0,none⟩:Addr).add i=⟨b,i,none⟩:=by unfold Addr.add;split<;>simp_all
     rw[hadd,hu]at h2;rw[List.getElem?_eq_getElem this];exact h2.symm
    have h3:=hown'.cells (ho.trans hb) i u (by rw[List.getElem?_append_left (by omega)];exact hx);have hadd:(⟨b,0,none⟩:Addr).add i=⟨b,i,none⟩:=by unfold Addr.add;split<;>simp_all
    rwa[hadd]at h3
   ·exact hg.cell (a:=⟨b,i,none⟩) hu (λh=>hb h.symm)
 refine⟨hg.size,λb i u hb hu=>?_,λb i u _ hi hu=>key b i u hi hu⟩;refine hg.cell (a:=⟨b,i,none⟩) hu λh=>?_;have:=(hown.lt b h.symm).1;omega
attribute[local go_sem]Oper.semAt_some
theorem zXW:(Tryz.prog.info? 36).map (λi=>(i.zero,i.size,i.bytes))=some (some (.agg #[.int .i64 0,.int .i64 0,.int .i64 0,.slice none 0 0,.slice none 0 0,.slice none 0 0,.slice none 0 0]),7,120):=by kernel_rfl
def T8(l:List TN):List TN:=l.filter λx=>decide (x.k=1)
def B7(l:List TN):List Value:=l.flatMap λx=>x.cs.toList
theorem zLx(pre:List TN){x:TN}(h:x.k=1):T8 (pre++[x])=T8 pre++[x]:=by simp[T8,h]
theorem zHw(pre:List TN){x:TN}(h:¬x.k=1):T8 (pre++[x])=T8 pre:=by simp[T8,h]
theorem zXX(pre:List TN):(T8 pre).length<=pre.length:=List.length_filter_le _ _
set_option maxRecDepth 100000 in set_option maxHeartbeats 3200000 in theorem zNd(F:Fence)(hd:F.depth=none)(n:Nat)(h11:F.fn 11)(h33:F.fn 33)(h55:F.fn 55)(h56:F.fn 56)(hro:F.round=none)(hn:3<=n)(t:TT)(hlen:t.nodes.length<=1000000)(w:World)(hT:O5 w.heap.size w t):CallsIn F n Tryz.prog 11 #[.agg t.x.cs] w λe W'=>∃v,e=.returned v/\W'.ownsRow w.heap.size 36 7 v (T8 t.nodes).length (B7 (T8 t.nodes))/\Below w.heap.size w W':=by
  have h1:1<=n:=by omega
  have hdd:∀k:Nat,(F.depth.isSome=true->1<=k):=λk h=>by rw[hd]at h;cases h
  have hnd:=zAM F (n-1) h33 hro;obtain⟨i0,hi,hz0,hz1,hz2⟩:=info_parts zXW;simp only[TN.cs];refine callsIn_of_wp_marks Tryz.func11 rfl h11 ?_ hro;simp only[Tryz.ntmps11,List.size_toArray,List.length_cons,List.length_nil,Nat.reduceAdd,Nat.reduceSub,Array.replicate_succ,Array.replicate_zero,List.push_toArray,List.append_toArray,List.nil_append,List.cons_append];gi_wp2_with((try refine⟨hdd _,?_⟩);gi_at_call 33;refine(hnd _ _).mono ?_;rintro e w'⟨rfl,rfl⟩);obtain⟨cs,hcs⟩:∃cs:Array Value,#[.int .i64 t.x.k,.int .i64 t.x.r,.int .i64 t.x.v,.slice t.x.a.p t.x.a.n t.x.a.m,.slice t.x.b.p t.x.b.n t.x.b.m,.slice t.x.c.p t.x.c.n t.x.c.m,.slice t.x.d.p t.x.d.n t.x.d.m]=cs:=⟨_,rfl⟩;rw[hcs];have hcs':t.x.cs=cs:=hcs;have hB0:Below w.heap.size w (((w.alloc (.cells cs 36)).alloc (.cells #[.slice none 0 0] 43)).alloc (.cells cs 36)):=(((Below.refl _ w).alloc (Nat.le_refl _) _).alloc (by simp) _).alloc (by simp;omega) _;have bO:=(Boxed.new (w.alloc (.cells cs 36)) 43 (.slice none 0 0)).alloc (.cells cs 36);rw[World.size_alloc]at bO;refine wpIn_rangeFunc_ownH hro h1 (gf:=55) (lb:=#[.pointer (some ⟨w.heap.size+1+1,0,none⟩)]) rfl h55 (enters_of Tryz.func55 (by kernel_rfl) rfl) (eX F hd (n-1) h55 h56 hro (w.heap.size+1+1) w.heap.size t (λk=>k=w.heap.size+1) _ (by simp) (by simp only[World.size_alloc];omega) (λi v h=>by have:=kM ((w.alloc (.cells cs 36)).alloc (.cells #[.slice none 0 0] 43)) cs 36 i v (hcs'▸h);simpa using this) (hT.below λb i v hb e=>(hB0.cell (p:=⟨b,i,none⟩) hb).trans e) (by rintro k rfl;simp only[World.size_alloc];omega)) B6.trans (λW l o o' _ h ho _=>B6.putObj W l o o' h ho) (Below.refl _ _) (λ_=>rfl) (λpre W=>(∃v,Boxed W (w.heap.size+1) 43 v/\W.ownsRow w.heap.size 36 7 v (T8 pre).length (B7 (T8 pre))/\(v=.slice none 0 0\/1<=(T8 pre).length))/\Below w.heap.size w W) (λ_ _ _=>False) (OwnFrom.and (Go.Own.from (holdsRow_own w.heap.size (w.heap.size+1) 43 36 7 (λpre=>(T8 pre).length) (λpre=>B7 (T8 pre)) (λpre v=>v=.slice none 0 0\/1<=(T8 pre).length)) _) (ownFrom_below (Nat.le_refl _) (by simp;omega))) (λ_ _ _ _ _ hs _ _=>hs) ⟨⟨_,bO,World.ownsRow_nil _ _ _ _,.inl rfl⟩,hB0⟩ (λx a' W=>∃Bx,w.heap.size+1<Bx/\W.heap[Bx]?=some (.cells x.cs 36 (0,0))/\a'={tmps:=#[.agg cs,.pointer (some ⟨w.heap.size,0,none⟩),.slice none 0 0,.pointer (some ⟨w.heap.size+1,0,none⟩),.pointer (some ⟨Bx,0,none⟩),.agg cs,.func (.func 55) #[] #[.pointer (some ⟨w.heap.size+1+1,0,none⟩)],.agg x.cs,undef,undef,undef,undef,undef,undef,undef,undef],defers:=[]}) (λx a' _ X Y row hs hg hr=>by obtain⟨Bx,h1,h2,h3⟩:=hs;exact⟨Bx,h1,(hg.block Bx (Array.getElem?_eq_some_iff.1 h2).1 (λe=>by obtain⟨o,ho,hc⟩:=(hr Bx e.symm).2;rw[h2]at ho;cases ho;cases hc)).trans h2,h3⟩) ?assign ?body ?done ?stop;case assign=>rintro l pre x W K⟨⟨v,hv,hrow,hnil⟩,hB⟩hK;simp only[TN.cs]at hK⊢;gi_wp2;exact hK _ _ ((KeepsOthers.alloc _ _).from _) (B6.alloc _ _) ⟨⟨v,hv.alloc _,hrow.alloc _,hnil⟩,hB.alloc hB.size _⟩ ⟨W.heap.size,hv.lt,World.alloc_heap_new W _,rfl⟩
  case body=>
    rintro l pre x a' W hl⟨r,hr⟩⟨⟨v,hv,hrow,hnil⟩,hB⟩⟨Bx,hBx,bX,rfl⟩hlt;have hc:=hv.cell;have hpl:=zXX pre;have c0:W.cell? ⟨Bx,0,none⟩=some (.int .i64 x.k):=by simp[World.cell?,bX,TN.cs]
    have c1:W.cell? ⟨Bx,1,none⟩=some (.int .i64 x.r):=by simp[World.cell?,bX,TN.cs]
    have c2:W.cell? ⟨Bx,2,none⟩=some (.int .i64 x.v):=by simp[World.cell?,bX,TN.cs]
    have c3:W.cell? ⟨Bx,3,none⟩=some (.slice x.a.p x.a.n x.a.m):=by simp[World.cell?,bX,TN.cs]
    have c4:W.cell? ⟨Bx,4,none⟩=some (.slice x.b.p x.b.n x.b.m):=by simp[World.cell?,bX,TN.cs]
    have c5:W.cell? ⟨Bx,5,none⟩=some (.slice x.c.p x.c.n x.c.m):=by simp[World.cell?,bX,TN.cs]
    have c6:W.cell? ⟨Bx,6,none⟩=some (.slice x.d.p x.d.n x.d.m):=by simp[World.cell?,bX,TN.cs]
    gi_wp2_with(gi_at_builtin;refine zBm _ rfl _ _ 43 rfl w.heap.size 36 i0 (.agg #[.int .i64 0,.int .i64 0,.int .i64 0,.slice none 0 0,.slice none 0 0,.slice none 0 0,.slice none 0 0]) 7 120 Tryz.underlying43 hi hz0 hz1 hz2 rfl (by decide) _ _ _ rfl (hrow.alloc _) ⟨W.heap.size,0,none⟩ 1 1 x.cs.toList rfl rfl ?news (by simp[Value.oneCell',TN.cs]) (by unfold maxLen;omega) (by omega) (by have:=hB.size;simp;omega) ?_;rotate_left;intro v' w1 hown' hgrow hgo;obtain⟨g',cap',rfl⟩:=ownsRow_succ hown';obtain⟨hv1,hv2,hr2,hk2,hb2⟩:=hv.appended (by decide) hrow hB.size (by omega) hown' hgrow;have hc1:=hv1.cell;have hf1:=hv1.frozen)
    · have hx:x.k=1:=by first|assumption|(rename_i q;simpa using q)|(rename_i q _;simpa using q)|(rename_i q _ _;simpa using q)|(rename_i q _ _ _;simpa using q)
      have hKp:B6 w.heap.size (λk=>k=w.heap.size+1) W (w1.setCell ⟨w.heap.size+1,0,none⟩ (.slice (some ⟨g',0,none⟩) ((T8 pre).length+1) cap')):=((B6.alloc W _).trans (B6.app hnil (hrow.alloc _) hown' hgrow hgo)).trans (B6.setCell w1 _ _ rfl (by omega));exact⟨hk2.from _,hKp,⟨_,hv2,by rw[zLx pre hx];simpa[B7]using hr2,.inr (by rw[zLx pre hx];simp)⟩,hB.trans hb2⟩
    case news=>
      intro j u hu;have hadd:(⟨W.heap.size,0,none⟩:Addr).add j=⟨W.heap.size,j,none⟩:=by unfold Addr.add;split<;>simp_all
      rw[hadd];exact kM W _ 36 j u (by simpa[TN.cs]using hu)
    · have hx:¬x.k=1:=by first|assumption|(rename_i q;simpa using q)|(rename_i q _;simpa using q)
      exact⟨KeepsFrom.refl _ _,⟨Nat.le_refl _,λ_ _ _ _ e=>e,λ_ _ _ _ _ e=>e⟩,⟨v,hv,by rw[zHw pre hx];exact hrow,by rw[zHw pre hx];exact hnil⟩,hB⟩
  case done=>rintro D ys W hD rfl⟨⟨v,hv,hrow,hnil⟩,hB⟩hK;have hc:=hv.cell;gi_wp2;refine⟨by simp,.inl ⟨_,_,rfl,run_takeDeferred hK,?_⟩⟩;exact⟨_,results_tmp rfl _ _ _,v,rfl,ownsRow_putObj hrow _ hK rfl,hB.trans (belowK_b (w:=w) (Nat.le_refl _) W D _ _ (by simp at hD;omega) hK rfl rfl)⟩
  case stop=>rintro D c pre W _ _ h _;exact h.elim
attribute[local go_sem]Oper.semAt_some
def gG(k:Nat)(out:List Bool)(x:TN):List Bool:=if(x.k=1\/x.k=2)/\0<=x.r/\x.r<k then out.set x.r.toNat true else out
def rcN(k:Nat)(l:List TN):List Bool:=l.foldl (gG k) (List.replicate k false)
theorem zHv(k:Nat)(l:List TN)(x:TN):rcN k (l++[x])=gG k (rcN k l) x:=by simp[rcN]
theorem zJv(k:Nat)(out:List Bool)(x:TN):(gG k out x).length=out.length:=by unfold gG;split<;>simp
theorem J4(k:Nat)(l:List TN):(rcN k l).length=k:=by
 have:∀(l:List TN)(o:List Bool),(l.foldl (gG k) o).length=o.length:=by intro l;induction l with|nil=>exactλ_=>rfl|cons x l ih=>intro o;rw[List.foldl_cons,ih,zJv]
 rw[rcN,this,List.length_replicate]
theorem B6.setCellj{n₀:Nat}{E:Nat->Prop}(W:World)(k j:Nat)(v:Value)(hE:E k)(hk:n₀<=k):B6 n₀ E W (W.setCell ⟨k,j,none⟩ v):=by have key:∀(b i:Nat)(u:Value),b≠k->W.cell? ⟨b,i,none⟩=some u->(W.setCell ⟨k,j,none⟩ v).cell? ⟨b,i,none⟩=some u:=λb i u hb e=>(World.cell?_of_block (Below.heap_setCell _ _ _ b hb)).trans e;exact⟨by simp,λb i u hb e=>key b i u (by omega) e,λb i u hb _ e=>key b i u (λh=>hb (h▸hE)) e⟩
set_option maxRecDepth 100000 in set_option maxHeartbeats 3200000 in theorem zJu(F:Fence)(hd:F.depth=none)(n:Nat)(h53:F.fn 53)(h33:F.fn 33)(h55:F.fn 55)(h56:F.fn 56)(hro:F.round=none)(hn:3<=n)(t:TT)(k:Nat)(hk1:0<k)(hk32:k<=32)(w:World)(hT:O5 w.heap.size w t):CallsIn F n Tryz.prog 53 #[.agg t.x.cs,.int .i64 k] w λe W'=>∃B,e=.returned (.slice (some ⟨B,0,none⟩) k k)/\w.heap.size<=B/\W'.heap[B]?=some (.cells ((rcN k t.nodes).map .bool).toArray 4 (0,0))/\Below w.heap.size w W':=by
  have h1:1<=n:=by omega
  have hdd:∀k:Nat,(F.depth.isSome=true->1<=k):=λk h=>by rw[hd]at h;cases h
  have hnd:=zAM F (n-1) h33 hro;have hmin:min (k:Int) 32=k:=by omega
  have hmax:max 0 (k:Int)=k:=by omega
  have hb4:(Tryz.t4.bytes:Int)=1:=by kernel_rfl
  have hmk:∀w:World,(Instr.makeSlice 121 (.int .i64 k) (.int .i64 k)).run Tryz.prog w=.ok (.slice (some ⟨w.heap.size,0,none⟩) k k) (w.alloc (.cells (Array.replicate k (.bool false)) 4)):=λw=>by
    have:=run_make (P:=Tryz.prog) w 121 4 Tryz.t4 (.bool false) Tryz.underlying121 (by kernel_rfl) (by kernel_rfl) .i64 .i64 k k (by omega) (Int.le_refl _) (by rw[hb4];omega) (by omega);rw[this];have e:madeCells (Value.bool false).cells ((k:Int).toNat*Tryz.t4.size)=Array.replicate k (.bool false):=by
      have:Tryz.t4.size=1:=by kernel_rfl
      rw[this];apply Array.ext (by simp[size_madeCells]);intro i h1 h2;have hc:(Value.bool false).cells=#[.bool false]:=rfl;simp[madeCells,hc,Nat.mod_one]
    rw[e];rfl
  simp only[TN.cs];refine callsIn_of_wp_marks Tryz.func53 rfl h53 ?_ hro;simp only[Tryz.ntmps53,List.size_toArray,List.length_cons,List.length_nil,Nat.reduceAdd,Nat.reduceSub,Array.replicate_succ,Array.replicate_zero,List.push_toArray,List.append_toArray,List.nil_append,List.cons_append];gi_wp2_with((try refine⟨hdd _,?_⟩);gi_at_call 33;refine(hnd _ _).mono ?_;rintro e w'⟨rfl,rfl⟩);obtain⟨cs,hcs⟩:∃cs:Array Value,#[.int .i64 t.x.k,.int .i64 t.x.r,.int .i64 t.x.v,.slice t.x.a.p t.x.a.n t.x.a.m,.slice t.x.b.p t.x.b.n t.x.b.m,.slice t.x.c.p t.x.c.n t.x.c.m,.slice t.x.d.p t.x.d.n t.x.d.m]=cs:=⟨_,rfl⟩;rw[hcs];have hcs':t.x.cs=cs:=hcs;have hB0:Below w.heap.size w ((((w.alloc (.cells cs 36)).alloc (.cells (Array.replicate k (.bool false)) 4)).alloc (.cells #[.slice (some ⟨w.heap.size+1,0,none⟩) k k] 121)).alloc (.cells cs 36)):=((((Below.refl _ w).alloc (Nat.le_refl _) _).alloc (by simp) _).alloc (by simp;omega) _).alloc (by simp;omega) _;have bO:=(Boxed.new ((w.alloc (.cells cs 36)).alloc (.cells (Array.replicate k (.bool false)) 4)) 121 (.slice (some ⟨w.heap.size+1,0,none⟩) k k)).alloc (.cells cs 36);have bM:((((w.alloc (.cells cs 36)).alloc (.cells (Array.replicate k (.bool false)) 4)).alloc (.cells #[.slice (some ⟨w.heap.size+1,0,none⟩) k k] 121)).alloc (.cells cs 36)).heap[w.heap.size+1]?=some (.cells ((rcN k []).map .bool).toArray 4 (0,0)):=by refine((Below.heap_alloc _ _ _ (by simp)).trans (Below.heap_alloc _ _ _ (by simp))).trans ?_;have:=World.alloc_heap_new (w.alloc (.cells cs 36)) (.cells (Array.replicate k (.bool false)) 4);rw[World.size_alloc]at this;rw[this];simp[rcN,List.map_replicate]
  rw[World.size_alloc,World.size_alloc]at bO;refine wpIn_rangeFunc_ownH hro h1 (gf:=55) (lb:=#[.pointer (some ⟨w.heap.size+1+1+1,0,none⟩)]) rfl h55 (enters_of Tryz.func55 (by kernel_rfl) rfl) (eX F hd (n-1) h55 h56 hro (w.heap.size+1+1+1) w.heap.size t (λk=>k=w.heap.size+1) _ (by simp) (by simp only[World.size_alloc];omega) (λi v h=>by have:=kM (((w.alloc (.cells cs 36)).alloc (.cells (Array.replicate k (.bool false)) 4)).alloc (.cells #[.slice (some ⟨w.heap.size+1,0,none⟩) k k] 121)) cs 36 i v (hcs'▸h);simpa using this) (hT.below λb i v hb e=>(hB0.cell (p:=⟨b,i,none⟩) hb).trans e) (by rintro k rfl;simp only[World.size_alloc];omega)) B6.trans (λW l o o' _ h ho _=>B6.putObj W l o o' h ho) (Below.refl _ _) (λ_=>rfl) (λpre W=>(Boxed W (w.heap.size+1+1) 121 (.slice (some ⟨w.heap.size+1,0,none⟩) k k)/\W.heap[w.heap.size+1]?=some (.cells ((rcN k pre).map .bool).toArray 4 (0,0)))/\Below w.heap.size w W) (λ_ _ _=>False) (OwnFrom.and (Go.Own.from (λs A B row hs hg hr=>⟨boxed_own (w.heap.size+1+1) 121 (λ(_:Unit)=>Value.slice (some ⟨w.heap.size+1,0,none⟩) k k) () A B row hs.1 hg hr,(hg.block _ (Array.getElem?_eq_some_iff.1 hs.2).1 (λe=>by obtain⟨o,ho,hc⟩:=hr _ e.symm;rw[hs.2]at ho;cases ho;cases hc)).trans hs.2⟩) _) (ownFrom_below (Nat.le_refl _) (by simp;omega))) (λ_ _ _ _ _ hs _ _=>hs) ⟨⟨bO,bM⟩,hB0⟩ (λx a' W=>∃Bx,w.heap.size+1+1<Bx/\W.heap[Bx]?=some (.cells x.cs 36 (0,0))/\a'={tmps:=#[.agg cs,.int .i64 k,.pointer (some ⟨w.heap.size,0,none⟩),undef,.slice none 0 0,.pointer (some ⟨w.heap.size+1+1,0,none⟩),.pointer (some ⟨Bx,0,none⟩),.int .i64 k,.int .i64 k,.int .i64 k,.slice (some ⟨w.heap.size+1,0,none⟩) k k,.agg cs,.func (.func 55) #[] #[.pointer (some ⟨w.heap.size+1+1+1,0,none⟩)],.agg x.cs,undef,undef,undef,undef,undef,undef,undef,undef,undef,undef,undef,undef,undef,undef,undef,undef,undef,undef,undef,undef,undef,undef,undef,undef,undef],defers:=[]}) (λx a' _ X Y row hs hg hr=>by obtain⟨Bx,h1,h2,h3⟩:=hs;exact⟨Bx,h1,(hg.block Bx (Array.getElem?_eq_some_iff.1 h2).1 (λe=>by obtain⟨o,ho,hc⟩:=(hr Bx e.symm).2;rw[h2]at ho;cases ho;cases hc)).trans h2,h3⟩) ?assign ?body ?done ?stop;case assign=>rintro l pre x W K⟨⟨bO,bM⟩,hB⟩hK;simp only[TN.cs]at hK⊢;gi_wp2;have hm:=(Array.getElem?_eq_some_iff.1 bM).1;exact hK _ _ ((KeepsOthers.alloc _ _).from _) (B6.alloc _ _) ⟨⟨bO.alloc _,(Below.heap_alloc W _ _ hm).trans bM⟩,hB.alloc hB.size _⟩ ⟨W.heap.size,bO.lt,World.alloc_heap_new W _,rfl⟩
  case body=>
    rintro l pre x a' W hl⟨r,hr⟩⟨⟨bO,bM⟩,hB⟩⟨Bx,hBx,bX,rfl⟩hlt;have hc:=bO.cell;have c0:W.cell? ⟨Bx,0,none⟩=some (.int .i64 x.k):=by simp[World.cell?,bX,TN.cs]
    have c1:W.cell? ⟨Bx,1,none⟩=some (.int .i64 x.r):=by simp[World.cell?,bX,TN.cs]
    have hmiss:¬((x.k=1\/x.k=2)/\0<=x.r/\x.r<k)->rcN k (pre++[x])=rcN k pre:=λh=>by rw[zHv,gG,if_neg h]
    have hit:∀j:Nat,(x.k=1\/x.k=2)->x.r=j->j<k->rcN k (pre++[x])=(rcN k pre).set j true:=λj h1 h2 h3=>by rw[zHv,gG,if_pos ⟨h1,by omega,by omega⟩,h2];rfl
    have fin:∀j:Nat,rcN k (pre++[x])=(rcN k pre).set j true->KeepsFrom (w.heap.size+1+1+1+1) W (W.setCell ⟨w.heap.size+1,j,none⟩ (.bool true))/\B6 w.heap.size (λk=>k=w.heap.size+1) W (W.setCell ⟨w.heap.size+1,j,none⟩ (.bool true))/\(Boxed (W.setCell ⟨w.heap.size+1,j,none⟩ (.bool true)) (w.heap.size+1+1) 121 (.slice (some ⟨w.heap.size+1,0,none⟩) k k)/\(W.setCell ⟨w.heap.size+1,j,none⟩ (.bool true)).heap[w.heap.size+1]?=some (.cells ((rcN k (pre++[x])).map .bool).toArray 4 (0,0)))/\Below w.heap.size w (W.setCell ⟨w.heap.size+1,j,none⟩ (.bool true)):=λj hm=>by refine⟨(KeepsOthers.setCell _ _ _).from _,B6.setCellj W _ _ _ rfl (by omega),⟨(Below.heap_setCell _ _ _ _ (by show w.heap.size+1+1≠w.heap.size+1;omega)).trans bO,?_⟩,hB.setCell (p:=⟨w.heap.size+1,j,none⟩) (by simp) _⟩;rw[heap_setCell_same W (w.heap.size+1) j _ 4 _ bM,hm];simp[List.map_set]
    by_cases h1:x.k=1
    · skip;rw[h1]at c0;by_cases h2:x.r<0
      · have hm:=hmiss (by omega);have h2':¬(0<=x.r):=by omega
        gi_wp2;exact⟨KeepsFrom.refl _ _,⟨Nat.le_refl _,λ_ _ _ _ e=>e,λ_ _ _ _ _ e=>e⟩,⟨bO,by rw[hm];exact bM⟩,hB⟩
      · by_cases h3:x.r<k
        · obtain⟨j,hj⟩:∃j:Nat,x.r=j:=⟨x.r.toNat,by omega⟩;have hm:=hit j (.inl h1) hj (by omega);rw[hj]at c1;have hjk:j<k:=by omega
          have e1:W.cell? ⟨w.heap.size+1,j,none⟩=some (.bool ((rcN k pre)[j]'(by rw[J4];exact hjk))):=by simp[World.cell?,bM,J4,hjk]
          have e2:W.frozen? ⟨w.heap.size+1,j,none⟩=false:=by simp[World.frozen?,bM]
          have hj0:¬((j:Int)<0):=by omega
          have hjk':(j:Int)<k:=by omega
          have hj0':(0:Int)<=j:=by omega
          gi_wp2;exact fin j hm
        · have hm:=hmiss (by omega);have h2':0<=x.r:=by omega
          have h3':¬(x.r<(k:Int)):=by omega
          gi_wp2;exact⟨KeepsFrom.refl _ _,⟨Nat.le_refl _,λ_ _ _ _ e=>e,λ_ _ _ _ _ e=>e⟩,⟨bO,by rw[hm];exact bM⟩,hB⟩
    · by_cases h1':x.k=2
      · skip;rw[h1']at c0;by_cases h2:x.r<0
        · have hm:=hmiss (by omega);have h2':¬(0<=x.r):=by omega
          gi_wp2;exact⟨KeepsFrom.refl _ _,⟨Nat.le_refl _,λ_ _ _ _ e=>e,λ_ _ _ _ _ e=>e⟩,⟨bO,by rw[hm];exact bM⟩,hB⟩
        · by_cases h3:x.r<k
          · obtain⟨j,hj⟩:∃j:Nat,x.r=j:=⟨x.r.toNat,by omega⟩;have hm:=hit j (.inr h1') hj (by omega);rw[hj]at c1;have hjk:j<k:=by omega
            have e1:W.cell? ⟨w.heap.size+1,j,none⟩=some (.bool ((rcN k pre)[j]'(by rw[J4];exact hjk))):=by simp[World.cell?,bM,J4,hjk]
            have e2:W.frozen? ⟨w.heap.size+1,j,none⟩=false:=by simp[World.frozen?,bM]
            have hj0:¬((j:Int)<0):=by omega
            have hjk':(j:Int)<k:=by omega
            have hj0':(0:Int)<=j:=by omega
            gi_wp2;exact fin j hm
          · have hm:=hmiss (by omega);have h2':0<=x.r:=by omega
            have h3':¬(x.r<(k:Int)):=by omega
            gi_wp2;exact⟨KeepsFrom.refl _ _,⟨Nat.le_refl _,λ_ _ _ _ e=>e,λ_ _ _ _ _ e=>e⟩,⟨bO,by rw[hm];exact bM⟩,hB⟩
      ·have hm:=hmiss (by omega);gi_wp2;exact⟨KeepsFrom.refl _ _,⟨Nat.le_refl _,λ_ _ _ _ e=>e,λ_ _ _ _ _ e=>e⟩,⟨bO,by rw[hm];exact bM⟩,hB⟩
  case done=>rintro D ys W hD rfl⟨⟨bO,bM⟩,hB⟩hK;have hc:=bO.cell;gi_wp2;refine⟨by simp,.inl ⟨_,_,rfl,run_takeDeferred hK,?_⟩⟩;refine⟨_,results_tmp rfl _ _ _,w.heap.size+1,rfl,by omega,?_,hB.trans (belowK_b (w:=w) (Nat.le_refl _) W D _ _ (by simp at hD;omega) hK rfl rfl)⟩;rw[World.putObj_heap_other (by simp at hD;omega)];exact bM
  case stop=>rintro D c pre W _ _ h _;exact h.elim
end Go.Proofs.YtohkcbcddindpaaGreat
namespace Go.Ab
open Go Go.RowKit
theorem yK.kept{G:Gh}{σ:wT}{w w':World}(h:yK G σ w)(hk:vQ (λk=>k<w.heap.size) w w'):wV G w G w'/\yK G σ w':=by
 have hold:∀{b:Nat},b<w.heap.size->w'.heap[b]?=w.heap[b]?:=λhlt=>hk.block _ hlt;have hE:wV G w G w':=⟨λ_ _ e=>e,λ_ _ e=>e,λ_ _ e=>e,λb o e=>World.cell?_of_block (hold (h.L_lt e)),rfl,rfl,λ_ _ e=>.inl e,λ_ _ _ _ r=>r.same (hold r.lt),λ_ e=>e⟩;refine⟨hE,⟨h.dom,h.fin,h.inj,?_,?_,h.τns,?_,h.ownd,h.below.trans (hk.mono λk hF=>h.base k hF),λk hF=>Nat.lt_of_lt_of_le (h.base k hF) hk.size⟩⟩
 ·intro i b X hi hX;obtain⟨h1,h3⟩:=h.blk i b X hi hX;exact⟨h1,vN.mono hE (hold (h.ρ_lt hi)) h3⟩
 ·intro b o hL;obtain⟨⟨v,hv⟩,h2⟩:=h.live b o hL;exact⟨⟨v,(World.cell?_of_block (hold (h.L_lt hL))).trans hv⟩,h2⟩
 ·intro k hk';obtain⟨b,f,t,h1,h2|⟨h2,h3,h4,vs',T',h5,h6⟩⟩:=h.own k hk';·exact⟨b,f,t,h1,.inl h2⟩
  have hlt:b<w.heap.size:=(Array.getElem?_eq_some_iff.1 h5).1;exact⟨b,f,t,h1,.inr ⟨h2,h3,h4,vs',T',(hold hlt).trans h5,h6⟩⟩
theorem yK.grown{G:Gh}{σ:wT}{w w':World}(h:yK G σ w)(hk:vQ (λk=>k<w.heap.size) w w'){B:Nat}(hB:w.heap.size<=B)(cs:List AV)(vs:List Value)(rest:Array Value)(T:TypeId)(hv:VL G w cs vs)(hb:w'.heap[B]?=some (.cells (vs.toArray++rest) T (0,0))):wV G w (G.addL B 0 vs.length) w'/\yK (G.addL B 0 vs.length) σ w'/\VC (G.addL B 0 vs.length) w' cs B 0:=by
 have hcell:∀i(hi:i<vs.length),w'.cell? ⟨B,i,none⟩=some vs[i]:=by
  intro i hi;have:(vs.toArray++rest)[i]?=some vs[i]:=by rw[Array.getElem?_append_left (by simpa using hi)];simp[hi]
  simp[World.cell?,hb,this]
 have hold:∀{b:Nat},b<w.heap.size->w'.heap[b]?=w.heap[b]?:=λhlt=>hk.block _ hlt;have hE:wV G w (G.addL B 0 vs.length) w':=⟨λ_ _ e=>e,λ_ _ e=>e,λ_ _ e=>.inl e,λb o e=>World.cell?_of_block (hold (h.L_lt e)),rfl,rfl,λ_ _ e=>e.elim .inl λq=>.inr (by rw[q.1];exactλhF=>absurd (h.base _ hF) (by omega)),λ_ _ _ _ r=>r.same (hold r.lt),λ_ e=>e⟩;refine⟨hE,⟨h.dom,h.fin,h.inj,?_,?_,h.τns,?_,h.ownd,h.below.trans (hk.mono λk hF=>h.base k hF),λk hF=>Nat.lt_of_lt_of_le (h.base k hF) hk.size⟩,?_⟩;·intro i b X hi hX;obtain⟨h1,h3⟩:=h.blk i b X hi hX;exact⟨h1,vN.mono hE (hold (h.ρ_lt hi)) h3⟩
 ·intro b o hL;rcases hL with hL|⟨rfl,_,hlt⟩;·obtain⟨⟨v,hv⟩,h2⟩:=h.live b o hL;exact⟨⟨v,(World.cell?_of_block (hold (h.L_lt hL))).trans hv⟩,h2⟩
  ·exact⟨⟨_,hcell o (by omega)⟩,λi hi=>by have:=h.ρ_lt hi;omega⟩
 ·intro k hk';obtain⟨b,f,t,h1,h2|⟨h2,h3,h4,vs',T',h5,h6⟩⟩:=h.own k hk';·exact⟨b,f,t,h1,.inl h2⟩
  have hlt:b<w.heap.size:=(Array.getElem?_eq_some_iff.1 h5).1;refine⟨b,f,t,h1,.inr ⟨h2,h3,λo ho ht hL=>?_,vs',T',(hold hlt).trans h5,h6⟩⟩;rcases hL with hL|⟨e,_,_⟩;·exact h4 o ho ht hL
  ·omega
 ·refine VC.of_cells cs vs _ _ (VL.mono hE _ _ hv) (λi hi=>.inr ⟨rfl,Nat.zero_le _,by omega⟩) (λi hi=>?_);simpa using hcell i hi
theorem zAO{G:Gh}{w:World}{es:List AV}{n:Nat}{o:Own}{u:Value}(h:V G w (.sl es n o) u):∃p c,u=.slice p n c:=by
 simp only[V]at h;obtain⟨cap,-,⟨-,h1,-,h2,-⟩|⟨b,off,h2,-⟩⟩:=h;·subst h1;exact⟨_,_,h2⟩
 ·exact⟨_,_,h2⟩
mutual def wY:zQ->List zQ|.mk k r v a b c ks=>.mk k r v a b c ks::sR ks def sR:List yP->List zQ|[]=>[]|k::l=>gH k++sR l def gH:yP->List zQ|.mk _ y _ _ t=>if y=true then wY t else[]end
mutual def B8:zQ->Bool|.mk _ _ _ _ _ _ ks=>decide (ks.length*184<=140737488351232)&&eY ks def eY:List yP->Bool|[]=>true|k::l=>zJt k&&eY l def zJt:yP->Bool|.mk _ _ _ _ t=>B8 t end
end Go.Ab
namespace Go.Proofs.YtohkcbcddindpaaGreat
open Go Go.Ab Go.Proofs.Tryz
def NDs(G:Gh)(w:World):List TN->List zQ->Prop|[],[]=>True|x::xs,t::ts=>VL G w (rP t) x.cs.toList/\NDs G w xs ts|_,_=>False
theorem NDs.append{G:Gh}{w:World}:∀{xs ys:List TN}{ts us:List zQ},NDs G w xs ts->NDs G w ys us->NDs G w (xs++ys) (ts++us)|[],_,[],_,_,k=>k|_::_,_,_::_,_,h,k=>⟨h.1,h.2.append k⟩|[],_,_::_,_,h,_=>h.elim|_::_,_,[],_,h,_=>h.elim
theorem NDs.len{G:Gh}{w:World}:∀{xs:List TN}{ts:List zQ},NDs G w xs ts->xs.length=ts.length|[],[],_=>rfl|_::_,_::_,h=>by simp[NDs.len h.2]|[],_::_,h=>h.elim|_::_,[],h=>h.elim
theorem yAh{G:Gh}{w:World}{x:TN}{t:zQ}(h:VL G w (rP t) x.cs.toList):x.k=t.kind_/\x.r=t.row_:=by simp only[rP,TN.cs,VL,ai,V,Value.int.injEq,true_and]at h;exact⟨h.1,h.2.1⟩
theorem NDs.lf{G:Gh}{w:World}:∀{xs:List TN}{ts:List zQ},NDs G w xs ts->VL G w (zC vR (ts.filter λt=>decide (t.kind_=1))) (B7 (T8 xs))/\(T8 xs).length=(ts.filter λt=>decide (t.kind_=1)).length
 |[],[],_=>⟨trivial,rfl⟩|x::xs,t::ts,h=>by
  have ih:=NDs.lf h.2;have hk:=(yAh h.1).1;by_cases h1:t.kind_=1
  ·have e1:T8 (x::xs)=x::T8 xs:=by simp[T8,hk,h1]
   have e2:((t::ts).filter λt=>decide (t.kind_=1))=t::ts.filter λt=>decide (t.kind_=1):=by simp[h1]
   rw[e1,e2];refine⟨?_,by simp[ih.2]⟩;simp only[zC,B7,List.flatMap_cons];exact VL.append _ _ _ _ (by rw[uK];exact h.1) ih.1
  ·have e1:T8 (x::xs)=T8 xs:=by simp[T8,hk,h1]
   have e2:((t::ts).filter λt=>decide (t.kind_=1))=ts.filter λt=>decide (t.kind_=1):=by simp[h1]
   rw[e1,e2];exact ih|[],_::_,h=>h.elim|_::_,[],h=>h.elim
def J5(k:Nat)(out:List Bool)(x:zQ):List Bool:=if(x.kind_=1\/x.kind_=2)/\0<=x.row_/\x.row_<k then out.set x.row_.toNat true else out
def rcT(k:Nat)(l:List zQ):List Bool:=l.foldl (J5 k) (List.replicate k false)
theorem NDs.rc{G:Gh}{w:World}(k:Nat):∀{xs:List TN}{ts:List zQ},NDs G w xs ts->∀o,xs.foldl (gG k) o=ts.foldl (J5 k) o|[],[],_,_=>rfl|x::xs,t::ts,h,o=>by obtain⟨h1,h2⟩:=yAh h.1;rw[List.foldl_cons,List.foldl_cons,NDs.rc k h.2];unfold gG J5;rw[h1,h2]|[],_::_,h,_=>h.elim|_::_,[],h,_=>h.elim
mutual theorem zLw{G:Gh}{σ:wT}{w:World}(hR:yK G σ w):∀(t:zQ)(vs:List Value),B8 t=true->VL G w (vR t) vs->∃x:TT,vs=x.x.cs.toList/\O5 w.heap.size w x/\NDs G w x.nodes (wY t)
 |.mk k r v a b c ks,vs,ho,h=>by
  have h':=h;rw[vR]at h;rw[B8,Bool.and_eq_true]at ho;have hl:=VL.length _ _ h;obtain⟨v0,v1,v2,v3,v4,v5,v6,rfl⟩:∃a b c d e f g,vs=[a,b,c,d,e,f,g]:=by rcases vs with _|⟨a,_|⟨b,_|⟨c,_|⟨d,_|⟨e,_|⟨f,_|⟨g,_|⟨z,zs⟩⟩⟩⟩⟩⟩⟩⟩<;>simp at hl;exact⟨a,b,c,d,e,f,g,rfl⟩
  simp only[VL,and_true]at h;obtain⟨h0,h1,h2,h3,h4,h5,h6⟩:=h;obtain⟨p3,m3,rfl⟩:=zAO h3;obtain⟨p4,m4,rfl⟩:=zAO h4;obtain⟨p5,m5,rfl⟩:=zAO h5;simp only[ai,V]at h0 h1 h2 h6;subst h0 h1 h2;have hlen:=of_decide_eq_true ho.1;obtain⟨cap,-,⟨-,hn,-,hu,-⟩|⟨b',off,hu,hc,-⟩⟩:=h6
  ·have hks:ks=[]:=List.eq_nil_of_length_eq_zero hn;subst hks;refine⟨.mk ⟨k,r,v,⟨p3,_,m3⟩,⟨p4,_,m4⟩,⟨p5,_,m5⟩,⟨jY v6,0,0⟩⟩ .nil,by simp only[TT.x,TN.cs];rw[<-hu],⟨rfl,by simp[Y1.len],0,0,λh=>absurd rfl h,λh=>absurd rfl h,trivial⟩,?_⟩;simp only[TT.nodes,Y1.nodes,wY,sR];refine⟨?_,trivial⟩;rw[<-uK];simpa only[TN.cs,<-hu]using h'
  ·obtain⟨ks',e1,e2,e3,e4⟩:=zLv hR ks b' off ho.2 hc;refine⟨.mk ⟨k,r,v,⟨p3,_,m3⟩,⟨p4,_,m4⟩,⟨p5,_,m5⟩,⟨some ⟨b',off,none⟩,ks.length,cap⟩⟩ ks',by simp only[TT.x,TN.cs];rw[hu],⟨e1.symm,by rw[e1];exact hlen,b',off,λ_=>rfl,λh=>e4 (by omega),e2⟩,?_⟩;simp only[TT.nodes,wY];refine⟨?_,e3⟩;rw[<-uK];simpa only[TN.cs,hu]using h' theorem zLv{G:Gh}{σ:wT}{w:World}(hR:yK G σ w):∀(l:List yP)(b o:Nat),eY l=true->VC G w (rO l) b o->∃ks:Y1,ks.len=l.length/\J2 w.heap.size w b o ks/\NDs G w ks.nodes (sR l)/\(l.length≠0->b<w.heap.size)
 |[],_,_,_,_=>⟨.nil,rfl,trivial,trivial,λh=>absurd rfl h⟩|k::l,b,o,ho,h=>by rw[eY,Bool.and_eq_true]at ho;rw[rO]at h;have hl:(wA k).length=11:=nE.1 k;have h1:=VC.take _ b o 11 h;have h2:=VC.drop _ b o 11 h;rw[List.take_left' hl]at h1;rw[List.drop_left' hl]at h2;obtain⟨con,yes,a,s,t,e1,e2,e3⟩:=zXY hR k b o ho.1 h1;obtain⟨ks,f1,f2,f3,-⟩:=zLv hR l b (o+11) ho.2 h2;exact⟨.cons con yes a s t ks,by simp[Y1.len,f1],e1 ks f2,by simp only[Y1.nodes,sR];exact e2.append f3,λ_=>e3⟩theorem zXY{G:Gh}{σ:wT}{w:World}(hR:yK G σ w):∀(k:yP)(b o:Nat),zJt k=true->VC G w (wA k) b o->∃con yes a s t,(∀ks,J2 w.heap.size w b (o+11) ks->J2 w.heap.size w b o (.cons con yes a s t ks))/\NDs G w (if yes=true then t.nodes else[]) (gH k)/\b<w.heap.size
 |.mk con yes args solved t,b,o,ho,h=>by
  rw[zJt]at ho;have hh:=λvs=>zLw hR t vs ho;rw[wA,uK]at h;simp only[rP,List.cons_append,List.nil_append,VC,and_true]at h;obtain⟨l0,⟨v0,c0,r0⟩,l1,⟨v1,c1,r1⟩,l2,⟨v2,c2,r2⟩,l3,⟨v3,c3,r3⟩,l4,⟨v4,c4,r4⟩,l5,⟨v5,c5,r5⟩,l6,⟨v6,c6,r6⟩,l7,⟨v7,c7,r7⟩,l8,⟨v8,c8,r8⟩,l9,⟨v9,c9,r9⟩,l10,⟨v10,c10,r10⟩⟩:=h;obtain⟨x,e1,e2,e3⟩:=hh [v4,v5,v6,v7,v8,v9,v10] (by rw[uK];exact⟨r4,r5,r6,r7,r8,r9,r10,trivial⟩);simp only[TN.cs,List.cons.injEq,and_true]at e1;obtain⟨rfl,rfl,rfl,rfl,rfl,rfl,rfl⟩:=e1;obtain⟨p2,m2,rfl⟩:=zAO r2;obtain⟨p3,m3,rfl⟩:=zAO r3;simp only[ai,ab,V]at r0 r1;subst r0 r1;refine⟨con,yes,⟨p2,_,m2⟩,⟨p3,_,m3⟩,x,λks hks=>⟨c0,c1,c2,c3,c4,c5,c6,c7,c8,c9,c10,e2,hks⟩,?_,hR.L_lt l0⟩;rw[gH];split;·exact e3
  ·trivial end
open Go.RowKit
theorem zJs{G:Gh}{σ:wT}{w:World}(hR:yK G σ w){t:zQ}(ho:B8 t=true){u:Value}(h:V G w (xT t) u):∃x:TT,u=.agg x.x.cs/\O5 w.heap.size w x/\NDs G w x.nodes (wY t):=by unfold xT at h;rw[V]at h;obtain⟨vs,rfl,h⟩:=h;obtain⟨x,e,h2,h3⟩:=zLw hR t vs ho (by rw[uK];exact h);exact⟨x,by rw[e],h2,h3⟩
theorem zHu(t:zQ):AV.DataL [xT t]:=⟨⟨trivial,trivial,trivial,⟨trivial,yC _⟩,⟨trivial,dT _⟩,⟨trivial,dT _⟩,⟨trivial,zBH _⟩,trivial⟩,trivial⟩
theorem zNc(t:zQ)(k:Int):AV.DataL [xT t,ai k]:=⟨⟨trivial,trivial,trivial,⟨trivial,yC _⟩,⟨trivial,dT _⟩,⟨trivial,dT _⟩,⟨trivial,zBH _⟩,trivial⟩,trivial,trivial⟩
theorem yAg{t:zQ}(ho:B8 t=true):CT prog 10 [] [xT t] (ai ((min (wY t).length 8193:Nat):Int)) [] 0:=by
 refine⟨λG0 W cargs hB hR hv=>?_,zHu t,λ_ h=>(nomatch h),trivial,λ_ h=>(nomatch h)⟩;obtain⟨cl⟩:=cargs;rcases cl with _|⟨u,_|⟨z,zs⟩⟩;·exact hv.elim
 ·obtain⟨hu,-⟩:=hv;obtain⟨x,rfl,hT,hN⟩:=zJs hR ho hu;have hc:=callsIn_wide.1 (zUF Fence.wide rfl 4 trivial trivial trivial trivial rfl (by decide) x W hT);refine hc.mono ?_;rintro e w'⟨rfl,hb⟩;obtain⟨hE,hR'⟩:=hR.kept (vQ.of_below hb λ_ h=>h);refine⟨_,_,aM [],rfl,hE,hR',?_,λi X h=>by simp at h,λk hk=>by omega⟩;rw[hN.len];simp only[ai,V]
 ·exact hv.2.elim
theorem yAf{t:zQ}(ho:B8 t=true)(hn:(wY t).length<=1000000):CT prog 11 [] [xT t] (.sl (zC vR ((wY t).filter λt=>decide (t.kind_=1))) ((wY t).filter λt=>decide (t.kind_=1)).length .no) [] 0:=by
 refine⟨λG0 W cargs hB hR hv=>?_,zHu t,λ_ h=>(nomatch h),zHY _,λ_ h=>(nomatch h)⟩;obtain⟨cl⟩:=cargs;rcases cl with _|⟨u,_|⟨z,zs⟩⟩;·exact hv.elim
 ·obtain⟨hu,-⟩:=hv;obtain⟨x,rfl,hT,hN⟩:=zJs hR ho hu;have hc:=callsIn_wide.1 (zNd Fence.wide rfl 4 trivial trivial trivial trivial rfl (by decide) x (by rw[hN.len];exact hn) W hT);refine hc.mono ?_;obtain⟨hv2,hl2⟩:=hN.lf;rintro e w'⟨v,rfl,⟨hlen,hrow⟩,hb⟩;have hk:=vQ.of_below hb (F:=λk=>k<W.heap.size) λ_ h=>h;rcases hrow with⟨rfl,h0⟩|⟨g,cap,cur,rfl,hg,hcur,hcap,-,hcs,htk⟩
  ·obtain⟨hE,hR'⟩:=hR.kept hk;rw[hl2]at h0;refine⟨_,_,aM [],rfl,hE,hR',?_,λi X h=>by simp at h,λk hk=>by omega⟩;simp only[V];rw[List.eq_nil_of_length_eq_zero h0];exact⟨0,Nat.le_refl _,.inl ⟨rfl,rfl,rfl,rfl,trivial⟩⟩
  ·have hcur':cur=(B7 (T8 x.nodes)).toArray++(cur.toList.drop ((T8 x.nodes).length*7)).toArray:=by apply Array.ext';simp only[Array.toList_append,<-htk,List.take_append_drop]
   rw[hcur']at hcur;obtain⟨hE,hR',hV⟩:=hR.grown hk hg _ _ _ 36 hv2 hcur;refine⟨_,_,aM [],rfl,hE,hR',?_,λi X h=>by simp at h,λk hk=>by omega⟩;simp only[V];exact⟨cap,by rw[<-hl2];exact hcap,.inr ⟨g,0,by rw[hl2],hV,trivial⟩⟩
 ·exact hv.2.elim
theorem zUG(l:List Bool):zC boC l=l.map ab:=by induction l with|nil=>rfl|cons b l ih=>simp only[zC,List.flatMap_cons]at ih⊢;rw[ih];rfl
theorem zVn{G:Gh}{w:World}:∀l:List Bool,VL G w (l.map ab) (l.map .bool)|[]=>trivial|b::l=>⟨rfl,zVn l⟩
theorem yAe{t:zQ}(ho:B8 t=true){k:Int}(h0:0<k)(h32:k<=32):CT prog 53 [] [xT t,ai k] (.sl (zC boC (rcT k.toNat (wY t))) (rcT k.toNat (wY t)).length .no) [] 0:=by
 obtain⟨n,rfl⟩:∃n:Nat,k=n:=⟨k.toNat,by omega⟩;refine⟨λG0 W cargs hB hR hv=>?_,zNc t n,λ_ h=>(nomatch h),dB _,λ_ h=>(nomatch h)⟩;obtain⟨cl⟩:=cargs;rcases cl with _|⟨u,_|⟨u2,_|⟨z,zs⟩⟩⟩;·exact hv.elim
 ·exact hv.2.elim
 ·obtain⟨hu,hu2,-⟩:=hv;simp only[ai,V]at hu2;subst hu2;obtain⟨x,rfl,hT,hN⟩:=zJs hR ho hu;have hc:=callsIn_wide.1 (zJu Fence.wide rfl 4 trivial trivial trivial trivial rfl (by decide) x n (by omega) (by omega) W hT);refine hc.mono ?_;rintro e w'⟨B,rfl,hB,hcur,hb⟩;have e1:rcN n x.nodes=rcT n (wY t):=hN.rc n _;rw[e1]at hcur;obtain⟨hE,hR',hV⟩:=hR.grown (vQ.of_below hb λ_ h=>h) hB ((rcT n (wY t)).map ab) ((rcT n (wY t)).map .bool) #[] 4 (zVn _) (by simpa using hcur);have hl:(rcT n (wY t)).length=n:=by rw[<-e1,J4]
  refine⟨_,_,aM [],rfl,hE,hR',?_,λi X h=>by simp at h,λk hk=>by omega⟩;simp only[V,Int.toNat_natCast];exact⟨n,by omega,.inr ⟨B,0,by rw[hl],by rw[zUG];exact hV,trivial⟩⟩
 ·exact hv.2.2.elim
def e53(_qq:Nat)(b:zQ)(a:Int):Option (List Bool):=if B8 b=true/\0<a/\a<=32 then some (rcT a.toNat (wY b))else none
theorem yCE{c:Nat}{b:zQ}{a:Int}{r:List Bool}(h:e53 c b a=some r):CT prog 53 [] [xT b,ai a] (.sl (zC boC r) r.length .no) [] 0:=by
 unfold e53 at h;split at h;·next g=>obtain rfl:=(Option.some.inj h).symm;exact yAe g.1 g.2.1 g.2.2
 ·cases h
theorem c53{c:Nat}{b:zQ}{a:Int}:Cz (e53 c b a) 53 [] [xT b,ai a] (λr=>.sl (zC boC r) r.length .no) (λ_=>[]) 0:=λ_ h=>yCE h
def me6{α:Type}:Me (α×Int×Int×Int×Int×Int):=⟨λr=>r.2.1,λr=>r.2.2.2.2.1,λr L=>(r.1,r.2.1,r.2.2.1,r.2.2.2.1,L,r.2.2.2.2.2)⟩
theorem zRi{t:Tm}(h:zF t=true):¬(-1:Int)∈uT t:=λhz=>by have:=pU.2 (sA (λk n h e=>(h e).2) (B3 (zM h).2.2)) (-1) hz;omega
structure zDV(n:Nat)(x:xO):Prop where
 ctx:bR x.c_
 args:∀t∈x.args_,zF t=true
 len:x.args_.length=n
def zJr(l:List yL)(n:Nat)(rows:List (List zB)):Prop:=rows.length<=65535/\∀r∈rows,r.length=n/\sC r<=8192/\∀p∈r,GP l p/\mE p
def TrR(T F:Int)(r:zQ×Int×Int×Int×Int×Int):Prop:=r.2.1=0->r.2.2.1=0/\r.2.2.2.1=0/\B8 r.1=true/\Fu T r.2.2.2.2.1 r.2.2.2.2.2/\((wY r.1).length:Int)+r.2.2.2.2.1<=F
def KdR(T F:Int)(r:yP×Int×Int×Int×Int×Int):Prop:=r.2.1=0->r.2.2.1=0/\r.2.2.2.1=0/\zJt r.1=true/\Fu T r.2.2.2.2.1 r.2.2.2.2.2/\((gH r.1).length:Int)+r.2.2.2.2.1<=F
abbrev tr0:zQ:=zQ.mk 0 0 0 [] [] [] []
theorem zCf:∀(a:List yP)(k:yP),eY a=true->zJt k=true->eY (a++[k])=true|[],k,_,h=>by simp[eY,h]|x::a,k,h,hk=>by rw[eY,Bool.and_eq_true]at h;rw[List.cons_append,eY,h.1,zCf a k h.2 hk];rfl
theorem T9:∀(a:List yP)(k:yP),(sR (a++[k])).length=(sR a).length+(gH k).length|[],k=>by simp[sR]|x::a,k=>by rw[List.cons_append,sR,sR,List.length_append,List.length_append,T9 a k];omega
section
variable{N:ByteArray->Bool}{l:List yL}(hE:wZ N l)(he:∀e∈l,jL e)(hl:l.length<=65535)(hcl:∀e∈l,ECl e)
include hE he hl hcl
def IHT(l:List yL)(n:Nat)(rows:List (List zB))(T d F:Int):Prop:=∀(x:xO)(L U:Int),zDV n x->Fu T L U->L<F->yI d me6 (λL q=>e51 q (xB l) L U rows ⟨0,0,0⟩ x) L (TrR T L)
omit hE he hl hcl in theorem zRh{n:Nat}{rows:List (List zB)}{T d F:Int}(hn:n<=65535)(IH:IHT l n rows T d F)(x:xO)(hx:zDV n x)(b:zR)(hb:b.yes_=true)(hg:zAC l b)(row at0 L U:Int)(hF:Fu T L U)(hLF:L<F):∀(r:List Tm)(v:Nat)(acc:List Tm),x.args_.drop v=r->acc.length=v->(∀t∈acc,zF t=true)->v<=x.args_.length->yI d me6 (λL q=>bG q (xB l) L U rows ⟨0,0,0⟩ x b row at0 (v:Int) acc) L (KdR T L):=by
 have hlen:=hx.len;rcases hg with hg|⟨-,g1,g2,g3,g4⟩;·rw[hb]at hg;cases hg
 intro r;induction r with|nil=>
  intro v acc hd ha hs hv;have hv2:x.args_.length<=v:=List.drop_eq_nil_iff.1 hd;refine yI.succ ?_;simp only[bG];refine yI.ite (λh=>?_) λ_=>?_;·rw[yB hd]at h;cases h
  ·refine yI.bind (IH ⟨b.vars_,acc⟩ L U ⟨g1,hs,by show acc.length=n;omega⟩ hF hLF) (λr _ h8=>zG.ret h8) λr hr=>yI.ret λh0=>?_;obtain⟨h1,h2,h3,h4,h5⟩:=hr h0;refine⟨h1,h2,h3,h4,?_⟩;show((gH (.mk b.con_ b.yes_ b.args_ b.solved_ r.1)).length:Int)+_<=_;rw[gH,if_pos hb];exact h5|cons t r ih=>
  intro v acc hd ha hs hv;have hlt:=yF hd;have ht:=hx.args t (List.mem_of_mem_drop (by rw[hd];simp));refine yI.succ ?_;simp only[bG,e77];refine yI.ite (λ_=>yI.pure (zZ hd) (yI.tot (zGM b.solved_ g3 (λs hs=>zX (g4 s hs).1) (λs hs=>(g4 s hs).2) (-1) (λs hs=>zRi (g4 s hs).1) t ht (zRi ht)) λr5 h5=>yI.ite (λh=>?_) λh=>yI.pure (yG (by simp;omega)) ?_)) λh=>?_
  ·exact yI.tot (Q:=λy=>y=(tr0,r5.2,row,at0)) (zG.ite (λ_=>zG.ret rfl) λh=>by cases h) λy e=>by subst e;exact yI.ret λh0=>by have e0:r5.2=0:=h0;rw[e0]at h;cases h
  ·have h0:r5.2=0:=by simpa using h
   rw[zW v (by omega)];refine ih (v+1) _ (zS hd) (by simp[ha]) (λz hz=>?_) hlt;rcases List.mem_append.1 hz with hz|hz;·exact hs z hz
   ·rw[List.mem_singleton.1 hz];exact(h5.2 h0).1
  ·rw[yA hd]at h;cases h
omit hE he hl hcl in theorem zUH{n:Nat}{rows:List (List zB)}{T d F:Int}(hn:n<=65535)(IH:IHT l n rows T d F)(x:xO)(hx:zDV n x)(b:zR)(hg:zAC l b)(row at0 L U:Int)(hF:Fu T L U)(hLF:L<F):yI d me6 (λL q=>zUD q (xB l) L U rows ⟨0,0,0⟩ x b row at0) L (KdR T L):=by
 refine yI.succ ?_;simp only[zUD];refine yI.ite (λh=>zRh hn IH x hx b h hg row at0 L U hF hLF x.args_ 0 [] rfl rfl (λt h=>nomatch h) (Nat.zero_le _)) λh=>yI.ret λ_=>⟨rfl,rfl,?_,hF,?_⟩
 ·show zJt (.mk _ _ _ _ tr0)=true;simp[zJt,B8,eY]
 ·show((gH (.mk _ b.yes_ _ _ _)).length:Int)+L<=L;rw[gH,h];simp
omit hE he hl hcl in theorem zHt{n:Nat}{rows:List (List zB)}{T d F:Int}(hn:n<=65535)(IH:IHT l n rows T d F)(x:xO)(hx:zDV n x)(o s w no:Bool)(k a:Int)(hb:List Tm)(hbn hbc:Nat)(row:Int)(bs:List zR)(hbs:bs.length<=65535)(hg:∀b∈bs,zAC l b)(F0:Int):∀(r:List zR)(v:Nat)(L U:Int)(ks:List yP),bs.drop v=r->Fu T L U->L<F->ks.length=v->eY ks=true->((sR ks).length:Int)+L+1<=F0->v<=bs.length->yI d me6 (λL q=>B5 q (xB l) rows x o s w no k a hb hbn hbc row bs (bs.length:Int) (v:Int) 0 0 0 L U ks) L (TrR T F0):=by intro r;induction r with
 |nil=>
  intro v L U ks hd hF hLF hk ho hnn hv;refine yI.succ ?_;simp only[B5];refine yI.ite (λh=>?_) λ_=>yI.ret λ_=>⟨rfl,rfl,?_,hF,?_⟩;·rw[yB hd]at h;cases h
  ·show B8 (.mk _ _ _ _ _ _ ks)=true;rw[B8,ho,decide_eq_true (by omega)];rfl
  ·show((wY (.mk _ _ _ _ _ _ ks)).length:Int)+L<=F0;rw[wY,List.length_cons];omega|cons b r ih=>
  intro v L U ks hd hF hLF hk ho hnn hv;have hlt:=yF hd;have hbm:b∈bs:=List.mem_of_mem_drop (by rw[hd];simp);refine yI.succ ?_;simp only[B5];refine yI.ite (λ_=>yI.pure (zZ hd) (yI.bind (zUH hn IH x hx b (hg b hbm) row a L U hF hLF) (λr _ h8=>zG.pure (yG (by simp;omega)) (zG.ite (λ_=>zG.ret h8) λh=>by have e:r.2.1=8:=h8;rw[e]at h;cases h)) λr10 h10=>?_)) λh=>?_
  ·dsimp only[me6];refine yI.pure (yG (by simp;omega)) (yI.ite (λh=>yI.ret λh0=>?_) λh=>?_);·have e0:r10.2.1=0:=h0;rw[e0]at h;cases h
   ·have e0:r10.2.1=0:=by simpa using h
    obtain⟨h1,h2,h3,h4,h5⟩:=h10 e0;rw[zW v (by omega),e0,h1,h2];refine ih (v+1) r10.2.2.2.2.1 r10.2.2.2.2.2 _ (zS hd) h4 (by omega) (by simp[hk]) (zCf _ _ ho h3) ?_ hlt;rw[T9];omega
  ·rw[yA hd]at h;cases h
theorem zJq(hfm:zH (λq=>X3 q l) true){n:Nat}{rows:List (List zB)}{T d F:Int}(hT:T<=100000)(hd0:0<=d)(hdd:d<=100000)(hn:n<=65535)(IH:IHT l n rows T d F)(x:xO)(hx:zDV n x)(o s w no:Bool)(k a:Int)(hb:List Tm)(hbn hbc:Nat)(row:Int)(L U:Int)(hF:Fu T L U)(hLF:L<F):yI d me6 (λL q=>e80 q (xB l) L U rows ⟨0,0,0⟩ x o s w no k a hb hbn hbc row) L (TrR T (L+1)):=by
 have hcl2:=hx.ctx.len;refine yI.succ ?_;simp only[e80,e77];refine yI.bind (zAF hE he hl hcl hfm x.c_ k (by omega) (λv hv=>zX (hx.ctx.each v hv).2.2.1) hF.1 hF.2.1 hF.2.2 hT hd0 hdd) (λz q e8=>?_) (λr1 q1=>?_) (by rintro(z|z)<;>rfl)
 ·rcases q with⟨e,a',b,e0,rfl⟩|⟨bs,a',b,hb',hg,hF',h1,rfl⟩
  ·have e8':e=8:=e8;subst e8';exact zG.ite (λ_=>zG.bind (P:=λy=>y=(tr0,8,row,a)) (zG.ite (λ_=>zG.ret rfl) λh=>by cases h) λy e=>by subst e;exact zG.ret rfl) λh=>by cases h
  ·exact absurd e8 (show¬(0:Int)=8 by decide)
 rcases q1 with⟨e,a',b,e0,rfl⟩|⟨bs,a',b,hb',hg,hF',h1,rfl⟩
 ·dsimp only[meA];refine yI.ite (λ_=>yI.tot (Q:=λy=>y=(tr0,e,row,a)) (zG.ite (λ_=>zG.ret rfl) λh=>by cases h) λy e'=>?_) λh=>absurd (by simpa using h) e0;subst e';exact yI.ret λh=>absurd h e0
 ·dsimp only[meA];exact yI.ite (λh=>by cases h) λ_=>zHt hn IH x hx o s w no k a hb hbn hbc row bs hb' hg (L+1) bs 0 a' b [] rfl hF' (by omega) rfl rfl (by simp[sR];omega) (Nat.zero_le _)
end
section
variable{N:ByteArray->Bool}{l:List yL}(hE:wZ N l)(he:∀e∈l,jL e)(hl:l.length<=65535)(hcl:∀e∈l,ECl e)
include hE he hl hcl
theorem zNa(hfm:zH (λq=>X3 q l) true){n:Nat}{rows:List (List zB)}{T d:Int}(hT:T<=100000)(hd0:0<=d)(hdd:d<=100000)(x:xO)(hx:zDV n x)(o s w no:Bool)(k a:Int)(hb:List Tm)(hbn hbc:Nat)(row:Int)(L U:Int)(hF:Fu T L U):yI d me6 (λL q=>e79 q (xB l) L U rows ⟨0,0,0⟩ x o s w no k a hb hbn hbc row) L (TrR T (L+1)):=by
 have hcl2:=hx.ctx.len;have fl:∀e:Int,zG (λ(_:Nat)=>if((0:Int)==0)=true then some (tr0,e,row,a)else some (tr0,0,0,0)) λy=>y=(tr0,e,row,a):=λe=>zG.ite (λ_=>zG.ret rfl) λh=>by cases h
 simp only[e79,e77];refine yI.bind (zNn hE he hl hcl hfm x.c_ k (by omega) (λv hv=>zX (hx.ctx.each v hv).2.2.1) hF.1 hF.2.1 hF.2.2 hT hd0 hdd) (λr _ h8=>?_) λr1 q1=>?_
 ·have e:r.2.1=8:=h8;have ne:(r.2.1 !=0)=true:=by rw[e];rfl
  refine zG.ite (λ_=>zG.ite (λ_=>(fl _).bind λy e'=>by subst e';exact zG.ret e) λh=>by rw[ne]at h;cases h) λ_=>zG.ite (λ_=>(fl _).bind λy e'=>by subst e';exact zG.ret e) λh=>by rw[ne]at h;cases h
 ·dsimp only[me3];refine yI.ite (λ_=>yI.ite (λh=>yI.tot (fl _) λy e'=>?_) λh=>yI.ret λ_=>?_) λ_=>yI.ite (λh=>yI.tot (fl _) λy e'=>?_) λh=>yI.tot (fl _) λy e'=>?_;·subst e';exact yI.ret λh0=>by have e0:r1.2.1=0:=h0;rw[e0]at h;cases h
  ·obtain⟨h1,h2⟩:=q1 (by simpa using h);refine⟨rfl,rfl,rfl,h1,?_⟩;show((wY (.mk _ _ _ _ _ _ [])).length:Int)+r1.2.2.1<=L+1;simp[wY,sR];omega
  ·subst e';exact yI.ret λh0=>by have e0:r1.2.1=0:=h0;rw[e0]at h;cases h
  ·subst e';exact yI.ret λh0=>absurd h0 (by show¬(17:Int)=0;decide)
theorem zNA(hfm:zH (λq=>X3 q l) true){n:Nat}{rows:List (List zB)}(hr:zJr l n rows){T d:Int}(hT:T<=100000)(hd0:0<=d)(hdd:d<=100000)(hn:n<=65535)(x:xO)(hx:zDV n x)(L U:Int)(hF:Fu T L U)(IH:IHT l n rows T d (L+1)):∀(r:List (List zB))(v:Nat),rows.drop v=r->yI d me6 (λL q=>O4 q (xB l) rows ⟨0,0,0⟩ x (0,L,U) (v:Int)) L λr=>TrR T (L+1) r/\(r.2.1=0->rows≠[]):=by have hcl2:=hx.ctx.len;have hlen:=hx.len;have hr1:=hr.1;intro r;induction r with
 |nil=>
  intro v hd;refine yI.succ ?_;simp only[O4,e77];refine yI.ite (λh=>?_) λ_=>yI.tot (Q:=λy=>y=(tr0,10,-1,0)) (zG.ite (λ_=>zG.ret rfl) λh=>by cases h) λy e=>?_;·rw[yB hd]at h;cases h
  ·subst e;exact yI.ret ⟨λh0=>absurd h0 (by show¬(10:Int)=0;decide),λh0=>absurd h0 (by show¬(10:Int)=0;decide)⟩|cons x1 r ih=>
  intro v hd;have hlt:=yF hd;have hm:x1∈rows:=List.mem_of_mem_drop (by rw[hd];simp);have hne:rows≠[]:=λe=>by rw[e]at hm;cases hm
  obtain⟨r1,r2,r3⟩:=hr.2 x1 hm;have hx1:rows[v]?=some x1:=by have:=congrArg (λl=>l[0]?) hd;simpa[List.getElem?_drop]using this
  have hbs:=zJz l (x.c_.map (·.n_)) x1 x.args_ PS0 hx.args (λb h=>nomatch h);refine yI.succ ?_;simp only[O4,e77];refine yI.ite (λ_=>yI.totL (zUB hE he L U rows ⟨0,0,0⟩ x (by omega) hx.args (by omega) v x1 hx1 r3 r2 (by omega)) (λL' q=>yAi _ _ _ _ q) λr7 h7=>?_) λh=>?_
  ·obtain⟨bc,rfl⟩:=h7;have hb1:=hbs.1;have hb2:=hbs.2;generalize hPs l (x.c_.map (·.n_)) x1 x.args_ PS0=s at hb1 hb2⊢;dsimp only;refine yI.ite (λ_=>?_) λ_=>yI.ite (λ_=>yI.tot (Q:=λy=>y=(tr0,13,(v:Int),s.at_)) (zG.ite (λ_=>zG.ret rfl) λh=>by cases h) λy e=>?_) λ_=>yI.ite (λ_=>yI.ite (λ_=>?_) λ_=>?_) λ_=>?_
   ·rw[zW v (by omega)];exact ih (v+1) (zS hd)
   ·subst e;exact yI.ret ⟨λh0=>absurd h0 (by show¬(13:Int)=0;decide),λh0=>absurd h0 (by show¬(13:Int)=0;decide)⟩
   ·exact yI.bind (zNa hE he hl hcl hfm hT hd0 hdd x hx _ _ _ _ _ _ _ _ _ _ L U hF) (λr _ h8=>zG.ret h8) λr hr=>yI.ret ⟨hr,λ_=>hne⟩
   ·exact yI.bind (zJq hE he hl hcl hfm hT hd0 hdd hn IH x hx _ _ _ _ _ _ _ _ _ _ L U hF (by omega)) (λr _ h8=>zG.ret h8) λr hr=>yI.ret ⟨hr,λ_=>hne⟩
   ·simp only[e81,e82,zDS];have z:s.bs.length<=1048576:=by have:(PS0.bs.length)=0:=rfl;omega
    refine yI.evt (zHy x.c_ (by omega) (λv hv=>(hx.ctx.each v hv).2.2.1) _ 0 [] rfl rfl) (yI.evt (zLz s.bs bc z hb2 _ 0 [] rfl rfl) (yI.evt (zKZ x.args_ (by omega) hx.args _ 0 [] rfl rfl) (yI.ret ⟨λ_=>⟨rfl,rfl,rfl,hF,?_⟩,λ_=>hne⟩)));show((wY (.mk _ _ _ _ _ _ [])).length:Int)+L<=L+1;simp[wY,sR];omega
  ·rw[yA hd]at h;cases h
theorem zRg(hfm:zH (λq=>X3 q l) true){n:Nat}{rows:List (List zB)}(hr:zJr l n rows){T d:Int}(hT:T<=100000)(hd0:0<=d)(hdd:d<=100000)(hn:n<=65535):∀(m:Nat)(x:xO)(L U:Int),zDV n x->Fu T L U->L<m->yI d me6 (λL q=>e51 q (xB l) L U rows ⟨0,0,0⟩ x) L λr=>TrR T L r/\(r.2.1=0->rows≠[]):=by intro m;induction m with|zero=>intro x L U hx hF hL;have:=hF.1;omega|succ m ih=>
 intro x L U hx hF hL;have f0:=hF.1;have f1:=hF.2.1;have f2:=hF.2.2;refine yI.succ ?_;simp only[e51,e77];refine yI.bind (zGE f0 f1 hd0 (by omega)) (λr _ h8=>?_) λr1 h1=>?_
 ·have e:r.1=8:=h8;refine zG.ite (λ_=>zG.bind (P:=λy=>y=(tr0,r.1,0,0)) (zG.ite (λ_=>zG.ret rfl) λh=>by cases h) λy e'=>by subst e';exact zG.ret e) λh=>by rw[e]at h;cases h
 ·obtain⟨a,b,c⟩:=r1;dsimp only[meM]at h1⊢;rcases h1 with rfl|⟨rfl,hL1,rfl,rfl⟩
  ·refine yI.ite (λ_=>yI.tot (Q:=λy=>y=(tr0,8,0,0)) (zG.ite (λ_=>zG.ret rfl) λh=>by cases h) λy e=>?_) λh=>by cases h
   subst e;exact yI.ret ⟨λh0=>absurd h0 (by show¬(8:Int)=0;decide),λh0=>absurd h0 (by show¬(8:Int)=0;decide)⟩
  ·refine yI.ite (λh=>by cases h) λ_=>?_;have:=zNA hE he hl hcl hfm hr hT hd0 hdd hn x hx (L-1) (U+1) ⟨by omega,by omega,by omega⟩ (λx' L' U' hx' hF' hL'=>(ih x' L' U' hx' hF' (by omega)).mono λr h=>h.1) rows 0 rfl;rw[show L-1+1=L by omega]at this;exact this
end
mutual def e27:Nat->zB->Int->Option (xN×Int)|0,_,_=>none|c+1,a,d=>O6 c a (xF (d-1)) 0 []def O6:Nat->zB->Int->Int->(List xN)->Option (xN×Int)|0,_,_,_,_=>none|c+1,a,e,f,b=>if decide (f<(a.sub_.length:Int))then if decide (e>(-9000))then zV a.sub_ f>>=λx3=>e27 c (zB.mk x3.kind_ x3.n_ x3.at_ x3.sub_ x3.t_) e>>=λr5=>yZ 88 b [(xN.mk r5.1.kind_ r5.1.n_ r5.1.at_ r5.1.sub_ r5.1.t_)]>>=λl7=>O6 c a r5.2 (xF (f+1)) l7 else some ((xN.mk a.kind_ a.n_ a.at_ b a.t_),e)else some ((xN.mk a.kind_ a.n_ a.at_ b a.t_),e)end
theorem zNB:∀c:Nat,(∀a d,Cz (e27 c a d) 27 [] [wQ a,ai d] (λr=>.tup [zDv (xN.mk r.1.kind_ r.1.n_ r.1.at_ r.1.sub_ r.1.t_),ai r.2]) (λ_=>[]) 0)/\(∀a e f b,Lz (O6 c a e f b) 0 f27 (pt 16309 f27) (λj=>sp j 51 0 [(1,ai e),(2,.mp 0 0),(4,.mp 1 0),(6,.mp 2 0),(7,ai f)]) ⟨[(0,.cells [ai a.kind_,ai a.n_,ai a.at_,zP zK a.sub_ .no,ai a.t_.k,ai a.t_.n,zP zA a.t_.sub .no]),(1,.cells [ai 0,ai 0,ai 0,zP vS ([]:List xN) .nl,ai 0,ai 0,zP zA ([]:yV) .nl]),(2,.cells [ai a.kind_,ai a.n_,ai a.at_,zP vS b (.st 0 7),ai a.t_.k,ai a.t_.n,zP zA a.t_.sub .no])],3,[0],1,[]⟩ (λr=>.tup [zDv (xN.mk r.1.kind_ r.1.n_ r.1.at_ r.1.sub_ r.1.t_),ai r.2]) (λ_=>[]) 0 [.blk 0,.seq (pt 255 f27)]):=wF ⟨λ_ _=>cN,λ_ _ _ _=>lN⟩ λc ih=>⟨λa d=>fw func27<|fH 6 [(some 2,3,7)] [0,1,2] [0] [1,2,4,6,7] (ih.2 _ _ _ _),λa e f b=>lw λ_=>rB 2 (rB 0 (rA 1 (zBx (o:=.no)) λ_=>rC 1 [] (ih.1 _ _) λr5=>rS (oS 5 (xR dO [(xN.mk r5.1.kind_ r5.1.n_ r5.1.at_ r5.1.sub_ r5.1.t_)]))<|rW (λh8=>oP 0 (zUZ h8 (by simp))) λ_=>lH 2 [] [0,1,2] [1] [1,2,4,6,7] (ih.2 _ _ _ _))<|lE 2)<|lE 2⟩
theorem c27{c a d}:Cz (e27 c a d) 27 [] [wQ a,ai d] (λr=>.tup [zDv (xN.mk r.1.kind_ r.1.n_ r.1.at_ r.1.sub_ r.1.t_),ai r.2]) (λ_=>[]) 0:=(zNB _).1 _ _
mutual def U0:Nat->(List (List zB))->(List (List xN))->Int->Int->Option (List (List xN)×Bool)
 |0,_,_,_,_=>none|d+1,a,e,b,c=>if decide (c<(a.length:Int))then zCe d a e c b [] 0 else some (e,true)def zCe:Nat->(List (List zB))->(List (List xN))->Int->Int->(List xN)->Int->Option (List (List xN)×Bool)
 |0,_,_,_,_,_,_=>none|d+1,a,e,c,b,f,g=>zV a c>>=λx2=>if decide (g<(x2.length:Int))then if decide (b>0)then zV x2 g>>=λx6=>e27 d (zB.mk x6.kind_ x6.n_ x6.at_ x6.sub_ x6.t_) b>>=λr8=>yZ 88 f [(xN.mk r8.1.kind_ r8.1.n_ r8.1.at_ r8.1.sub_ r8.1.t_)]>>=λl10=>zCe d a e c r8.2 l10 (xF (g+1))else yZ 24 e [f]>>=λl12=>if decide ((xF (b-1))<=0)then some ([],false)else U0 d a l12 (xF (b-1)) (xF (c+1))else yZ 24 e [f]>>=λl15=>if decide ((xF (b-1))<=0)then some ([],false)else U0 d a l15 (xF (b-1)) (xF (c+1))end
def e6(d:Nat)(a:List (List zB)):Option (List (List xN)×Bool):=U0 d a [] 400 0
theorem zJp:∀d:Nat,(∀a e b c,Lz (U0 d a e b c) 0 f6 (pt 16309 f6) (λj=>sp j 58 0 [(0,zP (qS zK) a .no),(4,zP (qS vS) e (.st 0 1)),(5,ai b),(6,ai c)]) ⟨[],0,[0],1,[]⟩ (λr=>.tup [.sl (zC (qS vS) r.1) r.1.length .no,ab r.2]) (λ_=>[]) 0 [.blk 0,.seq (pt 255 f6)])/\(∀a e c b f g,Lz (zCe d a e c b f g) 0 f6 (pt 1068885941 f6) (λj=>sp j 58 0 [(0,zP (qS zK) a .no),(4,zP (qS vS) e (.st 0 1)),(5,ai b),(6,ai c),(7,zP vS f (.st 1 7)),(8,ai g)]) ⟨[],0,[0,1],2,[]⟩ (λr=>.tup [.sl (zC (qS vS) r.1) r.1.length .no,ab r.2]) (λ_=>[]) 0 [.blk 2,.seq (pt 16701343 f6),.blk 1,.seq (pt 260959 f6),.loop (pt 16309 f6),.blk 0,.seq (pt 255 f6)]):=wF ⟨λ_ _ _ _=>lN,λ_ _ _ _ _ _=>lN⟩ λd ih=>⟨λa e b c=>lw λ_=>rB 1 (lH 1 [(none,7,7)] [] [0,1] [0,4,5,6,7,8] (ih.2 _ _ _ _ _ _))<|lE 0,λa e c b f g=>lw λ_=>rH λ_ h3=>rS (oA 0 (zOI (o:=.no) h3))<|rB 2 (rB 0 (rS (oA 0 (zOI (o:=.no) h3))<|rA 1 (zBx (o:=.no)) λ_=>rC 1 [] c27 λr8=>rS (oS 4 (xR dO [(xN.mk r8.1.kind_ r8.1.n_ r8.1.at_ r8.1.sub_ r8.1.t_)]))<|rW (λh11=>oP 0 (zUZ h11 (by simp))) λ_=>lH 1 [] [] [0,2] [0,4,5,6,7,8] (ih.2 _ _ _ _ _ _))<|rW (λh13=>oP 1 (zUY h13 (by simp))) λ_=>rB 1 (lE 0)<|lH 1 [] [] [2] [0,4,5,6] (ih.1 _ _ _ _))<|rW (λh16=>oP 1 (zUY h16 (by simp))) λ_=>rB 1 (lE 0)<|lH 1 [] [] [2] [0,4,5,6] (ih.1 _ _ _ _)⟩
theorem c6{d a}:Cz (e6 d a) 6 [] [zP (qS zK) a .no] (λr=>.tup [.sl (zC (qS vS) r.1) r.1.length .no,ab r.2]) (λ_=>[]) 0:=fw func6<|fH 1 [(none,4,1)] [] [0] [0,4,5,6] (((zJp _).1) _ _ _ _)
mutual theorem zCd:∀(p:zB)(n:Int),mE p->-8999<=n->n<=1000000->zG (λq=>e27 q p n) λr=>r.2<=n-1/\-9000<=r.2/\(-9000<r.2->(ndP p:Int)+r.2<=n)|.mk k n0 a sub t,n,ho,h0,h1=>by rw[mE]at ho;refine zG.succ ?_;simp only[e27];rw[yQ (x:=n-1) (by omega) (by omega)];refine(zAP sub (.mk k n0 a sub t) (n-1) 0 [] rfl ho.2.1 ho.1 (by simp;omega) (by omega)).mono λr hr=>⟨hr.1,hr.2.1,λh=>?_⟩;have:=hr.2.2 h;rw[ndP];omega theorem zAP:∀(r:List zB)(p:zB)(n:Int)(v:Nat)(acc:List xN),p.sub_.drop v=r->kU r->p.sub_.length<=17592186044416->(acc.length:Int)+n<=1000000->-9000<=n->zG (λq=>O6 q p n (v:Int) acc) λo=>o.2<=n/\-9000<=o.2/\(-9000<o.2->(sC r:Int)+o.2<=n)
 |[],p,n,v,acc,hd,ho,hl,ha,hn=>by refine zG.succ ?_;simp only[O6];refine zG.ite (λh=>?_) λ_=>zG.ret ⟨Int.le_refl _,hn,λ_=>by rw[sC];simp⟩;rw[yB hd]at h;cases h|x::r,p,n,v,acc,hd,ho,hl,ha,hn=>by
  have hlt:=yF hd;rw[kU]at ho;refine zG.succ ?_;simp only[O6,mD];refine zG.ite (λ_=>zG.ite (λhp=>zG.pure (zZ hd) ((zCd x n ho.1 (by have:=of_decide_eq_true hp;omega) (by omega)).bind λy hy=>zG.pure (yG (by simp;omega)) ?_)) λhp=>zG.ret ⟨Int.le_refl _,hn,λh=>?_⟩) λh=>?_
  ·rw[zW v (by omega)];have h1:=hy.1;have h2:=hy.2.1;refine(zAP r p y.2 (v+1) _ (zS hd) ho.2 hl (by simp;omega) h2).mono λo h=>⟨by have:=h.1;omega,h.2.1,λh'=>?_⟩;have a1:=h.2.2 h';have a2:=hy.2.2 (by have:=h.1;omega);rw[sC];omega
  ·exfalso;have:=of_decide_eq_false hp;simp only[]at h;omega
  ·rw[yA hd]at h;cases h end
def zRf(rows:List (List zB)):Prop:=rows.length<=17592186044416/\∀r∈rows,r.length<=17592186044416/\kU r
theorem zJo(rows:List (List zB))(ho:zRf rows):zG (λq=>e6 q rows) λo=>o.2=true->∀r∈rows,sC r<=400:=by
 have key:∀(rs:List (List zB))(i:Nat)(acc:List (List xN))(n:Int),rows.drop i=rs->(acc.length:Int)+n<=400->0<n->zG (λq=>U0 q rows acc n (i:Int)) λo=>o.2=true->∀r∈rs,sC r<=400:=by intro rs;induction rs with|nil=>intro i acc n hd ha hn;refine zG.succ ?_;simp only[U0];refine zG.ite (λh=>?_) λ_=>zG.ret λ_ r hr=>nomatch hr;rw[yB hd]at h;cases h|cons x rs ih=>
  intro i acc n hd ha hn;have hlt:=yF hd;have hx:=ho.2 x (List.mem_of_mem_drop (by rw[hd];simp));have inner:∀(ps:List zB)(w:Nat)(m:Int)(bcc:List xN),x.drop w=ps->m<=n->-9000<=m->(bcc.length:Int)+m<=400->(-9000<m->((x.length-w:Nat):Int)=ps.length)->(-9000<m->(sC x:Int)+m<=n+sC ps)->zG (λq=>zCe q rows acc (i:Int) m bcc (w:Int)) λo=>o.2=true->∀r∈x::rs,sC r<=400:=by
   intro ps;have fin:∀(bcc:List xN)(m:Int),m<=n->-9000<=m->(0<m-1->sC x<=400)->bcc.length<=1000000->zG (λq=>yZ 24 acc [bcc]>>=λl12=>if decide (xF (m-1)<=0)=true then some (([]:List (List xN)),false)else U0 q rows l12 (xF (m-1)) (xF ((i:Int)+1))) λo=>o.2=true->∀r∈x::rs,sC r<=400:=λbcc m h1 h2 h3 h4=>by
    refine zG.pure (yG (by simp;omega)) ?_;rw[yQ (x:=m-1) (by omega) (by omega),zW i (by have:=ho.1;omega)];refine zG.ite (λ_=>zG.ret λh=>nomatch h) λh=>(ih (i+1) _ (m-1) (zS hd) (by simp;omega) (by have:=of_decide_eq_false h;omega)).mono λo q h' r hr=>?_;rcases List.mem_cons.1 hr with rfl|hr;·exact h3 (by have:=of_decide_eq_false h;omega)
    ·exact q h' r hr
   induction ps with|nil=>
    intro w m bcc hdw h1 h2 h3 h4 h5;refine zG.succ ?_;simp only[zCe];refine zG.pure (zZ hd) (zG.ite (λh=>?_) λ_=>fin bcc m h1 h2 (λhm=>?_) (by omega));·rw[yB hdw]at h;cases h
    ·have:=h5 (by omega);rw[sC]at this;omega|cons p ps ihp=>
    intro w m bcc hdw h1 h2 h3 h4 h5;have hltw:=yF hdw;have hp:mE p:=J1 hx.2 p (List.mem_of_mem_drop (by rw[hdw];simp));refine zG.succ ?_;simp only[zCe,mD];refine zG.pure (zZ hd) (zG.ite (λ_=>zG.ite (λhm=>zG.pure (zZ hdw) ((zCd p m hp (by have:=of_decide_eq_true hm;omega) (by omega)).bind λy hy=>zG.pure (yG (by simp;have:=of_decide_eq_true hm;omega)) ?_)) λhm=>fin bcc m h1 h2 (λhm'=>by have:=of_decide_eq_false hm;omega) ?_) λh=>?_)
    ·have hm0:=of_decide_eq_true hm;rw[zW w (by have:=hx.1;omega)];refine ihp (w+1) y.2 _ (zS hdw) (by have:=hy.1;omega) hy.2.1 (by simp;have:=hy.1;omega) (λ_=>by have:=congrArg List.length hdw;rw[List.length_drop]at this;simp at this;omega) λh'=>?_;have a1:=h5 (by omega);have a2:=hy.2.2 h';rw[sC]at a1;omega
    ·have:=of_decide_eq_false hm;omega
    ·rw[yA hdw]at h;cases h
  refine zG.succ ?_;simp only[U0];refine zG.ite (λ_=>inner x 0 n [] rfl (Int.le_refl _) (by omega) (by simp;omega) (λ_=>by simp) λ_=>by omega) λh=>?_;rw[yA hd]at h;cases h
 simp only[e6];exact key rows 0 [] 400 rfl (by simp) (by omega)
theorem zHs{n:Int}(h0:0<=n)(h1:n<=1048576):zF (.mk 8 n [])=true:=by simp[zF,xZ,pP,D3,Tm.nodes,Tm.high,xU,pO,Tm.k,Tm.n,Tm.sub,h0,h1]
def e71(b:Nat)(c:xJ)(a:zB):Option (Bool):=X3 b c>>=λr1=>if r1 then zRq b (zB.mk a.kind_ a.n_ a.at_ a.sub_ a.t_)>>=λr4=>if r4 then jX b c (zB.mk a.kind_ a.n_ a.at_ a.sub_ a.t_)>>=λr7=>some r7 else some false else some false
theorem c71{b c a}:Cz (e71 b c a) 71 [] [zP xE c .no,wQ a] (λr=>ab r) (λ_=>[]) 0:=fw func71<|rK 0 [] c62 (λ_=>rK 1 [] yAl (λ_=>rC 1 [] zRp λ_=>fE 0) λ_=>fE 0) λ_=>fE 0
mutual def O7:Nat->xG->yV->(List (List zB))->xJ->Int->Option (Bool)
 |0,_,_,_,_,_=>none|d+1,M,a,c,r1,b=>if decide (b<(c.length:Int))then zV c b>>=λx13=>if(x13.length:Int)!=(a.length:Int)then some false else e70 d x13>>=λr16=>if r16 then O8 d M a c r1 b x13 0 else some false else some true def O8:Nat->xG->yV->(List (List zB))->xJ->Int->(List zB)->Int->Option (Bool)
 |0,_,_,_,_,_,_,_=>none|d+1,M,a,c,r1,b,x13,f=>if decide (f<(x13.length:Int))then zV x13 f>>=λx20=>e71 d r1 (zB.mk x20.kind_ x20.n_ x20.at_ x20.sub_ x20.t_)>>=λr22=>if r22 then O8 d M a c r1 b x13 (xF (f+1))else some false else O7 d M a c r1 (xF (b+1))end
def O9:Nat->xG->yV->(List (List zB))->xJ->Int->Option (Bool)
 |0,_,_,_,_,_=>none|d+1,M,a,c,r1,e=>if decide (e<(a.length:Int))then zV a e>>=λx4=>e68 d x4 e (r1.length:Int)>>=λr6=>if r6 then e69 d x4>>=λr9=>if decide ((r9.length:Int)>0)then some false else O9 d M a c r1 (xF (e+1))else some false else O7 d M a c r1 0
def e48(d:Nat)(M:xG)(a:yV)(c:List (List zB)):Option (Bool):=e67 d M>>=λr1=>O9 d M a c r1 0
theorem zDW:∀d:Nat,(∀M a c r1 b,Lz (O7 d M a c r1 b) 2 f48 (pt 65461 f48) (λj=>sp j 66 0 [(1,zP zA a .no),(7,zP xE r1 .no),(38,zP (qS zK) c .no),(39,ai (c.length:Int)),(40,ai b)]) ⟨[(0,mB M 1),(1,mR M)],2,[],0,[]⟩ (λr=>ab r) (λ_=>[mB M 1,mR M]) 0 [.blk 2,.seq (pt 1023 f48)])/\(∀M a c r1 b x13 f,Lz (O8 d M a c r1 b x13 f) 2 f48 (pt 17160464373 f48) (λj=>sp j 66 0 [(1,zP zA a .no),(7,zP xE r1 .no),(38,zP (qS zK) c .no),(39,ai (c.length:Int)),(40,ai b),(54,zP zK x13 .no),(55,ai (x13.length:Int)),(56,ai f)]) ⟨[(0,mB M 1),(1,mR M)],2,[],0,[]⟩ (λr=>ab r) (λ_=>[mB M 1,mR M]) 0 [.blk 4,.blk 3,.seq (pt 4189567 f48),.loop (pt 65461 f48),.blk 2,.seq (pt 1023 f48)]):=wF ⟨λ_ _ _ _ _=>lN,λ_ _ _ _ _ _ _=>lN⟩ λd ih=>⟨λM a c r1 b=>lw λ_=>rB 0 (rA 0 (zOI (o:=.no)) λ_=>rB 3 (lE 0)<|rK 0 [] c70 (λ_=>lH 2 [] [0,1] [] [1,7,38,39,40,54,55,56] (ih.2 _ _ _ _ _ _ _)) λ_=>lE 1)<|lE 0,λM a c r1 b x13 f=>lw λ_=>rB 0 (rA 0 (zBx (o:=.no)) λ_=>rK 3 [] c71 (λ_=>lH 2 [] [0,1] [] [1,7,38,39,40,54,55,56] (ih.2 _ _ _ _ _ _ _)) λ_=>lE 1)<|lH 1 [] [0,1] [] [1,7,38,39,40] (ih.1 _ _ _ _ _)⟩
theorem zXZ:∀d:Nat,∀M a c r1 e,Lz (O9 d M a c r1 e) 2 f48 (pt 16309 f48) (λj=>sp j 66 0 [(1,zP zA a .no),(2,zP (qS zK) c .no),(7,zP xE r1 .no),(18,zP zA a .no),(19,ai (a.length:Int)),(20,ai e)]) ⟨[(0,mB M 1),(1,mR M)],2,[],0,[]⟩ (λr=>ab r) (λ_=>[mB M 1,mR M]) 0 [.blk 0,.seq (pt 255 f48)]:=wF (λ_ _ _ _ _=>lN) λd ih=>λM a c r1 e=>lw λ_=>rB 0 (rA 0 (wE (o:=.no)) λ_=>rK 4 [] c68 (λ_=>rC 2 [] c69 λ_=>rB 1 (lE 0)<|lH 1 [] [0,1] [] [1,2,7,18,19,20] (ih _ _ _ _ _)) λ_=>lE 1)<|lH 1 [] [0,1] [] [1,7,38,39,40] (((zDW _).1) _ _ _ _ _)
theorem c48{d M a c}:Cz (e48 d M a c) 48 [mB M 1,mR M] [.mp 0 0,zP zA a .no,zP (qS zK) c .no] (λr=>ab r) (λ_=>[mB M 1,mR M]) 0:=fw func48<|rC 1 [0,1] c67 λ_=>fH 1 [] [0,1] [] [1,2,7,18,19,20] (zXZ _ _ _ _ _ _)
def e54(b:Nat)(a:List zB):Option (Int):=if(a.length:Int)==0 then some 0 else zV a 0>>=λx2=>some x2.at_
theorem c54{b a}:Cz (e54 b a) 54 [] [zP zK a .no] (λr=>ai r) (λ_=>[]) 0:=fw func54<|rB 1 (fE 0)<|rA 0 (zBx (o:=.no)) λ_=>fE 1
def P0:Nat->xG->(List (List zB))->(zQ×Int×Int×Int×Int×Int)->(List Bool)->Int->Option (zQ×yS×Int×Int)|0,_,_,_,_,_=>none|b+1,M,c,r14,r17,a=>if decide (a<(r17.length:Int))then zV r17 a>>=λx20=>if x20 then P0 b M c r14 r17 (xF (a+1))else zV c a>>=λx23=>e54 b x23>>=λr25=>some ((zQ.mk 0 0 0 [] [] [] []),(yS.mk 11 a r25),r14.2.2.2.2.1,r14.2.2.2.2.2)else some (r14.1,(yS.mk 0 0 0),r14.2.2.2.2.1,r14.2.2.2.2.2)
def e32(b:Nat)(M:xG)(f:yV)(c:List (List zB))(d e:Int):Option (zQ×yS×Int×Int):=e48 b M f c>>=λr1=>if r1 then if decide ((f.length:Int)>24)then some ((zQ.mk 0 0 0 [] [] [] []),(yS.mk 2 0 0),d,e)else if decide ((c.length:Int)>32)then some ((zQ.mk 0 0 0 [] [] [] []),(yS.mk 2 0 0),d,e)else e49 b f 0>>=λr6=>if r6.2 !=0 then some ((zQ.mk 0 0 0 [] [] [] []),(yS.mk 5 0 0),d,e)else e50 b r6.1>>=λr9=>if r9 then e52 b r6.1>>=λr12=>e51 b M d e c (yS.mk 0 0 0) (xO.mk r6.1 r12)>>=λr14=>if !((r14.2.1==0)&&((r14.2.2.1==0)&&(r14.2.2.2.1==0)))then some ((zQ.mk 0 0 0 [] [] [] []),(yS.mk r14.2.1 r14.2.2.1 r14.2.2.2.1),r14.2.2.2.2.1,r14.2.2.2.2.2)else e53 b r14.1 (c.length:Int)>>=λr17=>P0 b M c r14 r17 0 else some ((zQ.mk 0 0 0 [] [] [] []),(yS.mk 5 0 0),d,e)else some ((zQ.mk 0 0 0 [] [] [] []),(yS.mk 5 0 0),d,e)
theorem zYz:∀b:Nat,∀M c r14 r17 a,Lz (P0 b M c r14 r17 a) 3 Tryz.f32 (pt 16777141 Tryz.f32) (λj=>sp j 92 0 [(2,zP (qS zK) c .no),(8,.mp 3 0),(9,.mp 4 0),(13,.mp 5 0),(72,zP boC r17 .no),(73,ai (r17.length:Int)),(74,ai a)]) ⟨[(0,mB M 1),(1,mR M),(2,.cells [ai r14.2.2.2.2.1,ai r14.2.2.2.2.2]),(3,.cells [ai 0,ai 0,ai 0,zP zD ([]:xQ) .nl,zP zA ([]:yV) .nl,zP zA ([]:yV) .nl,zP wA ([]:List yP) .nl]),(4,.cells [ai 0,ai 0,ai 0]),(5,.cells [ai r14.1.kind_,ai r14.1.row_,ai r14.1.var_,zP zD r14.1.vars_ .no,zP zA r14.1.binds_ .no,zP zA r14.1.args_ .no,zP wA r14.1.kids_ .no])],6,[],0,[]⟩ (λr=>.tup [xT r.1,fU r.2.1]) (λr=>[mB M 1,mR M,.cells [ai r.2.2.1,ai r.2.2.2]]) 0 [.blk 0,.seq (pt 262143 Tryz.f32)]:=wF (λ_ _ _ _ _=>lN) λb ih=>λM c r14 r17 a=>lw λ_=>rB 0 (rA 0 (zZv (o:=.no)) λ_=>rB 0 (lH 2 [] [0,1,2,3,4,5] [] [2,8,9,13,72,73,74] (ih _ _ _ _ _))<|rA 1 (zOI (o:=.no)) λ_=>rC 1 [] c54 λ_=>lE 2)<|lE 3
theorem c32{b M f c d e}:Cz (e32 b M f c d e) 32 [mB M 1,mR M,.cells [ai d,ai e]] [.mp 0 0,zP zA f .no,zP (qS zK) c .no,.mp 2 0] (λr=>.tup [xT r.1,fU r.2.1]) (λr=>[mB M 1,mR M,.cells [ai r.2.2.1,ai r.2.2.2]]) 0:=fw func32<|rK 0 [0,1] c48 (λ_=>rB 2 (fE 2)<|rB 1 (fE 2)<|rC 0 [] c49 λ_=>rB 2 (fE 2)<|rK 0 [] c50 (λ_=>rC 1 [] c52 λ_=>rC 0 [5,0,1,2] c51 λ_=>rB 2 (fE 3)<|rC 2 [] c53 λ_=>fH 1 [] [0,1,2,3,4,6] [] [2,8,9,13,72,73,74] (zYz _ _ _ _ _ _)) λ_=>fE 3) λ_=>fE 3
def meD:Me (zQ×yS×Int×Int):=⟨λr=>r.2.1.e_,λr=>r.2.2.1,λr L=>(r.1,r.2.1,L,r.2.2.2)⟩
theorem zUI(k:Nat)(l:List zQ):(rcT k l).length=k:=by
 have:∀(l:List zQ)(o:List Bool),(l.foldl (J5 k) o).length=o.length:=by intro l;induction l with|nil=>exactλ_=>rfl|cons x l ih=>intro o;rw[List.foldl_cons,ih];unfold J5;split<;>simp
 rw[rcT,this,List.length_replicate]
theorem zAQ(p0:List Tm)(hp:p0.length<=24)(ho:uS p0)(from0:Int)(h0:0<=from0)(h1:from0<=1048576):∀(r:List Tm)(v:Nat)(acc:List zJ),p0.drop v=r->acc.length=v->v<=p0.length->(∀w∈acc,from0<=w.n_/\w.type_.Ok)->zG (λq=>gD q p0 from0 (v:Int) acc) λx=>(∀w∈x.1,from0<=w.n_/\w.type_.Ok)/\x.1.length<=24/\(x.2=0->x.1.length=p0.length)
 |[],v,acc,hd,ha,hv,hoa=>by refine zG.succ ?_;simp only[gD];refine zG.ite (λh=>?_) λ_=>zG.ret ⟨hoa,by show acc.length<=_;omega,λ_=>by have:=List.drop_eq_nil_iff.1 hd;show acc.length=_;omega⟩;rw[yB hd]at h;cases h|t::r,v,acc,hd,ha,hv,hoa=>by
  have hlt:=yF hd;have ht:t∈p0:=List.mem_of_mem_drop (by rw[hd];simp);refine zG.succ ?_;simp only[gD];refine zG.ite (λ_=>zG.pure (zZ hd) (zG.bind (P:=λr=>r=lU acc) ((eU acc (by omega)).tot rfl) λr11 h11=>?_)) λh=>?_
  ·subst h11;refine(N9 t (lU acc) (ho t ht) (by unfold lU;simp;omega) (Y0 acc)).bind λr13 h13=>zG.ite (λhne=>zG.ret ⟨(λx hx=>nomatch hx),by simp,λh0=>by have e:r13.2=0:=h0;rw[e]at hne;cases hne⟩) λ_=>zG.pure (yG (by simp;omega)) ?_;rw[zW v (by omega),yQ (x:=from0+v) (by omega) (by omega)];refine zAQ p0 hp ho from0 h0 h1 r (v+1) _ (zS hd) (by simp;omega) hlt λx hx=>?_;rcases List.mem_append.1 hx with hx|hx;·exact hoa x hx
   ·rw[List.mem_singleton.1 hx];exact⟨by show from0<=from0+v;omega,h13.1⟩
  ·rw[yA hd]at h;cases h
theorem zNC(p0:List Tm)(hp:p0.length<=65535)(ho:uS p0)(from0:Int)(h0:0<=from0):zG (λq=>e49 q p0 from0) λx=>(∀w∈x.1,from0<=w.n_/\w.type_.Ok)/\x.1.length<=24/\(x.2=0->x.1.length=p0.length):=by have no:∀e:Int,e≠0->zG (λ_:Nat=>some (([]:List zJ),e)) λx=>(∀w∈x.1,from0<=w.n_/\w.type_.Ok)/\x.1.length<=24/\(x.2=0->x.1.length=p0.length):=λe he=>zG.ret ⟨(λx hx=>nomatch hx),by simp,λh=>absurd h he⟩;simp only[e49,e72];refine zG.ite (λ_=>no 5 (by decide)) λ_=>zG.ite (λ_=>no 5 (by decide)) λh1=>zG.ite (λ_=>no 5 (by decide)) λ_=>(B2 p0 hp ho _ 0 rfl).bind λb _=>zG.ite (λ_=>zG.ite (λ_=>no 2 (by decide)) λh2=>?_) λ_=>no 5 (by decide);have h1:=of_decide_eq_false h1;have h2:=of_decide_eq_false h2;exact zAQ p0 (by omega) ho from0 h0 (by omega) _ 0 [] rfl rfl (Nat.zero_le _) λx h=>nomatch h
def TOk(t:zQ):Prop:=B8 t=true/\(wY t).length<=1000000
theorem zRe:TOk tr0:=⟨rfl,by simp[wY,sR]⟩
section
variable{N:ByteArray->Bool}{l:List yL}(hE:wZ N l)(he:∀e∈l,jL e)(hl:l.length<=65535)(hcl:∀e∈l,ECl e)
include hE
theorem zHr(hfm:zH (λq=>X3 q l) true)(types:List Tm)(rows:List (List zB))(ho:zRf rows)(hn:∀r∈rows,sC r<=400):∀(rs:List (List zB))(v:Nat),rows.drop v=rs->zG (λq=>O7 q (xB l) types rows l (v:Int)) λb=>b=true->∀r∈rs,r.length=types.length/\∀p∈r,GP l p:=by intro rs;induction rs with|nil=>intro v hd;refine zG.succ ?_;simp only[O7];refine zG.ite (λh=>?_) λ_=>zG.ret λ_ r hr=>nomatch hr;rw[yB hd]at h;cases h|cons x rs ih=>
 intro v hd;have hlt:=yF hd;have hxm:x∈rows:=List.mem_of_mem_drop (by rw[hd];simp);have hx:=ho.2 x hxm;have inner:∀(ps:List zB)(w:Nat),x.drop w=ps->zG (λq=>O8 q (xB l) types rows l (v:Int) x (w:Int)) λb=>b=true->(∀p∈ps,GP l p)/\∀r∈rs,r.length=types.length/\∀p∈r,GP l p:=by intro ps;induction ps with
  |nil=>
   intro w hdw;refine zG.succ ?_;simp only[O8];refine zG.ite (λh=>?_) λ_=>?_;·rw[yB hdw]at h;cases h
   ·rw[zW v (by have:=ho.1;omega)];exact(ih (v+1) (zS hd)).mono λb h h'=>⟨λp hp=>(nomatch hp),h h'⟩|cons p ps ihp=>
   intro w hdw;have hltw:=yF hdw;have hp:mE p:=J1 hx.2 p (List.mem_of_mem_drop (by rw[hdw];simp));have hpr:zG (λq=>e71 q l p) λb=>b=true->GP l p:=by simp only[e71,mD];refine zG.bind (P:=λb=>b=true) (hfm.tot rfl) λ_ _=>zG.ite (λ_=>(zAL p hp).bind λ_ _=>zG.ite (λ_=>(zGY hE p hp).bind λb hb=>zG.ret hb) λ_=>zG.ret λh=>nomatch h) λ_=>zG.ret λh=>nomatch h
   refine zG.succ ?_;simp only[O8,mD];refine zG.ite (λ_=>zG.pure (zZ hdw) (hpr.bind λb hb=>zG.ite (λh=>?_) λ_=>zG.ret λh=>nomatch h)) λh=>?_
   ·rw[zW w (by have:=hx.1;omega)];refine(ihp (w+1) (zS hdw)).mono λb' q h'=>⟨λz hz=>?_,(q h').2⟩;rcases List.mem_cons.1 hz with rfl|hz;·exact hb h
    ·exact(q h').1 z hz
   ·rw[yA hdw]at h;cases h
 refine zG.succ ?_;simp only[O7];refine zG.ite (λ_=>zG.pure (zZ hd) (zG.ite (λ_=>zG.ret λh=>nomatch h) λhne=>(zGX x hx.2 (by have:=hn x hxm;omega)).bind λb _=>zG.ite (λ_=>(inner x 0 rfl).mono λb q h r hr=>?_) λ_=>zG.ret λh=>nomatch h)) λh=>?_
 ·rcases List.mem_cons.1 hr with rfl|hr
  ·have hq:(r.length:Int)=types.length:=by simpa using hne
   exact⟨by omega,(q h).1⟩
  ·exact(q h).2 r hr
 ·rw[yA hd]at h;cases h
include he hl hcl
theorem zJn(hfm:zH (λq=>X3 q l) true)(types:List Tm)(hty:uS types)(htl:types.length<=1000000)(rows:List (List zB))(ho:zRf rows)(hn:∀r∈rows,sC r<=400):zG (λq=>e48 q (xB l) types rows) λb=>b=true->(∀r∈rows,r.length=types.length/\∀p∈r,GP l p)/\∀t∈types,zF t=true:=by
 have hEnt:zH (λq=>e67 q (xB l)) l:=by simp only[e67];exact((eA l hl he hcl).eq (jM hE)).bind zH.ret
 have key:∀(r:List Tm)(v:Nat),types.drop v=r->zG (λq=>O9 q (xB l) types rows l (v:Int)) λb=>b=true->(∀r∈rows,r.length=types.length/\∀p∈r,GP l p)/\∀t∈r,zF t=true:=by intro r;induction r with|nil=>intro v hd;refine zG.succ ?_;simp only[O9];refine zG.ite (λh=>?_) λ_=>(zHr hE hfm types rows ho hn rows 0 rfl).mono λb q h=>⟨q h,λt ht=>nomatch ht⟩;rw[yB hd]at h;cases h|cons x r ih=>
  intro v hd;have hlt:=yF hd;have hx:=hty x (List.mem_of_mem_drop (by rw[hd];simp));refine zG.succ ?_;simp only[O9];refine zG.ite (λ_=>zG.pure (zZ hd) (zG.bind (P:=λb=>b=rQ x v l.length) ((lK x _ _ hx).tot rfl) λb hb=>zG.ite (λhbt=>zG.bind (P:=λ_=>True) ((lJ x hx).tot trivial) λ_ _=>zG.ite (λ_=>zG.ret λh=>nomatch h) λ_=>?_) λ_=>zG.ret λh=>nomatch h)) λh=>?_
  ·rw[zW v (by omega)];refine(ih (v+1) (zS hd)).mono λb' q h'=>⟨(q h').1,λt ht=>?_⟩;rcases List.mem_cons.1 ht with rfl|ht
   ·rw[hb]at hbt;unfold rQ at hbt;simp only[Bool.and_eq_true]at hbt;exact hbt.1.1
   ·exact(q h').2 t ht
  ·rw[yA hd]at h;cases h
 simp only[e48];exact zG.bind (P:=λr=>r=l) (hEnt.tot rfl) λr e=>by subst e;exact key types 0 rfl
theorem zND(hfm:zH (λq=>X3 q l) true)(types:List Tm)(hty:uS types)(htl:types.length<=65535)(rows:List (List zB))(ho:zRf rows)(hn:∀r∈rows,sC r<=400){L d:Int}(h0:0<=L)(hL:L<=1000)(hd0:0<=d)(hdd:d<=100000):yI d meD (λL q=>e32 q (xB l) types rows L 0) L λr=>TOk r.1:=by
 have err:∀(f:yS)(L U:Int),yI d meD (λL(_:Nat)=>some (tr0,f,L,U)) L λr=>TOk r.1:=λf L U=>yI.ret zRe;simp only[e32];refine yI.tot (zJn hE he hl hcl hfm types hty (by omega) rows ho hn) λb hb=>yI.ite (λhbt=>?_) λ_=>err _ _ _;obtain⟨hrows,hts⟩:=hb hbt;refine yI.ite (λ_=>err _ _ _) λh24=>yI.ite (λ_=>err _ _ _) λh32=>yI.tot (zNC types htl hty 0 (Int.le_refl _)) λr6 h6=>yI.ite (λ_=>err _ _ _) λh6e=>?_;have h32':=of_decide_eq_false h32;refine yI.tot (nI (by omega) λv hv=>(h6.1 v hv).2) λb2 hb2=>yI.ite (λhb2t=>?_) λ_=>err _ _ _;have hc:=hb2 hb2t;have hcl2:=hc.len;have hlen:=h6.2.2 (by simpa using h6e);have hpl:zDV types.length ⟨r6.1,lU r6.1⟩:=⟨hc,λt ht=>by obtain⟨v,hv,rfl⟩:=List.mem_map.1 ht;exact zHs (hc.each v hv).1 (hc.each v hv).2.1,by show(lU r6.1).length=_;unfold lU;rw[List.length_map,hlen]⟩;have hro:zJr l types.length rows:=⟨by omega,λr hr=>⟨(hrows r hr).1,by have:=hn r hr;omega,λp hp=>⟨(hrows r hr).2 p hp,J1 (ho.2 r hr).2 p hp⟩⟩⟩;refine yI.evt (eU r6.1 (by omega)) (yI.bind (zRg hE he hl hcl hfm hro (T:=L) (by omega) hd0 hdd htl (L.toNat+1) ⟨r6.1,lU r6.1⟩ L 0 hpl ⟨h0,Int.le_refl _,by omega⟩ (by omega)) (λr _ h8=>?_) λr14 h14=>?_);·have e:r.2.1=8:=h8;refine zG.ite (λ_=>zG.ret e) λh=>?_;rw[e]at h;cases h
 ·dsimp only[me6];refine yI.ite (λ_=>err _ _ _) λhz=>?_;have hz':(r14.2.1==0)=true:=by cases h:(r14.2.1==0)with|true=>rfl|false=>rw[h]at hz;cases hz
  have e0:r14.2.1=0:=by simpa using hz'
  obtain⟨g1,g2,g3,g4,g5⟩:=h14.1 e0;have hne:=h14.2 e0;have hpos:0<rows.length:=List.length_pos_iff.2 hne;have hok:TOk r14.1:=⟨g3,by have:=g4.1;omega⟩;refine yI.evt (a:=rcT rows.length (wY r14.1)) (zH.mk λq=>by unfold e53;rw[if_pos ⟨g3,by omega,by omega⟩];simp) ?_;have hrl:=zUI rows.length (wY r14.1);generalize rcT rows.length (wY r14.1)=R at hrl;have key:∀(r:List Bool)(v:Nat)(L1:Int),R.drop v=r->yI d meD (λL q=>P0 q (xB l) rows (r14.1,r14.2.1,r14.2.2.1,r14.2.2.2.1,L,r14.2.2.2.2.2) R (v:Int)) L1 λr=>TOk r.1:=by intro r;induction r with|nil=>intro v L1 hd;refine yI.succ ?_;simp only[P0];refine yI.ite (λh=>?_) λ_=>yI.ret hok;rw[yB hd]at h;cases h|cons x r ih=>
   intro v L1 hd;have hlt:=yF hd;obtain⟨x1,hx1⟩:∃x1,rows[v]?=some x1:=⟨_,List.getElem?_eq_getElem (by omega)⟩;have hfirst:zG (λq=>e54 q x1) λ_=>True:=by simp only[e54];refine zG.ite (λ_=>zG.ret trivial) λh=>?_;cases x1 with|nil=>cases h|cons p ps=>exact zG.pure (a:=p) (uN (i:=0) rfl) (zG.ret trivial)
   refine yI.succ ?_;simp only[P0];refine yI.ite (λ_=>yI.pure (zZ hd) (yI.ite (λ_=>?_) λ_=>yI.pure (uN hx1) (yI.tot hfirst λ_ _=>yI.ret zRe))) λh=>?_;·rw[zW v (by omega)];exact ih (v+1) L1 (zS hd)
   ·rw[yA hd]at h;cases h
  exact key R 0 _ rfl
end
def e10(_qq:Nat)(a:zQ):Option Int:=if B8 a=true then some ((min (wY a).length 8193:Nat):Int)else none
theorem yCF{b:Nat}{a:zQ}{r:Int}(h:e10 b a=some r):CT prog 10 [] [xT a] (ai r) [] 0:=by
 unfold e10 at h;split at h
 ·obtain rfl:=(Option.some.inj h).symm;exact yAg (by assumption)
 ·cases h
theorem c10{b:Nat}{a:zQ}:Cz (e10 b a) 10 [] [xT a] (λr=>ai r) (λ_=>[]) 0:=λ_ h=>yCF h
def e11(_qq:Nat)(a:zQ):Option (List zQ):=if B8 a=true/\(wY a).length<=1000000 then some ((wY a).filter λt=>decide (t.kind_=1))else none
theorem yCG{b:Nat}{a:zQ}{r:List zQ}(h:e11 b a=some r):CT prog 11 [] [xT a] (.sl (zC vR r) r.length .no) [] 0:=by
 unfold e11 at h;split at h;·next g=>obtain rfl:=(Option.some.inj h).symm;exact yAf g.1 g.2
 ·cases h
theorem c11{b:Nat}{a:zQ}:Cz (e11 b a) 11 [] [xT a] (λr=>.sl (zC vR r) r.length .no) (λ_=>[]) 0:=λ_ h=>yCG h
def e41(c:Nat)(a b:Int):Option (Tm):=some (Tm.mk a b [])
theorem c41{c a b}:Cz (e41 c a b) 41 [] [ai a,ai b] (λr=>yY r) (λ_=>[]) 0:=fw func41<|fE 1
def e17(b:Nat)(a:Int):Option (Tm):=e41 b 6 a>>=λr1=>some r1
theorem c17{b a}:Cz (e17 b a) 17 [] [ai a] (λr=>yY r) (λ_=>[]) 0:=fw func17<|rC 0 [] c41 λ_=>fE 1
def e18(f:Nat)(a:ByteArray)(b:Tm)(c d:Int)(e:yE):Option (yL):=some (yL.mk 1 a b (Tm.mk 0 0 []) 0 0 c d 0 e [])
theorem c18{f a b c d e}:Cz (e18 f a b c d e) 18 [] [at' a,yY b,ai c,ai d,zP zY e .no] (λr=>zVE r) (λ_=>[]) 0:=fw func18<|fE 2
def e42(d:Nat)(c:Int)(a b:Tm):Option (Tm):=some (Tm.mk c 0 [a,b])
theorem c42{d c a b}:Cz (e42 d c a b) 42 [] [ai c,yY a,yY b] (λr=>yY r) (λ_=>[]) 0:=fw func42<|rS (oS 2 (xR wC [a,b]))<|fE 1
def eZ(c:Nat)(a b:Tm):Option (Tm):=e42 c 3 a b>>=λr1=>some r1
theorem gS{c a b}:Cz (eZ c a b) 19 [] [yY a,yY b] (λr=>yY r) (λ_=>[]) 0:=fw func19<|rC 2 [] c42 λ_=>fE 1
def e20(b:Nat)(a:Int):Option (Tm):=e41 b 2 a>>=λr1=>some r1
theorem U1{b a}:Cz (e20 b a) 20 [] [ai a] (λr=>yY r) (λ_=>[]) 0:=fw func20<|rC 0 [] c41 λ_=>fE 1
def zJm:Nat->yV->Int->Int->Int->yV->Option (Tm)|0,_,_,_,_,_=>none|e+1,d,f,a,b,c=>if decide (f<(d.length:Int))then zV d f>>=λx2=>e42 e 5 (Tm.mk a b c) x2>>=λr4=>zJm e d (xF (f+1)) r4.k r4.n r4.sub else some (Tm.mk a b c)
def e43(e:Nat)(g:Tm)(d:yV):Option (Tm):=zJm e d 0 g.k g.n g.sub
theorem zYx:∀e:Nat,∀d f a b c,Lz (zJm e d f a b c) 0 Tryz.f43 (pt 949 Tryz.f43) (λj=>sp j 19 0 [(1,zP zA d .no),(2,.mp 0 0),(4,.mp 1 0),(5,ai f)]) ⟨[(0,.cells [ai a,ai b,zP zA c .no]),(1,.cells [ai 0,ai 0,zP zA ([]:yV) .nl])],2,[],0,[]⟩ (λr=>yY r) (λ_=>[]) 0 [.blk 0,.seq (pt 15 Tryz.f43)]:=wF (λ_ _ _ _ _=>lN) λe ih=>λd f a b c=>lw λ_=>rB 1 (rA 1 (wE (o:=.no)) λ_=>rC 1 [] c42 λ_=>lH 2 [] [0,1] [] [1,2,4,5] (ih _ _ _ _ _))<|lE 2
theorem c43{e g d}:Cz (e43 e g d) 43 [] [yY g,zP zA d .no] (λr=>yY r) (λ_=>[]) 0:=fw func43<|fH 0 [] [0,1] [] [1,2,4,5] (zYx _ _ _ _ _ _)
def e21(c:Nat)(a:Tm)(b:yV):Option (Tm):=e43 c a b>>=λr1=>some r1
theorem c21{c a b}:Cz (e21 c a b) 21 [] [yY a,zP zA b .no] (λr=>yY r) (λ_=>[]) 0:=fw func21<|rC 1 [] c43 λ_=>fE 1
def e22(b:Nat)(a:Int):Option (Tm):=e41 b 1 a>>=λr1=>some r1
theorem B9{b a}:Cz (e22 b a) 22 [] [ai a] (λr=>yY r) (λ_=>[]) 0:=fw func22<|rC 0 [] c41 λ_=>fE 1
def e23(c:Nat)(a b:Tm):Option (Tm):=e42 c 4 a b>>=λr1=>some r1
theorem c23{c a b}:Cz (e23 c a b) 23 [] [yY a,yY b] (λr=>yY r) (λ_=>[]) 0:=fw func23<|rC 2 [] c42 λ_=>fE 1
def e44(d:Nat)(a b:Int)(c:yV):Option (Tm):=some (Tm.mk a b c)
theorem c44{d a b c}:Cz (e44 d a b c) 44 [] [ai a,ai b,zP zA c .no] (λr=>yY r) (λ_=>[]) 0:=fw func44<|fE 1
def e24(a:Nat)(b c:Int):Option (Tm):=e20 a c>>=λr1=>e44 a 7 b [r1]>>=λr3=>some r3
theorem c24{a b c}:Cz (e24 a b c) 24 [] [ai b,ai c] (λr=>yY r) (λ_=>[]) 0:=fw func24<|rC 0 [] U1 λr1=>rS (oS 0 (xR wC [r1]))<|rC 0 [] c44 λ_=>fE 1
def e25(f:Nat)(a:ByteArray)(b:Tm)(c d e:Int):Option (yL):=some (yL.mk 2 a b (Tm.mk 0 0 []) c d e 0 0 [] [])
theorem c25{f a b c d e}:Cz (e25 f a b c d e) 25 [] [at' a,yY b,ai c,ai d,ai e] (λr=>zVE r) (λ_=>[]) 0:=fw func25<|fE 2
def e26(d:Nat)(a:ByteArray)(b:Tm)(c:Int):Option (yL):=some (yL.mk 4 a b (Tm.mk 0 0 []) 14 c 2 0 0 [] [])
theorem c26{d a b c}:Cz (e26 d a b c) 26 [] [at' a,yY b,ai c] (λr=>zVE r) (λ_=>[]) 0:=fw func26<|fE 2
def e5(a:Nat):Option xJ:=e17 a 0>>=λr1=>e20 a 0>>=λr3=>eZ a r3 r3>>=λr5=>eZ a r3 r5>>=λr7=>e18 a (⟨#[80,97,105,114]⟩:ByteArray) r7 2 0 [15]>>=λr9=>e17 a 14>>=λr11=>e22 a 1>>=λr13=>e22 a 0>>=λr15=>e21 a r11 [r13,r15]>>=λr17=>e24 a 0 0>>=λr19=>e23 a r1 r1>>=λr21=>e17 a 2>>=λr23=>e21 a r23 [r15]>>=λr25=>e23 a r1 r25>>=λr27=>e23 a r1 r27>>=λr29=>e21 a r19 [r21,r15,r29,r13]>>=λr31=>e23 a r1 r31>>=λr33=>e23 a r1 r33>>=λr35=>e18 a (⟨#[78,97,116]⟩:ByteArray) r3 0 0 [1,2]>>=λr37=>e25 a (⟨#[122,101,114,111]⟩:ByteArray) r1 0 0 0>>=λr39=>eZ a r1 r1>>=λr41=>e25 a (⟨#[115,117,99]⟩:ByteArray) r41 0 1 0>>=λr43=>e18 a (⟨#[66,111,111,108]⟩:ByteArray) r3 0 0 [4,5]>>=λr45=>e17 a 3>>=λr47=>e25 a (⟨#[116,114,117,101]⟩:ByteArray) r47 3 0 0>>=λr49=>e25 a (⟨#[102,97,108,115,101]⟩:ByteArray) r47 3 1 0>>=λr51=>e18 a (⟨#[76,105,115,116]⟩:ByteArray) r5 1 0 [7,8]>>=λr53=>e17 a 6>>=λr55=>e21 a r55 [r15]>>=λr57=>eZ a r3 r57>>=λr59=>e25 a (⟨#[110,105,108]⟩:ByteArray) r59 6 0 1>>=λr61=>e21 a r55 [r13]>>=λr63=>e22 a 2>>=λr65=>e21 a r55 [r65]>>=λr67=>eZ a r63 r67>>=λr69=>eZ a r15 r69>>=λr71=>eZ a r3 r71>>=λr73=>e25 a (⟨#[99,111,110,115]⟩:ByteArray) r73 6 1 1>>=λr75=>eZ a r1 r3>>=λr77=>eZ a r3 r77>>=λr79=>e18 a (⟨#[86,101,99]⟩:ByteArray) r79 1 1 [10,11]>>=λr81=>e17 a 9>>=λr83=>e17 a 1>>=λr85=>e21 a r83 [r15,r85]>>=λr87=>eZ a r3 r87>>=λr89=>e25 a (⟨#[118,110,105,108]⟩:ByteArray) r89 9 0 1>>=λr91=>e21 a r83 [r65,r13]>>=λr93=>e22 a 3>>=λr95=>e21 a r23 [r65]>>=λr97=>e21 a r83 [r95,r97]>>=λr99=>eZ a r93 r99>>=λr101=>eZ a r13 r101>>=λr103=>eZ a r1 r103>>=λr105=>eZ a r3 r105>>=λr107=>e25 a (⟨#[118,99,111,110,115]⟩:ByteArray) r107 9 1 1>>=λr109=>eZ a r13 r3>>=λr111=>eZ a r15 r111>>=λr113=>eZ a r3 r113>>=λr115=>e18 a (⟨#[69,113]⟩:ByteArray) r115 2 1 [13]>>=λr117=>e17 a 12>>=λr119=>e21 a r119 [r13,r15,r15]>>=λr121=>eZ a r15 r121>>=λr123=>eZ a r3 r123>>=λr125=>e25 a (⟨#[114,101,102,108]⟩:ByteArray) r125 12 0 2>>=λr127=>e21 a r11 [r95,r65]>>=λr129=>eZ a r13 r129>>=λr131=>eZ a r13 r131>>=λr133=>eZ a r3 r133>>=λr135=>eZ a r3 r135>>=λr137=>e25 a (⟨#[112,97,105,114]⟩:ByteArray) r137 14 0 2>>=λr139=>eZ a r17 r65>>=λr141=>eZ a r3 r141>>=λr143=>eZ a r3 r143>>=λr145=>e26 a (⟨#[102,115,116]⟩:ByteArray) r145 0>>=λr147=>eZ a r17 r13>>=λr149=>eZ a r3 r149>>=λr151=>eZ a r3 r151>>=λr153=>e26 a (⟨#[115,110,100]⟩:ByteArray) r153 1>>=λr155=>e18 a (⟨#[84,114,101,101]⟩:ByteArray) r3 0 0 [19,20]>>=λr157=>e17 a 18>>=λr159=>e25 a (⟨#[108,101,97,102]⟩:ByteArray) r159 18 0 0>>=λr161=>eZ a r1 r159>>=λr163=>eZ a r163 r159>>=λr165=>e25 a (⟨#[110,111,100,101]⟩:ByteArray) r165 18 1 0>>=λr167=>eZ a r1 r41>>=λr169=>eZ a r15 r13>>=λr171=>eZ a r3 r171>>=λr173=>e23 a r15 r15>>=λr175=>e23 a r3 r175>>=λr177=>some [r37,r39,r43,r45,r49,r51,r53,r61,r75,r81,r91,r109,r117,r127,(yL.mk r9.kind r9.name r9.type r9.body r9.fam r9.place r9.pars r9.inds r9.level r9.cons [16,17]),r139,r147,r155,r157,r161,r167,(yL.mk 3 (⟨#[112,108,117,115]⟩:ByteArray) r169 r35 0 0 0 0 0 [] []),(yL.mk 3 (⟨#[105,100]⟩:ByteArray) r173 r177 0 0 0 0 0 [] [])]
theorem c5{a}:Cz (e5 a) 5 [] [] (λr=>.sl (zC xE r) r.length .no) (λ_=>[]) 0:=fw func5<|rC 0 [] c17 λ_=>rH λ_ h4=>rS (oC 1 [] (U1 _ h4))<|rS (oC 0 [] (U1 _ h4))<|rS (oC 0 [] (U1 _ h4))<|rH λ_ h6=>rS (oC 0 [] (gS _ h6))<|rC 0 [] gS λ_=>rC 1 [] c18 λ_=>rH λ_ h12=>rS (oC 3 [] (c17 _ h12))<|rH λr13 h14=>rS (oC 0 [] (B9 _ h14))<|rH λr15 h16=>rS (oC 0 [] (B9 _ h16))<|rS (oS 0 (xR wC [r13,r15]))<|rC 0 [] c21 λ_=>rC 3 [] c24 λ_=>rC 2 [] c23 λr21=>rS (oC 0 [] (B9 _ h16))<|rH λ_ h24=>rS (oC 2 [] (c17 _ h24))<|rS (oC 0 [] (B9 _ h16))<|rS (oS 0 (xR wC [r15]))<|rC 0 [] c21 λ_=>rC 0 [] c23 λ_=>rC 0 [] c23 λr29=>rS (oC 0 [] (B9 _ h14))<|rS (oS 0 (xR wC [r21,r15,r29,r13]))<|rC 0 [] c21 λ_=>rC 0 [] c23 λ_=>rC 0 [] c23 λ_=>rS (oC 1 [] (U1 _ h4))<|rC 1 [] c18 λ_=>rC 1 [] c25 λ_=>rH λ_ h42=>rS (oC 2 [] (gS _ h42))<|rC 0 [] c25 λ_=>rS (oC 0 [] (U1 _ h4))<|rC 1 [] c18 λ_=>rH λ_ h48=>rS (oC 0 [] (c17 _ h48))<|rC 0 [] c25 λ_=>rS (oC 0 [] (c17 _ h48))<|rC 0 [] c25 λ_=>rS (oC 0 [] (U1 _ h4))<|rS (oC 0 [] (U1 _ h4))<|rS (oC 0 [] (gS _ h6))<|rC 1 [] c18 λ_=>rS (oC 0 [] (U1 _ h4))<|rH λ_ h56=>rS (oC 0 [] (c17 _ h56))<|rS (oC 0 [] (B9 _ h16))<|rS (oS 0 (xR wC [r15]))<|rC 0 [] c21 λ_=>rC 0 [] gS λ_=>rC 0 [] c25 λ_=>rS (oC 0 [] (U1 _ h4))<|rS (oC 0 [] (B9 _ h16))<|rS (oC 0 [] (c17 _ h56))<|rS (oC 0 [] (B9 _ h14))<|rS (oS 0 (xR wC [r13]))<|rC 0 [] c21 λ_=>rS (oC 0 [] (c17 _ h56))<|rH λr65 h66=>rS (oC 0 [] (B9 _ h66))<|rS (oS 0 (xR wC [r65]))<|rC 0 [] c21 λ_=>rC 0 [] gS λ_=>rC 0 [] gS λ_=>rC 0 [] gS λ_=>rC 0 [] c25 λ_=>rS (oC 0 [] (U1 _ h4))<|rS (oC 1 [] (U1 _ h4))<|rC 0 [] gS λ_=>rC 0 [] gS λ_=>rC 1 [] c18 λ_=>rS (oC 0 [] (U1 _ h4))<|rH λ_ h84=>rS (oC 0 [] (c17 _ h84))<|rS (oC 0 [] (B9 _ h16))<|rC 0 [] c17 λr85=>rS (oS 0 (xR wC [r15,r85]))<|rC 0 [] c21 λ_=>rC 0 [] gS λ_=>rC 0 [] c25 λ_=>rS (oC 0 [] (U1 _ h4))<|rS (oC 1 [] (B9 _ h14))<|rS (oC 0 [] (c17 _ h84))<|rS (oC 0 [] (B9 _ h66))<|rS (oC 0 [] (B9 _ h14))<|rS (oS 0 (xR wC [r65,r13]))<|rC 0 [] c21 λ_=>rS (oC 0 [] (c17 _ h84))<|rH λr95 h96=>rS (oC 0 [] (B9 _ h96))<|rS (oC 0 [] (c17 _ h24))<|rS (oC 0 [] (B9 _ h66))<|rS (oS 0 (xR wC [r65]))<|rC 0 [] c21 λr97=>rS (oS 0 (xR wC [r95,r97]))<|rC 0 [] c21 λ_=>rC 0 [] gS λ_=>rC 0 [] gS λ_=>rC 0 [] gS λ_=>rC 0 [] gS λ_=>rC 0 [] c25 λ_=>rS (oC 0 [] (U1 _ h4))<|rS (oC 0 [] (B9 _ h16))<|rS (oC 0 [] (B9 _ h14))<|rS (oC 0 [] (U1 _ h4))<|rC 0 [] gS λ_=>rC 0 [] gS λ_=>rC 0 [] gS λ_=>rC 1 [] c18 λ_=>rS (oC 0 [] (U1 _ h4))<|rS (oC 0 [] (B9 _ h16))<|rC 0 [] c17 λ_=>rS (oC 0 [] (B9 _ h14))<|rS (oC 0 [] (B9 _ h16))<|rS (oC 0 [] (B9 _ h16))<|rS (oS 0 (xR wC [r13,r15,r15]))<|rC 0 [] c21 λ_=>rC 0 [] gS λ_=>rC 0 [] gS λ_=>rC 0 [] c25 λ_=>rS (oC 1 [] (U1 _ h4))<|rS (oC 0 [] (U1 _ h4))<|rS (oC 0 [] (B9 _ h14))<|rS (oC 0 [] (B9 _ h14))<|rS (oC 0 [] (c17 _ h12))<|rS (oC 0 [] (B9 _ h96))<|rS (oC 0 [] (B9 _ h66))<|rS (oS 0 (xR wC [r95,r65]))<|rC 0 [] c21 λ_=>rC 0 [] gS λ_=>rC 0 [] gS λ_=>rC 0 [] gS λ_=>rC 0 [] gS λ_=>rC 0 [] c25 λ_=>rS (oC 0 [] (U1 _ h4))<|rS (oC 0 [] (U1 _ h4))<|rS (oC 1 [] (B9 _ h66))<|rC 0 [] gS λ_=>rC 0 [] gS λ_=>rC 0 [] gS λ_=>rC 0 [] c26 λ_=>rS (oC 0 [] (U1 _ h4))<|rS (oC 0 [] (U1 _ h4))<|rS (oC 1 [] (B9 _ h14))<|rC 0 [] gS λ_=>rC 0 [] gS λ_=>rC 0 [] gS λ_=>rC 0 [] c26 λ_=>rS (oC 0 [] (U1 _ h4))<|rC 1 [] c18 λ_=>rH λ_ h160=>rS (oC 0 [] (c17 _ h160))<|rC 0 [] c25 λ_=>rS (oC 1 [] (c17 _ h160))<|rC 0 [] gS λ_=>rS (oC 0 [] (c17 _ h160))<|rC 0 [] gS λ_=>rC 0 [] c25 λ_=>rS (oC 3 [] (gS _ h42))<|rC 0 [] gS λ_=>rS (oC 1 [] (U1 _ h4))<|rS (oC 0 [] (B9 _ h16))<|rS (oC 0 [] (B9 _ h14))<|rC 0 [] gS λ_=>rC 0 [] gS λ_=>rS (oC 0 [] (U1 _ h4))<|rS (oC 0 [] (B9 _ h16))<|rS (oC 0 [] (B9 _ h16))<|rC 0 [] c23 λ_=>rC 0 [] c23 λ_=>fE 1
def zCc:Nat->uJ->Int->Option (Bool)|0,_,_=>none|b+1,a,c=>if decide (c<(a.types_.length:Int))then zV a.types_ c>>=λx7=>e28 b x7>>=λr9=>if decide (r9>100)then some false else zCc b a (xF (c+1))else some true
def e7(b:Nat)(d:xJ)(a:uJ):Option (Bool):=if decide ((d.length:Int)>60)then some false else if decide ((a.types_.length:Int)>30)then some false else if decide ((a.rows_.length:Int)>40)then some false else if decide (a.fuel_<0)then some false else if decide (a.fuel_>400)then some false else zCc b a 0
theorem yAB:∀b:Nat,∀a c,Lz (zCc b a c) 0 Tryz.f7 (pt 4021 Tryz.f7) (λj=>sp j 45 0 [(3,.mp 0 0),(5,ai c)]) ⟨[(0,.cells [zP zA a.types_ .no,zP (qS zK) a.rows_ .no,ai a.fuel_])],1,[],0,[]⟩ (λr=>ab r) (λ_=>[]) 0 [.blk 0,.seq (pt 63 Tryz.f7)]:=wF (λ_ _=>lN) λb ih=>λa c=>lw λ_=>rB 2 (rA 1 (wE (o:=.no)) λ_=>rC 1 [] c28 λ_=>rB 0 (lE 0)<|lH 1 [] [0] [] [3,5] (ih _ _))<|lE 0
theorem c7{b d a}:Cz (e7 b d a) 7 [] [zP xE d .no,E6 a] (λr=>ab r) (λ_=>[]) 0:=fw func7<|rB 1 (fE 0)<|rB 2 (fE 0)<|rB 2 (fE 0)<|rB 1 (fE 0)<|rB 1 (fE 0)<|fH 0 [] [0] [] [3,5] (yAB _ _ _)
def e31(b:Nat)(a:Int):Option (zB):=some (zB.mk 1 a 0 [] (Tm.mk 0 0 []))
theorem c31{b a}:Cz (e31 b a) 31 [] [ai a] (λr=>wQ (zB.mk r.kind_ r.n_ r.at_ r.sub_ r.t_)) (λ_=>[]) 0:=fw func31<|fE 1
def e8(a:Nat):Option (Bool):=e5 a>>=λr1=>e29 a r1>>=λr3=>match r3 with|Sum.inl y40=>none|Sum.inr y5=>e30 a 100>>=λr6=>match r6 with
 |Sum.inl y24=>none|Sum.inr y8=>e17 a 0>>=λr9=>e31 a 0>>=λr11=>e31 a 1>>=λr13=>e32 a (xG.mk y5.2.1 y5.2.2.2.2.1 y5.2.2.2.2.2 y5.2.2.1 y5.2.2.2.1) [r9,r9] [[(zB.mk 2 1 0 [] (Tm.mk 0 0 [])),(zB.mk r11.kind_ r11.n_ r11.at_ r11.sub_ r11.t_)],[(zB.mk 2 2 0 [(zB.mk r11.kind_ r11.n_ r11.at_ r11.sub_ r11.t_)] (Tm.mk 0 0 [])),(zB.mk r13.kind_ r13.n_ r13.at_ r13.sub_ r13.t_)]] y8.2.1 y8.2.2>>=λr15=>if r15.2.1.e_==0 then if r15.1.kind_==3 then e11 a r15.1>>=λr19=>if(r19.length:Int)==2 then e10 a r15.1>>=λr22=>some (r22==3)else some false else some false else some false
theorem c8{a}:Cz (e8 a) 8 [] [] (λr=>ab r) (λ_=>[]) 0:=fw func8<|rC 0 [] c5 λ_=>rC 0 [] c29<|sD (λ_=>rN) λ_=>rC 2 [] c30<|sD (λ_=>rN) λ_=>rC 2 [] c17 λr9=>rH λr11 h12=>rS (oC 2 [] (c31 _ h12))<|rS (oS 0 (xR sZ [(zB.mk r11.kind_ r11.n_ r11.at_ r11.sub_ r11.t_)]))<|rS (oS 3 (xR wC [r9,r9]))<|rS (oC 1 [] (c31 _ h12))<|rS (oS 0 (xR sZ [(zB.mk 2 1 0 [] (Tm.mk 0 0 [])),(zB.mk r11.kind_ r11.n_ r11.at_ r11.sub_ r11.t_)]))<|rC 1 [] c31 λr13=>rS (oS 0 (xR sZ [(zB.mk 2 2 0 [(zB.mk r11.kind_ r11.n_ r11.at_ r11.sub_ r11.t_)] (Tm.mk 0 0 [])),(zB.mk r13.kind_ r13.n_ r13.at_ r13.sub_ r13.t_)]))<|rC 1 [0,1,2] c32 λ_=>rB 5 (rB 1 (rC 1 [] c11 λ_=>rB 1 (rC 1 [] c10 λ_=>fE 1)<|fE 0)<|fE 0)<|fE 0
def e9(b:Nat)(c:xJ)(a:uJ):Option (zQ×yS):=e29 b c>>=λr1=>match r1 with|Sum.inl y12=>none|Sum.inr y3=>e30 b a.fuel_>>=λr4=>match r4 with|Sum.inl y9=>none|Sum.inr y6=>e32 b (xG.mk y3.2.1 y3.2.2.2.2.1 y3.2.2.2.2.2 y3.2.2.1 y3.2.2.2.1) a.types_ a.rows_ y6.2.1 y6.2.2>>=λr7=>some (r7.1,r7.2.1)
theorem c9{b c a}:Cz (e9 b c a) 9 [] [zP xE c .no,E6 a] (λr=>.tup [xT r.1,fU r.2]) (λ_=>[]) 0:=fw func9<|rC 0 [] c29<|sD (λ_=>rN) λ_=>rC 3 [] c30<|sD (λ_=>rN) λ_=>rC 4 [3,4,5] c32 λ_=>fE 4
def e3(a:Nat)(b:uJ)(c:U8):Option (Bool):=e5 a>>=λr1=>e6 a b.rows_>>=λr3=>if r3.2 then e7 a r1 b>>=λr6=>if r6 then e9 a r1 b>>=λr9=>if r9.2.e_==8 then e8 a>>=λr12=>some r12 else e9 a r1 (uJ.mk b.types_ b.rows_ (xF (b.fuel_+(xF (c)))))>>=λr14=>if(r9.2.e_==r14.2.e_)&&((r9.2.row_==r14.2.row_)&&(r9.2.at_==r14.2.at_))then e10 a r9.1>>=λr17=>e10 a r14.1>>=λr19=>if r17==r19 then e11 a r9.1>>=λr22=>e11 a r14.1>>=λr24=>if(r22.length:Int)==(r24.length:Int)then if r9.1.kind_==r14.1.kind_ then if r9.1.var_==r14.1.var_ then e8 a>>=λr29=>some r29 else some false else some false else some false else some false else some false else e8 a>>=λr31=>some r31 else e7 a r1 b>>=λr33=>if r33 then e8 a>>=λr36=>some r36 else e8 a>>=λr38=>some r38
theorem c3{a b c}:Cz (e3 a b c) 3 [] [E6 b,.val (.int .u8 c)] (λr=>ab r) (λ_=>[]) 0:=fw func3<|rC 0 [] c5 λ_=>rC 1 [] c6 λ_=>rB 1 (rK 1 [] c7 (λ_=>rC 3 [] c9 λ_=>rB 5 (rC 0 [] c8 λ_=>fE 0)<|rC 5 [] c9 λ_=>rB 6 (rC 1 [] c10 λ_=>rC 1 [] c10 λ_=>rB 0 (rC 1 [] c11 λ_=>rC 2 [] c11 λ_=>rB 1 (rB 2 (rB 2 (rC 0 [] c8 λ_=>fE 0)<|fE 0)<|fE 0)<|fE 0)<|fE 0)<|fE 0) λ_=>rC 1 [] c8 λ_=>fE 0)<|rK 1 [] c7 (λ_=>rC 2 [] c8 λ_=>fE 0) λ_=>rC 1 [] c8 λ_=>fE 0
theorem zJl{α:Type}{f:Nat->Option α}{r:α}(n:Nat)(h:∀q,f (q+n)=some r):zH f r:=⟨n,λq hq=>by rw[show q=q-n+n by omega];exact h _⟩
def lV:List yL:=match e5 300 with|some l=>l|none=>[]
theorem zUJ:zH (λq=>e5 q) lV:=zJl 300 λq=>by kernel_rfl
theorem zHq:zH (λq=>X3 q lV) true:=zJl 1000 λq=>by kernel_rfl
theorem zCb:lV.length=23:=by kernel_rfl
def yAC(e:yL):Bool:=xZ e.type&&(xZ e.body||e.body.sub.isEmpty)&&decide (e.cons.length<=8)&&decide (e.fields.length<=8)
theorem zUK:lV.all yAC=true:=by kernel_rfl
theorem J6:∀e∈lV,jL e/\ECl e:=λe h=>by
 have:=List.all_eq_true.1 zUK e h;unfold yAC at this;simp only[Bool.and_eq_true,Bool.or_eq_true,decide_eq_true_eq]at this;obtain⟨⟨⟨h1,h2⟩,h3⟩,h4⟩:=this;refine⟨⟨rE _ h1,?_,by omega,by omega⟩,by omega,by omega⟩;rcases h2 with h2|h2;·exact rE _ h2
 ·generalize e.body=b at h2;obtain⟨k,n,l⟩:=b;have:l=[]:=by simpa[Tm.sub]using h2
  subst this;exact wH _ _
theorem zRd:∃N,wZ N lV/\zH (λq=>e29 q lV) (zWa lV true):=by obtain⟨N,hN⟩:=zPA;obtain⟨b,hb,hA,hn⟩:=zTw N hN lV (by rw[zCb];omega) (λe h=>(J6 e h).1) λe h=>(J6 e h).2;have:=hb.det zHq;subst this;exact⟨N,hA rfl,hn⟩
theorem zJk:zH (λq=>e8 q) true:=zJl 1000 λq=>by kernel_rfl
def okX(x:uJ):Prop:=uS x.types_/\zRf x.rows_
theorem U2(l:List yL)(x:uJ):zG (λq=>e7 q l x) λb=>b=true->x.types_.length<=30/\x.rows_.length<=40/\0<=x.fuel_/\x.fuel_<=400:=by
 simp only[e7];refine zG.ite (λ_=>zG.ret λh=>nomatch h) λ_=>zG.ite (λ_=>zG.ret λh=>nomatch h) λh1=>zG.ite (λ_=>zG.ret λh=>nomatch h) λh2=>zG.ite (λ_=>zG.ret λh=>nomatch h) λh3=>zG.ite (λ_=>zG.ret λh=>nomatch h) λh4=>?_;have h1:=of_decide_eq_false h1;have h2:=of_decide_eq_false h2;have h3:=of_decide_eq_false h3;have h4:=of_decide_eq_false h4;have key:∀(r:List Tm)(v:Nat),x.types_.drop v=r->zG (λq=>zCc q x (v:Int)) λ_=>True:=by intro r;induction r with|nil=>intro v hd;refine zG.succ ?_;simp only[zCc];refine zG.ite (λh=>?_) λ_=>zG.ret trivial;rw[yB hd]at h;cases h|cons t r ih=>
  intro v hd;have hlt:=yF hd;refine zG.succ ?_;simp only[zCc];refine zG.ite (λ_=>zG.pure (zZ hd) (zG.bind (P:=λ_=>True) ((zQD t).tot trivial) λ_ _=>zG.ite (λ_=>zG.ret trivial) λ_=>?_)) λh=>?_;·rw[zW v (by omega)];exact ih (v+1) (zS hd)
  ·rw[yA hd]at h;cases h
 exact(key x.types_ 0 rfl).mono λb _ _=>⟨by omega,by omega,by omega,by omega⟩
theorem zYv(x:uJ)(hx:okX x)(hn:∀r∈x.rows_,sC r<=400)(ht:x.types_.length<=30)(h0:0<=x.fuel_)(h1:x.fuel_<=400)(d:Int)(hd:0<=d)(hd1:d<=255):∃(t:zQ)(f:yS),zH (λq=>e9 q lV x) (t,f)/\TOk t/\(f.e_≠8->zH (λq=>e9 q lV (uJ.mk x.types_ x.rows_ (x.fuel_+d))) (t,f)):=by
 obtain⟨N,hE,hN⟩:=zRd;obtain⟨r,b1,b2,b3⟩:=zND hE (λe h=>(J6 e h).1) (by rw[zCb];omega) (λe h=>(J6 e h).2) zHq x.types_ hx.1 (by omega) x.rows_ hx.2 hn (L:=x.fuel_) (d:=d) h0 (by omega) hd (by omega);have run:∀(f:Int),0<=f->f<=1000->∀r,zH (λq=>e32 q (xB lV) x.types_ x.rows_ f 0) r->zH (λq=>e9 q lV (uJ.mk x.types_ x.rows_ f)) (r.1,r.2.1):=λf g0 g1 r h=>by simp only[e9];exact hN.bind ((zTH f g0 (by omega)).bind (h.bind zH.ret))
 refine⟨r.1,r.2.1,?_,b2,λh=>?_⟩
 ·have:=run x.fuel_ h0 (by omega) r b1;obtain⟨a,b,c⟩:=x;exact this
 ·exact run (x.fuel_+d) (by omega) (by omega) (meD.put r (meD.get r+d)) (b3 h)
theorem zHp{t:zQ}(h:TOk t):zH (λq=>e10 q t) ((min (wY t).length 8193:Nat):Int):=zH.mk λq=>by unfold e10;rw[if_pos h.1]
theorem zCa{t:zQ}(h:TOk t):zH (λq=>e11 q t) ((wY t).filter λt=>decide (t.kind_=1)):=zH.mk λq=>by unfold e11;rw[if_pos ⟨h.1,h.2⟩]
theorem zDY(x:uJ)(d:Int)(h0:0<=d/\d<=255)(hx:okX x):zH (λq=>e3 q x d) true:=by
 have aw:zH (λq=>e8 q>>=λr=>some r) true:=zJk.bind zH.ret;simp only[e3];refine zUJ.bind ?_;obtain⟨w,hw,hw2⟩:=zJo x.rows_ hx.2;refine hw.bind (zH.iff (λhwt=>?_) λ_=>?_)
 ·obtain⟨b,hb,hb2⟩:=U2 lV x;refine hb.bind (zH.iff (λhbt=>?_) λ_=>aw);obtain⟨q1,q2,q3,q4⟩:=hb2 hbt;obtain⟨t,f,r1,r2,r3⟩:=zYv x hx (hw2 hwt) q1 q3 q4 d h0.1 h0.2;refine r1.bind (zH.iff (λ_=>aw) λh8=>?_);rw[yQ (x:=d) (by omega) (by omega),yQ (x:=x.fuel_+d) (by omega) (by omega)];refine(r3 (by simpa using h8)).bind (zH.ifT (by simp) ((zHp r2).bind ((zHp r2).bind (zH.ifT (by simp) ((zCa r2).bind ((zCa r2).bind (zH.ifT (by simp) (zH.ifT (by simp) (zH.ifT (by simp) aw)))))))))
 ·obtain⟨b,hb,-⟩:=U2 lV x;exact hb.bind (zH.iff (λ_=>aw) λ_=>aw)
theorem zDZ(x:uJ)(d:Int)(hx:okX x)(w:(Lit.int .u8 d).wf=true):CT prog 3 [] [E6 x,.val (.int .u8 d)] (ab true) [] 0:=by obtain⟨q,hq⟩:=(zDY x d (by simp[Lit.wf,IntKind.min,IntKind.max,IntKind.signed,IntKind.bits]at w;omega) hx).at;exact c3 _ hq
end Go.Proofs.YtohkcbcddindpaaGreat
namespace Go.Ab
open Go Go.RowKit
def rdG(W:World):Gh:=⟨λ_=>none,λ_=>none,λb o=>∃v,W.cell? ⟨b,o,none⟩=some v,W,λb=>b<W.heap.size,λ_=>False⟩
theorem zYu(W:World):yK (rdG W) (yX (vW 0) (aM [])) W:=by
 refine⟨λ_=>⟨λ_=>.inr rfl,λ_=>⟨rfl,id⟩,λe=>e.elim⟩,⟨0,λ_ _=>rfl⟩,λ_ _ _ h=>?_,λ_ _ _ h=>?_,λ_ _ h=>⟨h,λi e=>by cases e⟩,λ_ _=>rfl,λ_ h=>?_,λ_ _ _ _ _ _ _ h=>?_,vQ.refl _ _,λ_ h=>h⟩;·cases h
 ·cases h
 ·cases h
 ·cases h
theorem zUL(W:World):zAY (0:Nat) (rdG W):=⟨λ_ _=>⟨rfl,id⟩,λ_=>rfl,λ_ _⟨_,h⟩=>World.block_lt_of_cell? W _ h,trivial⟩
theorem zAS{W:World}:∀(xs:List AV)(cs:List Value)(b off:Nat),VL (rdG W) W xs cs->(∀i,i<xs.length->W.cell? ⟨b,off+i,none⟩=cs[i]?)->VC (rdG W) W xs b off|[],_,_,_,_,_=>by simp only[VC]|a::xs,c::cs,b,off,hv,h=>by simp only[VL]at hv;have h0:=h 0 (by simp);simp only[Nat.add_zero,List.getElem?_cons_zero]at h0;simp only[VC];refine⟨⟨c,h0⟩,⟨c,h0,hv.1⟩,zAS xs cs b (off+1) hv.2 λi hi=>?_⟩;have:=h (i+1) (by simp;omega);simpa[Nat.add_assoc,Nat.add_comm 1 i]using this|_::_,[],_,_,hv,_=>by simp only[VL]at hv
theorem zHo{W:World}{b:Nat}:∀(n off:Nat),(∀i,i<n->∃(cs:List Value)(t:Tm),(∀j,j<3->W.cell? ⟨b,off+i*3+j,none⟩=cs[j]?)/\VL (rdG W) W (R8 t) cs/\t.Ok)->∃l:List Tm,l.length=n/\VC (rdG W) W (zC zA l) b off/\kQ l
 |0,off,_=>⟨[],rfl,by simp[zC,VC],by rw[kQ];trivial⟩|n+1,off,h=>by
  obtain⟨cs,t,hc,ht,hto⟩:=h 0 (by omega);obtain⟨l,hl,hV,hlo⟩:=zHo (W:=W) (b:=b) n (off+3) λi hi=>by obtain⟨cs,t,hc,ht,hto⟩:=h (i+1) (by omega);refine⟨cs,t,λj hj=>?_,ht,hto⟩;rw[<-hc j hj];congr 2;omega
  refine⟨t::l,by simp[hl],?_,by rw[kQ];exact⟨hto,hlo⟩⟩;have e:zC zA (t::l)=R8 t++zC zA l:=by simp only[zC,List.flatMap_cons,wC]
  rw[e];refine VC.append _ _ _ _ (zAS _ cs _ _ ht λi hi=>?_) (by simpa[R8]using hV);simpa using hc i (by simpa[R8]using hi)
end Go.Ab
namespace Go.Proofs.YtohkcbcddindpaaGreat
open Go Go.Ab Go.RowKit Go.Proofs Go.Proofs.Tryz
theorem zUM{H:Type}{enc:TypeId×Value->H}{W:World}{n:Nat}{c2:Value}{x:DataW H×List MemPlace}(ih:∀m,n=m+1->∀(cs:List Value)(x:DataW H×List MemPlace),DataW.trod enc prog W 0 (λ_=>true) true m 48 cs=some x->∃t:Tm,VL (rdG W) W (R8 t) cs/\t.Ok)(f2:DataW.trod enc prog W 0 (λ_=>true) true n 22 [c2]=some x):∃l:List Tm,V (rdG W) W (.sl (zC zA l) l.length .no) c2/\kQ l/\l.length<9223372036854775808:=by
 rcases DataW.trod_slice Tryz.underlying22 f2 with⟨e2,-⟩|⟨a,len,cap,elems,rest,m,hm,e2,-,-,hle,hmx,hel,hE,hR,-⟩;·cases e2;exact⟨[],by simp only[V];exact⟨0,Nat.le_refl _,.inl ⟨rfl,rfl,rfl,rfl,trivial⟩⟩,by rw[kQ];trivial,by simp⟩
 ·cases e2;have rd:∀i,i<cap->∃(cs:List Value)(t:Tm),W.cells? 0 (a.add (i*3)) 3=some cs/\VL (rdG W) W (R8 t) cs/\t.Ok:=by
   intro i hi;have got:∃y,(W.cells? 0 (a.add (i*3)) 3).bind (DataW.trod enc prog W 0 (λ_=>true) true m 48)=some y:=by
    rw[<-zBc];rcases Nat.lt_or_ge i len with hlt|hge;·rw[hE i hlt];exact⟨_,List.getElem?_eq_getElem (by omega)⟩
    ·obtain⟨r1,r2⟩:=hR rfl;have:=r2 (i-len) (by omega);rw[show len+(i-len)=i by omega]at this;rw[this];exact⟨_,List.getElem?_eq_getElem (by omega)⟩
   obtain⟨y,hy⟩:=got;obtain⟨cs,h1,h2⟩:=Option.bind_eq_some_iff.1 hy;obtain⟨t,ht⟩:=ih m hm cs y h2;exact⟨cs,t,h1,ht⟩
  rcases Nat.eq_zero_or_pos cap with e|hpos
  ·subst e;have:len=0:=by omega
   subst this;exact⟨[],by simp only[V];exact⟨0,Nat.le_refl _,.inl ⟨rfl,rfl,rfl,rfl,trivial⟩⟩,by rw[kQ];trivial,by simp⟩
  ·obtain⟨b,off,spot⟩:=a;have hsp:spot=none:=by obtain⟨cs,t,h1,h2⟩:=rd 0 hpos;obtain⟨_,hl,hc⟩:=World.cells?_some h1;have g0:=hc 0 (by omega);obtain⟨c0,hc0⟩:∃c0,cs[0]?=some c0:=⟨_,List.getElem?_eq_getElem (by omega)⟩;rw[hc0]at g0;simpa[Addr.add]using World.cell?_spot g0
   subst hsp;obtain⟨l,hl,hV,hlo⟩:=zHo (W:=W) (b:=b) len off λi hi=>by obtain⟨cs,t,h1,h2⟩:=rd i (by omega);obtain⟨_,_,hc⟩:=World.cells?_some h1;exact⟨cs,t,λj hj=>by have:=hc j hj;simpa[Addr.add_lit]using this,h2⟩
   refine⟨l,?_,hlo,by have:maxLen=9223372036854775807:=rfl;omega⟩;simp only[V];exact⟨cap,by omega,.inr ⟨b,off,by rw[hl],hV,trivial⟩⟩
theorem zLu{H:Type}{enc:TypeId×Value->H}{W:World}:∀(fuel:Nat)(cs:List Value)(x:DataW H×List MemPlace),DataW.trod enc prog W 0 (λ_=>true) true fuel 48 cs=some x->∃t:Tm,VL (rdG W) W (R8 t) cs/\t.Ok:=by intro fuel;induction fuel using Nat.strongRecOn with|ind fuel ih=>
 intro cs x h;obtain⟨xs,n,hn,-,hlen,hxs,hf⟩:=DataW.trod_struct Tryz.underlying48 h;have hlen:cs.length=3:=hlen.trans zBc;obtain⟨c0,c1,c2,rfl⟩:∃c0 c1 c2,cs=[c0,c1,c2]:=by rcases cs with _|⟨a,_|⟨b,_|⟨c,_|⟨e,cs⟩⟩⟩⟩<;>simp only[List.length_nil,List.length_cons]at hlen<;>first|exact⟨a,b,c,rfl⟩|omega
 have c3:prog.cellsOf 3=1:=by kernel_rfl
 have c42:prog.cellsOf 22=1:=by kernel_rfl
 have f0:DataW.trod enc prog W 0 (λ_=>true) true n 3 ((List.drop 0 [c0,c1,c2]).take (prog.cellsOf 3))=xs[0]?:=hf 0 _ rfl;have f1:DataW.trod enc prog W 0 (λ_=>true) true n 3 ((List.drop 1 [c0,c1,c2]).take (prog.cellsOf 3))=xs[1]?:=hf 1 _ rfl;have f2:DataW.trod enc prog W 0 (λ_=>true) true n 22 ((List.drop 2 [c0,c1,c2]).take (prog.cellsOf 22))=xs[2]?:=hf 2 _ rfl;rw[c3]at f0 f1;rw[c42]at f2;replace f0:DataW.trod enc prog W 0 (λ_=>true) true n 3 [c0]=xs[0]?:=f0;replace f1:DataW.trod enc prog W 0 (λ_=>true) true n 3 [c1]=xs[1]?:=f1;replace f2:DataW.trod enc prog W 0 (λ_=>true) true n 22 [c2]=xs[2]?:=f2;have hsz:xs.length=3:=hxs;obtain⟨y0,y1,y2,rfl⟩:∃y0 y1 y2,xs=[y0,y1,y2]:=by rcases xs with _|⟨a,_|⟨b,_|⟨c,_|⟨e,xs⟩⟩⟩⟩<;>simp only[List.length_nil,List.length_cons]at hsz<;>first|exact⟨a,b,c,rfl⟩|omega
 simp only[List.getElem?_cons_zero,List.getElem?_cons_succ]at f0 f1 f2;obtain⟨k0,e0,-,-⟩:=DataW.trod_int Tryz.underlying3 f0;obtain⟨k1,e1,-,-⟩:=DataW.trod_int Tryz.underlying3 f1;cases e0;cases e1;have key:=zUM (W:=W) (n:=n) (λm hm cs x hx=>ih m (by omega) cs x hx) f2;obtain⟨l,hl,ho,hlen⟩:=key;refine⟨.mk k0 k1 l,?_,by rw[Tm.Ok];exact⟨hlen,ho⟩⟩;simp only[R8,Tm.k,Tm.n,Tm.sub,VL];exact⟨by simp only[V],by simp only[V],hl,trivial⟩
end Go.Proofs.YtohkcbcddindpaaGreat
namespace Go.Ab
open Go Go.RowKit
def Wt{H:Type}(P:Program)(t:TypeId)(d:DataW H):Prop:=∀w∈d.weights P t,w<=reachBytes
theorem zEz{H:Type}{P:Program}:∀(ts:List TypeId)(ds:List (DataW H))(i:Nat)(t:TypeId)(d:DataW H),ts[i]?=some t->ds[i]?=some d->∀w∈d.weights P t,w∈DataW.weightsEach P ts ds|[],_,i,t,d,h,_,w,_=>by simp at h|_::_,[],i,t,d,_,h,w,_=>by simp at h|t0::ts,d0::ds,0,t,d,h,k,w,hw=>by simp only[List.getElem?_cons_zero,Option.some.injEq]at h k;subst h;subst k;rw[DataW.weightsEach];exact List.mem_append_left _ hw|t0::ts,d0::ds,i+1,t,d,h,k,w,hw=>by rw[DataW.weightsEach];exact List.mem_append_right _ (zEz ts ds i t d (by simpa using h) (by simpa using k) w hw)
theorem zJj{H:Type}{P:Program}{e:TypeId}:∀(ds:List (DataW H))(d:DataW H),d∈ds->∀w∈d.weights P e,w∈DataW.weightsAll P e ds
 |d0::ds,d,h,w,hw=>by
  rw[DataW.weightsAll];rcases List.mem_cons.1 h with rfl|h;·exact List.mem_append_left _ hw
  ·exact List.mem_append_right _ (zJj ds d h w hw)
theorem nW{H:Type}{P:Program}{t:TypeId}{fs:Array Field}(ht:P.underlying t=some (.struct fs)){parts:List (DataW H)}(h:Wt P t (.agg parts)){i:Nat}{f:Field}{d:DataW H}(hf:fs[i]?=some f)(hd:parts[i]?=some d):Wt P f.type d:=λw hw=>by refine h w ?_;rw[DataW.weights,ht];exact zEz _ _ i f.type d (by rw[List.getElem?_map,Array.getElem?_toList,hf];rfl) hd w hw
theorem zRc{H:Type}{P:Program}{t e:TypeId}(ht:P.underlying t=some (.slice e)){es rs:List (DataW H)}(h:Wt P t (.slice es rs)):(es.length+rs.length)*P.bytesOf e<=reachBytes/\(∀d∈es,Wt P e d)/\∀d∈rs,Wt P e d:=by
 unfold Wt at h;rw[DataW.weights,ht]at h;refine⟨h _ (by simp),λd hd w hw=>h w ?_,λd hd w hw=>h w ?_⟩;·exact List.mem_cons_of_mem _ (List.mem_append_left _ (zJj es d hd w hw))
 ·exact List.mem_cons_of_mem _ (List.mem_append_right _ (zJj rs d hd w hw))
theorem zCA{α:Type}(cells:α->List AV)(c:Nat)(hcl:∀x,(cells x).length=c){W:World}{b:Nat}{Q:α->Prop}:∀(n off:Nat),(∀i,i<n->∃(cs:List Value)(x:α),(∀j,j<c->W.cell? ⟨b,off+i*c+j,none⟩=cs[j]?)/\VL (rdG W) W (cells x) cs/\Q x)->∃l:List α,l.length=n/\VC (rdG W) W (zC cells l) b off/\∀x∈l,Q x
 |0,off,_=>⟨[],rfl,by simp[zC,VC],λ_ h=>nomatch h⟩|n+1,off,h=>by
  obtain⟨cs,t,hc,ht,hq⟩:=h 0 (by omega);obtain⟨l,hl,hV,hlo⟩:=zCA cells c hcl (W:=W) (b:=b) (Q:=Q) n (off+c) λi hi=>by obtain⟨cs,t,hc,ht,hto⟩:=h (i+1) (by omega);refine⟨cs,t,λj hj=>?_,ht,hto⟩;rw[<-hc j hj];congr 2;rw[Nat.succ_mul];omega
  refine⟨t::l,by simp[hl],?_,λx hx=>(List.mem_cons.1 hx).elim (λe=>e▸hq) (hlo x)⟩;have e:zC cells (t::l)=cells t++zC cells l:=by simp only[zC,List.flatMap_cons]
  rw[e];refine VC.append _ _ _ _ (zAS _ cs _ _ ht λi hi=>?_) (by rw[hcl];exact hV);rw[hcl]at hi;simpa using hc i hi
theorem bH{α:Type}(cells:α->List AV)(c:Nat)(hcl:∀x,(cells x).length=c)(hpos:0<c){H:Type}{enc:TypeId×Value->H}{P:Program}{W:World}{n:Nat}{t e:TypeId}{c2:Value}{x:DataW H×List MemPlace}{Q:α->Prop}(ht:P.underlying t=some (.slice e))(hc:P.cellsOf e=c)(ih:∀m,n=m+1->∀(cs:List Value)(x:DataW H×List MemPlace),DataW.trod enc P W 0 (λ_=>true) true m e cs=some x->Wt P e x.1->∃a:α,VL (rdG W) W (cells a) cs/\Q a)(f2:DataW.trod enc P W 0 (λ_=>true) true n t [c2]=some x)(hw:Wt P t x.1):∃l:List α,V (rdG W) W (.sl (zC cells l) l.length .no) c2/\(∀a∈l,Q a)/\l.length*P.bytesOf e<=reachBytes:=by
 rcases DataW.trod_slice ht f2 with⟨e2,-⟩|⟨a,len,cap,elems,rest,m,hm,e2,hx,-,hle,hmx,hel,hE,hR,-⟩;·cases e2;exact⟨[],by simp only[V];exact⟨0,Nat.le_refl _,.inl ⟨rfl,rfl,rfl,rfl,trivial⟩⟩,λ_ h=>(nomatch h),by simp⟩
 ·cases e2;rw[hx]at hw;obtain⟨w1,w2,w3⟩:=zRc ht hw;rw[hc]at hE hR;have rd:∀i,i<cap->∃(cs:List Value)(t:α),W.cells? 0 (a.add (i*c)) c=some cs/\VL (rdG W) W (cells t) cs/\Q t:=by
   intro i hi;have got:∃y,(W.cells? 0 (a.add (i*c)) c).bind (DataW.trod enc P W 0 (λ_=>true) true m e)=some y/\Wt P e y.1:=by
    rcases Nat.lt_or_ge i len with hlt|hge;·rw[hE i hlt];exact⟨_,List.getElem?_eq_getElem (by omega),w2 _ (List.mem_map_of_mem (List.getElem_mem _))⟩
    ·obtain⟨r1,r2⟩:=hR rfl;have:=r2 (i-len) (by omega);rw[show len+(i-len)=i by omega]at this;rw[this];exact⟨_,List.getElem?_eq_getElem (by omega),w3 _ (List.mem_map_of_mem (List.getElem_mem _))⟩
   obtain⟨y,hy,hyw⟩:=got;obtain⟨cs,h1,h2⟩:=Option.bind_eq_some_iff.1 hy;obtain⟨t,ht⟩:=ih m hm cs y h2 hyw;exact⟨cs,t,h1,ht⟩
  rcases Nat.eq_zero_or_pos cap with e0|hp
  ·subst e0;have:len=0:=by omega
   subst this;exact⟨[],by simp only[V];exact⟨0,Nat.le_refl _,.inl ⟨rfl,rfl,rfl,rfl,trivial⟩⟩,λ_ h=>(nomatch h),by simp⟩
  ·obtain⟨b,off,spot⟩:=a;have hsp:spot=none:=by obtain⟨cs,t,h1,h2⟩:=rd 0 hp;obtain⟨_,hl,hcc⟩:=World.cells?_some h1;have g0:=hcc 0 (by omega);obtain⟨c0,hc0⟩:∃c0,cs[0]?=some c0:=⟨_,List.getElem?_eq_getElem (by omega)⟩;rw[hc0]at g0;simpa[Addr.add]using World.cell?_spot g0
   subst hsp;obtain⟨l,hl,hV,hlo⟩:=zCA cells c hcl (W:=W) (b:=b) (Q:=Q) len off λi hi=>by obtain⟨cs,t,h1,h2⟩:=rd i (by omega);obtain⟨_,_,hcc⟩:=World.cells?_some h1;exact⟨cs,t,λj hj=>by have:=hcc j hj;simpa[Addr.add_lit]using this,h2⟩
   refine⟨l,?_,hlo,?_⟩
   ·simp only[V];exact⟨cap,by omega,.inr ⟨b,off,by rw[hl],hV,trivial⟩⟩
   ·rw[List.length_map,List.length_map,hel]at w1;rw[hl];exact Nat.le_trans (Nat.mul_le_mul_right _ (Nat.le_add_right _ _)) w1
end Go.Ab
namespace Go.Proofs.YtohkcbcddindpaaGreat
open Go Go.Ab Go.RowKit Go.Proofs Go.Proofs.Tryz
theorem zRb:∀{l:List Tm},(∀t∈l,t.Ok)->kQ l|[],_=>trivial|t::l,h=>⟨h t (by simp),zRb λu hu=>h u (by simp[hu])⟩
theorem zLt:∀{l:List Tm},kQ l->∀x∈l,x.Ok
 |[],_,_,h=>nomatch h|a::l,⟨h1,h2⟩,x,hx=>by
  rcases List.mem_cons.1 hx with rfl|hx;·exact h1
  ·exact zLt h2 x hx
theorem zNG{H:Type}{enc:TypeId×Value->H}{W:World}{n:Nat}{c2:Value}{x:DataW H×List MemPlace}(f2:DataW.trod enc prog W 0 (λ_=>true) true n 22 [c2]=some x)(hw:Wt prog 22 x.1):∃l:List Tm,V (rdG W) W (.sl (zC zA l) l.length .no) c2/\kQ l/\l.length<=17592186044416:=by
 obtain⟨l,h1,h3,h2⟩:=bH zA 3 uX.len (by omega) (Q:=Tm.Ok) Tryz.underlying22 (by kernel_rfl) (λm _ cs x h _=>by obtain⟨t,a,b⟩:=zLu m cs x h;exact⟨t,by rw[wC];exact a,b⟩) f2 hw;refine⟨l,h1,zRb h3,?_⟩;have:prog.bytesOf 48=40:=by kernel_rfl
 rw[this]at h2;have:reachBytes=140737488351232:=rfl;omega
theorem yAD{α:Type}(l:List α)(h:l.length=7):∃c0 c1 c2 c3 c4 c5 c6,l=[c0,c1,c2,c3,c4,c5,c6]:=by rcases l with _|⟨c0,_|⟨c1,_|⟨c2,_|⟨c3,_|⟨c4,_|⟨c5,_|⟨c6,_|⟨zz,zs⟩⟩⟩⟩⟩⟩⟩⟩<;>simp only[List.length_nil,List.length_cons]at h<;>first|exact⟨c0,c1,c2,c3,c4,c5,c6,rfl⟩|omega
theorem yAE{α:Type}(l:List α)(h:l.length=5):∃c0 c1 c2 c3 c4,l=[c0,c1,c2,c3,c4]:=by rcases l with _|⟨c0,_|⟨c1,_|⟨c2,_|⟨c3,_|⟨c4,_|⟨zz,zs⟩⟩⟩⟩⟩⟩<;>simp only[List.length_nil,List.length_cons]at h<;>first|exact⟨c0,c1,c2,c3,c4,rfl⟩|omega
theorem zAT{H:Type}{enc:TypeId×Value->H}{W:World}:∀fuel:Nat,∀(cs:List Value)(x:DataW H×List MemPlace),DataW.trod enc prog W 0 (λ_=>true) true fuel 76 cs=some x->Wt prog 76 x.1->∃e:zB,VL (rdG W) W (zK e) cs/\mE e:=by intro fuel;induction fuel using Nat.strongRecOn with|ind fuel ih=>
 intro cs x h hw;obtain⟨xs,n,hn,hx,hlen,hxs,hf⟩:=DataW.trod_struct Tryz.underlying76 h;rw[hx]at hw;have cc:prog.cellsOf 76=7:=by kernel_rfl
 obtain⟨c0,c1,c2,c3,c4,c5,c6,rfl⟩:=yAD cs (hlen.trans cc);obtain⟨y0,y1,y2,y3,y4,rfl⟩:=yAE xs hxs;have k3:prog.cellsOf 3=1:=by kernel_rfl
 have k48:prog.cellsOf 48=3:=by kernel_rfl
 have k70:prog.cellsOf 70=1:=by kernel_rfl
 have f0:DataW.trod enc prog W 0 (λ_=>true) true n 3 ((List.drop 0 [c0,c1,c2,c3,c4,c5,c6]).take (prog.cellsOf 3))=some y0:=hf 0 _ rfl;rw[k3]at f0;replace f0:DataW.trod enc prog W 0 (λ_=>true) true n 3 [c0]=some y0:=f0;have w0:Wt prog 3 y0.1:=nW Tryz.underlying76 hw (i:=0) rfl rfl;have f1:DataW.trod enc prog W 0 (λ_=>true) true n 3 ((List.drop 1 [c0,c1,c2,c3,c4,c5,c6]).take (prog.cellsOf 3))=some y1:=hf 1 _ rfl;rw[k3]at f1;replace f1:DataW.trod enc prog W 0 (λ_=>true) true n 3 [c1]=some y1:=f1;have w1:Wt prog 3 y1.1:=nW Tryz.underlying76 hw (i:=1) rfl rfl;have f2:DataW.trod enc prog W 0 (λ_=>true) true n 3 ((List.drop 2 [c0,c1,c2,c3,c4,c5,c6]).take (prog.cellsOf 3))=some y2:=hf 2 _ rfl;rw[k3]at f2;replace f2:DataW.trod enc prog W 0 (λ_=>true) true n 3 [c2]=some y2:=f2;have w2:Wt prog 3 y2.1:=nW Tryz.underlying76 hw (i:=2) rfl rfl;have f3:DataW.trod enc prog W 0 (λ_=>true) true n 70 ((List.drop 3 [c0,c1,c2,c3,c4,c5,c6]).take (prog.cellsOf 70))=some y3:=hf 3 _ rfl;rw[k70]at f3;replace f3:DataW.trod enc prog W 0 (λ_=>true) true n 70 [c3]=some y3:=f3;have w3:Wt prog 70 y3.1:=nW Tryz.underlying76 hw (i:=3) rfl rfl;have f4:DataW.trod enc prog W 0 (λ_=>true) true n 48 ((List.drop 4 [c0,c1,c2,c3,c4,c5,c6]).take (prog.cellsOf 48))=some y4:=hf 4 _ rfl;rw[k48]at f4;replace f4:DataW.trod enc prog W 0 (λ_=>true) true n 48 [c4,c5,c6]=some y4:=f4;have w4:Wt prog 48 y4.1:=nW Tryz.underlying76 hw (i:=4) rfl rfl;obtain⟨n0,e0,-,-⟩:=DataW.trod_int Tryz.underlying3 f0;cases e0;obtain⟨n1,e1,-,-⟩:=DataW.trod_int Tryz.underlying3 f1;cases e1;obtain⟨n2,e2,-,-⟩:=DataW.trod_int Tryz.underlying3 f2;cases e2;obtain⟨l3,v3,o3,b3⟩:=bH zK 7 tD.len (by omega) (Q:=mE) Tryz.underlying70 (by kernel_rfl) (λm hm cs x h hw=>(ih m (by omega)) cs x h hw) (n:=n) f3 w3;have b3:l3.length<=17592186044416:=by
  have hb:prog.bytesOf 76=88:=by kernel_rfl
  rw[hb]at b3;have:reachBytes=140737488351232:=rfl;omega
 rw[<-oV]at v3;obtain⟨l4,v4,o4⟩:=zLu n _ _ f4;simp only[R8,VL]at v4;refine⟨zB.mk n0 n1 n2 l3 l4,?_,by rw[mE];exact⟨b3,zDR o3,o4⟩⟩;rw[zK];simp only[VL];exact⟨by simp only[V],by simp only[V],by simp only[V],v3,v4.1,v4.2.1,v4.2.2.1,trivial⟩
theorem zUN{H:Type}{enc:TypeId×Value->H}{W:World}(fuel:Nat):∀(cs:List Value)(x:DataW H×List MemPlace),DataW.trod enc prog W 0 (λ_=>true) true fuel 70 cs=some x->Wt prog 70 x.1->∃e:List zB,VL (rdG W) W (qS zK e) cs/\(e.length<=17592186044416/\kU e):=by
 intro cs x h hw;obtain⟨c,rfl⟩:∃c,cs=[c]:=by
  rcases DataW.trod_slice Tryz.underlying70 h with⟨e,-⟩|⟨a,len,cap,el,rs,m,-,e,-⟩;·exact⟨_,e⟩
  ·exact⟨_,e⟩
 obtain⟨l,v,o,b⟩:=bH zK 7 tD.len (by omega) (Q:=mE) Tryz.underlying70 (by kernel_rfl) (λm _ cs x h hw=>zAT m cs x h hw) (n:=fuel) h hw;have b:l.length<=17592186044416:=by
  have hb:prog.bytesOf 76=88:=by kernel_rfl
  rw[hb]at b;have:reachBytes=140737488351232:=rfl;omega
 exact⟨l,⟨v,trivial⟩,b,zDR o⟩
theorem zVh{α:Type}(l:List α)(h:l.length=3):∃c0 c1 c2,l=[c0,c1,c2]:=by rcases l with _|⟨c0,_|⟨c1,_|⟨c2,_|⟨zz,zs⟩⟩⟩⟩<;>simp only[List.length_nil,List.length_cons]at h<;>first|exact⟨c0,c1,c2,rfl⟩|omega
theorem zHn{H:Type}{enc:TypeId×Value->H}{W:World}(fuel:Nat):∀(cs:List Value)(x:DataW H×List MemPlace),DataW.trod enc prog W 0 (λ_=>true) true fuel 25 cs=some x->Wt prog 25 x.1->∃e:uJ,VL (rdG W) W (fN e) cs/\okX e:=by
 intro cs x h hw;obtain⟨xs,n,hn,hx,hlen,hxs,hf⟩:=DataW.trod_struct Tryz.underlying25 h;rw[hx]at hw;have cc:prog.cellsOf 25=3:=by kernel_rfl
 obtain⟨c0,c1,c2,rfl⟩:=zVh cs (hlen.trans cc);obtain⟨y0,y1,y2,rfl⟩:=zVh xs hxs;have k3:prog.cellsOf 3=1:=by kernel_rfl
 have k22:prog.cellsOf 22=1:=by kernel_rfl
 have k23:prog.cellsOf 23=1:=by kernel_rfl
 have f0:DataW.trod enc prog W 0 (λ_=>true) true n 22 ((List.drop 0 [c0,c1,c2]).take (prog.cellsOf 22))=some y0:=hf 0 _ rfl;rw[k22]at f0;replace f0:DataW.trod enc prog W 0 (λ_=>true) true n 22 [c0]=some y0:=f0;have w0:Wt prog 22 y0.1:=nW Tryz.underlying25 hw (i:=0) rfl rfl;have f1:DataW.trod enc prog W 0 (λ_=>true) true n 23 ((List.drop 1 [c0,c1,c2]).take (prog.cellsOf 23))=some y1:=hf 1 _ rfl;rw[k23]at f1;replace f1:DataW.trod enc prog W 0 (λ_=>true) true n 23 [c1]=some y1:=f1;have w1:Wt prog 23 y1.1:=nW Tryz.underlying25 hw (i:=1) rfl rfl;have f2:DataW.trod enc prog W 0 (λ_=>true) true n 3 ((List.drop 2 [c0,c1,c2]).take (prog.cellsOf 3))=some y2:=hf 2 _ rfl;rw[k3]at f2;replace f2:DataW.trod enc prog W 0 (λ_=>true) true n 3 [c2]=some y2:=f2;have w2:Wt prog 3 y2.1:=nW Tryz.underlying25 hw (i:=2) rfl rfl;obtain⟨l0,v0,o0,b0⟩:=zNG f0 w0;obtain⟨l1,v1,o1,b1⟩:=bH (qS zK) 1 (λ_=>rfl) (by omega) (Q:=λr=>r.length<=17592186044416/\kU r) Tryz.underlying23 (by kernel_rfl) (λm _ cs x h hw=>zUN m cs x h hw) (n:=n) f1 w1;have b1:l1.length<=17592186044416:=by
  have hb:prog.bytesOf 70=24:=by kernel_rfl
  rw[hb]at b1;have:reachBytes=140737488351232:=rfl;omega
 obtain⟨n2,e2,-,-⟩:=DataW.trod_int Tryz.underlying3 f2;cases e2;refine⟨uJ.mk l0 l1 n2,?_,⟨zLt o0,b1,o1⟩⟩;simp only[fN];simp only[VL];exact⟨v0,v1,by simp only[V],trivial⟩
theorem zHm{H:Type}{enc:TypeId×Value->H}{W:World}{v:Value}{d:DataW H}{p:List MemPlace}(h:DataW.Trod enc prog W 0 (λ_=>true) true 25 v d p)(hw:Wt prog 25 d):∃e:uJ,V (rdG W) W (.agg (fN e)) v/\okX e:=by
 obtain⟨fuel,hf⟩:=h;have hlen:v.cells.toList.length=3:=by obtain⟨xs,n,hn,hx,hlen,hxs,-⟩:=DataW.trod_struct Tryz.underlying25 hf;exact hlen.trans (by kernel_rfl)
 obtain⟨e,he,hr⟩:=zHn fuel _ _ hf hw;refine⟨e,?_,hr⟩;cases v with|agg cs=>simp only[V];exact⟨_,rfl,by simpa[Value.cells]using he⟩|_=>simp[Value.cells]at hlen
end Go.Proofs.YtohkcbcddindpaaGreat
