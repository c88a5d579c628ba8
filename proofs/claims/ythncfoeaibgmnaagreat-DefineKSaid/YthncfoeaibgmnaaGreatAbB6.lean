/- Parts of the proof that the law returns true: walks of the functions, plain laws. -/
import Derived.ChangeAlike
import Derived.ChangeArms
import Derived.ChangeShapes
import Derived.Deep.RegionHeld3
import Derived.IntWalk
import Derived.KernelRfl
import Derived.Laws.MakeOwn
import Derived.RangeFuncRecord
import Derived.RegionCalls
import Derived.RegionTactic
import Derived.StillTailTactics
import Derived.Tactics
import Derived.Tactics2
import Derived.Test.YthncfoeaibgmnaaGreatAbB5
set_option linter.unusedVariables false
set_option linter.unusedSimpArgs false
set_option linter.unusedSectionVars false
namespace Go.Proofs.YthncfoeaibgmnaaGreat
open Go Go.Ab Go.Proofs.Tryz
def pD:Nat->Int->Int->(Tm×zW)->Int->Int->(List zW)->Option ((List zW×Int) ⊕ (List zW×Int))
 |0,_,_,_,_,_,_=>none
 |e+1,d,b,r1,g,a,c=>
 if decide (g<(r1.2.length:Int))then
 yG r1.2 g>>=fun x10=>
 M2 e d b c a x10>>=fun r12=>
 pD e d b r1 (xE (g+1)) r12.2 r12.1
 else
 some (.inl (c,a))
def kN(e:Nat)(d b:Int)(r1:Tm×zW)(g:Int)(m:List zW)(a:Int):Option ((List zW×Int) ⊕ (List zW×Int)):=
 if decide (g<(r1.2.length:Int))then
 none
 else
 some (.inr (m,a))
def kO(e:Nat)(t:Tm)(b f u:Int)(p:List zW)(q:Int):Option (List zW×Int):=
 if decide (u<(t.sub.length:Int))then
 none
 else
 some (p,q)
def M4(e:Nat)(t:Tm)(b f v:Int):Option (List zW×Int):=
 kO e t b f 0 [] v
def M5(e:Nat)(d b f:Int)(s:Tm):Option ((List zW×Int) ⊕ (List zW×Int)):=
 cF e s>>=fun r1=>
 if r1.1.k==8 then
 if r1.1.n==d then
 M1 e d b f r1.2>>=fun r5=>
 fV e r1.1 d b r5.1 r5.2>>=fun r7=>
 pD e d b r1 0 r7.2 r7.1
 else
 M4 e r1.1 d b f>>=fun r9=>
 match r9 with
 |y11=>
  kN e d b r1 0 y11.1 y11.2
 else
 none
section
variable (d b f:Int) (s:Tm)
abbrev iT (r:List zW×Int) (C:Cf):Prop:=C 256 [.cells [ai d,ai b,zH (yO zC) ([]:List zW) .nl,ai f]] [.mp 0 0,xF s] (.tup []) [.cells [ai d,ai b,.ms 1 0 r.1.length r.1.length 1,ai r.2],.row (zF (yO zC) r.1)] 0
abbrev iU (r:List zW×Int) (C:Cf):Prop:=C 256 [.cells [ai d,ai b,zH (yO zC) ([]:List zW) .nl,ai f]] [.mp 0 0,xF s] (.tup []) [.cells [ai d,ai b,zH (yO zC) r.1 .no,ai r.2]] 0
end
theorem fW:Qf 256 f256:=⟨func256,rfl⟩
theorem M6{d b f s r}(h:iT d b f s r Ci):iT d b f s r Ct:=⟨h,⟨(lz rfl),⟨tv,tv,⟨tv,dT _⟩,tv⟩,tv⟩,(zA ⟨tv,tv,⟨tv,(yP xM) _⟩,tv,tv⟩ zB),tv,(zA ⟨tv,tv,(lz rfl),tv,tv⟩ (zA ((yP xM) _) zB))⟩
theorem M7{d b f s r}(h:iU d b f s r Ci):iU d b f s r Ct:=⟨h,⟨(lz rfl),⟨tv,tv,⟨tv,dT _⟩,tv⟩,tv⟩,(zA ⟨tv,tv,⟨tv,(yP xM) _⟩,tv,tv⟩ zB),tv,(zA ⟨tv,tv,(yP xM) _,tv,tv⟩ zB)⟩
theorem dY:∀e:Nat,(∀ {d b r1 g a c r},pD e d b r1 g a c=some r->(∀j,dL 1 (pt 16373 f256) (sp j 41 0 [(2,.mp 1 0),(31,zH zC r1.2 .no),(32,ai (r1.2.length:Int)),(33,ai g)]) (⟨[(0,.cells [ai d,ai b,.ms 2 0 c.length c.length 1,ai a]),(1,.cells [.mp 0 0]),(2,.row (zF (yO zC) c))],3,[],0,[]⟩) (fQ 1 ((match (generalizing:=false) r with | .inl x=>nQ 1 f256 (.tup []) [.cells [ai d,ai b,.ms 1 0 x.1.length x.1.length 1,ai x.2],.row (zF (yO zC) x.1)] 0 | .inr x=>nQ 1 f256 (.tup []) [.cells [ai d,ai b,zH (yO zC) x.1 .no,ai x.2]] 0)) [.blk 0]))):=by
 intro e
 induction e with
 |zero=>
  exact fun h=>nn h
 |succ e ih=>
  intro d b r1 g a c r h
  rw[pD]at h
  obtain⟨h9,h⟩|⟨h9,h⟩:=xA h
  obtain⟨x10,h11,h⟩:=zD h
  obtain⟨r12,h13,h⟩:=zD h
  exact fun j=>lH 1 [] [0,1,4] [] [2,31,32,33] (oD (dT r1.2)<|oD ((yP xM) r12.1)<|oC 4 [0,2] (zJF h13)<|oA 0 (wN (o:=.no) h11)<|oB 0 h9 o0) (ih h)
  cases h
  exact fun j=>lF 0 [0,2] (oD ((yP xM) c)<|oB 0 h9 o0)
theorem dZ{e d b r1 g m a r}(h:kN e d b r1 g m a=some r):(∀j,dL 1 (pt 16373 f256) (sp j 41 0 [(2,.mp 1 0),(31,zH zC r1.2 .no),(32,ai (r1.2.length:Int)),(33,ai g)]) (⟨[(0,.cells [ai d,ai b,zH (yO zC) m .no,ai a]),(1,.cells [.mp 0 0])],2,[],0,[]⟩) (fQ 1 ((match (generalizing:=false) r with | .inl x=>nQ 1 f256 (.tup []) [.cells [ai d,ai b,.ms 1 0 x.1.length x.1.length 1,ai x.2],.row (zF (yO zC) x.1)] 0 | .inr x=>nQ 1 f256 (.tup []) [.cells [ai d,ai b,zH (yO zC) x.1 .no,ai x.2]] 0)) [.blk 0])):=by
 unfold kN at h
 obtain⟨h12,h⟩:=zT h
 cases h
 exact fun j=>lF 0 [0] (oD ((yP xM) m)<|oB 0 h12 o0)
theorem zBS{e t b f u p q r}(h:kO e t b f u p q=some r):(∀j,dL 2 (pt 245 f348) (sp j 17 0 [(1,.clo 349 [] [.mp 0 0]),(7,zH zC t.sub .no),(8,ai (t.sub.length:Int)),(9,ai u)]) (⟨[(0,.cells [.mp 1 0]),(1,.cells [ai b,ai f,zH (yO zC) p .nl,ai q])],2,[],0,[]⟩) (fQ 2 (nQ 2 f348 (.tup []) [.cells [.mp 1 0],.cells [ai b,ai f,zH (yO zC) r.1 .no,ai r.2]] 0) [.blk 0])):=by
 unfold kO at h
 obtain⟨h1,h⟩:=zT h
 cases h
 exact fun j=>lF 0 [0,1] (oD ((yP xM) p)<|oB 0 h1 o0)
theorem zBT{e t b f v r}(h:M4 e t b f v=some r):Ct 348 [.cells [.mp 1 0],.cells [ai b,ai f,zH (yO zC) ([]:List zW) .nl,ai v]] [xF t,.clo 349 [] [.mp 0 0]] (.tup []) [.cells [.mp 1 0],.cells [ai b,ai f,zH (yO zC) r.1 .no,ai r.2]] 0:=⟨by
 unfold M4 at h
 exact tH ⟨func348,rfl⟩ 2 [] [0,1] [] [1,7,8,9] (oD (dT t.sub)<|oD ((yP xM) ([]:List zW)) o0) (zBS h),⟨⟨tv,tv,⟨tv,dT _⟩,tv⟩,⟨tv,⟨(lz rfl),tv⟩⟩,tv⟩,(zA ⟨(lz rfl),tv⟩ (zA ⟨tv,tv,⟨tv,(yP xM) _⟩,tv,tv⟩ zB)),tv,(zA ⟨(lz rfl),tv⟩ (zA ⟨tv,tv,(yP xM) _,tv,tv⟩ zB))⟩
theorem zBU{e d b f s r}(h:M5 e d b f s=some r):(match (generalizing:=false) r with | .inl x=>iT d b f s x Ct | .inr x=>iU d b f s x Ct):=by
 unfold M5 at h
 obtain⟨r1,h2,h⟩:=zD h
 have k:=oC 1 [] (E7 h2) o0
 obtain⟨h3,h⟩:=xD h
 have k:=oB 4 h3 k
 obtain⟨h4,h⟩|⟨h4,h⟩:=xA h
 obtain⟨r5,h6,h⟩:=zD h
 obtain⟨r7,h8,h⟩:=zD h
 rcases r with y0|y1
 exact M6 (tH fW 1 [] [0,1,5] [] [2,31,32,33] (oD (dT r1.2)<|oD ((yP xM) r7.1)<|oC 1 [1,0,4] (M3 h8)<|oC 1 [0] (zBP h6)<|oB 3 h4 k) (dY _ h))
 exact M7 (tH fW 1 [] [0,1,5] [] [2,31,32,33] (oD (dT r1.2)<|oD ((yP xM) r7.1)<|oC 1 [1,0,4] (M3 h8)<|oC 1 [0] (zBP h6)<|oB 3 h4 k) (dY _ h))
 obtain⟨r9,h10,h⟩:=zD h
 have k:=oB 3 h4 k
 dsimp only at h
 rcases r with y0|y1
 exact M6 (tH fW 1 [] [0,1] [] [2,31,32,33] (oD (dT r1.2)<|oD ((yP xM) r9.1)<|oC 1 [1,0] (zBT h10) k) (dZ h))
 exact M7 (tH fW 1 [] [0,1] [] [2,31,32,33] (oD (dT r1.2)<|oD ((yP xM) r9.1)<|oC 1 [1,0] (zBT h10) k) (dZ h))
def zNn(d:Nat)(b:Tm)(c a:Int):Option ((List zW×Int) ⊕ (List zW×Int)):=
 jX d b>>=fun r1=>
 if r1 then
 if decide (a<0)then
 none
 else
 if decide (a>24)then
 none
 else
 M5 d c a 0 b>>=fun r6=>
 match r6 with
 | .inl y8=>
  if y8.2 != 0 then
  none
  else
  gfz y8.1.length y8.1>>=fun l10=>
  some (.inr (l10,0))
 | .inr y12=>
  if y12.2 != 0 then
  none
  else
  some (.inl (y12.1,0))
 else
 none
section
variable (b:Tm) (c a:Int)
abbrev zRg (r:List zW×Int) (C:Cf):Prop:=C 170 [] [xF b,ai c,ai a] (.tup [.sl (zF (yO zC) r.1) r.1.length .no,ai r.2]) [] 0
abbrev zRf (r:List zW×Int) (C:Cf):Prop:=C 170 [] [xF b,ai c,ai a] (.tup [.ms 0 0 r.1.length r.1.length 1,ai r.2]) [.row (zF (yO zC) r.1)] 0
end
theorem zVf:Qf 170 f170:=⟨func170,rfl⟩
theorem zVe{d b c a r}(h:zNn d b c a=some r):(match (generalizing:=false) r with | .inl x=>zRg b c a x Ct | .inr x=>zRf b c a x Ct):=by
 unfold zNn at h
 obtain⟨r1,h2,h⟩:=zD h
 obtain⟨h3,h⟩:=xD h
 have k:=oK 1 [] h3 (jM h2) o0
 obtain⟨h4,h⟩:=zT h
 have k:=oB 1 h4 k
 obtain⟨h5,h⟩:=zT h
 obtain⟨r6,h7,h⟩:=zD h
 have k:=oB 0 h5 k
 rcases r6 with y8|y12
 dsimp only at h
 have k:=oC 1 [1] (zBU h7) k
 obtain⟨h9,h⟩:=zT h
 obtain⟨l10,h11,h⟩:=zD h
 obtain⟨h11a,h11b⟩:=tD h11
 cases h
 obtain rfl:=h11a.symm
 try dsimp only
 exact⟨by rw[←h11b];exact(tF zVf 1 [2] (oD ((yP xM) y8.1)<|oB 1 h9 k)),⟨⟨tv,tv,⟨tv,dT _⟩,tv⟩,tv,tv,tv⟩,zB,⟨(lz rfl),tv,tv⟩,(zA ((yP xM) _) zB)⟩
 dsimp only at h
 have k:=oC 1 [1] (zBU h7) k
 obtain⟨h13,h⟩:=zT h
 cases h
 exact⟨tF zVf 1 [] (oD ((yP xM) y12.1)<|oB 1 h13 k),⟨⟨tv,tv,⟨tv,dT _⟩,tv⟩,tv,tv,tv⟩,zB,⟨(yP xM) _,tv,tv⟩,zB⟩
theorem zVd{d b c a r}(h:zNn d b c a=some r):(match (generalizing:=false) r with | .inl x=>CT prog 170 [] [xF b,ai c,ai a] (.tup [.sl (zF (yO zC) x.1) x.1.length .no,ai x.2]) [] 0 | .inr x=>CT prog 170 [] [xF b,ai c,ai a] (.tup [.sl (zF (yO zC) x.1) x.1.length .no,ai x.2]) [] 0):=by
 have k:=zVe h
 rcases r with y0|y1
 ·exact k
 ·exact CT.freeze (H1:=[]) (cs:=zF (yO zC) y1.1) (res':=(.tup [.sl (zF (yO zC) y1.1) y1.1.length .no,ai y1.2])) k (Nat.le_of_ble_eq_true rfl) zB ((yP xM) _) ⟨(.inl ⟨rfl,rfl⟩),trivial,tv⟩ (by rfl) rfl
def aP:Nat->yD->List zK->Int->Option Bool
 |0,_,_,_=>none
 |d+1,c,a,b=>
 if decide (b<(a.length:Int))then
 yG a b>>=fun x5=>
 zMC d c x5>>=fun r7=>
 if r7 then
 aP d c a (xE (b+1))
 else
 none
 else
 some true
def zNm(d:Nat)(c:yD)(a:List zK):Option Bool:=
 e66 d c>>=fun r1=>
 if r1 then
 aP d c a 0
 else
 none
theorem zNl:∀d:Nat,(∀ {c a b r},aP d c a b=some r->(∀j,dL 0 (pt 4021 f171) (sp j 21 0 [(0,zH yE c .no),(10,zH zI a .no),(11,ai (a.length:Int)),(12,ai b)]) (⟨[],0,[],0,[]⟩) (fQ 0 (nQ 0 f171 (ab r) [] 0) [.blk 0,.seq (pt 63 f171)]))):=by
 intro d
 induction d with
 |zero=>
  exact fun h=>nn h
 |succ d ih=>
  intro c a b r h
  rw[aP]at h
  obtain⟨h4,h⟩|⟨h4,h⟩:=xA h
  obtain⟨x5,h6,h⟩:=zD h
  obtain⟨r7,h8,h⟩:=zD h
  have k:=oA 0 (lZ (o:=.no) h6)<|oB 0 h4 o0
  obtain⟨h9,h⟩:=xD h
  exact fun j=>lH 2 [] [] [] [0,10,11,12] (oD (zX a)<|oD (dE c)<|oK 3 [] h9 (zVy h8) k) (ih h)
  cases h
  exact fun j=>lF 0 [] (oB 0 h4 o0)
theorem zVc{d c a r}(h:zNm d c a=some r):Ct 171 [] [zH yE c .no,zH zI a .no] (ab r) [] 0:=⟨by
 unfold zNm at h
 obtain⟨r1,h2,h⟩:=zD h
 obtain⟨h3,h⟩:=xD h
 exact tH ⟨func171,rfl⟩ 2 [] [] [] [0,10,11,12] (oD (zX a)<|oD (dE c)<|oK 0 [] h3 (c66 h2) o0) (zNl _ h),⟨⟨tv,dE _⟩,⟨tv,zX _⟩,tv⟩,zB,tv,zB⟩
def zRe(d:Nat)(c:yD)(a:zK)(b:Tm):Option Bool:=
 if a.kind_==1 then
 if b.k==8 then
 some (b.n==a.n_)
 else
 none
 else
 none
theorem zYg{d c a b r}(h:zRe d c a b=some r):Ct 350 [] [zH yE c .no,xZ a,xF b] (ab r) [] 0:=⟨by
 unfold zRe at h
 obtain⟨h1,h⟩:=xD h
 have k:=oB 1 h1 o0
 obtain⟨h2,h⟩:=xD h
 cases h
 exact tF ⟨func350,rfl⟩ 3 [] (oB 1 h2 k),⟨⟨tv,dE _⟩,⟨tv,tv,tv,⟨tv,zX _⟩,tv,tv,⟨tv,dT _⟩,tv⟩,⟨tv,tv,⟨tv,dT _⟩,tv⟩,tv⟩,zB,tv,zB⟩
def zRd(d:Nat)(a:yD)(b:zK)(c:Tm):Option Int:=
 zRe d a b c>>=fun r1=>
 if r1 then
 some 1
 else
 none
theorem zYf{d a b c r}(h:zRd d a b c=some r):Ct 257 [] [zH yE a .no,xZ b,xF c] (ai r) [] 0:=⟨by
 unfold zRd at h
 obtain⟨r1,h2,h⟩:=zD h
 obtain⟨h3,h⟩:=xD h
 cases h
 exact tF ⟨func257,rfl⟩ 0 [] (oK 2 [] h3 (zYg h2) o0),⟨⟨tv,dE _⟩,⟨tv,tv,tv,⟨tv,zX _⟩,tv,tv,⟨tv,dT _⟩,tv⟩,⟨tv,tv,⟨tv,dT _⟩,tv⟩,tv⟩,zB,tv,zB⟩
mutual
def aQ:Nat->yD->List zK->zW->Int->(List zU)->Option (List zU)
 |0,_,_,_,_,_=>none
 |f+1,d,c,b,a,e=>
 if decide (a<(c.length:Int))then
 yG c a>>=fun x2=>
 aR f d c b a e x2 [] 0
 else
 some e
def aR:Nat->yD->List zK->zW->Int->(List zU)->zK->zU->Int->Option (List zU)
 |0,_,_,_,_,_,_,_,_=>none
 |f+1,d,c,b,a,e,x2,m,g=>
 if decide (g<(b.length:Int))then
 yG b g>>=fun x5=>
 zRd f d x2 x5>>=fun r7=>
 yV 8 m [r7]>>=fun l9=>
 aR f d c b a e x2 l9 (xE (g+1))
 else
 yV 24 e [m]>>=fun l11=>
 aQ f d c b (xE (a+1)) l11
end
def zRc(f:Nat)(d:yD)(c:List zK)(b:zW):Option (List zU):=
 aQ f d c b 0 []
theorem M8:∀f:Nat,(∀ {d c b a e r},aQ f d c b a e=some r->(∀j,dL 0 (pt 4021 f172) (sp j 39 0 [(0,zH yE d .no),(2,zH zC b .no),(7,zH (yO zS) e (.st 0 1)),(13,zH zI c .no),(14,ai (c.length:Int)),(15,ai a)]) (⟨[],0,[0],1,[]⟩) (fQ 0 (nQ 0 f172 (.sl (zF (yO zS) r) r.length .no) [] 0) [.blk 0,.seq (pt 63 f172)])))∧(∀ {d c b a e x2 m g r},aR f d c b a e x2 m g=some r->(∀j,dL 0 (pt 4217348021 f172) (sp j 39 0 [(0,zH yE d .no),(2,zH zC b .no),(7,zH (yO zS) e (.st 0 1)),(9,.mp 0 0),(10,zH zS m (.st 1 1)),(13,zH zI c .no),(14,ai (c.length:Int)),(15,ai a),(19,zH zC b .no),(20,ai (b.length:Int)),(21,ai g)]) (⟨[(0,.cells [ai x2.kind_,ai x2.n_,ai x2.at_,zH zI x2.sub_ .no,ai x2.t_.k,ai x2.t_.n,zH zC x2.t_.sub .no])],1,[0,1],2,[]⟩) (fQ 0 (nQ 0 f172 (.sl (zF (yO zS) r) r.length .no) [] 0) [.blk 2,.seq (pt 65896063 f172),.blk 1,.seq (pt 257407 f172),.loop (pt 4021 f172),.blk 0,.seq (pt 63 f172)]))):=by
 intro f
 induction f with
 |zero=>
  exact⟨fun h=>nn h,fun h=>nn h⟩
 |succ f ih=>
  obtain⟨zJG,zBV⟩:=ih
  refine⟨?_,?_⟩
  intro d c b a e r h
  rw[aQ]at h
  obtain⟨h1,h⟩|⟨h1,h⟩:=xA h
  obtain⟨x2,h3,h⟩:=zD h
  exact fun j=>lH 3 [(none,10,1)] [0] [0,1] [0,2,7,9,10,13,14,15,19,20,21] (oD (dT b)<|oD (zX c)<|oD (dI ([]:zU))<|oD ((yP yL) e)<|oD (dT b)<|oD (dE d)<|oD (dT x2.t_.sub)<|oD (zX x2.sub_)<|oA 0 (lZ (o:=.no) h3)<|oB 0 h1 o0) (zBV h)
  obtain rfl:=sj h
  exact fun j=>lF 0 [] (oD ((yP yL) e)<|oB 0 h1 o0)
  intro d c b a e x2 m g r h
  rw[aR]at h
  obtain⟨h4,h⟩|⟨h4,h⟩:=xA h
  obtain⟨x5,h6,h⟩:=zD h
  obtain⟨r7,h8,h⟩:=zD h
  obtain⟨l9,h10,h⟩:=zD h
  exact fun j=>lH 1 [] [0] [0,2] [0,2,7,9,10,13,14,15,19,20,21] (oD (dT b)<|oD (zX c)<|oD (dI l9)<|oD ((yP yL) e)<|oD (dT b)<|oD (dE d)<|oD (dT x2.t_.sub)<|oD (zX x2.sub_)<|oP 1 (sG h10 (by simp))<|oC 4 [] (zYf h8)<|oA 0 (wN (o:=.no) h6)<|oB 0 h4 o0) (zBV h)
  obtain⟨l11,h12,h⟩:=zD h
  exact fun j=>lH 1 [] [] [2] [0,2,7,13,14,15] (oD (zX c)<|oD ((yP yL) l11)<|oD (dT b)<|oD (dE d)<|oP 1 (zCU h12 (by simp))<|oB 0 h4 o0) (zJG h)
theorem zYe{f d c b r}(h:zRc f d c b=some r):Ct 172 [] [zH yE d .no,zH zI c .no,zH zC b .no] (.sl (zF (yO zS) r) r.length .no) [] 0:=⟨by
 unfold zRc at h
 exact tH ⟨func172,rfl⟩ 1 [(none,7,1)] [] [0] [0,2,7,13,14,15] (oD (zX c)<|oD ((yP yL) ([]:List zU))<|oD (dT b)<|oD (dE d) o0) ((M8 _).1 h),⟨⟨tv,dE _⟩,⟨tv,zX _⟩,⟨tv,dT _⟩,tv⟩,zB,(yP yL) _,zB⟩
def fX:Nat->yD->List zK->(List (List zU))->(List zW)->Int->Int->Option (List (List zU)×Int)
 |0,_,_,_,_,_,_=>none
 |c+1,b,a,d,e,g,f=>
 if decide (f<g)then
 yG e f>>=fun x9=>
 zRc c b a x9>>=fun r11=>
 yV 24 d [r11]>>=fun l13=>
 fX c b a l13 e g (xE (f+1))
 else
 some (d,0)
def zRb(c:Nat)(b:yD)(a:List zK)(m:Tm)(n:Int):Option (List (List zU)×Int):=
 zNn c m n (a.length:Int)>>=fun r1=>
 match r1 with
 | .inl y3=>
  if y3.2 != 0 then
  none
  else
  zNm c b a>>=fun r5=>
  if r5 then
  fX c b a [] y3.1 (y3.1.length:Int) 0
  else
  none
 | .inr y8=>
  if y8.2 != 0 then
  none
  else
  zNm c b a>>=fun r10=>
  if r10 then
  fX c b a [] y8.1 (y8.1.length:Int) 0
  else
  none
theorem zVb:Qf 106 f106:=⟨func106,rfl⟩
theorem zEJ:∀c:Nat,(∀ {b a d e g f r},fX c b a d e g f=some r->(∀j,dL 0 (pt 262069 f106) (sp j 45 0 [(0,zH yE b .no),(1,zH zI a .no),(12,zH (yO (yO zS)) d (.st 0 1)),(30,zH (yO zC) e .no),(31,ai g),(32,ai f)]) (⟨[],0,[0],1,[]⟩) (fQ 0 (nQ 0 f106 (.tup [.sl (zF (yO (yO zS)) r.1) r.1.length .no,ai r.2]) [] 0) [.blk 0,.seq (pt 4095 f106)]))):=by
 intro c
 induction c with
 |zero=>
  exact fun h=>nn h
 |succ c ih=>
  intro b a d e g f r h
  rw[fX]at h
  obtain⟨h8,h⟩|⟨h8,h⟩:=xA h
  obtain⟨x9,h10,h⟩:=zD h
  obtain⟨r11,h12,h⟩:=zD h
  obtain⟨l13,h14,h⟩:=zD h
  exact fun j=>lH 1 [] [] [1] [0,1,12,30,31,32] (oD ((yP xM) e)<|oD ((yP (xQ yL)) l13)<|oD (zX a)<|oD (dE b)<|oP 1 (zHA h14 (by simp))<|oC 1 [] (zYe h12)<|oA 0 (zSN (o:=.no) h10)<|oB 0 h8 o0) (ih h)
  cases h
  exact fun j=>lF 0 [] (oD ((yP (xQ yL)) d)<|oB 0 h8 o0)
theorem zVa{c b a m n r}(h:zRb c b a m n=some r):Ct 106 [] [zH yE b .no,zH zI a .no,xF m,ai n] (.tup [.sl (zF (yO (yO zS)) r.1) r.1.length .no,ai r.2]) [] 0:=⟨by
 unfold zRb at h
 obtain⟨r1,h2,h⟩:=zD h
 rcases r1 with y3|y8
 dsimp only at h
 have k:=oC 2 [] (zVd h2) o0
 obtain⟨h4,h⟩:=zT h
 obtain⟨r5,h6,h⟩:=zD h
 have k:=oB 2 h4 k
 obtain⟨h7,h⟩:=xD h
 exact tH zVb 2 [(none,12,1)] [] [0] [0,1,12,30,31,32] (oD ((yP xM) y3.1)<|oD ((yP (xQ yL)) ([]:List (List zU)))<|oD (zX a)<|oD (dE b)<|oK 0 [] h7 (zVc h6) k) (zEJ _ h)
 dsimp only at h
 have k:=oC 2 [] (zVd h2) o0
 obtain⟨h9,h⟩:=zT h
 obtain⟨r10,h11,h⟩:=zD h
 have k:=oB 2 h9 k
 obtain⟨h12,h⟩:=xD h
 exact tH zVb 2 [(none,12,1)] [] [0] [0,1,12,30,31,32] (oD ((yP xM) y8.1)<|oD ((yP (xQ yL)) ([]:List (List zU)))<|oD (zX a)<|oD (dE b)<|oK 0 [] h12 (zVc h11) k) (zEJ _ h),⟨⟨tv,dE _⟩,⟨tv,zX _⟩,⟨tv,tv,⟨tv,dT _⟩,tv⟩,tv,tv⟩,zB,⟨(yP (xQ yL)) _,tv,tv⟩,zB⟩
def mH:Nat->yD->zW->Int->Int->zW->(List (List zK))->(List (List ByteArray))->List yM->Int->Int->Int->xN->zW->zW->List zY->Int->Int->zW->Int->zU->Int->zW->Option (List (List zU)×Int)
 |0,_,_,_,_,_,_,_,_,_,_,_,_,_,_,_,_,_,_,_,_,_,_=>none
 |i+1,A,B,D,E,C,e,s,d,F,G,t,f,g,m,p,u,v,q,y,r13,w,H=>
 if decide (w<(r13.length:Int))then
 yG r13 w>>=fun x16=>
 zDq i x16>>=fun r18=>
 yV 40 H [r18]>>=fun l20=>
 mH i A B D E C e s d F G t f g m p u v q y r13 (xE (w+1)) l20
 else
 uR d.length y>>=fun x22=>
 yG d (x22:Int)>>=fun x24=>
 zBn i x24.term_ H>>=fun r26=>
 if r26.2 != 0 then
 none
 else
 uR e.length y>>=fun x29=>
 yG e (x29:Int)>>=fun x31=>
 zRb i A x31 r26.1 1048576>>=fun r33=>
 some (r33.1,r33.2)
def o7(i:Nat)(A:yD)(B:zW)(D E:Int)(C:zW)(e:List (List zK))(s:List (List ByteArray))(d:List yM)(F G t:Int)(f:xN)(g m:zW)(p:List zY)(u v:Int)(q:zW)(y:Int):Option (List (List zU)×Int):=
 if decide (y≥(d.length:Int))then
 none
 else
 uR d.length y>>=fun x2=>
 yG d (x2:Int)>>=fun x4=>
 if !x4.has_ then
 none
 else
 zDq i 1048576>>=fun r7=>
 uR e.length y>>=fun x9=>
 yG e (x9:Int)>>=fun x11=>
 zGu i x11>>=fun r13=>
 mH i A B D E C e s d F G t f g m p u v q y r13 0 [r7]
theorem zDk:∀i:Nat,(∀ {A B D E C e s d F G t f g m p u v q y r13 w H r},mH i A B D E C e s d F G t f g m p u v q y r13 w H=some r->(∀j,dL 3 (pt 16309 f52) (sp j 70 0 [(0,zH yE A .no),(2,ai y),(4,.mp 3 0),(8,zH zC H .full),(34,zH zS r13 (.st 0 1)),(35,ai (r13.length:Int)),(36,ai w)]) (⟨[(0,.row (zF (yO zI) e)),(1,.row (zF (yO xG) s)),(2,.row (zF zZ d)),(3,.cells [zH zC B .no,ai D,ai E,zH zC C .no,.ms 0 0 e.length e.length 1,.ms 1 0 s.length s.length 1,.ms 2 0 d.length d.length 4,ai F,ai G,ai t,zH zJ f .no,zH zC g .no,zH zC m .no,zH zV p .no,ai u,ai v,zH zC q .no])],4,[0],1,[]⟩) (fQ 3 (nQ 3 f52 (.tup [.sl (zF (yO (yO zS)) r.1) r.1.length .no,ai r.2]) [.row (zF (yO zI) e),.row (zF (yO xG) s),.row (zF zZ d)] 0) [.blk 0,.seq (pt 255 f52)]))∧(∀j,dL 3 (pt 16309 f52) (sp j 70 0 [(0,zH yE A .no),(2,ai y),(4,.mp 3 0),(8,zH zC H (.st 0 3)),(34,zH zS r13 (.st 1 1)),(35,ai (r13.length:Int)),(36,ai w)]) (⟨[(0,.row (zF (yO zI) e)),(1,.row (zF (yO xG) s)),(2,.row (zF zZ d)),(3,.cells [zH zC B .no,ai D,ai E,zH zC C .no,.ms 0 0 e.length e.length 1,.ms 1 0 s.length s.length 1,.ms 2 0 d.length d.length 4,ai F,ai G,ai t,zH zJ f .no,zH zC g .no,zH zC m .no,zH zV p .no,ai u,ai v,zH zC q .no])],4,[0,1],2,[]⟩) (fQ 3 (nQ 3 f52 (.tup [.sl (zF (yO (yO zS)) r.1) r.1.length .no,ai r.2]) [.row (zF (yO zI) e),.row (zF (yO xG) s),.row (zF zZ d)] 0) [.blk 0,.seq (pt 255 f52)]))):=by
 intro i
 induction i with
 |zero=>
  exact fun h=>nn h
 |succ i ih=>
  intro A B D E C e s d F G t f g m p u v q y r13 w H r h
  rw[mH]at h
  refine⟨?_,?_⟩
  obtain⟨h15,h⟩|⟨h15,h⟩:=xA h
  obtain⟨x16,h17,h⟩:=zD h
  obtain⟨r18,h19,h⟩:=zD h
  obtain⟨l20,h21,h⟩:=zD h
  exact fun j=>lH 1 [] [0,1,2,3] [1,0] [0,2,4,8,34,35,36] (oD (dI r13)<|oD (dT l20)<|oD (dE A)<|oD (dT q)<|oD (zM p)<|oD (dT m)<|oD (dT g)<|oD (zE f)<|oD (dT C)<|oD (dT B)<|oD (zQ d)<|oD ((yP yN) s)<|oD ((yP zG) e)<|oP 0 (vO h21 (by simp))<|oS 0 (xL xU [r18])<|oC 1 [] (zGv h19)<|oA 0 (sU (o:=(.st 0 1)) h17)<|oB 0 h15 o0) ((ih h).2)
  obtain⟨x22,h23,h⟩:=zD h
  obtain⟨x24,h25,h⟩:=zD h
  obtain⟨r26,h27,h⟩:=zD h
  have k:=oC 0 [] (R6 h27)<|oG (a:=(.agg [ai x24.term_.k,ai x24.term_.n,zH zC x24.term_.sub .no])) 0 (ldF vA h25 1 (true,3) (val:=.agg [ai x24.term_.k,ai x24.term_.n,zH zC x24.term_.sub .no]) rfl)<|oA 1 (D9 (b:=2) (c:=List.length d) (z:=4) h23)<|oB 0 h15 o0
  obtain⟨h28,h⟩:=zT h
  obtain⟨x29,h30,h⟩:=zD h
  obtain⟨x31,h32,h⟩:=zD h
  obtain⟨r33,h34,h⟩:=zD h
  cases h
  exact fun j=>lF 2 [0,1,2] (oD ((yP (xQ yL)) r33.1)<|oD (zQ d)<|oD ((yP yN) s)<|oD ((yP zG) e)<|oC 1 [] (zVa h34)<|oG (a:=(zH zI x31 .no)) 0 (U1 (xQ zG) h32 (false,1) (val:=zH zI x31 .no) rfl)<|oA 1 (U7 (b:=0) (c:=List.length e) (z:=1) h30)<|oB 3 h28 k)
  obtain⟨h15,h⟩|⟨h15,h⟩:=xA h
  obtain⟨x16,h17,h⟩:=zD h
  obtain⟨r18,h19,h⟩:=zD h
  obtain⟨l20,h21,h⟩:=zD h
  exact fun j=>lH 1 [] [0,1,2,3] [2,1] [0,2,4,8,34,35,36] (oD (dI r13)<|oD (dT l20)<|oD (dE A)<|oD (dT q)<|oD (zM p)<|oD (dT m)<|oD (dT g)<|oD (zE f)<|oD (dT C)<|oD (dT B)<|oD (zQ d)<|oD ((yP yN) s)<|oD ((yP zG) e)<|oP 0 (vO h21 (by simp))<|oS 0 (xL xU [r18])<|oC 1 [] (zGv h19)<|oA 0 (sU (o:=(.st 1 1)) h17)<|oB 0 h15 o0) ((ih h).2)
  obtain⟨x22,h23,h⟩:=zD h
  obtain⟨x24,h25,h⟩:=zD h
  obtain⟨r26,h27,h⟩:=zD h
  have k:=oC 0 [] (R6 h27)<|oG (a:=(.agg [ai x24.term_.k,ai x24.term_.n,zH zC x24.term_.sub .no])) 0 (ldF vA h25 1 (true,3) (val:=.agg [ai x24.term_.k,ai x24.term_.n,zH zC x24.term_.sub .no]) rfl)<|oA 1 (D9 (b:=2) (c:=List.length d) (z:=4) h23)<|oB 0 h15 o0
  obtain⟨h28,h⟩:=zT h
  obtain⟨x29,h30,h⟩:=zD h
  obtain⟨x31,h32,h⟩:=zD h
  obtain⟨r33,h34,h⟩:=zD h
  cases h
  exact fun j=>lF 2 [0,1,2] (oD ((yP (xQ yL)) r33.1)<|oD (zQ d)<|oD ((yP yN) s)<|oD ((yP zG) e)<|oC 1 [] (zVa h34)<|oG (a:=(zH zI x31 .no)) 0 (U1 (xQ zG) h32 (false,1) (val:=zH zI x31 .no) rfl)<|oA 1 (U7 (b:=0) (c:=List.length e) (z:=1) h30)<|oB 3 h28 k)
theorem zNk{i A B D E C e s d F G t f g m p u v q y r}(h:o7 i A B D E C e s d F G t f g m p u v q y=some r):Ct 52 [.row (zF (yO zI) e),.row (zF (yO xG) s),.row (zF zZ d)] [zH yE A .no,.agg [zH zC B .no,ai D,ai E,zH zC C .no,.ms 0 0 e.length e.length 1,.ms 1 0 s.length s.length 1,.ms 2 0 d.length d.length 4,ai F,ai G,ai t,zH zJ f .no,zH zC g .no,zH zC m .no,zH zV p .no,ai u,ai v,zH zC q .no],ai y] (.tup [.sl (zF (yO (yO zS)) r.1) r.1.length .no,ai r.2]) [.row (zF (yO zI) e),.row (zF (yO xG) s),.row (zF zZ d)] 0:=⟨by
 unfold o7 at h
 obtain⟨h1,h⟩:=zT h
 obtain⟨x2,h3,h⟩:=zD h
 obtain⟨x4,h5,h⟩:=zD h
 have k:=oG (a:=(ab x4.has_)) 0 (U1 vA h5 (false,1) (val:=ab x4.has_) rfl)<|oA 1 (D9 (b:=2) (c:=List.length d) (z:=4) h3)<|oB 2 h1 o0
 obtain⟨h6,h⟩:=zT h
 obtain⟨r7,h8,h⟩:=zD h
 obtain⟨x9,h10,h⟩:=zD h
 obtain⟨x11,h12,h⟩:=zD h
 obtain⟨r13,h14,h⟩:=zD h
 exact tH ⟨func52,rfl⟩ 1 [] [0,1,2,3] [0] [0,2,4,8,34,35,36] (oD (dI r13)<|oD (dT [r7])<|oD (dE A)<|oD (dT q)<|oD (zM p)<|oD (dT m)<|oD (dT g)<|oD (zE f)<|oD (dT C)<|oD (dT B)<|oD (zQ d)<|oD ((yP yN) s)<|oD ((yP zG) e)<|oC 0 [] (zUZ h14)<|oG (a:=(zH zI x11 .no)) 0 (U1 (xQ zG) h12 (false,1) (val:=zH zI x11 .no) rfl)<|oA 1 (U7 (b:=0) (c:=List.length e) (z:=1) h10)<|oS 0 (xL xU [r7])<|oC 0 [] (zGv h8)<|oB 0 h6 k) ((zDk _ h).1),⟨⟨tv,dE _⟩,⟨⟨tv,dT _⟩,tv,tv,⟨tv,dT _⟩,(lz rfl),(lz rfl),(lz rfl),tv,tv,tv,⟨tv,zE _⟩,⟨tv,dT _⟩,⟨tv,dT _⟩,⟨tv,zM _⟩,tv,tv,⟨tv,dT _⟩,tv⟩,tv,tv⟩,(zA ((yP zG) _) (zA ((yP yN) _) (zA (zQ _) zB))),⟨(yP (xQ yL)) _,tv,tv⟩,(zA ((yP zG) _) (zA ((yP yN) _) (zA (zQ _) zB)))⟩
mutual
def aS:Nat->(List zU)->Int->Option Bool
 |0,_,_=>none
 |d+1,a,b=>
 if decide (b<(a.length:Int))then
 yG a b>>=fun x3=>
 if (x3.length:Int) != (a.length:Int)then
 none
 else
 aT d a b x3 0
 else
 some true
def aT:Nat->(List zU)->Int->zU->Int->Option Bool
 |0,_,_,_,_=>none
 |d+1,a,b,x3,c=>
 if decide (c<(x3.length:Int))then
 yG x3 c>>=fun x7=>
 if decide (x7<0)then
 none
 else
 if decide (x7>2)then
 none
 else
 aT d a b x3 (xE (c+1))
 else
 aS d a (xE (b+1))
end
def zBW(d:Nat)(a:List zU):Option Bool:=
 if decide ((a.length:Int)>24)then
 none
 else
 aS d a 0
theorem M9:∀d:Nat,(∀ {a b r},aS d a b=some r->(∀j,dL 0 (pt 4021 f258) (sp j 35 0 [(0,zH (yO zS) a .no),(10,zH (yO zS) a .no),(11,ai (a.length:Int)),(12,ai b)]) (⟨[],0,[],0,[]⟩) (fQ 0 (nQ 0 f258 (ab r) [] 0) [.blk 0,.seq (pt 63 f258)])))∧(∀ {a b x3 c r},aT d a b x3 c=some r->(∀j,dL 0 (pt 1054337013 f258) (sp j 35 0 [(0,zH (yO zS) a .no),(10,zH (yO zS) a .no),(11,ai (a.length:Int)),(12,ai b),(21,zH zS x3 .no),(22,ai (x3.length:Int)),(23,ai c)]) (⟨[],0,[],0,[]⟩) (fQ 0 (nQ 0 f258 (ab r) [] 0) [.blk 2,.blk 1,.seq (pt 257407 f258),.loop (pt 4021 f258),.blk 0,.seq (pt 63 f258)]))):=by
 intro d
 induction d with
 |zero=>
  exact⟨fun h=>nn h,fun h=>nn h⟩
 |succ d ih=>
  obtain⟨zJH,zBX⟩:=ih
  refine⟨?_,?_⟩
  intro a b r h
  rw[aS]at h
  obtain⟨h2,h⟩|⟨h2,h⟩:=xA h
  obtain⟨x3,h4,h⟩:=zD h
  have k:=oA 0 (U5 (o:=.no) h4)<|oB 0 h2 o0
  obtain⟨h5,h⟩:=zT h
  exact fun j=>lH 1 [] [] [] [0,10,11,12,21,22,23] (oD (dI x3)<|oD ((yP yL) a)<|oD ((yP yL) a)<|oB 3 h5 k) (zBX h)
  cases h
  exact fun j=>lF 0 [] (oB 0 h2 o0)
  intro a b x3 c r h
  rw[aT]at h
  obtain⟨h6,h⟩|⟨h6,h⟩:=xA h
  obtain⟨x7,h8,h⟩:=zD h
  have k:=oA 0 (sU (o:=.no) h8)<|oB 0 h6 o0
  obtain⟨h9,h⟩:=zT h
  have k:=oB 1 h9 k
  obtain⟨h10,h⟩:=zT h
  exact fun j=>lH 1 [] [] [] [0,10,11,12,21,22,23] (oD (dI x3)<|oD ((yP yL) a)<|oD ((yP yL) a)<|oB 0 h10 k) (zBX h)
  exact fun j=>lH 1 [] [] [] [0,10,11,12] (oD ((yP yL) a)<|oD ((yP yL) a)<|oB 0 h6 o0) (zJH h)
theorem zGh{d a r}(h:zBW d a=some r):Ct 258 [] [zH (yO zS) a .no] (ab r) [] 0:=⟨by
 unfold zBW at h
 obtain⟨h1,h⟩:=zT h
 exact tH ⟨func258,rfl⟩ 1 [] [] [] [0,10,11,12] (oD ((yP yL) a)<|oD ((yP yL) a)<|oB 1 h1 o0) ((M9 _).1 h),⟨⟨tv,(yP yL) _⟩,tv⟩,zB,tv,zB⟩
mutual
def aU:Nat->(List zU)->Int->List U8->Option ByteArray
 |0,_,_,_=>none
 |d+1,b,a,c=>
 if decide (a<(b.length:Int))then
 yG b a>>=fun x5=>
 if decide (a>0)then
 none
 else
 aV d b a x5 0 c
 else
 some (mS c)
def aV:Nat->(List zU)->Int->zU->Int->List U8->Option ByteArray
 |0,_,_,_,_,_=>none
 |d+1,b,a,x5,e,c=>
 if decide (e<(x5.length:Int))then
 yG x5 e>>=fun x11=>
 yG ([63,61,60]:List U8) x11>>=fun x13=>
 yV 1 c [x13]>>=fun l15=>
 aV d b a x5 (xE (e+1)) l15
 else
 aU d b (xE (a+1)) c
end
def zRa(d:Nat)(b:List zU):Option ByteArray:=
 zBW d b>>=fun r1=>
 if r1 then
 aU d b 0 []
 else
 none
theorem N0:∀d:Nat,(∀ {b a c r},aU d b a c=some r->(∀j,dL 0 (pt 16309 f352) (sp j 39 0 [(3,zH gK c (.st 0 1)),(11,zH (yO zS) b .no),(12,ai (b.length:Int)),(13,ai a)]) (⟨[],0,[0],1,[]⟩) (fQ 0 (nQ 0 f352 (at' r) [] 0) [.blk 0,.seq (pt 255 f352)])))∧(∀ {b a x5 e c r},aV d b a x5 e c=some r->(∀j,dL 0 (pt 4275562485 f352) (sp j 39 0 [(3,zH gK c (.st 0 1)),(11,zH (yO zS) b .no),(12,ai (b.length:Int)),(13,ai a),(23,zH zS x5 .no),(24,ai (x5.length:Int)),(25,ai e)]) (⟨[],0,[0],1,[]⟩) (fQ 0 (nQ 0 f352 (at' r) [] 0) [.blk 2,.blk 1,.seq (pt 1043839 f352),.loop (pt 16309 f352),.blk 0,.seq (pt 255 f352)]))):=by
 intro d
 induction d with
 |zero=>
  exact⟨fun h=>nn h,fun h=>nn h⟩
 |succ d ih=>
  obtain⟨zJI,zBY⟩:=ih
  refine⟨?_,?_⟩
  intro b a c r h
  rw[aU]at h
  obtain⟨h4,h⟩|⟨h4,h⟩:=xA h
  obtain⟨x5,h6,h⟩:=zD h
  have k:=oA 0 (U5 (o:=.no) h6)<|oB 0 h4 o0
  obtain⟨h7,h⟩:=zT h
  exact fun j=>lH 1 [] [] [0] [3,11,12,13,23,24,25] (oD (dI x5)<|oD ((yP yL) b)<|oD (dU c)<|oB 1 h7 k) (zBY h)
  cases h
  exact fun j=>lF 0 [] (oA 0 (rA c (o:=(.st 0 1)))<|oB 0 h4 o0)
  intro b a x5 e c r h
  rw[aV]at h
  obtain⟨h10,h⟩|⟨h10,h⟩:=xA h
  obtain⟨x11,h12,h⟩:=zD h
  obtain⟨x13,h14,h⟩:=zD h
  obtain⟨l15,h16,h⟩:=zD h
  exact fun j=>lH 1 [] [] [1] [3,11,12,13,23,24,25] (oD (dI x5)<|oD ((yP yL) b)<|oD (dU l15)<|oP 1 (zOD h16 (by simp))<|oA 1 (zHL h14 rfl)<|oA 0 (sU (o:=.no) h12)<|oB 0 h10 o0) (zBY h)
  exact fun j=>lH 1 [] [] [0] [3,11,12,13] (oD ((yP yL) b)<|oD (dU c)<|oB 0 h10 o0) (zJI h)
theorem zYd{d b r}(h:zRa d b=some r):Ct 352 [] [zH (yO zS) b .no] (at' r) [] 0:=⟨by
 unfold zRa at h
 obtain⟨r1,h2,h⟩:=zD h
 obtain⟨h3,h⟩:=xD h
 exact tH ⟨func352,rfl⟩ 2 [(none,3,1)] [] [0] [3,11,12,13] (oD ((yP yL) b)<|oD (dU ([]:List U8))<|oK 0 [] h3 (zGh h2) o0) ((N0 _).1 h),⟨⟨tv,(yP yL) _⟩,tv⟩,zB,tv,zB⟩
def aW:Nat->(List zU)->(List zU)->Int->Option (List zU)
 |0,_,_,_=>none
 |b+1,a,c,d=>
 if decide (d<(a.length:Int))then
 yG a d>>=fun x2=>
 yV 8 ([]:zU) x2>>=fun l4=>
 yV 24 c [l4]>>=fun l7=>
 aW b a l7 (xE (d+1))
 else
 some c
def zRA(b:Nat)(a:List zU):Option (List zU):=
 aW b a [] 0
theorem zNj:∀b:Nat,(∀ {a c d r},aW b a c d=some r->(∀j,dL 0 (pt 4021 f353) (sp j 20 0 [(3,zH (yO zS) c (.st 0 1)),(6,zH (yO zS) a .no),(7,ai (a.length:Int)),(8,ai d)]) (⟨[],0,[0],1,[]⟩) (fQ 0 (nQ 0 f353 (.sl (zF (yO zS) r) r.length .no) [] 0) [.blk 0,.seq (pt 63 f353)]))):=by
 intro b
 induction b with
 |zero=>
  exact fun h=>nn h
 |succ b ih=>
  intro a c d r h
  rw[aW]at h
  obtain⟨h1,h⟩|⟨h1,h⟩:=xA h
  obtain⟨x2,h3,h⟩:=zD h
  obtain⟨l4,h5,h⟩:=zD h
  have k:=oA 0 (U5 (o:=.no) h3)<|oB 0 h1 o0
  by_cases h6:List.length x2=0
  obtain⟨l7,h8,h⟩:=zD h
  exact fun j=>lH 1 [] [] [1] [3,6,7,8] (oD ((yP yL) a)<|oD ((yP yL) l7)<|oP 1 (zCU h8 (by simp))<|oP 2 (zAc h5 h6) k) (ih h)
  obtain⟨l7,h8,h⟩:=zD h
  exact fun j=>lH 1 [] [] [2] [3,6,7,8] (oD ((yP yL) a)<|oD ((yP yL) l7)<|oP 1 (zCU h8 (by simp))<|oP 2 (sG h5 h6) k) (ih h)
  obtain rfl:=sj h
  exact fun j=>lF 0 [] (oD ((yP yL) c)<|oB 0 h1 o0)
theorem zYc{b a r}(h:zRA b a=some r):Ct 353 [] [zH (yO zS) a .no] (.sl (zF (yO zS) r) r.length .no) [] 0:=⟨by
 unfold zRA at h
 exact tH ⟨func353,rfl⟩ 1 [(none,3,1)] [] [0] [3,6,7,8] (oD ((yP yL) a)<|oD ((yP yL) ([]:List zU)) o0) (zNj _ h),⟨⟨tv,(yP yL) _⟩,tv⟩,zB,(yP yL) _,zB⟩
def fY(d:Nat)(b:List (List zU))(a:List (ByteArray×Int))(c:List zU):Option (Bool×List (List zU)×(List (ByteArray×Int))):=
 zRa d c>>=fun r1=>
 if decide ((cB a r1)>0)then
 some (true,b,a)
 else
 zRA d c>>=fun r4=>
 yV 24 b [r4]>>=fun l6=>
 some (decide ((l6.length:Int)≤256),l6,(cC a r1 (xE ((cB a r1)+1))))
theorem zBZ:Qf 259 f259:=⟨func259,rfl⟩
theorem zCz{d b a c r}(h:fY d b a c=some r):Ct 259 [.cells [.ms 1 0 b.length b.length 1,.obj 2],.row (zF (yO (yO zS)) b),lQ a] [.mp 0 0,zH (yO zS) c .no] (ab r.1) [.cells [.ms 3 0 r.2.1.length r.2.1.length 1,.obj 2],.dead,lQ r.2.2,.row (zF (yO (yO zS)) r.2.1)] 0:=⟨by
 unfold fY at h
 obtain⟨r1,h2,h⟩:=zD h
 have k:=oL 1 (zAA a r1)<|oC 0 [] (zYd h2) o0
 obtain⟨h3,h⟩|⟨h3,h⟩:=xA h
 cases h
 exact tG zBZ 0 [(some 1,0,0)] [0,1,2,3] [] false (oD ((yP (xQ yL)) b)<|oB 0 h3 k)
 obtain⟨r4,h5,h⟩:=zD h
 obtain⟨l6,h7,h⟩:=zD h
 cases h
 exact tF zBZ 4 [0,1,2,3] (oD ((yP (xQ yL)) l6)<|oM 1 (zOc h7 (by simp))<|oC 0 [] (zYc h5)<|rF 0<|oU 1 (zNS a r1 (xE ((cB a r1)+1)))<|oL 1 (zAA a r1)<|oB 0 h3 k),⟨(lz rfl),⟨tv,(yP yL) _⟩,tv⟩,(zA ⟨(lz rfl),(lz rfl),tv⟩ (zA ((yP (xQ yL)) _) (zA tv zB))),tv,(zA ⟨(lz rfl),(lz rfl),tv⟩ (zA tv (zA tv (zA ((yP (xQ yL)) _) zB))))⟩
open Go.RowKit
structure zVA (w W:World):Prop where
 os:W.os=w.os
 tape:W.tape=w.tape
 output:W.output=w.output
 block:∀k,k<w.heap.size->W.heap[k]? = w.heap[k]?
 row:W.heap[w.heap.size]? = some (.cells #[.int .i64 1] 3 (0,0))
open Classical in
theorem pS{P:Program}{c:Code}{Q:Exit->Act->World->Prop}{a:Act}{w:World}(h:c.wp P (Exit.then (fun a' w'=>c.wp P (Exit.then (fun _ _=>False) Q) a' w') Q) a w):(Code.loop c).wp P Q a w:=by
 refine wp_loop (fun a' w'=>(a'=a∧w'=w)∨c.wp P (Exit.then (fun _ _=>False) Q) a' w') (fun a' w'=>if c.wp P (Exit.then (fun _ _=>False) Q) a' w' then 0 else 1) (.inl ⟨rfl,rfl⟩) ?_
 intro a1 w1 hI
 by_cases hc:c.wp P (Exit.then (fun _ _=>False) Q) a1 w1
 ·exact wp_mono hc (fun e a w q=>by cases e<;>first|exact q|exact q.elim)
 ·rcases hI with⟨rfl,rfl⟩|hI
  ·refine wp_mono h (fun e a2 w2 q=>?_)
   cases e with
   |normal=>
    have q':c.wp P (Exit.then (fun _ _=>False) Q) a2 w2:=q
    exact⟨.inr q',by rw[if_pos q',if_neg hc];decide⟩
   |_=>exact q
  ·exact absurd hI hc
theorem zGg(a b c:Int)(w:World):(Instr.build 506 #[(0,.int .i64 a),(1,.int .i64 b),(2,.int .i64 c)]).run prog w = .ok (.agg #[.int .i64 a,.int .i64 b,.int .i64 c]) w:=by
 simp[Instr.build,go_sem]
theorem zGf(w:World)(a1 a2 a3 b1 b2 b3 c1 c2 c3:Int):(Instr.build 507 #[(0,.agg #[.int .i64 a1,.int .i64 a2,.int .i64 a3]),(1,.agg #[.int .i64 b1,.int .i64 b2,.int .i64 b3]),(2,.agg #[.int .i64 c1,.int .i64 c2,.int .i64 c3])]).run prog w = .ok (.agg #[.int .i64 a1,.int .i64 a2,.int .i64 a3,.int .i64 b1,.int .i64 b2,.int .i64 b3,.int .i64 c1,.int .i64 c2,.int .i64 c3]) w:=by
 simp[Instr.build,go_sem]
theorem zGe(a1 a2 a3 b1 b2 b3 c1 c2 c3:Int)(w:World):(Instr.index 507 (.agg #[.int .i64 a1,.int .i64 a2,.int .i64 a3,.int .i64 b1,.int .i64 b2,.int .i64 b3,.int .i64 c1,.int .i64 c2,.int .i64 c3]) (.int .i64 1)).run prog w = .ok (.agg #[.int .i64 b1,.int .i64 b2,.int .i64 b3]) w:=by
 simp[Instr.index,go_sem]
theorem zGd(a1 a2 a3:Int)(w:World):(Instr.index 506 (.agg #[.int .i64 a1,.int .i64 a2,.int .i64 a3]) (.int .i64 1)).run prog w = .ok (.int .i64 a2) w:=by
 simp[Instr.index,go_sem]
set_option maxRecDepth 100000 in
set_option maxHeartbeats 3200000 in
theorem zJJ(w:World):Calls prog 354 #[.int .i64 1,.int .i64 1] w fun e w'=>e = .returned (.int .i64 1)∧w'=w:=by
 have hb1:=zGg
 have hb2:=zGf
 have hi1:=zGd
 have hi2:=zGe
 go_enter func354,Tryz.ntmps354
 go_wp2
 first|go_end0|go_ret
 exact⟨rfl,rfl⟩
set_option maxRecDepth 100000 in
set_option maxHeartbeats 3200000 in
theorem zDj(ba oa bb ob:Nat)(ca cb:Nat)(b1 o1 b2 o2:Nat)(da db:Nat)(w:World)(ha:w.cell? ⟨ba,oa,none⟩=some (.slice (some ⟨b1,o1,none⟩) 1 da))(hb:w.cell? ⟨bb,ob,none⟩=some (.slice (some ⟨b2,o2,none⟩) 1 db))(hqa:w.cell? ⟨b1,o1,none⟩=some (.int .i64 1))(hqb:w.cell? ⟨b2,o2,none⟩=some (.int .i64 1)) :
  Calls prog 260 #[.slice (some ⟨ba,oa,none⟩) 1 ca,.slice (some ⟨bb,ob,none⟩) 1 cb] w fun e w'=>∃(cap:Nat) (rest:Array Value),e = .returned (.slice (some ⟨w.heap.size+1+1,0,none⟩) 1 cap)∧1≤cap∧w'.os=w.os∧w'.tape=w.tape∧w'.output=w.output∧w.heap.size≤w'.heap.size∧(∀k,k<w.heap.size->w'.heap[k]? = w.heap[k]?)∧w'.heap[w.heap.size]? = some (.cells #[.int .i64 1] 3 (0,0))∧w'.heap[w.heap.size+1+1]? = some (.cells (#[.slice (some ⟨w.heap.size,0,none⟩) 1 1]++rest) 35 (0,0)):=by
 have hmk:∀w:World,(Instr.makeSlice 35 (.int .i64 1) (.int .i64 1)).run prog w = .ok (.slice (some ⟨w.heap.size,0,none⟩) 1 1) (w.alloc (.cells #[.int .i64 0] 3)):=fun w=>by
  have:=run_make (P:=prog) w 35 3 Tryz.t3 (.int .i64 0) Tryz.underlying35 (by kernel_rfl) (by kernel_rfl) .i64 .i64 1 1 (by omega) (Int.le_refl _) (by
   have:(Tryz.t3.bytes:Int)=8:=by kernel_rfl
   omega) (by omega)
  rw[this]
  have e:madeCells (Value.int .i64 0).cells ((1:Int).toNat*Tryz.t3.size) = #[.int .i64 0]:=by kernel_rfl
  rw[e];rfl
 have k1:ba<w.heap.size:=World.block_lt_of_cell? w ⟨ba,oa,none⟩ ha
 have k2:bb<w.heap.size:=World.block_lt_of_cell? w ⟨bb,ob,none⟩ hb
 have k3:b1<w.heap.size:=World.block_lt_of_cell? w ⟨b1,o1,none⟩ hqa
 have k4:b2<w.heap.size:=World.block_lt_of_cell? w ⟨b2,o2,none⟩ hqb
 obtain⟨W1,hW1⟩:∃W1,w.alloc (.cells #[.int .i64 0] 3)=W1:=⟨_,rfl⟩
 have ha1:W1.cell? ⟨ba,oa,none⟩=some (.slice (some ⟨b1,o1,none⟩) 1 da):=by rw[←hW1,World.cell?_alloc_lt _ _ _ k1];exact ha
 have hb1:W1.cell? ⟨bb,ob,none⟩=some (.slice (some ⟨b2,o2,none⟩) 1 db):=by rw[←hW1,World.cell?_alloc_lt _ _ _ k2];exact hb
 have hqa1:W1.cell? ⟨b1,o1,none⟩=some (.int .i64 1):=by rw[←hW1,World.cell?_alloc_lt _ _ _ k3];exact hqa
 have hqb1:W1.cell? ⟨b2,o2,none⟩=some (.int .i64 1):=by rw[←hW1,World.cell?_alloc_lt _ _ _ k4];exact hqb
 have hr1:W1.cell? ⟨w.heap.size,0,none⟩=some (.int .i64 0):=by rw[←hW1];simp
 have hf1:W1.frozen? ⟨w.heap.size,0,none⟩=false:=by rw[←hW1];simp
 have ha2:({ W1 with drawn:=W1.drawn+1 }:World).cell? ⟨ba,oa,none⟩=some (.slice (some ⟨b1,o1,none⟩) 1 da):=ha1
 have hb2:({ W1 with drawn:=W1.drawn+1 }:World).cell? ⟨bb,ob,none⟩=some (.slice (some ⟨b2,o2,none⟩) 1 db):=hb1
 have hqa2:({ W1 with drawn:=W1.drawn+1 }:World).cell? ⟨b1,o1,none⟩=some (.int .i64 1):=hqa1
 have hqb2:({ W1 with drawn:=W1.drawn+1 }:World).cell? ⟨b2,o2,none⟩=some (.int .i64 1):=hqb1
 have hr2:({ W1 with drawn:=W1.drawn+1 }:World).cell? ⟨w.heap.size,0,none⟩=some (.int .i64 0):=hr1
 have hf2:({ W1 with drawn:=W1.drawn+1 }:World).frozen? ⟨w.heap.size,0,none⟩=false:=hf1
 go_enter func260,Tryz.ntmps260
 go_wp2
 refine pS ?_
 go_wp2
 refine pS ?_
 go_wp2
 refine pS ?_
 go_wp2
 refine wp_region_still_tail 23 (by kernel_rfl) (by kernel_rfl) ?_
 simp only[List.take_succ_cons,List.take_zero,List.drop_succ_cons,List.drop_zero]
 repeat still_step
 still_call (zJJ _)
 repeat still_step
 try refine wpStill_nil ?_
 change wpList _ _ _ _ _ W1.drew
 clear ha2 hb2 hqa2 hqb2 hr2 hf2
 obtain⟨W2,hW2⟩:∃W2,W1.drew=W2:=⟨_,rfl⟩
 rw[hW2]
 have hr2:W2.cell? ⟨w.heap.size,0,none⟩=some (.int .i64 0):=by rw[←hW2,World.cell?_drew];exact hr1
 have hf2:W2.frozen? ⟨w.heap.size,0,none⟩=false:=by rw[←hW2,World.frozen?_drew];exact hf1
 have hs2:W2.heap.size=w.heap.size+1:=by rw[←hW2,←hW1];show (w.alloc _).heap.size=_;simp
 obtain⟨W3,hW3⟩:∃W3,W2.setCell ⟨w.heap.size,0,none⟩ (.int .i64 1)=W3:=⟨_,rfl⟩
 have hs3:W3.heap.size=w.heap.size+1:=by rw[←hW3,←hs2];simp
 have hr3:W3.heap[w.heap.size]? = some (.cells #[.int .i64 1] 3 (0,0)):=by
  have h2:W2.heap[w.heap.size]? = some (.cells #[.int .i64 0] 3 (0,0)):=by rw[←hW2,←hW1];exact World.alloc_heap_new w _
  rw[←hW3,heap_setCell_same W2 w.heap.size 0 _ 3 _ h2];rfl
 have ho3:∀k,k<w.heap.size->W3.heap[k]? = w.heap[k]?:=fun k hk=>by
  rw[←hW3]
  refine(Below.heap_setCell _ _ _ k (by show k≠w.heap.size;omega)).trans ?_
  rw[←hW2,←hW1];exact Below.heap_alloc w _ k hk
 have hP:zVA w W3:=⟨by rw[←hW3,←hW2,←hW1];rfl,by rw[←hW3,←hW2,←hW1];rfl,by rw[←hW3,←hW2,←hW1];rfl,ho3,hr3⟩
 clear ho3 hr3
 clear ha1 hb1 hqa1 hqb1 hr1 hf1
 go_wp2
 all_goals try (rename_i hbig;exact absurd hbig (by decide))
 have ht3:W3.tape=W2.tape:=by rw[←hW3];rfl
 have hd3:W3.drawn=W2.drawn:=by rw[←hW3];rfl
 have hmx:max (0:Int) 1=1:=by decide
 try simp only[hmx,hW3,ht3,hd3]
 obtain⟨zs,hzs⟩:∃zs,Builtin.zeroCells #[Value.slice none 0 0] ((Question.appendCap 1 0 35).cut (W2.tape W2.drawn (Question.appendCap 1 0 35))-1)=zs:=⟨_,rfl⟩
 rw[hzs]
 have hcap:1≤(Question.appendCap 1 0 35).cut (W2.tape W2.drawn (Question.appendCap 1 0 35)):=Nat.le_add_right _ _
 generalize (Question.appendCap 1 0 35).cut (W2.tape W2.drawn (Question.appendCap 1 0 35))=cap at *
 obtain⟨W4,hW4⟩:∃W4,W3.alloc (.cells #[.slice (some ⟨w.heap.size,0,none⟩) 1 1] 35)=W4:=⟨_,rfl⟩
 have hs4:W4.heap.size=w.heap.size+1+1:=by rw[←hW4];simp[hs3]
 rw[hW4]
 first|go_end0|go_ret
 refine⟨cap,zs,rfl,hcap,?_,?_,?_,?_,fun k hk=>?_,?_,?_⟩
 ·rw[←hP.os,←hW4];rfl
 ·rw[←hP.tape,←hW4];rfl
 ·rw[←hP.output,←hW4];rfl
 ·show _≤(W4.alloc _).heap.size
  simp[hs4];omega
 ·refine(Below.heap_alloc W4 _ k (by omega)).trans ?_
  rw[←hW4]
  exact(Below.heap_alloc W3 _ k (by omega)).trans (hP.block k hk)
 ·refine(Below.heap_alloc W4 _ _ (by omega)).trans ?_
  rw[←hW4]
  exact(Below.heap_alloc W3 _ _ (by omega)).trans hP.row
 ·have:=World.alloc_heap_new W4 (.cells (#[.slice (some ⟨w.heap.size,0,none⟩) 1 1]++zs) 35)
  rw[hs4]at this
  exact this
theorem zJK{G:Gh}{w:World}{u:Value}(h:V G w (.sl (zF (yO zS) [[1]]) 1 .no) u):∃(b o c b1 o1 d:Nat),u = .slice (some ⟨b,o,none⟩) 1 c∧w.cell? ⟨b,o,none⟩=some (.slice (some ⟨b1,o1,none⟩) 1 d)∧w.cell? ⟨b1,o1,none⟩=some (.int .i64 1):=by
 have e:zF (yO zS) [[1]]=[.sl [ai 1] 1 .no]:=rfl
 rw[e]at h
 simp only[V]at h
 obtain⟨c,-,⟨h1,-⟩|⟨b,o,rfl,hc,-⟩⟩:=h
 ·cases h1
 simp only[VC,V,and_true]at hc
 obtain⟨-,v,hv,d,-,⟨h1,-⟩|⟨b1,o1,rfl,hc1,-⟩⟩:=hc
 ·cases h1
 obtain⟨-,v1,hv1,rfl⟩:=hc1
 exact⟨b,o,c,b1,o1,d,rfl,hv,hv1⟩
theorem zRB:wZ prog 260 [] [.sl (zF (yO zS) [[1]]) 1 .no,.sl (zF (yO zS) [[1]]) 1 .no] (.sl (zF (yO zS) [[1]]) 1 .no) [] 0:=by
 intro G0 W cargs hB hR hv
 obtain⟨cl⟩:=cargs
 rcases cl with _|⟨u,_|⟨u2,_|⟨z,zs⟩⟩⟩
 ·exact hv.elim
 ·exact hv.2.elim
 ·obtain⟨hu,hu2,-⟩:=hv
  obtain⟨b,o,c,b1,o1,d,rfl,ha,hqa⟩:=zJK hu
  obtain⟨b',o',c',b2,o2,d',rfl,hb,hqb⟩:=zJK hu2
  refine(zDj b o b' o' c c' b1 o1 b2 o2 d d' W ha hb hqa hqb).mono ?_
  rintro e w' ⟨cap,rest,rfl,a0,a1,a2,a3,a4,a5,a6,a7⟩
  have hlt:W.heap.size+1+1<w'.heap.size:=(Array.getElem?_eq_some_iff.1 a7).1
  obtain⟨Wm,hWm⟩:∃Wm:World,{ w' with heap:=w'.heap.extract 0 (W.heap.size+1+1) } = Wm:=⟨_,rfl⟩
  have hsm:Wm.heap.size=W.heap.size+1+1:=by rw[←hWm];simp;omega
  have hom:∀k,k<W.heap.size+1+1->w'.heap[k]? = Wm.heap[k]?:=fun k hk=>by
   rw[←hWm]
   show _=(w'.heap.extract 0 (W.heap.size+1+1))[k]?
   rw[Array.getElem?_extract]
   simp;omega
  have h1:Wm.os=w'.os∧Wm.tape=w'.tape∧Wm.output=w'.output:=by rw[←hWm];exact⟨rfl,rfl,rfl⟩
  have hk1:wP (fun k=>k<W.heap.size) W Wm:=⟨h1.1.trans a1,h1.2.1.trans a2,h1.2.2.trans a3,by omega,fun k hk=>(hom k (by omega)).symm.trans (a5 k hk)⟩
  have hk2:wP (fun k=>k<Wm.heap.size) Wm w':=⟨h1.1.symm,h1.2.1.symm,h1.2.2.symm,by omega,fun k hk=>hom k (by omega)⟩
  obtain⟨hE1,hR1,hV1⟩:=hR.grown hk1 (Nat.le_refl _) [ai 1] [.int .i64 1] #[] 3 ⟨rfl,trivial⟩ ((hom _ (by omega)).symm.trans a6)
  have hs:V (G0.addL W.heap.size 0 1) Wm (.sl [ai 1] 1 .no) (.slice (some ⟨W.heap.size,0,none⟩) 1 1):=by
   simp only[V]
   exact⟨1,Nat.le_refl _,.inr ⟨_,0,rfl,hV1,trivial⟩⟩
  obtain⟨hE2,hR2,hV2⟩:=hR1.grown hk2 (B:=W.heap.size+1+1) (by omega) [.sl [ai 1] 1 .no] [.slice (some ⟨W.heap.size,0,none⟩) 1 1] rest 35 ⟨hs,trivial⟩ a7
  refine⟨_,_,gA [],rfl,hE1.trans hE2,hR2,?_,fun i X h=>by simp at h,fun k hk=>by omega⟩
  simp only[V]
  exact⟨cap,a0,.inr ⟨_,0,rfl,hV2,trivial⟩⟩
 ·exact hv.2.2.elim
theorem zVB:CT prog 260 [] [.sl (zF (yO zS) [[1]]) 1 .no,.sl (zF (yO zS) [[1]]) 1 .no] (.sl (zF (yO zS) [[1]]) 1 .no) [] 0:=
 ⟨zRB,⟨⟨trivial,yP yL _⟩,⟨trivial,yP yL _⟩,trivial⟩,fun _ h=>(nomatch h),yP yL _,fun _ h=>(nomatch h)⟩
def zNi(_qq:Nat)(a b:List zU):Option (List zU):=match a,b with
 | [[1]],[[1]]=>some [[1]]
 |_,_=>none
theorem zVC{c:Nat}{a b r:List zU}(h:zNi c a b=some r):CT prog 260 [] [.sl (zF (yO zS) a) a.length .no,.sl (zF (yO zS) b) b.length .no] (.sl (zF (yO zS) r) r.length .no) [] 0:=by
 unfold zNi at h
 split at h
 ·obtain rfl:=(Option.some.inj h).symm
  exact zVB
 ·cases h
mutual
def aX:Nat->(List (ByteArray×Int))->Int->(List (List zU))->Option (List (List zU)×Int)
 |0,_,_,_=>none
 |g+1,f,t,d=>
 if t != (d.length:Int)then
 aY g d f 0 d
 else
 gfz d.length d>>=fun l17=>
 some (l17,0)
def aY:Nat->(List (List zU))->(List (ByteArray×Int))->Int->(List (List zU))->Option (List (List zU)×Int)
 |0,_,_,_,_=>none
 |g+1,d,f,n,e=>
 if decide (n<(e.length:Int))then
 aZ g d n 0 e f
 else
 aX g f (d.length:Int) e
def aZ:Nat->(List (List zU))->Int->Int->(List (List zU))->(List (ByteArray×Int))->Option (List (List zU)×Int)
 |0,_,_,_,_,_=>none
 |g+1,d,n,p,e,f=>
 if decide (p<(e.length:Int))then
 uR e.length n>>=fun x19=>
 yG e (x19:Int)>>=fun x21=>
 uR e.length p>>=fun x23=>
 yG e (x23:Int)>>=fun x25=>
 zNi g x21 x25>>=fun r27=>
 fY g e f r27>>=fun r29=>
 if r29.1 then
 aZ g d n (xE (p+1)) r29.2.1 r29.2.2
 else
 none
 else
 aY g d f (xE (n+1)) e
end
def A0:Nat->(List (List zU))->Int->(List (List zU))->(List (ByteArray×Int))->Option (List (List zU)×Int)
 |0,_,_,_,_=>none
 |g+1,m,q,d,f=>
 if decide (q<(m.length:Int))then
 yG m q>>=fun x11=>
 fY g d f x11>>=fun r13=>
 if r13.1 then
 A0 g m (xE (q+1)) r13.2.1 r13.2.2
 else
 none
 else
 aX g f (-1) d
def A1:Nat->(List (List zU))->Int->Option (List (List zU)×Int)
 |0,_,_=>none
 |g+1,m,s=>
 if decide (s<(m.length:Int))then
 yG m s>>=fun x2=>
 zBW g x2>>=fun r4=>
 if r4 then
 yG m 0>>=fun x7=>
 if (x2.length:Int) != (x7.length:Int)then
 none
 else
 A1 g m (xE (s+1))
 else
 none
 else
 A0 g m 0 ([]:List (List zU)) ([]:List (ByteArray×Int))
def zNh(g:Nat)(m:List (List zU)):Option (List (List zU)×Int):=
 A1 g m 0
abbrev zYb (m:List (List zU)) (r:List (List zU)×Int) (C:Cf):Prop:=C 173 [] [zH (yO (yO zS)) m .no] (.tup [.ms 0 0 r.1.length r.1.length 1,ai r.2]) [.row (zF (yO (yO zS)) r.1)] 0
theorem mT:∀g:Nat,(∀ {f t d r},aX g f t d=some r->(∀j,dL 0 (pt 65461 f173) (sp j 97 0 [(6,.mp 0 0),(9,ai t)]) (⟨[(0,.cells [.ms 1 0 d.length d.length 1,.obj 2]),(1,.row (zF (yO (yO zS)) d)),(2,lQ f)],3,[],0,[]⟩) (fQ 0 (nQ 0 f173 (.tup [.ms 0 0 r.1.length r.1.length 1,ai r.2]) [.row (zF (yO (yO zS)) r.1)] 0) [.blk 4,.seq (pt 1023 f173)])))∧(∀ {d f n e r},aY g d f n e=some r->(∀j,dL 0 (pt 268131829 f173) (sp j 97 0 [(6,.mp 0 0),(9,ai (d.length:Int)),(10,ai n)]) (⟨[(0,.cells [.ms 1 0 e.length e.length 1,.obj 2]),(1,.row (zF (yO (yO zS)) e)),(2,lQ f)],3,[],0,[]⟩) (fQ 0 (nQ 0 f173 (.tup [.ms 0 0 r.1.length r.1.length 1,ai r.2]) [.row (zF (yO (yO zS)) r.1)] 0) [.blk 6,.blk 5,.loop (pt 65461 f173),.blk 4,.seq (pt 1023 f173)])))∧(∀ {d n p e f r},aZ g d n p e f=some r->(∀j,dL 0 (pt 1098267975285 f173) (sp j 97 0 [(6,.mp 0 0),(9,ai (d.length:Int)),(10,ai n),(11,ai p)]) (⟨[(0,.cells [.ms 1 0 e.length e.length 1,.obj 2]),(1,.row (zF (yO (yO zS)) e)),(2,lQ f)],3,[],0,[]⟩) (fQ 0 (nQ 0 f173 (.tup [.ms 0 0 r.1.length r.1.length 1,ai r.2]) [.row (zF (yO (yO zS)) r.1)] 0) [.blk 8,.blk 7,.seq (pt 4290109279 f173),.loop (pt 268131829 f173),.blk 6,.blk 5,.loop (pt 65461 f173),.blk 4,.seq (pt 1023 f173)]))):=by
 intro g
 induction g with
 |zero=>
  exact⟨fun h=>nn h,fun h=>nn h,fun h=>nn h⟩
 |succ g ih=>
  obtain⟨zJL,zCy,zCx⟩:=ih
  refine⟨?_,?_,?_⟩
  intro f t d r h
  rw[aX]at h
  obtain⟨h16,h⟩|⟨h16,h⟩:=xA h
  exact fun j=>lH 2 [] [0,1,2] [] [6,9,10] (oD ((yP (xQ yL)) d)<|oB 2 h16 o0) (zCy h)
  obtain⟨l17,h18,h⟩:=zD h
  obtain⟨h18a,h18b⟩:=tD h18
  cases h
  obtain rfl:=h18a.symm
  try dsimp only
  rw[←h18b]
  exact fun j=>lF 1 [1] (oD ((yP (xQ yL)) d)<|oB 2 h16 o0)
  intro d f n e r h
  rw[aY]at h
  obtain⟨h17,h⟩|⟨h17,h⟩:=xA h
  exact fun j=>lH 0 [] [0,1,2] [] [6,9,10,11] (oD ((yP (xQ yL)) e)<|oB 2 h17 o0) (zCx h)
  exact fun j=>lH 0 [] [0,1,2] [] [6,9] (oD ((yP (xQ yL)) e)<|oB 2 h17 o0) (zJL h)
  intro d n p e f r h
  rw[aZ]at h
  obtain⟨h18,h⟩|⟨h18,h⟩:=xA h
  obtain⟨x19,h20,h⟩:=zD h
  obtain⟨x21,h22,h⟩:=zD h
  obtain⟨x23,h24,h⟩:=zD h
  obtain⟨x25,h26,h⟩:=zD h
  obtain⟨r27,h28,h⟩:=zD h
  obtain⟨r29,h30,h⟩:=zD h
  have k:=oC 0 [] (zVC h28)<|oG (a:=(zH (yO zS) x25 .no)) 0 (U1 (xQ (xQ yL)) h26 (false,1) (val:=zH (yO zS) x25 .no) rfl)<|oA 1 (zHM (b:=1) (c:=List.length e) (z:=1) h24)<|oG (a:=(zH (yO zS) x21 .no)) 0 (U1 (xQ (xQ yL)) h22 (false,1) (val:=zH (yO zS) x21 .no) rfl)<|oA 1 (zHM (b:=1) (c:=List.length e) (z:=1) h20)<|oB 2 h18 o0
  obtain⟨h31,h⟩:=xD h
  exact fun j=>lH 2 [] [0,3,2] [] [6,9,10,11] (oD ((yP (xQ yL)) r29.2.1)<|oK 0 [0,1,2] h31 (zCz h30) k) (zCx h)
  exact fun j=>lH 1 [] [0,1,2] [] [6,9,10] (oD ((yP (xQ yL)) e)<|oB 2 h18 o0) (zCy h)
theorem zNg:∀g:Nat,(∀ {m q d f r},A0 g m q d f=some r->(∀j,dL 0 (pt 16309 f173) (sp j 97 0 [(6,.mp 0 0),(34,zH (yO (yO zS)) m .no),(35,ai (m.length:Int)),(36,ai q)]) (⟨[(0,.cells [.ms 1 0 d.length d.length 1,.obj 2]),(1,.row (zF (yO (yO zS)) d)),(2,lQ f)],3,[],0,[]⟩) (fQ 0 (nQ 0 f173 (.tup [.ms 0 0 r.1.length r.1.length 1,ai r.2]) [.row (zF (yO (yO zS)) r.1)] 0) [.blk 2,.seq (pt 255 f173)]))):=by
 intro g
 induction g with
 |zero=>
  exact fun h=>nn h
 |succ g ih=>
  intro m q d f r h
  rw[A0]at h
  obtain⟨h10,h⟩|⟨h10,h⟩:=xA h
  obtain⟨x11,h12,h⟩:=zD h
  obtain⟨r13,h14,h⟩:=zD h
  have k:=oA 0 (zEt (o:=.no) h12)<|oB 0 h10 o0
  obtain⟨h15,h⟩:=xD h
  exact fun j=>lH 2 [] [0,3,2] [] [6,34,35,36] (oD ((yP (xQ yL)) m)<|oD ((yP (xQ yL)) r13.2.1)<|oK 1 [0,1,2] h15 (zCz h14) k) (ih h)
  exact fun j=>lH 0 [] [0,1,2] [] [6,9] (oD ((yP (xQ yL)) d)<|oB 0 h10 o0) ((mT _).1 h)
theorem zNf:∀g:Nat,(∀ {m s r},A1 g m s=some r->(∀j,dL 0 (pt 949 f173) (sp j 97 0 [(0,zH (yO (yO zS)) m .no),(12,zH (yO (yO zS)) m .no),(13,ai (m.length:Int)),(14,ai s)]) (⟨[],0,[],0,[]⟩) (fQ 0 (nQ 0 f173 (.tup [.ms 0 0 r.1.length r.1.length 1,ai r.2]) [.row (zF (yO (yO zS)) r.1)] 0) [.blk 0,.seq (pt 15 f173)]))):=by
 intro g
 induction g with
 |zero=>
  exact fun h=>nn h
 |succ g ih=>
  intro m s r h
  rw[A1]at h
  obtain⟨h1,h⟩|⟨h1,h⟩:=xA h
  obtain⟨x2,h3,h⟩:=zD h
  obtain⟨r4,h5,h⟩:=zD h
  have k:=oA 0 (zEt (o:=.no) h3)<|oB 0 h1 o0
  obtain⟨h6,h⟩:=xD h
  obtain⟨x7,h8,h⟩:=zD h
  have k:=oA 2 (zEt (o:=.no) h8)<|oK 1 [] h6 (zGh h5) k
  obtain⟨h9,h⟩:=zT h
  exact fun j=>lH 1 [] [] [] [0,12,13,14] (oD ((yP (xQ yL)) m)<|oD ((yP (xQ yL)) m)<|oB 2 h9 k) (ih h)
  exact fun j=>lH 1 [(some 1,0,4097)] [1,2,0] [] [6,34,35,36] (oD ((yP (xQ yL)) m)<|oD ((yP (xQ yL)) ([]:List (List zU)))<|oB 0 h1 o0) (zNg _ h)
theorem zVD{g m r}(h:zNh g m=some r):zYb m r Ct:=by
 unfold zNh at h
 exact⟨tH ⟨func173,rfl⟩ 1 [] [] [] [0,12,13,14] (oD ((yP (xQ yL)) m)<|oD ((yP (xQ yL)) m) o0) (zNf _ h),⟨⟨tv,(yP (xQ yL)) _⟩,tv⟩,zB,⟨(lz rfl),tv,tv⟩,(zA ((yP (xQ yL)) _) zB)⟩
theorem zYa{g m r}(h:zNh g m=some r):CT prog 173 [] [zH (yO (yO zS)) m .no] (.tup [.sl (zF (yO (yO zS)) r.1) r.1.length .no,ai r.2]) [] 0:=by
 have k:=zVD h
 exact CT.freeze (H1:=[]) (cs:=zF (yO (yO zS)) r.1) (res':=(.tup [.sl (zF (yO (yO zS)) r.1) r.1.length .no,ai r.2])) k (Nat.le_of_ble_eq_true rfl) zB ((yP (xQ yL)) _) ⟨(.inl ⟨rfl,rfl⟩),trivial,tv⟩ (by rfl) rfl
def zRC(c:Nat)(a b:Int):Option Bool:=
 some (a==b)
theorem zYA{c a b r}(h:zRC c a b=some r):Ct 356 [] [ai a,ai b] (ab r) [] 0:=⟨by
 unfold zRC at h
 cases h
 exact tF ⟨func356,rfl⟩ 1 [] (o0),⟨tv,tv,tv⟩,zB,tv,zB⟩
mutual
def pE:Nat->(List zU)->(List zU)->Int->Option Bool
 |0,_,_,_=>none
 |d+1,b,c,a=>
 if decide (a<(b.length:Int))then
 pF d b c a 0
 else
 some true
def pF:Nat->(List zU)->(List zU)->Int->Int->Option Bool
 |0,_,_,_,_=>none
 |d+1,b,c,a,e=>
 if decide (e<(b.length:Int))then
 yG b a>>=fun x10=>
 yG x10 e>>=fun x12=>
 yG c a>>=fun x14=>
 yG x14 e>>=fun x16=>
 zRC d x12 x16>>=fun r18=>
 if r18 then
 pF d b c a (xE (e+1))
 else
 none
 else
 pE d b c (xE (a+1))
end
def N1(d:Nat)(b c:List zU):Option Bool:=
 zBW d b>>=fun r1=>
 if r1 then
 zBW d c>>=fun r4=>
 if r4 then
 if (b.length:Int) != (c.length:Int)then
 none
 else
 pE d b c 0
 else
 none
 else
 none
theorem mI:∀d:Nat,(∀ {b c a r},pE d b c a=some r->(∀j,dL 0 (pt 4021 f355) (sp j 53 0 [(0,zH (yO zS) b .no),(1,zH (yO zS) c .no),(2,.clo 356 [] []),(25,ai (b.length:Int)),(26,ai a)]) (⟨[],0,[],0,[]⟩) (fQ 0 (nQ 0 f355 (ab r) [] 0) [.blk 0,.seq (pt 63 f355)])))∧(∀ {b c a e r},pF d b c a e=some r->(∀j,dL 0 (pt 263584245 f355) (sp j 53 0 [(0,zH (yO zS) b .no),(1,zH (yO zS) c .no),(2,.clo 356 [] []),(7,ai a),(25,ai (b.length:Int)),(26,ai a),(30,ai (b.length:Int)),(31,ai e)]) (⟨[],0,[],0,[]⟩) (fQ 0 (nQ 0 f355 (ab r) [] 0) [.blk 2,.blk 1,.seq (pt 257407 f355),.loop (pt 4021 f355),.blk 0,.seq (pt 63 f355)]))):=by
 intro d
 induction d with
 |zero=>
  exact⟨fun h=>nn h,fun h=>nn h⟩
 |succ d ih=>
  obtain⟨o8,fZ⟩:=ih
  refine⟨?_,?_⟩
  intro b c a r h
  rw[pE]at h
  obtain⟨h8,h⟩|⟨h8,h⟩:=xA h
  exact fun j=>lH 1 [] [] [] [0,1,2,7,25,26,30,31] (oD ((yP yL) c)<|oD ((yP yL) b)<|oB 0 h8 o0) (fZ h)
  cases h
  exact fun j=>lF 0 [] (oB 0 h8 o0)
  intro b c a e r h
  rw[pF]at h
  obtain⟨h9,h⟩|⟨h9,h⟩:=xA h
  obtain⟨x10,h11,h⟩:=zD h
  obtain⟨x12,h13,h⟩:=zD h
  obtain⟨x14,h15,h⟩:=zD h
  obtain⟨x16,h17,h⟩:=zD h
  obtain⟨r18,h19,h⟩:=zD h
  have k:=oA 1 (sU (o:=.no) h17)<|oA 1 (U5 (o:=.no) h15)<|oA 1 (sU (o:=.no) h13)<|oA 0 (U5 (o:=.no) h11)<|oB 0 h9 o0
  obtain⟨h20,h⟩:=xD h
  exact fun j=>lH 2 [] [] [] [0,1,2,7,25,26,30,31] (oD ((yP yL) c)<|oD ((yP yL) b)<|oK 1 [] h20 (zYA h19) k) (fZ h)
  exact fun j=>lH 1 [] [] [] [0,1,2,25,26] (oD ((yP yL) c)<|oD ((yP yL) b)<|oB 0 h9 o0) (o8 h)
theorem zJM{d b c r}(h:N1 d b c=some r):Ct 355 [] [zH (yO zS) b .no,zH (yO zS) c .no,.clo 356 [] []] (ab r) [] 0:=⟨by
 unfold N1 at h
 obtain⟨r1,h2,h⟩:=zD h
 obtain⟨h3,h⟩:=xD h
 obtain⟨r4,h5,h⟩:=zD h
 have k:=oK 0 [] h3 (zGh h2) o0
 obtain⟨h6,h⟩:=xD h
 have k:=oK 1 [] h6 (zGh h5) k
 obtain⟨h7,h⟩:=zT h
 exact tH ⟨func355,rfl⟩ 1 [] [] [] [0,1,2,25,26] (oD ((yP yL) c)<|oD ((yP yL) b)<|oB 3 h7 k) ((mI _).1 h),⟨⟨tv,(yP yL) _⟩,⟨tv,(yP yL) _⟩,⟨tv,tv⟩,tv⟩,zB,tv,zB⟩
def zRD(c:Nat)(a b:List zU):Option Bool:=
 N1 c a b>>=fun r1=>
 some r1
theorem zYB{c a b r}(h:zRD c a b=some r):Ct 262 [] [zH (yO zS) a .no,zH (yO zS) b .no] (ab r) [] 0:=⟨by
 unfold zRD at h
 obtain⟨r1,h2,h⟩:=zD h
 obtain rfl:=sj h
 exact tF ⟨func262,rfl⟩ 0 [] (oC 0 [] (zJM h2) o0),⟨⟨tv,(yP yL) _⟩,⟨tv,(yP yL) _⟩,tv⟩,zB,tv,zB⟩
def zRE(b:Nat)(a:List zU):Option Bool:=
 zBW b a>>=fun r1=>
 if r1 then
 zNi b a a>>=fun r4=>
 zRD b r4 a>>=fun r6=>
 some r6
 else
 none
theorem zYC{b a r}(h:zRE b a=some r):Ct 176 [] [zH (yO zS) a .no] (ab r) [] 0:=⟨by
 unfold zRE at h
 obtain⟨r1,h2,h⟩:=zD h
 obtain⟨h3,h⟩:=xD h
 obtain⟨r4,h5,h⟩:=zD h
 obtain⟨r6,h7,h⟩:=zD h
 obtain rfl:=sj h
 exact tF ⟨func176,rfl⟩ 0 [] (oC 0 [] (zYB h7)<|oC 0 [] (zVC h5)<|oK 0 [] h3 (zGh h2) o0),⟨⟨tv,(yP yL) _⟩,tv⟩,zB,tv,zB⟩
def A2:Nat->(List zU)->Int->Option Bool
 |0,_,_=>none
 |b+1,a,c=>
 if decide (c<(a.length:Int))then
 yG a c>>=fun x5=>
 yG x5 c>>=fun x7=>
 if x7==2 then
 none
 else
 A2 b a (xE (c+1))
 else
 some false
def zRF(b:Nat)(a:List zU):Option Bool:=
 zBW b a>>=fun r1=>
 if r1 then
 A2 b a 0
 else
 none
theorem zNe:∀b:Nat,(∀ {a c r},A2 b a c=some r->(∀j,dL 0 (pt 4021 f177) (sp j 21 0 [(0,zH (yO zS) a .no),(8,ai (a.length:Int)),(9,ai c)]) (⟨[],0,[],0,[]⟩) (fQ 0 (nQ 0 f177 (ab r) [] 0) [.blk 0,.seq (pt 63 f177)]))):=by
 intro b
 induction b with
 |zero=>
  exact fun h=>nn h
 |succ b ih=>
  intro a c r h
  rw[A2]at h
  obtain⟨h4,h⟩|⟨h4,h⟩:=xA h
  obtain⟨x5,h6,h⟩:=zD h
  obtain⟨x7,h8,h⟩:=zD h
  have k:=oA 1 (sU (o:=.no) h8)<|oA 0 (U5 (o:=.no) h6)<|oB 0 h4 o0
  obtain⟨h9,h⟩:=zT h
  exact fun j=>lH 1 [] [] [] [0,8,9] (oD ((yP yL) a)<|oB 1 h9 k) (ih h)
  cases h
  exact fun j=>lF 0 [] (oB 0 h4 o0)
theorem zYD{b a r}(h:zRF b a=some r):Ct 177 [] [zH (yO zS) a .no] (ab r) [] 0:=⟨by
 unfold zRF at h
 obtain⟨r1,h2,h⟩:=zD h
 obtain⟨h3,h⟩:=xD h
 exact tH ⟨func177,rfl⟩ 2 [] [] [] [0,8,9] (oD ((yP yL) a)<|oK 0 [] h3 (zGh h2) o0) (zNe _ h),⟨⟨tv,(yP yL) _⟩,tv⟩,zB,tv,zB⟩
def zRG(b:Nat)(a:List zU):Option Bool:=
 zRE b a>>=fun r1=>
 if r1 then
 zRF b a>>=fun r4=>
 some (!r4)
 else
 none
theorem zYE{b a r}(h:zRG b a=some r):Ct 175 [] [zH (yO zS) a .no] (ab r) [] 0:=⟨by
 unfold zRG at h
 obtain⟨r1,h2,h⟩:=zD h
 obtain⟨h3,h⟩:=xD h
 obtain⟨r4,h5,h⟩:=zD h
 cases h
 exact tF ⟨func175,rfl⟩ 1 [] (oC 0 [] (zYD h5)<|oK 0 [] h3 (zYC h2) o0),⟨⟨tv,(yP yL) _⟩,tv⟩,zB,tv,zB⟩
def kP(b:Nat)(a:List (List zU))(c:Int):Option Int:=
 if decide (c<(a.length:Int))then
 yG a c>>=fun x2=>
 zRG b x2>>=fun r4=>
 if r4 then
 some c
 else
 none
 else
 some (-1)
def N2(b:Nat)(a:List (List zU)):Option Int:=
 kP b a 0
theorem zCw{b a c r}(h:kP b a c=some r):(∀j,dL 0 (pt 949 f261) (sp j 19 0 [(0,zH (yO (yO zS)) a .no),(1,.clo 175 [] []),(7,ai (a.length:Int)),(8,ai c)]) (⟨[],0,[],0,[]⟩) (fQ 0 (nQ 0 f261 (ai r) [] 0) [.blk 0,.seq (pt 15 f261)])):=by
 unfold kP at h
 obtain⟨h1,h⟩|⟨h1,h⟩:=xA h
 obtain⟨x2,h3,h⟩:=zD h
 obtain⟨r4,h5,h⟩:=zD h
 have k:=oA 0 (zEt (o:=.no) h3)<|oB 0 h1 o0
 obtain⟨h6,h⟩:=xD h
 obtain rfl:=sj h
 exact fun j=>lF 0 [] (oK 1 [] h6 (zYE h5) k)
 obtain rfl:=sj h
 exact fun j=>lF 0 [] (oB 0 h1 o0)
theorem zJN{b a r}(h:N2 b a=some r):Ct 261 [] [zH (yO (yO zS)) a .no,.clo 175 [] []] (ai r) [] 0:=⟨by
 unfold N2 at h
 exact tH ⟨func261,rfl⟩ 1 [] [] [] [0,1,7,8] (oD ((yP (xQ yL)) a) o0) (zCw h),⟨⟨tv,(yP (xQ yL)) _⟩,⟨tv,tv⟩,tv⟩,zB,tv,zB⟩
def N3(b:Nat)(a:List (List zU)):Option Bool:=
 N2 b a>>=fun r1=>
 some (decide (r1≥0))
theorem zJO{b a r}(h:N3 b a=some r):Ct 174 [] [zH (yO (yO zS)) a .no,.clo 175 [] []] (ab r) [] 0:=⟨by
 unfold N3 at h
 obtain⟨r1,h2,h⟩:=zD h
 cases h
 exact tF ⟨func174,rfl⟩ 1 [] (oC 0 [] (zJN h2) o0),⟨⟨tv,(yP (xQ yL)) _⟩,⟨tv,tv⟩,tv⟩,zB,tv,zB⟩
def zRH(a:Nat)(b:List (List zU)):Option (Bool×Int):=
 zNh a b>>=fun r1=>
 if r1.2 != 0 then
 none
 else
 N3 a r1.1>>=fun r4=>
 some (!r4,0)
theorem zYF{a b r}(h:zRH a b=some r):Ct 107 [] [zH (yO (yO zS)) b .no] (.tup [ab r.1,ai r.2]) [] 0:=⟨by
 unfold zRH at h
 obtain⟨r1,h2,h⟩:=zD h
 have k:=oC 0 [] (zYa h2) o0
 obtain⟨h3,h⟩:=zT h
 obtain⟨r4,h5,h⟩:=zD h
 cases h
 exact tF ⟨func107,rfl⟩ 1 [] (oC 0 [] (zJO h5)<|oB 2 h3 k),⟨⟨tv,(yP (xQ yL)) _⟩,tv⟩,zB,⟨tv,tv,tv⟩,zB⟩
def e53(b:Nat)(a:List (List zU)):Option Int:=
 zRH b a>>=fun r1=>
 if r1.1 then
 if r1.2==0 then
 some r1.2
 else
 none
 else
 if r1.2==0 then
 some 14
 else
 none
theorem q53:Qf 53 f53:=⟨func53,rfl⟩
theorem c53{b a r}(h:e53 b a=some r):Ct 53 [] [zH (yO (yO zS)) a .no] (ai r) [] 0:=⟨by
 unfold e53 at h
 obtain⟨r1,h2,h⟩:=zD h
 have k:=oC 0 [] (zYF h2) o0
 obtain⟨h3,h⟩|⟨h3,h⟩:=xA h
 have k:=oB 0 h3 k
 obtain⟨h4,h⟩:=xD h
 obtain rfl:=sj h
 exact tF q53 1 [] (oB 1 h4 k)
 have k:=oB 0 h3 k
 obtain⟨h5,h⟩:=xD h
 obtain rfl:=sj h
 exact tF q53 1 [] (oB 1 h5 k),⟨⟨tv,(yP (xQ yL)) _⟩,tv⟩,zB,tv,zB⟩
def mJ:Nat->yD->yD->yD->xS->zU->zU->Int->Int->ByteArray->List yJ->Int->Int->ByteArray->Int->List zO->List yJ->List xC->Int->Int->zW->Int->Int->zW->(List (List zK))->(List (List ByteArray))->List yM->Int->Int->Int->xN->zW->zW->List zY->Int->Int->zW->Int->(List (List zU))->Int->Int->Option (Int×Int)
 |0,_,_,_,_,_,_,_,_,_,_,_,_,_,_,_,_,_,_,_,_,_,_,_,_,_,_,_,_,_,_,_,_,_,_,_,_,_,_,_,_=>none
 |T+1,J,K,L,M,N,P,U,S,V,Q,D,E,F,G,s,t,d,H,I,e,w,y,f,a,b,c,z,i,A,g,m,n,p,B,C,q,R,Y,u,v=>
 if decide (R<(a.length:Int))then
 o7 T J e w y f a b c z i A g m n p B C q R>>=fun r2=>
 yG d R>>=fun x4=>
 uO T J K L M N P U S V Q D E F G s t d H I e w y f a b c z i A g m n p B C q u v r2.2 x4.body_.at_>>=fun r6=>
 if r6.1 then
 none
 else
 yV 24 Y r2.1>>=fun l9=>
 mJ T J K L M N P U S V Q D E F G s t d H I e w y f a b c z i A g m n p B C q (xE (R+1)) l9 r6.2.1 r6.2.2
 else
 e53 T Y>>=fun r12=>
 uO T J K L M N P U S V Q D E F G s t d H I e w y f a b c z i A g m n p B C q u v r12 S>>=fun r14=>
 some (r14.2.1,r14.2.2)
def o9(T:Nat)(J K L:yD)(M:xS)(N P:zU)(U S:Int)(V:ByteArray)(Q:List yJ)(D E:Int)(F:ByteArray)(G:Int)(s:List zO)(t:List yJ)(d:List xC)(H I:Int)(e:zW)(w y:Int)(f:zW)(a:List (List zK))(b:List (List ByteArray))(c:List yM)(z i A:Int)(g:xN)(m n:zW)(p:List zY)(B C:Int)(q:zW)(W X:Int):Option (Int×Int):=
 mJ T J K L M N P U S V Q D E F G s t d H I e w y f a b c z i A g m n p B C q 0 [] W X
theorem zDi:∀T:Nat,(∀ {J K L M N P U S V Q D E F G s t d H I e w y f a b c z i A g m n p B C q R Y u v r},mJ T J K L M N P U S V Q D E F G s t d H I e w y f a b c z i A g m n p B C q R Y u v=some r->(∀j,dL 7 (pt 949 Tryz.f34) (sp j 54 0 [(0,.mp 0 0),(2,zH (yO (yO zS)) Y (.st 0 1)),(11,ai (a.length:Int)),(12,ai R)]) (⟨[(0,.cells [zH yE J .no,.mp 1 0,ai U,ai S,at' V,zH zN Q .no,ai D,ai E,at' F,ai G,zH zR s .no,zH zN t .no,zH yH d .no,.mp 3 0,zH zC e .no,ai w,ai y,zH zC f .no,.ms 4 0 a.length a.length 1,.ms 5 0 b.length b.length 1,.ms 6 0 c.length c.length 4,ai z,ai i,ai A,zH zJ g .no,zH zC m .no,zH zC n .no,zH zV p .no,ai B,ai C,zH zC q .no,ai u,ai v]),(1,qB K 2 N P),(2,qR L M),(3,.cells [ai H,ai I]),(4,.row (zF (yO zI) a)),(5,.row (zF (yO xG) b)),(6,.row (zF zZ c))],7,[0],1,[]⟩) (fQ 7 (nQ 7 Tryz.f34 (.tup []) [.cells [zH yE J .no,.mp 1 0,ai U,ai S,at' V,zH zN Q .no,ai D,ai E,at' F,ai G,zH zR s .no,zH zN t .no,zH yH d .no,.mp 3 0,zH zC e .no,ai w,ai y,zH zC f .no,.ms 4 0 a.length a.length 1,.ms 5 0 b.length b.length 1,.ms 6 0 c.length c.length 4,ai z,ai i,ai A,zH zJ g .no,zH zC m .no,zH zC n .no,zH zV p .no,ai B,ai C,zH zC q .no,ai r.1,ai r.2],qB K 2 N P,qR L M,.cells [ai H,ai I],.row (zF (yO zI) a),.row (zF (yO xG) b),.row (zF zZ c)] 0) [.blk 0,.seq (pt 15 Tryz.f34)]))):=by
 intro T
 induction T with
 |zero=>
  exact fun h=>nn h
 |succ T ih=>
  intro J K L M N P U S V Q D E F G s t d H I e w y f a b c z i A g m n p B C q R Y u v r h
  rw[mJ]at h
  obtain⟨h1,h⟩|⟨h1,h⟩:=xA h
  obtain⟨r2,h3,h⟩:=zD h
  obtain⟨x4,h5,h⟩:=zD h
  obtain⟨r6,h7,h⟩:=zD h
  have k:=oA 3 (R3 (o:=.no) h5)<|oC 2 [4,5,6] (zNk h3)<|oB 0 h1 o0
  obtain⟨h8,h⟩:=zT h
  obtain⟨l9,h10,h⟩:=zD h
  have k:=oK 1 [0,1,2,3,4,5,6] h8 (uP h7) k
  by_cases h11:List.length r2.1=0
  exact fun j=>lH 1 [] [0,1,2,3,4,5,6] [0] [0,2,11,12] (oD ((yP (xQ yL)) l9)<|oD (zQ c)<|oD ((yP yN) b)<|oD ((yP zG) a)<|wS K L M N P<|oD (dT q)<|oD (zM p)<|oD (dT n)<|oD (dT m)<|oD (zE g)<|oD (dT f)<|oD (dT e)<|qJ J Q s t d<|oP 0 (zOd h10 h11) k) (ih h)
  exact fun j=>lH 1 [] [0,1,2,3,4,5,6] [1] [0,2,11,12] (oD ((yP (xQ yL)) l9)<|oD (zQ c)<|oD ((yP yN) b)<|oD ((yP zG) a)<|wS K L M N P<|oD (dT q)<|oD (zM p)<|oD (dT n)<|oD (dT m)<|oD (zE g)<|oD (dT f)<|oD (dT e)<|qJ J Q s t d<|oP 0 (zHA h10 h11) k) (ih h)
  obtain⟨r12,h13,h⟩:=zD h
  obtain⟨r14,h15,h⟩:=zD h
  cases h
  exact fun j=>lF 0 [0,1,2,3,4,5,6] (oD (zQ c)<|oD ((yP yN) b)<|oD ((yP zG) a)<|wS K L M N P<|oD (dT q)<|oD (zM p)<|oD (dT n)<|oD (dT m)<|oD (zE g)<|oD (dT f)<|oD (dT e)<|qJ J Q s t d<|oC 0 [0,1,2,3,4,5,6] (uP h15)<|rF 0<|oC 0 [] (c53 h13)<|oB 0 h1 o0)
theorem zNd{T J K L M N P U S V Q D E F G s t d H I e w y f a b c z i A g m n p B C q W X r}(h:o9 T J K L M N P U S V Q D E F G s t d H I e w y f a b c z i A g m n p B C q W X=some r):Ct 34 [.cells [zH yE J .no,.mp 1 0,ai U,ai S,at' V,zH zN Q .no,ai D,ai E,at' F,ai G,zH zR s .no,zH zN t .no,zH yH d .no,.mp 3 0,zH zC e .no,ai w,ai y,zH zC f .no,.ms 4 0 a.length a.length 1,.ms 5 0 b.length b.length 1,.ms 6 0 c.length c.length 4,ai z,ai i,ai A,zH zJ g .no,zH zC m .no,zH zC n .no,zH zV p .no,ai B,ai C,zH zC q .no,ai W,ai X],qB K 2 N P,qR L M,.cells [ai H,ai I],.row (zF (yO zI) a),.row (zF (yO xG) b),.row (zF zZ c)] [.mp 0 0] (.tup []) [.cells [zH yE J .no,.mp 1 0,ai U,ai S,at' V,zH zN Q .no,ai D,ai E,at' F,ai G,zH zR s .no,zH zN t .no,zH yH d .no,.mp 3 0,zH zC e .no,ai w,ai y,zH zC f .no,.ms 4 0 a.length a.length 1,.ms 5 0 b.length b.length 1,.ms 6 0 c.length c.length 4,ai z,ai i,ai A,zH zJ g .no,zH zC m .no,zH zC n .no,zH zV p .no,ai B,ai C,zH zC q .no,ai r.1,ai r.2],qB K 2 N P,qR L M,.cells [ai H,ai I],.row (zF (yO zI) a),.row (zF (yO xG) b),.row (zF zZ c)] 0:=⟨by
 unfold o9 at h
 exact tH ⟨func34,rfl⟩ 2 [(none,2,1)] [0,1,2,3,4,5,6] [0] [0,2,11,12] (oD ((yP (xQ yL)) ([]:List (List zU)))<|oD (zQ c)<|oD ((yP yN) b)<|oD ((yP zG) a)<|wS K L M N P<|oD (dT q)<|oD (zM p)<|oD (dT n)<|oD (dT m)<|oD (zE g)<|oD (dT f)<|oD (dT e)<|oD (yT d)<|oD (yC t)<|oD (zL s)<|oD (yC Q)<|oD (dE J) o0) (zDi _ h),⟨(lz rfl),tv⟩,(zA ⟨⟨tv,dE _⟩,(lz rfl),tv,tv,tv,⟨tv,yC _⟩,tv,tv,tv,tv,⟨tv,zL _⟩,⟨tv,yC _⟩,⟨tv,yT _⟩,(lz rfl),⟨tv,dT _⟩,tv,tv,⟨tv,dT _⟩,(lz rfl),(lz rfl),(lz rfl),tv,tv,tv,⟨tv,zE _⟩,⟨tv,dT _⟩,⟨tv,dT _⟩,⟨tv,zM _⟩,tv,tv,⟨tv,dT _⟩,tv,tv,tv⟩ (vY (lz rfl) (zA ⟨tv,tv,tv⟩ (zA ((yP zG) _) (zA ((yP yN) _) (zA (zQ _) zB)))))),tv,(zA ⟨dE _,(lz rfl),tv,tv,tv,yC _,tv,tv,tv,tv,zL _,yC _,yT _,(lz rfl),dT _,tv,tv,dT _,(lz rfl),(lz rfl),(lz rfl),tv,tv,tv,zE _,dT _,dT _,zM _,tv,tv,dT _,tv,tv,tv⟩ (vQ (lz rfl) (zA ⟨tv,tv,tv⟩ (zA ((yP zG) _) (zA ((yP yN) _) (zA (zQ _) zB))))))⟩
def iV(I:Nat)(n p q:yD)(s:xS)(t u:zU)(C D:Int)(E:ByteArray)(v:List yJ)(d e:Int)(f:ByteArray)(g:Int)(a:List zO)(b:List yJ)(c:List xC)(r1:Int×Int×zW×Int×Int×Int×Int)(r4:zW×Int×Int×zW×Int×Int)(r7:List (List zK)×List (List ByteArray)×Int×Int)(r10:Int×Int×Int×xN×zW×zW×List zY×Int×Int×Int×Int)(r13:List yM×Int×Int)(r16:Int×Int×Int×Int)(r19:Int×Int):Option (zW×Int×Int×zW×List (List zK)×List (List ByteArray)×List yM×Int×Int×Int×xN×zW×zW×List zY×Int×Int×zW×Int×Int×Int×Int):=
 some (r4.1,r4.2.1,r4.2.2.1,r4.2.2.2.1,r7.1,r7.2.1,r13.1,r10.1,r10.2.1,r10.2.2.1,r10.2.2.2.1,r10.2.2.2.2.1,r10.2.2.2.2.2.1,r10.2.2.2.2.2.2.1,r1.1,r1.2.1,r1.2.2.1,r19.1,r19.2,r16.2.2.1,r16.2.2.2)
def iW(I:Nat)(n p q:yD)(s:xS)(t u:zU)(C D:Int)(E:ByteArray)(v:List yJ)(d e:Int)(f:ByteArray)(g:Int)(a:List zO)(b:List yJ)(c:List xC)(r1:Int×Int×zW×Int×Int×Int×Int)(r4:zW×Int×Int×zW×Int×Int)(r7:List (List zK)×List (List ByteArray)×Int×Int)(r10:Int×Int×Int×xN×zW×zW×List zY×Int×Int×Int×Int)(r13:List yM×Int×Int)(r16:Int×Int×Int×Int):Option (zW×Int×Int×zW×List (List zK)×List (List ByteArray)×List yM×Int×Int×Int×xN×zW×zW×List zY×Int×Int×zW×Int×Int×Int×Int):=
 o9 I n p q s t u C D E v d e f g a b c r16.2.2.1 r16.2.2.2 r4.1 r4.2.1 r4.2.2.1 r4.2.2.2.1 r7.1 r7.2.1 r13.1 r10.1 r10.2.1 r10.2.2.1 r10.2.2.2.1 r10.2.2.2.2.1 r10.2.2.2.2.2.1 r10.2.2.2.2.2.2.1 r1.1 r1.2.1 r1.2.2.1 r16.1 r16.2.1>>=fun r19=>
 if r19.1 != 0 then
 some (r4.1,r4.2.1,r4.2.2.1,r4.2.2.2.1,r7.1,r7.2.1,r13.1,r10.1,r10.2.1,r10.2.2.1,r10.2.2.2.1,r10.2.2.2.2.1,r10.2.2.2.2.2.1,r10.2.2.2.2.2.2.1,r1.1,r1.2.1,r1.2.2.1,r19.1,r19.2,r16.2.2.1,r16.2.2.2)
 else
 iV I n p q s t u C D E v d e f g a b c r1 r4 r7 r10 r13 r16 r19
def iX(I:Nat)(n p q:yD)(s:xS)(t u:zU)(C D:Int)(E:ByteArray)(v:List yJ)(d e:Int)(f:ByteArray)(g:Int)(a:List zO)(b:List yJ)(c:List xC)(r1:Int×Int×zW×Int×Int×Int×Int)(r4:zW×Int×Int×zW×Int×Int)(r7:List (List zK)×List (List ByteArray)×Int×Int)(r10:Int×Int×Int×xN×zW×zW×List zY×Int×Int×Int×Int)(r13:List yM×Int×Int):Option (zW×Int×Int×zW×List (List zK)×List (List ByteArray)×List yM×Int×Int×Int×xN×zW×zW×List zY×Int×Int×zW×Int×Int×Int×Int):=
 o6 I n p q s t u C D E v d e f g a b c r10.2.2.2.2.2.2.2.2.2.1 r10.2.2.2.2.2.2.2.2.2.2 r4.1 r4.2.1 r4.2.2.1 r4.2.2.2.1 r7.1 r7.2.1 r13.1 r10.1 r10.2.1 r10.2.2.1 r10.2.2.2.1 r10.2.2.2.2.1 r10.2.2.2.2.2.1 r10.2.2.2.2.2.2.1 r1.1 r1.2.1 r1.2.2.1 r13.2.1 r13.2.2>>=fun r16=>
 if r16.1 != 0 then
 none
 else
 iW I n p q s t u C D E v d e f g a b c r1 r4 r7 r10 r13 r16
def iY(I:Nat)(n p q:yD)(s:xS)(t u:zU)(C D:Int)(E:ByteArray)(v:List yJ)(d e:Int)(f:ByteArray)(g:Int)(a:List zO)(b:List yJ)(c:List xC)(m:List yM)(r1:Int×Int×zW×Int×Int×Int×Int)(r4:zW×Int×Int×zW×Int×Int)(r7:List (List zK)×List (List ByteArray)×Int×Int)(r10:Int×Int×Int×xN×zW×zW×List zY×Int×Int×Int×Int):Option (zW×Int×Int×zW×List (List zK)×List (List ByteArray)×List yM×Int×Int×Int×xN×zW×zW×List zY×Int×Int×zW×Int×Int×Int×Int):=
 o4 I n p q s t u C D E v d e f g a b c r10.2.2.2.2.2.2.2.2.2.1 r10.2.2.2.2.2.2.2.2.2.2 r4.1 r4.2.1 r4.2.2.1 r4.2.2.2.1 r7.1 r7.2.1 m r10.1 r10.2.1 r10.2.2.1 r10.2.2.2.1 r10.2.2.2.2.1 r10.2.2.2.2.2.1 r10.2.2.2.2.2.2.1 r1.1 r1.2.1 r1.2.2.1 r10.2.2.2.2.2.2.2.1 r10.2.2.2.2.2.2.2.2.1>>=fun r13=>
 if r13.2.1 != 0 then
 none
 else
 iX I n p q s t u C D E v d e f g a b c r1 r4 r7 r10 r13
def iZ(I:Nat)(n p q:yD)(s:xS)(t u:zU)(C D:Int)(E:ByteArray)(v:List yJ)(d e:Int)(f:ByteArray)(g:Int)(a:List zO)(b:List yJ)(c:List xC)(m:List yM)(F G H:Int)(z:xN)(i A:zW)(B:List zY)(r1:Int×Int×zW×Int×Int×Int×Int)(r4:zW×Int×Int×zW×Int×Int)(r7:List (List zK)×List (List ByteArray)×Int×Int):Option (zW×Int×Int×zW×List (List zK)×List (List ByteArray)×List yM×Int×Int×Int×xN×zW×zW×List zY×Int×Int×zW×Int×Int×Int×Int):=
 p9 I n p q s t u C D E v d e f g a b c r1.2.2.2.2.2.1 r1.2.2.2.2.2.2 r4.1 r4.2.1 r4.2.2.1 r4.2.2.2.1 r7.1 r7.2.1 m F G H z i A B r1.1 r1.2.1 r1.2.2.1 r7.2.2.1 r7.2.2.2>>=fun r10=>
 if r10.2.2.2.2.2.2.2.1 != 0 then
 some (r4.1,r4.2.1,r4.2.2.1,r4.2.2.2.1,r7.1,r7.2.1,m,r10.1,r10.2.1,r10.2.2.1,r10.2.2.2.1,r10.2.2.2.2.1,r10.2.2.2.2.2.1,r10.2.2.2.2.2.2.1,r1.1,r1.2.1,r1.2.2.1,r10.2.2.2.2.2.2.2.1,r10.2.2.2.2.2.2.2.2.1,r10.2.2.2.2.2.2.2.2.2.1,r10.2.2.2.2.2.2.2.2.2.2)
 else
 iY I n p q s t u C D E v d e f g a b c m r1 r4 r7 r10
def hD(I:Nat)(n p q:yD)(s:xS)(t u:zU)(C D:Int)(E:ByteArray)(v:List yJ)(d e:Int)(f:ByteArray)(g:Int)(a:List zO)(b:List yJ)(c:List xC)(w:List (List zK))(y:List (List ByteArray))(m:List yM)(F G H:Int)(z:xN)(i A:zW)(B:List zY)(r1:Int×Int×zW×Int×Int×Int×Int)(r4:zW×Int×Int×zW×Int×Int):Option (zW×Int×Int×zW×List (List zK)×List (List ByteArray)×List yM×Int×Int×Int×xN×zW×zW×List zY×Int×Int×zW×Int×Int×Int×Int):=
 u6 I n p q s t u C D E v d e f g a b c r1.2.2.2.2.2.1 r1.2.2.2.2.2.2 r4.1 r4.2.1 r4.2.2.1 r4.2.2.2.1 w y m F G H z i A B r1.1 r1.2.1 r1.2.2.1 r4.2.2.2.2.1 r4.2.2.2.2.2>>=fun r7=>
 if r7.2.2.1 != 0 then
 none
 else
 iZ I n p q s t u C D E v d e f g a b c m F G H z i A B r1 r4 r7
def hT(I:Nat)(n p q:yD)(s:xS)(t u:zU)(C D:Int)(E:ByteArray)(v:List yJ)(d e:Int)(f:ByteArray)(g:Int)(a:List zO)(b:List yJ)(c:List xC)(J:zW)(L M:Int)(K:zW)(w:List (List zK))(y:List (List ByteArray))(m:List yM)(F G H:Int)(z:xN)(i A:zW)(B:List zY)(r1:Int×Int×zW×Int×Int×Int×Int):Option (zW×Int×Int×zW×List (List zK)×List (List ByteArray)×List yM×Int×Int×Int×xN×zW×zW×List zY×Int×Int×zW×Int×Int×Int×Int):=
 w9 I n p q s t u C D E v d e f g a b c r1.2.2.2.2.2.1 r1.2.2.2.2.2.2 J L M K w y m F G H z i A B r1.1 r1.2.1 r1.2.2.1 r1.2.2.2.1 r1.2.2.2.2.1>>=fun r4=>
 if r4.2.2.2.2.1 != 0 then
 none
 else
 hD I n p q s t u C D E v d e f g a b c w y m F G H z i A B r1 r4
def hU(I:Nat)(n p q:yD)(s:xS)(t u:zU)(C D:Int)(E:ByteArray)(v:List yJ)(d e:Int)(f:ByteArray)(g:Int)(a:List zO)(b:List yJ)(c:List xC)(P Q:Int)(J:zW)(L M:Int)(K:zW)(w:List (List zK))(y:List (List ByteArray))(m:List yM)(F G H:Int)(z:xN)(i A:zW)(B:List zY)(R S:Int)(N:zW)(T U:Int):Option (zW×Int×Int×zW×List (List zK)×List (List ByteArray)×List yM×Int×Int×Int×xN×zW×zW×List zY×Int×Int×zW×Int×Int×Int×Int):=
 w8 I n p q s t u C D E v d e f g a b c P Q J L M K w y m F G H z i A B R S N T U>>=fun r1=>
 if r1.2.2.2.1 != 0 then
 none
 else
 hT I n p q s t u C D E v d e f g a b c J L M K w y m F G H z i A B r1
def n0(I:Nat)(n p q:yD)(s:xS)(t u:zU)(C D:Int)(E:ByteArray)(v:List yJ)(d e:Int)(f:ByteArray)(g:Int)(a:List zO)(b:List yJ)(c:List xC)(P Q:Int)(J:zW)(L M:Int)(K:zW)(w:List (List zK))(y:List (List ByteArray))(m:List yM)(F G H:Int)(z:xN)(i A:zW)(B:List zY)(R S:Int)(N:zW)(T U:Int):Option (zW×Int×Int×zW×List (List zK)×List (List ByteArray)×List yM×Int×Int×Int×xN×zW×zW×List zY×Int×Int×zW×Int×Int×Int×Int):=
 hU I n p q s t u C D E v d e f g a b c P Q J L M K w y m F G H z i A B R S N T U
theorem zDh{I n p q s t u C D E v d e f g a b c r1 r4 r7 r10 r13 r16 r19 r}(h:iV I n p q s t u C D E v d e f g a b c r1 r4 r7 r10 r13 r16 r19=some r):(∀j,dL 8 (pt 53 f27) (sp j 20 0 [(0,.mp 0 0),(6,.ms 7 0 7 7 1),(7,ai 7),(8,ai 7)]) (⟨[(0,.cells [zH yE n .no,.mp 1 0,ai C,ai D,at' E,zH zN v .no,ai d,ai e,at' f,ai g,zH zR a .no,zH zN b .no,zH yH c .no,.mp 3 0,zH zC r4.1 .no,ai r4.2.1,ai r4.2.2.1,zH zC r4.2.2.2.1 .no,.ms 8 0 r7.1.length r7.1.length 1,.ms 9 0 r7.2.1.length r7.2.1.length 1,.ms 10 0 r13.1.length r13.1.length 4,ai r10.1,ai r10.2.1,ai r10.2.2.1,zH zJ r10.2.2.2.1 .no,zH zC r10.2.2.2.2.1 .no,zH zC r10.2.2.2.2.2.1 .no,zH zV r10.2.2.2.2.2.2.1 .no,ai r1.1,ai r1.2.1,zH zC r1.2.2.1 .no,ai r19.1,ai r19.2]),(1,qB p 2 t u),(2,qR q s),(3,.cells [ai r16.2.2.1,ai r16.2.2.2]),(4,.dead),(5,.dead),(6,.dead),(7,.cells [.clo 28 [.mp 0 0] [],.clo 29 [.mp 0 0] [],.clo 30 [.mp 0 0] [],.clo 31 [.mp 0 0] [],.clo 32 [.mp 0 0] [],.clo 33 [.mp 0 0] [],.clo 34 [.mp 0 0] []]),(8,.row (zF (yO zI) r7.1)),(9,.row (zF (yO xG) r7.2.1)),(10,.row (zF zZ r13.1))],11,[],0,[]⟩) (fQ 8 (nQ 8 f27 (.tup []) [.cells [zH yE n .no,.mp 1 0,ai C,ai D,at' E,zH zN v .no,ai d,ai e,at' f,ai g,zH zR a .no,zH zN b .no,zH yH c .no,.mp 3 0,zH zC r.1 .no,ai r.2.1,ai r.2.2.1,zH zC r.2.2.2.1 .no,.ms 8 0 r.2.2.2.2.1.length r.2.2.2.2.1.length 1,.ms 9 0 r.2.2.2.2.2.1.length r.2.2.2.2.2.1.length 1,.ms 10 0 r.2.2.2.2.2.2.1.length r.2.2.2.2.2.2.1.length 4,ai r.2.2.2.2.2.2.2.1,ai r.2.2.2.2.2.2.2.2.1,ai r.2.2.2.2.2.2.2.2.2.1,zH zJ r.2.2.2.2.2.2.2.2.2.2.1 .no,zH zC r.2.2.2.2.2.2.2.2.2.2.2.1 .no,zH zC r.2.2.2.2.2.2.2.2.2.2.2.2.1 .no,zH zV r.2.2.2.2.2.2.2.2.2.2.2.2.2.1 .no,ai r.2.2.2.2.2.2.2.2.2.2.2.2.2.2.1,ai r.2.2.2.2.2.2.2.2.2.2.2.2.2.2.2.1,zH zC r.2.2.2.2.2.2.2.2.2.2.2.2.2.2.2.2.1 .no,ai r.2.2.2.2.2.2.2.2.2.2.2.2.2.2.2.2.2.1,ai r.2.2.2.2.2.2.2.2.2.2.2.2.2.2.2.2.2.2.1],qB p 2 t u,qR q s,.cells [ai r.2.2.2.2.2.2.2.2.2.2.2.2.2.2.2.2.2.2.2.1,ai r.2.2.2.2.2.2.2.2.2.2.2.2.2.2.2.2.2.2.2.2],.dead,.dead,.dead,.cells [.clo 28 [.mp 0 0] [],.clo 29 [.mp 0 0] [],.clo 30 [.mp 0 0] [],.clo 31 [.mp 0 0] [],.clo 32 [.mp 0 0] [],.clo 33 [.mp 0 0] [],.clo 34 [.mp 0 0] []],.row (zF (yO zI) r.2.2.2.2.1),.row (zF (yO xG) r.2.2.2.2.2.1),.row (zF zZ r.2.2.2.2.2.2.1)] 0) [.blk 0])):=by
 unfold iV at h
 cases h
 exact fun j=>lF 1 [0,1,2,3,4,5,6,7,8,9,10] (oD (zQ r13.1)<|oD ((yP yN) r7.2.1)<|oD ((yP zG) r7.1)<|wS p q s t u<|oD (dT r1.2.2.1)<|oD (zM r10.2.2.2.2.2.2.1)<|oD (dT r10.2.2.2.2.2.1)<|oD (dT r10.2.2.2.2.1)<|oD (zE r10.2.2.2.1)<|oD (dT r4.2.2.2.1)<|oD (dT r4.1)<|oD (yT c)<|oD (yC b)<|oD (zL a)<|oD (yC v)<|oD (dE n) o0)
theorem zDg{I n p q s t u C D E v d e f g a b c r1 r4 r7 r10 r13 r16 r}(h:iW I n p q s t u C D E v d e f g a b c r1 r4 r7 r10 r13 r16=some r):(∀j,dL 8 (pt 53 f27) (sp j 20 0 [(0,.mp 0 0),(6,.ms 7 0 7 7 1),(7,ai 7),(8,ai 6)]) (⟨[(0,.cells [zH yE n .no,.mp 1 0,ai C,ai D,at' E,zH zN v .no,ai d,ai e,at' f,ai g,zH zR a .no,zH zN b .no,zH yH c .no,.mp 3 0,zH zC r4.1 .no,ai r4.2.1,ai r4.2.2.1,zH zC r4.2.2.2.1 .no,.ms 8 0 r7.1.length r7.1.length 1,.ms 9 0 r7.2.1.length r7.2.1.length 1,.ms 10 0 r13.1.length r13.1.length 4,ai r10.1,ai r10.2.1,ai r10.2.2.1,zH zJ r10.2.2.2.1 .no,zH zC r10.2.2.2.2.1 .no,zH zC r10.2.2.2.2.2.1 .no,zH zV r10.2.2.2.2.2.2.1 .no,ai r1.1,ai r1.2.1,zH zC r1.2.2.1 .no,ai r16.1,ai r16.2.1]),(1,qB p 2 t u),(2,qR q s),(3,.cells [ai r16.2.2.1,ai r16.2.2.2]),(4,.dead),(5,.dead),(6,.dead),(7,.cells [.clo 28 [.mp 0 0] [],.clo 29 [.mp 0 0] [],.clo 30 [.mp 0 0] [],.clo 31 [.mp 0 0] [],.clo 32 [.mp 0 0] [],.clo 33 [.mp 0 0] [],.clo 34 [.mp 0 0] []]),(8,.row (zF (yO zI) r7.1)),(9,.row (zF (yO xG) r7.2.1)),(10,.row (zF zZ r13.1))],11,[],0,[]⟩) (fQ 8 (nQ 8 f27 (.tup []) [.cells [zH yE n .no,.mp 1 0,ai C,ai D,at' E,zH zN v .no,ai d,ai e,at' f,ai g,zH zR a .no,zH zN b .no,zH yH c .no,.mp 3 0,zH zC r.1 .no,ai r.2.1,ai r.2.2.1,zH zC r.2.2.2.1 .no,.ms 8 0 r.2.2.2.2.1.length r.2.2.2.2.1.length 1,.ms 9 0 r.2.2.2.2.2.1.length r.2.2.2.2.2.1.length 1,.ms 10 0 r.2.2.2.2.2.2.1.length r.2.2.2.2.2.2.1.length 4,ai r.2.2.2.2.2.2.2.1,ai r.2.2.2.2.2.2.2.2.1,ai r.2.2.2.2.2.2.2.2.2.1,zH zJ r.2.2.2.2.2.2.2.2.2.2.1 .no,zH zC r.2.2.2.2.2.2.2.2.2.2.2.1 .no,zH zC r.2.2.2.2.2.2.2.2.2.2.2.2.1 .no,zH zV r.2.2.2.2.2.2.2.2.2.2.2.2.2.1 .no,ai r.2.2.2.2.2.2.2.2.2.2.2.2.2.2.1,ai r.2.2.2.2.2.2.2.2.2.2.2.2.2.2.2.1,zH zC r.2.2.2.2.2.2.2.2.2.2.2.2.2.2.2.2.1 .no,ai r.2.2.2.2.2.2.2.2.2.2.2.2.2.2.2.2.2.1,ai r.2.2.2.2.2.2.2.2.2.2.2.2.2.2.2.2.2.2.1],qB p 2 t u,qR q s,.cells [ai r.2.2.2.2.2.2.2.2.2.2.2.2.2.2.2.2.2.2.2.1,ai r.2.2.2.2.2.2.2.2.2.2.2.2.2.2.2.2.2.2.2.2],.dead,.dead,.dead,.cells [.clo 28 [.mp 0 0] [],.clo 29 [.mp 0 0] [],.clo 30 [.mp 0 0] [],.clo 31 [.mp 0 0] [],.clo 32 [.mp 0 0] [],.clo 33 [.mp 0 0] [],.clo 34 [.mp 0 0] []],.row (zF (yO zI) r.2.2.2.2.1),.row (zF (yO xG) r.2.2.2.2.2.1),.row (zF zZ r.2.2.2.2.2.2.1)] 0) [.blk 0])):=by
 unfold iW at h
 obtain⟨r19,h20,h⟩:=zD h
 have k:=oC 3 [0,1,2,3,8,9,10] (zNd h20) o0
 obtain⟨h21,h⟩|⟨h21,h⟩:=xA h
 cases h
 exact fun j=>lF 0 [0,1,2,3,4,5,6,7,8,9,10] (oD (zQ r13.1)<|oD ((yP yN) r7.2.1)<|oD ((yP zG) r7.1)<|wS p q s t u<|oD (dT r1.2.2.1)<|oD (zM r10.2.2.2.2.2.2.1)<|oD (dT r10.2.2.2.2.2.1)<|oD (dT r10.2.2.2.2.1)<|oD (zE r10.2.2.2.1)<|oD (dT r4.2.2.2.1)<|oD (dT r4.1)<|qJ n v a b c<|oB 1 h21 k)
 exact fun j=>lH 1 [] [0,1,2,3,4,5,6,7,8,9,10] [] [0,6,7,8] (oD (zQ r13.1)<|oD ((yP yN) r7.2.1)<|oD ((yP zG) r7.1)<|wS p q s t u<|oD (dT r1.2.2.1)<|oD (zM r10.2.2.2.2.2.2.1)<|oD (dT r10.2.2.2.2.2.1)<|oD (dT r10.2.2.2.2.1)<|oD (zE r10.2.2.2.1)<|oD (dT r4.2.2.2.1)<|oD (dT r4.1)<|qJ n v a b c<|oB 1 h21 k) (zDh h)
theorem zDf{I n p q s t u C D E v d e f g a b c r1 r4 r7 r10 r13 r}(h:iX I n p q s t u C D E v d e f g a b c r1 r4 r7 r10 r13=some r):(∀j,dL 8 (pt 53 f27) (sp j 20 0 [(0,.mp 0 0),(6,.ms 7 0 7 7 1),(7,ai 7),(8,ai 5)]) (⟨[(0,.cells [zH yE n .no,.mp 1 0,ai C,ai D,at' E,zH zN v .no,ai d,ai e,at' f,ai g,zH zR a .no,zH zN b .no,zH yH c .no,.mp 3 0,zH zC r4.1 .no,ai r4.2.1,ai r4.2.2.1,zH zC r4.2.2.2.1 .no,.ms 8 0 r7.1.length r7.1.length 1,.ms 9 0 r7.2.1.length r7.2.1.length 1,.ms 10 0 r13.1.length r13.1.length 4,ai r10.1,ai r10.2.1,ai r10.2.2.1,zH zJ r10.2.2.2.1 .no,zH zC r10.2.2.2.2.1 .no,zH zC r10.2.2.2.2.2.1 .no,zH zV r10.2.2.2.2.2.2.1 .no,ai r1.1,ai r1.2.1,zH zC r1.2.2.1 .no,ai r13.2.1,ai r13.2.2]),(1,qB p 2 t u),(2,qR q s),(3,.cells [ai r10.2.2.2.2.2.2.2.2.2.1,ai r10.2.2.2.2.2.2.2.2.2.2]),(4,.dead),(5,.dead),(6,.dead),(7,.cells [.clo 28 [.mp 0 0] [],.clo 29 [.mp 0 0] [],.clo 30 [.mp 0 0] [],.clo 31 [.mp 0 0] [],.clo 32 [.mp 0 0] [],.clo 33 [.mp 0 0] [],.clo 34 [.mp 0 0] []]),(8,.row (zF (yO zI) r7.1)),(9,.row (zF (yO xG) r7.2.1)),(10,.row (zF zZ r13.1))],11,[],0,[]⟩) (fQ 8 (nQ 8 f27 (.tup []) [.cells [zH yE n .no,.mp 1 0,ai C,ai D,at' E,zH zN v .no,ai d,ai e,at' f,ai g,zH zR a .no,zH zN b .no,zH yH c .no,.mp 3 0,zH zC r.1 .no,ai r.2.1,ai r.2.2.1,zH zC r.2.2.2.1 .no,.ms 8 0 r.2.2.2.2.1.length r.2.2.2.2.1.length 1,.ms 9 0 r.2.2.2.2.2.1.length r.2.2.2.2.2.1.length 1,.ms 10 0 r.2.2.2.2.2.2.1.length r.2.2.2.2.2.2.1.length 4,ai r.2.2.2.2.2.2.2.1,ai r.2.2.2.2.2.2.2.2.1,ai r.2.2.2.2.2.2.2.2.2.1,zH zJ r.2.2.2.2.2.2.2.2.2.2.1 .no,zH zC r.2.2.2.2.2.2.2.2.2.2.2.1 .no,zH zC r.2.2.2.2.2.2.2.2.2.2.2.2.1 .no,zH zV r.2.2.2.2.2.2.2.2.2.2.2.2.2.1 .no,ai r.2.2.2.2.2.2.2.2.2.2.2.2.2.2.1,ai r.2.2.2.2.2.2.2.2.2.2.2.2.2.2.2.1,zH zC r.2.2.2.2.2.2.2.2.2.2.2.2.2.2.2.2.1 .no,ai r.2.2.2.2.2.2.2.2.2.2.2.2.2.2.2.2.2.1,ai r.2.2.2.2.2.2.2.2.2.2.2.2.2.2.2.2.2.2.1],qB p 2 t u,qR q s,.cells [ai r.2.2.2.2.2.2.2.2.2.2.2.2.2.2.2.2.2.2.2.1,ai r.2.2.2.2.2.2.2.2.2.2.2.2.2.2.2.2.2.2.2.2],.dead,.dead,.dead,.cells [.clo 28 [.mp 0 0] [],.clo 29 [.mp 0 0] [],.clo 30 [.mp 0 0] [],.clo 31 [.mp 0 0] [],.clo 32 [.mp 0 0] [],.clo 33 [.mp 0 0] [],.clo 34 [.mp 0 0] []],.row (zF (yO zI) r.2.2.2.2.1),.row (zF (yO xG) r.2.2.2.2.2.1),.row (zF zZ r.2.2.2.2.2.2.1)] 0) [.blk 0])):=by
 unfold iX at h
 obtain⟨r16,h17,h⟩:=zD h
 have k:=oC 3 [0,1,2,3,8,9,10] (zNo h17) o0
 obtain⟨h18,h⟩:=zT h
 exact fun j=>lH 1 [] [0,1,2,3,4,5,6,7,8,9,10] [] [0,6,7,8] (oD (zQ r13.1)<|oD ((yP yN) r7.2.1)<|oD ((yP zG) r7.1)<|wS p q s t u<|oD (dT r1.2.2.1)<|oD (zM r10.2.2.2.2.2.2.1)<|oD (dT r10.2.2.2.2.2.1)<|oD (dT r10.2.2.2.2.1)<|oD (zE r10.2.2.2.1)<|oD (dT r4.2.2.2.1)<|oD (dT r4.1)<|qJ n v a b c<|oB 1 h18 k) (zDg h)
theorem zDe{I n p q s t u C D E v d e f g a b c m r1 r4 r7 r10 r}(h:iY I n p q s t u C D E v d e f g a b c m r1 r4 r7 r10=some r):(∀j,dL 8 (pt 53 f27) (sp j 20 0 [(0,.mp 0 0),(6,.ms 7 0 7 7 1),(7,ai 7),(8,ai 4)]) (⟨[(0,.cells [zH yE n .no,.mp 1 0,ai C,ai D,at' E,zH zN v .no,ai d,ai e,at' f,ai g,zH zR a .no,zH zN b .no,zH yH c .no,.mp 3 0,zH zC r4.1 .no,ai r4.2.1,ai r4.2.2.1,zH zC r4.2.2.2.1 .no,.ms 8 0 r7.1.length r7.1.length 1,.ms 9 0 r7.2.1.length r7.2.1.length 1,.ms 10 0 m.length m.length 4,ai r10.1,ai r10.2.1,ai r10.2.2.1,zH zJ r10.2.2.2.1 .no,zH zC r10.2.2.2.2.1 .no,zH zC r10.2.2.2.2.2.1 .no,zH zV r10.2.2.2.2.2.2.1 .no,ai r1.1,ai r1.2.1,zH zC r1.2.2.1 .no,ai r10.2.2.2.2.2.2.2.1,ai r10.2.2.2.2.2.2.2.2.1]),(1,qB p 2 t u),(2,qR q s),(3,.cells [ai r10.2.2.2.2.2.2.2.2.2.1,ai r10.2.2.2.2.2.2.2.2.2.2]),(4,.dead),(5,.dead),(6,.dead),(7,.cells [.clo 28 [.mp 0 0] [],.clo 29 [.mp 0 0] [],.clo 30 [.mp 0 0] [],.clo 31 [.mp 0 0] [],.clo 32 [.mp 0 0] [],.clo 33 [.mp 0 0] [],.clo 34 [.mp 0 0] []]),(8,.row (zF (yO zI) r7.1)),(9,.row (zF (yO xG) r7.2.1)),(10,.row (zF zZ m))],11,[],0,[]⟩) (fQ 8 (nQ 8 f27 (.tup []) [.cells [zH yE n .no,.mp 1 0,ai C,ai D,at' E,zH zN v .no,ai d,ai e,at' f,ai g,zH zR a .no,zH zN b .no,zH yH c .no,.mp 3 0,zH zC r.1 .no,ai r.2.1,ai r.2.2.1,zH zC r.2.2.2.1 .no,.ms 8 0 r.2.2.2.2.1.length r.2.2.2.2.1.length 1,.ms 9 0 r.2.2.2.2.2.1.length r.2.2.2.2.2.1.length 1,.ms 10 0 r.2.2.2.2.2.2.1.length r.2.2.2.2.2.2.1.length 4,ai r.2.2.2.2.2.2.2.1,ai r.2.2.2.2.2.2.2.2.1,ai r.2.2.2.2.2.2.2.2.2.1,zH zJ r.2.2.2.2.2.2.2.2.2.2.1 .no,zH zC r.2.2.2.2.2.2.2.2.2.2.2.1 .no,zH zC r.2.2.2.2.2.2.2.2.2.2.2.2.1 .no,zH zV r.2.2.2.2.2.2.2.2.2.2.2.2.2.1 .no,ai r.2.2.2.2.2.2.2.2.2.2.2.2.2.2.1,ai r.2.2.2.2.2.2.2.2.2.2.2.2.2.2.2.1,zH zC r.2.2.2.2.2.2.2.2.2.2.2.2.2.2.2.2.1 .no,ai r.2.2.2.2.2.2.2.2.2.2.2.2.2.2.2.2.2.1,ai r.2.2.2.2.2.2.2.2.2.2.2.2.2.2.2.2.2.2.1],qB p 2 t u,qR q s,.cells [ai r.2.2.2.2.2.2.2.2.2.2.2.2.2.2.2.2.2.2.2.1,ai r.2.2.2.2.2.2.2.2.2.2.2.2.2.2.2.2.2.2.2.2],.dead,.dead,.dead,.cells [.clo 28 [.mp 0 0] [],.clo 29 [.mp 0 0] [],.clo 30 [.mp 0 0] [],.clo 31 [.mp 0 0] [],.clo 32 [.mp 0 0] [],.clo 33 [.mp 0 0] [],.clo 34 [.mp 0 0] []],.row (zF (yO zI) r.2.2.2.2.1),.row (zF (yO xG) r.2.2.2.2.2.1),.row (zF zZ r.2.2.2.2.2.2.1)] 0) [.blk 0])):=by
 unfold iY at h
 obtain⟨r13,h14,h⟩:=zD h
 have k:=oC 3 [0,1,2,3,8,9,10] (zNq h14) o0
 obtain⟨h15,h⟩:=zT h
 exact fun j=>lH 1 [] [0,1,2,3,4,5,6,7,8,9,11] [] [0,6,7,8] (oD (zQ r13.1)<|oD ((yP yN) r7.2.1)<|oD ((yP zG) r7.1)<|wS p q s t u<|oD (dT r1.2.2.1)<|oD (zM r10.2.2.2.2.2.2.1)<|oD (dT r10.2.2.2.2.2.1)<|oD (dT r10.2.2.2.2.1)<|oD (zE r10.2.2.2.1)<|oD (dT r4.2.2.2.1)<|oD (dT r4.1)<|qJ n v a b c<|oB 1 h15 k) (zDf h)
theorem zDd{I n p q s t u C D E v d e f g a b c m F G H z i A B r1 r4 r7 r}(h:iZ I n p q s t u C D E v d e f g a b c m F G H z i A B r1 r4 r7=some r):(∀j,dL 8 (pt 53 f27) (sp j 20 0 [(0,.mp 0 0),(6,.ms 7 0 7 7 1),(7,ai 7),(8,ai 3)]) (⟨[(0,.cells [zH yE n .no,.mp 1 0,ai C,ai D,at' E,zH zN v .no,ai d,ai e,at' f,ai g,zH zR a .no,zH zN b .no,zH yH c .no,.mp 3 0,zH zC r4.1 .no,ai r4.2.1,ai r4.2.2.1,zH zC r4.2.2.2.1 .no,.ms 8 0 r7.1.length r7.1.length 1,.ms 9 0 r7.2.1.length r7.2.1.length 1,.ms 10 0 m.length m.length 4,ai F,ai G,ai H,zH zJ z .no,zH zC i .no,zH zC A .no,zH zV B .no,ai r1.1,ai r1.2.1,zH zC r1.2.2.1 .no,ai r7.2.2.1,ai r7.2.2.2]),(1,qB p 2 t u),(2,qR q s),(3,.cells [ai r1.2.2.2.2.2.1,ai r1.2.2.2.2.2.2]),(4,.dead),(5,.dead),(6,.dead),(7,.cells [.clo 28 [.mp 0 0] [],.clo 29 [.mp 0 0] [],.clo 30 [.mp 0 0] [],.clo 31 [.mp 0 0] [],.clo 32 [.mp 0 0] [],.clo 33 [.mp 0 0] [],.clo 34 [.mp 0 0] []]),(8,.row (zF (yO zI) r7.1)),(9,.row (zF (yO xG) r7.2.1)),(10,.row (zF zZ m))],11,[],0,[]⟩) (fQ 8 (nQ 8 f27 (.tup []) [.cells [zH yE n .no,.mp 1 0,ai C,ai D,at' E,zH zN v .no,ai d,ai e,at' f,ai g,zH zR a .no,zH zN b .no,zH yH c .no,.mp 3 0,zH zC r.1 .no,ai r.2.1,ai r.2.2.1,zH zC r.2.2.2.1 .no,.ms 8 0 r.2.2.2.2.1.length r.2.2.2.2.1.length 1,.ms 9 0 r.2.2.2.2.2.1.length r.2.2.2.2.2.1.length 1,.ms 10 0 r.2.2.2.2.2.2.1.length r.2.2.2.2.2.2.1.length 4,ai r.2.2.2.2.2.2.2.1,ai r.2.2.2.2.2.2.2.2.1,ai r.2.2.2.2.2.2.2.2.2.1,zH zJ r.2.2.2.2.2.2.2.2.2.2.1 .no,zH zC r.2.2.2.2.2.2.2.2.2.2.2.1 .no,zH zC r.2.2.2.2.2.2.2.2.2.2.2.2.1 .no,zH zV r.2.2.2.2.2.2.2.2.2.2.2.2.2.1 .no,ai r.2.2.2.2.2.2.2.2.2.2.2.2.2.2.1,ai r.2.2.2.2.2.2.2.2.2.2.2.2.2.2.2.1,zH zC r.2.2.2.2.2.2.2.2.2.2.2.2.2.2.2.2.1 .no,ai r.2.2.2.2.2.2.2.2.2.2.2.2.2.2.2.2.2.1,ai r.2.2.2.2.2.2.2.2.2.2.2.2.2.2.2.2.2.2.1],qB p 2 t u,qR q s,.cells [ai r.2.2.2.2.2.2.2.2.2.2.2.2.2.2.2.2.2.2.2.1,ai r.2.2.2.2.2.2.2.2.2.2.2.2.2.2.2.2.2.2.2.2],.dead,.dead,.dead,.cells [.clo 28 [.mp 0 0] [],.clo 29 [.mp 0 0] [],.clo 30 [.mp 0 0] [],.clo 31 [.mp 0 0] [],.clo 32 [.mp 0 0] [],.clo 33 [.mp 0 0] [],.clo 34 [.mp 0 0] []],.row (zF (yO zI) r.2.2.2.2.1),.row (zF (yO xG) r.2.2.2.2.2.1),.row (zF zZ r.2.2.2.2.2.2.1)] 0) [.blk 0])):=by
 unfold iZ at h
 obtain⟨r10,h11,h⟩:=zD h
 have k:=oC 3 [0,1,2,3,8,9,10] (zNr h11) o0
 obtain⟨h12,h⟩|⟨h12,h⟩:=xA h
 cases h
 exact fun j=>lF 0 [0,1,2,3,4,5,6,7,8,9,10] (oD (zQ m)<|oD ((yP yN) r7.2.1)<|oD ((yP zG) r7.1)<|wS p q s t u<|oD (dT r1.2.2.1)<|oD (zM r10.2.2.2.2.2.2.1)<|oD (dT r10.2.2.2.2.2.1)<|oD (dT r10.2.2.2.2.1)<|oD (zE r10.2.2.2.1)<|oD (dT r4.2.2.2.1)<|oD (dT r4.1)<|qJ n v a b c<|oB 1 h12 k)
 exact fun j=>lH 1 [] [0,1,2,3,4,5,6,7,8,9,10] [] [0,6,7,8] (oD (zQ m)<|oD ((yP yN) r7.2.1)<|oD ((yP zG) r7.1)<|wS p q s t u<|oD (dT r1.2.2.1)<|oD (zM r10.2.2.2.2.2.2.1)<|oD (dT r10.2.2.2.2.2.1)<|oD (dT r10.2.2.2.2.1)<|oD (zE r10.2.2.2.1)<|oD (dT r4.2.2.2.1)<|oD (dT r4.1)<|qJ n v a b c<|oB 1 h12 k) (zDe h)
theorem zDc{I n p q s t u C D E v d e f g a b c w y m F G H z i A B r1 r4 r}(h:hD I n p q s t u C D E v d e f g a b c w y m F G H z i A B r1 r4=some r):(∀j,dL 8 (pt 53 f27) (sp j 20 0 [(0,.mp 0 0),(6,.ms 7 0 7 7 1),(7,ai 7),(8,ai 2)]) (⟨[(0,.cells [zH yE n .no,.mp 1 0,ai C,ai D,at' E,zH zN v .no,ai d,ai e,at' f,ai g,zH zR a .no,zH zN b .no,zH yH c .no,.mp 3 0,zH zC r4.1 .no,ai r4.2.1,ai r4.2.2.1,zH zC r4.2.2.2.1 .no,.ms 8 0 w.length w.length 1,.ms 9 0 y.length y.length 1,.ms 10 0 m.length m.length 4,ai F,ai G,ai H,zH zJ z .no,zH zC i .no,zH zC A .no,zH zV B .no,ai r1.1,ai r1.2.1,zH zC r1.2.2.1 .no,ai r4.2.2.2.2.1,ai r4.2.2.2.2.2]),(1,qB p 2 t u),(2,qR q s),(3,.cells [ai r1.2.2.2.2.2.1,ai r1.2.2.2.2.2.2]),(4,.dead),(5,.dead),(6,.dead),(7,.cells [.clo 28 [.mp 0 0] [],.clo 29 [.mp 0 0] [],.clo 30 [.mp 0 0] [],.clo 31 [.mp 0 0] [],.clo 32 [.mp 0 0] [],.clo 33 [.mp 0 0] [],.clo 34 [.mp 0 0] []]),(8,.row (zF (yO zI) w)),(9,.row (zF (yO xG) y)),(10,.row (zF zZ m))],11,[],0,[]⟩) (fQ 8 (nQ 8 f27 (.tup []) [.cells [zH yE n .no,.mp 1 0,ai C,ai D,at' E,zH zN v .no,ai d,ai e,at' f,ai g,zH zR a .no,zH zN b .no,zH yH c .no,.mp 3 0,zH zC r.1 .no,ai r.2.1,ai r.2.2.1,zH zC r.2.2.2.1 .no,.ms 8 0 r.2.2.2.2.1.length r.2.2.2.2.1.length 1,.ms 9 0 r.2.2.2.2.2.1.length r.2.2.2.2.2.1.length 1,.ms 10 0 r.2.2.2.2.2.2.1.length r.2.2.2.2.2.2.1.length 4,ai r.2.2.2.2.2.2.2.1,ai r.2.2.2.2.2.2.2.2.1,ai r.2.2.2.2.2.2.2.2.2.1,zH zJ r.2.2.2.2.2.2.2.2.2.2.1 .no,zH zC r.2.2.2.2.2.2.2.2.2.2.2.1 .no,zH zC r.2.2.2.2.2.2.2.2.2.2.2.2.1 .no,zH zV r.2.2.2.2.2.2.2.2.2.2.2.2.2.1 .no,ai r.2.2.2.2.2.2.2.2.2.2.2.2.2.2.1,ai r.2.2.2.2.2.2.2.2.2.2.2.2.2.2.2.1,zH zC r.2.2.2.2.2.2.2.2.2.2.2.2.2.2.2.2.1 .no,ai r.2.2.2.2.2.2.2.2.2.2.2.2.2.2.2.2.2.1,ai r.2.2.2.2.2.2.2.2.2.2.2.2.2.2.2.2.2.2.1],qB p 2 t u,qR q s,.cells [ai r.2.2.2.2.2.2.2.2.2.2.2.2.2.2.2.2.2.2.2.1,ai r.2.2.2.2.2.2.2.2.2.2.2.2.2.2.2.2.2.2.2.2],.dead,.dead,.dead,.cells [.clo 28 [.mp 0 0] [],.clo 29 [.mp 0 0] [],.clo 30 [.mp 0 0] [],.clo 31 [.mp 0 0] [],.clo 32 [.mp 0 0] [],.clo 33 [.mp 0 0] [],.clo 34 [.mp 0 0] []],.row (zF (yO zI) r.2.2.2.2.1),.row (zF (yO xG) r.2.2.2.2.2.1),.row (zF zZ r.2.2.2.2.2.2.1)] 0) [.blk 0])):=by
 unfold hD at h
 obtain⟨r7,h8,h⟩:=zD h
 have k:=oC 3 [0,1,2,3,8,9,10] (zMc h8) o0
 obtain⟨h9,h⟩:=zT h
 exact fun j=>lH 1 [] [0,1,2,3,4,5,6,7,11,12,10] [] [0,6,7,8] (oD (zQ m)<|oD ((yP yN) r7.2.1)<|oD ((yP zG) r7.1)<|wS p q s t u<|oD (dT r1.2.2.1)<|oD (zM B)<|oD (dT A)<|oD (dT i)<|oD (zE z)<|oD (dT r4.2.2.2.1)<|oD (dT r4.1)<|qJ n v a b c<|oB 1 h9 k) (zDd h)
theorem zDb{I n p q s t u C D E v d e f g a b c J L M K w y m F G H z i A B r1 r}(h:hT I n p q s t u C D E v d e f g a b c J L M K w y m F G H z i A B r1=some r):(∀j,dL 8 (pt 53 f27) (sp j 20 0 [(0,.mp 0 0),(6,.ms 7 0 7 7 1),(7,ai 7),(8,ai 1)]) (⟨[(0,.cells [zH yE n .no,.mp 1 0,ai C,ai D,at' E,zH zN v .no,ai d,ai e,at' f,ai g,zH zR a .no,zH zN b .no,zH yH c .no,.mp 3 0,zH zC J .no,ai L,ai M,zH zC K .no,.ms 8 0 w.length w.length 1,.ms 9 0 y.length y.length 1,.ms 10 0 m.length m.length 4,ai F,ai G,ai H,zH zJ z .no,zH zC i .no,zH zC A .no,zH zV B .no,ai r1.1,ai r1.2.1,zH zC r1.2.2.1 .no,ai r1.2.2.2.1,ai r1.2.2.2.2.1]),(1,qB p 2 t u),(2,qR q s),(3,.cells [ai r1.2.2.2.2.2.1,ai r1.2.2.2.2.2.2]),(4,.dead),(5,.dead),(6,.dead),(7,.cells [.clo 28 [.mp 0 0] [],.clo 29 [.mp 0 0] [],.clo 30 [.mp 0 0] [],.clo 31 [.mp 0 0] [],.clo 32 [.mp 0 0] [],.clo 33 [.mp 0 0] [],.clo 34 [.mp 0 0] []]),(8,.row (zF (yO zI) w)),(9,.row (zF (yO xG) y)),(10,.row (zF zZ m))],11,[],0,[]⟩) (fQ 8 (nQ 8 f27 (.tup []) [.cells [zH yE n .no,.mp 1 0,ai C,ai D,at' E,zH zN v .no,ai d,ai e,at' f,ai g,zH zR a .no,zH zN b .no,zH yH c .no,.mp 3 0,zH zC r.1 .no,ai r.2.1,ai r.2.2.1,zH zC r.2.2.2.1 .no,.ms 8 0 r.2.2.2.2.1.length r.2.2.2.2.1.length 1,.ms 9 0 r.2.2.2.2.2.1.length r.2.2.2.2.2.1.length 1,.ms 10 0 r.2.2.2.2.2.2.1.length r.2.2.2.2.2.2.1.length 4,ai r.2.2.2.2.2.2.2.1,ai r.2.2.2.2.2.2.2.2.1,ai r.2.2.2.2.2.2.2.2.2.1,zH zJ r.2.2.2.2.2.2.2.2.2.2.1 .no,zH zC r.2.2.2.2.2.2.2.2.2.2.2.1 .no,zH zC r.2.2.2.2.2.2.2.2.2.2.2.2.1 .no,zH zV r.2.2.2.2.2.2.2.2.2.2.2.2.2.1 .no,ai r.2.2.2.2.2.2.2.2.2.2.2.2.2.2.1,ai r.2.2.2.2.2.2.2.2.2.2.2.2.2.2.2.1,zH zC r.2.2.2.2.2.2.2.2.2.2.2.2.2.2.2.2.1 .no,ai r.2.2.2.2.2.2.2.2.2.2.2.2.2.2.2.2.2.1,ai r.2.2.2.2.2.2.2.2.2.2.2.2.2.2.2.2.2.2.1],qB p 2 t u,qR q s,.cells [ai r.2.2.2.2.2.2.2.2.2.2.2.2.2.2.2.2.2.2.2.1,ai r.2.2.2.2.2.2.2.2.2.2.2.2.2.2.2.2.2.2.2.2],.dead,.dead,.dead,.cells [.clo 28 [.mp 0 0] [],.clo 29 [.mp 0 0] [],.clo 30 [.mp 0 0] [],.clo 31 [.mp 0 0] [],.clo 32 [.mp 0 0] [],.clo 33 [.mp 0 0] [],.clo 34 [.mp 0 0] []],.row (zF (yO zI) r.2.2.2.2.1),.row (zF (yO xG) r.2.2.2.2.2.1),.row (zF zZ r.2.2.2.2.2.2.1)] 0) [.blk 0])):=by
 unfold hT at h
 obtain⟨r4,h5,h⟩:=zD h
 have k:=oC 3 [0,1,2,3,8,9,10] (zMh h5) o0
 obtain⟨h6,h⟩:=zT h
 exact fun j=>lH 1 [] [0,1,2,3,4,5,6,7,8,9,10] [] [0,6,7,8] (oD (zQ m)<|oD ((yP yN) y)<|oD ((yP zG) w)<|wS p q s t u<|oD (dT r1.2.2.1)<|oD (zM B)<|oD (dT A)<|oD (dT i)<|oD (zE z)<|oD (dT r4.2.2.2.1)<|oD (dT r4.1)<|qJ n v a b c<|oB 1 h6 k) (zDc h)
theorem zDa{I n p q s t u C D E v d e f g a b c P Q J L M K w y m F G H z i A B R S N T U r}(h:hU I n p q s t u C D E v d e f g a b c P Q J L M K w y m F G H z i A B R S N T U=some r):(∀j,dL 8 (pt 53 f27) (sp j 20 0 [(0,.mp 0 0),(6,.ms 7 0 7 7 1),(7,ai 7),(8,ai 0)]) (⟨[(0,.cells [zH yE n .no,.mp 1 0,ai C,ai D,at' E,zH zN v .no,ai d,ai e,at' f,ai g,zH zR a .no,zH zN b .no,zH yH c .no,.mp 3 0,zH zC J .no,ai L,ai M,zH zC K .no,.ms 8 0 w.length w.length 1,.ms 9 0 y.length y.length 1,.ms 10 0 m.length m.length 4,ai F,ai G,ai H,zH zJ z .no,zH zC i .no,zH zC A .no,zH zV B .no,ai R,ai S,zH zC N .no,ai T,ai U]),(1,qB p 2 t u),(2,qR q s),(3,.cells [ai P,ai Q]),(4,.dead),(5,.dead),(6,.dead),(7,.cells [.clo 28 [.mp 0 0] [],.clo 29 [.mp 0 0] [],.clo 30 [.mp 0 0] [],.clo 31 [.mp 0 0] [],.clo 32 [.mp 0 0] [],.clo 33 [.mp 0 0] [],.clo 34 [.mp 0 0] []]),(8,.row (zF (yO zI) w)),(9,.row (zF (yO xG) y)),(10,.row (zF zZ m))],11,[],0,[]⟩) (fQ 8 (nQ 8 f27 (.tup []) [.cells [zH yE n .no,.mp 1 0,ai C,ai D,at' E,zH zN v .no,ai d,ai e,at' f,ai g,zH zR a .no,zH zN b .no,zH yH c .no,.mp 3 0,zH zC r.1 .no,ai r.2.1,ai r.2.2.1,zH zC r.2.2.2.1 .no,.ms 8 0 r.2.2.2.2.1.length r.2.2.2.2.1.length 1,.ms 9 0 r.2.2.2.2.2.1.length r.2.2.2.2.2.1.length 1,.ms 10 0 r.2.2.2.2.2.2.1.length r.2.2.2.2.2.2.1.length 4,ai r.2.2.2.2.2.2.2.1,ai r.2.2.2.2.2.2.2.2.1,ai r.2.2.2.2.2.2.2.2.2.1,zH zJ r.2.2.2.2.2.2.2.2.2.2.1 .no,zH zC r.2.2.2.2.2.2.2.2.2.2.2.1 .no,zH zC r.2.2.2.2.2.2.2.2.2.2.2.2.1 .no,zH zV r.2.2.2.2.2.2.2.2.2.2.2.2.2.1 .no,ai r.2.2.2.2.2.2.2.2.2.2.2.2.2.2.1,ai r.2.2.2.2.2.2.2.2.2.2.2.2.2.2.2.1,zH zC r.2.2.2.2.2.2.2.2.2.2.2.2.2.2.2.2.1 .no,ai r.2.2.2.2.2.2.2.2.2.2.2.2.2.2.2.2.2.1,ai r.2.2.2.2.2.2.2.2.2.2.2.2.2.2.2.2.2.2.1],qB p 2 t u,qR q s,.cells [ai r.2.2.2.2.2.2.2.2.2.2.2.2.2.2.2.2.2.2.2.1,ai r.2.2.2.2.2.2.2.2.2.2.2.2.2.2.2.2.2.2.2.2],.dead,.dead,.dead,.cells [.clo 28 [.mp 0 0] [],.clo 29 [.mp 0 0] [],.clo 30 [.mp 0 0] [],.clo 31 [.mp 0 0] [],.clo 32 [.mp 0 0] [],.clo 33 [.mp 0 0] [],.clo 34 [.mp 0 0] []],.row (zF (yO zI) r.2.2.2.2.1),.row (zF (yO xG) r.2.2.2.2.2.1),.row (zF zZ r.2.2.2.2.2.2.1)] 0) [.blk 0])):=by
 unfold hU at h
 obtain⟨r1,h2,h⟩:=zD h
 have k:=oC 3 [0,1,2,3,8,9,10] (zMi h2) o0
 obtain⟨h3,h⟩:=zT h
 exact fun j=>lH 1 [] [0,1,2,3,4,5,6,7,8,9,10] [] [0,6,7,8] (oD (zQ m)<|oD ((yP yN) y)<|oD ((yP zG) w)<|wS p q s t u<|oD (dT r1.2.2.1)<|oD (zM B)<|oD (dT A)<|oD (dT i)<|oD (zE z)<|oD (dT K)<|oD (dT J)<|qJ n v a b c<|oB 1 h3 k) (zDb h)
theorem zNc{I n p q s t u C D E v d e f g a b c P Q J L M K w y m F G H z i A B R S N T U r}(h:n0 I n p q s t u C D E v d e f g a b c P Q J L M K w y m F G H z i A B R S N T U=some r):Ct 27 [.cells [zH yE n .no,.mp 1 0,ai C,ai D,at' E,zH zN v .no,ai d,ai e,at' f,ai g,zH zR a .no,zH zN b .no,zH yH c .no,.mp 3 0,zH zC J .no,ai L,ai M,zH zC K .no,.ms 4 0 w.length w.length 1,.ms 5 0 y.length y.length 1,.ms 6 0 m.length m.length 4,ai F,ai G,ai H,zH zJ z .no,zH zC i .no,zH zC A .no,zH zV B .no,ai R,ai S,zH zC N .no,ai T,ai U],qB p 2 t u,qR q s,.cells [ai P,ai Q],.row (zF (yO zI) w),.row (zF (yO xG) y),.row (zF zZ m),.cells [.clo 28 [.mp 0 0] [],.clo 29 [.mp 0 0] [],.clo 30 [.mp 0 0] [],.clo 31 [.mp 0 0] [],.clo 32 [.mp 0 0] [],.clo 33 [.mp 0 0] [],.clo 34 [.mp 0 0] []]] [.mp 0 0,.ms 7 0 7 7 1] (.tup []) [.cells [zH yE n .no,.mp 1 0,ai C,ai D,at' E,zH zN v .no,ai d,ai e,at' f,ai g,zH zR a .no,zH zN b .no,zH yH c .no,.mp 3 0,zH zC r.1 .no,ai r.2.1,ai r.2.2.1,zH zC r.2.2.2.1 .no,.ms 8 0 r.2.2.2.2.1.length r.2.2.2.2.1.length 1,.ms 9 0 r.2.2.2.2.2.1.length r.2.2.2.2.2.1.length 1,.ms 10 0 r.2.2.2.2.2.2.1.length r.2.2.2.2.2.2.1.length 4,ai r.2.2.2.2.2.2.2.1,ai r.2.2.2.2.2.2.2.2.1,ai r.2.2.2.2.2.2.2.2.2.1,zH zJ r.2.2.2.2.2.2.2.2.2.2.1 .no,zH zC r.2.2.2.2.2.2.2.2.2.2.2.1 .no,zH zC r.2.2.2.2.2.2.2.2.2.2.2.2.1 .no,zH zV r.2.2.2.2.2.2.2.2.2.2.2.2.2.1 .no,ai r.2.2.2.2.2.2.2.2.2.2.2.2.2.2.1,ai r.2.2.2.2.2.2.2.2.2.2.2.2.2.2.2.1,zH zC r.2.2.2.2.2.2.2.2.2.2.2.2.2.2.2.2.1 .no,ai r.2.2.2.2.2.2.2.2.2.2.2.2.2.2.2.2.2.1,ai r.2.2.2.2.2.2.2.2.2.2.2.2.2.2.2.2.2.2.1],qB p 2 t u,qR q s,.cells [ai r.2.2.2.2.2.2.2.2.2.2.2.2.2.2.2.2.2.2.2.1,ai r.2.2.2.2.2.2.2.2.2.2.2.2.2.2.2.2.2.2.2.2],.dead,.dead,.dead,.cells [.clo 28 [.mp 0 0] [],.clo 29 [.mp 0 0] [],.clo 30 [.mp 0 0] [],.clo 31 [.mp 0 0] [],.clo 32 [.mp 0 0] [],.clo 33 [.mp 0 0] [],.clo 34 [.mp 0 0] []],.row (zF (yO zI) r.2.2.2.2.1),.row (zF (yO xG) r.2.2.2.2.2.1),.row (zF zZ r.2.2.2.2.2.2.1)] 0:=⟨by
 unfold n0 at h
 exact tH ⟨func27,rfl⟩ 1 [(some 4,0,0),(some 5,0,0),(some 6,0,0)] [0,1,2,3,4,5,6,7,8,9,10] [] [0,6,7,8] (oD (zQ m)<|oD ((yP yN) y)<|oD ((yP zG) w)<|wS p q s t u<|oD (dT N)<|oD (zM B)<|oD (dT A)<|oD (dT i)<|oD (zE z)<|oD (dT K)<|oD (dT J)<|oD (yT c)<|oD (yC b)<|oD (zL a)<|oD (yC v)<|oD (dE n) o0) (zDa h),⟨(lz rfl),(lz rfl),tv⟩,(zA ⟨⟨tv,dE _⟩,(lz rfl),tv,tv,tv,⟨tv,yC _⟩,tv,tv,tv,tv,⟨tv,zL _⟩,⟨tv,yC _⟩,⟨tv,yT _⟩,(lz rfl),⟨tv,dT _⟩,tv,tv,⟨tv,dT _⟩,(lz rfl),(lz rfl),(lz rfl),tv,tv,tv,⟨tv,zE _⟩,⟨tv,dT _⟩,⟨tv,dT _⟩,⟨tv,zM _⟩,tv,tv,⟨tv,dT _⟩,tv,tv,tv⟩ (vY (lz rfl) (zA ⟨tv,tv,tv⟩ (zA ((yP zG) _) (zA ((yP yN) _) (zA (zQ _) (zA ⟨⟨⟨(lz rfl),tv⟩,tv⟩,⟨⟨(lz rfl),tv⟩,tv⟩,⟨⟨(lz rfl),tv⟩,tv⟩,⟨⟨(lz rfl),tv⟩,tv⟩,⟨⟨(lz rfl),tv⟩,tv⟩,⟨⟨(lz rfl),tv⟩,tv⟩,⟨⟨(lz rfl),tv⟩,tv⟩,tv⟩ zB))))))),tv,(zA ⟨dE _,(lz rfl),tv,tv,tv,yC _,tv,tv,tv,tv,zL _,yC _,yT _,(lz rfl),dT _,tv,tv,dT _,(lz rfl),(lz rfl),(lz rfl),tv,tv,tv,zE _,dT _,dT _,zM _,tv,tv,dT _,tv,tv,tv⟩ (vQ (lz rfl) (zA ⟨tv,tv,tv⟩ (zA tv (zA tv (zA tv (zA ⟨⟨⟨(lz rfl),tv⟩,tv⟩,⟨⟨(lz rfl),tv⟩,tv⟩,⟨⟨(lz rfl),tv⟩,tv⟩,⟨⟨(lz rfl),tv⟩,tv⟩,⟨⟨(lz rfl),tv⟩,tv⟩,⟨⟨(lz rfl),tv⟩,tv⟩,⟨⟨(lz rfl),tv⟩,tv⟩,tv⟩ (zA ((yP zG) _) (zA ((yP yN) _) (zA (zQ _) zB))))))))))⟩
def A3:Nat->zW->Int->Int->Int->Option Bool
 |0,_,_,_,_=>none
 |d+1,b,c,e,a=>
 if decide (a<(b.length:Int))then
 yG b a>>=fun x3=>
 if decide (c>1048576)then
 none
 else
 iP d x3 (xE (c+a)) e>>=fun r6=>
 if r6 then
 A3 d b c e (xE (a+1))
 else
 none
 else
 some true
def zRI(d:Nat)(b:zW)(c e:Int):Option Bool:=
 if decide ((b.length:Int)>24)then
 none
 else
 A3 d b c e 0
theorem zNb:∀d:Nat,(∀ {b c e a r},A3 d b c e a=some r->(∀j,dL 0 (pt 4021 f108) (sp j 31 0 [(1,ai c),(2,ai e),(12,zH zC b .no),(13,ai (b.length:Int)),(14,ai a)]) (⟨[],0,[],0,[]⟩) (fQ 0 (nQ 0 f108 (ab r) [] 0) [.blk 0,.seq (pt 63 f108)]))):=by
 intro d
 induction d with
 |zero=>
  exact fun h=>nn h
 |succ d ih=>
  intro b c e a r h
  rw[A3]at h
  obtain⟨h2,h⟩|⟨h2,h⟩:=xA h
  obtain⟨x3,h4,h⟩:=zD h
  have k:=oA 0 (wN (o:=.no) h4)<|oB 0 h2 o0
  obtain⟨h5,h⟩:=zT h
  obtain⟨r6,h7,h⟩:=zD h
  have k:=oB 2 h5 k
  obtain⟨h8,h⟩:=xD h
  exact fun j=>lH 2 [] [] [] [1,2,12,13,14] (oD (dT b)<|oK 2 [] h8 (eU h7) k) (ih h)
  cases h
  exact fun j=>lF 0 [] (oB 0 h2 o0)
theorem zYH{d b c e r}(h:zRI d b c e=some r):Ct 108 [] [zH zC b .no,ai c,ai e] (ab r) [] 0:=⟨by
 unfold zRI at h
 obtain⟨h1,h⟩:=zT h
 exact tH ⟨func108,rfl⟩ 1 [] [] [] [1,2,12,13,14] (oD (dT b)<|oB 1 h1 o0) (zNb _ h),⟨⟨tv,dT _⟩,tv,tv,tv⟩,zB,tv,zB⟩
def mK:Nat->yD->yD->xS->zU->zU->List yM->zW->Int->Option Bool
 |0,_,_,_,_,_,_,_,_=>none
 |q+1,e,f,g,m,p,d,s,t=>
 if decide (t<(s.length:Int))then
 yG s t>>=fun x27=>
 cG q (xR.mk e f g m p)>>=fun r29=>
 iP q x27 1048577 r29>>=fun r31=>
 if r31 then
 e62 q x27>>=fun r34=>
 if decide ((r34.length:Int)>0)then
 none
 else
 mK q e f g m p d s (xE (t+1))
 else
 none
 else
 some true
def mL:Nat->yD->yD->xS->zU->zU->List yM->zW->Int->Option Bool
 |0,_,_,_,_,_,_,_,_=>none
 |q+1,e,f,g,m,p,d,s,u=>
 if decide (u<(d.length:Int))then
 uR d.length u>>=fun x19=>
 yG d (x19:Int)>>=fun x21=>
 if x21.has_ then
 yV 40 s [x21.term_]>>=fun l24=>
 mL q e f g m p d l24 (xE (u+1))
 else
 none
 else
 mK q e f g m p d s 0
def n6(q:Nat)(e f:yD)(g:xS)(m p:zU)(v:zW)(w y:Int)(i:zW)(G A B:Int)(C:xN)(D E:zW)(F:List zY)(d:List yM):Option Bool:=
 cG q (xR.mk e f g m p)>>=fun r1=>
 zRI q v 0 r1>>=fun r3=>
 if r3 then
 cG q (xR.mk e f g m p)>>=fun r6=>
 iP q (Tm.mk w y i) (v.length:Int) r6>>=fun r8=>
 if r8 then
 if decide (G<1)then
 none
 else
 if decide (G>3)then
 none
 else
 yV 40 ([]:zW) v>>=fun l13=>
 yV 40 l13 [(Tm.mk w y i)]>>=fun l16=>
 mL q e f g m p d l16 0
 else
 none
 else
 none
theorem zEK:Qf 54 f54:=⟨func54,rfl⟩
theorem zDA:∀q:Nat,(∀ {e f g m p d s t r},mK q e f g m p d s t=some r->(∀j,dL 3 (pt 65461 f54) (sp j 84 0 [(0,.mp 0 0),(66,zH zC s (.st 0 3)),(67,ai (s.length:Int)),(68,ai t)]) (⟨[(0,qB e 1 m p),(1,qR f g),(2,.row (zF zZ d))],3,[0],1,[]⟩) (fQ 3 (nQ 3 f54 (ab r) [qB e 1 m p,qR f g,.row (zF zZ d)] 0) [.blk 2,.seq (pt 1023 f54)]))):=by
 intro q
 induction q with
 |zero=>
  exact fun h=>nn h
 |succ q ih=>
  intro e f g m p d s t r h
  rw[mK]at h
  obtain⟨h26,h⟩|⟨h26,h⟩:=xA h
  obtain⟨x27,h28,h⟩:=zD h
  obtain⟨r29,h30,h⟩:=zD h
  obtain⟨r31,h32,h⟩:=zD h
  have k:=oC 3 [0,1] (R5 h30)<|oA 0 (wN (o:=(.st 0 3)) h28)<|oB 0 h26 o0
  obtain⟨h33,h⟩:=xD h
  obtain⟨r34,h35,h⟩:=zD h
  have k:=oC 2 [] (c62 h35)<|oK 0 [] h33 (eU h32) k
  obtain⟨h36,h⟩:=zT h
  exact fun j=>lH 1 [] [0,1,2] [0] [0,66,67,68] (oD (dT s)<|oD (zQ d)<|wS e f g m p<|oB 1 h36 k) (ih h)
  cases h
  exact fun j=>lF 0 [0,1,2] (oD (zQ d)<|wS e f g m p<|oB 0 h26 o0)
theorem N4:∀q:Nat,(∀ {e f g m p d s u r},mL q e f g m p d s u=some r->(∀j,dL 3 (pt 16309 f54) (sp j 84 0 [(0,.mp 0 0),(5,zH zC s (.st 0 3)),(52,.ms 2 0 d.length d.length 4),(53,ai (d.length:Int)),(54,ai u)]) (⟨[(0,qB e 1 m p),(1,qR f g),(2,.row (zF zZ d))],3,[0],1,[]⟩) (fQ 3 (nQ 3 f54 (ab r) [qB e 1 m p,qR f g,.row (zF zZ d)] 0) [.blk 0,.seq (pt 255 f54)]))):=by
 intro q
 induction q with
 |zero=>
  exact fun h=>nn h
 |succ q ih=>
  intro e f g m p d s u r h
  rw[mL]at h
  obtain⟨h18,h⟩|⟨h18,h⟩:=xA h
  obtain⟨x19,h20,h⟩:=zD h
  obtain⟨x21,h22,h⟩:=zD h
  have k:=oG (a:=(.agg [ab x21.has_,ai x21.term_.k,ai x21.term_.n,zH zC x21.term_.sub .no])) 0 (U1 vA h22 (true,4) (val:=.agg [ab x21.has_,ai x21.term_.k,ai x21.term_.n,zH zC x21.term_.sub .no]) rfl)<|oA 0 (D9 (b:=2) (c:=List.length d) (z:=4) h20)<|oB 0 h18 o0
  obtain⟨h23,h⟩:=xD h
  obtain⟨l24,h25,h⟩:=zD h
  exact fun j=>lH 1 [] [0,1,2] [1] [0,5,52,53,54] (oD (dT l24)<|oD (zQ d)<|wS e f g m p<|oP 0 (vO h25 (by simp))<|oS 1 (xL xU [x21.term_])<|oB 1 h23 k) (ih h)
  exact fun j=>lH 1 [] [0,1,2] [0] [0,66,67,68] (oD (dT s)<|oD (zQ d)<|wS e f g m p<|oB 0 h18 o0) (zDA _ h)
theorem zNa{q e f g m p v w y i G A B C D E F d r}(h:n6 q e f g m p v w y i G A B C D E F d=some r):Ct 54 [qB e 1 m p,qR f g,.row (zF zZ d)] [.mp 0 0,.agg [zH zC v .no,ai w,ai y,zH zC i .no,ai G,ai A,ai B,zH zJ C .no,zH zC D .no,zH zC E .no,zH zV F .no,.ms 2 0 d.length d.length 4]] (ab r) [qB e 1 m p,qR f g,.row (zF zZ d)] 0:=⟨by
 unfold n6 at h
 obtain⟨r1,h2,h⟩:=zD h
 obtain⟨r3,h4,h⟩:=zD h
 have k:=oC 0 [0,1] (R5 h2)<|rF 1 o0
 obtain⟨h5,h⟩:=xD h
 obtain⟨r6,h7,h⟩:=zD h
 obtain⟨r8,h9,h⟩:=zD h
 have k:=oC 1 [0,1] (R5 h7)<|rF 2<|oK 0 [] h5 (zYH h4) k
 obtain⟨h10,h⟩:=xD h
 have k:=oK 0 [] h10 (eU h9) k
 obtain⟨h11,h⟩:=zT h
 have k:=oB 2 h11 k
 obtain⟨h12,h⟩:=zT h
 obtain⟨l13,h14,h⟩:=zD h
 have k:=oB 1 h12 k
 by_cases h15:List.length v=0
 obtain⟨l16,h17,h⟩:=zD h
 exact tH zEK 2 [] [0,1,2] [0] [0,5,52,53,54] (oD (dT l16)<|oD (zQ d)<|wS e f g m p<|oP 0 (vO h17 (by simp))<|oS 1 (xL xU [(Tm.mk w y i)])<|oP 2 (zAd h14 h15) k) (N4 _ h)
 obtain⟨l16,h17,h⟩:=zD h
 exact tH zEK 2 [] [0,1,2] [1] [0,5,52,53,54] (oD (dT l16)<|oD (zQ d)<|wS e f g m p<|oP 0 (vO h17 (by simp))<|oS 1 (xL xU [(Tm.mk w y i)])<|oP 2 (vO h14 h15) k) (N4 _ h),⟨(lz rfl),⟨⟨tv,dT _⟩,tv,tv,⟨tv,dT _⟩,tv,tv,tv,⟨tv,zE _⟩,⟨tv,dT _⟩,⟨tv,dT _⟩,⟨tv,zM _⟩,(lz rfl),tv⟩,tv⟩,(vY (lz rfl) (zA (zQ _) zB)),tv,(vQ (lz rfl) (zA (zQ _) zB))⟩
def kQ(M:Nat)(z i:yD)(A:xS)(B C:zU)(D:yD)(G H:Int)(E:zW)(I q:Int)(c:zW)(s t u:Int)(d:xN)(e f:zW)(g:List zY)(a:List yM)(v:Int)(y:tS)(J N:zW)(K L m b p:Int)(w:zW):Option (Tm×Int):=
 if decide (L<K)then
 none
 else
 if b==8 then
 if p==1048576 then
 none
 else
 if b != 8 then
 none
 else
 zDv M (Tm.mk b p w) J>>=fun r22=>
 some (r22,m)
 else
 none
def N5(M:Nat)(z i:yD)(A:xS)(B C:zU)(D:yD)(G H:Int)(E:zW)(I q:Int)(c:zW)(s t u:Int)(d:xN)(e f:zW)(g:List zY)(a:List yM)(v F:Int)(y:tS)(P:Tm):Option (Tm×Int):=
 if F != 0 then
 none
 else
 if P.k != 5 then
 if P.k != 8 then
 none
 else
 cF M P>>=fun r4=>
 kQ M z i A B C D G H E I q c s t u d e f g a v y [] r4.2 (r4.2.length:Int) 0 F r4.1.k r4.1.n r4.1.sub
 else
 none
theorem zCv{M z i A B C D G H E I q c s t u d e f g a v y J N K L m b p w r}(h:kQ M z i A B C D G H E I q c s t u d e f g a v y J N K L m b p w=some r):(∀j,dL 5 (pt 262069 f180) (sp j 95 0 [(0,.mp 0 0),(4,.mp 5 0),(6,.mp 6 0),(10,.mp 7 0),(12,zH zC J (.st 0 3)),(57,zH zC N .no),(58,ai K),(59,ai L)]) (⟨[(0,.cells [.mp 1 0,zH yE D .no,.mp 3 0,zH zC E .no,ai I,ai q,zH zC c .no,ai s,ai t,ai u,zH zJ d .no,zH zC e .no,zH zC f .no,zH zV g .no,.ms 4 0 a.length a.length 4,ai v,ai m]),(1,qB z 2 B C),(2,qR i A),(3,.cells [ai G,ai H]),(4,.row (zF zZ a)),(5,.cells [zH zJ y.vars_ .no,zH zJ y.ihs_ .no,zH zC y.args_ .no,zH nP y.levels_ .no]),(6,.cells [ai 0,ai 0,zH zC ([]:zW) .nl]),(7,.cells [ai b,ai p,zH zC w .no])],8,[0],1,[]⟩) (fQ 5 (nQ 5 f180 (xF r.1) [.cells [.mp 1 0,zH yE D .no,.mp 3 0,zH zC E .no,ai I,ai q,zH zC c .no,ai s,ai t,ai u,zH zJ d .no,zH zC e .no,zH zC f .no,zH zV g .no,.ms 4 0 a.length a.length 4,ai v,ai r.2],qB z 2 B C,qR i A,.cells [ai G,ai H],.row (zF zZ a)] 0) [.blk 2,.seq (pt 4095 f180)])):=by
 unfold kQ at h
 obtain⟨h6,h⟩:=zT h
 have k:=oB 0 h6 o0
 obtain⟨h13,h⟩:=xD h
 have k:=oB 1 h13 k
 obtain⟨h14,h⟩:=zT h
 have k:=oB 1 h14 k
 obtain⟨h17,h⟩:=zT h
 obtain⟨r22,h23,h⟩:=zD h
 cases h
 exact fun j=>lF 1 [0,1,2,3,4] (oD (dT r22.sub)<|oD (zQ a)<|wS z i A B C<|oD (zM g)<|oD (dT f)<|oD (dT e)<|oD (zE d)<|oD (dT c)<|oD (dT E)<|oD (dE D)<|oC 1 [] (zIf h23)<|oB 1 h17 k)
theorem zCu{M z i A B C D G H E I q c s t u d e f g a v F y P r}(h:N5 M z i A B C D G H E I q c s t u d e f g a v F y P=some r):Ct 180 [.cells [.mp 1 0,zH yE D .no,.mp 3 0,zH zC E .no,ai I,ai q,zH zC c .no,ai s,ai t,ai u,zH zJ d .no,zH zC e .no,zH zC f .no,zH zV g .no,.ms 4 0 a.length a.length 4,ai v,ai F],qB z 2 B C,qR i A,.cells [ai G,ai H],.row (zF zZ a)] [.mp 0 0,iN y,xF P] (xF r.1) [.cells [.mp 1 0,zH yE D .no,.mp 3 0,zH zC E .no,ai I,ai q,zH zC c .no,ai s,ai t,ai u,zH zJ d .no,zH zC e .no,zH zC f .no,zH zV g .no,.ms 4 0 a.length a.length 4,ai v,ai r.2],qB z 2 B C,qR i A,.cells [ai G,ai H],.row (zF zZ a)] 0:=⟨by
 unfold N5 at h
 obtain⟨h1,h⟩:=zT h
 have k:=oB 1 h1 o0
 obtain⟨h2,h⟩:=xD h
 have k:=oB 1 h2 k
 obtain⟨h3,h⟩:=zT h
 obtain⟨r4,h5,h⟩:=zD h
 exact tH ⟨func180,rfl⟩ 4 [(none,12,3)] [0,1,2,3,4,5,7,8] [0] [0,4,6,10,12,57,58,59] (oD (dT r4.2)<|oD (dT ([]:zW))<|oD (dT r4.1.sub)<|oD (dT ([]:zW))<|oD (nR y.levels_)<|oD (dT y.args_)<|oD (zE y.ihs_)<|oD (zE y.vars_)<|oD (zQ a)<|wS z i A B C<|oD (zM g)<|oD (dT f)<|oD (dT e)<|oD (zE d)<|oD (dT c)<|oD (dT E)<|oD (dE D)<|oC 1 [] (E7 h5)<|oB 1 h3 k) (zCv h),⟨(lz rfl),⟨⟨tv,zE _⟩,⟨tv,zE _⟩,⟨tv,dT _⟩,⟨tv,nR _⟩,tv⟩,⟨tv,tv,⟨tv,dT _⟩,tv⟩,tv⟩,(zA ⟨(lz rfl),⟨tv,dE _⟩,(lz rfl),⟨tv,dT _⟩,tv,tv,⟨tv,dT _⟩,tv,tv,tv,⟨tv,zE _⟩,⟨tv,dT _⟩,⟨tv,dT _⟩,⟨tv,zM _⟩,(lz rfl),tv,tv,tv⟩ (vY (lz rfl) (zA ⟨tv,tv,tv⟩ (zA (zQ _) zB)))),⟨tv,tv,dT _,tv⟩,(zA ⟨(lz rfl),dE _,(lz rfl),dT _,tv,tv,dT _,tv,tv,tv,zE _,dT _,dT _,zM _,(lz rfl),tv,tv,tv⟩ (vQ (lz rfl) (zA ⟨tv,tv,tv⟩ (zA (zQ _) zB))))⟩
def eA(D:Nat)(t u:yD)(v:xS)(w y:zU)(z:yD)(j A:Int)(i:zW)(B m:Int)(b:zW)(n p q:Int)(c:xN)(d e:zW)(f:List zY)(a:List yM)(s g C:Int):Option Int:=
 if g != 0 then
 none
 else
 if C==0 then
 some g
 else
 none
theorem n7{D t u v w y z j A i B m b n p q c d e f a s g C r}(h:eA D t u v w y z j A i B m b n p q c d e f a s g C=some r):Ct 63 [.cells [.mp 1 0,zH yE z .no,.mp 3 0,zH zC i .no,ai B,ai m,zH zC b .no,ai n,ai p,ai q,zH zJ c .no,zH zC d .no,zH zC e .no,zH zV f .no,.ms 4 0 a.length a.length 4,ai s,ai g],qB t 2 w y,qR u v,.cells [ai j,ai A],.row (zF zZ a)] [.mp 0 0,ai C] (.tup []) [.cells [.mp 1 0,zH yE z .no,.mp 3 0,zH zC i .no,ai B,ai m,zH zC b .no,ai n,ai p,ai q,zH zJ c .no,zH zC d .no,zH zC e .no,zH zV f .no,.ms 4 0 a.length a.length 4,ai s,ai r],qB t 2 w y,qR u v,.cells [ai j,ai A],.row (zF zZ a)] 0:=⟨by
 unfold eA at h
 obtain⟨h1,h⟩:=zT h
 have k:=oB 1 h1 o0
 obtain⟨h2,h⟩:=xD h
 obtain rfl:=sj h
 exact tF ⟨func63,rfl⟩ 0 [0,1,2,3,4] (oD (zQ a)<|wS t u v w y<|oD (zM f)<|oD (dT e)<|oD (dT d)<|oD (zE c)<|oD (dT b)<|oD (dT i)<|oD (dE z)<|oB 0 h2 k),⟨(lz rfl),tv,tv⟩,(zA ⟨(lz rfl),⟨tv,dE _⟩,(lz rfl),⟨tv,dT _⟩,tv,tv,⟨tv,dT _⟩,tv,tv,tv,⟨tv,zE _⟩,⟨tv,dT _⟩,⟨tv,dT _⟩,⟨tv,zM _⟩,(lz rfl),tv,tv,tv⟩ (vY (lz rfl) (zA ⟨tv,tv,tv⟩ (zA (zQ _) zB)))),tv,(zA ⟨(lz rfl),dE _,(lz rfl),dT _,tv,tv,dT _,tv,tv,tv,zE _,dT _,dT _,zM _,(lz rfl),tv,tv,tv⟩ (vQ (lz rfl) (zA ⟨tv,tv,tv⟩ (zA (zQ _) zB))))⟩
def eB(E:Nat)(t u:yD)(v:xS)(w y:zU)(z:yD)(j A:Int)(i:zW)(B g:Int)(b:zW)(m n p:Int)(c:xN)(d e:zW)(f:List zY)(a:List yM)(q s:Int)(C:Tm)(D:Int):Option (Tm×Int):=
 eA E t u v w y z j A i B g b m n p c d e f a q s D>>=fun r1=>
 some (C,r1)
theorem A4{E t u v w y z j A i B g b m n p c d e f a q s C D r}(h:eB E t u v w y z j A i B g b m n p c d e f a q s C D=some r):Ct 59 [.cells [.mp 1 0,zH yE z .no,.mp 3 0,zH zC i .no,ai B,ai g,zH zC b .no,ai m,ai n,ai p,zH zJ c .no,zH zC d .no,zH zC e .no,zH zV f .no,.ms 4 0 a.length a.length 4,ai q,ai s],qB t 2 w y,qR u v,.cells [ai j,ai A],.row (zF zZ a)] [.mp 0 0,xF C,ai D] (xF r.1) [.cells [.mp 1 0,zH yE z .no,.mp 3 0,zH zC i .no,ai B,ai g,zH zC b .no,ai m,ai n,ai p,zH zJ c .no,zH zC d .no,zH zC e .no,zH zV f .no,.ms 4 0 a.length a.length 4,ai q,ai r.2],qB t 2 w y,qR u v,.cells [ai j,ai A],.row (zF zZ a)] 0:=⟨by
 unfold eB at h
 obtain⟨r1,h2,h⟩:=zD h
 cases h
 exact tF ⟨func59,rfl⟩ 2 [0,1,2,3,4] (oD (dT C.sub)<|oD (zQ a)<|wS t u v w y<|oD (zM f)<|oD (dT e)<|oD (dT d)<|oD (zE c)<|oD (dT b)<|oD (dT i)<|oD (dE z)<|oC 0 [0,1,2,3,4] (n7 h2) o0),⟨(lz rfl),⟨tv,tv,⟨tv,dT _⟩,tv⟩,tv,tv⟩,(zA ⟨(lz rfl),⟨tv,dE _⟩,(lz rfl),⟨tv,dT _⟩,tv,tv,⟨tv,dT _⟩,tv,tv,tv,⟨tv,zE _⟩,⟨tv,dT _⟩,⟨tv,dT _⟩,⟨tv,zM _⟩,(lz rfl),tv,tv,tv⟩ (vY (lz rfl) (zA ⟨tv,tv,tv⟩ (zA (zQ _) zB)))),⟨tv,tv,dT _,tv⟩,(zA ⟨(lz rfl),dE _,(lz rfl),dT _,tv,tv,dT _,tv,tv,tv,zE _,dT _,dT _,zM _,(lz rfl),tv,tv,tv⟩ (vQ (lz rfl) (zA ⟨tv,tv,tv⟩ (zA (zQ _) zB))))⟩
def N6(F:Nat)(i j:yD)(A:xS)(B C:zU)(D:yD)(G H:Int)(E:zW)(I q:Int)(e:zW)(s t u:Int)(f:xN)(g m:zW)(p:List zY)(d:List yM)(v w:Int)(J:tS)(y:yF):Option (Tm×Int):=
 if decide (y.row_<0)then
 none
 else
 if decide (y.row_≥(d.length:Int))then
 none
 else
 uR d.length y.row_>>=fun x7=>
 yG d (x7:Int)>>=fun x9=>
 if !x9.has_ then
 none
 else
 zDq F 1048576>>=fun r14=>
 yV 40 [r14] y.binds_>>=fun l16=>
 zBn F x9.term_ l16>>=fun r19=>
 eB F i j A B C D G H E I q e s t u f g m p d v w r19.1 r19.2>>=fun r21=>
 N5 F i j A B C D G H E I q e s t u f g m p d v r21.2 J r21.1>>=fun r23=>
 some (r23.1,r23.2)
theorem zCt:Qf 113 f113:=⟨func113,rfl⟩
theorem zJP{F i j A B C D G H E I q e s t u f g m p d v w J y r}(h:N6 F i j A B C D G H E I q e s t u f g m p d v w J y=some r):Ct 113 [.cells [.mp 1 0,zH yE D .no,.mp 3 0,zH zC E .no,ai I,ai q,zH zC e .no,ai s,ai t,ai u,zH zJ f .no,zH zC g .no,zH zC m .no,zH zV p .no,.ms 4 0 d.length d.length 4,ai v,ai w],qB i 2 B C,qR j A,.cells [ai G,ai H],.row (zF zZ d)] [.mp 0 0,iN J,wD y] (xF r.1) [.cells [.mp 1 0,zH yE D .no,.mp 3 0,zH zC E .no,ai I,ai q,zH zC e .no,ai s,ai t,ai u,zH zJ f .no,zH zC g .no,zH zC m .no,zH zV p .no,.ms 4 0 d.length d.length 4,ai v,ai r.2],qB i 2 B C,qR j A,.cells [ai G,ai H],.row (zF zZ d)] 0:=⟨by
 unfold N6 at h
 have z {os ob} (k:Oz os ob):=oD (zQ d)<|wS i j A B C<|oD (zM p)<|oD (dT m)<|oD (dT g)<|oD (zE f)<|oD (dT e)<|oD (dT E)<|oD (dE D)<|k
 obtain⟨h1,h⟩:=zT h
 have k:=oB 1 h1 o0
 obtain⟨h4,h⟩:=zT h
 obtain⟨x7,h8,h⟩:=zD h
 obtain⟨x9,h10,h⟩:=zD h
 have k:=oG (a:=(ab x9.has_)) 0 (U1 vA h10 (false,1) (val:=ab x9.has_) rfl)<|oA 2 (D9 (b:=4) (c:=List.length d) (z:=4) h8)<|oB 3 h4 k
 obtain⟨h11,h⟩:=zT h
 obtain⟨r14,h15,h⟩:=zD h
 obtain⟨l16,h17,h⟩:=zD h
 have k:=rF 0<|oS 0 (xL xU [r14])<|oC 0 [] (zGv h15)<|oG (a:=(.agg [ai x9.term_.k,ai x9.term_.n,zH zC x9.term_.sub .no])) 0 (ldF vA h10 1 (true,3) (val:=.agg [ai x9.term_.k,ai x9.term_.n,zH zC x9.term_.sub .no]) rfl)<|oA 0 (D9 (b:=4) (c:=List.length d) (z:=4) h8)<|rF 0<|rF 0<|oB 0 h11 k
 by_cases h18:List.length y.binds_=0
 obtain⟨r19,h20,h⟩:=zD h
 obtain⟨r21,h22,h⟩:=zD h
 obtain⟨r23,h24,h⟩:=zD h
 cases h
 exact tF zCt 1 [0,1,2,3,4] (oD (dT r23.1.sub)<|z<|oC 3 [0,1,2,3,4] (zCu h24)<|oC 2 [0,1,2,3,4] (A4 h22)<|oC 0 [] (R6 h20)<|oP 0 (zAd h17 h18) k)
 obtain⟨r19,h20,h⟩:=zD h
 obtain⟨r21,h22,h⟩:=zD h
 obtain⟨r23,h24,h⟩:=zD h
 cases h
 exact tF zCt 1 [0,1,2,3,4] (oD (dT r23.1.sub)<|z<|oC 3 [0,1,2,3,4] (zCu h24)<|oC 2 [0,1,2,3,4] (A4 h22)<|oC 0 [] (R6 h20)<|oP 0 (vO h17 h18) k),⟨(lz rfl),⟨⟨tv,zE _⟩,⟨tv,zE _⟩,⟨tv,dT _⟩,⟨tv,nR _⟩,tv⟩,⟨tv,tv,tv,⟨tv,zE _⟩,⟨tv,dT _⟩,⟨tv,dT _⟩,⟨tv,zM _⟩,tv⟩,tv⟩,(zA ⟨(lz rfl),⟨tv,dE _⟩,(lz rfl),⟨tv,dT _⟩,tv,tv,⟨tv,dT _⟩,tv,tv,tv,⟨tv,zE _⟩,⟨tv,dT _⟩,⟨tv,dT _⟩,⟨tv,zM _⟩,(lz rfl),tv,tv,tv⟩ (vY (lz rfl) (zA ⟨tv,tv,tv⟩ (zA (zQ _) zB)))),⟨tv,tv,dT _,tv⟩,(zA ⟨(lz rfl),dE _,(lz rfl),dT _,tv,tv,dT _,tv,tv,tv,zE _,dT _,dT _,zM _,(lz rfl),tv,tv,tv⟩ (vQ (lz rfl) (zA ⟨tv,tv,tv⟩ (zA (zQ _) zB))))⟩
def n8(A:Nat)(t u:yD)(v:xS)(w y:zU)(z:yD)(C D:Int)(i:zW)(j g:Int)(b:zW)(m n p:Int)(c:xN)(d e:zW)(f:List zY)(a:List yM)(q s:Int)(E:tS)(B:yF):Option (Tm×Int×Int×Int×Int):=
 zAZ A C D>>=fun r1=>
 eA A t u v w y z r1.2.1 r1.2.2 i j g b m n p c d e f a q s r1.1>>=fun r3=>
 if r3 != 0 then
 none
 else
 if B.kind_==1 then
 N6 A t u v w y z r1.2.1 r1.2.2 i j g b m n p c d e f a q r3 E B>>=fun r7=>
 some (r7.1,q,r7.2,r1.2.1,r1.2.2)
 else
 none
theorem zNA{A t u v w y z C D i j g b m n p c d e f a q s E B r}(h:n8 A t u v w y z C D i j g b m n p c d e f a q s E B=some r):Ct 57 [.cells [.mp 1 0,zH yE z .no,.mp 3 0,zH zC i .no,ai j,ai g,zH zC b .no,ai m,ai n,ai p,zH zJ c .no,zH zC d .no,zH zC e .no,zH zV f .no,.ms 4 0 a.length a.length 4,ai q,ai s],qB t 2 w y,qR u v,.cells [ai C,ai D],.row (zF zZ a)] [.mp 0 0,iN E,wD B] (xF r.1) [.cells [.mp 1 0,zH yE z .no,.mp 3 0,zH zC i .no,ai j,ai g,zH zC b .no,ai m,ai n,ai p,zH zJ c .no,zH zC d .no,zH zC e .no,zH zV f .no,.ms 4 0 a.length a.length 4,ai r.2.1,ai r.2.2.1],qB t 2 w y,qR u v,.cells [ai r.2.2.2.1,ai r.2.2.2.2],.row (zF zZ a)] 0:=⟨by
 unfold n8 at h
 obtain⟨r1,h2,h⟩:=zD h
 obtain⟨r3,h4,h⟩:=zD h
 have k:=oC 0 [0,1,2,3,4] (n7 h4)<|oC 1 [3] (zFP h2) o0
 obtain⟨h5,h⟩:=zT h
 have k:=oB 1 h5 k
 obtain⟨h6,h⟩:=xD h
 obtain⟨r7,h8,h⟩:=zD h
 cases h
 exact tF ⟨func57,rfl⟩ 1 [0,1,2,3,4] (oD (dT r7.1.sub)<|oD (zQ a)<|wS t u v w y<|oD (zM f)<|oD (dT e)<|oD (dT d)<|oD (zE c)<|oD (dT b)<|oD (dT i)<|oD (dE z)<|oC 2 [0,1,2,3,4] (zJP h8)<|oB 1 h6 k),⟨(lz rfl),⟨⟨tv,zE _⟩,⟨tv,zE _⟩,⟨tv,dT _⟩,⟨tv,nR _⟩,tv⟩,⟨tv,tv,tv,⟨tv,zE _⟩,⟨tv,dT _⟩,⟨tv,dT _⟩,⟨tv,zM _⟩,tv⟩,tv⟩,(zA ⟨(lz rfl),⟨tv,dE _⟩,(lz rfl),⟨tv,dT _⟩,tv,tv,⟨tv,dT _⟩,tv,tv,tv,⟨tv,zE _⟩,⟨tv,dT _⟩,⟨tv,dT _⟩,⟨tv,zM _⟩,(lz rfl),tv,tv,tv⟩ (vY (lz rfl) (zA ⟨tv,tv,tv⟩ (zA (zQ _) zB)))),⟨tv,tv,dT _,tv⟩,(zA ⟨(lz rfl),dE _,(lz rfl),dT _,tv,tv,dT _,tv,tv,tv,zE _,dT _,dT _,zM _,(lz rfl),tv,tv,tv⟩ (vQ (lz rfl) (zA ⟨tv,tv,tv⟩ (zA (zQ _) zB))))⟩
def zRJ(c:Nat)(a b:Tm):Option Tm:=
 w5 c 4 0 [a,b]>>=fun r1=>
 some r1
theorem zYI{c a b r}(h:zRJ c a b=some r):Ct 117 [] [xF a,xF b] (xF r) [] 0:=⟨by
 unfold zRJ at h
 obtain⟨r1,h2,h⟩:=zD h
 obtain rfl:=sj h
 exact tF ⟨func117,rfl⟩ 1 [] (oD (dT r1.sub)<|oC 0 [] (zDx h2)<|oS 2 (xL xU [a,b]) o0),⟨⟨tv,tv,⟨tv,dT _⟩,tv⟩,⟨tv,tv,⟨tv,dT _⟩,tv⟩,tv⟩,zB,⟨tv,tv,dT _,tv⟩,zB⟩
def N7(d:Nat)(a:Int)(b:Bool)(c:Int):Option Unit:=
 some ()
theorem zJQ{d a b c r}(h:N7 d a b c=some r):Ct 292 [.cells [ai a,ab b,.val .nilFunc],.cells [ai c]] [.mp 0 0,.mp 1 0] (.clo 293 [] [.mp 1 0]) [.cells [ai a,ab b,.val .nilFunc],.cells [ai c]] 0:=⟨by
 unfold N7 at h
 cases h
 exact tF ⟨func292,rfl⟩ 0 [0,1] (o0),⟨(lz rfl),(lz rfl),tv⟩,(zA ⟨tv,tv,tv,tv⟩ (zA ⟨tv,tv⟩ zB)),⟨tv,⟨(lz rfl),tv⟩⟩,(zA ⟨tv,tv,tv,tv⟩ (zA ⟨tv,tv⟩ zB))⟩
def N8(d:Nat)(a:Tm)(b c:Int):Option (Tm×Bool):=
 zMz d a b>>=fun r1=>
 if decide (r1≥0)then
 none
 else
 if a.k==8 then
 if a.n==c then
 zFO d b>>=fun r8=>
 some (r8,true)
 else
 none
 else
 none
theorem zJR{d a b c r}(h:N8 d a b c=some r):Ct 293 [.cells [ai c]] [xF a,ai b,.mp 0 0] (.tup [xF r.1,ab r.2]) [.cells [ai c]] 0:=⟨by
 unfold N8 at h
 obtain⟨r1,h2,h⟩:=zD h
 have k:=oC 1 [] (zUm h2) o0
 obtain⟨h3,h⟩:=zT h
 have k:=oB 0 h3 k
 obtain⟨h6,h⟩:=xD h
 have k:=oB 1 h6 k
 obtain⟨h7,h⟩:=xD h
 obtain⟨r8,h9,h⟩:=zD h
 cases h
 exact tF ⟨func293,rfl⟩ 1 [0] (oD (dT r8.sub)<|oC 0 [] (zLS h9)<|oB 2 h7 k),⟨⟨tv,tv,⟨tv,dT _⟩,tv⟩,tv,(lz rfl),tv⟩,(zA ⟨tv,tv⟩ zB),⟨⟨tv,tv,dT _,tv⟩,tv,tv⟩,(zA ⟨tv,tv⟩ zB)⟩
def N9(f:Nat)(c:Int)(a:Bool)(b:Int)(d:Tm)(e:Int):Option (Tm×Int×Bool):=
 if a then
 none
 else
 N8 f d e b>>=fun r4=>
 if r4.2 then
 some (r4.1,c,a)
 else
 none
theorem zJS{f c a b d e r}(h:N9 f c a b d e=some r):Ct 345 [.cells [ai c,ab a,.clo 293 [] [.mp 1 0]],.cells [ai b]] [.mp 0 0,xF d,ai e] (xF r.1) [.cells [ai r.2.1,ab r.2.2,.clo 293 [] [.mp 1 0]],.cells [ai b]] 0:=⟨by
 unfold N9 at h
 obtain⟨h1,h⟩:=zT h
 obtain⟨r4,h5,h⟩:=zD h
 have k:=oC 2 [1] (zJR h5)<|oB 0 h1 o0
 obtain⟨h6,h⟩:=xD h
 cases h
 exact tF ⟨func345,rfl⟩ 3 [0,1] (oD (dT r4.1.sub)<|oB 1 h6 k),⟨(lz rfl),⟨tv,tv,⟨tv,dT _⟩,tv⟩,tv,tv⟩,(zA ⟨tv,tv,⟨tv,⟨(lz rfl),tv⟩⟩,tv⟩ (zA ⟨tv,tv⟩ zB)),⟨tv,tv,dT _,tv⟩,(zA ⟨tv,tv,⟨tv,⟨(lz rfl),tv⟩⟩,tv⟩ (zA ⟨tv,tv⟩ zB))⟩
def O0(b:Nat)(c:Tm)(a:Int):Option (Tm×Int):=
 N7 b 8192 false a>>=fun r1=>
 N9 b 8192 false a c 0>>=fun r3=>
 if r3.2.2 then
 none
 else
 jX b r3.1>>=fun r6=>
 if r6 then
 some (r3.1,0)
 else
 none
theorem zJT{b c a r}(h:O0 b c a=some r):Ct 246 [.cells [ai a]] [xF c,.clo 292 [] [.mp 0 0]] (.tup [xF r.1,ai r.2]) [.cells [ai a]] 0:=⟨by
 unfold O0 at h
 obtain⟨r1,h2,h⟩:=zD h
 obtain⟨r3,h4,h⟩:=zD h
 have k:=oC 2 [3,0] (zJS h4)<|oC 0 [3,0] (zJQ h2) o0
 obtain⟨h5,h⟩:=zT h
 obtain⟨r6,h7,h⟩:=zD h
 have k:=oB 1 h5 k
 obtain⟨h8,h⟩:=xD h
 cases h
 exact tF ⟨func246,rfl⟩ 3 [0] (oD (dT r3.1.sub)<|oK 1 [] h8 (jM h7) k),⟨⟨tv,tv,⟨tv,dT _⟩,tv⟩,⟨tv,⟨(lz rfl),tv⟩⟩,tv⟩,(zA ⟨tv,tv⟩ zB),⟨⟨tv,tv,dT _,tv⟩,tv,tv⟩,(zA ⟨tv,tv⟩ zB)⟩
def zRK(a:Nat)(b:Tm)(c:Int):Option (Tm×Int):=
 jX a b>>=fun r1=>
 if r1 then
 zMN a c>>=fun r4=>
 if r4 then
 O0 a b c>>=fun r7=>
 some (r7.1,r7.2)
 else
 none
 else
 none
theorem zYJ{a b c r}(h:zRK a b c=some r):Ct 190 [] [xF b,ai c] (.tup [xF r.1,ai r.2]) [] 0:=⟨by
 unfold zRK at h
 obtain⟨r1,h2,h⟩:=zD h
 obtain⟨h3,h⟩:=xD h
 obtain⟨r4,h5,h⟩:=zD h
 have k:=oK 1 [] h3 (jM h2) o0
 obtain⟨h6,h⟩:=xD h
 obtain⟨r7,h8,h⟩:=zD h
 cases h
 exact tF ⟨func190,rfl⟩ 3 [] (oD (dT r7.1.sub)<|oC 2 [1] (zJT h8)<|oK 2 [] h6 (zVt h5) k),⟨⟨tv,tv,⟨tv,dT _⟩,tv⟩,tv,tv⟩,zB,⟨⟨tv,tv,dT _,tv⟩,tv,tv⟩,zB⟩
def pG:Nat->xN->Int->Int->Int->zW->Option (Tm×Int)
 |0,_,_,_,_,_=>none
 |d+1,e,g,a,b,c=>
 if decide (g≥0)then
 yG e g>>=fun x9=>
 zRK d (Tm.mk a b c) x9.n_>>=fun r11=>
 if r11.2 != 0 then
 none
 else
 zRJ d x9.type_ r11.1>>=fun r14=>
 jX d r14>>=fun r16=>
 if r16 then
 pG d e (xE (g-1)) r14.k r14.n r14.sub
 else
 none
 else
 e92 d (Tm.mk a b c)>>=fun r19=>
 some (r19,0)
def O1(d:Nat)(e:xN)(f:Tm):Option (Tm×Int):=
 e97 d e>>=fun r1=>
 if r1 then
 jX d f>>=fun r4=>
 if r4 then
 if decide ((e.length:Int)>24)then
 none
 else
 pG d e (xE ((e.length:Int)-1)) f.k f.n f.sub
 else
 none
 else
 none
theorem zCs:∀d:Nat,(∀ {e g a b c r},pG d e g a b c=some r->(∀j,dL 0 (pt 16309 f116) (sp j 59 0 [(0,zH zJ e .no),(2,.clo 117 [] []),(4,.mp 0 0),(6,.mp 1 0),(8,ai g)]) (⟨[(0,.cells [ai a,ai b,zH zC c .no]),(1,.cells [ai 0,ai 0,zH zC ([]:zW) .nl])],2,[],0,[]⟩) (fQ 0 (nQ 0 f116 (.tup [xF r.1,ai r.2]) [] 0) [.blk 0,.seq (pt 255 f116)]))):=by
 intro d
 induction d with
 |zero=>
  exact fun h=>nn h
 |succ d ih=>
  intro e g a b c r h
  rw[pG]at h
  obtain⟨h8,h⟩|⟨h8,h⟩:=xA h
  obtain⟨x9,h10,h⟩:=zD h
  obtain⟨r11,h12,h⟩:=zD h
  have k:=oC 1 [] (zYJ h12)<|oA 1 (gX (o:=.no) h10)<|oB 0 h8 o0
  obtain⟨h13,h⟩:=zT h
  obtain⟨r14,h15,h⟩:=zD h
  obtain⟨r16,h17,h⟩:=zD h
  have k:=oC 2 [] (zYI h15)<|oA 0 (gX (o:=.no) h10)<|oB 3 h13 k
  obtain⟨h18,h⟩:=xD h
  exact fun j=>lH 2 [] [0,1] [] [0,2,4,6,8] (oD (zE e)<|oD (dT ([]:zW))<|oD (dT r14.sub)<|oK 2 [] h18 (jM h17) k) (ih h)
  obtain⟨r19,h20,h⟩:=zD h
  cases h
  exact fun j=>lF 1 [] (oD (dT r19.sub)<|oC 1 [] (c92 h20)<|oB 0 h8 o0)
theorem zJU{d e f r}(h:O1 d e f=some r):Ct 116 [] [zH zJ e .no,xF f,.clo 117 [] []] (.tup [xF r.1,ai r.2]) [] 0:=⟨by
 unfold O1 at h
 obtain⟨r1,h2,h⟩:=zD h
 obtain⟨h3,h⟩:=xD h
 obtain⟨r4,h5,h⟩:=zD h
 have k:=oK 0 [] h3 (c97 h2) o0
 obtain⟨h6,h⟩:=xD h
 have k:=oK 2 [] h6 (jM h5) k
 obtain⟨h7,h⟩:=zT h
 exact tH ⟨func116,rfl⟩ 2 [] [0,1] [] [0,2,4,6,8] (oD (zE e)<|oD (dT ([]:zW))<|oD (dT f.sub)<|oB 2 h7 k) (zCs _ h),⟨⟨tv,zE _⟩,⟨tv,tv,⟨tv,dT _⟩,tv⟩,⟨tv,tv⟩,tv⟩,zB,⟨⟨tv,tv,dT _,tv⟩,tv,tv⟩,zB⟩
def e60(c:Nat)(a:xN)(b:Tm):Option (Tm×Int):=
 O1 c a b>>=fun r1=>
 some (r1.1,r1.2)
theorem c60{c a b r}(h:e60 c a b=some r):Ct 60 [] [zH zJ a .no,xF b] (.tup [xF r.1,ai r.2]) [] 0:=⟨by
 unfold e60 at h
 obtain⟨r1,h2,h⟩:=zD h
 cases h
 exact tF ⟨func60,rfl⟩ 3 [] (oD (dT r1.1.sub)<|oC 1 [] (zJU h2) o0),⟨⟨tv,zE _⟩,⟨tv,tv,⟨tv,dT _⟩,tv⟩,tv⟩,zB,⟨⟨tv,tv,dT _,tv⟩,tv,tv⟩,zB⟩
def pH:Nat->zW->Int->Int->Int->zW->Option (Tm×Int)
 |0,_,_,_,_,_=>none
 |e+1,a,g,b,c,d=>
 if decide (g<(a.length:Int))then
 yG a (xE ((xE ((a.length:Int)-1))-g))>>=fun x12=>
 zLR e x12 (Tm.mk b c d)>>=fun r14=>
 pH e a (xE (g+1)) r14.k r14.n r14.sub
 else
 jX e (Tm.mk b c d)>>=fun r16=>
 if r16 then
 e92 e (Tm.mk b c d)>>=fun r19=>
 some (r19,0)
 else
 none
def pI:Nat->zW->Tm->Int->Option (Tm×Int)
 |0,_,_,_=>none
 |e+1,a,f,m=>
 if decide (m<(a.length:Int))then
 yG a m>>=fun x3=>
 jX e x3>>=fun r5=>
 if r5 then
 pI e a f (xE (m+1))
 else
 none
 else
 jX e f>>=fun r8=>
 if r8 then
 pH e a 0 f.k f.n f.sub
 else
 none
def O2(e:Nat)(a:zW)(f:Tm):Option (Tm×Int):=
 if decide ((a.length:Int)>24)then
 none
 else
 pI e a f 0
theorem zCr:∀e:Nat,(∀ {a g b c d r},pH e a g b c d=some r->(∀j,dL 0 (pt 65461 f196) (sp j 53 0 [(0,zH zC a .no),(2,.clo 197 [] []),(4,.mp 0 0),(6,.mp 1 0),(31,ai (a.length:Int)),(32,ai g)]) (⟨[(0,.cells [ai b,ai c,zH zC d .no]),(1,.cells [ai 0,ai 0,zH zC ([]:zW) .nl])],2,[],0,[]⟩) (fQ 0 (nQ 0 f196 (.tup [xF r.1,ai r.2]) [] 0) [.blk 2,.seq (pt 1023 f196)]))):=by
 intro e
 induction e with
 |zero=>
  exact fun h=>nn h
 |succ e ih=>
  intro a g b c d r h
  rw[pH]at h
  obtain⟨h11,h⟩|⟨h11,h⟩:=xA h
  obtain⟨x12,h13,h⟩:=zD h
  obtain⟨r14,h15,h⟩:=zD h
  exact fun j=>lH 2 [] [0,1] [] [0,2,4,6,31,32] (oD (dT a)<|oD (dT ([]:zW))<|oD (dT r14.sub)<|oC 2 [] (zUo h15)<|oA 3 (wN (o:=.no) h13)<|oB 0 h11 o0) (ih h)
  obtain⟨r16,h17,h⟩:=zD h
  have k:=oB 0 h11 o0
  obtain⟨h18,h⟩:=xD h
  obtain⟨r19,h20,h⟩:=zD h
  cases h
  exact fun j=>lF 1 [] (oD (dT r19.sub)<|oC 2 [] (c92 h20)<|oK 1 [] h18 (jM h17) k)
theorem zCq:∀e:Nat,(∀ {a f m r},pI e a f m=some r->(∀j,dL 0 (pt 4021 f196) (sp j 53 0 [(0,zH zC a .no),(2,.clo 197 [] []),(4,.mp 0 0),(6,.mp 1 0),(15,zH zC a .no),(16,ai (a.length:Int)),(17,ai m)]) (⟨[(0,.cells [ai f.k,ai f.n,zH zC f.sub .no]),(1,.cells [ai 0,ai 0,zH zC ([]:zW) .nl])],2,[],0,[]⟩) (fQ 0 (nQ 0 f196 (.tup [xF r.1,ai r.2]) [] 0) [.blk 0,.seq (pt 63 f196)]))):=by
 intro e
 induction e with
 |zero=>
  exact fun h=>nn h
 |succ e ih=>
  intro a f m r h
  rw[pI]at h
  have z {os ob} (k:Oz os ob):=oD (dT a)<|oD (dT ([]:zW))<|oD (dT f.sub)<|k
  obtain⟨h2,h⟩|⟨h2,h⟩:=xA h
  obtain⟨x3,h4,h⟩:=zD h
  obtain⟨r5,h6,h⟩:=zD h
  have k:=oA 0 (wN (o:=.no) h4)<|oB 0 h2 o0
  obtain⟨h7,h⟩:=xD h
  exact fun j=>lH 2 [] [0,1] [] [0,2,4,6,15,16,17] (oD (dT a)<|z<|oK 3 [] h7 (jM h6) k) (ih h)
  obtain⟨r8,h9,h⟩:=zD h
  have k:=oB 0 h2 o0
  obtain⟨h10,h⟩:=xD h
  exact fun j=>lH 2 [] [0,1] [] [0,2,4,6,31,32] (z<|oK 1 [] h10 (jM h9) k) (zCr _ h)
theorem zJV{e a f r}(h:O2 e a f=some r):Ct 196 [] [zH zC a .no,xF f,.clo 197 [] []] (.tup [xF r.1,ai r.2]) [] 0:=⟨by
 unfold O2 at h
 obtain⟨h1,h⟩:=zT h
 exact tH ⟨func196,rfl⟩ 1 [] [0,1] [] [0,2,4,6,15,16,17] (oD (dT a)<|oD (dT a)<|oD (dT ([]:zW))<|oD (dT f.sub)<|oB 1 h1 o0) (zCq _ h),⟨⟨tv,dT _⟩,⟨tv,tv,⟨tv,dT _⟩,tv⟩,⟨tv,tv⟩,tv⟩,zB,⟨⟨tv,tv,dT _,tv⟩,tv,tv⟩,zB⟩
def zRL(c:Nat)(a:zW)(b:Tm):Option (Tm×Int):=
 O2 c a b>>=fun r1=>
 some (r1.1,r1.2)
theorem zYL{c a b r}(h:zRL c a b=some r):Ct 122 [] [zH zC a .no,xF b] (.tup [xF r.1,ai r.2]) [] 0:=⟨by
 unfold zRL at h
 obtain⟨r1,h2,h⟩:=zD h
 cases h
 exact tF ⟨func122,rfl⟩ 3 [] (oD (dT r1.1.sub)<|oC 1 [] (zJV h2) o0),⟨⟨tv,dT _⟩,⟨tv,tv,⟨tv,dT _⟩,tv⟩,tv⟩,zB,⟨⟨tv,tv,dT _,tv⟩,tv,tv⟩,zB⟩
def n9(g:Nat)(c:zW)(d e:Int)(f:zW)(m n p:Int)(q:xN)(s t:zW)(b:List zY)(a:List yM):Option (Tm×Int):=
 zRL g c (Tm.mk d e f)>>=fun r1=>
 some (r1.1,r1.2)
theorem zNB{g c d e f m n p q s t b a r}(h:n9 g c d e f m n p q s t b a=some r):Ct 65 [.row (zF zZ a)] [.agg [zH zC c .no,ai d,ai e,zH zC f .no,ai m,ai n,ai p,zH zJ q .no,zH zC s .no,zH zC t .no,zH zV b .no,.ms 0 0 a.length a.length 4]] (.tup [xF r.1,ai r.2]) [.row (zF zZ a)] 0:=⟨by
 unfold n9 at h
 obtain⟨r1,h2,h⟩:=zD h
 cases h
 exact tF ⟨func65,rfl⟩ 3 [0] (oD (dT r1.1.sub)<|oD (zQ a)<|oC 2 [] (zYL h2) o0),⟨⟨⟨tv,dT _⟩,tv,tv,⟨tv,dT _⟩,tv,tv,tv,⟨tv,zE _⟩,⟨tv,dT _⟩,⟨tv,dT _⟩,⟨tv,zM _⟩,(lz rfl),tv⟩,tv⟩,(zA (zQ _) zB),⟨⟨tv,tv,dT _,tv⟩,tv,tv⟩,(zA (zQ _) zB)⟩
def m0(m:Nat)(n p:yD)(q:xS)(s t:zU)(u:zW)(w y:Int)(z:zW)(v b c:Int)(d:xN)(e f:zW)(g:List zY)(a:List yM)(i j:Int):Option (Tm×Int×Int×Int):=
 n6 m n p q s t u w y z v b c d e f g a>>=fun r1=>
 if r1 then
 e55 m u 0>>=fun r4=>
 if r4.2 != 0 then
 none
 else
 e56 m (xR.mk n p q s t)>>=fun r7=>
 e58 m r4.1>>=fun r9=>
 n8 m n p q s t r7 i j u w y z v b c d e f g a 524288 0 (tS.mk r4.1 [] r9 []) (yF.mk v b c d e f g)>>=fun r11=>
 if r11.2.2.1==0 then
 e60 m r4.1 r11.1>>=fun r14=>
 eB m n p q s t r7 r11.2.2.2.1 r11.2.2.2.2 u w y z v b c d e f g a r11.2.1 r11.2.2.1 r14.1 r14.2>>=fun r16=>
 if r16.2==0 then
 e61 m r16.1>>=fun r19=>
 if decide (r19>0)then
 none
 else
 e62 m r16.1>>=fun r35=>
 if decide ((r35.length:Int)>0)then
 none
 else
 n9 m u w y z v b c d e f g a>>=fun r51=>
 eB m n p q s t r7 r11.2.2.2.1 r11.2.2.2.2 u w y z v b c d e f g a r11.2.1 r16.2 r51.1 r51.2>>=fun r53=>
 e64 m (xR.mk n p q s t) r11.2.2.2.1 r11.2.2.2.2 [] [] [] r16.1 r53.1>>=fun r55=>
 eA m n p q s t r7 r55.2.1 r55.2.2 u w y z v b c d e f g a r11.2.1 r53.2 r55.1>>=fun r57=>
 if r57 != 0 then
 none
 else
 some (r16.1,0,r55.2.1,r55.2.2)
 else
 none
 else
 none
 else
 none
theorem zNC{m n p q s t u w y z v b c d e f g a i j r}(h:m0 m n p q s t u w y z v b c d e f g a i j=some r):Ct 35 [qB n 1 s t,qR p q,.row (zF zZ a),.cells [ai i,ai j]] [.mp 0 0,.agg [zH zC u .no,ai w,ai y,zH zC z .no,ai v,ai b,ai c,zH zJ d .no,zH zC e .no,zH zC f .no,zH zV g .no,.ms 2 0 a.length a.length 4],.mp 3 0] (.tup [xF r.1,ai r.2.1]) [qB n 1 s t,qR p q,.row (zF zZ a),.cells [ai r.2.2.1,ai r.2.2.2]] 0:=⟨by
 unfold m0 at h
 obtain⟨r1,h2,h⟩:=zD h
 obtain⟨h3,h⟩:=xD h
 obtain⟨r4,h5,h⟩:=zD h
 have k:=oC 2 [] (c55 h5)<|oK 1 [0,1,2] h3 (zNa h2) o0
 obtain⟨h6,h⟩:=zT h
 obtain⟨r7,h8,h⟩:=zD h
 obtain⟨r9,h10,h⟩:=zD h
 obtain⟨r11,h12,h⟩:=zD h
 have k:=oC 1 [6,0,1,3,2] (zNA h12)<|oC 1 [] (c58 h10)<|oC 0 [0,1] (c56 h8)<|oB 2 h6 k
 obtain⟨h13,h⟩:=xD h
 obtain⟨r14,h15,h⟩:=zD h
 obtain⟨r16,h17,h⟩:=zD h
 have k:=oC 2 [6,0,1,3,2] (A4 h17)<|oC 1 [] (c60 h15)<|oB 2 h13 k
 obtain⟨h18,h⟩:=xD h
 obtain⟨r19,h20,h⟩:=zD h
 have k:=oC 1 [] (c61 h20)<|oB 2 h18 k
 obtain⟨h21,h⟩:=zT h
 obtain⟨r35,h36,h⟩:=zD h
 have k:=oC 1 [] (c62 h36)<|oB 0 h21 k
 obtain⟨h37,h⟩:=zT h
 obtain⟨r51,h52,h⟩:=zD h
 obtain⟨r53,h54,h⟩:=zD h
 obtain⟨r55,h56,h⟩:=zD h
 obtain⟨r57,h58,h⟩:=zD h
 have k:=oC 0 [6,0,1,3,2] (n7 h58)<|oC 0 [0,1,3] (c64 h56)<|oC 2 [6,0,1,3,2] (A4 h54)<|oC 2 [2] (zNB h52)<|oB 1 h18<|oB 1 h37 k
 obtain⟨h59,h⟩:=zT h
 cases h
 exact tF ⟨func35,rfl⟩ 2 [0,1,2,3] (oD (dT r16.1.sub)<|oD (zQ a)<|wS n p q s t<|oB 1 h59 k),⟨(lz rfl),⟨⟨tv,dT _⟩,tv,tv,⟨tv,dT _⟩,tv,tv,tv,⟨tv,zE _⟩,⟨tv,dT _⟩,⟨tv,dT _⟩,⟨tv,zM _⟩,(lz rfl),tv⟩,(lz rfl),tv⟩,(vY (lz rfl) (zA (zQ _) (zA ⟨tv,tv,tv⟩ zB))),⟨⟨tv,tv,dT _,tv⟩,tv,tv⟩,(vQ (lz rfl) (zA (zQ _) (zA ⟨tv,tv,tv⟩ zB)))⟩
def m1(c:Nat)(a:Int):Option (yD×Nat):=
 if decide (a<0)then
 none
 else
 if decide ((xE (a-0))>0)then
 gmk 192 (default:pN) (xE (a-0))>>=fun x3=>
 nN x3.length 0 0>>=fun x5=>
 some (x3,x5.2)
 else
 none
theorem zND{c a r}(h:m1 c a=some r):Ct 126 [] [zH yE ([]:yD) .nl,ai a] (.ms 0 0 r.2 r.1.length 15) [.row (zF yE r.1)] 0:=⟨by
 unfold m1 at h
 obtain⟨h1,h⟩:=zT h
 have k:=oB 0 h1 o0
 obtain⟨h2,h⟩:=xD h
 obtain⟨x3,h4,h⟩:=zD h
 obtain⟨x5,h6,h⟩:=zD h
 cases h
 exact tF ⟨func126,rfl⟩ 0 [0] (oD (dE x3)<|oA 1 (zKG (b:=0) (off:=0) (n:=List.length x3) h6)<|oMz 2 (zKI (of_decide_eq_true h2) h4)<|oB 4 h2 k),⟨⟨tv,dE _⟩,tv,tv⟩,zB,(lz rfl),(zA (dE _) zB)⟩
def zVE(b:Nat)(a:Int):Option Unit:=(m1 b a)>>=fun r=>if decide (r.2=0)=true then some ()else none
theorem zYM{b:Nat}{a:Int}{r:Unit}(h:zVE b a=some r):CT prog 126 [] [.sl (zF yE ([]:yD)) (List.length ([]:yD)) .nl,ai a] (.sl (zF yE ([]:yD)) (List.length ([]:yD)) (.st 0 15)) [] 1:=by
 obtain⟨x,h1,h⟩:=zD h
 obtain⟨h2,h⟩:=xD h
 exact CT.freezeZ (zND h1) (of_decide_eq_true h2)
def m6:Nat->(List yD)->Int->yD->Option yD
 |0,_,_,_=>none
 |b+1,a,c,e=>
 if decide (c<(a.length:Int))then
 yG a c>>=fun x8=>
 yV 192 e x8>>=fun l10=>
 m6 b a (xE (c+1)) l10
 else
 some e
def m7:Nat->(List yD)->Int->Int->Option yD
 |0,_,_,_=>none
 |b+1,a,d,f=>
 if decide (d<(a.length:Int))then
 yG a d>>=fun x2=>
 if decide ((xE (f+(x2.length:Int)))<0)then
 none
 else
 m7 b a (xE (d+1)) (xE (f+(x2.length:Int)))
 else
 zVE b f>>=fun r5=>
 m6 b a 0 []
def e67(b:Nat)(a:List yD):Option yD:=
 m7 b a 0 0
theorem zRM:∀b:Nat,(∀ {a c e r},m6 b a c e=some r->(∀j,dL 0 (pt 65461 f67) (sp j 36 0 [(6,zH yE e (.st 0 15)),(25,zH (yO yE) a .no),(26,ai (a.length:Int)),(27,ai c)]) (⟨[],0,[0],1,[]⟩) (fQ 0 (nQ 0 f67 (.sl (zF yE r) r.length .no) [] 0) [.blk 2,.seq (pt 1023 f67)]))):=by
 intro b
 induction b with
 |zero=>
  exact fun h=>nn h
 |succ b ih=>
  intro a c e r h
  rw[m6]at h
  obtain⟨h7,h⟩|⟨h7,h⟩:=xA h
  obtain⟨x8,h9,h⟩:=zD h
  obtain⟨l10,h11,h⟩:=zD h
  have k:=oA 0 (zNR (o:=.no) h9)<|oB 0 h7 o0
  by_cases h12:List.length x8=0
  exact fun j=>lH 1 [] [] [0] [6,25,26,27] (oD ((yP sP) a)<|oD (dE l10)<|oP 1 (zSf h11 h12) k) (ih h)
  exact fun j=>lH 1 [] [] [1] [6,25,26,27] (oD ((yP sP) a)<|oD (dE l10)<|oP 1 (zNN h11 h12) k) (ih h)
  obtain rfl:=sj h
  exact fun j=>lF 0 [] (oD (dE e)<|oB 0 h7 o0)
theorem zRN:∀b:Nat,(∀ {a d f r},m7 b a d f=some r->(∀j,dL 0 (pt 4021 f67) (sp j 36 0 [(0,zH (yO yE) a .no),(3,ai f),(9,zH (yO yE) a .no),(10,ai (a.length:Int)),(11,ai d)]) (⟨[],0,[],0,[]⟩) (fQ 0 (nQ 0 f67 (.sl (zF yE r) r.length .no) [] 0) [.blk 0,.seq (pt 63 f67)]))):=by
 intro b
 induction b with
 |zero=>
  exact fun h=>nn h
 |succ b ih=>
  intro a d f r h
  rw[m7]at h
  obtain⟨h1,h⟩|⟨h1,h⟩:=xA h
  obtain⟨x2,h3,h⟩:=zD h
  have k:=oA 0 (zNR (o:=.no) h3)<|oB 0 h1 o0
  obtain⟨h4,h⟩:=zT h
  exact fun j=>lH 1 [] [] [] [0,3,9,10,11] (oD ((yP sP) a)<|oD ((yP sP) a)<|oB 3 h4 k) (ih h)
  obtain⟨r5,h6,h⟩:=zD h
  exact fun j=>lH 1 [] [] [0] [6,25,26,27] (oD ((yP sP) a)<|oD (dE ([]:yD))<|oCx 0 [] (zYM h6)<|oB 0 h1 o0) (zRM _ h)
theorem c67{b a r}(h:e67 b a=some r):Ct 67 [] [zH (yO yE) a .no] (.sl (zF yE r) r.length .no) [] 0:=⟨by
 unfold e67 at h
 exact tH ⟨func67,rfl⟩ 1 [] [] [] [0,3,9,10,11] (oD ((yP sP) a)<|oD ((yP sP) a) o0) (zRN _ h),⟨⟨tv,(yP sP) _⟩,tv⟩,zB,dE _,zB⟩
def m9:Nat->yD->yD->(List (ByteArray×Int))->Int->Option (yD×Int)
 |0,_,_,_,_=>none
 |d+1,c,b,a,e=>
 if decide (e<(b.length:Int))then
 yG b e>>=fun x9=>
 if decide ((cB a x9.name)>0)then
 none
 else
 m9 d c b a (xE (e+1))
 else
 e67 d [c,b]>>=fun r12=>
 e66 d r12>>=fun r14=>
 if r14 then
 e68 d r12>>=fun r17=>
 some (r17,0)
 else
 none
def zDB(d:Nat)(c b:yD)(f:Int)(a:List (ByteArray×Int)):Option (yD×Int):=
 if decide (f<(c.length:Int))then
 none
 else
 m9 d c b a 0
def e36(d:Nat)(c b:yD):Option (yD×Int):=
 e66 d c>>=fun r1=>
 if r1 then
 if decide ((b.length:Int)>(xE (256-(c.length:Int))))then
 none
 else
 zDB d c b 0 ([]:List (ByteArray×Int))
 else
 none
theorem zRO:∀d:Nat,(∀ {c b a e r},m9 d c b a e=some r->(∀j,dL 0 (pt 262069 f36) (sp j 55 0 [(0,zH yE c .no),(1,zH yE b .no),(6,.obj 0),(34,zH yE b .no),(35,ai (b.length:Int)),(36,ai e)]) (⟨[(0,lQ a)],1,[],0,[]⟩) (fQ 0 (nQ 0 f36 (.tup [.sl (zF yE r.1) r.1.length .no,ai r.2]) [] 0) [.blk 2,.seq (pt 4095 f36)]))):=by
 intro d
 induction d with
 |zero=>
  exact fun h=>nn h
 |succ d ih=>
  intro c b a e r h
  rw[m9]at h
  obtain⟨h8,h⟩|⟨h8,h⟩:=xA h
  obtain⟨x9,h10,h⟩:=zD h
  have k:=oL 3 (zAA a x9.name)<|oA 0 (vF (o:=.no) h10)<|oB 0 h8 o0
  obtain⟨h11,h⟩:=zT h
  exact fun j=>lH 1 [] [0] [] [0,1,6,34,35,36] (oD (dE b)<|oD (dE b)<|oD (dE c)<|oB 0 h11 k) (ih h)
  obtain⟨r12,h13,h⟩:=zD h
  obtain⟨r14,h15,h⟩:=zD h
  have k:=oC 1 [] (c67 h13)<|oB 0 h8 o0
  obtain⟨h16,h⟩:=xD h
  obtain⟨r17,h18,h⟩:=zD h
  cases h
  exact fun j=>lF 0 [] (oD (dE r17)<|oC 1 [] (c68 h18)<|oK 0 [] h16 (c66 h15) k)
theorem zRP{d c b f a r}(h:zDB d c b f a=some r):(∀j,dL 0 (pt 65461 f36) (sp j 55 0 [(0,zH yE c .no),(1,zH yE b .no),(6,.obj 0),(22,zH yE c .no),(23,ai (c.length:Int)),(24,ai f)]) (⟨[(0,lQ a)],1,[],0,[]⟩) (fQ 0 (nQ 0 f36 (.tup [.sl (zF yE r.1) r.1.length .no,ai r.2]) [] 0) [.blk 0,.seq (pt 1023 f36)])):=by
 unfold zDB at h
 obtain⟨h5,h⟩:=zT h
 exact fun j=>lH 1 [] [0] [] [0,1,6,34,35,36] (oD (dE b)<|oD (dE b)<|oD (dE c)<|oB 0 h5 o0) (zRO _ h)
theorem c36{d c b r}(h:e36 d c b=some r):Ct 36 [] [zH yE c .no,zH yE b .no] (.tup [.sl (zF yE r.1) r.1.length .no,ai r.2]) [] 0:=⟨by
 unfold e36 at h
 obtain⟨r1,h2,h⟩:=zD h
 obtain⟨h3,h⟩:=xD h
 have k:=oK 0 [] h3 (c66 h2) o0
 obtain⟨h4,h⟩:=zT h
 exact tH ⟨func36,rfl⟩ 1 [] [0] [] [0,1,6,22,23,24] (oD (dE c)<|oD (dE b)<|oD (dE c)<|oB 4 h4 k) (zRP h),⟨⟨tv,dE _⟩,⟨tv,dE _⟩,tv⟩,zB,⟨dE _,tv,tv⟩,zB⟩
def e19(a:Nat)(b:yD)(c:wX)(d e:Int):Option (yD×Int×Int×Int×Int):=
 e26 a b c d e>>=fun r1=>
 n0 a r1.1 r1.2.2.2.2.2.2.2.2.2.2.2.2.2.2.2.2.2.2.2.2.2.2.2.2.2.2.2.2.2.2.2.1 r1.2.2.2.2.2.2.2.2.2.2.2.2.2.2.2.2.2.2.2.2.2.2.2.2.2.2.2.2.2.2.2.2.2.2.1 r1.2.2.2.2.2.2.2.2.2.2.2.2.2.2.2.2.2.2.2.2.2.2.2.2.2.2.2.2.2.2.2.2.2.2.2 r1.2.2.2.2.2.2.2.2.2.2.2.2.2.2.2.2.2.2.2.2.2.2.2.2.2.2.2.2.2.2.2.2.1 r1.2.2.2.2.2.2.2.2.2.2.2.2.2.2.2.2.2.2.2.2.2.2.2.2.2.2.2.2.2.2.2.2.2.1 r1.2.1 r1.2.2.1 r1.2.2.2.1 r1.2.2.2.2.1 r1.2.2.2.2.2.1 r1.2.2.2.2.2.2.1 r1.2.2.2.2.2.2.2.1 r1.2.2.2.2.2.2.2.2.1 r1.2.2.2.2.2.2.2.2.2.1 r1.2.2.2.2.2.2.2.2.2.2.1 r1.2.2.2.2.2.2.2.2.2.2.2.1 d e r1.2.2.2.2.2.2.2.2.2.2.2.2.1 r1.2.2.2.2.2.2.2.2.2.2.2.2.2.1 r1.2.2.2.2.2.2.2.2.2.2.2.2.2.2.1 r1.2.2.2.2.2.2.2.2.2.2.2.2.2.2.2.1 r1.2.2.2.2.2.2.2.2.2.2.2.2.2.2.2.2.1 r1.2.2.2.2.2.2.2.2.2.2.2.2.2.2.2.2.2.1 r1.2.2.2.2.2.2.2.2.2.2.2.2.2.2.2.2.2.2.1 r1.2.2.2.2.2.2.2.2.2.2.2.2.2.2.2.2.2.2.2.1 r1.2.2.2.2.2.2.2.2.2.2.2.2.2.2.2.2.2.2.2.2.1 r1.2.2.2.2.2.2.2.2.2.2.2.2.2.2.2.2.2.2.2.2.2.1 r1.2.2.2.2.2.2.2.2.2.2.2.2.2.2.2.2.2.2.2.2.2.2.1 r1.2.2.2.2.2.2.2.2.2.2.2.2.2.2.2.2.2.2.2.2.2.2.2.1 r1.2.2.2.2.2.2.2.2.2.2.2.2.2.2.2.2.2.2.2.2.2.2.2.2.1 r1.2.2.2.2.2.2.2.2.2.2.2.2.2.2.2.2.2.2.2.2.2.2.2.2.2.1 r1.2.2.2.2.2.2.2.2.2.2.2.2.2.2.2.2.2.2.2.2.2.2.2.2.2.2.1 r1.2.2.2.2.2.2.2.2.2.2.2.2.2.2.2.2.2.2.2.2.2.2.2.2.2.2.2.1 r1.2.2.2.2.2.2.2.2.2.2.2.2.2.2.2.2.2.2.2.2.2.2.2.2.2.2.2.2.1 r1.2.2.2.2.2.2.2.2.2.2.2.2.2.2.2.2.2.2.2.2.2.2.2.2.2.2.2.2.2.1 r1.2.2.2.2.2.2.2.2.2.2.2.2.2.2.2.2.2.2.2.2.2.2.2.2.2.2.2.2.2.2.1>>=fun r3=>
 if r3.2.2.2.2.2.2.2.2.2.2.2.2.2.2.2.2.2.1 != 0 then
 some ([],r3.2.2.2.2.2.2.2.2.2.2.2.2.2.2.2.2.2.2.1,r3.2.2.2.2.2.2.2.2.2.2.2.2.2.2.2.2.2.1,r3.2.2.2.2.2.2.2.2.2.2.2.2.2.2.2.2.2.2.2.1,r3.2.2.2.2.2.2.2.2.2.2.2.2.2.2.2.2.2.2.2.2)
 else
 m0 a r1.2.2.2.2.2.2.2.2.2.2.2.2.2.2.2.2.2.2.2.2.2.2.2.2.2.2.2.2.2.2.2.1 r1.2.2.2.2.2.2.2.2.2.2.2.2.2.2.2.2.2.2.2.2.2.2.2.2.2.2.2.2.2.2.2.2.2.2.1 r1.2.2.2.2.2.2.2.2.2.2.2.2.2.2.2.2.2.2.2.2.2.2.2.2.2.2.2.2.2.2.2.2.2.2.2 r1.2.2.2.2.2.2.2.2.2.2.2.2.2.2.2.2.2.2.2.2.2.2.2.2.2.2.2.2.2.2.2.2.1 r1.2.2.2.2.2.2.2.2.2.2.2.2.2.2.2.2.2.2.2.2.2.2.2.2.2.2.2.2.2.2.2.2.2.1 r3.1 r3.2.1 r3.2.2.1 r3.2.2.2.1 r3.2.2.2.2.2.2.2.1 r3.2.2.2.2.2.2.2.2.1 r3.2.2.2.2.2.2.2.2.2.1 r3.2.2.2.2.2.2.2.2.2.2.1 r3.2.2.2.2.2.2.2.2.2.2.2.1 r3.2.2.2.2.2.2.2.2.2.2.2.2.1 r3.2.2.2.2.2.2.2.2.2.2.2.2.2.1 r3.2.2.2.2.2.2.1 r3.2.2.2.2.2.2.2.2.2.2.2.2.2.2.2.2.2.2.2.1 r3.2.2.2.2.2.2.2.2.2.2.2.2.2.2.2.2.2.2.2.2>>=fun r6=>
 if r6.2.1 != 0 then
 none
 else
 e36 a b [(pN.mk 3 c.name_ (Tm.mk r3.2.2.2.2.2.2.2.2.2.2.2.2.2.2.1 r3.2.2.2.2.2.2.2.2.2.2.2.2.2.2.2.1 r3.2.2.2.2.2.2.2.2.2.2.2.2.2.2.2.2.1) r6.1 0 0 0 0 0 [] [])]>>=fun r9=>
 if r9.2 != 0 then
 none
 else
 some (r9.1,0,0,r6.2.2.1,r6.2.2.2)
theorem q19:Qf 19 Tryz.f19:=⟨func19,rfl⟩
theorem c19{a b c d e r}(h:e19 a b c d e=some r):Ct 19 [.cells [ai d,ai e]] [zH yE b .no,oO c,.mp 0 0] (.tup [.sl (zF yE r.1) r.1.length .no,ai r.2.1,ai r.2.2.1]) [.cells [ai r.2.2.2.1,ai r.2.2.2.2]] 0:=⟨by
 unfold e19 at h
 obtain⟨r1,h2,h⟩:=zD h
 obtain⟨r3,h4,h⟩:=zD h
 have k:=oC 0 [2,3,7,0,4,5,6,8] (zNc h4)<|oMl 1 (zSg [.clo 28 [.mp 2 0] [],.clo 29 [.mp 2 0] [],.clo 30 [.mp 2 0] [],.clo 31 [.mp 2 0] [],.clo 32 [.mp 2 0] [],.clo 33 [.mp 2 0] [],.clo 34 [.mp 2 0] []] 7)<|oC 1 [0] (c26 h2) o0
 obtain⟨h5,h⟩|⟨h5,h⟩:=xA h
 cases h
 exact tF q19 2 [0] (oD (dE ([]:yD))<|oB 1 h5 k)
 obtain⟨r6,h7,h⟩:=zD h
 have k:=oC 5 [3,7,11,0] (zNC h7)<|oB 1 h5 k
 obtain⟨h8,h⟩:=zT h
 obtain⟨r9,h10,h⟩:=zD h
 have k:=oC 4 [] (c36 h10)<|oB 3 h8 k
 obtain⟨h11,h⟩:=zT h
 cases h
 exact tF q19 0 [0] (oD (dE r9.1)<|oB 2 h11 k),⟨⟨tv,dE _⟩,⟨tv,tv,tv,⟨tv,yC _⟩,tv,tv,tv,tv,⟨tv,zL _⟩,⟨tv,yC _⟩,⟨tv,yT _⟩,tv⟩,(lz rfl),tv⟩,(zA ⟨tv,tv,tv⟩ zB),⟨dE _,tv,tv,tv⟩,(zA ⟨tv,tv,tv⟩ zB)⟩
def e5(a:Nat)(b:yD)(c:ByteArray)(d:Int):Option (yD×Int×Int):=
 e17 a c>>=fun r1=>
 if r1.2 then
 e18 a d>>=fun r4=>
 e19 a b r1.1 r4.2.1 r4.2.2>>=fun r6=>
 some (r6.1,r6.2.1,r6.2.2.1)
 else
 none
theorem c5{a b c d r}(h:e5 a b c d=some r):Ct 5 [] [zH yE b .no,at' c,ai d] (.tup [.sl (zF yE r.1) r.1.length .no,ai r.2.1,ai r.2.2]) [] 0:=⟨by
 unfold e5 at h
 obtain⟨r1,h2,h⟩:=zD h
 have k:=oC 0 [] (c17 h2) o0
 obtain⟨h3,h⟩:=xD h
 obtain⟨r4,h5,h⟩:=zD h
 obtain⟨r6,h7,h⟩:=zD h
 cases h
 exact tF ⟨func5,rfl⟩ 3 [] (oD (dE r6.1)<|oC 4 [1] (c19 h7)<|oC 1 [] (c18 h5)<|oB 1 h3 k),⟨⟨tv,dE _⟩,tv,tv,tv⟩,zB,⟨dE _,tv,tv,tv⟩,zB⟩
def e6(a:Nat)  : Option Bool:=
 e5 a [] (⟨#[100,101,102,32,102,32,58,32,83,101,116,32,49,32,45,62,32,83,101,116,32,49,32,123,32,120,32,61,32,120,59,32,125]⟩:ByteArray) 100>>=fun r1=>
 if r1.2.2==0 then
 if (r1.1.length:Int)==1 then
 yG r1.1 0>>=fun x5=>
 some (x5.kind==3)
 else
 none
 else
 none
theorem c6{a r}(h:e6 a  = some r):Ct 6 [] [] (ab r) [] 0:=⟨by
 unfold e6 at h
 obtain⟨r1,h2,h⟩:=zD h
 have k:=oC 0 [] (c5 h2) o0
 obtain⟨h3,h⟩:=xD h
 have k:=oB 3 h3 k
 obtain⟨h4,h⟩:=xD h
 obtain⟨x5,h6,h⟩:=zD h
 cases h
 exact tF ⟨func6,rfl⟩ 2 [] (oA 0 (vF (o:=.no) h6)<|oB 1 h4 k),tv,zB,tv,zB⟩
def e3(a:Nat)(b:U8):Option Bool:=
 e4 a>>=fun r1=>
 e5 a r1 (⟨#[100,101,102,32,107,32,58,32,40,65,32,58,32,83,101,116,41,32,45,62,32,40,120,32,58,32,65,41,32,45,62,32,40,80,32,58,32,69,113,32,65,32,120,32,120,32,45,62,32,83,101,116,41,32,45,62,32,80,32,40,114,101,102,108,32,65,32,120,41,32,45,62,32,40,101,32,58,32,69,113,32,65,32,120,32,120,41,32,45,62,32,80,32,101,32,123,32,65,32,120,32,80,32,112,32,114,101,102,108,32,61,32,112,59,32,125]⟩:ByteArray) 20000>>=fun r3=>
 if r3.2.2 != 12 then
 none
 else
 if r3.2.1 != 105 then
 none
 else
 yG [(⟨#[100,101,102,32,102,32,58,32,40,110,32,58,32,78,97,116,41,32,45,62,32,69,113,32,78,97,116,32,110,32,110,32,45,62,32,78,97,116,32,123,32,110,32,114,101,102,108,32,61,32,122,101,114,111,59,32,125]⟩:ByteArray),(⟨#[100,101,102,32,102,32,58,32,40,110,32,58,32,78,97,116,41,32,45,62,32,86,101,99,32,78,97,116,32,40,112,108,117,115,32,110,32,110,41,32,45,62,32,78,97,116,32,123,32,110,32,118,110,105,108,32,61,32,122,101,114,111,59,32,110,32,40,118,99,111,110,115,32,107,32,120,32,120,115,41,32,61,32,120,59,32,125]⟩:ByteArray),(⟨#[100,101,102,32,102,32,58,32,78,97,116,32,45,62,32,78,97,116,32,123,32,110,32,61,32,102,32,110,59,32,125]⟩:ByteArray),(⟨#[100,101,102,32,102,32,58,32,78,97,116,32,45,62,32,78,97,116,32,123,32,122,101,114,111,32,61,32,122,101,114,111,59,32,125]⟩:ByteArray),(⟨#[100,101,102,32,102,32,58,32,78,97,116,32,45,62,32,78,97,116,32,123,32,120,32,61,32,120,59,32,122,101,114,111,32,61,32,122,101,114,111,59,32,125]⟩:ByteArray),(⟨#[100,101,102,32,102,32,58,32,78,97,116,32,45,62,32,78,97,116,32,123,32,40,41,32,59,32,125]⟩:ByteArray)] (Int.tmod (xE (b)) 6)>>=fun x7=>
 e5 a r1 x7 20000>>=fun r9=>
 yG [12,13,14,10,11,17] (Int.tmod (xE (b)) 6)>>=fun x11=>
 if r9.2.2==x11 then
 e6 a>>=fun r14=>
 some r14
 else
 none
theorem c3{a b r}(h:e3 a b=some r):Ct 3 [] [.val (.int .u8 b)] (ab r) [] 0:=⟨by
 unfold e3 at h
 obtain⟨r1,h2,h⟩:=zD h
 obtain⟨r3,h4,h⟩:=zD h
 have k:=oC 0 [] (c5 h4)<|oC 0 [] (c4 h2) o0
 obtain⟨h5,h⟩:=zT h
 have k:=oB 3 h5 k
 obtain⟨h6,h⟩:=zT h
 obtain⟨x7,h8,h⟩:=zD h
 obtain⟨r9,h10,h⟩:=zD h
 obtain⟨x11,h12,h⟩:=zD h
 have k:=oA 3 (zWz (o:=.full) h12)<|oC 1 [] (c5 h10)<|oA 5 (zKE (o:=.full) h8)<|oB 0 h6 k
 obtain⟨h13,h⟩:=xD h
 obtain⟨r14,h15,h⟩:=zD h
 obtain rfl:=sj h
 exact tF ⟨func3,rfl⟩ 0 [] (oC 0 [] (c6 h15)<|oB 1 h13 k),⟨tv,tv⟩,zB,tv,zB⟩
end Go.Proofs.YthncfoeaibgmnaaGreat
namespace Go.Ab
open Go
theorem zRQ{x:Int}(h0:-9223372036854775808≤x)(h1:x≤9223372036854775807):xE x=x:=by
 show IntKind.i64.wrap x=x
 exact IntWalk.i64_in x ⟨h0,h1⟩
end Go.Ab
namespace Go.Proofs.YthncfoeaibgmnaaGreat
open Go Go.Ab Go.Proofs.Tryz
theorem evM(q:Nat)(n m:Int)(h:Int.tmod (xE n) 6=Int.tmod (xE m) 6):e3 q n=e3 q m:=by
 unfold e3
 simp only[h]
theorem ev0:e3 400 0=some true:=by kernel_rfl
theorem ev1:e3 400 1=some true:=by kernel_rfl
theorem ev2:e3 400 2=some true:=by kernel_rfl
theorem ev3:e3 400 3=some true:=by kernel_rfl
theorem ev4:e3 400 4=some true:=by kernel_rfl
theorem ev5:e3 400 5=some true:=by kernel_rfl
theorem zOx{x:Int}(h:(Lit.int .u8 x).wf=true):0≤x∧x<256:=by
 have e1:IntKind.u8.min=0:=rfl
 have e2:IntKind.u8.max=255:=rfl
 simp[Lit.wf]at h
 omega
theorem zGc{x:Int}(h:0≤x)(h2:x<256):xE x=x:=by
 exact zRQ (by omega) (by omega)
theorem evD(x:Int)(h:0≤x)(h2:x<256):e3 400 x=some true:=by
 have h1:Int.tmod x 6=0∨Int.tmod x 6=1∨Int.tmod x 6=2∨Int.tmod x 6=3∨Int.tmod x 6=4∨Int.tmod x 6=5:=by
  rw[Int.tmod_eq_emod_of_nonneg h];omega
 have hw:=zGc h h2
 rcases h1 with h1|h1|h1|h1|h1|h1
 ·exact(evM 400 x 0 (by rw[hw,h1];rfl)).trans ev0
 ·exact(evM 400 x 1 (by rw[hw,h1];rfl)).trans ev1
 ·exact(evM 400 x 2 (by rw[hw,h1];rfl)).trans ev2
 ·exact(evM 400 x 3 (by rw[hw,h1];rfl)).trans ev3
 ·exact(evM 400 x 4 (by rw[hw,h1];rfl)).trans ev4
 ·exact(evM 400 x 5 (by rw[hw,h1];rfl)).trans ev5
theorem zDC(x:Int)(w:(Lit.int .u8 x).wf=true):CT prog 3 [] [.val (.int .u8 x)] (ab true) [] 0:=
 c3 (evD x (zOx w).1 (zOx w).2)
end Go.Proofs.YthncfoeaibgmnaaGreat
namespace Go.Ab
open Go Go.RowKit
def rdG(W:World):Gh:=⟨fun _=>none,fun _=>none,fun b o=>∃v,W.cell? ⟨b,o,none⟩=some v,W,fun b=>b<W.heap.size,fun _=>False⟩
theorem zRR(W:World):yS (rdG W) (xB (wU 0) (gA [])) W:=by
 refine⟨fun _=>⟨fun _=>.inr rfl,fun _=>⟨rfl,id⟩,fun e=>e.elim⟩,⟨0,fun _ _=>rfl⟩,fun _ _ _ h=>?_,fun _ _ _ h=>?_,fun _ _ h=>⟨h,fun i e=>by cases e⟩,fun _ _=>rfl,fun _ h=>?_,fun _ _ _ _ _ _ _ h=>?_,wP.refl _ _,fun _ h=>h⟩
 ·cases h
 ·cases h
 ·cases h
 ·cases h
theorem zNE(W:World):nE (0:Nat) (rdG W):=⟨fun _ _=>⟨rfl,id⟩,fun _=>rfl,fun _ _ ⟨_,h⟩=>World.block_lt_of_cell? W _ h,trivial⟩
end Go.Ab
