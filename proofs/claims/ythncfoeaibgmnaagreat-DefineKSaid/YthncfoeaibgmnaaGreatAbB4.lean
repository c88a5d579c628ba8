/- Parts of the proof that the law returns true: walks of the functions, plain laws. -/
import Derived.Test.YthncfoeaibgmnaaGreatAbB3
set_option linter.unusedVariables false
set_option linter.unusedSimpArgs false
set_option linter.unusedSectionVars false
namespace Go.Proofs.YthncfoeaibgmnaaGreat
open Go Go.Ab Go.Proofs.Tryz
abbrev kAP (f:Func):Code:=gJ (gJ (uK (xH (xH (xH (wO f))))))
abbrev kCP (f:Func):Code:=xH (xH (xH (xH (wO f))))
abbrev j3 (j:Nat->Value) (ls:List L3) (r:List (Nat×AV)):List AV:=sp j 35 0 ((1,.mp 0 0)::(2,.mp 1 0)::(4,.sl (zF c3 ls) ls.length (.st 0 3))::(5,.mp 2 0)::r)
abbrev j4 (a b:List AV):xK:=⟨[(0,.cells a),(1,.cells [ai 0,ai 0,.sl [] 0 .nl]),(2,.cells b)],3,[0],1,[]⟩
abbrev lt3 (x:Tm) (q:Option Addr×Nat×Nat):List AV:=[.val (.int .i64 x.k),.val (.int .i64 x.n),.val (.slice q.1 q.2.1 q.2.2)]
abbrev E5 (G0:Gh):Nb:=⟨0,fun G=>G=G0⟩
abbrev E6 (x:Tm) (vs:List Value) (o:uI):List AV:=[ai x.k,ai x.n,.sl (vs.map .val) x.sub.length o]
theorem zWS(j:Nat->Value)(ls:List L3)(x:Tm)(u:List AV)(vs:List Value)(o:uI):tY prog uQ 3000 (.run (gJ (gJ (uK (xH (xH (xH (wO f265)))))))) [] (j3 j ls []) (j4 u (E6 x vs o)) [.no,.bit false]=some (.fin (.exit 0),(j3 j ls [(7,.mp 2 0),(8,ai x.k),(9,ab false),(10,ab false),(11,.val undef),(12,.val undef),(13,.val undef),(14,.val undef),(15,ab false)]),(j4 u (E6 x vs o)),[],[.bit (x.k==5) false]):=by kernel_rfl
theorem zWT(j:Nat->Value)(ls:List L3)(x:Tm)(u:List AV)(vs:List Value)(o:uI):(oE prog uQ (xX (uK (xH (xH (xH (xH (wO f265))))))) ((xX (uK (xH (xH (xH (xH (wO f265))))))).toList.take 1) 0 (j3 j ls [(7,.mp 2 0),(8,ai x.k),(9,ab false),(10,ab false),(11,.val undef),(12,.val undef),(13,.val undef),(14,.val undef),(15,ab false)]) (j4 u (E6 x vs o)) []).map Prod.snd=some ((j3 j ls [(7,.mp 2 0),(8,ai x.k),(9,ab false),(10,ab false),(11,.val undef),(12,.val undef),(13,.val undef),(14,.val undef),(15,ab false),(31,.sl (zF c3 ls) ls.length (.st 0 3))]),(j4 u (E6 x vs o)),[],[]):=by kernel_rfl
theorem zWU(j i:Nat->Value)(ls:List L3)(l:zW)(x:Tm)(u:List AV)(vs:List Value)(o:uI):(oE prog uQ (xX (uK (xH (xH (xH (xH (wO f265))))))) ((xX (uK (xH (xH (xH (xH (wO f265))))))).toList.drop 2) 2 (eset (tells [(4,.sl (zF zC l.reverse) l.length .no)] (mutEnv [1,2] i (j3 j ls [(7,.mp 2 0),(8,ai x.k),(9,ab false),(10,ab false),(11,.val undef),(12,.val undef),(13,.val undef),(14,.val undef),(15,ab false),(31,.sl (zF c3 ls) ls.length (.st 0 3))]) 0)) (some 32) (.tup [])) (sE [1,2] (j4 u (E6 x vs o))) []).map Prod.snd=some ((sp j 35 0 [(1,.val (i 1)),(2,.mp 1 0),(4,.sl (zF zC l.reverse) l.length .no),(5,.mp 2 0),(7,.mp 2 0),(8,ai x.k),(9,ab false),(10,ab false),(11,.val undef),(12,.val undef),(13,.val undef),(14,.val undef),(15,ab false),(31,.val (i 31)),(32,.tup [])]),⟨[(1,.cells [ai 0,ai 0,.sl [] 0 .nl]),(2,.cells (E6 x vs o))],3,[],0,[]⟩,[],[]):=by kernel_rfl
theorem zWV(j i:Nat->Value)(l:zW)(x:Tm)(vs:List Value)(o:uI):jK prog uQ 0 f265 3000 (.run (xH (xH (xH (xH (xH (wO f265))))))) [] (sp j 35 0 [(1,.val (i 1)),(2,.mp 1 0),(4,.sl (zF zC l.reverse) l.length .no),(5,.mp 2 0),(7,.mp 2 0),(8,ai x.k),(9,ab false),(10,ab false),(11,.val undef),(12,.val undef),(13,.val undef),(14,.val undef),(15,ab false),(31,.val (i 31)),(32,.tup [])]) ⟨[(1,.cells [ai 0,ai 0,.sl [] 0 .nl]),(2,.cells (E6 x vs o))],3,[],0,[]⟩ [.no,.no] [] [] [] false=some (.tup [.agg [ai x.k,ai x.n,.sl (vs.map .val) x.sub.length .no],.sl (zF zC l.reverse) l.length .no],[],[.data (vs.map .val),.data (zF zC l.reverse)]):=by kernel_rfl
theorem zWW(j:Nat->Value)(ls:List L3)(x:Tm)(u:List AV)(vs:List Value)(o:uI):tY prog uQ 3000 (.run (gJ (gJ (uK (xH (xH (xH (wO f265)))))))) [] (j3 j ls []) (j4 u (E6 x vs o)) [.no,.bit true,.no,.no,.bit false]=some (.fin (.exit 0),(j3 j ls [(7,.mp 2 0),(8,ai x.k),(9,ab true),(10,ab true),(11,.mp 2 2),(12,.sl (vs.map .val) x.sub.length o),(13,ai (x.sub.length:Int)),(14,ab false),(15,ab false)]),(j4 u (E6 x vs o)),[],[.bit (x.k==5) true,.bit ((x.sub.length:Int)==2) false]):=by kernel_rfl
theorem zWX(j:Nat->Value)(ls:List L3)(x:Tm)(u:List AV)(vs:List Value)(o:uI):(oE prog uQ (xX (uK (xH (xH (xH (xH (wO f265))))))) ((xX (uK (xH (xH (xH (xH (wO f265))))))).toList.take 1) 0 (j3 j ls [(7,.mp 2 0),(8,ai x.k),(9,ab true),(10,ab true),(11,.mp 2 2),(12,.sl (vs.map .val) x.sub.length o),(13,ai (x.sub.length:Int)),(14,ab false),(15,ab false)]) (j4 u (E6 x vs o)) []).map Prod.snd=some ((j3 j ls [(7,.mp 2 0),(8,ai x.k),(9,ab true),(10,ab true),(11,.mp 2 2),(12,.sl (vs.map .val) x.sub.length o),(13,ai (x.sub.length:Int)),(14,ab false),(15,ab false),(31,.sl (zF c3 ls) ls.length (.st 0 3))]),(j4 u (E6 x vs o)),[],[]):=by kernel_rfl
theorem zWY(j i:Nat->Value)(ls:List L3)(l:zW)(x:Tm)(u:List AV)(vs:List Value)(o:uI):(oE prog uQ (xX (uK (xH (xH (xH (xH (wO f265))))))) ((xX (uK (xH (xH (xH (xH (wO f265))))))).toList.drop 2) 2 (eset (tells [(4,.sl (zF zC l.reverse) l.length .no)] (mutEnv [1,2] i (j3 j ls [(7,.mp 2 0),(8,ai x.k),(9,ab true),(10,ab true),(11,.mp 2 2),(12,.sl (vs.map .val) x.sub.length o),(13,ai (x.sub.length:Int)),(14,ab false),(15,ab false),(31,.sl (zF c3 ls) ls.length (.st 0 3))]) 0)) (some 32) (.tup [])) (sE [1,2] (j4 u (E6 x vs o))) []).map Prod.snd=some ((sp j 35 0 [(1,.val (i 1)),(2,.mp 1 0),(4,.sl (zF zC l.reverse) l.length .no),(5,.mp 2 0),(7,.mp 2 0),(8,ai x.k),(9,ab true),(10,ab true),(11,.mp 2 2),(12,.val (i 12)),(13,ai (x.sub.length:Int)),(14,ab false),(15,ab false),(31,.val (i 31)),(32,.tup [])]),⟨[(1,.cells [ai 0,ai 0,.sl [] 0 .nl]),(2,.cells (E6 x vs o))],3,[],0,[]⟩,[],[]):=by kernel_rfl
theorem zWZ(j i:Nat->Value)(l:zW)(x:Tm)(vs:List Value)(o:uI):jK prog uQ 0 f265 3000 (.run (xH (xH (xH (xH (xH (wO f265))))))) [] (sp j 35 0 [(1,.val (i 1)),(2,.mp 1 0),(4,.sl (zF zC l.reverse) l.length .no),(5,.mp 2 0),(7,.mp 2 0),(8,ai x.k),(9,ab true),(10,ab true),(11,.mp 2 2),(12,.val (i 12)),(13,ai (x.sub.length:Int)),(14,ab false),(15,ab false),(31,.val (i 31)),(32,.tup [])]) ⟨[(1,.cells [ai 0,ai 0,.sl [] 0 .nl]),(2,.cells (E6 x vs o))],3,[],0,[]⟩ [.no,.no] [] [] [] false=some (.tup [.agg [ai x.k,ai x.n,.sl (vs.map .val) x.sub.length .no],.sl (zF zC l.reverse) l.length .no],[],[.data (vs.map .val),.data (zF zC l.reverse)]):=by kernel_rfl
theorem spC(j:Nat->Value)(p0:Tm)(q0:Option Addr×Nat×Nat)(ls:List L3)(x:Tm)(vs:List Value)(o:uI):jK prog uQ 0 f265 3000 (.run (gJ (gJ (uK (xH (xH (xH (wO f265)))))))) [.loop (gJ (gJ (uK (xH (xH (xH (wO f265))))))),.blk 0,.seq (xH (xH (xH (xH (wO f265)))))] (j3 j ls []) (j4 (lt3 p0 q0) (E6 x vs o)) [.no,.bit true,.no,.no,.bit true,.no,.bit true,.no,.no] [] [] [] false=some (.tup [.agg (lt3 p0 q0),.sl [] 0 .no],[],[.bit (x.k==5) true,.bit ((x.sub.length:Int)==2) true,.bit (decide ((ls.length:Int)≥8192)) true,.data []]):=by kernel_rfl
theorem spD(i j:Nat->Value)(k n:Int)(a b:Tm)(qa qb:Option Addr×Nat×Nat)(u0 u1 u2:Value)(ls ls2:List L3)(o:uI):lM prog uQ 0 3000 (.run (gJ (gJ (uK (xH (xH (xH (wO f265)))))))) [.loop (gJ (gJ (uK (xH (xH (xH (wO f265))))))),.blk 0,.seq (xH (xH (xH (xH (wO f265)))))] (j3 j ls []) (j4 [.val u0,.val u1,.val u2] [ai k,ai n,.sl [.val (.int .i64 a.k),.val (.int .i64 a.n),.val (.slice qa.1 qa.2.1 qa.2.2),.val (.int .i64 b.k),.val (.int .i64 b.n),.val (.slice qb.1 qb.2.1 qb.2.2)] 2 o]) [.no,.bit true,.no,.no,.bit true,.no,.bit false,.no,.no,.no,.no,.app (zF c3 ls2) ls2.length 3 false,.no,.no,.no,.no] [] [0,1,2] [1] [1,2,4,5] i=some (gJ (gJ (uK (xH (xH (xH (wO f265)))))),[.blk 0,.seq (xH (xH (xH (xH (wO f265)))))],(j3 i ls2 []),(j4 [.val u0,.val u1,.val u2] [.val (.int .i64 a.k),.val (.int .i64 a.n),.val (.slice qa.1 qa.2.1 qa.2.2)]),[.bit (k==5) true,.bit ((2:Int)==2) true,.bit (decide ((ls.length:Int)≥8192)) false,.app 31 31 (zF c3 ls) [.val (.int .i64 b.k),.val (.int .i64 b.n),.val (.slice qb.1 qb.2.1 qb.2.2)] (zF c3 ls2) ls.length 1 ls2.length 3 false,.data [],.data (zF c3 ls2)]):=by kernel_rfl
theorem spE(i:Nat->Value)(u0 u1:Int)(u2:Option Addr×Nat×Nat):lM prog uQ 0 3000 (.run (wO f265)) [] ([.agg [.val (.int .i64 u0),.val (.int .i64 u1),.val (.slice u2.1 u2.2.1 u2.2.2)]]++List.replicate (f265.ntmps-1) (.val undef)) (gA []) [.no,.no] [(none,4,3)] [0,1,2] [0] [1,2,4,5] i=some (gJ (gJ (uK (xH (xH (xH (wO f265)))))),[.blk 0,.seq (xH (xH (xH (xH (wO f265)))))],(sp i 35 0 [(1,.mp 0 0),(2,.mp 1 0),(4,.sl [] 0 (.st 0 3)),(5,.mp 2 0)]),⟨[(0,.cells [.val (.int .i64 u0),.val (.int .i64 u1),.val (.slice u2.1 u2.2.1 u2.2.2)]),(1,.cells [ai 0,ai 0,.sl [] 0 .nl]),(2,.cells [.val (.int .i64 u0),.val (.int .i64 u1),.val (.slice u2.1 u2.2.1 u2.2.2)])],3,[0],1,[]⟩,[.data [],.data []]):=by kernel_rfl
def sv(x:Tm)(q:Option Addr×Nat×Nat):List Value:=[.int .i64 x.k,.int .i64 x.n,.slice q.1 q.2.1 q.2.2]
def sv3(x:Tm)(q:Option Addr×Nat×Nat):L3:=⟨.int .i64 x.k,.int .i64 x.n,.slice q.1 q.2.1 q.2.2,rfl,rfl,rfl⟩
theorem VL.split{G:Gh}{w:World}:∀(cs bs:List AV) (us:List Value),VL G w (cs++bs) us->∃u1 u2,us=u1++u2∧VL G w cs u1∧VL G w bs u2
 | [],bs,us,h=>⟨[],us,rfl,by simp only[VL],h⟩
 |a::cs,bs,[],h=>by simp only[List.cons_append,VL]at h
 |a::cs,bs,u::us,h=>by
  simp only[List.cons_append,VL]at h
  obtain⟨u1,u2,rfl,h1,h2⟩:=VL.split cs bs us h.2
  exact⟨u::u1,u2,rfl,by simp only[VL];exact⟨h.1,h1⟩,h2⟩
theorem zIp{G:Gh}{w:World}{x:Tm}{us:List Value}(h:VL G w (cK x) us):∃q,us=sv x q:=by
 unfold cK at h
 match us,h with
 | [],h=>simp only[VL]at h
 | [_],h=>simp only[VL,and_false]at h
 | [_,_],h=>simp only[VL,and_false]at h
 | [u0,u1,u2],h=>
  simp only[VL,and_true]at h
  obtain⟨h0,h1,h2⟩:=h
  simp only[V]at h0 h1 h2
  obtain⟨cap,_,⟨_,_,_,h,_⟩|⟨b,off,h,_⟩⟩:=h2
  ·obtain⟨p,h⟩:∃p,u2 = .slice p 0 0:=⟨_,h⟩
   exact⟨(p,0,0),by simp[sv,h0,h1,h]⟩
  ·exact⟨(some ⟨b,off,none⟩,x.sub.length,cap),by simp[sv,h0,h1,h]⟩
 |_::_::_::_::_,h=>simp only[VL,and_false]at h
theorem VC.lit{G G':Gh}{w w':World}(b:Nat)(hL:∀o,G.L b o->G'.L b o)(hc:∀o,w'.cell? ⟨b,o,none⟩=w.cell? ⟨b,o,none⟩):∀(vs:List Value) (off:Nat),VC G w (vs.map .val) b off->VC G' w' (vs.map .val) b off
 | [],_,_=>by simp only[List.map_nil,VC]
 |v::vs,off,h=>by
  simp only[List.map_cons,VC]at h ⊢
  obtain⟨h1,⟨u,h2,h3⟩,h4⟩:=h
  exact⟨hL _ h1,⟨u,(hc _).trans h2,by simpa only[V]using h3⟩,VC.lit b hL hc vs (off+1) h4⟩
theorem zTP{G:Gh}{w:World}{vs:List Value}{n:Nat}{o:uI}{u:Value}{es:List AV}(h:V G w (.sl (vs.map .val) n o) u)(he:VL G w es vs):V G w (.sl es n .no) u:=by
 simp only[V]at h ⊢
 obtain⟨cap,hc,⟨h1,h2,h3,h4,_⟩|⟨b,off,h1,h2,_⟩⟩:=h
 ·have hv:vs=[]:=by simpa using h1
  subst hv
  have:=VL.length _ _ he
  exact⟨cap,hc,.inl ⟨List.length_eq_zero_iff.1 this.symm,h2,h3,h4,trivial⟩⟩
 ·refine⟨cap,hc,.inr ⟨b,off,h1,?_,trivial⟩⟩
  obtain⟨us,q1,q2⟩:=VC.cells _ _ _ h2
  have:=VL.litEq _ _ q1
  subst this
  exact VC.of_cells es us b off he (fun i hi=>(VC.cell _ _ _ i (.val us[i]) h2 (by simp[hi])).1) q2
theorem zLf{na:Nb}{G0:Gh}{w:World}(hB:nE na G0){x:Tm}{q:Option Addr×Nat×Nat}(h:VL G0 w (cK x) (sv x q)) :
  ∃(vs:List Value) (o:uI),VL G0 w (zF zC x.sub) vs∧VL G0 w (E6 x vs o) (sv x q)∧yW.lit (.cells (E6 x vs o)):=by
 unfold cK sv at h
 simp only[VL,and_true]at h
 obtain⟨_,_,h2⟩:=h
 have key:∃(vs:List Value) (o:uI),VL G0 w (zF zC x.sub) vs∧V G0 w (.sl (vs.map .val) x.sub.length o) (.slice q.1 q.2.1 q.2.2) ∧
   ∀(G G':Gh) (w w':World) (u:Value),G'.F=G.F->(∀b o,G.F b->G.L b o->G'.L b o)->(∀b o,G.F b->w'.cell? ⟨b,o,none⟩=w.cell? ⟨b,o,none⟩)->V G w (.sl (vs.map .val) x.sub.length o) u->V G' w' (.sl (vs.map .val) x.sub.length o) u:=by
  simp only[V]at h2
  obtain⟨cap,hc,⟨h1,h2,h3,h4,_⟩|⟨b,off,h1,h2,_⟩⟩:=h2
  ·refine⟨[],.no,by rw[h1];simp only[VL],?_,?_⟩
   ·simp only[V];exact⟨cap,hc,.inl ⟨rfl,h2,h3,h4,trivial⟩⟩
   ·intro G G' w w' u _ _ _ hu
    rw[h2]at hu ⊢
    exact V.none hu
  ·obtain⟨vs,q1,q2⟩:=VC.cells _ _ _ h2
   have hL:∀i,i<vs.length->G0.L b (off+i):=by
    intro i hi
    have hl:=VL.length _ _ q1
    exact(VC.cell _ _ _ i ((zF zC x.sub)[i]'(by omega)) h2 (by rw[List.getElem?_eq_getElem])).1
   have hcl:VC G0 w (vs.map .val) b off:=VC.of_cells _ vs b off (VL.lits vs) hL q2
   by_cases hs:vs=[]
   ·subst hs
    have hl:=VL.length _ _ q1
    have hfl:=wQ xM.len x.sub
    have h0:x.sub.length=0:=by simp at hl;omega
    refine⟨[],.no,q1,?_,?_⟩
    ·simp only[V];exact⟨cap,hc,.inr ⟨b,off,h1,hcl,trivial⟩⟩
    ·intro G G' w w' u _ _ _ hu
     rw[h0]at hu ⊢
     exact V.none hu
   ·have hF:G0.F b:=hB.LF b (off+0) (hL 0 (List.length_pos_iff.2 hs))
    refine⟨vs,.fr,q1,?_,?_⟩
    ·simp only[V];exact⟨cap,hc,.inr ⟨b,off,h1,hcl,hF⟩⟩
    ·intro G G' w w' u e1 e2 e3 hu
     simp only[V]at hu ⊢
     obtain⟨cap',hc',⟨p1,p2,p3,p4,_⟩|⟨b',off',p1,p2,p3⟩⟩:=hu
     ·exact⟨cap',hc',.inl ⟨p1,p2,p3,p4,trivial⟩⟩
     ·have p3':G.F b':=p3
      exact⟨cap',hc',.inr ⟨b',off',p1,VC.lit b' (fun o h=>e2 b' o p3' h) (fun o=>e3 b' o p3') vs off' p2,by show G'.F b';rw[e1];exact p3'⟩⟩
 obtain⟨vs,o,k1,k2,k3⟩:=key
 refine⟨vs,o,k1,?_,?_⟩
 ·simp only[sv,VL,V];simp only[V]at k2;exact⟨trivial,trivial,k2,trivial⟩
 ·intro G G' w w' us e1 e2 e3 hu
  match us,hu with
  | [],hu=>simp only[VL]at hu
  | [_],hu=>simp only[VL,and_false]at hu
  | [_,_],hu=>simp only[VL,and_false]at hu
  | [u0,u1,u2],hu=>
   simp only[VL,and_true]at hu ⊢
   exact⟨by simpa only[V]using hu.1,by simpa only[V]using hu.2.1,k3 G G' w w' u2 e1 e2 e3 hu.2.2⟩
  |_::_::_::_::_,hu=>simp only[VL,and_false]at hu
theorem zTQ:yW.lit (.cells [ai 0,ai 0,.sl [] 0 .nl]):=by
 intro G G' w w' us e1 e2 e3 hu
 match us,hu with
 | [],hu=>simp only[VL]at hu
 | [_],hu=>simp only[VL,and_false]at hu
 | [_,_],hu=>simp only[VL,and_false]at hu
 | [u0,u1,u2],hu=>
  simp only[VL,and_true]at hu ⊢
  refine⟨by simpa only[V]using hu.1,by simpa only[V]using hu.2.1,?_⟩
  have:=hu.2.2
  simp only[V]at this ⊢
  obtain⟨cap,h1,⟨_,_,h2,h3,h4⟩|⟨b,off,h2,_,h3⟩⟩:=this
  ·exact⟨cap,h1,.inl ⟨trivial,trivial,h2,h3,h4⟩⟩
  ·exact h3.elim
 |_::_::_::_::_,hu=>simp only[VL,and_false]at hu
def zPK(G0:Gh)(res:AV)(r:Tm×zW):Prop:=∀W G' W',wK G0 W G' W'->wP G'.F G'.w0 W'->∀u,V G' W' res u->V G' W' (.tup [xF r.1,.sl (zF zC r.2) r.2.length .no]) u
def eT(p0:Tm):Tm->zW->Option (Tm×zW)
 | .mk k n [a,b],l=>
  if (k==5)=true then
   if decide ((l.length:Int)≥8192)=true then some (p0,[])else(yV 40 l [b])>>=fun l2=>eT p0 a l2
  else some (.mk k n [a,b],l.reverse)
 |x,l=>some (x,l.reverse)
def zTR(p0:Tm):Option (Tm×zW):=eT p0 p0 []
theorem zIo:∀vs:List Value,AV.DataL (vs.map .val)
 | []=>trivial
 |_::vs=>⟨trivial,zIo vs⟩
theorem VL.rev{G:Gh}{w:World}:∀(l:zW) (ls:List L3),VL G w (zF zC l) (tC ls)->ls.length=l.length->VL G w (zF zC l.reverse) (tC ls.reverse)
 | [],[],_,_=>by simp[zF,tC,VL]
 |x::l,y::ls,h,hl=>by
  simp only[zF,tC,List.flatMap_cons]at h
  obtain⟨u1,u2,e,h1,h2⟩:=VL.split _ _ _ h
  have n1:=VL.length _ _ h1
  rw[xM.len]at n1
  obtain⟨rfl,rfl⟩:=List.append_inj e (by rw[n1];rfl)
  have ih:=VL.rev l ls h2 (by simpa using hl)
  simp only[List.reverse_cons,zF,tC,List.flatMap_append,List.flatMap_cons,List.flatMap_nil,List.append_nil]
  exact VL.append _ _ _ _ ih h1
 | [],_::_,_,h=>by simp at h
 |_::_,[],_,h=>by simp at h
theorem U9{na:Nb}{G0:Gh}(hB:nE na G0){x:Tm}{l:zW}{vs:List Value}(v1:VL G0 G0.w0 (zF zC x.sub) vs)(hn:na.n=0:=by first|rfl|assumption):zPK G0 (.tup [.agg [ai x.k,ai x.n,.sl (vs.map .val) x.sub.length .no],.sl (zF zC l.reverse) l.length .no]) (x,l.reverse):=by
 intro W G' W' hE hK u hu
 have v:=VL.later hB hE hK v1
 simp only[V,VL]at hu
 obtain⟨us,rfl,hus⟩:=hu
 match us,hus with
 | [],h=>simp only[VL]at h
 | [_],h=>simp only[VL,and_false]at h
 | [ua,ub],h=>
  simp only[VL,and_true]at h
  obtain⟨h1,h2⟩:=h
  simp only[V]at h1
  obtain⟨ws,rfl,hws⟩:=h1
  match ws,hws with
  | [],h=>simp only[VL]at h
  | [_],h=>simp only[VL,and_false]at h
  | [_,_],h=>simp only[VL,and_false]at h
  | [w0,w1,w2],h=>
   simp only[VL,and_true]at h
   obtain⟨g0,g1,g2⟩:=h
   have g3:=zTP g2 v
   simp only[V]
   refine⟨[.agg #[w0,w1,w2],ub],rfl,?_⟩
   simp only[VL,and_true]
   refine⟨?_,by simpa using h2⟩
   simp only[xF,V]
   exact⟨[w0,w1,w2],rfl,by simp only[cK,VL,and_true];exact⟨g0,g1,g3⟩⟩
  |_::_::_::_::_,h=>simp only[VL,and_false]at h
 |_::_::_::_,h=>simp only[VL,and_false]at h
theorem zFK{na:Nb}{G0:Gh}(hB:nE na G0){x:Tm}{q:Option Addr×Nat×Nat}(h0:VL G0 G0.w0 (cK x) (sv x q))(hn:na.n=0:=by first|rfl|assumption):zPK G0 (.tup [.agg (lt3 x q),.sl [] 0 .no]) (x,[]):=by
 intro W G' W' hE hK u hu
 have v:=VL.later hB hE hK h0
 simp only[V,VL]at hu
 obtain⟨us,rfl,hus⟩:=hu
 match us,hus with
 | [],h=>simp only[VL]at h
 | [_],h=>simp only[VL,and_false]at h
 | [ua,ub],h=>
  simp only[VL,and_true]at h
  obtain⟨h1,h2⟩:=h
  simp only[V]at h1
  obtain⟨ws,rfl,hws⟩:=h1
  have hw:ws=sv x q:=VL.litEq (sv x q) ws hws
  subst hw
  simp only[V]
  refine⟨[.agg (sv x q).toArray,ub],rfl,?_⟩
  simp only[VL,and_true]
  refine⟨?_,by simpa[zF]using h2⟩
  simp only[xF,V]
  exact⟨sv x q,rfl,v⟩
 |_::_::_::_,h=>simp only[VL,and_false]at h
theorem zXz{G0:Gh}{p0 x:Tm}{q0:Option Addr×Nat×Nat}{l:zW}{ls:List L3}{vs:List Value}{o:uI}(j:Nat->Value)(hlit:yW.lit (.cells (E6 x vs o)))(hl:VL G0 G0.w0 (zF zC l) (tC ls))(hlen:ls.length=l.length)(h8:l.length≤8192) :
  Dv prog (E5 G0) (xH (xH (xH (xH (wO f265))))) (j3 j ls [(7,.mp 2 0),(8,ai x.k),(9,ab false),(10,ab false),(11,.val undef),(12,.val undef),(13,.val undef),(14,.val undef),(15,ab false)]) (j4 (lt3 p0 q0) (E6 x vs o)) (nQ (E5 G0) f265 (.tup [.agg [ai x.k,ai x.n,.sl (vs.map .val) x.sub.length .no],.sl (zF zC l.reverse) l.length .no]) [] 0):=by
 have k1:g4 (xH (xH (xH (xH (wO f265)))))=1:=by kernel_rfl
 have k3:lP (uK (xH (xH (xH (xH (wO f265))))))=true:=by kernel_rfl
 have k4:C6 (xX (uK (xH (xH (xH (xH (wO f265)))))))[1]? = some (some 32,253,#[.tmp 31]):=by kernel_rfl
 have k5:(f253.name == "runtime.NumGoroutine")=false:=by kernel_rfl
 have k6:f253.body.isNone=false:=by kernel_rfl
 refine Dv.seqP k1 ?_
 obtain⟨id,k7⟩:=zFm k3
 rw[k7]
 refine Dv.mut wC (na:=(E5 G0)) rfl 1 [1,2] [(4,.sl (zF zC l.reverse) l.length .no)] (.tup []) (zWT j ls x _ vs o) yR.nil k4 func253 k5 k6 ?_ ?_ (fun i=>zWU j i ls l x _ vs o) yR.nil ?_
 ·intro i X hm hX
  have:i=1∨i=2:=by simpa using wY.1 hm
  rcases this with rfl|rfl
  ·cases hX;exact zTQ
  ·cases hX;exact hlit
 ·intro G1 W hB' G w hE hR u hu
  have e:=hB'.κ
  subst e
  refine(zAx (l:=ls) hR (by rfl) (by omega) hu).mono ?_
  rintro e w' ⟨v,b,S,e1,e2,e3,e4,e5,e6,e7⟩
  refine⟨v,b,S,e1,e2,e3,e4,e5,fun G' hE' hK' hS=>⟨by subst e6;simp only[V];exact⟨[],rfl,by simp only[VL]⟩,?_⟩⟩
  intro p hp u' hu'
  have hp':=List.mem_singleton.1 hp
  subst hp'
  have:=e7 G' hS _ (VL.later hB' hE' hK' (VL.rev l ls hl hlen)) u' hu'
  rw[hlen]at this
  exact this
 ·intro i
  exact nG (na:=(E5 G0)) wC mixed (zWV j i l x vs o) (yR.cons (sD (zIo vs)) (yR.cons (sD (dT _)) yR.nil)) (by decide)
theorem zXy{G0:Gh}{p0 x:Tm}{q0:Option Addr×Nat×Nat}{l:zW}{ls:List L3}{vs:List Value}{o:uI}(j:Nat->Value)(hlit:yW.lit (.cells (E6 x vs o)))(hl:VL G0 G0.w0 (zF zC l) (tC ls))(hlen:ls.length=l.length)(h8:l.length≤8192) :
  Dv prog (E5 G0) (xH (xH (xH (xH (wO f265))))) (j3 j ls [(7,.mp 2 0),(8,ai x.k),(9,ab true),(10,ab true),(11,.mp 2 2),(12,.sl (vs.map .val) x.sub.length o),(13,ai (x.sub.length:Int)),(14,ab false),(15,ab false)]) (j4 (lt3 p0 q0) (E6 x vs o)) (nQ (E5 G0) f265 (.tup [.agg [ai x.k,ai x.n,.sl (vs.map .val) x.sub.length .no],.sl (zF zC l.reverse) l.length .no]) [] 0):=by
 have k1:g4 (xH (xH (xH (xH (wO f265)))))=1:=by kernel_rfl
 have k3:lP (uK (xH (xH (xH (xH (wO f265))))))=true:=by kernel_rfl
 have k4:C6 (xX (uK (xH (xH (xH (xH (wO f265)))))))[1]? = some (some 32,253,#[.tmp 31]):=by kernel_rfl
 have k5:(f253.name == "runtime.NumGoroutine")=false:=by kernel_rfl
 have k6:f253.body.isNone=false:=by kernel_rfl
 refine Dv.seqP k1 ?_
 obtain⟨id,k7⟩:=zFm k3
 rw[k7]
 refine Dv.mut wC (na:=(E5 G0)) rfl 1 [1,2] [(4,.sl (zF zC l.reverse) l.length .no)] (.tup []) (zWX j ls x _ vs o) yR.nil k4 func253 k5 k6 ?_ ?_ (fun i=>zWY j i ls l x _ vs o) yR.nil ?_
 ·intro i X hm hX
  have:i=1∨i=2:=by simpa using wY.1 hm
  rcases this with rfl|rfl
  ·cases hX;exact zTQ
  ·cases hX;exact hlit
 ·intro G1 W hB' G w hE hR u hu
  have e:=hB'.κ
  subst e
  refine(zAx (l:=ls) hR (by rfl) (by omega) hu).mono ?_
  rintro e w' ⟨v,b,S,e1,e2,e3,e4,e5,e6,e7⟩
  refine⟨v,b,S,e1,e2,e3,e4,e5,fun G' hE' hK' hS=>⟨by subst e6;simp only[V];exact⟨[],rfl,by simp only[VL]⟩,?_⟩⟩
  intro p hp u' hu'
  have hp':=List.mem_singleton.1 hp
  subst hp'
  have:=e7 G' hS _ (VL.later hB' hE' hK' (VL.rev l ls hl hlen)) u' hu'
  rw[hlen]at this
  exact this
 ·intro i
  exact nG (na:=(E5 G0)) wC mixed (zWZ j i l x vs o) (yR.cons (sD (zIo vs)) (yR.cons (sD (dT _)) yR.nil)) (by decide)
theorem zTS{l m r:List L3}(h:yV 40 l m=some r)(hm:m.length≠0):Ob.ok prog (.app 31 31 (zF c3 l) (zF c3 m) (zF c3 r) l.length m.length r.length 3 false):=vD zCK Tryz.underlying31 qC rfl rfl rfl (by decide) rfl (by decide) h hm
theorem V0{p0 x:Tm}{l:zW}{r:Tm×zW}(h:eT p0 x l=some r)(hx:¬((x.k==5)=true∧x.sub.length=2)):r=(x,l.reverse):=by
 obtain⟨k,n,sub⟩:=x
 unfold eT at h
 split at h
 ·rename_i k' n' a b e
  cases e
  split at h
  ·rename_i hk
   exact(hx ⟨hk,rfl⟩).elim
  ·cases h;rfl
 ·cases h;rfl
theorem zDz{p0:Tm}{q0:Option Addr×Nat×Nat}{G0:Gh}(hB:nE (E5 G0) G0)(h0:VL G0 G0.w0 (cK p0) (sv p0 q0)):∀(N:Nat) (x:Tm) (l:zW) (r:Tm×zW) (hN:SizeOf.sizeOf x≤N) (h:eT p0 x l=some r) (h8:l.length≤8192) (q:Option Addr×Nat×Nat) (ls:List L3)
  (hx:VL G0 G0.w0 (cK x) (sv x q)) (hl:VL G0 G0.w0 (zF zC l) (tC ls)) (hlen:ls.length=l.length),∃res,zPK G0 res r∧∀j:Nat->Value,dL (E5 G0) (gJ (gJ (uK (xH (xH (xH (wO f265))))))) (j3 j ls []) (j4 (lt3 p0 q0) (lt3 x q)) (fQ (E5 G0) (nQ (E5 G0) f265 res [] 0) [.blk 0,.seq (xH (xH (xH (xH (wO f265)))))]):=by
 intro N
 induction N with
 |zero=>
  intro x l r hN
  obtain⟨k,n,sub⟩:=x
  simp at hN
 |succ N spine_ih=>
 intro x l r hN h h8 q ls hx hl hlen
 obtain⟨vs,o,v1,v2,v3⟩:=zLf hB hx
 have hopen:∀ {res:AV} (j:Nat->Value),dL (E5 G0) (gJ (gJ (uK (xH (xH (xH (wO f265))))))) (j3 j ls []) (j4 (lt3 p0 q0) (E6 x vs o)) (fQ (E5 G0) (nQ (E5 G0) f265 res [] 0) [.blk 0,.seq (xH (xH (xH (xH (wO f265)))))])->dL (E5 G0) (gJ (gJ (uK (xH (xH (xH (wO f265))))))) (j3 j ls []) (j4 (lt3 p0 q0) (lt3 x q)) (fQ (E5 G0) (nQ (E5 G0) f265 res [] 0) [.blk 0,.seq (xH (xH (xH (xH (wO f265)))))]):=by
  intro res j hd
  refine Dl.openB (b:=2) (cs:=(lt3 x q)) (cs':=(E6 x vs o)) rfl (fun G1 W hB' G w hE hK us hus=>?_) hd
  have e:=hB'.κ
  subst e
  have hu:us=sv x q:=VL.litEq (sv x q) us hus
  subst hu
  exact VL.later hB' hE hK v2
 by_cases hk:(x.k==5)=true
 ·by_cases h2:x.sub.length=2
  ·obtain⟨k,n,sub⟩:=x
   match sub,h2 with
   | [a,b],_=>
   rw[eT]at h
   replace h:=ifT hk h
   rcases eR (decide ((l.length:Int)≥8192))with h3|h3
   ·replace h:=ifT h3 h
    cases h
    exact⟨_,zFK hB h0,fun j=>hopen j (Dl.toFin (na:=(E5 G0)) wC mixed 3000 _ _ _ _ _ (spC j p0 q0 ls (.mk k n [a,b]) vs o) (yR.cons (oJ hk) (yR.cons (oJ rfl) (yR.cons (oJ (by rw[hlen];exact h3)) (yR.cons (sD trivial) yR.nil)))) (by decide))⟩
   ·replace h:=ifF h3 h
    obtain⟨l2,hg,h⟩:=zD h
    obtain⟨hg1,rfl⟩:=uB hg
    have w1:VL G0 G0.w0 (zC a++(zC b++[])) vs:=v1
    obtain⟨ua,u2,rfl,wa,w2⟩:=VL.split _ _ _ w1
    obtain⟨ub,u3,rfl,wb,w3⟩:=VL.split _ _ _ w2
    have e3:u3=[]:=by
     have:=VL.length _ _ w3
     exact List.length_eq_zero_iff.1 this
    subst e3
    rw[xU]at wa wb
    obtain⟨qa,rfl⟩:=zIp wa
    obtain⟨qb,rfl⟩:=zIp wb
    have h3':List.length l<8192:=by
     have:=of_decide_eq_false h3
     omega
    have hl2:VL G0 G0.w0 (zF zC (l++[b])) (tC (ls++[sv3 b qb])):=by
     simp only[zF,tC,List.flatMap_append,List.flatMap_cons,List.flatMap_nil,List.append_nil]
     refine VL.append _ _ _ _ hl ?_
     rw[xU];exact wb
    have hga:yV 40 ls [sv3 b qb]=some (ls++[sv3 b qb]):=by
     unfold yV
     rw[if_pos]
     simp only[List.length_cons,List.length_nil]at hg1 ⊢
     rw[hlen];exact hg1
    obtain⟨res,hgood,hdl⟩:=spine_ih a (l++[b]) r (by simp at hN;omega) h (by simp;omega) qa (ls++[sv3 b qb]) wa hl2 (by simp[hlen])
    refine⟨res,hgood,fun j=>hopen j (Dl.toHead (na:=(E5 G0)) wC mixed 3000 _ _ _ _ _ (fun i=>spD i j k n a b qa qb _ _ _ ls (ls++[sv3 b qb]) o) ?_ fun i=>hdl i)⟩
    exact yR.cons (oJ hk) (yR.cons (oJ rfl) (yR.cons (oJ (by rw[hlen];exact h3)) (yR.cons (zTS (m:=[sv3 b qb]) hga (by simp)) (yR.cons (sD trivial) (yR.cons (sD (xT zCK.data _)) yR.nil)))))
  ·have hr:=V0 h (fun e=>h2 e.2)
   subst hr
   refine⟨.tup [.agg [ai x.k,ai x.n,.sl (vs.map .val) x.sub.length .no],.sl (zF zC l.reverse) l.length .no],U9 hB v1,fun j=>hopen j (Dl.step ?_)⟩
   have hx1:=zXy (G0:=G0) (p0:=p0) (q0:=q0) j v3 hl hlen h8
   refine sZ (Q:=_) wC mixed 3000 (.run (gJ (gJ (uK (xH (xH (xH (wO f265)))))))) [] _ _ _ _ _ _ _ _ (zWW j ls x _ vs o) (yR.cons (oJ hk) (yR.cons (oJ (by simp;omega)) yR.nil)) ?_
   simp only[KQ,zCB,vC,eI,if_true]
   exact hx1
 ·have hr:=V0 h (fun e=>hk e.1)
  subst hr
  ·refine⟨.tup [.agg [ai x.k,ai x.n,.sl (vs.map .val) x.sub.length .no],.sl (zF zC l.reverse) l.length .no],U9 hB v1,fun j=>hopen j (Dl.step ?_)⟩
   have hx1:=zXz (G0:=G0) (p0:=p0) (q0:=q0) j v3 hl hlen h8
   refine sZ (Q:=_) wC mixed 3000 (.run (gJ (gJ (uK (xH (xH (xH (wO f265)))))))) [] _ _ _ _ _ _ _ _ (zWS j ls x _ vs o) (yR.cons (oJ (by simpa using hk)) yR.nil) ?_
   simp only[KQ,zCB,vC,eI,if_true]
   exact hx1
theorem zTT{p0:Tm}{r:Tm×zW}(h:zTR p0=some r):CT prog 265 [] [xF p0] (.tup [xF r.1,.sl (zF zC r.2) r.2.length .no]) [] 0:=by
 refine⟨?_,⟨⟨trivial,trivial,⟨trivial,dT _⟩,trivial⟩,trivial⟩,(fun _ h=>nomatch h),⟨⟨trivial,trivial,dT _,trivial⟩,dT _,trivial⟩,(fun _ h=>nomatch h)⟩
 intro G0 W cargs hB hR hv
 cases hc:cargs.toList with
 |nil=>rw[hc]at hv;simp only[VL]at hv
 |cons u us=>
  rw[hc]at hv
  simp only[VL]at hv
  obtain⟨hu,hus⟩:=hv
  have hus':us=[]:=by
   have:=VL.length _ _ hus
   exact List.length_eq_zero_iff.1 this
  subst hus'
  simp only[xF,V]at hu
  obtain⟨ws,rfl,hws⟩:=hu
  obtain⟨q0,rfl⟩:=zIp hws
  have hBK:nE (E5 G0) G0:=⟨hB.ρ,hB.τ,hB.LF,rfl⟩
  have h0:=VL.back hB hR hws
  obtain⟨res,hgood,hdl⟩:=zDz hBK h0 _ p0 [] r (Nat.le_refl _) h (by simp) q0 [] h0 (by simp[zF,tC,VL]) rfl
  have hv2:VL G0 W [.agg (lt3 p0 q0)] cargs.toList:=by
   rw[hc]
   simp only[VL,V,and_true]
   exact⟨sv p0 q0,rfl,VL.lits (sv p0 q0)⟩
  have hb:=zKh (na:=(E5 G0)) (res:=res) (H1:=[]) (nst:=0) rfl func265 (by kernel_rfl) (C2 (na:=(E5 G0)) (m:=.run (wO f265)) (fs:=[]) wC mixed (fun i=>spE i p0.k p0.n q0) (yR.cons (sD trivial) (yR.cons (sD trivial) yR.nil)) fun i=>hdl i) hBK hR hv2
  refine hb.mono ?_
  rintro e W' ⟨u,G',s',rfl,hE,hR',hu,h1,h2⟩
  exact⟨u,G',s',rfl,hE,hR',hgood W G' W' hE hR'.below u hu,h1,h2⟩
def cF(_qq:Nat)(p0:Tm):Option (Tm×zW):=zTR p0
theorem E7{qq:Nat}{p0:Tm}{r:Tm×zW}(h:cF qq p0=some r):CT prog 265 [] [xF p0] (.tup [xF r.1,.sl (zF zC r.2) r.2.length .no]) [] 0:=zTT h
def Z7:Nat->Int->Int->zW->Int->Int->zW->Option (zW×Tm×Int)
 |0,_,_,_,_,_,_=>none
 |f+1,d,e,g,b,c,a=>
 if decide (e<d)then
 if b != 3 then
 none
 else
 yG a 0>>=fun x10=>
 yV 40 g [x10]>>=fun l12=>
 yG a 1>>=fun x14=>
 Z7 f d (xE (e+1)) l12 x14.k x14.n x14.sub
 else
 some (g,(Tm.mk b c a),0)
def e47(f:Nat)(m:Tm)(d:Int):Option (zW×Tm×Int):=
 jX f m>>=fun r1=>
 if r1 then
 if decide (d<0)then
 none
 else
 if decide (d>24)then
 none
 else
 e92 f m>>=fun r6=>
 Z7 f d 0 [] r6.k r6.n r6.sub
 else
 none
theorem zPL:∀f:Nat,(∀ {d e g b c a r},Z7 f d e g b c a=some r->(∀j,dL 0 (pt 65461 f47) (sp j 45 0 [(5,.mp 0 0),(7,zH zC g (.st 0 3)),(8,.mp 1 0),(24,ai d),(25,ai e)]) (⟨[(0,.cells [ai 0,ai 0,zH zC ([]:zW) .nl]),(1,.cells [ai b,ai c,zH zC a .no])],2,[0],1,[]⟩) (fQ 0 (nQ 0 f47 (.tup [.sl (zF zC r.1) r.1.length .no,xF r.2.1,ai r.2.2]) [] 0) [.blk 1,.seq (pt 1023 f47)]))):=by
 intro f
 induction f with
 |zero=>
  exact fun h=>nn h
 |succ f ih=>
  intro d e g b c a r h
  rw[Z7]at h
  obtain⟨h8,h⟩|⟨h8,h⟩:=xA h
  have k:=oB 0 h8 o0
  obtain⟨h9,h⟩:=zT h
  obtain⟨x10,h11,h⟩:=zD h
  obtain⟨l12,h13,h⟩:=zD h
  obtain⟨x14,h15,h⟩:=zD h
  exact fun j=>lH 3 [] [0,1] [1] [5,7,8,24,25] (oD (dT l12)<|oD (dT x14.sub)<|oD (dT ([]:zW))<|oA 1 (wN (o:=.no) h15)<|oP 0 (vO h13 (by simp))<|oS 1 (xL xU [x10])<|oA 1 (wN (o:=.no) h11)<|oB 1 h9 k) (ih h)
  cases h
  exact fun j=>lF 2 [] (oD (dT a)<|oD (dT g)<|oB 0 h8 o0)
theorem c47{f m d r}(h:e47 f m d=some r):Ct 47 [] [xF m,ai d] (.tup [.sl (zF zC r.1) r.1.length .no,xF r.2.1,ai r.2.2]) [] 0:=⟨by
 unfold e47 at h
 obtain⟨r1,h2,h⟩:=zD h
 obtain⟨h3,h⟩:=xD h
 have k:=oK 1 [] h3 (jM h2) o0
 obtain⟨h4,h⟩:=zT h
 have k:=oB 1 h4 k
 obtain⟨h5,h⟩:=zT h
 obtain⟨r6,h7,h⟩:=zD h
 exact tH ⟨func47,rfl⟩ 1 [(none,7,3)] [1,2] [0] [5,7,8,24,25] (oD (dT ([]:zW))<|oD (dT r6.sub)<|oD (dT ([]:zW))<|oC 1 [] (c92 h7)<|oB 0 h5 k) (zPL _ h),⟨⟨tv,tv,⟨tv,dT _⟩,tv⟩,tv,tv⟩,zB,⟨dT _,⟨tv,tv,dT _,tv⟩,tv,tv⟩,zB⟩
def bB:Nat->Tm->Int->Int->Int->zW->Option (zW×Tm×Int)
 |0,_,_,_,_,_=>none
 |e+1,c,f,b,d,a=>
 if b==3 then
 if (a.length:Int)==2 then
 if decide (f≤24)then
 yG a 1>>=fun x4=>
 bB e c (xE (f+1)) x4.k x4.n x4.sub
 else
 none
 else
 none
 else
 e47 e c f>>=fun r10=>
 some (r10.1,r10.2.1,r10.2.2)
def zFL(e:Nat)(c:Tm):Option (zW×Tm×Int):=
 bB e c 0 c.k c.n c.sub
theorem zLe:∀e:Nat,(∀ {c f b d a r},bB e c f b d a=some r->(∀j,dL 0 (pt 4021 f304) (sp j 34 0 [(1,.mp 0 0),(3,.mp 1 0),(5,ai f),(6,.mp 2 0)]) (⟨[(0,.cells [ai c.k,ai c.n,zH zC c.sub .no]),(1,.cells [ai 0,ai 0,zH zC ([]:zW) .nl]),(2,.cells [ai b,ai d,zH zC a .no])],3,[],0,[]⟩) (fQ 0 (nQ 0 f304 (.tup [.sl (zF zC r.1) r.1.length .no,xF r.2.1,ai r.2.2]) [] 0) [.blk 0,.seq (pt 63 f304)]))):=by
 intro e
 induction e with
 |zero=>
  exact fun h=>nn h
 |succ e ih=>
  intro c f b d a r h
  rw[bB]at h
  obtain⟨h1,h⟩|⟨h1,h⟩:=xA h
  have k:=oB 1 h1 o0
  obtain⟨h2,h⟩:=xD h
  have k:=oB 2 h2 k
  obtain⟨h3,h⟩:=xD h
  obtain⟨x4,h5,h⟩:=zD h
  exact fun j=>lH 2 [] [0,1,3] [] [1,3,5,6] (oD (dT x4.sub)<|oD (dT ([]:zW))<|oD (dT c.sub)<|oA 4 (wN (o:=.no) h5)<|oB 0 h3 k) (ih h)
  obtain⟨r10,h11,h⟩:=zD h
  cases h
  exact fun j=>lF 4 [] (oD (dT r10.2.1.sub)<|oD (dT r10.1)<|oC 1 [] (c47 h11)<|oB 1 h1 o0)
theorem zLd{e c r}(h:zFL e c=some r):Ct 304 [] [xF c] (.tup [.sl (zF zC r.1) r.1.length .no,xF r.2.1,ai r.2.2]) [] 0:=⟨by
 unfold zFL at h
 exact tH ⟨func304,rfl⟩ 2 [] [0,1,2] [] [1,3,5,6] (oD (dT c.sub)<|oD (dT ([]:zW))<|oD (dT c.sub) o0) (zLe _ h),⟨⟨tv,tv,⟨tv,dT _⟩,tv⟩,tv⟩,zB,⟨dT _,⟨tv,tv,dT _,tv⟩,tv,tv⟩,zB⟩
def bC:Nat->Int->Int->(Tm×zW)->Int->Option Bool
 |0,_,_,_,_=>none
 |c+1,b,d,r1,a=>
 if decide (a<b)then
 yG r1.2 a>>=fun x7=>
 if x7.k != 1 then
 none
 else
 if x7.n != (xE ((xE (d-1))-a))then
 none
 else
 bC c b d r1 (xE (a+1))
 else
 some true
def zIn(c:Nat)(e:Tm)(f b g d:Int):Option Bool:=
 cF c e>>=fun r1=>
 if r1.1.k != 6 then
 none
 else
 if r1.1.n != f then
 none
 else
 if (r1.2.length:Int) != (xE (b+g))then
 none
 else
 bC c b d r1 0
theorem zLc:∀c:Nat,(∀ {b d r1 a r},bC c b d r1 a=some r->(∀j,dL 0 (pt 16309 f306) (sp j 59 0 [(4,ai d),(12,zH zC r1.2 .no),(36,ai b),(37,ai a)]) (⟨[],0,[],0,[]⟩) (fQ 0 (nQ 0 f306 (ab r) [] 0) [.blk 0,.seq (pt 255 f306)]))):=by
 intro c
 induction c with
 |zero=>
  exact fun h=>nn h
 |succ c ih=>
  intro b d r1 a r h
  rw[bC]at h
  obtain⟨h6,h⟩|⟨h6,h⟩:=xA h
  obtain⟨x7,h8,h⟩:=zD h
  have k:=oA 0 (wN (o:=.no) h8)<|oB 0 h6 o0
  obtain⟨h9,h⟩:=zT h
  have k:=oA 0 (wN (o:=.no) h8)<|oB 1 h9 k
  obtain⟨h10,h⟩:=zT h
  exact fun j=>lH 1 [] [] [] [4,12,36,37] (oD (dT r1.2)<|oB 3 h10 k) (ih h)
  cases h
  exact fun j=>lF 0 [] (oB 0 h6 o0)
theorem zPM{c e f b g d r}(h:zIn c e f b g d=some r):Ct 306 [] [xF e,ai f,ai b,ai g,ai d] (ab r) [] 0:=⟨by
 unfold zIn at h
 obtain⟨r1,h2,h⟩:=zD h
 have k:=oC 1 [] (E7 h2) o0
 obtain⟨h3,h⟩:=zT h
 have k:=oB 4 h3 k
 obtain⟨h4,h⟩:=zT h
 have k:=oB 1 h4 k
 obtain⟨h5,h⟩:=zT h
 exact tH ⟨func306,rfl⟩ 0 [] [] [] [4,12,36,37] (oD (dT r1.2)<|oB 2 h5 k) (zLc _ h),⟨⟨tv,tv,⟨tv,dT _⟩,tv⟩,tv,tv,tv,tv,tv⟩,zB,tv,zB⟩
def zPN(a:Nat)(c:yD)(d:Tm)(b e:Int):Option iH:=
 zFL a d>>=fun r1=>
 cF a r1.2.1>>=fun r3=>
 if r1.2.2 != 0 then
 none
 else
 if r3.1.k != 6 then
 some (iH.mk false [] [])
 else
 if r3.1.n != b then
 some (iH.mk false [] [])
 else
 yG c b>>=fun x8=>
 zIn a r1.2.1 b x8.pars x8.inds (xE (e+(r1.1.length:Int)))>>=fun r10=>
 if r10 then
 C4 r3.2 x8.pars (r3.2.length:Int)>>=fun x13=>
 zLg a x13>>=fun r15=>
 some (iH.mk true r1.1 r15)
 else
 none
theorem zPO:Qf 319 f319:=⟨func319,rfl⟩
theorem zXx{a c d b e r}(h:zPN a c d b e=some r):Ct 319 [] [zH yE c .no,xF d,ai b,ai e] (zVX r) [] 0:=⟨by
 unfold zPN at h
 obtain⟨r1,h2,h⟩:=zD h
 obtain⟨r3,h4,h⟩:=zD h
 have k:=oC 5 [] (E7 h4)<|oC 1 [] (zLd h2) o0
 obtain⟨h5,h⟩:=zT h
 have k:=oB 3 h5 k
 obtain⟨h6,h⟩|⟨h6,h⟩:=xA h
 cases h
 exact tF zPO 1 [] (oD (dT ([]:zW))<|oD (dT ([]:zW))<|oB 1 h6 k)
 have k:=oB 1 h6 k
 obtain⟨h7,h⟩|⟨h7,h⟩:=xA h
 cases h
 exact tF zPO 1 [] (oD (dT ([]:zW))<|oD (dT ([]:zW))<|oB 1 h7 k)
 obtain⟨x8,h9,h⟩:=zD h
 obtain⟨r10,h11,h⟩:=zD h
 have k:=oA 1 (vF (o:=.no) h9)<|oA 1 (vF (o:=.no) h9)<|oB 1 h7 k
 obtain⟨h12,h⟩:=xD h
 obtain⟨x13,h14,h⟩:=zD h
 obtain⟨r15,h16,h⟩:=zD h
 cases h
 exact tF zPO 1 [] (oD (dT r15)<|oD (dT r1.1)<|oC 0 [] (zPJ h16)<|oA 1 (kA h14)<|oA 1 (vF (o:=.no) h9)<|oK 3 [] h12 (zPM h11) k),⟨⟨tv,dE _⟩,⟨tv,tv,⟨tv,dT _⟩,tv⟩,tv,tv,tv⟩,zB,⟨tv,dT _,dT _,tv⟩,zB⟩
def bD:Nat->yD->pN->zW->zW->Int->List iH->Option nH
 |0,_,_,_,_,_,_=>none
 |c+1,d,x1,x7,r11,b,a=>
 if decide (b<(x7.length:Int))then
 yG x7 b>>=fun x14=>
 zPN c d x14 x1.fam (xE (x1.pars+b))>>=fun r16=>
 yV 56 a [r16]>>=fun l18=>
 bD c d x1 x7 r11 (xE (b+1)) l18
 else
 some (nH.mk x7 r11 a)
def zLb(c:Nat)(d:yD)(e:Int):Option nH:=
 yG d e>>=fun x1=>
 zFL c x1.type>>=fun r3=>
 cF c r3.2.1>>=fun r5=>
 C4 r3.1 x1.pars (r3.1.length:Int)>>=fun x7=>
 C4 r5.2 x1.pars (r5.2.length:Int)>>=fun x9=>
 zLg c x9>>=fun r11=>
 bD c d x1 x7 r11 0 []
theorem zLa:∀c:Nat,(∀ {d x1 x7 r11 b a r},bD c d x1 x7 r11 b a=some r->(∀j,dL 0 (pt 262069 f223) (sp j 64 0 [(0,zH yE d .no),(4,.mp 0 0),(5,.mp 1 0),(11,.mp 2 0),(41,zH zC x7 .no),(42,ai (x7.length:Int)),(43,ai b)]) (⟨[(0,.cells [zH zC ([]:zW) .nl,zH zC ([]:zW) .nl,zH Q8 ([]:List iH) .nl]),(1,.cells [ai x1.kind,at' x1.name,ai x1.type.k,ai x1.type.n,zH zC x1.type.sub .no,ai x1.body.k,ai x1.body.n,zH zC x1.body.sub .no,ai x1.fam,ai x1.place,ai x1.pars,ai x1.inds,ai x1.level,zH zS x1.cons .no,zH zS x1.fields .no]),(2,.cells [zH zC x7 .no,zH zC r11 (.st 0 3),zH Q8 a (.st 1 3)])],3,[0,1],2,[]⟩) (fQ 0 (nQ 0 f223 (zOl r) [] 0) [.blk 0,.seq (pt 4095 f223)]))):=by
 intro c
 induction c with
 |zero=>
  exact fun h=>nn h
 |succ c ih=>
  intro d x1 x7 r11 b a r h
  rw[bD]at h
  obtain⟨h13,h⟩|⟨h13,h⟩:=xA h
  obtain⟨x14,h15,h⟩:=zD h
  obtain⟨r16,h17,h⟩:=zD h
  obtain⟨l18,h19,h⟩:=zD h
  exact fun j=>lH 2 [] [0,1,2] [0,2] [0,4,5,11,41,42,43] (oD (dT x7)<|oD (dE d)<|oD (dR l18)<|oD (dT r11)<|oD (dT x7)<|oD (dI x1.fields)<|oD (dI x1.cons)<|oD (dT x1.body.sub)<|oD (dT x1.type.sub)<|oD (dR ([]:List iH))<|oD (dT ([]:zW))<|oD (dT ([]:zW))<|oP 1 (zOC h19 (by simp))<|oC 4 [] (zXx h17)<|rF 2<|oA 0 (wN (o:=.no) h15)<|oB 0 h13 o0) (ih h)
  cases h
  exact fun j=>lF 2 [] (oD (dR a)<|oD (dT r11)<|oD (dT x7)<|oB 0 h13 o0)
theorem zTU{c d e r}(h:zLb c d e=some r):Ct 223 [] [zH yE d .no,ai e] (zOl r) [] 0:=⟨by
 unfold zLb at h
 obtain⟨x1,h2,h⟩:=zD h
 obtain⟨r3,h4,h⟩:=zD h
 obtain⟨r5,h6,h⟩:=zD h
 obtain⟨x7,h8,h⟩:=zD h
 obtain⟨x9,h10,h⟩:=zD h
 obtain⟨r11,h12,h⟩:=zD h
 exact tH ⟨func223,rfl⟩ 3 [(some 4,2,3)] [0,1,4] [0,1] [0,4,5,11,41,42,43] (oD (dT x7)<|oD (dE d)<|oD (dR ([]:List iH))<|oD (dT r11)<|oD (dT x7)<|oD (dI x1.fields)<|oD (dI x1.cons)<|oD (dT x1.body.sub)<|oD (dT x1.type.sub)<|oD (dR ([]:List iH))<|oD (dT ([]:zW))<|oD (dT ([]:zW))<|oC 0 [] (zPJ h12)<|oA 1 (kA h10)<|oA 0 (kA h8)<|rF 3<|oC 5 [] (E7 h6)<|oC 3 [] (zLd h4)<|oA 0 (vF (o:=.no) h2) o0) (zLa _ h),⟨⟨tv,dE _⟩,tv,tv⟩,zB,⟨dT _,dT _,dR _,tv⟩,zB⟩
def bE:Nat->List ByteArray->Int->(List (ByteArray×Int))->Option Bool
 |0,_,_,_=>none
 |c+1,b,d,a=>
 if decide (d<(b.length:Int))then
 yG b d>>=fun x2=>
 if decide ((cB a x2)>0)then
 none
 else
 bE c b (xE (d+1)) (cC a x2 (xE ((cB a x2)+1)))
 else
 some true
def zPP(c:Nat)(b:List ByteArray):Option Bool:=
 bE c b 0 ([]:List (ByteArray×Int))
theorem zLA:∀c:Nat,(∀ {b d a r},bE c b d a=some r->(∀j,dL 0 (pt 4021 f123) (sp j 22 0 [(3,.obj 0),(7,zH xG b .no),(8,ai (b.length:Int)),(9,ai d)]) (⟨[(0,lQ a)],1,[],0,[]⟩) (fQ 0 (nQ 0 f123 (ab r) [] 0) [.blk 0,.seq (pt 63 f123)]))):=by
 intro c
 induction c with
 |zero=>
  exact fun h=>nn h
 |succ c ih=>
  intro b d a r h
  rw[bE]at h
  obtain⟨h1,h⟩|⟨h1,h⟩:=xA h
  obtain⟨x2,h3,h⟩:=zD h
  have k:=oL 1 (zAA a x2)<|oA 0 (zKE (o:=.no) h3)<|oB 0 h1 o0
  obtain⟨h4,h⟩:=zT h
  exact fun j=>lH 1 [] [0] [] [3,7,8,9] (oD (dS b)<|oU 1 (zNS a x2 (xE ((cB a x2)+1)))<|oL 0 (zAA a x2)<|oB 0 h4 k) (ih h)
  cases h
  exact fun j=>lF 0 [] (oB 0 h1 o0)
theorem zXw{c b r}(h:zPP c b=some r):Ct 123 [] [zH xG b .no] (ab r) [] 0:=⟨by
 unfold zPP at h
 exact tH ⟨func123,rfl⟩ 1 [] [0] [] [3,7,8,9] (oD (dS b) o0) (zLA _ h),⟨⟨tv,dS _⟩,tv⟩,zB,tv,zB⟩
def bF:Nat->yD->List ByteArray->Int->Option (List ByteArray)
 |0,_,_,_=>none
 |b+1,a,c,d=>
 if decide (d<(a.length:Int))then
 yG a d>>=fun x2=>
 yV 16 c [x2.name]>>=fun l4=>
 bF b a l4 (xE (d+1))
 else
 some c
def zPQ(b:Nat)(a:yD):Option (List ByteArray):=
 bF b a [] 0
theorem zLB:∀b:Nat,(∀ {a c d r},bF b a c d=some r->(∀j,dL 0 (pt 4021 f124) (sp j 19 0 [(3,zH xG c (.st 0 1)),(6,zH yE a .no),(7,ai (a.length:Int)),(8,ai d)]) (⟨[],0,[0],1,[]⟩) (fQ 0 (nQ 0 f124 (.sl (zF xG r) r.length .no) [] 0) [.blk 0,.seq (pt 63 f124)]))):=by
 intro b
 induction b with
 |zero=>
  exact fun h=>nn h
 |succ b ih=>
  intro a c d r h
  rw[bF]at h
  obtain⟨h1,h⟩|⟨h1,h⟩:=xA h
  obtain⟨x2,h3,h⟩:=zD h
  obtain⟨l4,h5,h⟩:=zD h
  exact fun j=>lH 1 [] [] [1] [3,6,7,8] (oD (dE a)<|oD (dS l4)<|oP 4 (zHD h5 (by simp))<|oA 0 (vF (o:=.no) h3)<|oB 0 h1 o0) (ih h)
  obtain rfl:=sj h
  exact fun j=>lF 0 [] (oD (dS c)<|oB 0 h1 o0)
theorem zXv{b a r}(h:zPQ b a=some r):Ct 124 [] [zH yE a .no] (.sl (zF xG r) r.length .no) [] 0:=⟨by
 unfold zPQ at h
 exact tH ⟨func124,rfl⟩ 1 [(none,3,1)] [] [0] [3,6,7,8] (oD (dE a)<|oD (dS ([]:List ByteArray)) o0) (zLB _ h),⟨⟨tv,dE _⟩,tv⟩,zB,dS _,zB⟩
def zPR(c:Nat)(a:Tm)(b:Int):Option Int:=
 if b==1 then
 if a.k==3 then
 some 1
 else
 if a.k==4 then
 some 1
 else
 some 0
 else
 some 0
theorem zLC:Qf 191 f191:=⟨func191,rfl⟩
theorem zXu{c a b r}(h:zPR c a b=some r):Ct 191 [] [xF a,ai b] (ai r) [] 0:=⟨by
 unfold zPR at h
 obtain⟨h1,h⟩|⟨h1,h⟩:=xA h
 have k:=oB 0 h1 o0
 obtain⟨h2,h⟩|⟨h2,h⟩:=xA h
 cases h
 exact tF zLC 0 [] (oB 1 h2 k)
 have k:=oB 1 h2 k
 obtain⟨h3,h⟩|⟨h3,h⟩:=xA h
 cases h
 exact tF zLC 0 [] (oB 1 h3 k)
 cases h
 exact tF zLC 0 [] (oB 1 h3 k)
 cases h
 exact tF zLC 0 [] (oB 0 h1 o0),⟨⟨tv,tv,⟨tv,dT _⟩,tv⟩,tv,tv⟩,zB,tv,zB⟩
mutual
def zFM:Nat->Tm->Int->Option Int
 |0,_,_=>none
 |d+1,a,b=>
 if a.k==1 then
 some (X4 0 (xE ((xE (a.n+1))-b)))
 else
 bG d a b 0 0
def bG:Nat->Tm->Int->Int->Int->Option Int
 |0,_,_,_,_=>none
 |d+1,a,b,c,e=>
 if decide (c<(a.sub.length:Int))then
 yG a.sub c>>=fun x3=>
 zPR d a c>>=fun r5=>
 zFM d x3 (xE (b+r5))>>=fun r7=>
 bG d a b (xE (c+1)) (X4 e r7)
 else
 some e
end
abbrev zTV (a:Tm) (b r:Int) (C:Cf):Prop:=C 118 [] [xF a,ai b] (ai r) [] 0
theorem zTW:Qf 118 f118:=⟨func118,rfl⟩
theorem zAW:∀d:Nat,(∀ {a b r},zFM d a b=some r->zTV a b r Ct)∧(∀ {a b c e r},bG d a b c e=some r->(∀j,dL 0 (pt 16309 f118) (sp j 36 0 [(1,ai b),(2,.mp 0 0),(5,ai e),(18,zH zC a.sub .no),(19,ai (a.sub.length:Int)),(20,ai c)]) (⟨[(0,.cells [ai a.k,ai a.n,zH zC a.sub .no])],1,[],0,[]⟩) (fQ 0 (nQ 0 f118 (ai r) [] 0) [.blk 0,.seq (pt 255 f118)]))):=by
 intro d
 induction d with
 |zero=>
  exact⟨fun h=>nn h,fun h=>nn h⟩
 |succ d ih=>
  obtain⟨zTX,zAX⟩:=ih
  refine⟨?_,?_⟩
  intro a b r h
  rw[zFM]at h
  obtain⟨h1,h⟩|⟨h1,h⟩:=xA h
  obtain rfl:=sj h
  exact⟨tF zTW 4 [] (oB 1 h1 o0),⟨⟨tv,tv,⟨tv,dT _⟩,tv⟩,tv,tv⟩,zB,tv,zB⟩
  exact⟨tH zTW 2 [] [0] [] [1,2,5,18,19,20] (oD (dT a.sub)<|oD (dT a.sub)<|oB 1 h1 o0) (zAX h),⟨⟨tv,tv,⟨tv,dT _⟩,tv⟩,tv,tv⟩,zB,tv,zB⟩
  intro a b c e r h
  rw[bG]at h
  obtain⟨h2,h⟩|⟨h2,h⟩:=xA h
  obtain⟨x3,h4,h⟩:=zD h
  obtain⟨r5,h6,h⟩:=zD h
  obtain⟨r7,h8,h⟩:=zD h
  exact fun j=>lH 2 [] [0] [] [1,2,5,18,19,20] (oD (dT a.sub)<|oD (dT a.sub)<|oC 1 [] (zTX h8)<|oC 4 [] (zXu h6)<|oA 0 (wN (o:=.no) h4)<|oB 0 h2 o0) (zAX h)
  obtain rfl:=sj h
  exact fun j=>lF 0 [] (oB 0 h2 o0)
theorem zTY{d a b r}(h:zFM d a b=some r):zTV a b r Ct:=(zAW _).1 h
mutual
def zFN:Nat->Tm->Int->Int->Option zU
 |0,_,_,_=>none
 |e+1,a,b,c=>
 if a.k==b then
 yV 8 ([]:zU) [a.n]>>=fun l2=>
 jG e a b c 0 l2
 else
 if a.k==c then
 yV 8 ([]:zU) [a.n]>>=fun l5=>
 jG e a b c 0 l5
 else
 jG e a b c 0 []
def jG:Nat->Tm->Int->Int->Int->zU->Option zU
 |0,_,_,_,_,_=>none
 |e+1,a,b,c,d,f=>
 if decide (d<(a.sub.length:Int))then
 yG a.sub d>>=fun x5=>
 zFN e x5 b c>>=fun r7=>
 yV 8 f r7>>=fun l9=>
 jG e a b c (xE (d+1)) l9
 else
 some f
end
abbrev zLD (a:Tm) (b c:Int) (r:zU) (C:Cf):Prop:=C 120 [] [xF a,ai b,ai c] (zH zS r (.st 0 1)) [] 1
theorem zPS:Qf 120 f120:=⟨func120,rfl⟩
theorem zPT{a b c r}(h:zLD a b c r Ci):zLD a b c r Ct:=⟨h,⟨⟨tv,tv,⟨tv,dT _⟩,tv⟩,tv,tv,tv⟩,zB,dI _,zB⟩
theorem zAY:∀e:Nat,(∀ {a b c r},zFN e a b c=some r->zLD a b c r Ct)∧(∀ {a b c d f r},jG e a b c d f=some r->(∀j,dL 0 (pt 16309 f120) (sp j 40 0 [(1,ai b),(2,ai c),(7,zH zS f (.st 0 1)),(26,zH zC a.sub .no),(27,ai (a.sub.length:Int)),(28,ai d)]) (⟨[],0,[0],1,[]⟩) (fQ 0 (nQ 0 f120 (zH zS r (.st 0 1)) [] 1) [.blk 0,.seq (pt 255 f120)]))∧(∀j,dL 0 (pt 16309 f120) (sp j 40 0 [(1,ai b),(2,ai c),(7,zH zS f .nl),(26,zH zC a.sub .no),(27,ai (a.sub.length:Int)),(28,ai d)]) (⟨[],0,[],0,[]⟩) (fQ 0 (nQ 0 f120 (zH zS r (.st 0 1)) [] 1) [.blk 0,.seq (pt 255 f120)]))):=by
 intro e
 induction e with
 |zero=>
  exact⟨fun h=>nn h,fun h=>nn h⟩
 |succ e ih=>
  obtain⟨zNV,qE⟩:=ih
  refine⟨?_,?_⟩
  intro a b c r h
  rw[zFN]at h
  obtain⟨h1,h⟩|⟨h1,h⟩:=xA h
  obtain⟨l2,h3,h⟩:=zD h
  exact zPT (tH zPS 2 [] [] [0] [1,2,7,26,27,28] (oD (dT a.sub)<|oD (dI l2)<|oP 2 (sG h3 (by simp))<|oB 1 h1 o0) ((qE h).1))
  have k:=oB 1 h1 o0
  obtain⟨h4,h⟩|⟨h4,h⟩:=xA h
  obtain⟨l5,h6,h⟩:=zD h
  exact zPT (tH zPS 2 [] [] [0] [1,2,7,26,27,28] (oD (dT a.sub)<|oD (dI l5)<|oP 2 (sG h6 (by simp))<|oB 1 h4 k) ((qE h).1))
  exact zPT (tH zPS 2 [] [] [] [1,2,7,26,27,28] (oD (dT a.sub)<|oD (dI ([]:zU))<|oB 1 h4 k) ((qE h).2))
  intro a b c d f r h
  rw[jG]at h
  refine⟨?_,?_⟩
  obtain⟨h4,h⟩|⟨h4,h⟩:=xA h
  obtain⟨x5,h6,h⟩:=zD h
  obtain⟨r7,h8,h⟩:=zD h
  obtain⟨l9,h10,h⟩:=zD h
  have k:=oC 3 [] (zNV h8)<|oA 0 (wN (o:=.no) h6)<|oB 0 h4 o0
  by_cases h11:List.length r7=0
  exact fun j=>lH 1 [] [] [0] [1,2,7,26,27,28] (oD (dT a.sub)<|oD (dI l9)<|oP 0 (zAc h10 h11) k) ((qE h).1)
  exact fun j=>lH 1 [] [] [2] [1,2,7,26,27,28] (oD (dT a.sub)<|oD (dI l9)<|oP 0 (sG h10 h11) k) ((qE h).1)
  obtain rfl:=sj h
  exact fun j=>lG 0 [] [] [0] true (oD (dI f)<|oB 0 h4 o0)
  obtain⟨h4,h⟩|⟨h4,h⟩:=xA h
  obtain⟨x5,h6,h⟩:=zD h
  obtain⟨r7,h8,h⟩:=zD h
  obtain⟨l9,h10,h⟩:=zD h
  have k:=oC 3 [] (zNV h8)<|oA 0 (wN (o:=.no) h6)<|oB 0 h4 o0
  by_cases h11:List.length r7=0
  exact fun j=>lH 1 [] [] [] [1,2,7,26,27,28] (oD (dT a.sub)<|oD (dI l9)<|oP 0 (zAc h10 h11) k) ((qE h).2)
  exact fun j=>lH 1 [] [] [1] [1,2,7,26,27,28] (oD (dT a.sub)<|oD (dI l9)<|oP 0 (sG h10 h11) k) ((qE h).1)
  obtain rfl:=sj h
  exact fun j=>lG 0 [(none,6,1)] [] [0] true (oD (dI f)<|oB 0 h4 o0)
theorem zTZ{e a b c r}(h:zFN e a b c=some r):zLD a b c r Ct:=(zAY _).1 h
def zPU(c:Nat)(a:Tm):Option zU:=
 (jX c a)>>=fun r1=>
 if r1=true then
  (zFN c a 6 7)>>=fun r4=>
  if decide (List.length r4<4611686018427387904)=true then some (vS r4)else none
 else
  some []
theorem zXt{c:Nat}{a:Tm}{r:zU}(h:zPU c a=some r):CT prog 178 [] [xF a] (.sl (zF zS r) r.length .no) [] 0:=by
 unfold zPU at h
 obtain⟨r1,h2,h⟩:=zD h
 rcases eR r1 with h3|h3
 ·replace h:=ifT h3 h
  obtain⟨l,h5,h⟩:=zD h
  rcases eR (decide (List.length l<4611686018427387904))with h6|h6
  ·replace h:=ifT h6 h
   replace h:=Option.some.inj h
   subst h
   subst h3
   have hsz:List.length l<4611686018427387904:=by simpa using h6
   refine⟨?_,⟨⟨trivial,trivial,⟨trivial,dT _⟩,trivial⟩,trivial⟩,(fun _ h=>nomatch h),dI _,(fun _ h=>nomatch h)⟩
   have k0:g4 (wO f178)=1:=by kernel_rfl
   have k1:g4 (xH (wO f178))=1:=by kernel_rfl
   have k2:g4 (xH (xH (wO f178)))=1:=by kernel_rfl
   have k3:lP (uK (xH (xH (wO f178))))=true:=by kernel_rfl
   have k4:C6 (xX (uK (xH (xH (wO f178)))))[2]? = some (some 8,119,#[.tmp 7]):=by kernel_rfl
   have k5:(f119.name == "runtime.NumGoroutine")=false:=by kernel_rfl
   have k6:f119.body.isNone=false:=by kernel_rfl
   have x1:tY prog uQ 3000 (.run (uK (wO f178))) [] ([xF a]++List.replicate (f178.ntmps-1) (.val undef)) (gA []) []=some (.fin .normal,[xF a,.mp 0 0,.sl [] 0 .nl,.val undef,.val undef,.val undef,.val undef,.val undef,.val undef],⟨[(0,.cells (cK a))],1,[],0,[]⟩,[],[]):=by kernel_rfl
   have x2:tY prog uQ 3000 (.run (uK (xH (wO f178)))) [] [xF a,.mp 0 0,.sl [] 0 .nl,.val undef,.val undef,.val undef,.val undef,.val undef,.val undef] ⟨[(0,.cells (cK a))],1,[],0,[]⟩ [.no,.call [] [] 0 (ab true) (some true),.no]=some (.fin .normal,[xF a,.mp 0 0,.sl [] 0 .nl,xF a,ab true,ab false,.val undef,.val undef,.val undef],⟨[(0,.cells (cK a))],1,[],0,[]⟩,[],[.bit true true,.call 91 [] [xF a] (ab true) [] 0]):=by kernel_rfl
   have x3:(oE prog uQ (xX (uK (xH (xH (wO f178))))) ((xX (uK (xH (xH (wO f178))))).toList.take 2) 0 [xF a,.mp 0 0,.sl [] 0 .nl,xF a,ab true,ab false,.val undef,.val undef,.val undef] ⟨[(0,.cells (cK a))],1,[],0,[]⟩ [.no,.call [] [] 1 (.sl (zF zS l) l.length (.st 0 1)) none]).map Prod.snd=some ([xF a,.mp 0 0,.sl [] 0 .nl,xF a,ab true,ab false,xF a,.sl (zF zS l) l.length (.st 0 1),.val undef],⟨[(0,.cells (cK a))],1,[0],1,[]⟩,[],[.call 120 [] [xF a,ai 6,ai 7] (.sl (zF zS l) l.length (.st 0 1)) [] 1]):=by kernel_rfl
   have x4:∀j:Nat->Value,(oE prog uQ (xX (uK (xH (xH (wO f178))))) ((xX (uK (xH (xH (wO f178))))).toList.drop 3) 3 (eset (tells [] (mutEnv [] j [xF a,.mp 0 0,.sl [] 0 .nl,xF a,ab true,ab false,xF a,.sl (zF zS l) l.length (.st 0 1),.val undef] 0)) (some 8) (.sl (zF zS (vS l)) (vS l).length .no)) (sE [] ⟨[(0,.cells (cK a))],1,[0],1,[]⟩) []).map Prod.snd=some ([.val (j 0),.val (j 1),.sl (zF zS (vS l)) (vS l).length .no,.val (j 3),ab true,ab false,.val (j 6),.val (j 7),.sl (zF zS (vS l)) (vS l).length .no],⟨[],1,[],0,[]⟩,[],[]):=fun j=>by kernel_rfl
   have x5:∀j:Nat->Value,jK prog uQ 0 f178 3000 (.run (xH (xH (xH (wO f178))))) [] [.val (j 0),.val (j 1),.sl (zF zS (vS l)) (vS l).length .no,.val (j 3),ab true,ab false,.val (j 6),.val (j 7),.sl (zF zS (vS l)) (vS l).length .no] ⟨[],1,[],0,[]⟩ [] [] [] [] false=some (.sl (zF zS (vS l)) (vS l).length .no,[],[.data (zF zS (vS l))]):=fun j=>by kernel_rfl
   refine wZ.body func178 (by kernel_rfl) ?_
   refine Dv.seqP k0 ?_
   refine sZ (Q:=_) wC mixed 3000 (.run (uK (wO f178))) [] _ _ _ _ _ _ _ _ x1 yR.nil ?_
   refine Dv.seqP k1 ?_
   refine sZ (Q:=_) wC mixed 3000 (.run (uK (xH (wO f178)))) [] _ _ _ _ _ _ _ _ x2 (yR.cons (oJ rfl) (yR.cons (lO (jM h2)) yR.nil)) ?_
   refine Dv.seqP k2 ?_
   obtain⟨id,k7⟩:=zFm k3
   rw[k7]
   refine Dv.mut wC (na:=(0:Nat)) rfl 2 [] [] _ x3 (yR.cons (lO (zTZ h5)) yR.nil) k4 func119 k5 k6 (fun i X h=>by cases h) ?_ x4 yR.nil ?_
   ·intro G0 W hB G w hE hR u hu
    refine(T9 hR (by rfl) hsz hu).mono ?_
    rintro e w' ⟨v,b,S,z1,z2,z3,z4,z5,z6⟩
    exact⟨v,b,S,z1,z2,z3,z4,z5,fun G' _ _ hS=>⟨z6 G' hS,fun q hq=>by cases hq⟩⟩
   ·intro j
    exact nG (na:=(0:Nat)) wC mixed (x5 j) (yR.cons (sD (dI _)) yR.nil) (by decide)
  ·replace h:=ifF h6 h
   cases h
 ·replace h:=ifF h3 h
  replace h:=Option.some.inj h
  subst h
  exact⟨wZ.toFin wC mixed func178 (by kernel_rfl) 3000 [.no,.call [] [] 0 (ab r1) (some false),.no] [] [] [] false (by kernel_rfl) (yR.cons (oJ h3) (yR.cons (lO (jM h2)) (yR.cons (sD (dI ([]:zU))) yR.nil))) (by decide),⟨⟨trivial,trivial,⟨trivial,dT _⟩,trivial⟩,trivial⟩,(fun _ h=>nomatch h),dI _,(fun _ h=>nomatch h)⟩
def iP(b:Nat)(a:Tm)(c d:Int):Option Bool:=
 jX b a>>=fun r1=>
 if r1 then
 zFM b a 0>>=fun r4=>
 if decide (r4>c)then
 none
 else
 zPU b a>>=fun r7=>
 if (r7.length:Int)==0 then
 some true
 else
 yG r7 (xE ((r7.length:Int)-1))>>=fun x10=>
 some (decide (x10<d))
 else
 none
theorem zUz:Qf 110 f110:=⟨func110,rfl⟩
theorem eU{b a c d r}(h:iP b a c d=some r):Ct 110 [] [xF a,ai c,ai d] (ab r) [] 0:=⟨by
 unfold iP at h
 obtain⟨r1,h2,h⟩:=zD h
 obtain⟨h3,h⟩:=xD h
 obtain⟨r4,h5,h⟩:=zD h
 have k:=oC 2 [] (zTY h5)<|oK 1 [] h3 (jM h2) o0
 obtain⟨h6,h⟩:=zT h
 obtain⟨r7,h8,h⟩:=zD h
 have k:=oC 1 [] (zXt h8)<|oB 0 h6 k
 obtain⟨h9,h⟩|⟨h9,h⟩:=xA h
 cases h
 exact tF zUz 0 [] (oB 1 h9 k)
 obtain⟨x10,h11,h⟩:=zD h
 cases h
 exact tF zUz 2 [] (oA 2 (sU (o:=.no) h11)<|oB 1 h9 k),⟨⟨tv,tv,⟨tv,dT _⟩,tv⟩,tv,tv,tv⟩,zB,tv,zB⟩
def e62(c:Nat)(a:Tm):Option zU:=
 (jX c a)>>=fun r1=>
 if r1=true then
  (zFN c a 8 8)>>=fun r4=>
  if decide (List.length r4<4611686018427387904)=true then some (vS r4)else none
 else
  some []
theorem c62{c:Nat}{a:Tm}{r:zU}(h:e62 c a=some r):CT prog 62 [] [xF a] (.sl (zF zS r) r.length .no) [] 0:=by
 unfold e62 at h
 obtain⟨r1,h2,h⟩:=zD h
 rcases eR r1 with h3|h3
 ·replace h:=ifT h3 h
  obtain⟨l,h5,h⟩:=zD h
  rcases eR (decide (List.length l<4611686018427387904))with h6|h6
  ·replace h:=ifT h6 h
   replace h:=Option.some.inj h
   subst h
   subst h3
   have hsz:List.length l<4611686018427387904:=by simpa using h6
   refine⟨?_,⟨⟨trivial,trivial,⟨trivial,dT _⟩,trivial⟩,trivial⟩,(fun _ h=>nomatch h),dI _,(fun _ h=>nomatch h)⟩
   have k0:g4 (wO f62)=1:=by kernel_rfl
   have k1:g4 (xH (wO f62))=1:=by kernel_rfl
   have k2:g4 (xH (xH (wO f62)))=1:=by kernel_rfl
   have k3:lP (uK (xH (xH (wO f62))))=true:=by kernel_rfl
   have k4:C6 (xX (uK (xH (xH (wO f62)))))[2]? = some (some 8,119,#[.tmp 7]):=by kernel_rfl
   have k5:(f119.name == "runtime.NumGoroutine")=false:=by kernel_rfl
   have k6:f119.body.isNone=false:=by kernel_rfl
   have x1:tY prog uQ 3000 (.run (uK (wO f62))) [] ([xF a]++List.replicate (f62.ntmps-1) (.val undef)) (gA []) []=some (.fin .normal,[xF a,.mp 0 0,.sl [] 0 .nl,.val undef,.val undef,.val undef,.val undef,.val undef,.val undef],⟨[(0,.cells (cK a))],1,[],0,[]⟩,[],[]):=by kernel_rfl
   have x2:tY prog uQ 3000 (.run (uK (xH (wO f62)))) [] [xF a,.mp 0 0,.sl [] 0 .nl,.val undef,.val undef,.val undef,.val undef,.val undef,.val undef] ⟨[(0,.cells (cK a))],1,[],0,[]⟩ [.no,.call [] [] 0 (ab true) (some true),.no]=some (.fin .normal,[xF a,.mp 0 0,.sl [] 0 .nl,xF a,ab true,ab false,.val undef,.val undef,.val undef],⟨[(0,.cells (cK a))],1,[],0,[]⟩,[],[.bit true true,.call 91 [] [xF a] (ab true) [] 0]):=by kernel_rfl
   have x3:(oE prog uQ (xX (uK (xH (xH (wO f62))))) ((xX (uK (xH (xH (wO f62))))).toList.take 2) 0 [xF a,.mp 0 0,.sl [] 0 .nl,xF a,ab true,ab false,.val undef,.val undef,.val undef] ⟨[(0,.cells (cK a))],1,[],0,[]⟩ [.no,.call [] [] 1 (.sl (zF zS l) l.length (.st 0 1)) none]).map Prod.snd=some ([xF a,.mp 0 0,.sl [] 0 .nl,xF a,ab true,ab false,xF a,.sl (zF zS l) l.length (.st 0 1),.val undef],⟨[(0,.cells (cK a))],1,[0],1,[]⟩,[],[.call 120 [] [xF a,ai 8,ai 8] (.sl (zF zS l) l.length (.st 0 1)) [] 1]):=by kernel_rfl
   have x4:∀j:Nat->Value,(oE prog uQ (xX (uK (xH (xH (wO f62))))) ((xX (uK (xH (xH (wO f62))))).toList.drop 3) 3 (eset (tells [] (mutEnv [] j [xF a,.mp 0 0,.sl [] 0 .nl,xF a,ab true,ab false,xF a,.sl (zF zS l) l.length (.st 0 1),.val undef] 0)) (some 8) (.sl (zF zS (vS l)) (vS l).length .no)) (sE [] ⟨[(0,.cells (cK a))],1,[0],1,[]⟩) []).map Prod.snd=some ([.val (j 0),.val (j 1),.sl (zF zS (vS l)) (vS l).length .no,.val (j 3),ab true,ab false,.val (j 6),.val (j 7),.sl (zF zS (vS l)) (vS l).length .no],⟨[],1,[],0,[]⟩,[],[]):=fun j=>by kernel_rfl
   have x5:∀j:Nat->Value,jK prog uQ 0 f62 3000 (.run (xH (xH (xH (wO f62))))) [] [.val (j 0),.val (j 1),.sl (zF zS (vS l)) (vS l).length .no,.val (j 3),ab true,ab false,.val (j 6),.val (j 7),.sl (zF zS (vS l)) (vS l).length .no] ⟨[],1,[],0,[]⟩ [] [] [] [] false=some (.sl (zF zS (vS l)) (vS l).length .no,[],[.data (zF zS (vS l))]):=fun j=>by kernel_rfl
   refine wZ.body func62 (by kernel_rfl) ?_
   refine Dv.seqP k0 ?_
   refine sZ (Q:=_) wC mixed 3000 (.run (uK (wO f62))) [] _ _ _ _ _ _ _ _ x1 yR.nil ?_
   refine Dv.seqP k1 ?_
   refine sZ (Q:=_) wC mixed 3000 (.run (uK (xH (wO f62)))) [] _ _ _ _ _ _ _ _ x2 (yR.cons (oJ rfl) (yR.cons (lO (jM h2)) yR.nil)) ?_
   refine Dv.seqP k2 ?_
   obtain⟨id,k7⟩:=zFm k3
   rw[k7]
   refine Dv.mut wC (na:=(0:Nat)) rfl 2 [] [] _ x3 (yR.cons (lO (zTZ h5)) yR.nil) k4 func119 k5 k6 (fun i X h=>by cases h) ?_ x4 yR.nil ?_
   ·intro G0 W hB G w hE hR u hu
    refine(T9 hR (by rfl) hsz hu).mono ?_
    rintro e w' ⟨v,b,S,z1,z2,z3,z4,z5,z6⟩
    exact⟨v,b,S,z1,z2,z3,z4,z5,fun G' _ _ hS=>⟨z6 G' hS,fun q hq=>by cases hq⟩⟩
   ·intro j
    exact nG (na:=(0:Nat)) wC mixed (x5 j) (yR.cons (sD (dI _)) yR.nil) (by decide)
  ·replace h:=ifF h6 h
   cases h
 ·replace h:=ifF h3 h
  replace h:=Option.some.inj h
  subst h
  exact⟨wZ.toFin wC mixed func62 (by kernel_rfl) 3000 [.no,.call [] [] 0 (ab r1) (some false),.no] [] [] [] false (by kernel_rfl) (yR.cons (oJ h3) (yR.cons (lO (jM h2)) (yR.cons (sD (dI ([]:zU))) yR.nil))) (by decide),⟨⟨trivial,trivial,⟨trivial,dT _⟩,trivial⟩,trivial⟩,(fun _ h=>nomatch h),dI _,(fun _ h=>nomatch h)⟩
def zLE(b:Nat)(a:Tm)(c:Int):Option Bool:=
 iP b a 0 c>>=fun r1=>
 if r1 then
 e62 b a>>=fun r4=>
 some ((r4.length:Int)==0)
 else
 none
theorem zUy{b a c r}(h:zLE b a c=some r):Ct 198 [] [xF a,ai c] (ab r) [] 0:=⟨by
 unfold zLE at h
 obtain⟨r1,h2,h⟩:=zD h
 obtain⟨h3,h⟩:=xD h
 obtain⟨r4,h5,h⟩:=zD h
 cases h
 exact tF ⟨func198,rfl⟩ 2 [] (oC 1 [] (c62 h5)<|oK 1 [] h3 (eU h2) o0),⟨⟨tv,tv,⟨tv,dT _⟩,tv⟩,tv,tv⟩,zB,tv,zB⟩
def zLF(b:Nat)(a:Tm):Option Bool:=
 if a.k==0 then
 if a.n==0 then
 some ((a.sub.length:Int)==0)
 else
 none
 else
 none
theorem zUx{b a r}(h:zLF b a=some r):Ct 301 [] [xF a] (ab r) [] 0:=⟨by
 unfold zLF at h
 obtain⟨h1,h⟩:=xD h
 have k:=oB 1 h1 o0
 obtain⟨h2,h⟩:=xD h
 cases h
 exact tF ⟨func301,rfl⟩ 3 [] (oB 1 h2 k),⟨⟨tv,tv,⟨tv,dT _⟩,tv⟩,tv⟩,zB,tv,zB⟩
def bH:Nat->zU->Int->Int->Option Bool
 |0,_,_,_=>none
 |c+1,a,b,d=>
 if decide (d<(a.length:Int))then
 yG a d>>=fun x2=>
 if x2 != (xE (b+d))then
 none
 else
 bH c a b (xE (d+1))
 else
 some true
def zLG(c:Nat)(a:zU)(b:Int):Option Bool:=
 bH c a b 0
theorem zLH:∀c:Nat,(∀ {a b d r},bH c a b d=some r->(∀j,dL 0 (pt 949 f302) (sp j 20 0 [(1,ai b),(7,zH zS a .no),(8,ai (a.length:Int)),(9,ai d)]) (⟨[],0,[],0,[]⟩) (fQ 0 (nQ 0 f302 (ab r) [] 0) [.blk 0,.seq (pt 15 f302)]))):=by
 intro c
 induction c with
 |zero=>
  exact fun h=>nn h
 |succ c ih=>
  intro a b d r h
  rw[bH]at h
  obtain⟨h1,h⟩|⟨h1,h⟩:=xA h
  obtain⟨x2,h3,h⟩:=zD h
  have k:=oA 0 (sU (o:=.no) h3)<|oB 0 h1 o0
  obtain⟨h4,h⟩:=zT h
  exact fun j=>lH 1 [] [] [] [1,7,8,9] (oD (dI a)<|oB 2 h4 k) (ih h)
  cases h
  exact fun j=>lF 0 [] (oB 0 h1 o0)
theorem zUw{c a b r}(h:zLG c a b=some r):Ct 302 [] [zH zS a .no,ai b] (ab r) [] 0:=⟨by
 unfold zLG at h
 exact tH ⟨func302,rfl⟩ 1 [] [] [] [1,7,8,9] (oD (dI a) o0) (zLH _ h),⟨⟨tv,dI _⟩,tv,tv⟩,zB,tv,zB⟩
def zIm(d:Nat)(b:yD)(a c:Int):Option Bool:=
 if decide (a≥0)then
 if decide (a<(b.length:Int))then
 yG b a>>=fun x3=>
 some (x3.kind==c)
 else
 none
 else
 none
theorem zPV{d b a c r}(h:zIm d b a c=some r):Ct 360 [] [zH yE b .no,ai a,ai c] (ab r) [] 0:=⟨by
 unfold zIm at h
 obtain⟨h1,h⟩:=xD h
 have k:=oB 0 h1 o0
 obtain⟨h2,h⟩:=xD h
 obtain⟨x3,h4,h⟩:=zD h
 cases h
 exact tF ⟨func360,rfl⟩ 2 [] (oA 0 (vF (o:=.no) h4)<|oB 1 h2 k),⟨⟨tv,dE _⟩,tv,tv,tv⟩,zB,tv,zB⟩
def bI:Nat->yD->Int->zU->Int->Int->Option Bool
 |0,_,_,_,_,_=>none
 |d+1,c,e,b,f,a=>
 if decide (a<(b.length:Int))then
 yG b a>>=fun x2=>
 zIm d c x2 f>>=fun r4=>
 if r4 then
 yG c x2>>=fun x7=>
 if x7.fam != e then
 none
 else
 if x7.place != a then
 none
 else
 bI d c e b f (xE (a+1))
 else
 none
 else
 some true
def zLI(d:Nat)(c:yD)(e:Int)(b:zU)(f:Int):Option Bool:=
 bI d c e b f 0
theorem zLJ:∀d:Nat,(∀ {c e b f a r},bI d c e b f a=some r->(∀j,dL 0 (pt 949 f303) (sp j 42 0 [(0,zH yE c .no),(1,ai e),(3,ai f),(11,zH zS b .no),(12,ai (b.length:Int)),(13,ai a)]) (⟨[],0,[],0,[]⟩) (fQ 0 (nQ 0 f303 (ab r) [] 0) [.blk 0,.seq (pt 15 f303)]))):=by
 intro d
 induction d with
 |zero=>
  exact fun h=>nn h
 |succ d ih=>
  intro c e b f a r h
  rw[bI]at h
  obtain⟨h1,h⟩|⟨h1,h⟩:=xA h
  obtain⟨x2,h3,h⟩:=zD h
  obtain⟨r4,h5,h⟩:=zD h
  have k:=oA 0 (sU (o:=.no) h3)<|oB 0 h1 o0
  obtain⟨h6,h⟩:=xD h
  obtain⟨x7,h8,h⟩:=zD h
  have k:=oA 1 (vF (o:=.no) h8)<|oK 1 [] h6 (zPV h5) k
  obtain⟨h9,h⟩:=zT h
  have k:=oA 0 (vF (o:=.no) h8)<|oB 1 h9 k
  obtain⟨h10,h⟩:=zT h
  exact fun j=>lH 1 [] [] [] [0,1,3,11,12,13] (oD (dI b)<|oD (dE c)<|oB 1 h10 k) (ih h)
  cases h
  exact fun j=>lF 0 [] (oB 0 h1 o0)
theorem zUv{d c e b f r}(h:zLI d c e b f=some r):Ct 303 [] [zH yE c .no,ai e,zH zS b .no,ai f] (ab r) [] 0:=⟨by
 unfold zLI at h
 exact tH ⟨func303,rfl⟩ 1 [] [] [] [0,1,3,11,12,13] (oD (dI b)<|oD (dE c) o0) (zLJ _ h),⟨⟨tv,dE _⟩,tv,⟨tv,dI _⟩,tv,tv⟩,zB,tv,zB⟩
def zPW(a:Nat)(c:yD)(b:Int):Option Bool:=
 yG c b>>=fun x1=>
 if decide (x1.pars<0)then
 none
 else
 if decide (x1.inds<0)then
 none
 else
 if decide (x1.pars>24)then
 none
 else
 if decide (x1.inds>(xE (24-x1.pars)))then
 none
 else
 if x1.fam != 0 then
 none
 else
 if x1.place != 0 then
 none
 else
 zLF a x1.body>>=fun r9=>
 if r9 then
 e47 a x1.type (xE (x1.pars+x1.inds))>>=fun r12=>
 if r12.2.2 != 0 then
 none
 else
 if r12.2.1.k != 2 then
 none
 else
 if r12.2.1.n != x1.level then
 none
 else
 if decide ((x1.cons.length:Int)>16)then
 none
 else
 zLG a x1.cons (xE (b+1))>>=fun r18=>
 if r18 then
 zLI a c b x1.cons 2>>=fun r21=>
 if r21 then
 if (x1.fields.length:Int)==0 then
 some true
 else
 if x1.inds != 0 then
 none
 else
 if (x1.cons.length:Int) != 1 then
 none
 else
 zLG a x1.fields (xE (b+2))>>=fun r27=>
 if r27 then
 zLI a c b x1.fields 4>>=fun r30=>
 if r30 then
 yG c (xE (b+1))>>=fun x33=>
 zFL a x33.type>>=fun r35=>
 if r35.2.2==0 then
 some ((r35.1.length:Int)==(xE (x1.pars+(x1.fields.length:Int))))
 else
 none
 else
 none
 else
 none
 else
 none
 else
 none
 else
 none
theorem zUu:Qf 199 f199:=⟨func199,rfl⟩
theorem zXs{a c b r}(h:zPW a c b=some r):Ct 199 [] [zH yE c .no,ai b] (ab r) [] 0:=⟨by
 unfold zPW at h
 obtain⟨x1,h2,h⟩:=zD h
 have k:=oA 0 (vF (o:=.no) h2) o0
 obtain⟨h3,h⟩:=zT h
 have k:=oB 3 h3 k
 obtain⟨h4,h⟩:=zT h
 have k:=oB 1 h4 k
 obtain⟨h5,h⟩:=zT h
 have k:=oB 1 h5 k
 obtain⟨h6,h⟩:=zT h
 have k:=oB 3 h6 k
 obtain⟨h7,h⟩:=zT h
 have k:=oB 1 h7 k
 obtain⟨h8,h⟩:=zT h
 obtain⟨r9,h10,h⟩:=zD h
 have k:=oB 1 h8 k
 obtain⟨h11,h⟩:=xD h
 obtain⟨r12,h13,h⟩:=zD h
 have k:=oC 5 [] (c47 h13)<|oK 1 [] h11 (zUx h10) k
 obtain⟨h14,h⟩:=zT h
 have k:=oB 4 h14 k
 obtain⟨h15,h⟩:=zT h
 have k:=oB 1 h15 k
 obtain⟨h16,h⟩:=zT h
 have k:=oB 2 h16 k
 obtain⟨h17,h⟩:=zT h
 obtain⟨r18,h19,h⟩:=zD h
 have k:=oB 2 h17 k
 obtain⟨h20,h⟩:=xD h
 obtain⟨r21,h22,h⟩:=zD h
 have k:=oK 2 [] h20 (zUw h19) k
 obtain⟨h23,h⟩:=xD h
 have k:=oK 2 [] h23 (zUv h22) k
 obtain⟨h24,h⟩|⟨h24,h⟩:=xA h
 cases h
 exact tF zUu 0 [] (oB 3 h24 k)
 have k:=oB 3 h24 k
 obtain⟨h25,h⟩:=zT h
 have k:=oB 1 h25 k
 obtain⟨h26,h⟩:=zT h
 obtain⟨r27,h28,h⟩:=zD h
 have k:=oB 2 h26 k
 obtain⟨h29,h⟩:=xD h
 obtain⟨r30,h31,h⟩:=zD h
 have k:=oK 2 [] h29 (zUw h28) k
 obtain⟨h32,h⟩:=xD h
 obtain⟨x33,h34,h⟩:=zD h
 obtain⟨r35,h36,h⟩:=zD h
 have k:=oC 1 [] (zLd h36)<|oA 2 (vF (o:=.no) h34)<|oK 2 [] h32 (zUv h31) k
 obtain⟨h37,h⟩:=xD h
 cases h
 exact tF zUu 6 [] (oB 4 h37 k),⟨⟨tv,dE _⟩,tv,tv⟩,zB,tv,zB⟩
def zLK(c:Nat)(b:yD)(a:Int):Option Bool:=
 yG b a>>=fun x1=>
 zIm c b x1.fam 1>>=fun r3=>
 if r3 then
 if decide (x1.fam≥a)then
 none
 else
 yG b x1.fam>>=fun x7=>
 if x1.pars != x7.pars then
 none
 else
 zLF c x1.body>>=fun r10=>
 if r10 then
 if x1.inds != 0 then
 none
 else
 if x1.level != 0 then
 none
 else
 if decide ((xE ((x1.cons.length:Int)+(x1.fields.length:Int)))>0)then
 none
 else
 if x1.kind==4 then
 if decide (x1.place≥0)then
 if decide (x1.place<(x7.fields.length:Int))then
 yG x7.fields x1.place>>=fun x19=>
 some (x19==a)
 else
 none
 else
 none
 else
 if decide (x1.place≥0)then
 if decide (x1.place<(x7.cons.length:Int))then
 yG x7.cons x1.place>>=fun x23=>
 some (x23==a)
 else
 none
 else
 none
 else
 none
 else
 none
theorem zUt:Qf 305 f305:=⟨func305,rfl⟩
theorem zUs{c b a r}(h:zLK c b a=some r):Ct 305 [] [zH yE b .no,ai a] (ab r) [] 0:=⟨by
 unfold zLK at h
 obtain⟨x1,h2,h⟩:=zD h
 obtain⟨r3,h4,h⟩:=zD h
 have k:=oA 0 (vF (o:=.no) h2) o0
 obtain⟨h5,h⟩:=xD h
 have k:=oK 3 [] h5 (zPV h4) k
 obtain⟨h6,h⟩:=zT h
 obtain⟨x7,h8,h⟩:=zD h
 have k:=oA 2 (vF (o:=.no) h8)<|oB 2 h6 k
 obtain⟨h9,h⟩:=zT h
 obtain⟨r10,h11,h⟩:=zD h
 have k:=oB 1 h9 k
 obtain⟨h12,h⟩:=xD h
 have k:=oK 1 [] h12 (zUx h11) k
 obtain⟨h13,h⟩:=zT h
 have k:=oB 2 h13 k
 obtain⟨h14,h⟩:=zT h
 have k:=oB 1 h14 k
 obtain⟨h15,h⟩:=zT h
 have k:=oA 1 (vF (o:=.no) h8)<|oB 5 h15 k
 obtain⟨h16,h⟩|⟨h16,h⟩:=xA h
 have k:=oA 1 (vF (o:=.no) h8)<|oB 2 h16 k
 obtain⟨h17,h⟩:=xD h
 have k:=oB 2 h17 k
 obtain⟨h18,h⟩:=xD h
 obtain⟨x19,h20,h⟩:=zD h
 cases h
 exact tF zUt 2 [] (oA 1 (sU (o:=.no) h20)<|oB 2 h18 k)
 have k:=oB 2 h16 k
 obtain⟨h21,h⟩:=xD h
 have k:=oB 1 h21 k
 obtain⟨h22,h⟩:=xD h
 obtain⟨x23,h24,h⟩:=zD h
 cases h
 exact tF zUt 2 [] (oA 1 (sU (o:=.no) h24)<|oB 2 h22 k),⟨⟨tv,dE _⟩,tv,tv⟩,zB,tv,zB⟩
def zPX(b:Nat)(a:yD)(c:Int):Option Bool:=
 yG a c>>=fun x1=>
 zFL b x1.type>>=fun r3=>
 zLK b a c>>=fun r5=>
 if r5 then
 if r3.2.2==0 then
 if decide ((r3.1.length:Int)≥x1.pars)then
 yG a x1.fam>>=fun x10=>
 zIn b r3.2.1 x1.fam x1.pars x10.inds (r3.1.length:Int)>>=fun r12=>
 some r12
 else
 none
 else
 none
 else
 none
theorem zXr{b a c r}(h:zPX b a c=some r):Ct 200 [] [zH yE a .no,ai c] (ab r) [] 0:=⟨by
 unfold zPX at h
 obtain⟨x1,h2,h⟩:=zD h
 obtain⟨r3,h4,h⟩:=zD h
 obtain⟨r5,h6,h⟩:=zD h
 have k:=oC 1 [] (zLd h4)<|oA 0 (vF (o:=.no) h2) o0
 obtain⟨h7,h⟩:=xD h
 have k:=oK 4 [] h7 (zUs h6) k
 obtain⟨h8,h⟩:=xD h
 have k:=oA 1 (vF (o:=.no) h2)<|oB 0 h8 k
 obtain⟨h9,h⟩:=xD h
 obtain⟨x10,h11,h⟩:=zD h
 obtain⟨r12,h13,h⟩:=zD h
 obtain rfl:=sj h
 exact tF ⟨func200,rfl⟩ 0 [] (oC 2 [] (zPM h13)<|oA 1 (vF (o:=.no) h11)<|oA 1 (vF (o:=.no) h2)<|oA 1 (vF (o:=.no) h2)<|oA 1 (vF (o:=.no) h2)<|oB 1 h9 k),⟨⟨tv,dE _⟩,tv,tv⟩,zB,tv,zB⟩
def zPY(a:Nat)(b:yD)(c:Int):Option Bool:=
 zLK a b c>>=fun r1=>
 if r1 then
 yG b c>>=fun x4=>
 e47 a x4.type (xE (x4.pars+1))>>=fun r6=>
 if r6.2.2==0 then
 yG r6.1 x4.pars>>=fun x9=>
 zIn a x9 x4.fam x4.pars 0 x4.pars>>=fun r11=>
 some r11
 else
 none
 else
 none
theorem zXq{a b c r}(h:zPY a b c=some r):Ct 201 [] [zH yE b .no,ai c] (ab r) [] 0:=⟨by
 unfold zPY at h
 obtain⟨r1,h2,h⟩:=zD h
 obtain⟨h3,h⟩:=xD h
 obtain⟨x4,h5,h⟩:=zD h
 obtain⟨r6,h7,h⟩:=zD h
 have k:=oC 2 [] (c47 h7)<|oA 1 (vF (o:=.no) h5)<|oA 1 (vF (o:=.no) h5)<|oK 0 [] h3 (zUs h2) o0
 obtain⟨h8,h⟩:=xD h
 obtain⟨x9,h10,h⟩:=zD h
 obtain⟨r11,h12,h⟩:=zD h
 obtain rfl:=sj h
 exact tF ⟨func201,rfl⟩ 0 [] (oC 1 [] (zPM h12)<|oA 1 (vF (o:=.no) h5)<|oA 1 (vF (o:=.no) h5)<|oA 1 (vF (o:=.no) h5)<|oA 1 (wN (o:=.no) h10)<|oA 0 (vF (o:=.no) h5)<|oB 4 h8 k),⟨⟨tv,dE _⟩,tv,tv⟩,zB,tv,zB⟩
def zPZ(c:Nat)(b:yD)(a:Int):Option Bool:=
 yG b a>>=fun x1=>
 zLE c x1.body a>>=fun r3=>
 if r3 then
 if x1.fam==0 then
 if x1.place==0 then
 if x1.pars==0 then
 if x1.inds==0 then
 if x1.level==0 then
 some ((xE ((x1.cons.length:Int)+(x1.fields.length:Int)))==0)
 else
 none
 else
 none
 else
 none
 else
 none
 else
 none
 else
 none
theorem zXp{c b a r}(h:zPZ c b a=some r):Ct 202 [] [zH yE b .no,ai a] (ab r) [] 0:=⟨by
 unfold zPZ at h
 obtain⟨x1,h2,h⟩:=zD h
 obtain⟨r3,h4,h⟩:=zD h
 have k:=oA 0 (vF (o:=.no) h2) o0
 obtain⟨h5,h⟩:=xD h
 have k:=oK 3 [] h5 (zUy h4) k
 obtain⟨h6,h⟩:=xD h
 have k:=oB 1 h6 k
 obtain⟨h7,h⟩:=xD h
 have k:=oB 1 h7 k
 obtain⟨h8,h⟩:=xD h
 have k:=oB 1 h8 k
 obtain⟨h9,h⟩:=xD h
 have k:=oB 1 h9 k
 obtain⟨h10,h⟩:=xD h
 cases h
 exact tF ⟨func202,rfl⟩ 6 [] (oB 1 h10 k),⟨⟨tv,dE _⟩,tv,tv⟩,zB,tv,zB⟩
def zQz(b:Nat)(c:yD)(a:Int):Option Bool:=
 yG c a>>=fun x1=>
 e81 b x1.name>>=fun r3=>
 if r3 then
 zLE b x1.type a>>=fun r6=>
 if r6 then
 if x1.kind==1 then
 zPW b c a>>=fun r10=>
 some r10
 else
 if x1.kind==2 then
 zPX b c a>>=fun r13=>
 some r13
 else
 if x1.kind==4 then
 zPY b c a>>=fun r16=>
 some r16
 else
 if x1.kind==3 then
 zPZ b c a>>=fun r19=>
 some r19
 else
 none
 else
 none
 else
 none
theorem zLL:Qf 125 f125:=⟨func125,rfl⟩
theorem zXo{b c a r}(h:zQz b c a=some r):Ct 125 [] [zH yE c .no,ai a] (ab r) [] 0:=⟨by
 unfold zQz at h
 obtain⟨x1,h2,h⟩:=zD h
 obtain⟨r3,h4,h⟩:=zD h
 have k:=oA 0 (vF (o:=.no) h2) o0
 obtain⟨h5,h⟩:=xD h
 obtain⟨r6,h7,h⟩:=zD h
 have k:=oA 1 (vF (o:=.no) h2)<|oK 1 [] h5 (c81 h4) k
 obtain⟨h8,h⟩:=xD h
 have k:=oA 1 (vF (o:=.no) h2)<|oK 1 [] h8 (zUy h7) k
 obtain⟨h9,h⟩|⟨h9,h⟩:=xA h
 obtain⟨r10,h11,h⟩:=zD h
 obtain rfl:=sj h
 exact tF zLL 0 [] (oC 0 [] (zXs h11)<|oB 1 h9 k)
 have k:=oB 1 h9 k
 obtain⟨h12,h⟩|⟨h12,h⟩:=xA h
 obtain⟨r13,h14,h⟩:=zD h
 obtain rfl:=sj h
 exact tF zLL 0 [] (oC 0 [] (zXr h14)<|oB 0 h12 k)
 have k:=oB 0 h12 k
 obtain⟨h15,h⟩|⟨h15,h⟩:=xA h
 obtain⟨r16,h17,h⟩:=zD h
 obtain rfl:=sj h
 exact tF zLL 0 [] (oC 0 [] (zXq h17)<|oB 0 h15 k)
 have k:=oB 0 h15 k
 obtain⟨h18,h⟩:=xD h
 obtain⟨r19,h20,h⟩:=zD h
 obtain rfl:=sj h
 exact tF zLL 0 [] (oC 0 [] (zXp h20)<|oB 0 h18 k),⟨⟨tv,dE _⟩,tv,tv⟩,zB,tv,zB⟩
def Z8:Nat->yD->Int->Option Bool
 |0,_,_=>none
 |c+1,a,b=>
 if decide (b<(a.length:Int))then
 zQz c a b>>=fun r8=>
 if r8 then
 Z8 c a (xE (b+1))
 else
 none
 else
 some true
def e66(c:Nat)(a:yD):Option Bool:=
 if decide ((a.length:Int)>256)then
 none
 else
 zPQ c a>>=fun r2=>
 zPP c r2>>=fun r4=>
 if r4 then
 Z8 c a 0
 else
 none
theorem zQy:∀c:Nat,(∀ {a b r},Z8 c a b=some r->(∀j,dL 0 (pt 4021 f66) (sp j 23 0 [(0,zH yE a .no),(14,ai (a.length:Int)),(15,ai b)]) (⟨[],0,[],0,[]⟩) (fQ 0 (nQ 0 f66 (ab r) [] 0) [.blk 0,.seq (pt 63 f66)]))):=by
 intro c
 induction c with
 |zero=>
  exact fun h=>nn h
 |succ c ih=>
  intro a b r h
  rw[Z8]at h
  obtain⟨h7,h⟩|⟨h7,h⟩:=xA h
  obtain⟨r8,h9,h⟩:=zD h
  have k:=oB 0 h7 o0
  obtain⟨h10,h⟩:=xD h
  exact fun j=>lH 2 [] [] [] [0,14,15] (oD (dE a)<|oK 0 [] h10 (zXo h9) k) (ih h)
  cases h
  exact fun j=>lF 0 [] (oB 0 h7 o0)
theorem c66{c a r}(h:e66 c a=some r):Ct 66 [] [zH yE a .no] (ab r) [] 0:=⟨by
 unfold e66 at h
 obtain⟨h1,h⟩:=zT h
 obtain⟨r2,h3,h⟩:=zD h
 obtain⟨r4,h5,h⟩:=zD h
 have k:=oC 0 [] (zXv h3)<|oB 1 h1 o0
 obtain⟨h6,h⟩:=xD h
 exact tH ⟨func66,rfl⟩ 2 [] [] [] [0,14,15] (oD (dE a)<|oK 0 [] h6 (zXw h5) k) (zQy _ h),⟨⟨tv,dE _⟩,tv⟩,zB,tv,zB⟩
def gZ:Nat->yD->xS->Int->xS->Option (xS×Int)
 |0,_,_,_,_=>none
 |f+1,d,x4,e,a=>
 if decide (e<(d.length:Int))then
 yG d e>>=fun x7=>
 if x7.kind==2 then
 zLb f d e>>=fun r10=>
 uR x4.length e>>=fun x12=>
 zCN a x12 r10>>=fun x14=>
 gZ f d x4 (xE (e+1)) x14
 else
 gZ f d x4 (xE (e+1)) a
 else
 gfz x4.length a>>=fun l16=>
 some (l16,0)
def zLN(f:Nat)(d:yD):Option (xS×Int):=
 e66 f d>>=fun r1=>
 if r1 then
 gmk 72 (default:nH) (d.length:Int)>>=fun x4=>
 gZ f d x4 0 x4
 else
 none
abbrev zXn (d:yD) (r:xS×Int) (C:Cf):Prop:=C 144 [] [zH yE d .no] (.tup [.ms 0 0 r.1.length r.1.length 3,ai r.2]) [.row (zF pO r.1)] 0
theorem zLO:∀f:Nat,(∀ {d x4 e a r},gZ f d x4 e a=some r->(∀j,dL 0 (pt 16309 f144) (sp j 31 0 [(0,zH yE d .no),(4,.ms 0 0 x4.length x4.length 3),(13,ai (d.length:Int)),(14,ai e)]) (⟨[(0,.row (zF pO a))],1,[],0,[]⟩) (fQ 0 (nQ 0 f144 (.tup [.ms 0 0 r.1.length r.1.length 3,ai r.2]) [.row (zF pO r.1)] 0) [.blk 0,.seq (pt 255 f144)]))):=by
 intro f
 induction f with
 |zero=>
  exact fun h=>nn h
 |succ f ih=>
  intro d x4 e a r h
  rw[gZ]at h
  obtain⟨h6,h⟩|⟨h6,h⟩:=xA h
  obtain⟨x7,h8,h⟩:=zD h
  have k:=oA 0 (vF (o:=.no) h8)<|oB 0 h6 o0
  obtain⟨h9,h⟩|⟨h9,h⟩:=xA h
  obtain⟨r10,h11,h⟩:=zD h
  obtain⟨x12,h13,h⟩:=zD h
  obtain⟨x14,h15,h⟩:=zD h
  exact fun j=>lH 1 [] [0] [] [0,4,13,14] (oD (dE d)<|oD (dC x14)<|oW 0 (wtE (x:=r10) (cs:=[zH zC r10.args .no,zH zC r10.inds .no,zH Q8 r10.recs .no]) zHv rfl h15)<|oA 0 (zOH (b:=0) (c:=List.length x4) (z:=3) h13)<|oC 0 [] (zTU h11)<|oB 1 h9 k) (ih h)
  exact fun j=>lH 1 [] [0] [] [0,4,13,14] (oD (dE d)<|oD (dC a)<|oB 1 h9 k) (ih h)
  obtain⟨l16,h17,h⟩:=zD h
  obtain⟨h17a,h17b⟩:=tD h17
  cases h
  obtain rfl:=h17a.symm
  try dsimp only
  rw[←h17b]
  exact fun j=>lF 0 [0] (oD (dC a)<|oB 0 h6 o0)
theorem zUr{f d r}(h:zLN f d=some r):zXn d r Ct:=by
 unfold zLN at h
 obtain⟨r1,h2,h⟩:=zD h
 obtain⟨h3,h⟩:=xD h
 obtain⟨x4,h5,h⟩:=zD h
 exact⟨tH ⟨func144,rfl⟩ 1 [] [0] [] [0,4,13,14] (oD (dE d)<|oD (dC x4)<|oM 2 (zOJ h5)<|oK 0 [] h3 (c66 h2) o0) (zLO _ h),⟨⟨tv,dE _⟩,tv⟩,zB,⟨(lz rfl),tv,tv⟩,(zA (dC _) zB)⟩
theorem zXm{f d r}(h:zLN f d=some r):CT prog 144 [] [zH yE d .no] (.tup [.sl (zF pO r.1) r.1.length .no,ai r.2]) [] 0:=by
 have k:=zUr h
 exact CT.freeze (H1:=[]) (cs:=zF pO r.1) (res':=(.tup [.sl (zF pO r.1) r.1.length .no,ai r.2])) k (Nat.le_of_ble_eq_true rfl) zB (dC _) ⟨(.inl ⟨rfl,rfl⟩),trivial,tv⟩ (by rfl) rfl
def e85(a:Nat)(b:yD):Option (Int×yD×xS):=
 e68 a b>>=fun r1=>
 e66 a b>>=fun r3=>
 if r3 then
 zLN a r1>>=fun r6=>
 if r6.2 != 0 then
 none
 else
 some (0,r1,r6.1)
 else
 none
theorem c85{a b r}(h:e85 a b=some r):Ct 85 [] [zH yE b .no] (.tup [.mp 0 0,ai r.1]) [.cells [zH yE r.2.1 .no,zH pO r.2.2 .no]] 0:=⟨by
 unfold e85 at h
 obtain⟨r1,h2,h⟩:=zD h
 obtain⟨r3,h4,h⟩:=zD h
 have k:=oC 0 [] (c68 h2) o0
 obtain⟨h5,h⟩:=xD h
 obtain⟨r6,h7,h⟩:=zD h
 have k:=oC 1 [] (zXm h7)<|oK 0 [] h5 (c66 h4) k
 obtain⟨h8,h⟩:=zT h
 cases h
 exact tF ⟨func85,rfl⟩ 0 [0] (oD (dC r6.1)<|oD (dE r1)<|oB 2 h8 k),⟨⟨tv,dE _⟩,tv⟩,zB,⟨(lz rfl),tv,tv⟩,(zA ⟨dE _,dC _,tv⟩ zB)⟩
mutual
def eV:Nat->yD->(Int×yD×xS)->yD->Int->zU->zU->Option (Int×yD×zU×zU×yD×xS)
 |0,_,_,_,_,_,_=>none
 |m+1,d,r1,r4,c,a,b=>
 if decide (c<(d.length:Int))then
 yG d c>>=fun x7=>
 if x7.kind==1 then
 yV 8 a [(xE ((xE ((xE (x7.pars+2))+(x7.cons.length:Int)))+x7.inds))]>>=fun l10=>
 yV 8 b [0]>>=fun l12=>
 eV m d r1 r4 (xE (c+1)) l10 l12
 else
 if x7.kind==2 then
 Z9 m d r1 r4 c a b 0 x7.type.k x7.type.n x7.type.sub
 else
 yV 8 a [0]>>=fun l15=>
 yV 8 b [0]>>=fun l17=>
 eV m d r1 r4 (xE (c+1)) l15 l17
 else
 some (0,r4,a,b,r1.2.1,r1.2.2)
def Z9:Nat->yD->(Int×yD×xS)->yD->Int->zU->zU->Int->Int->Int->zW->Option (Int×yD×zU×zU×yD×xS)
 |0,_,_,_,_,_,_,_,_,_,_=>none
 |m+1,d,r1,r4,c,a,b,p,e,g,f=>
 if e==3 then
 yG f 1>>=fun x16=>
 Z9 m d r1 r4 c a b (xE (p+1)) x16.k x16.n x16.sub
 else
 yV 8 a [0]>>=fun l18=>
 yV 8 b [p]>>=fun l20=>
 eV m d r1 r4 (xE (c+1)) l18 l20
end
def e42(m:Nat)(d:yD):Option (Int×yD×zU×zU×yD×xS):=
 e85 m d>>=fun r1=>
 if r1.1 != 0 then
 none
 else
 e68 m d>>=fun r4=>
 eV m d r1 r4 0 [] []
theorem y4:∀m:Nat,(∀ {d r1 r4 c a b r},eV m d r1 r4 c a b=some r->(∀j,dL 0 (pt 65461 f42) (sp j 81 0 [(6,.mp 0 0),(25,zH yE d .no),(26,ai (d.length:Int)),(27,ai c)]) (⟨[(0,.cells [zH yE r4 .no,.mp 1 0,zH zS a (.st 0 1),zH zS b (.st 1 1)]),(1,.cells [zH yE r1.2.1 .no,zH pO r1.2.2 .no])],2,[0,1],2,[]⟩) (fQ 0 (nQ 0 f42 (.tup [.mp 0 0,ai r.1]) [.cells [zH yE r.2.1 .no,.mp 1 0,zH zS r.2.2.1 .no,zH zS r.2.2.2.1 .no],.cells [zH yE r.2.2.2.2.1 .no,zH pO r.2.2.2.2.2 .no]] 0) [.blk 0,.seq (pt 1023 f42)])))∧(∀ {d r1 r4 c a b p e g f r},Z9 m d r1 r4 c a b p e g f=some r->(∀j,dL 0 (pt 281157048172469 f42) (sp j 81 0 [(6,.mp 0 0),(9,ai 0),(10,ai p),(11,.mp 1 0),(25,zH yE d .no),(26,ai (d.length:Int)),(27,ai c)]) (⟨[(0,.cells [zH yE r4 .no,.mp 2 0,zH zS a (.st 0 1),zH zS b (.st 1 1)]),(1,.cells [ai e,ai g,zH zC f .no]),(2,.cells [zH yE r1.2.1 .no,zH pO r1.2.2 .no])],3,[0,1],2,[]⟩) (fQ 0 (nQ 0 f42 (.tup [.mp 0 0,ai r.1]) [.cells [zH yE r.2.1 .no,.mp 1 0,zH zS r.2.2.1 .no,zH zS r.2.2.2.1 .no],.cells [zH yE r.2.2.2.2.1 .no,zH pO r.2.2.2.2.2 .no]] 0) [.blk 3,.blk 2,.seq (pt 1072529023 f42),.blk 1,.seq (pt 4189567 f42),.loop (pt 65461 f42),.blk 0,.seq (pt 1023 f42)]))):=by
 intro m
 induction m with
 |zero=>
  exact⟨fun h=>nn h,fun h=>nn h⟩
 |succ m ih=>
  obtain⟨y5,zEh⟩:=ih
  refine⟨?_,?_⟩
  intro d r1 r4 c a b r h
  rw[eV]at h
  obtain⟨h6,h⟩|⟨h6,h⟩:=xA h
  obtain⟨x7,h8,h⟩:=zD h
  have k:=oA 0 (vF (o:=.no) h8)<|oB 0 h6 o0
  obtain⟨h9,h⟩|⟨h9,h⟩:=xA h
  obtain⟨l10,h11,h⟩:=zD h
  obtain⟨l12,h13,h⟩:=zD h
  exact fun j=>lH 3 [] [0,1] [2,3] [6,25,26,27] (oD (dE d)<|oD (dC r1.2.2)<|oD (dE r1.2.1)<|oD (dI l12)<|oD (dI l10)<|oD (dE r4)<|oP 2 (sG h13 (by simp))<|oP 9 (sG h11 (by simp))<|oB 3 h9 k) (y5 h)
  have k:=oB 3 h9 k
  obtain⟨h14,h⟩|⟨h14,h⟩:=xA h
  exact fun j=>lH 2 [] [0,3,1] [0,1] [6,9,10,11,25,26,27] (oD (dE d)<|oD (dC r1.2.2)<|oD (dE r1.2.1)<|oD (dT x7.type.sub)<|oD (dI b)<|oD (dI a)<|oD (dE r4)<|oB 0 h14 k) (zEh h)
  obtain⟨l15,h16,h⟩:=zD h
  obtain⟨l17,h18,h⟩:=zD h
  exact fun j=>lH 3 [] [0,1] [2,3] [6,25,26,27] (oD (dE d)<|oD (dC r1.2.2)<|oD (dE r1.2.1)<|oD (dI l17)<|oD (dI l15)<|oD (dE r4)<|oP 2 (sG h18 (by simp))<|oP 2 (sG h16 (by simp))<|oB 0 h14 k) (y5 h)
  cases h
  exact fun j=>lF 0 [0,1] (oD (dC r1.2.2)<|oD (dE r1.2.1)<|oD (dI b)<|oD (dI a)<|oD (dE r4)<|oB 0 h6 o0)
  intro d r1 r4 c a b p e g f r h
  rw[Z9]at h
  obtain⟨h15,h⟩|⟨h15,h⟩:=xA h
  obtain⟨x16,h17,h⟩:=zD h
  exact fun j=>lH 2 [] [0,3,2] [0,1] [6,9,10,11,25,26,27] (oD (dE d)<|oD (dC r1.2.2)<|oD (dE r1.2.1)<|oD (dT x16.sub)<|oD (dI b)<|oD (dI a)<|oD (dE r4)<|oA 4 (wN (o:=.no) h17)<|oB 1 h15 o0) (zEh h)
  obtain⟨l18,h19,h⟩:=zD h
  obtain⟨l20,h21,h⟩:=zD h
  exact fun j=>lH 3 [] [0,2] [2,3] [6,25,26,27] (oD (dE d)<|oD (dC r1.2.2)<|oD (dE r1.2.1)<|oD (dI l20)<|oD (dI l18)<|oD (dE r4)<|oP 2 (sG h21 (by simp))<|oP 2 (sG h19 (by simp))<|oB 1 h15 o0) (y5 h)
theorem c42{m d r}(h:e42 m d=some r):Ct 42 [] [zH yE d .no] (.tup [.mp 0 0,ai r.1]) [.cells [zH yE r.2.1 .no,.mp 1 0,zH zS r.2.2.1 .no,zH zS r.2.2.2.1 .no],.cells [zH yE r.2.2.2.2.1 .no,zH pO r.2.2.2.2.2 .no]] 0:=⟨by
 unfold e42 at h
 obtain⟨r1,h2,h⟩:=zD h
 have k:=oC 0 [] (c85 h2) o0
 obtain⟨h3,h⟩:=zT h
 obtain⟨r4,h5,h⟩:=zD h
 exact tH ⟨func42,rfl⟩ 1 [(some 1,2,1),(some 1,3,1)] [1,0] [0,1] [6,25,26,27] (oD (dE d)<|oD (dC r1.2.2)<|oD (dE r1.2.1)<|oD (dI ([]:zU))<|oD (dI ([]:zU))<|oD (dE r4)<|oC 0 [] (c68 h5)<|oB 2 h3 k) ((y4 _).1 h),⟨⟨tv,dE _⟩,tv⟩,zB,⟨(lz rfl),tv,tv⟩,(vQ (lz rfl) zB)⟩
def e26(c:Nat)(b:yD)(a:wX)(d e:Int):Option (yD×Int×Int×ByteArray×List yJ×Int×Int×ByteArray×Int×List zO×List yJ×List xC×zW×Int×Int×zW×List (List zK)×List (List ByteArray)×List yM×Int×Int×Int×xN×zW×zW×List zY×Int×Int×zW×Int×Int×yD×zU×zU×yD×xS):=
 e41 c a>>=fun r1=>
 if r1 then
 if a.kind_ != 3 then
 none
 else
 e42 c b>>=fun r5=>
 if r5.1 != 0 then
 none
 else
 some (b,a.kind_,a.at_,a.name_,a.tele_,a.type_.kind_,a.type_.at_,a.type_.name_,a.type_.n_,a.type_.sub_,a.cons_,a.rows_,[],0,0,[],([]:List (List zK)),([]:List (List ByteArray)),([]:List yM),0,0,0,[],[],[],[],0,0,[],0,0,r5.2.1,r5.2.2.1,r5.2.2.2.1,r5.2.2.2.2.1,r5.2.2.2.2.2)
 else
 none
theorem c26{c b a d e r}(h:e26 c b a d e=some r):Ct 26 [.cells [ai d,ai e]] [zH yE b .no,oO a,.mp 0 0] (.mp 1 0) [.cells [ai d,ai e],.cells [zH yE r.1 .no,.mp 2 0,ai r.2.1,ai r.2.2.1,at' r.2.2.2.1,zH zN r.2.2.2.2.1 .no,ai r.2.2.2.2.2.1,ai r.2.2.2.2.2.2.1,at' r.2.2.2.2.2.2.2.1,ai r.2.2.2.2.2.2.2.2.1,zH zR r.2.2.2.2.2.2.2.2.2.1 .no,zH zN r.2.2.2.2.2.2.2.2.2.2.1 .no,zH yH r.2.2.2.2.2.2.2.2.2.2.2.1 .no,.mp 0 0,zH zC r.2.2.2.2.2.2.2.2.2.2.2.2.1 .no,ai r.2.2.2.2.2.2.2.2.2.2.2.2.2.1,ai r.2.2.2.2.2.2.2.2.2.2.2.2.2.2.1,zH zC r.2.2.2.2.2.2.2.2.2.2.2.2.2.2.2.1 .no,.ms 3 0 r.2.2.2.2.2.2.2.2.2.2.2.2.2.2.2.2.1.length r.2.2.2.2.2.2.2.2.2.2.2.2.2.2.2.2.1.length 1,.ms 4 0 r.2.2.2.2.2.2.2.2.2.2.2.2.2.2.2.2.2.1.length r.2.2.2.2.2.2.2.2.2.2.2.2.2.2.2.2.2.1.length 1,.ms 5 0 r.2.2.2.2.2.2.2.2.2.2.2.2.2.2.2.2.2.2.1.length r.2.2.2.2.2.2.2.2.2.2.2.2.2.2.2.2.2.2.1.length 4,ai r.2.2.2.2.2.2.2.2.2.2.2.2.2.2.2.2.2.2.2.1,ai r.2.2.2.2.2.2.2.2.2.2.2.2.2.2.2.2.2.2.2.2.1,ai r.2.2.2.2.2.2.2.2.2.2.2.2.2.2.2.2.2.2.2.2.2.1,zH zJ r.2.2.2.2.2.2.2.2.2.2.2.2.2.2.2.2.2.2.2.2.2.2.1 .no,zH zC r.2.2.2.2.2.2.2.2.2.2.2.2.2.2.2.2.2.2.2.2.2.2.2.1 .no,zH zC r.2.2.2.2.2.2.2.2.2.2.2.2.2.2.2.2.2.2.2.2.2.2.2.2.1 .no,zH zV r.2.2.2.2.2.2.2.2.2.2.2.2.2.2.2.2.2.2.2.2.2.2.2.2.2.1 .no,ai r.2.2.2.2.2.2.2.2.2.2.2.2.2.2.2.2.2.2.2.2.2.2.2.2.2.2.1,ai r.2.2.2.2.2.2.2.2.2.2.2.2.2.2.2.2.2.2.2.2.2.2.2.2.2.2.2.1,zH zC r.2.2.2.2.2.2.2.2.2.2.2.2.2.2.2.2.2.2.2.2.2.2.2.2.2.2.2.2.1 .no,ai r.2.2.2.2.2.2.2.2.2.2.2.2.2.2.2.2.2.2.2.2.2.2.2.2.2.2.2.2.2.1,ai r.2.2.2.2.2.2.2.2.2.2.2.2.2.2.2.2.2.2.2.2.2.2.2.2.2.2.2.2.2.2.1],.cells [zH yE r.2.2.2.2.2.2.2.2.2.2.2.2.2.2.2.2.2.2.2.2.2.2.2.2.2.2.2.2.2.2.2.1 .no,.mp 6 0,zH zS r.2.2.2.2.2.2.2.2.2.2.2.2.2.2.2.2.2.2.2.2.2.2.2.2.2.2.2.2.2.2.2.2.1 .no,zH zS r.2.2.2.2.2.2.2.2.2.2.2.2.2.2.2.2.2.2.2.2.2.2.2.2.2.2.2.2.2.2.2.2.2.1 .no],.row (zF (yO zI) r.2.2.2.2.2.2.2.2.2.2.2.2.2.2.2.2.1),.row (zF (yO xG) r.2.2.2.2.2.2.2.2.2.2.2.2.2.2.2.2.2.1),.row (zF zZ r.2.2.2.2.2.2.2.2.2.2.2.2.2.2.2.2.2.2.1),.cells [zH yE r.2.2.2.2.2.2.2.2.2.2.2.2.2.2.2.2.2.2.2.2.2.2.2.2.2.2.2.2.2.2.2.2.2.2.1 .no,zH pO r.2.2.2.2.2.2.2.2.2.2.2.2.2.2.2.2.2.2.2.2.2.2.2.2.2.2.2.2.2.2.2.2.2.2.2 .no]] 0:=⟨by
 unfold e26 at h
 obtain⟨r1,h2,h⟩:=zD h
 obtain⟨h3,h⟩:=xD h
 have k:=oK 1 [] h3 (c41 h2) o0
 obtain⟨h4,h⟩:=zT h
 obtain⟨r5,h6,h⟩:=zD h
 have k:=oC 0 [] (c42 h6)<|oB 2 h4 k
 obtain⟨h7,h⟩:=zT h
 cases h
 exact tG ⟨func26,rfl⟩ 1 [(some 4,18,4097),(some 4,19,4097),(some 4,20,4100)] [0,4,2,5,6,7,3] [] false (oD (dC r5.2.2.2.2.2)<|oD (dE r5.2.2.2.2.1)<|oD (zQ ([]:List yM))<|oD ((yP yN) ([]:List (List ByteArray)))<|oD ((yP zG) ([]:List (List zK)))<|oD (dI r5.2.2.2.1)<|oD (dI r5.2.2.1)<|oD (dE r5.2.1)<|oD (dT ([]:zW))<|oD (zM ([]:List zY))<|oD (dT ([]:zW))<|oD (dT ([]:zW))<|oD (zE ([]:xN))<|oD (dT ([]:zW))<|oD (dT ([]:zW))<|qJ b a.tele_ a.type_.sub_ a.cons_ a.rows_<|oB 2 h7 k),⟨⟨tv,dE _⟩,⟨tv,tv,tv,⟨tv,yC _⟩,tv,tv,tv,tv,⟨tv,zL _⟩,⟨tv,yC _⟩,⟨tv,yT _⟩,tv⟩,(lz rfl),tv⟩,(zA ⟨tv,tv,tv⟩ zB),(lz rfl),(zA ⟨tv,tv,tv⟩ (zA ⟨dE _,(lz rfl),tv,tv,tv,yC _,tv,tv,tv,tv,zL _,yC _,yT _,(lz rfl),dT _,tv,tv,dT _,(lz rfl),(lz rfl),(lz rfl),tv,tv,tv,zE _,dT _,dT _,zM _,tv,tv,dT _,tv,tv,tv⟩ (zA ⟨dE _,(lz rfl),dI _,dI _,tv⟩ (zA ((yP zG) _) (zA ((yP yN) _) (zA (zQ _) (zA ⟨dE _,dC _,tv⟩ zB)))))))⟩
def y9:Nat->yD->ByteArray->Int->Option (Int×Int)
 |0,_,_,_=>none
 |d+1,b,c,a=>
 if decide (a<(b.length:Int))then
 yG b a>>=fun x2=>
 if x2.name.toList==c.toList then
 some (a,0)
 else
 y9 d b c (xE (a+1))
 else
 some (0,16)
def e86(d:Nat)(b:yD)(c:ByteArray):Option (Int×Int):=
 y9 d b c 0
theorem zQx:∀d:Nat,(∀ {b c a r},y9 d b c a=some r->(∀j,dL 0 (pt 949 f86) (sp j 21 0 [(1,at' c),(8,zH yE b .no),(9,ai (b.length:Int)),(10,ai a)]) (⟨[],0,[],0,[]⟩) (fQ 0 (nQ 0 f86 (.tup [ai r.1,ai r.2]) [] 0) [.blk 0,.seq (pt 15 f86)]))):=by
 intro d
 induction d with
 |zero=>
  exact fun h=>nn h
 |succ d ih=>
  intro b c a r h
  rw[y9]at h
  obtain⟨h1,h⟩|⟨h1,h⟩:=xA h
  obtain⟨x2,h3,h⟩:=zD h
  have k:=oA 0 (vF (o:=.no) h3)<|oB 0 h1 o0
  obtain⟨h4,h⟩|⟨h4,h⟩:=xA h
  cases h
  exact fun j=>lF 0 [] (oB 3 h4 k)
  exact fun j=>lH 1 [] [] [] [1,8,9,10] (oD (dE b)<|oB 3 h4 k) (ih h)
  cases h
  exact fun j=>lF 0 [] (oB 0 h1 o0)
theorem c86{d b c r}(h:e86 d b c=some r):Ct 86 [] [zH yE b .no,at' c] (.tup [ai r.1,ai r.2]) [] 0:=⟨by
 unfold e86 at h
 exact tH ⟨func86,rfl⟩ 1 [] [] [] [1,8,9,10] (oD (dE b) o0) (zQx _ h),⟨⟨tv,dE _⟩,tv,tv⟩,zB,⟨tv,tv,tv⟩,zB⟩
def zDy(c:Nat)(a:List ByteArray)(b:ByteArray)(d:Int):Option Int:=
 if decide (d≥0)then
 none
 else
 some (-1)
def e87(c:Nat)(a:List ByteArray)(b:ByteArray):Option Int:=
 zDy c a b (xE ((a.length:Int)-1))
theorem zQw{c a b d r}(h:zDy c a b d=some r):(∀j,dL 0 (pt 949 f87) (sp j 20 0 [(0,zH xG a .no),(1,at' b),(5,ai d)]) (⟨[],0,[],0,[]⟩) (fQ 0 (nQ 0 f87 (ai r) [] 0) [.blk 0,.seq (pt 15 f87)])):=by
 unfold zDy at h
 obtain⟨h1,h⟩:=zT h
 cases h
 exact fun j=>lF 0 [] (oB 0 h1 o0)
theorem c87{c a b r}(h:e87 c a b=some r):Ct 87 [] [zH xG a .no,at' b] (ai r) [] 0:=⟨by
 unfold e87 at h
 exact tH ⟨func87,rfl⟩ 2 [] [] [] [0,1,5] (oD (dS a) o0) (zQw h),⟨⟨tv,dS _⟩,tv,tv⟩,zB,tv,zB⟩
def e43(b:Nat)(c:yD)(d:List ByteArray)(a:ByteArray):Option Bool:=
 e86 b c a>>=fun r1=>
 if r1.2==0 then
 none
 else
 e87 b d a>>=fun r4=>
 some (decide (r4≥0))
theorem c43{b c d a r}(h:e43 b c d a=some r):Ct 43 [] [zH yE c .no,zH xG d .no,at' a] (ab r) [] 0:=⟨by
 unfold e43 at h
 obtain⟨r1,h2,h⟩:=zD h
 have k:=oC 0 [] (c86 h2) o0
 obtain⟨h3,h⟩:=zT h
 obtain⟨r4,h5,h⟩:=zD h
 cases h
 exact tF ⟨func43,rfl⟩ 1 [] (oC 0 [] (c87 h5)<|oB 2 h3 k),⟨⟨tv,dE _⟩,⟨tv,dS _⟩,tv,tv⟩,zB,tv,zB⟩
def uO(V:Nat)(I J K:yD)(L:xS)(M N:zU)(R S:Int)(T:ByteArray)(P:List yJ)(v w:Int)(y:ByteArray)(z:Int)(d:List zO)(e:List yJ)(f:List xC)(i j:Int)(g:zW)(A B:Int)(m:zW)(a:List (List zK))(b:List (List ByteArray))(c:List yM)(C D E:Int)(n:xN)(p q:zW)(s:List zY)(F G:Int)(t:zW)(u H Q U:Int):Option (Bool×Int×Int):=
 if u==0 then
 if Q != 0 then
 some ((Q != 0),Q,U)
 else
 some ((u != 0),u,H)
 else
 none
theorem zEg:Qf 44 f44:=⟨func44,rfl⟩
theorem uP{V I J K L M N R S T P v w y z d e f i j g A B m a b c C D E n p q s F G t u H Q U r}(h:uO V I J K L M N R S T P v w y z d e f i j g A B m a b c C D E n p q s F G t u H Q U=some r):Ct 44 [.cells [zH yE I .no,.mp 1 0,ai R,ai S,at' T,zH zN P .no,ai v,ai w,at' y,ai z,zH zR d .no,zH zN e .no,zH yH f .no,.mp 3 0,zH zC g .no,ai A,ai B,zH zC m .no,.ms 4 0 a.length a.length 1,.ms 5 0 b.length b.length 1,.ms 6 0 c.length c.length 4,ai C,ai D,ai E,zH zJ n .no,zH zC p .no,zH zC q .no,zH zV s .no,ai F,ai G,zH zC t .no,ai u,ai H],qB J 2 M N,qR K L,.cells [ai i,ai j],.row (zF (yO zI) a),.row (zF (yO xG) b),.row (zF zZ c)] [.mp 0 0,ai Q,ai U] (ab r.1) [.cells [zH yE I .no,.mp 1 0,ai R,ai S,at' T,zH zN P .no,ai v,ai w,at' y,ai z,zH zR d .no,zH zN e .no,zH yH f .no,.mp 3 0,zH zC g .no,ai A,ai B,zH zC m .no,.ms 4 0 a.length a.length 1,.ms 5 0 b.length b.length 1,.ms 6 0 c.length c.length 4,ai C,ai D,ai E,zH zJ n .no,zH zC p .no,zH zC q .no,zH zV s .no,ai F,ai G,zH zC t .no,ai r.2.1,ai r.2.2],qB J 2 M N,qR K L,.cells [ai i,ai j],.row (zF (yO zI) a),.row (zF (yO xG) b),.row (zF zZ c)] 0:=⟨by
 unfold uO at h
 obtain⟨h1,h⟩:=xD h
 have k:=oB 1 h1 o0
 obtain⟨h2,h⟩|⟨h2,h⟩:=xA h
 cases h
 exact tF zEg 4 [0,1,2,3,4,5,6] (oD (zQ c)<|oD ((yP yN) b)<|oD ((yP zG) a)<|wS J K L M N<|oD (dT t)<|oD (zM s)<|oD (dT q)<|oD (dT p)<|oD (zE n)<|oD (dT m)<|oD (dT g)<|qJ I P d e f<|oB 0 h2 k)
 cases h
 exact tF zEg 2 [0,1,2,3,4,5,6] (oD (zQ c)<|oD ((yP yN) b)<|oD ((yP zG) a)<|wS J K L M N<|oD (dT t)<|oD (zM s)<|oD (dT q)<|oD (dT p)<|oD (zE n)<|oD (dT m)<|oD (dT g)<|qJ I P d e f<|oB 0 h2 k),⟨(lz rfl),tv,tv,tv⟩,(zA ⟨⟨tv,dE _⟩,(lz rfl),tv,tv,tv,⟨tv,yC _⟩,tv,tv,tv,tv,⟨tv,zL _⟩,⟨tv,yC _⟩,⟨tv,yT _⟩,(lz rfl),⟨tv,dT _⟩,tv,tv,⟨tv,dT _⟩,(lz rfl),(lz rfl),(lz rfl),tv,tv,tv,⟨tv,zE _⟩,⟨tv,dT _⟩,⟨tv,dT _⟩,⟨tv,zM _⟩,tv,tv,⟨tv,dT _⟩,tv,tv,tv⟩ (vY (lz rfl) (zA ⟨tv,tv,tv⟩ (zA ((yP zG) _) (zA ((yP yN) _) (zA (zQ _) zB)))))),tv,(zA ⟨dE _,(lz rfl),tv,tv,tv,yC _,tv,tv,tv,tv,zL _,yC _,yT _,(lz rfl),dT _,tv,tv,dT _,(lz rfl),(lz rfl),(lz rfl),tv,tv,tv,zE _,dT _,dT _,zM _,tv,tv,dT _,tv,tv,tv⟩ (vQ (lz rfl) (zA ⟨tv,tv,tv⟩ (zA ((yP zG) _) (zA ((yP yN) _) (zA (zQ _) zB))))))⟩
def bJ:Nat->List ByteArray->Int->Option Bool
 |0,_,_=>none
 |b+1,a,c=>
 if decide (c<(a.length:Int))then
 yG a c>>=fun x2=>
 if !(x2.toList==(⟨#[95]⟩:ByteArray).toList)then
 e81 b x2>>=fun r5=>
 if r5 then
 bJ b a (xE (c+1))
 else
 none
 else
 none
 else
 some true
def zQv(b:Nat)(a:List ByteArray):Option Bool:=
 bJ b a 0
theorem zLP:∀b:Nat,(∀ {a c r},bJ b a c=some r->(∀j,dL 0 (pt 949 f224) (sp j 19 0 [(5,zH xG a .no),(6,ai (a.length:Int)),(7,ai c)]) (⟨[],0,[],0,[]⟩) (fQ 0 (nQ 0 f224 (ab r) [] 0) [.blk 0,.seq (pt 15 f224)]))):=by
 intro b
 induction b with
 |zero=>
  exact fun h=>nn h
 |succ b ih=>
  intro a c r h
  rw[bJ]at h
  obtain⟨h1,h⟩|⟨h1,h⟩:=xA h
  obtain⟨x2,h3,h⟩:=zD h
  have k:=oA 0 (zKE (o:=.no) h3)<|oB 0 h1 o0
  obtain⟨h4,h⟩:=xD h
  obtain⟨r5,h6,h⟩:=zD h
  have k:=oB 1 h4 k
  obtain⟨h7,h⟩:=xD h
  exact fun j=>lH 2 [] [] [] [5,6,7] (oD (dS a)<|oK 0 [] h7 (c81 h6) k) (ih h)
  cases h
  exact fun j=>lF 0 [] (oB 0 h1 o0)
theorem zXf{b a r}(h:zQv b a=some r):Ct 224 [] [zH xG a .no] (ab r) [] 0:=⟨by
 unfold zQv at h
 exact tH ⟨func224,rfl⟩ 1 [] [] [] [5,6,7] (oD (dS a) o0) (zLP _ h),⟨⟨tv,dS _⟩,tv⟩,zB,tv,zB⟩
def zQu(b:Nat)(c:yD)(a:List ByteArray):Option Int:=
 zQv b a>>=fun r1=>
 if r1 then
 e66 b c>>=fun r4=>
 if r4 then
 if decide ((a.length:Int)>24)then
 none
 else
 some 0
 else
 none
 else
 none
theorem zXe{b c a r}(h:zQu b c a=some r):Ct 145 [] [zH yE c .no,zH xG a .no] (ai r) [] 0:=⟨by
 unfold zQu at h
 obtain⟨r1,h2,h⟩:=zD h
 obtain⟨h3,h⟩:=xD h
 obtain⟨r4,h5,h⟩:=zD h
 have k:=oK 0 [] h3 (zXf h2) o0
 obtain⟨h6,h⟩:=xD h
 have k:=oK 1 [] h6 (c66 h5) k
 obtain⟨h7,h⟩:=zT h
 cases h
 exact tF ⟨func145,rfl⟩ 0 [] (oB 2 h7 k),⟨⟨tv,dE _⟩,⟨tv,dS _⟩,tv⟩,zB,tv,zB⟩
def w5(d:Nat)(b c:Int)(a:zW):Option Tm:=
 some (Tm.mk b c a)
theorem zDx{d b c a r}(h:w5 d b c a=some r):Ct 167 [] [ai b,ai c,zH zC a .no] (xF r) [] 0:=⟨by
 unfold w5 at h
 cases h
 exact tF ⟨func167,rfl⟩ 1 [] (oD (dT a) o0),⟨tv,tv,⟨tv,dT _⟩,tv⟩,zB,⟨tv,tv,dT _,tv⟩,zB⟩
def zLQ(c:Nat)(a b:Tm):Option Tm:=
 w5 c 5 0 [a,b]>>=fun r1=>
 some r1
theorem zUp{c a b r}(h:zLQ c a b=some r):Ct 183 [] [xF a,xF b] (xF r) [] 0:=⟨by
 unfold zLQ at h
 obtain⟨r1,h2,h⟩:=zD h
 obtain rfl:=sj h
 exact tF ⟨func183,rfl⟩ 1 [] (oD (dT r1.sub)<|oC 0 [] (zDx h2)<|oS 2 (xL xU [a,b]) o0),⟨⟨tv,tv,⟨tv,dT _⟩,tv⟩,⟨tv,tv,⟨tv,dT _⟩,tv⟩,tv⟩,zB,⟨tv,tv,dT _,tv⟩,zB⟩
def zLR(c:Nat)(a b:Tm):Option Tm:=
 w5 c 3 0 [a,b]>>=fun r1=>
 some r1
theorem zUo{c a b r}(h:zLR c a b=some r):Ct 197 [] [xF a,xF b] (xF r) [] 0:=⟨by
 unfold zLR at h
 obtain⟨r1,h2,h⟩:=zD h
 obtain rfl:=sj h
 exact tF ⟨func197,rfl⟩ 1 [] (oD (dT r1.sub)<|oC 0 [] (zDx h2)<|oS 2 (xL xU [a,b]) o0),⟨⟨tv,tv,⟨tv,dT _⟩,tv⟩,⟨tv,tv,⟨tv,dT _⟩,tv⟩,tv⟩,zB,⟨tv,tv,dT _,tv⟩,zB⟩
def zFO(b:Nat)(a:Int):Option Tm:=
 w5 b 1 a []>>=fun r1=>
 some r1
theorem zLS{b a r}(h:zFO b a=some r):Ct 251 [] [ai a] (xF r) [] 0:=⟨by
 unfold zFO at h
 obtain⟨r1,h2,h⟩:=zD h
 obtain rfl:=sj h
 exact tF ⟨func251,rfl⟩ 1 [] (oD (dT r1.sub)<|oC 0 [] (zDx h2) o0),⟨tv,tv⟩,zB,⟨tv,tv,dT _,tv⟩,zB⟩
def zLT(b:Nat)(a:Int):Option Tm:=
 w5 b 6 a []>>=fun r1=>
 some r1
theorem zUn{b a r}(h:zLT b a=some r):Ct 284 [] [ai a] (xF r) [] 0:=⟨by
 unfold zLT at h
 obtain⟨r1,h2,h⟩:=zD h
 obtain rfl:=sj h
 exact tF ⟨func284,rfl⟩ 1 [] (oD (dT r1.sub)<|oC 0 [] (zDx h2) o0),⟨tv,tv⟩,zB,⟨tv,tv,dT _,tv⟩,zB⟩
def bK:Nat->yD->Int->Int->List ByteArray->zO->Int->Option (Tm×Int×Int)
 |0,_,_,_,_,_,_=>none
 |f+1,a,c,b,e,d,g=>
 if decide (g≥0)then
 yG e g>>=fun x2=>
 if x2.toList==d.name_.toList then
 zFO f (xE ((xE ((e.length:Int)-1))-g))>>=fun r5=>
 some (r5,c,b)
 else
 bK f a c b e d (xE (g-1))
 else
 e86 f a d.name_>>=fun r7=>
 if r7.2 != 0 then
 none
 else
 zLT f r7.1>>=fun r14=>
 some (r14,c,b)
def zQt(f:Nat)(a:yD)(c b:Int)(e:List ByteArray)(d:zO):Option (Tm×Int×Int):=
 bK f a c b e d (xE ((e.length:Int)-1))
theorem zLU:∀f:Nat,(∀ {a c b e d g r},bK f a c b e d g=some r->(∀j,dL 1 (pt 949 f225) (sp j 48 0 [(0,.mp 0 0),(1,zH xG e .no),(5,.mp 1 0),(6,.mp 2 0),(7,ai g)]) (⟨[(0,.cells [zH yE a .no,ai c,ai b]),(1,.cells [ai d.kind_,ai d.at_,at' d.name_,ai d.n_,zH zR d.sub_ .no]),(2,.cells [ai 0,ai 0,zH zC ([]:zW) .nl])],3,[],0,[]⟩) (fQ 1 (nQ 1 f225 (xF r.1) [.cells [zH yE a .no,ai r.2.1,ai r.2.2]] 0) [.blk 0,.seq (pt 15 f225)]))):=by
 intro f
 induction f with
 |zero=>
  exact fun h=>nn h
 |succ f ih=>
  intro a c b e d g r h
  rw[bK]at h
  obtain⟨h1,h⟩|⟨h1,h⟩:=xA h
  obtain⟨x2,h3,h⟩:=zD h
  have k:=oA 0 (zKE (o:=.no) h3)<|oB 0 h1 o0
  obtain⟨h4,h⟩|⟨h4,h⟩:=xA h
  obtain⟨r5,h6,h⟩:=zD h
  cases h
  exact fun j=>lF 1 [0] (oD (dT r5.sub)<|oD (dE a)<|oC 3 [] (zLS h6)<|oB 2 h4 k)
  exact fun j=>lH 1 [] [0,1,2] [] [0,1,5,6,7] (oD (dS e)<|oD (dT ([]:zW))<|oD (zL d.sub_)<|oD (dE a)<|oB 2 h4 k) (ih h)
  obtain⟨r7,h8,h⟩:=zD h
  have k:=oC 2 [] (c86 h8)<|oB 0 h1 o0
  obtain⟨h9,h⟩:=zT h
  obtain⟨r14,h15,h⟩:=zD h
  cases h
  exact fun j=>lF 1 [0] (oD (dT r14.sub)<|oD (dE a)<|oC 0 [] (zUn h15)<|oB 2 h9 k)
theorem zXd{f a c b e d r}(h:zQt f a c b e d=some r):Ct 225 [.cells [zH yE a .no,ai c,ai b]] [.mp 0 0,zH xG e .no,xP d] (xF r.1) [.cells [zH yE a .no,ai r.2.1,ai r.2.2]] 0:=⟨by
 unfold zQt at h
 exact tH ⟨func225,rfl⟩ 2 [] [0,1,2] [] [0,1,5,6,7] (oD (dS e)<|oD (dT ([]:zW))<|oD (zL d.sub_)<|oD (dE a) o0) (zLU _ h),⟨(lz rfl),⟨tv,dS _⟩,⟨tv,tv,tv,tv,⟨tv,zL _⟩,tv⟩,tv⟩,(zA ⟨⟨tv,dE _⟩,tv,tv,tv⟩ zB),⟨tv,tv,dT _,tv⟩,(zA ⟨dE _,tv,tv,tv⟩ zB)⟩
def zIk(b:Nat)(a:Int):Option Tm:=
 w5 b 2 a []>>=fun r1=>
 some r1
theorem zQs{b a r}(h:zIk b a=some r):Ct 226 [] [ai a] (xF r) [] 0:=⟨by
 unfold zIk at h
 obtain⟨r1,h2,h⟩:=zD h
 obtain rfl:=sj h
 exact tF ⟨func226,rfl⟩ 1 [] (oD (dT r1.sub)<|oC 0 [] (zDx h2) o0),⟨tv,tv⟩,zB,⟨tv,tv,dT _,tv⟩,zB⟩
def zDw:Nat->yD->Int->Int->List ByteArray->zO->Option (Tm×Int×Int)
 |0,_,_,_,_,_=>none
 |f+1,a,c,b,e,d=>
 if d.kind_==1 then
 zQt f a c b e d>>=fun r2=>
 some (r2.1,r2.2.1,r2.2.2)
 else
 if d.kind_==2 then
 zIk f d.n_>>=fun r5=>
 some (r5,c,b)
 else
 yG d.sub_ 0>>=fun x7=>
 zDw f a c b e x7>>=fun r9=>
 if d.kind_ != 5 then
 C4 e 0 (e.length:Int)>>=fun x12=>
 yV 16 x12 [d.name_]>>=fun l14=>
 yG d.sub_ 1>>=fun x16=>
 zDw f a r9.2.1 r9.2.2 l14 x16>>=fun r18=>
 if d.kind_==3 then
 zLR f r9.1 r18.1>>=fun r21=>
 some (r21,r18.2.1,r18.2.2)
 else
 none
 else
 yG d.sub_ 1>>=fun x28=>
 zDw f a r9.2.1 r9.2.2 e x28>>=fun r30=>
 if d.kind_==3 then
 none
 else
 if d.kind_==4 then
 none
 else
 zLQ f r9.1 r30.1>>=fun r38=>
 some (r38,r30.2.1,r30.2.2)
abbrev zLV (a:yD) (c b:Int) (e:List ByteArray) (d:zO) (r:Tm×Int×Int) (C:Cf):Prop:=C 146 [.cells [zH yE a .no,ai c,ai b]] [.mp 0 0,zH xG e .no,xP d] (xF r.1) [.cells [zH yE a .no,ai r.2.1,ai r.2.2]] 0
theorem zLW:Qf 146 f146:=⟨func146,rfl⟩
theorem zLX{a c b e d r}(h:zLV a c b e d r Ci):zLV a c b e d r Ct:=⟨h,⟨(lz rfl),⟨tv,dS _⟩,⟨tv,tv,tv,tv,⟨tv,zL _⟩,tv⟩,tv⟩,(zA ⟨⟨tv,dE _⟩,tv,tv,tv⟩ zB),⟨tv,tv,dT _,tv⟩,(zA ⟨dE _,tv,tv,tv⟩ zB)⟩
theorem zXc:∀f:Nat,(∀ {a c b e d r},zDw f a c b e d=some r->zLV a c b e d r Ct):=by
 intro f
 induction f with
 |zero=>
  exact fun h=>nn h
 |succ f ih=>
  intro a c b e d r h
  rw[zDw]at h
  obtain⟨h1,h⟩|⟨h1,h⟩:=xA h
  obtain⟨r2,h3,h⟩:=zD h
  cases h
  exact zLX (tF zLW 1 [0] (oD (dT r2.1.sub)<|oD (dE a)<|oC 1 [0] (zXd h3)<|oB 1 h1 o0))
  have k:=oB 1 h1 o0
  obtain⟨h4,h⟩|⟨h4,h⟩:=xA h
  obtain⟨r5,h6,h⟩:=zD h
  cases h
  exact zLX (tF zLW 1 [0] (oD (dT r5.sub)<|oD (dE a)<|oC 1 [] (zQs h6)<|oB 0 h4 k))
  obtain⟨x7,h8,h⟩:=zD h
  obtain⟨r9,h10,h⟩:=zD h
  have k:=oC 1 [0] (ih h10)<|oA 1 (eS (o:=.no) h8)<|oB 0 h4 k
  obtain⟨h11,h⟩|⟨h11,h⟩:=xA h
  obtain⟨x12,h13,h⟩:=zD h
  obtain⟨l14,h15,h⟩:=zD h
  obtain⟨x16,h17,h⟩:=zD h
  obtain⟨r18,h19,h⟩:=zD h
  have k:=oC 1 [0] (ih h19)<|oA 1 (eS (o:=.no) h17)<|oP 2 (zHD h15 (by simp))<|oA 2 (zHQ (o:=.no) h13)<|oB 2 h11 k
  obtain⟨h20,h⟩:=xD h
  obtain⟨r21,h22,h⟩:=zD h
  cases h
  exact zLX (tF zLW 1 [0] (oD (dT r21.sub)<|oD (dE a)<|oC 2 [] (zUo h22)<|oB 2 h20 k))
  obtain⟨x28,h29,h⟩:=zD h
  obtain⟨r30,h31,h⟩:=zD h
  have k:=oC 1 [0] (ih h31)<|oA 1 (eS (o:=.no) h29)<|oB 2 h11 k
  obtain⟨h32,h⟩:=zT h
  have k:=oB 2 h32 k
  obtain⟨h35,h⟩:=zT h
  obtain⟨r38,h39,h⟩:=zD h
  cases h
  exact zLX (tF zLW 1 [0] (oD (dT r38.sub)<|oD (dE a)<|oC 2 [] (zUp h39)<|oB 0 h35 k))
theorem zXb{f a c b e d r}(h:zDw f a c b e d=some r):zLV a c b e d r Ct:=zXc _ h
def e88(a:Nat)(b:yD)(c:List ByteArray)(d:zO):Option (Tm×Int×Int):=
 e82 a d>>=fun r1=>
 if r1 then
 zQu a b c>>=fun r4=>
 if r4 != 0 then
 none
 else
 zDw a b 0 0 c d>>=fun r7=>
 if r7.2.1 != 0 then
 none
 else
 jX a r7.1>>=fun r10=>
 if r10 then
 some (r7.1,0,0)
 else
 none
 else
 none
theorem c88{a b c d r}(h:e88 a b c d=some r):Ct 88 [] [zH yE b .no,zH xG c .no,xP d] (.tup [xF r.1,ai r.2.1,ai r.2.2]) [] 0:=⟨by
 unfold e88 at h
 obtain⟨r1,h2,h⟩:=zD h
 obtain⟨h3,h⟩:=xD h
 obtain⟨r4,h5,h⟩:=zD h
 have k:=oC 1 [] (zXe h5)<|oK 1 [] h3 (c82 h2) o0
 obtain⟨h6,h⟩:=zT h
 obtain⟨r7,h8,h⟩:=zD h
 have k:=oC 1 [2] (zXb h8)<|oB 0 h6 k
 obtain⟨h9,h⟩:=zT h
 obtain⟨r10,h11,h⟩:=zD h
 have k:=oB 2 h9 k
 obtain⟨h12,h⟩:=xD h
 cases h
 exact tF ⟨func88,rfl⟩ 3 [] (oD (dT r7.1.sub)<|oK 1 [] h12 (jM h11) k),⟨⟨tv,dE _⟩,⟨tv,dS _⟩,⟨tv,tv,tv,tv,⟨tv,zL _⟩,tv⟩,tv⟩,zB,⟨⟨tv,tv,dT _,tv⟩,tv,tv,tv⟩,zB⟩
def bL(T:Nat)(I J K:yD)(L:xS)(M N:zU)(Q R:Int)(S:ByteArray)(P:List yJ)(u v:Int)(w:ByteArray)(y:Int)(d:List zO)(e:List yJ)(f:List xC)(z i:Int)(g:zW)(j A:Int)(m:zW)(a:List (List zK))(b:List (List ByteArray))(c:List yM)(B C D:Int)(n:xN)(p q:zW)(s:List zY)(E F:Int)(t:zW)(G H:Int)(U:List ByteArray)(V:zO)(W:Int):Option (Tm×Int×Int):=
 e88 T I U V>>=fun r1=>
 if r1.2.2==2 then
 none
 else
 uO T I J K L M N Q R S P u v w y d e f z i g j A m a b c B C D n p q s E F t G H r1.2.2 r1.2.1>>=fun r6=>
 some (r1.1,r6.2.1,r6.2.2)
theorem w6{T I J K L M N Q R S P u v w y d e f z i g j A m a b c B C D n p q s E F t G H U V W r}(h:bL T I J K L M N Q R S P u v w y d e f z i g j A m a b c B C D n p q s E F t G H U V W=some r):Ct 45 [.cells [zH yE I .no,.mp 1 0,ai Q,ai R,at' S,zH zN P .no,ai u,ai v,at' w,ai y,zH zR d .no,zH zN e .no,zH yH f .no,.mp 3 0,zH zC g .no,ai j,ai A,zH zC m .no,.ms 4 0 a.length a.length 1,.ms 5 0 b.length b.length 1,.ms 6 0 c.length c.length 4,ai B,ai C,ai D,zH zJ n .no,zH zC p .no,zH zC q .no,zH zV s .no,ai E,ai F,zH zC t .no,ai G,ai H],qB J 2 M N,qR K L,.cells [ai z,ai i],.row (zF (yO zI) a),.row (zF (yO xG) b),.row (zF zZ c)] [.mp 0 0,zH xG U .no,xP V,ai W] (xF r.1) [.cells [zH yE I .no,.mp 1 0,ai Q,ai R,at' S,zH zN P .no,ai u,ai v,at' w,ai y,zH zR d .no,zH zN e .no,zH yH f .no,.mp 3 0,zH zC g .no,ai j,ai A,zH zC m .no,.ms 4 0 a.length a.length 1,.ms 5 0 b.length b.length 1,.ms 6 0 c.length c.length 4,ai B,ai C,ai D,zH zJ n .no,zH zC p .no,zH zC q .no,zH zV s .no,ai E,ai F,zH zC t .no,ai r.2.1,ai r.2.2],qB J 2 M N,qR K L,.cells [ai z,ai i],.row (zF (yO zI) a),.row (zF (yO xG) b),.row (zF zZ c)] 0:=⟨by
 unfold bL at h
 obtain⟨r1,h2,h⟩:=zD h
 have k:=oC 2 [] (c88 h2) o0
 obtain⟨h3,h⟩:=zT h
 obtain⟨r6,h7,h⟩:=zD h
 cases h
 exact tF ⟨func45,rfl⟩ 2 [0,1,2,3,4,5,6] (oD (dT r1.1.sub)<|oD (zQ c)<|oD ((yP yN) b)<|oD ((yP zG) a)<|wS J K L M N<|oD (dT t)<|oD (zM s)<|oD (dT q)<|oD (dT p)<|oD (zE n)<|oD (dT m)<|oD (dT g)<|qJ I P d e f<|oC 0 [0,1,2,3,4,5,6] (uP h7)<|oB 4 h3 k),⟨(lz rfl),⟨tv,dS _⟩,⟨tv,tv,tv,tv,⟨tv,zL _⟩,tv⟩,tv,tv⟩,(zA ⟨⟨tv,dE _⟩,(lz rfl),tv,tv,tv,⟨tv,yC _⟩,tv,tv,tv,tv,⟨tv,zL _⟩,⟨tv,yC _⟩,⟨tv,yT _⟩,(lz rfl),⟨tv,dT _⟩,tv,tv,⟨tv,dT _⟩,(lz rfl),(lz rfl),(lz rfl),tv,tv,tv,⟨tv,zE _⟩,⟨tv,dT _⟩,⟨tv,dT _⟩,⟨tv,zM _⟩,tv,tv,⟨tv,dT _⟩,tv,tv,tv⟩ (vY (lz rfl) (zA ⟨tv,tv,tv⟩ (zA ((yP zG) _) (zA ((yP yN) _) (zA (zQ _) zB)))))),⟨tv,tv,dT _,tv⟩,(zA ⟨dE _,(lz rfl),tv,tv,tv,yC _,tv,tv,tv,tv,zL _,yC _,yT _,(lz rfl),dT _,tv,tv,dT _,(lz rfl),(lz rfl),(lz rfl),tv,tv,tv,zE _,dT _,dT _,zM _,tv,tv,dT _,tv,tv,tv⟩ (vQ (lz rfl) (zA ⟨tv,tv,tv⟩ (zA ((yP zG) _) (zA ((yP yN) _) (zA (zQ _) zB))))))⟩
def cG(a:Nat)(M:xR):Option Int:=
 some (M.l.length:Int)
theorem R5{a M r}(h:cG a M=some r):Ct 109 [mB M 1,mR M] [.mp 0 0] (ai r) [mB M 1,mR M] 0:=⟨by
 unfold cG at h
 cases h
 exact tF ⟨func109,rfl⟩ 3 [0,1] (oD (dC M.parts)<|oD (dE M.rl)<|oD (dI M.own)<|oD (dI M.args)<|oD (dE M.l) o0),⟨(lz rfl),tv⟩,(vY (lz rfl) zB),tv,(vQ (lz rfl) zB)⟩
def bM:Nat->xR->Int->Int->zW->zU->zW->zW->Int->Option Bool
 |0,_,_,_,_,_,_,_,_=>none
 |c+1,M,d,e,p0_Context,p0_Names,p0_Types,a,b=>
 if decide (b<(a.length:Int))then
 yG a b>>=fun x3=>
 cG c M>>=fun r5=>
 iP c x3 1048577 r5>>=fun r7=>
 if r7 then
 bM c M d e p0_Context p0_Names p0_Types a (xE (b+1))
 else
 none
 else
 some true
def zIj(c:Nat)(M:xR)(d e:Int)(p0_Context:zW)(p0_Names:zU)(p0_Types a:zW):Option Bool:=
 if (p0_Names.length:Int) != (p0_Types.length:Int)then
 none
 else
 bM c M d e p0_Context p0_Names p0_Types a 0
theorem zLY:∀c:Nat,(∀ {M d e p0_Context p0_Names p0_Types a b r},bM c M d e p0_Context p0_Names p0_Types a b=some r->(∀j,dL 3 (pt 4021 f147) (sp j 32 0 [(2,.mp 3 0),(19,zH zC a .no),(20,ai (a.length:Int)),(21,ai b)]) (⟨[(0,mB M 1),(1,mR M),(2,.cells [ai d,ai e]),(3,.cells [.mp 0 0,.mp 2 0,zH zC p0_Context .no,zH zS p0_Names .no,zH zC p0_Types .no])],4,[],0,[]⟩) (fQ 3 (nQ 3 f147 (ab r) [mB M 1,mR M,.cells [ai d,ai e]] 0) [.blk 0,.seq (pt 63 f147)]))):=by
 intro c
 induction c with
 |zero=>
  exact fun h=>nn h
 |succ c ih=>
  intro M d e p0_Context p0_Names p0_Types a b r h
  rw[bM]at h
  obtain⟨h2,h⟩|⟨h2,h⟩:=xA h
  obtain⟨x3,h4,h⟩:=zD h
  obtain⟨r5,h6,h⟩:=zD h
  obtain⟨r7,h8,h⟩:=zD h
  have k:=oC 4 [0,1] (R5 h6)<|oA 0 (wN (o:=.no) h4)<|oB 0 h2 o0
  obtain⟨h9,h⟩:=xD h
  exact fun j=>lH 2 [] [0,1,2,3] [] [2,19,20,21] (oD (dT a)<|oD (dT p0_Types)<|oD (dI p0_Names)<|oD (dT p0_Context)<|tB M<|oK 0 [] h9 (eU h8) k) (ih h)
  cases h
  exact fun j=>lF 0 [0,1,2] (tB M<|oB 0 h2 o0)
theorem zQr{c M d e p0_Context p0_Names p0_Types a r}(h:zIj c M d e p0_Context p0_Names p0_Types a=some r):Ct 147 [mB M 1,mR M,.cells [ai d,ai e]] [.agg [.mp 0 0,.mp 2 0,zH zC p0_Context .no,zH zS p0_Names .no,zH zC p0_Types .no],zH zC a .no] (ab r) [mB M 1,mR M,.cells [ai d,ai e]] 0:=⟨by
 unfold zIj at h
 obtain⟨h1,h⟩:=zT h
 exact tH ⟨func147,rfl⟩ 1 [] [0,1,2,3] [] [2,19,20,21] (oD (dT a)<|oD (dT p0_Types)<|oD (dI p0_Names)<|oD (dT p0_Context)<|tB M<|oB 6 h1 o0) (zLY _ h),⟨⟨(lz rfl),(lz rfl),⟨tv,dT _⟩,⟨tv,dI _⟩,⟨tv,dT _⟩,tv⟩,⟨tv,dT _⟩,tv⟩,(vY (lz rfl) (zA ⟨tv,tv,tv⟩ zB)),tv,(vQ (lz rfl) (zA ⟨tv,tv,tv⟩ zB))⟩
def e56(a:Nat)(M:xR):Option yD:=
 e68 a M.l>>=fun r1=>
 some r1
theorem c56{a M r}(h:e56 a M=some r):Ct 56 [mB M 1,mR M] [.mp 0 0] (.sl (zF yE r) r.length .no) [mB M 1,mR M] 0:=⟨by
 unfold e56 at h
 obtain⟨r1,h2,h⟩:=zD h
 obtain rfl:=sj h
 exact tF ⟨func56,rfl⟩ 0 [0,1] (oD (dE r1)<|tB M<|oC 2 [] (c68 h2) o0),⟨(lz rfl),tv⟩,(vY (lz rfl) zB),dE _,(vQ (lz rfl) zB)⟩
def e89(c:Nat)(M:xR)(a b:Int)(p0_Context:zW)(p0_Names:zU)(p0_Types d:zW):Option (Int×zW×zU×zW×yD):=
 zIj c M a b p0_Context p0_Names p0_Types d>>=fun r1=>
 if r1 then
 zIj c M a b p0_Context p0_Names p0_Types p0_Context>>=fun r4=>
 if r4 then
 zIj c M a b p0_Context p0_Names p0_Types p0_Types>>=fun r7=>
 if r7 then
 e56 c M>>=fun r10=>
 some (0,p0_Context,p0_Names,p0_Types,r10)
 else
 none
 else
 none
 else
 none
theorem c89{c M a b p0_Context p0_Names p0_Types d r}(h:e89 c M a b p0_Context p0_Names p0_Types d=some r):Ct 89 [mB M 1,mR M,.cells [ai a,ai b]] [.agg [.mp 0 0,.mp 2 0,zH zC p0_Context .no,zH zS p0_Names .no,zH zC p0_Types .no],zH zC d .no] (.tup [.mp 3 0,ai r.1]) [mB M 1,mR M,.cells [ai a,ai b],.cells [.mp 0 0,.mp 2 0,zH zC r.2.1 .no,zH zS r.2.2.1 .no,zH zC r.2.2.2.1 .no,zH yE r.2.2.2.2 .no]] 0:=⟨by
 unfold e89 at h
 obtain⟨r1,h2,h⟩:=zD h
 obtain⟨h3,h⟩:=xD h
 obtain⟨r4,h5,h⟩:=zD h
 have k:=oK 1 [0,1,2] h3 (zQr h2) o0
 obtain⟨h6,h⟩:=xD h
 obtain⟨r7,h8,h⟩:=zD h
 have k:=oK 3 [0,1,2] h6 (zQr h5) k
 obtain⟨h9,h⟩:=xD h
 obtain⟨r10,h11,h⟩:=zD h
 cases h
 exact tF ⟨func89,rfl⟩ 0 [0,1,2,4] (oD (dE r10)<|oD (dT p0_Types)<|oD (dI p0_Names)<|oD (dT p0_Context)<|tB M<|oC 3 [0,1] (c56 h11)<|oK 3 [0,1,2] h9 (zQr h8) k),⟨⟨(lz rfl),(lz rfl),⟨tv,dT _⟩,⟨tv,dI _⟩,⟨tv,dT _⟩,tv⟩,⟨tv,dT _⟩,tv⟩,(vY (lz rfl) (zA ⟨tv,tv,tv⟩ zB)),⟨(lz rfl),tv,tv⟩,(vQ (lz rfl) (zA ⟨tv,tv,tv⟩ (zA ⟨(lz rfl),(lz rfl),dT _,dI _,dT _,dE _,tv⟩ zB)))⟩
def E8(c:Nat)(a b:Int):Option Int:=
 some a
theorem zIi{c a b r}(h:E8 c a b=some r):Ct 263 [.cells [ai a,ai b]] [.mp 0 0] (ai r) [.cells [ai a,ai b]] 0:=⟨by
 unfold E8 at h
 obtain rfl:=sj h
 exact tF ⟨func263,rfl⟩ 1 [0] (o0),⟨(lz rfl),tv⟩,(zA ⟨tv,tv,tv⟩ zB),tv,(zA ⟨tv,tv,tv⟩ zB)⟩
def E9(d:Nat)(a c b:Int):Option (Int×Int):=
 some ((xE (a+b)),(xE (a+b)))
theorem zIh{d a c b r}(h:E9 d a c b=some r):Ct 264 [.cells [ai a,ai c]] [.mp 0 0,ai b] (ai r.1) [.cells [ai r.2,ai c]] 0:=⟨by
 unfold E9 at h
 cases h
 exact tF ⟨func264,rfl⟩ 1 [0] (o0),⟨(lz rfl),tv,tv⟩,(zA ⟨tv,tv,tv⟩ zB),tv,(zA ⟨tv,tv,tv⟩ zB)⟩
def F1(d:Nat)(c a b:Int):Option (Int×Int):=
 some ((xE (a+b)),(xE (a+b)))
theorem zIg{d c a b r}(h:F1 d c a b=some r):Ct 264 [.cells [ai c,ai a]] [.mp 0 1,ai b] (ai r.1) [.cells [ai c,ai r.2]] 0:=⟨by
 unfold F1 at h
 cases h
 exact tF ⟨func264,rfl⟩ 1 [0] (o0),⟨(lz rfl),tv,tv⟩,(zA ⟨tv,tv,tv⟩ zB),tv,(zA ⟨tv,tv,tv⟩ zB)⟩
def zQq(c:Nat)(d b a:Int):Option (Int×Int×Int):=
 if decide (a<0)then
 none
 else
 E8 c d b>>=fun r2=>
 if decide (a>r2)then
 none
 else
 E9 c d b (xE (0-a))>>=fun r5=>
 F1 c r5.2 b a>>=fun r7=>
 some (0,r5.2,r7.2)
theorem zXA{c d b a r}(h:zQq c d b a=some r):Ct 179 [.cells [ai d,ai b]] [.mp 0 0,ai a] (ai r.1) [.cells [ai r.2.1,ai r.2.2]] 0:=⟨by
 unfold zQq at h
 obtain⟨h1,h⟩:=zT h
 obtain⟨r2,h3,h⟩:=zD h
 have k:=oC 0 [0] (zIi h3)<|oB 1 h1 o0
 obtain⟨h4,h⟩:=zT h
 obtain⟨r5,h6,h⟩:=zD h
 obtain⟨r7,h8,h⟩:=zD h
 cases h
 exact tF ⟨func179,rfl⟩ 0 [0] (oC 0 [0] (zIg h8)<|oC 1 [0] (zIh h6)<|oB 0 h4 k),⟨(lz rfl),tv,tv⟩,(zA ⟨tv,tv,tv⟩ zB),tv,(zA ⟨tv,tv,tv⟩ zB)⟩
def zAZ(c:Nat)(a b:Int):Option (Int×Int×Int):=
 zQq c a b 1>>=fun r1=>
 some (r1.1,r1.2.1,r1.2.2)
theorem zFP{c a b r}(h:zAZ c a b=some r):Ct 112 [.cells [ai a,ai b]] [.mp 0 0] (ai r.1) [.cells [ai r.2.1,ai r.2.2]] 0:=⟨by
 unfold zAZ at h
 obtain⟨r1,h2,h⟩:=zD h
 cases h
 exact tF ⟨func112,rfl⟩ 0 [0] (oC 0 [0] (zXA h2) o0),⟨(lz rfl),tv⟩,(zA ⟨tv,tv,tv⟩ zB),tv,(zA ⟨tv,tv,tv⟩ zB)⟩
def zQp(b:Nat)(M:xR)(a:Tm):Option Bool:=
 iP b a 1048577 (M.l.length:Int)>>=fun r1=>
 some r1
theorem zXB{b M a r}(h:zQp b M a=some r):Ct 233 [mB M 1,mR M] [.mp 0 0,xF a] (ab r) [mB M 1,mR M] 0:=⟨by
 unfold zQp at h
 obtain⟨r1,h2,h⟩:=zD h
 obtain rfl:=sj h
 exact tF ⟨func233,rfl⟩ 0 [0,1] (tB M<|oC 4 [] (eU h2) o0),⟨(lz rfl),⟨tv,tv,⟨tv,dT _⟩,tv⟩,tv⟩,(vY (lz rfl) zB),tv,(vQ (lz rfl) zB)⟩
def bN:Nat->zW->Int->Int->Int->zW->Option Tm
 |0,_,_,_,_,_=>none
 |e+1,d,f,b,c,a=>
 if decide (f<(d.length:Int))then
 yG d f>>=fun x2=>
 zLQ e (Tm.mk b c a) x2>>=fun r4=>
 bN e d (xE (f+1)) r4.k r4.n r4.sub
 else
 some (Tm.mk b c a)
def zDv(e:Nat)(g:Tm)(d:zW):Option Tm:=
 bN e d 0 g.k g.n g.sub
theorem zLZ:∀e:Nat,(∀ {d f b c a r},bN e d f b c a=some r->(∀j,dL 0 (pt 949 f184) (sp j 18 0 [(2,.mp 0 0),(4,.mp 1 0),(7,zH zC d .no),(8,ai (d.length:Int)),(9,ai f)]) (⟨[(0,.cells [ai b,ai c,zH zC a .no]),(1,.cells [ai 0,ai 0,zH zC ([]:zW) .nl])],2,[],0,[]⟩) (fQ 0 (nQ 0 f184 (xF r) [] 0) [.blk 0,.seq (pt 15 f184)]))):=by
 intro e
 induction e with
 |zero=>
  exact fun h=>nn h
 |succ e ih=>
  intro d f b c a r h
  rw[bN]at h
  obtain⟨h1,h⟩|⟨h1,h⟩:=xA h
  obtain⟨x2,h3,h⟩:=zD h
  obtain⟨r4,h5,h⟩:=zD h
  exact fun j=>lH 2 [] [0,1] [] [2,4,7,8,9] (oD (dT d)<|oD (dT ([]:zW))<|oD (dT r4.sub)<|oC 4 [] (zUp h5)<|oA 0 (wN (o:=.no) h3)<|oB 0 h1 o0) (ih h)
  cases h
  exact fun j=>lF 2 [] (oD (dT a)<|oB 0 h1 o0)
theorem zIf{e g d r}(h:zDv e g d=some r):Ct 184 [] [xF g,zH zC d .no] (xF r) [] 0:=⟨by
 unfold zDv at h
 exact tH ⟨func184,rfl⟩ 1 [] [0,1] [] [2,4,7,8,9] (oD (dT d)<|oD (dT ([]:zW))<|oD (dT g.sub) o0) (zLZ _ h),⟨⟨tv,tv,⟨tv,dT _⟩,tv⟩,⟨tv,dT _⟩,tv⟩,zB,⟨tv,tv,dT _,tv⟩,zB⟩
def F2(d:Nat)(b:Int)(c:Bool)(a:zW):Option Unit:=
 some ()
theorem zIe{d b c a r}(h:F2 d b c a=some r):Ct 247 [.cells [ai b,ab c,.val .nilFunc],.cells [zH zC a .no]] [.mp 0 0,.mp 1 0] (.clo 248 [] [.mp 1 0,.mp 2 0]) [.cells [ai b,ab c,.val .nilFunc],.cells [zH zC a .no],.cells [.mp 0 0]] 0:=⟨by
 unfold F2 at h
 cases h
 exact tF ⟨func247,rfl⟩ 0 [0,1,2] (oD (dT a) o0),⟨(lz rfl),(lz rfl),tv⟩,(zA ⟨tv,tv,tv,tv⟩ (zA ⟨⟨tv,dT _⟩,tv⟩ zB)),⟨tv,⟨(lz rfl),(lz rfl),tv⟩⟩,(zA ⟨tv,tv,tv,tv⟩ (zA ⟨dT _,tv⟩ (zA ⟨(lz rfl),tv⟩ zB)))⟩
def zMz(c:Nat)(a:Tm)(b:Int):Option Int:=
 if a.k != 1 then
 some (-1)
 else
 if decide (a.n<b)then
 some (-1)
 else
 some (xE (a.n-b))
theorem zQo:Qf 249 f249:=⟨func249,rfl⟩
theorem zUm{c a b r}(h:zMz c a b=some r):Ct 249 [] [xF a,ai b] (ai r) [] 0:=⟨by
 unfold zMz at h
 obtain⟨h1,h⟩|⟨h1,h⟩:=xA h
 cases h
 exact tF zQo 0 [] (oB 1 h1 o0)
 have k:=oB 1 h1 o0
 obtain⟨h2,h⟩|⟨h2,h⟩:=xA h
 cases h
 exact tF zQo 0 [] (oB 1 h2 k)
 cases h
 exact tF zQo 2 [] (oB 1 h2 k),⟨⟨tv,tv,⟨tv,dT _⟩,tv⟩,tv,tv⟩,zB,tv,zB⟩
def zMy(b:Nat)(a:Int):Option Bool:=
 if decide (a≥0)then
 some (decide (a≤1048576))
 else
 none
theorem zUl{b a r}(h:zMy b a=some r):Ct 435 [] [ai a] (ab r) [] 0:=⟨by
 unfold zMy at h
 obtain⟨h1,h⟩:=xD h
 cases h
 exact tF ⟨func435,rfl⟩ 1 [] (oB 0 h1 o0),⟨tv,tv⟩,zB,tv,zB⟩
def F3(d:Nat)(a b c:Int):Option Int:=
 if decide (a<b)then
 none
 else
 some (xE (a+c))
theorem zId{d a b c r}(h:F3 d a b c=some r):Ct 437 [.cells [ai b],.cells [ai c]] [ai a,.mp 0 0,.mp 1 0] (ai r) [.cells [ai b],.cells [ai c]] 0:=⟨by
 unfold F3 at h
 obtain⟨h1,h⟩:=zT h
 cases h
 exact tF ⟨func437,rfl⟩ 2 [0,1] (oB 1 h1 o0),⟨tv,(lz rfl),(lz rfl),tv⟩,(zA ⟨tv,tv⟩ (zA ⟨tv,tv⟩ zB)),tv,(zA ⟨tv,tv⟩ (zA ⟨tv,tv⟩ zB))⟩
mutual
def qF:Nat->Tm->Int->Int->Int->Option Tm
 |0,_,_,_,_=>none
 |g+1,a,c,d,e=>
 if a.k==1 then
 if decide (a.n≥c)then
 F3 g (xE (a.n-c)) d e>>=fun r3=>
 zFO g (xE (r3+c))>>=fun r5=>
 some r5
 else
 none
 else
 tT g a c d e 0 []
def tT:Nat->Tm->Int->Int->Int->Int->zW->Option Tm
 |0,_,_,_,_,_,_=>none
 |g+1,a,c,d,e,f,b=>
 if decide (f<(a.sub.length:Int))then
 yG a.sub f>>=fun x10=>
 if f==1 then
 if a.k != 5 then
 qF g x10 (xE (c+1)) d e>>=fun r14=>
 yV 40 b [r14]>>=fun l16=>
 tT g a c d e (xE (f+1)) l16
 else
 qF g x10 c d e>>=fun r18=>
 yV 40 b [r18]>>=fun l20=>
 tT g a c d e (xE (f+1)) l20
 else
 qF g x10 c d e>>=fun r22=>
 yV 40 b [r22]>>=fun l24=>
 tT g a c d e (xE (f+1)) l24
 else
 some (Tm.mk a.k a.n b)
end
abbrev fA (a:Tm) (c d e:Int) (r:Tm) (C:Cf):Prop:=C 436 [.cells [ai d],.cells [ai e]] [xF a,ai c,.clo 437 [] [.mp 0 0,.mp 1 0]] (xF r) [.cells [ai d],.cells [ai e]] 0
theorem zBz:Qf 436 f436:=⟨func436,rfl⟩
theorem zBy{a c d e r}(h:fA a c d e r Ci):fA a c d e r Ct:=⟨h,⟨⟨tv,tv,⟨tv,dT _⟩,tv⟩,tv,⟨tv,⟨(lz rfl),(lz rfl),tv⟩⟩,tv⟩,(zA ⟨tv,tv⟩ (zA ⟨tv,tv⟩ zB)),⟨tv,tv,dT _,tv⟩,(zA ⟨tv,tv⟩ (zA ⟨tv,tv⟩ zB))⟩
theorem jN:∀g:Nat,(∀ {a c d e r},qF g a c d e=some r->fA a c d e r Ct)∧(∀ {a c d e f b r},tT g a c d e f b=some r->(∀j,dL 2 (pt 16309 f436) (sp j 64 0 [(1,ai c),(2,.clo 437 [] [.mp 0 0,.mp 1 0]),(3,.mp 2 0),(6,.mp 3 0),(7,.mp 4 0),(36,zH zC a.sub .no),(37,ai (a.sub.length:Int)),(38,ai f)]) (⟨[(0,.cells [ai d]),(1,.cells [ai e]),(2,.cells [ai a.k,ai a.n,zH zC a.sub .no]),(3,.cells [ai 0,ai 0,zH zC ([]:zW) .nl]),(4,.cells [ai a.k,ai a.n,zH zC b (.st 0 3)])],5,[0],1,[]⟩) (fQ 2 (nQ 2 f436 (xF r) [.cells [ai d],.cells [ai e]] 0) [.blk 0,.seq (pt 255 f436)]))):=by
 intro g
 induction g with
 |zero=>
  exact⟨fun h=>nn h,fun h=>nn h⟩
 |succ g ih=>
  obtain⟨eW,rP⟩:=ih
  refine⟨?_,?_⟩
  intro a c d e r h
  rw[qF]at h
  obtain⟨h1,h⟩|⟨h1,h⟩:=xA h
  have k:=oB 1 h1 o0
  obtain⟨h2,h⟩:=xD h
  obtain⟨r3,h4,h⟩:=zD h
  obtain⟨r5,h6,h⟩:=zD h
  obtain rfl:=sj h
  exact zBy (tF zBz 1 [0,1] (oD (dT r5.sub)<|oC 1 [] (zLS h6)<|oC 2 [0,1] (zId h4)<|oB 1 h2 k))
  exact zBy (tH zBz 5 [(some 4,2,3)] [0,1,2,3,4] [0] [1,2,3,6,7,36,37,38] (oD (dT a.sub)<|oD (dT ([]:zW))<|oD (dT ([]:zW))<|oD (dT a.sub)<|oB 1 h1 o0) (rP h))
  intro a c d e f b r h
  rw[tT]at h
  have z {os ob} (k:Oz os ob):=oD (dT ([]:zW))<|oD (dT a.sub)<|k
  obtain⟨h9,h⟩|⟨h9,h⟩:=xA h
  obtain⟨x10,h11,h⟩:=zD h
  have k:=oA 0 (wN (o:=.no) h11)<|oB 0 h9 o0
  obtain⟨h12,h⟩|⟨h12,h⟩:=xA h
  have k:=oB 2 h12 k
  obtain⟨h13,h⟩|⟨h13,h⟩:=xA h
  obtain⟨r14,h15,h⟩:=zD h
  obtain⟨l16,h17,h⟩:=zD h
  exact fun j=>lH 2 [] [0,1,2,3,4] [1] [1,2,3,6,7,36,37,38] (oD (dT a.sub)<|oD (dT l16)<|z<|oP 0 (vO h17 (by simp))<|oS 0 (xL xU [r14])<|oC 1 [0,1] (eW h15)<|rF 1<|oB 1 h13 k) (rP h)
  obtain⟨r18,h19,h⟩:=zD h
  obtain⟨l20,h21,h⟩:=zD h
  exact fun j=>lH 2 [] [0,1,2,3,4] [1] [1,2,3,6,7,36,37,38] (oD (dT a.sub)<|oD (dT l20)<|z<|oP 0 (vO h21 (by simp))<|oS 0 (xL xU [r18])<|oC 1 [0,1] (eW h19)<|rF 0<|oB 1 h13 k) (rP h)
  obtain⟨r22,h23,h⟩:=zD h
  obtain⟨l24,h25,h⟩:=zD h
  exact fun j=>lH 2 [] [0,1,2,3,4] [1] [1,2,3,6,7,36,37,38] (oD (dT a.sub)<|oD (dT l24)<|z<|oP 0 (vO h25 (by simp))<|oS 0 (xL xU [r22])<|oC 1 [0,1] (eW h23)<|rF 0<|oB 2 h12 k) (rP h)
  obtain rfl:=sj h
  exact fun j=>lF 2 [0,1] (oD (dT b)<|oB 0 h9 o0)
theorem zIc{g a c d e r}(h:qF g a c d e=some r):fA a c d e r Ct:=(jN _).1 h
def zQn(a:Nat)(b:Tm)(c d:Int):Option (Tm×Int):=
 jX a b>>=fun r1=>
 if r1 then
 zMy a c>>=fun r4=>
 if r4 then
 zMy a d>>=fun r7=>
 if r7 then
 qF a b 0 d c>>=fun r10=>
 jX a r10>>=fun r12=>
 if r12 then
 some (r10,0)
 else
 none
 else
 none
 else
 none
 else
 none
theorem zXC{a b c d r}(h:zQn a b c d=some r):Ct 396 [] [xF b,ai c,ai d] (.tup [xF r.1,ai r.2]) [] 0:=⟨by
 unfold zQn at h
 obtain⟨r1,h2,h⟩:=zD h
 obtain⟨h3,h⟩:=xD h
 obtain⟨r4,h5,h⟩:=zD h
 have k:=oK 1 [] h3 (jM h2) o0
 obtain⟨h6,h⟩:=xD h
 obtain⟨r7,h8,h⟩:=zD h
 have k:=oK 2 [] h6 (zUl h5) k
 obtain⟨h9,h⟩:=xD h
 obtain⟨r10,h11,h⟩:=zD h
 obtain⟨r12,h13,h⟩:=zD h
 have k:=oC 2 [2,1] (zIc h11)<|oK 2 [] h9 (zUl h8) k
 obtain⟨h14,h⟩:=xD h
 cases h
 exact tF ⟨func396,rfl⟩ 3 [] (oD (dT r10.sub)<|oK 2 [] h14 (jM h13) k),⟨⟨tv,tv,⟨tv,dT _⟩,tv⟩,tv,tv,tv⟩,zB,⟨⟨tv,tv,dT _,tv⟩,tv,tv⟩,zB⟩
def zFQ(c:Nat)(a:Tm)(b:Int):Option (Tm×Int):=
 zQn c a b 0>>=fun r1=>
 some (r1.1,r1.2)
theorem zMx{c a b r}(h:zFQ c a b=some r):Ct 321 [] [xF a,ai b] (.tup [xF r.1,ai r.2]) [] 0:=⟨by
 unfold zFQ at h
 obtain⟨r1,h2,h⟩:=zD h
 cases h
 exact tF ⟨func321,rfl⟩ 3 [] (oD (dT r1.1.sub)<|oC 1 [] (zXC h2) o0),⟨⟨tv,tv,⟨tv,dT _⟩,tv⟩,tv,tv⟩,zB,⟨⟨tv,tv,dT _,tv⟩,tv,tv⟩,zB⟩
def F4(d:Nat)(a:Int)(e:Bool)(b:zW)(c:Tm)(f:Int):Option (Tm×Int×Bool):=
 zIs d c>>=fun r1=>
 if decide ((xE (a-r1))<0)then
 none
 else
 zFQ d c f>>=fun r6=>
 if r6.2 != 0 then
 none
 else
 some (r6.1,(xE (a-r1)),e)
theorem zIb{d a e b c f r}(h:F4 d a e b c f=some r):Ct 250 [.cells [ai a,ab e,.clo 248 [] [.mp 1 0,.mp 2 0]],.cells [zH zC b .no],.cells [.mp 0 0]] [.mp 0 0,xF c,ai f] (xF r.1) [.cells [ai r.2.1,ab r.2.2,.clo 248 [] [.mp 1 0,.mp 2 0]],.cells [zH zC b .no],.cells [.mp 0 0]] 0:=⟨by
 unfold F4 at h
 obtain⟨r1,h2,h⟩:=zD h
 have k:=oC 1 [] (zPE h2)<|rF 0 o0
 obtain⟨h3,h⟩:=zT h
 obtain⟨r6,h7,h⟩:=zD h
 have k:=oC 1 [] (zMx h7)<|oB 3 h3 k
 obtain⟨h8,h⟩:=zT h
 cases h
 exact tF ⟨func250,rfl⟩ 2 [0,1,2] (oD (dT r6.1.sub)<|oD (dT b)<|oB 3 h8 k),⟨(lz rfl),⟨tv,tv,⟨tv,dT _⟩,tv⟩,tv,tv⟩,(zA ⟨tv,tv,⟨tv,⟨(lz rfl),(lz rfl),tv⟩⟩,tv⟩ (zA ⟨⟨tv,dT _⟩,tv⟩ (zA ⟨(lz rfl),tv⟩ zB))),⟨tv,tv,dT _,tv⟩,(zA ⟨tv,tv,⟨tv,⟨(lz rfl),(lz rfl),tv⟩⟩,tv⟩ (zA ⟨dT _,tv⟩ (zA ⟨(lz rfl),tv⟩ zB)))⟩
def F5(d:Nat)(e:Tm)(f:Int)(a:zW)(b:Int)(c:Bool):Option (Tm×Bool×Int×Bool):=
 zMz d e f>>=fun r1=>
 if decide (r1<0)then
 some ((Tm.mk 0 0 []),false,b,c)
 else
 if decide (r1<(a.length:Int))then
 yG a r1>>=fun x5=>
 F4 d b c a x5 f>>=fun r7=>
 some (r7.1,true,r7.2.1,r7.2.2)
 else
 zFO d (xE (e.n-(a.length:Int)))>>=fun r9=>
 some (r9,true,b,c)
theorem F6:Qf 248 f248:=⟨func248,rfl⟩
theorem zIa{d e f a b c r}(h:F5 d e f a b c=some r):Ct 248 [.cells [zH zC a .no],.cells [.mp 2 0],.cells [ai b,ab c,.clo 248 [] [.mp 0 0,.mp 1 0]]] [xF e,ai f,.mp 0 0,.mp 1 0] (.tup [xF r.1,ab r.2.1]) [.cells [zH zC a .no],.cells [.mp 2 0],.cells [ai r.2.2.1,ab r.2.2.2,.clo 248 [] [.mp 0 0,.mp 1 0]]] 0:=⟨by
 unfold F5 at h
 obtain⟨r1,h2,h⟩:=zD h
 have k:=oC 1 [] (zUm h2) o0
 obtain⟨h3,h⟩|⟨h3,h⟩:=xA h
 cases h
 exact tF F6 1 [0,1,2] (oD (dT ([]:zW))<|oD (dT a)<|oB 0 h3 k)
 have k:=oB 0 h3 k
 obtain⟨h4,h⟩|⟨h4,h⟩:=xA h
 obtain⟨x5,h6,h⟩:=zD h
 obtain⟨r7,h8,h⟩:=zD h
 cases h
 exact tF F6 1 [0,1,2] (oD (dT r7.1.sub)<|oD (dT a)<|oC 1 [2,0,1] (zIb h8)<|oA 2 (wN (o:=.no) h6)<|oB 2 h4 k)
 obtain⟨r9,h10,h⟩:=zD h
 cases h
 exact tF F6 1 [0,1,2] (oD (dT r9.sub)<|oD (dT a)<|oC 4 [] (zLS h10)<|oB 2 h4 k),⟨⟨tv,tv,⟨tv,dT _⟩,tv⟩,tv,(lz rfl),(lz rfl),tv⟩,(zA ⟨⟨tv,dT _⟩,tv⟩ (zA ⟨(lz rfl),tv⟩ (zA ⟨tv,tv,⟨tv,⟨(lz rfl),(lz rfl),tv⟩⟩,tv⟩ zB))),⟨⟨tv,tv,dT _,tv⟩,tv,tv⟩,(zA ⟨dT _,tv⟩ (zA ⟨(lz rfl),tv⟩ (zA ⟨tv,tv,⟨tv,⟨(lz rfl),(lz rfl),tv⟩⟩,tv⟩ zB)))⟩
mutual
def qG:Nat->Int->Bool->zW->Tm->Int->Option (Tm×Int×Bool)
 |0,_,_,_,_,_=>none
 |m+1,q,p,e,a,f=>
 if p then
 none
 else
 F5 m a f e q p>>=fun r4=>
 if r4.2.1 then
 some (r4.1,r4.2.2.1,r4.2.2.2)
 else
 if decide ((xE (r4.2.2.1-1))<0)then
 none
 else
 tU m e a f 0 (xE (r4.2.2.1-1)) r4.2.2.2 []
def tU:Nat->zW->Tm->Int->Int->Int->Bool->zW->Option (Tm×Int×Bool)
 |0,_,_,_,_,_,_,_=>none
 |m+1,e,a,f,g,c,d,b=>
 if decide (g<(a.sub.length:Int))then
 yG a.sub g>>=fun x9=>
 if g==1 then
 if a.k != 5 then
 qG m c d e x9 (xE (f+1))>>=fun r13=>
 yV 40 b [r13.1]>>=fun l15=>
 tU m e a f (xE (g+1)) r13.2.1 r13.2.2 l15
 else
 qG m c d e x9 f>>=fun r17=>
 yV 40 b [r17.1]>>=fun l19=>
 tU m e a f (xE (g+1)) r17.2.1 r17.2.2 l19
 else
 qG m c d e x9 f>>=fun r21=>
 yV 40 b [r21.1]>>=fun l23=>
 tU m e a f (xE (g+1)) r21.2.1 r21.2.2 l23
 else
 some ((Tm.mk a.k a.n b),c,d)
end
abbrev fB (q:Int) (p:Bool) (e:zW) (a:Tm) (f:Int) (r:Tm×Int×Bool) (C:Cf):Prop:=C 345 [.cells [ai q,ab p,.clo 248 [] [.mp 1 0,.mp 2 0]],.cells [zH zC e .no],.cells [.mp 0 0]] [.mp 0 0,xF a,ai f] (xF r.1) [.cells [ai r.2.1,ab r.2.2,.clo 248 [] [.mp 1 0,.mp 2 0]],.cells [zH zC e .no],.cells [.mp 0 0]] 0
theorem zBx:Qf 345 f345:=⟨func345,rfl⟩
theorem zBw{q p e a f r}(h:fB q p e a f r Ci):fB q p e a f r Ct:=⟨h,⟨(lz rfl),⟨tv,tv,⟨tv,dT _⟩,tv⟩,tv,tv⟩,(zA ⟨tv,tv,⟨tv,⟨(lz rfl),(lz rfl),tv⟩⟩,tv⟩ (zA ⟨⟨tv,dT _⟩,tv⟩ (zA ⟨(lz rfl),tv⟩ zB))),⟨tv,tv,dT _,tv⟩,(zA ⟨tv,tv,⟨tv,⟨(lz rfl),(lz rfl),tv⟩⟩,tv⟩ (zA ⟨dT _,tv⟩ (zA ⟨(lz rfl),tv⟩ zB)))⟩
theorem jO:∀m:Nat,(∀ {q p e a f r},qG m q p e a f=some r->fB q p e a f r Ct)∧(∀ {e a f g c d b r},tU m e a f g c d b=some r->(∀j,dL 3 (pt 262069 f345) (sp j 79 0 [(0,.mp 0 0),(2,ai f),(4,.mp 3 0),(6,.mp 4 0),(9,.mp 5 0),(51,zH zC a.sub .no),(52,ai (a.sub.length:Int)),(53,ai g)]) (⟨[(0,.cells [ai c,ab d,.clo 248 [] [.mp 1 0,.mp 2 0]]),(1,.cells [zH zC e .no]),(2,.cells [.mp 0 0]),(3,.cells [ai a.k,ai a.n,zH zC a.sub .no]),(4,.cells [ai 0,ai 0,zH zC ([]:zW) .nl]),(5,.cells [ai a.k,ai a.n,zH zC b (.st 0 3)])],6,[0],1,[]⟩) (fQ 3 (nQ 3 f345 (xF r.1) [.cells [ai r.2.1,ab r.2.2,.clo 248 [] [.mp 1 0,.mp 2 0]],.cells [zH zC e .no],.cells [.mp 0 0]] 0) [.blk 0,.seq (pt 4095 f345)]))):=by
 intro m
 induction m with
 |zero=>
  exact⟨fun h=>nn h,fun h=>nn h⟩
 |succ m ih=>
  obtain⟨eX,rQ⟩:=ih
  refine⟨?_,?_⟩
  intro q p e a f r h
  rw[qG]at h
  obtain⟨h1,h⟩:=zT h
  obtain⟨r4,h5,h⟩:=zD h
  have k:=oC 2 [1,2,0] (zIa h5)<|oB 0 h1 o0
  obtain⟨h6,h⟩|⟨h6,h⟩:=xA h
  cases h
  exact zBw (tF zBx 3 [0,1,2] (oD (dT r4.1.sub)<|oD (dT e)<|oB 1 h6 k))
  have k:=oB 1 h6 k
  obtain⟨h7,h⟩:=zT h
  exact zBw (tH zBx 5 [(some 6,2,3)] [0,1,2,3,4,6] [0] [0,2,4,6,9,51,52,53] (oD (dT a.sub)<|oD (dT ([]:zW))<|oD (dT ([]:zW))<|oD (dT a.sub)<|oD (dT e)<|oB 5 h7 k) (rQ h))
  intro e a f g c d b r h
  rw[tU]at h
  have z {os ob} (k:Oz os ob):=oD (dT ([]:zW))<|oD (dT a.sub)<|oD (dT e)<|k
  obtain⟨h8,h⟩|⟨h8,h⟩:=xA h
  obtain⟨x9,h10,h⟩:=zD h
  have k:=oA 0 (wN (o:=.no) h10)<|oB 0 h8 o0
  obtain⟨h11,h⟩|⟨h11,h⟩:=xA h
  have k:=oB 2 h11 k
  obtain⟨h12,h⟩|⟨h12,h⟩:=xA h
  obtain⟨r13,h14,h⟩:=zD h
  obtain⟨l15,h16,h⟩:=zD h
  exact fun j=>lH 2 [] [0,1,2,3,4,5] [1] [0,2,4,6,9,51,52,53] (oD (dT a.sub)<|oD (dT l15)<|z<|oP 0 (vO h16 (by simp))<|oS 0 (xL xU [r13.1])<|oC 1 [0,1,2] (eX h14)<|rF 1<|oB 1 h12 k) (rQ h)
  obtain⟨r17,h18,h⟩:=zD h
  obtain⟨l19,h20,h⟩:=zD h
  exact fun j=>lH 2 [] [0,1,2,3,4,5] [1] [0,2,4,6,9,51,52,53] (oD (dT a.sub)<|oD (dT l19)<|z<|oP 0 (vO h20 (by simp))<|oS 0 (xL xU [r17.1])<|oC 1 [0,1,2] (eX h18)<|rF 0<|oB 1 h12 k) (rQ h)
  obtain⟨r21,h22,h⟩:=zD h
  obtain⟨l23,h24,h⟩:=zD h
  exact fun j=>lH 2 [] [0,1,2,3,4,5] [1] [0,2,4,6,9,51,52,53] (oD (dT a.sub)<|oD (dT l23)<|z<|oP 0 (vO h24 (by simp))<|oS 0 (xL xU [r21.1])<|oC 1 [0,1,2] (eX h22)<|rF 0<|oB 2 h11 k) (rQ h)
  cases h
  exact fun j=>lF 2 [0,1,2] (oD (dT b)<|oD (dT e)<|oB 0 h8 o0)
theorem zIA{m q p e a f r}(h:qG m q p e a f=some r):fB q p e a f r Ct:=(jO _).1 h
def F7(b:Nat)(c:Tm)(a:zW):Option (Tm×Int):=
 F2 b 8192 false a>>=fun r1=>
 qG b 8192 false a c 0>>=fun r3=>
 if r3.2.2 then
 none
 else
 jX b r3.1>>=fun r6=>
 if r6 then
 some (r3.1,0)
 else
 none
theorem zIB{b c a r}(h:F7 b c a=some r):Ct 246 [.cells [zH zC a .no]] [xF c,.clo 247 [] [.mp 0 0]] (.tup [xF r.1,ai r.2]) [.cells [zH zC a .no]] 0:=⟨by
 unfold F7 at h
 obtain⟨r1,h2,h⟩:=zD h
 obtain⟨r3,h4,h⟩:=zD h
 have k:=oC 2 [3,0,4] (zIA h4)<|oC 0 [3,0] (zIe h2) o0
 obtain⟨h5,h⟩:=zT h
 obtain⟨r6,h7,h⟩:=zD h
 have k:=oB 1 h5 k
 obtain⟨h8,h⟩:=xD h
 cases h
 exact tF ⟨func246,rfl⟩ 3 [0] (oD (dT r3.1.sub)<|oD (dT a)<|oK 1 [] h8 (jM h7) k),⟨⟨tv,tv,⟨tv,dT _⟩,tv⟩,⟨tv,⟨(lz rfl),tv⟩⟩,tv⟩,(zA ⟨⟨tv,dT _⟩,tv⟩ zB),⟨⟨tv,tv,dT _,tv⟩,tv,tv⟩,(zA ⟨dT _,tv⟩ zB)⟩
def bO:Nat->Tm->zW->Int->Option (Tm×Int)
 |0,_,_,_=>none
 |d+1,b,a,c=>
 if decide (c<(a.length:Int))then
 yG a c>>=fun x5=>
 jX d x5>>=fun r7=>
 if r7 then
 bO d b a (xE (c+1))
 else
 none
 else
 F7 d b a>>=fun r10=>
 some (r10.1,r10.2)
def zFR(d:Nat)(b:Tm)(a:zW):Option (Tm×Int):=
 jX d b>>=fun r1=>
 if r1 then
 bO d b a 0
 else
 none
theorem zMw:∀d:Nat,(∀ {b a c r},bO d b a c=some r->(∀j,dL 0 (pt 4021 f165) (sp j 28 0 [(2,.mp 0 0),(3,.mp 1 0),(4,.mp 2 0),(12,zH zC a .no),(13,ai (a.length:Int)),(14,ai c)]) (⟨[(0,.cells [ai b.k,ai b.n,zH zC b.sub .no]),(1,.cells [zH zC a .no]),(2,.cells [ai 0,ai 0,zH zC ([]:zW) .nl])],3,[],0,[]⟩) (fQ 0 (nQ 0 f165 (.tup [xF r.1,ai r.2]) [] 0) [.blk 0,.seq (pt 63 f165)]))):=by
 intro d
 induction d with
 |zero=>
  exact fun h=>nn h
 |succ d ih=>
  intro b a c r h
  rw[bO]at h
  obtain⟨h4,h⟩|⟨h4,h⟩:=xA h
  obtain⟨x5,h6,h⟩:=zD h
  obtain⟨r7,h8,h⟩:=zD h
  have k:=oA 0 (wN (o:=.no) h6)<|oB 0 h4 o0
  obtain⟨h9,h⟩:=xD h
  exact fun j=>lH 2 [] [0,1,2] [] [2,3,4,12,13,14] (oD (dT a)<|oD (dT ([]:zW))<|oD (dT a)<|oD (dT b.sub)<|oK 3 [] h9 (jM h8) k) (ih h)
  obtain⟨r10,h11,h⟩:=zD h
  cases h
  exact fun j=>lF 3 [] (oD (dT r10.1.sub)<|oC 1 [1] (zIB h11)<|oB 0 h4 o0)
theorem zIC{d b a r}(h:zFR d b a=some r):Ct 165 [] [xF b,zH zC a .no] (.tup [xF r.1,ai r.2]) [] 0:=⟨by
 unfold zFR at h
 obtain⟨r1,h2,h⟩:=zD h
 obtain⟨h3,h⟩:=xD h
 exact tH ⟨func165,rfl⟩ 3 [] [0,1,2] [] [2,3,4,12,13,14] (oD (dT a)<|oD (dT ([]:zW))<|oD (dT a)<|oD (dT b.sub)<|oK 1 [] h3 (jM h2) o0) (zMw _ h),⟨⟨tv,tv,⟨tv,dT _⟩,tv⟩,⟨tv,dT _⟩,tv⟩,zB,⟨⟨tv,tv,dT _,tv⟩,tv,tv⟩,zB⟩
def zMv(c:Nat)(b a:Tm):Option (Tm×Int):=
 zFR c b [a]>>=fun r1=>
 some (r1.1,r1.2)
theorem zUk{c b a r}(h:zMv c b a=some r):Ct 331 [] [xF b,xF a] (.tup [xF r.1,ai r.2]) [] 0:=⟨by
 unfold zMv at h
 obtain⟨r1,h2,h⟩:=zD h
 cases h
 exact tF ⟨func331,rfl⟩ 3 [] (oD (dT r1.1.sub)<|oC 0 [] (zIC h2)<|oS 2 (xL xU [a]) o0),⟨⟨tv,tv,⟨tv,dT _⟩,tv⟩,⟨tv,tv,⟨tv,dT _⟩,tv⟩,tv⟩,zB,⟨⟨tv,tv,dT _,tv⟩,tv,tv⟩,zB⟩
def zID(b:Nat)(M:xR)(a:Tm):Option Int:=
 if a.k != 6 then
 some 0
 else
 if decide (a.n≥(M.l.length:Int))then
 none
 else
 yG M.l a.n>>=fun x3=>
 some x3.kind
theorem zUj:Qf 402 f402:=⟨func402,rfl⟩
theorem zQm{b M a r}(h:zID b M a=some r):Ct 402 [mB M 1,mR M] [.mp 0 0,xF a] (ai r) [mB M 1,mR M] 0:=⟨by
 unfold zID at h
 obtain⟨h1,h⟩|⟨h1,h⟩:=xA h
 obtain rfl:=sj h
 exact tF zUj 0 [0,1] (tB M<|oB 1 h1 o0)
 have k:=oB 1 h1 o0
 obtain⟨h2,h⟩:=zT h
 obtain⟨x3,h4,h⟩:=zD h
 obtain rfl:=sj h
 exact tF zUj 1 [0,1] (tB M<|oA 2 (vF (o:=.no) h4)<|oB 3 h2 k),⟨(lz rfl),⟨tv,tv,⟨tv,dT _⟩,tv⟩,tv⟩,(vY (lz rfl) zB),tv,(vQ (lz rfl) zB)⟩
def zMu(b:Nat)(a:Tm):Option (Tm×Int):=
 jX b a>>=fun r1=>
 if r1 then
 some (a,0)
 else
 none
theorem zUi{b a r}(h:zMu b a=some r):Ct 405 [] [xF a] (.tup [xF r.1,ai r.2]) [] 0:=⟨by
 unfold zMu at h
 obtain⟨r1,h2,h⟩:=zD h
 obtain⟨h3,h⟩:=xD h
 cases h
 exact tF ⟨func405,rfl⟩ 3 [] (oD (dT a.sub)<|oK 1 [] h3 (jM h2) o0),⟨⟨tv,tv,⟨tv,dT _⟩,tv⟩,tv⟩,zB,⟨⟨tv,tv,dT _,tv⟩,tv,tv⟩,zB⟩
def zMt(a:Nat)(M:xR)(b:Tm):Option (Int×zW×Bool):=
 cF a b>>=fun r1=>
 zID a M r1.1>>=fun r3=>
 if r3 != 2 then
 some (0,[],false)
 else
 yG M.own r1.1.n>>=fun x6=>
 if (r1.2.length:Int) != x6 then
 none
 else
 some (r1.1.n,r1.2,true)
theorem zUh:Qf 408 f408:=⟨func408,rfl⟩
theorem zUg{a M b r}(h:zMt a M b=some r):Ct 408 [mB M 1,mR M] [.mp 0 0,xF b] (.tup [ai r.1,.sl (zF zC r.2.1) r.2.1.length .no,ab r.2.2]) [mB M 1,mR M] 0:=⟨by
 unfold zMt at h
 obtain⟨r1,h2,h⟩:=zD h
 obtain⟨r3,h4,h⟩:=zD h
 have k:=oC 4 [0,1] (zQm h4)<|oC 1 [] (E7 h2) o0
 obtain⟨h5,h⟩|⟨h5,h⟩:=xA h
 cases h
 exact tF zUh 0 [0,1] (oD (dT ([]:zW))<|tB M<|oB 0 h5 k)
 obtain⟨x6,h7,h⟩:=zD h
 have k:=oA 3 (sU (o:=.no) h7)<|oB 0 h5 k
 obtain⟨h8,h⟩:=zT h
 cases h
 exact tF zUh 1 [0,1] (oD (dT r1.2)<|tB M<|oB 1 h8 k),⟨(lz rfl),⟨tv,tv,⟨tv,dT _⟩,tv⟩,tv⟩,(vY (lz rfl) zB),⟨tv,dT _,tv,tv⟩,(vQ (lz rfl) zB)⟩
mutual
def zIE:Nat->xR->Tm->Int->Int->Option (Tm×Int×Int×Int)
 |0,_,_,_,_=>none
 |e+1,M,a,b,c=>
 bP e M b c a.k a.n a.sub
def bP:Nat->xR->Int->Int->Int->Int->zW->Option (Tm×Int×Int×Int)
 |0,_,_,_,_,_,_=>none
 |e+1,M,m,p,f,g,d=>
 zQl e M (Tm.mk f g d) m p>>=fun r1=>
 if r1.2.1 then
 if r1.2.2.1 != 0 then
 none
 else
 bP e M r1.2.2.2.1 r1.2.2.2.2 r1.1.k r1.1.n r1.1.sub
 else
 if r1.2.2.1 != 0 then
 none
 else
 some ((Tm.mk f g d),0,r1.2.2.2.1,r1.2.2.2.2)
def zQl:Nat->xR->Tm->Int->Int->Option (Tm×Bool×Int×Int×Int)
 |0,_,_,_,_=>none
 |e+1,M,a,b,c=>
 cF e a>>=fun r1=>
 if r1.1.k==4 then
 if decide ((r1.2.length:Int)>0)then
 yG r1.1.sub 1>>=fun x5=>
 yG r1.2 0>>=fun x7=>
 zMv e x5 x7>>=fun r9=>
 C4 r1.2 1 (r1.2.length:Int)>>=fun x11=>
 zDv e r9.1 x11>>=fun r13=>
 if r9.2 != 0 then
 none
 else
 zAZ e b c>>=fun r16=>
 if r16.1 != 0 then
 none
 else
 zMu e r13>>=fun r19=>
 some (r19.1,true,r19.2,r16.2.1,r16.2.2)
 else
 none
 else
 zID e M r1.1>>=fun r57=>
 if r57==3 then
 yG M.l r1.1.n>>=fun x60=>
 zDv e x60.body r1.2>>=fun r62=>
 zAZ e b c>>=fun r64=>
 if r64.1 != 0 then
 none
 else
 zMu e r62>>=fun r67=>
 some (r67.1,true,r67.2,r64.2.1,r64.2.2)
 else
 zID e M r1.1>>=fun r69=>
 if r69==4 then
 none
 else
 if r1.1.k==7 then
 zQk e M r1.1 r1.2 b c>>=fun r83=>
 if r83.2.1 then
 none
 else
 if r83.2.2.1 != 0 then
 none
 else
 some (a,false,r83.2.2.1,r83.2.2.2.1,r83.2.2.2.2)
 else
 some (a,false,0,b,c)
def zQk:Nat->xR->Tm->zW->Int->Int->Option (Tm×Bool×Int×Int×Int)
 |0,_,_,_,_,_=>none
 |e+1,M,a,q,b,c=>
 if decide (a.n≥(M.l.length:Int))then
 none
 else
 yG M.l a.n>>=fun x2=>
 if x2.kind != 1 then
 none
 else
 yG M.args a.n>>=fun x5=>
 if decide ((q.length:Int)<x5)then
 none
 else
 yG q (xE (x5-1))>>=fun x8=>
 zIE e M x8 b c>>=fun r10=>
 if r10.2.1 != 0 then
 none
 else
 zMt e M r10.1>>=fun r13=>
 if r13.2.2 then
 none
 else
 some ((Tm.mk 0 0 []),false,0,r10.2.2.1,r10.2.2.2)
end
abbrev zUf (M:xR) (a:Tm) (b c:Int) (r:Tm×Int×Int×Int) (C:Cf):Prop:=C 234 [mB M 1,mR M,.cells [ai b,ai c]] [.mp 0 0,xF a,.mp 2 0] (.tup [xF r.1,ai r.2.1]) [mB M 1,mR M,.cells [ai r.2.2.1,ai r.2.2.2]] 0
abbrev zQj (M:xR) (a:Tm) (b c:Int) (r:Tm×Bool×Int×Int×Int) (C:Cf):Prop:=C 332 [mB M 1,mR M,.cells [ai b,ai c]] [.mp 0 0,xF a,.mp 2 0] (.tup [xF r.1,ab r.2.1,ai r.2.2.1]) [mB M 1,mR M,.cells [ai r.2.2.2.1,ai r.2.2.2.2]] 0
abbrev zXD (M:xR) (a:Tm) (q:zW) (b c:Int) (r:Tm×Bool×Int×Int×Int) (C:Cf):Prop:=C 404 [mB M 1,mR M,.cells [ai b,ai c]] [.mp 0 0,xF a,zH zC q .no,.mp 2 0] (.tup [xF r.1,ab r.2.1,ai r.2.2.1]) [mB M 1,mR M,.cells [ai r.2.2.2.1,ai r.2.2.2.2]] 0
theorem zMs:Qf 332 f332:=⟨func332,rfl⟩
theorem zMr{M a b c r}(h:zQj M a b c r Ci):zQj M a b c r Ct:=⟨h,⟨(lz rfl),⟨tv,tv,⟨tv,dT _⟩,tv⟩,(lz rfl),tv⟩,(vY (lz rfl) (zA ⟨tv,tv,tv⟩ zB)),⟨⟨tv,tv,dT _,tv⟩,tv,tv,tv⟩,(vQ (lz rfl) (zA ⟨tv,tv,tv⟩ zB))⟩
theorem jP:∀e:Nat,(∀ {M a b c r},zIE e M a b c=some r->zUf M a b c r Ct)∧(∀ {M m p f g d r},bP e M m p f g d=some r->(∀j,dL 3 (pt 885 f234) (sp j 28 0 [(0,.mp 0 0),(2,.mp 2 0),(4,.mp 3 0),(6,.mp 4 0)]) (⟨[(0,mB M 1),(1,mR M),(2,.cells [ai m,ai p]),(3,.cells [ai f,ai g,zH zC d .no]),(4,.cells [ai 0,ai 0,zH zC ([]:zW) .nl])],5,[],0,[]⟩) (fQ 3 (nQ 3 f234 (.tup [xF r.1,ai r.2.1]) [mB M 1,mR M,.cells [ai r.2.2.1,ai r.2.2.2]] 0) [.blk 0])))∧(∀ {M a b c r},zQl e M a b c=some r->zQj M a b c r Ct)∧(∀ {M a q b c r},zQk e M a q b c=some r->zXD M a q b c r Ct):=by
 intro e
 induction e with
 |zero=>
  exact⟨fun h=>nn h,fun h=>nn h,fun h=>nn h,fun h=>nn h⟩
 |succ e ih=>
  obtain⟨zUe,zBv,zUd,zUc⟩:=ih
  refine⟨?_,?_,?_,?_⟩
  intro M a b c r h
  rw[zIE]at h
  exact⟨tH ⟨func234,rfl⟩ 0 [] [0,1,2,3,4] [] [0,2,4,6] (oD (dT ([]:zW))<|oD (dT a.sub)<|oD (dC M.parts)<|oD (dE M.rl)<|oD (dI M.own)<|oD (dI M.args)<|oD (dE M.l) o0) (zBv h),⟨(lz rfl),⟨tv,tv,⟨tv,dT _⟩,tv⟩,(lz rfl),tv⟩,(vY (lz rfl) (zA ⟨tv,tv,tv⟩ zB)),⟨⟨tv,tv,dT _,tv⟩,tv,tv⟩,(vQ (lz rfl) (zA ⟨tv,tv,tv⟩ zB))⟩
  intro M m p f g d r h
  rw[bP]at h
  obtain⟨r1,h2,h⟩:=zD h
  have k:=oC 1 [0,1,2] (zUd h2) o0
  obtain⟨h3,h⟩|⟨h3,h⟩:=xA h
  have k:=oB 1 h3 k
  obtain⟨h4,h⟩:=zT h
  exact fun j=>lH 2 [] [0,1,2,3,4] [] [0,2,4,6] (oD (dT ([]:zW))<|oD (dT r1.1.sub)<|tB M<|oB 2 h4 k) (zBv h)
  have k:=oB 1 h3 k
  obtain⟨h5,h⟩:=zT h
  cases h
  exact fun j=>lF 2 [0,1,2] (oD (dT d)<|tB M<|oB 2 h5 k)
  intro M a b c r h
  rw[zQl]at h
  obtain⟨r1,h2,h⟩:=zD h
  have k:=oC 1 [] (E7 h2) o0
  obtain⟨h3,h⟩|⟨h3,h⟩:=xA h
  have k:=oB 5 h3 k
  obtain⟨h4,h⟩:=xD h
  obtain⟨x5,h6,h⟩:=zD h
  obtain⟨x7,h8,h⟩:=zD h
  obtain⟨r9,h10,h⟩:=zD h
  obtain⟨x11,h12,h⟩:=zD h
  obtain⟨r13,h14,h⟩:=zD h
  have k:=oC 0 [] (zIf h14)<|oA 4 (kA h12)<|oC 1 [] (zUk h10)<|oA 1 (wN (o:=.no) h8)<|oA 1 (wN (o:=.no) h6)<|oB 1 h4 k
  obtain⟨h15,h⟩:=zT h
  obtain⟨r16,h17,h⟩:=zD h
  have k:=oC 1 [2] (zFP h17)<|oB 1 h15 k
  obtain⟨h18,h⟩:=zT h
  obtain⟨r19,h20,h⟩:=zD h
  cases h
  exact zMr (tF zMs 5 [0,1,2] (oD (dT r19.1.sub)<|tB M<|oC 1 [] (zUi h20)<|oB 0 h18 k))
  obtain⟨r57,h58,h⟩:=zD h
  have k:=oC 1 [0,1] (zQm h58)<|oB 5 h3 k
  obtain⟨h59,h⟩|⟨h59,h⟩:=xA h
  obtain⟨x60,h61,h⟩:=zD h
  obtain⟨r62,h63,h⟩:=zD h
  obtain⟨r64,h65,h⟩:=zD h
  have k:=oC 3 [2] (zFP h65)<|oC 1 [] (zIf h63)<|oA 2 (vF (o:=.no) h61)<|oB 0 h59 k
  obtain⟨h66,h⟩:=zT h
  obtain⟨r67,h68,h⟩:=zD h
  cases h
  exact zMr (tF zMs 5 [0,1,2] (oD (dT r67.1.sub)<|tB M<|oC 1 [] (zUi h68)<|oB 0 h66 k))
  obtain⟨r69,h70,h⟩:=zD h
  have k:=oC 1 [0,1] (zQm h70)<|oB 0 h59 k
  obtain⟨h71,h⟩:=zT h
  have k:=oB 0 h71 k
  obtain⟨h82,h⟩|⟨h82,h⟩:=xA h
  obtain⟨r83,h84,h⟩:=zD h
  have k:=oC 1 [0,1,2] (zUc h84)<|oB 1 h82 k
  obtain⟨h85,h⟩:=zT h
  have k:=oB 1 h85 k
  obtain⟨h92,h⟩:=zT h
  cases h
  exact zMr (tF zMs 3 [0,1,2] (oD (dT a.sub)<|tB M<|oB 2 h92 k))
  cases h
  exact zMr (tF zMs 4 [0,1,2] (oD (dT a.sub)<|tB M<|oB 1 h82 k))
  intro M a q b c r h
  rw[zQk]at h
  obtain⟨h1,h⟩:=zT h
  obtain⟨x2,h3,h⟩:=zD h
  have k:=oA 2 (vF (o:=.no) h3)<|oB 3 h1 o0
  obtain⟨h4,h⟩:=zT h
  obtain⟨x5,h6,h⟩:=zD h
  have k:=oA 3 (sU (o:=.no) h6)<|oB 1 h4 k
  obtain⟨h7,h⟩:=zT h
  obtain⟨x8,h9,h⟩:=zD h
  obtain⟨r10,h11,h⟩:=zD h
  have k:=oC 1 [0,1,2] (zUe h11)<|oA 2 (wN (o:=.no) h9)<|oA 2 (sU (o:=.no) h6)<|oB 1 h7 k
  obtain⟨h12,h⟩:=zT h
  obtain⟨r13,h14,h⟩:=zD h
  have k:=oC 1 [0,1] (zUg h14)<|oB 3 h12 k
  obtain⟨h15,h⟩:=zT h
  cases h
  exact⟨tF ⟨func404,rfl⟩ 2 [0,1,2] (oD (dT ([]:zW))<|tB M<|oB 2 h15 k),⟨(lz rfl),⟨tv,tv,⟨tv,dT _⟩,tv⟩,⟨tv,dT _⟩,(lz rfl),tv⟩,(vY (lz rfl) (zA ⟨tv,tv,tv⟩ zB)),⟨⟨tv,tv,dT _,tv⟩,tv,tv,tv⟩,(vQ (lz rfl) (zA ⟨tv,tv,tv⟩ zB))⟩
theorem zXE{e M a b c r}(h:zIE e M a b c=some r):zUf M a b c r Ct:=(jP _).1 h
def w7(a:Nat)(M:xR)(b:Tm)(c d:Int):Option (Tm×Int×Int×Int):=
 zQp a M b>>=fun r1=>
 if r1 then
 zIE a M b c d>>=fun r4=>
 if r4.2.1 != 0 then
 none
 else
 e92 a r4.1>>=fun r7=>
 some (r7,0,r4.2.2.1,r4.2.2.2)
 else
 none
theorem zDu{a M b c d r}(h:w7 a M b c d=some r):Ct 149 [mB M 1,mR M,.cells [ai c,ai d]] [.mp 0 0,xF b,.mp 2 0] (.tup [xF r.1,ai r.2.1]) [mB M 1,mR M,.cells [ai r.2.2.1,ai r.2.2.2]] 0:=⟨by
 unfold w7 at h
 obtain⟨r1,h2,h⟩:=zD h
 obtain⟨h3,h⟩:=xD h
 obtain⟨r4,h5,h⟩:=zD h
 have k:=oC 2 [0,1,2] (zXE h5)<|oK 1 [0,1] h3 (zXB h2) o0
 obtain⟨h6,h⟩:=zT h
 obtain⟨r7,h8,h⟩:=zD h
 cases h
 exact tF ⟨func149,rfl⟩ 1 [0,1,2] (oD (dT r7.sub)<|tB M<|oC 1 [] (c92 h8)<|oB 3 h6 k),⟨(lz rfl),⟨tv,tv,⟨tv,dT _⟩,tv⟩,(lz rfl),tv⟩,(vY (lz rfl) (zA ⟨tv,tv,tv⟩ zB)),⟨⟨tv,tv,dT _,tv⟩,tv,tv⟩,(vQ (lz rfl) (zA ⟨tv,tv,tv⟩ zB))⟩
def zMq(f:Nat)(M:xR)(a:yD)(c d b:Int)(e:Tm):Option (Tm×Int×Int×Int):=
 w7 f M e c d>>=fun r1=>
 if b==0 then
 some (r1.1,r1.2.1,r1.2.2.1,r1.2.2.2)
 else
 none
theorem zUb{f M a c d b e r}(h:zMq f M a c d b e=some r):Ct 430 [.cells [.mp 1 0,zH yE a .no,.mp 3 0,ai b],mB M 2,mR M,.cells [ai c,ai d]] [.mp 0 0,xF e] (xF r.1) [.cells [.mp 1 0,zH yE a .no,.mp 3 0,ai r.2.1],mB M 2,mR M,.cells [ai r.2.2.1,ai r.2.2.2]] 0:=⟨by
 unfold zMq at h
 obtain⟨r1,h2,h⟩:=zD h
 have k:=oC 3 [1,2,3] (zDu h2) o0
 obtain⟨h3,h⟩:=xD h
 cases h
 exact tF ⟨func430,rfl⟩ 3 [0,1,2,3] (oD (dT r1.1.sub)<|tB M<|oD (dE a)<|oB 4 h3 k),⟨(lz rfl),⟨tv,tv,⟨tv,dT _⟩,tv⟩,tv⟩,(zA ⟨(lz rfl),⟨tv,dE _⟩,(lz rfl),tv,tv⟩ (vY (lz rfl) (zA ⟨tv,tv,tv⟩ zB))),⟨tv,tv,dT _,tv⟩,(zA ⟨(lz rfl),dE _,(lz rfl),tv,tv⟩ (vQ (lz rfl) (zA ⟨tv,tv,tv⟩ zB)))⟩
def zMp(c:Nat)(M:xR)(a:yD)(d e b:Int)(f g:Tm):Option (Tm×Tm×Bool×Int×Int×Int):=
 if b != 0 then
 none
 else
 zMq c M a d e b f>>=fun r2=>
 if r2.2.1 != 0 then
 none
 else
 zMq c M a r2.2.2.1 r2.2.2.2 r2.2.1 g>>=fun r5=>
 some (r2.1,r5.1,(r5.2.1==0),r5.2.1,r5.2.2.1,r5.2.2.2)
theorem zUa{c M a d e b f g r}(h:zMp c M a d e b f g=some r):Ct 390 [.cells [.mp 1 0,zH yE a .no,.mp 3 0,ai b],mB M 2,mR M,.cells [ai d,ai e]] [.mp 0 0,xF f,xF g] (.tup [xF r.1,xF r.2.1,ab r.2.2.1]) [.cells [.mp 1 0,zH yE a .no,.mp 3 0,ai r.2.2.2.1],mB M 2,mR M,.cells [ai r.2.2.2.2.1,ai r.2.2.2.2.2]] 0:=⟨by
 unfold zMp at h
 obtain⟨h1,h⟩:=zT h
 obtain⟨r2,h3,h⟩:=zD h
 have k:=oC 1 [0,1,2,3] (zUb h3)<|oB 1 h1 o0
 obtain⟨h4,h⟩:=zT h
 obtain⟨r5,h6,h⟩:=zD h
 cases h
 exact tF ⟨func390,rfl⟩ 7 [0,1,2,3] (oD (dT r5.1.sub)<|oD (dT r2.1.sub)<|tB M<|oD (dE a)<|oC 1 [0,1,2,3] (zUb h6)<|oB 2 h4 k),⟨(lz rfl),⟨tv,tv,⟨tv,dT _⟩,tv⟩,⟨tv,tv,⟨tv,dT _⟩,tv⟩,tv⟩,(zA ⟨(lz rfl),⟨tv,dE _⟩,(lz rfl),tv,tv⟩ (vY (lz rfl) (zA ⟨tv,tv,tv⟩ zB))),⟨⟨tv,tv,dT _,tv⟩,⟨tv,tv,dT _,tv⟩,tv,tv⟩,(zA ⟨(lz rfl),dE _,(lz rfl),tv,tv⟩ (vQ (lz rfl) (zA ⟨tv,tv,tv⟩ zB)))⟩
def zQi(c:Nat)(a b:Int):Option Bool:=
 some (a==b)
theorem zXF{c a b r}(h:zQi c a b=some r):Ct 429 [] [ai a,ai b] (ab r) [] 0:=⟨by
 unfold zQi at h
 cases h
 exact tF ⟨func429,rfl⟩ 1 [] (o0),⟨tv,tv,tv⟩,zB,tv,zB⟩
def zFS(a:Nat)(M:xR)(b:Tm):Option (Int×zW×Bool):=
 jX a b>>=fun r1=>
 if r1 then
 e92 a b>>=fun r4=>
 zMt a M r4>>=fun r6=>
 some (r6.1,r6.2.1,r6.2.2)
 else
 none
theorem zMo{a M b r}(h:zFS a M b=some r):Ct 340 [mB M 1,mR M] [.mp 0 0,xF b] (.tup [ai r.1,.sl (zF zC r.2.1) r.2.1.length .no,ab r.2.2]) [mB M 1,mR M] 0:=⟨by
 unfold zFS at h
 obtain⟨r1,h2,h⟩:=zD h
 obtain⟨h3,h⟩:=xD h
 obtain⟨r4,h5,h⟩:=zD h
 obtain⟨r6,h7,h⟩:=zD h
 cases h
 exact tF ⟨func340,rfl⟩ 3 [0,1] (oD (dT r6.2.1)<|tB M<|oC 0 [0,1] (zUg h7)<|oC 2 [] (c92 h5)<|oK 2 [] h3 (jM h2) o0),⟨(lz rfl),⟨tv,tv,⟨tv,dT _⟩,tv⟩,tv⟩,(vY (lz rfl) zB),⟨tv,dT _,tv,tv⟩,(vQ (lz rfl) zB)⟩
def zFT(f:Nat)(M:xR)(a:yD)(c d b:Int)(e:Tm):Option (Int×zW×Bool):=
 zFS f M e>>=fun r1=>
 if r1.2.2 then
 yG a r1.1>>=fun x4=>
 yG a x4.fam>>=fun x6=>
 if (x6.fields.length:Int)==0 then
 some (0,[],false)
 else
 none
 else
 some (0,[],false)
theorem zUA:Qf 432 f432:=⟨func432,rfl⟩
theorem zMn{f M a c d b e r}(h:zFT f M a c d b e=some r):Ct 432 [.cells [.mp 1 0,zH yE a .no,.mp 3 0,ai b],mB M 2,mR M,.cells [ai c,ai d]] [.mp 0 0,xF e] (.tup [ai r.1,.sl (zF zC r.2.1) r.2.1.length .no,ab r.2.2]) [.cells [.mp 1 0,zH yE a .no,.mp 3 0,ai b],mB M 2,mR M,.cells [ai c,ai d]] 0:=⟨by
 unfold zFT at h
 obtain⟨r1,h2,h⟩:=zD h
 have k:=oC 2 [1,2] (zMo h2) o0
 obtain⟨h3,h⟩|⟨h3,h⟩:=xA h
 obtain⟨x4,h5,h⟩:=zD h
 obtain⟨x6,h7,h⟩:=zD h
 have k:=oA 1 (vF (o:=.no) h7)<|oA 3 (vF (o:=.no) h5)<|oB 2 h3 k
 obtain⟨h8,h⟩:=xD h
 cases h
 exact tF zUA 0 [0,1,2,3] (oD (dT ([]:zW))<|tB M<|oD (dE a)<|oB 2 h8 k)
 cases h
 exact tF zUA 1 [0,1,2,3] (oD (dT ([]:zW))<|tB M<|oD (dE a)<|oB 2 h3 k),⟨(lz rfl),⟨tv,tv,⟨tv,dT _⟩,tv⟩,tv⟩,(zA ⟨(lz rfl),⟨tv,dE _⟩,(lz rfl),tv,tv⟩ (vY (lz rfl) (zA ⟨tv,tv,tv⟩ zB))),⟨tv,dT _,tv,tv⟩,(zA ⟨(lz rfl),dE _,(lz rfl),tv,tv⟩ (vQ (lz rfl) (zA ⟨tv,tv,tv⟩ zB)))⟩
mutual
def kB:Nat->yD->yD->xS->zU->zU->yD->Int->Int->Int->Tm->Tm->Option (Bool×Int×Int×Int)
 |0,_,_,_,_,_,_,_,_,_,_,_=>none
 |w+1,a,b,c,d,e,f,m,p,q,g,s=>
 zMp w (xR.mk a b c d e) f m p q g s>>=fun r1=>
 if r1.2.2.1 then
 F8 w a b c d e f r1.2.2.2.2.1 r1.2.2.2.2.2 r1.2.2.2.1 r1.1 r1.2.1>>=fun r4=>
 some (r4.1,r4.2.1,r4.2.2.1,r4.2.2.2)
 else
 none
def F8:Nat->yD->yD->xS->zU->zU->yD->Int->Int->Int->Tm->Tm->Option (Bool×Int×Int×Int)
 |0,_,_,_,_,_,_,_,_,_,_,_=>none
 |w+1,a,b,c,d,e,f,m,p,q,g,s=>
 if g.k==4 then
 none
 else
 if s.k==4 then
 none
 else
 zFT w (xR.mk a b c d e) f m p q g>>=fun r15=>
 if r15.2.2 then
 none
 else
 zFT w (xR.mk a b c d e) f m p q s>>=fun r34=>
 if r34.2.2 then
 none
 else
 if g.k != s.k then
 some (false,q,m,p)
 else
 if g.k==3 then
 none
 else
 if g.k==2 then
 zQi w g.n s.n>>=fun r59=>
 some (r59,q,m,p)
 else
 kC w a b c d e f m p q g s>>=fun r61=>
 some (r61.1,r61.2.1,r61.2.2.1,r61.2.2.2)
def kC:Nat->yD->yD->xS->zU->zU->yD->Int->Int->Int->Tm->Tm->Option (Bool×Int×Int×Int)
 |0,_,_,_,_,_,_,_,_,_,_,_=>none
 |w+1,a,b,c,d,e,f,m,p,q,g,s=>
 cF w g>>=fun r1=>
 cF w s>>=fun r3=>
 if r1.1.k != r3.1.k then
 none
 else
 if r1.1.n != r3.1.n then
 none
 else
 if (r1.2.length:Int) != (r3.2.length:Int)then
 none
 else
 if r1.1.k==7 then
 none
 else
 if r1.1.k==3 then
 none
 else
 qT w a b c d e f r1 r3 0 q m p
def qT:Nat->yD->yD->xS->zU->zU->yD->(Tm×zW)->(Tm×zW)->Int->Int->Int->Int->Option (Bool×Int×Int×Int)
 |0,_,_,_,_,_,_,_,_,_,_,_,_=>none
 |w+1,a,b,c,d,e,f,r1,r3,y,t,u,v=>
 if decide (y<(r1.2.length:Int))then
 yG r1.2 y>>=fun x26=>
 yG r3.2 y>>=fun x28=>
 kB w a b c d e f u v t x26 x28>>=fun r30=>
 if r30.1 then
 qT w a b c d e f r1 r3 (xE (y+1)) r30.2.1 r30.2.2.1 r30.2.2.2
 else
 none
 else
 some (true,t,u,v)
end
abbrev zBu (a b:yD) (c:xS) (d e:zU) (f:yD) (m p q:Int) (g s:Tm) (r:Bool×Int×Int×Int) (C:Cf):Prop:=C 389 [.cells [.mp 1 0,zH yE f .no,.mp 3 0,ai q],qB a 2 d e,qR b c,.cells [ai m,ai p]] [.mp 0 0,xF g,xF s] (ab r.1) [.cells [.mp 1 0,zH yE f .no,.mp 3 0,ai r.2.1],qB a 2 d e,qR b c,.cells [ai r.2.2.1,ai r.2.2.2]] 0
abbrev F9 (a b:yD) (c:xS) (d e:zU) (f:yD) (m p q:Int) (g s:Tm) (r:Bool×Int×Int×Int) (C:Cf):Prop:=C 391 [.cells [.mp 1 0,zH yE f .no,.mp 3 0,ai q],qB a 2 d e,qR b c,.cells [ai m,ai p]] [.mp 0 0,xF g,xF s,.agg [.clo 429 [] [],.clo 389 [.mp 0 0] []]] (ab r.1) [.cells [.mp 1 0,zH yE f .no,.mp 3 0,ai r.2.1],qB a 2 d e,qR b c,.cells [ai r.2.2.1,ai r.2.2.2]] 0
abbrev zBt (a b:yD) (c:xS) (d e:zU) (f:yD) (m p q:Int) (g s:Tm) (r:Bool×Int×Int×Int) (C:Cf):Prop:=C 434 [.cells [.mp 1 0,zH yE f .no,.mp 3 0,ai q],qB a 2 d e,qR b c,.cells [ai m,ai p]] [.mp 0 0,xF g,xF s] (ab r.1) [.cells [.mp 1 0,zH yE f .no,.mp 3 0,ai r.2.1],qB a 2 d e,qR b c,.cells [ai r.2.2.1,ai r.2.2.2]] 0
theorem G3:Qf 391 f391:=⟨func391,rfl⟩
theorem G5{a b c d e f m p q g s r}(h:F9 a b c d e f m p q g s r Ci):F9 a b c d e f m p q g s r Ct:=⟨h,⟨(lz rfl),⟨tv,tv,⟨tv,dT _⟩,tv⟩,⟨tv,tv,⟨tv,dT _⟩,tv⟩,⟨⟨tv,tv⟩,⟨⟨(lz rfl),tv⟩,tv⟩,tv⟩,tv⟩,(zA ⟨(lz rfl),⟨tv,dE _⟩,(lz rfl),tv,tv⟩ (vY (lz rfl) (zA ⟨tv,tv,tv⟩ zB))),tv,(zA ⟨(lz rfl),dE _,(lz rfl),tv,tv⟩ (vQ (lz rfl) (zA ⟨tv,tv,tv⟩ zB)))⟩
theorem vK:∀w:Nat,(∀ {a b c d e f m p q g s r},kB w a b c d e f m p q g s=some r->zBu a b c d e f m p q g s r Ct)∧(∀ {a b c d e f m p q g s r},F8 w a b c d e f m p q g s=some r->F9 a b c d e f m p q g s r Ct)∧(∀ {a b c d e f m p q g s r},kC w a b c d e f m p q g s=some r->zBt a b c d e f m p q g s r Ct)∧(∀ {a b c d e f r1 r3 y t u v r},qT w a b c d e f r1 r3 y t u v=some r->(∀j,dL 4 (pt 262069 f434) (sp j 104 0 [(0,.mp 0 0),(8,zH zC r1.2 .no),(10,zH zC r3.2 .no),(88,ai (r1.2.length:Int)),(89,ai y)]) (⟨[(0,.cells [.mp 1 0,zH yE f .no,.mp 3 0,ai t]),(1,qB a 2 d e),(2,qR b c),(3,.cells [ai u,ai v])],4,[],0,[]⟩) (fQ 4 (nQ 4 f434 (ab r.1) [.cells [.mp 1 0,zH yE f .no,.mp 3 0,ai r.2.1],qB a 2 d e,qR b c,.cells [ai r.2.2.1,ai r.2.2.2]] 0) [.blk 0,.seq (pt 4095 f434)]))):=by
 intro w
 induction w with
 |zero=>
  exact⟨fun h=>nn h,fun h=>nn h,fun h=>nn h,fun h=>nn h⟩
 |succ w ih=>
  obtain⟨zFU,zFV,zFW,fC⟩:=ih
  refine⟨?_,?_,?_,?_⟩
  intro a b c d e f m p q g s r h
  rw[kB]at h
  obtain⟨r1,h2,h⟩:=zD h
  have k:=oC 2 [0,1,2,3] (zUa h2) o0
  obtain⟨h3,h⟩:=xD h
  obtain⟨r4,h5,h⟩:=zD h
  cases h
  exact⟨tF ⟨func389,rfl⟩ 0 [0,1,2,3] (wS a b c d e<|oD (dE f)<|oC 4 [0,1,2,3] (zFV h5)<|oB 2 h3 k),⟨(lz rfl),⟨tv,tv,⟨tv,dT _⟩,tv⟩,⟨tv,tv,⟨tv,dT _⟩,tv⟩,tv⟩,(zA ⟨(lz rfl),⟨tv,dE _⟩,(lz rfl),tv,tv⟩ (vY (lz rfl) (zA ⟨tv,tv,tv⟩ zB))),tv,(zA ⟨(lz rfl),dE _,(lz rfl),tv,tv⟩ (vQ (lz rfl) (zA ⟨tv,tv,tv⟩ zB)))⟩
  intro a b c d e f m p q g s r h
  rw[F8]at h
  have z {os ob} (k:Oz os ob):=wS a b c d e<|oD (dE f)<|k
  obtain⟨h1,h⟩:=zT h
  have k:=oB 1 h1 o0
  obtain⟨h8,h⟩:=zT h
  obtain⟨r15,h16,h⟩:=zD h
  have k:=oC 1 [0,1,2,3] (zMn h16)<|oB 1 h8 k
  obtain⟨h17,h⟩:=zT h
  obtain⟨r34,h35,h⟩:=zD h
  have k:=oC 1 [0,1,2,3] (zMn h35)<|oB 2 h17 k
  obtain⟨h36,h⟩:=zT h
  have k:=oB 2 h36 k
  obtain⟨h43,h⟩|⟨h43,h⟩:=xA h
  cases h
  exact G5 (tF G3 0 [0,1,2,3] (z<|oB 2 h43 k))
  have k:=oB 2 h43 k
  obtain⟨h44,h⟩:=zT h
  have k:=oB 1 h44 k
  obtain⟨h58,h⟩|⟨h58,h⟩:=xA h
  obtain⟨r59,h60,h⟩:=zD h
  cases h
  exact G5 (tF G3 0 [0,1,2,3] (z<|oC 3 [] (zXF h60)<|oB 1 h58 k))
  obtain⟨r61,h62,h⟩:=zD h
  cases h
  exact G5 (tF G3 0 [0,1,2,3] (z<|oC 2 [0,1,2,3] (zFW h62)<|oB 1 h58 k))
  intro a b c d e f m p q g s r h
  rw[kC]at h
  obtain⟨r1,h2,h⟩:=zD h
  obtain⟨r3,h4,h⟩:=zD h
  have k:=oC 4 [] (E7 h4)<|oC 1 [] (E7 h2) o0
  obtain⟨h5,h⟩:=zT h
  have k:=oB 5 h5 k
  obtain⟨h6,h⟩:=zT h
  have k:=oB 2 h6 k
  obtain⟨h7,h⟩:=zT h
  have k:=oB 2 h7 k
  obtain⟨h8,h⟩:=zT h
  have k:=oB 1 h8 k
  obtain⟨h25,h⟩:=zT h
  exact⟨tH ⟨func434,rfl⟩ 1 [] [0,1,2,3] [] [0,8,10,88,89] (oD (dT r3.2)<|oD (dT r1.2)<|wS a b c d e<|oD (dE f)<|oB 1 h25 k) (fC h),⟨(lz rfl),⟨tv,tv,⟨tv,dT _⟩,tv⟩,⟨tv,tv,⟨tv,dT _⟩,tv⟩,tv⟩,(zA ⟨(lz rfl),⟨tv,dE _⟩,(lz rfl),tv,tv⟩ (vY (lz rfl) (zA ⟨tv,tv,tv⟩ zB))),tv,(zA ⟨(lz rfl),dE _,(lz rfl),tv,tv⟩ (vQ (lz rfl) (zA ⟨tv,tv,tv⟩ zB)))⟩
  intro a b c d e f r1 r3 y t u v r h
  rw[qT]at h
  obtain⟨h25,h⟩|⟨h25,h⟩:=xA h
  obtain⟨x26,h27,h⟩:=zD h
  obtain⟨x28,h29,h⟩:=zD h
  obtain⟨r30,h31,h⟩:=zD h
  have k:=oA 1 (wN (o:=.no) h29)<|oA 0 (wN (o:=.no) h27)<|oB 0 h25 o0
  obtain⟨h32,h⟩:=xD h
  exact fun j=>lH 2 [] [0,1,2,3] [] [0,8,10,88,89] (oD (dT r3.2)<|oD (dT r1.2)<|wS a b c d e<|oD (dE f)<|oK 1 [0,1,2,3] h32 (zFU h31) k) (fC h)
  cases h
  exact fun j=>lF 0 [0,1,2,3] (wS a b c d e<|oD (dE f)<|oB 0 h25 o0)
theorem zIF{w a b c d e f m p q g s r}(h:kB w a b c d e f m p q g s=some r):zBu a b c d e f m p q g s r Ct:=(vK _).1 h
theorem zIG{w a b c d e f m p q g s r}(h:kC w a b c d e f m p q g s=some r):zBt a b c d e f m p q g s r Ct:=(vK _).2.2.1 h
def zQh(c:Nat)(a b:Int):Option Bool:=
 some (decide (a≤b))
theorem zXG{c a b r}(h:zQh c a b=some r):Ct 392 [] [ai a,ai b] (ab r) [] 0:=⟨by
 unfold zQh at h
 cases h
 exact tF ⟨func392,rfl⟩ 1 [] (o0),⟨tv,tv,tv⟩,zB,tv,zB⟩
def G6(t:Nat)(a b:yD)(c:xS)(d e:zU)(f:yD)(p q s:Int)(g m:Tm):Option (Bool×Int×Int×Int):=
 if g.k==4 then
 none
 else
 if m.k==4 then
 none
 else
 zFT t (xR.mk a b c d e) f p q s g>>=fun r15=>
 if r15.2.2 then
 none
 else
 zFT t (xR.mk a b c d e) f p q s m>>=fun r34=>
 if r34.2.2 then
 none
 else
 if g.k != m.k then
 none
 else
 if g.k==3 then
 none
 else
 if g.k==2 then
 zQh t g.n m.n>>=fun r59=>
 some (r59,s,p,q)
 else
 kC t a b c d e f p q s g m>>=fun r61=>
 some (r61.1,r61.2.1,r61.2.2.1,r61.2.2.2)
def G7(t:Nat)(a b:yD)(c:xS)(d e:zU)(f:yD)(p q s:Int)(g m:Tm):Option (Bool×Int×Int×Int):=
 zMp t (xR.mk a b c d e) f p q s g m>>=fun r1=>
 if r1.2.2.1 then
 G6 t a b c d e f r1.2.2.2.2.1 r1.2.2.2.2.2 r1.2.2.2.1 r1.1 r1.2.1>>=fun r4=>
 some (r4.1,r4.2.1,r4.2.2.1,r4.2.2.2)
 else
 none
theorem zBs:Qf 391 f391:=⟨func391,rfl⟩
theorem zIH{t a b c d e f p q s g m r}(h:G6 t a b c d e f p q s g m=some r):Ct 391 [.cells [.mp 1 0,zH yE f .no,.mp 3 0,ai s],qB a 2 d e,qR b c,.cells [ai p,ai q]] [.mp 0 0,xF g,xF m,.agg [.clo 392 [] [],.clo 300 [.mp 0 0] []]] (ab r.1) [.cells [.mp 1 0,zH yE f .no,.mp 3 0,ai r.2.1],qB a 2 d e,qR b c,.cells [ai r.2.2.1,ai r.2.2.2]] 0:=⟨by
 unfold G6 at h
 obtain⟨h1,h⟩:=zT h
 have k:=oB 1 h1 o0
 obtain⟨h8,h⟩:=zT h
 obtain⟨r15,h16,h⟩:=zD h
 have k:=oC 1 [0,1,2,3] (zMn h16)<|oB 1 h8 k
 obtain⟨h17,h⟩:=zT h
 obtain⟨r34,h35,h⟩:=zD h
 have k:=oC 1 [0,1,2,3] (zMn h35)<|oB 2 h17 k
 obtain⟨h36,h⟩:=zT h
 have k:=oB 2 h36 k
 obtain⟨h43,h⟩:=zT h
 have k:=oB 2 h43 k
 obtain⟨h44,h⟩:=zT h
 have k:=oB 1 h44 k
 obtain⟨h58,h⟩|⟨h58,h⟩:=xA h
 obtain⟨r59,h60,h⟩:=zD h
 cases h
 exact tF zBs 0 [0,1,2,3] (wS a b c d e<|oD (dE f)<|oC 3 [] (zXG h60)<|oB 1 h58 k)
 obtain⟨r61,h62,h⟩:=zD h
 cases h
 exact tF zBs 0 [0,1,2,3] (wS a b c d e<|oD (dE f)<|oC 2 [0,1,2,3] (zIG h62)<|oB 1 h58 k),⟨(lz rfl),⟨tv,tv,⟨tv,dT _⟩,tv⟩,⟨tv,tv,⟨tv,dT _⟩,tv⟩,⟨⟨tv,tv⟩,⟨⟨(lz rfl),tv⟩,tv⟩,tv⟩,tv⟩,(zA ⟨(lz rfl),⟨tv,dE _⟩,(lz rfl),tv,tv⟩ (vY (lz rfl) (zA ⟨tv,tv,tv⟩ zB))),tv,(zA ⟨(lz rfl),dE _,(lz rfl),tv,tv⟩ (vQ (lz rfl) (zA ⟨tv,tv,tv⟩ zB)))⟩
theorem zII{t a b c d e f p q s g m r}(h:G7 t a b c d e f p q s g m=some r):Ct 300 [.cells [.mp 1 0,zH yE f .no,.mp 3 0,ai s],qB a 2 d e,qR b c,.cells [ai p,ai q]] [.mp 0 0,xF g,xF m] (ab r.1) [.cells [.mp 1 0,zH yE f .no,.mp 3 0,ai r.2.1],qB a 2 d e,qR b c,.cells [ai r.2.2.1,ai r.2.2.2]] 0:=⟨by
 unfold G7 at h
 obtain⟨r1,h2,h⟩:=zD h
 have k:=oC 2 [0,1,2,3] (zUa h2) o0
 obtain⟨h3,h⟩:=xD h
 obtain⟨r4,h5,h⟩:=zD h
 cases h
 exact tF ⟨func300,rfl⟩ 0 [0,1,2,3] (wS a b c d e<|oD (dE f)<|oC 4 [0,1,2,3] (zIH h5)<|oB 2 h3 k),⟨(lz rfl),⟨tv,tv,⟨tv,dT _⟩,tv⟩,⟨tv,tv,⟨tv,dT _⟩,tv⟩,tv⟩,(zA ⟨(lz rfl),⟨tv,dE _⟩,(lz rfl),tv,tv⟩ (vY (lz rfl) (zA ⟨tv,tv,tv⟩ zB))),tv,(zA ⟨(lz rfl),dE _,(lz rfl),tv,tv⟩ (vQ (lz rfl) (zA ⟨tv,tv,tv⟩ zB)))⟩
def G8(w:Nat)(f g:yD)(m:xS)(n p:zU)(q:yD)(t u v s c:Int)(a:zW)(d e:Int)(b:zW):Option (Bool×Int×Int×Int):=
 G7 w f g m n p q t u v (Tm.mk s c a) (Tm.mk d e b)>>=fun r1=>
 some (r1.1,r1.2.1,r1.2.2.1,r1.2.2.2)
theorem zIJ{w f g m n p q t u v s c a d e b r}(h:G8 w f g m n p q t u v s c a d e b=some r):Ct 299 [.cells [.mp 1 0,zH yE q .no,.mp 3 0,ai v],qB f 2 n p,qR g m,.cells [ai t,ai u],.cells [ai s,ai c,zH zC a .no],.cells [ai d,ai e,zH zC b .no]] [.mp 0 0,.mp 4 0,.mp 5 0] (ab r.1) [.cells [.mp 1 0,zH yE q .no,.mp 3 0,ai r.2.1],qB f 2 n p,qR g m,.cells [ai r.2.2.1,ai r.2.2.2],.cells [ai s,ai c,zH zC a .no],.cells [ai d,ai e,zH zC b .no]] 0:=⟨by
 unfold G8 at h
 obtain⟨r1,h2,h⟩:=zD h
 cases h
 exact tF ⟨func299,rfl⟩ 0 [0,1,2,3,4,5] (oD (dT b)<|oD (dT a)<|wS f g m n p<|oD (dE q)<|oC 2 [0,1,2,3] (zII h2) o0),⟨(lz rfl),(lz rfl),(lz rfl),tv⟩,(zA ⟨(lz rfl),⟨tv,dE _⟩,(lz rfl),tv,tv⟩ (vY (lz rfl) (zA ⟨tv,tv,tv⟩ (zA ⟨tv,tv,⟨tv,dT _⟩,tv⟩ (zA ⟨tv,tv,⟨tv,dT _⟩,tv⟩ zB))))),tv,(zA ⟨(lz rfl),dE _,(lz rfl),tv,tv⟩ (vQ (lz rfl) (zA ⟨tv,tv,tv⟩ (zA ⟨tv,tv,dT _,tv⟩ (zA ⟨tv,tv,dT _,tv⟩ zB)))))⟩
def G9(q:Nat)(f g:yD)(m:xS)(n p:zU)(t u:Tm)(v w s c:Int)(a:zW)(d e:Int)(b:zW):Option (Bool×Int×Int×Int):=
 cG q (xR.mk f g m n p)>>=fun r1=>
 iP q t 1048577 r1>>=fun r3=>
 if r3 then
 cG q (xR.mk f g m n p)>>=fun r6=>
 iP q u 1048577 r6>>=fun r8=>
 if r8 then
 e56 q (xR.mk f g m n p)>>=fun r11=>
 G8 q f g m n p r11 v w 0 s c a d e b>>=fun r13=>
 if r13.1 then
 some ((r13.2.1==0),r13.2.1,r13.2.2.1,r13.2.2.2)
 else
 none
 else
 none
 else
 none
theorem zIK{q f g m n p t u v w s c a d e b r}(h:G9 q f g m n p t u v w s c a d e b=some r):Ct 298 [qB f 1 n p,qR g m,.cells [ai v,ai w],.cells [ai s,ai c,zH zC a .no],.cells [ai d,ai e,zH zC b .no]] [.mp 0 0,xF t,xF u,.mp 2 0,.clo 299 [] [.mp 3 0,.mp 4 0]] (.tup [ab r.1,ai r.2.1]) [qB f 1 n p,qR g m,.cells [ai r.2.2.1,ai r.2.2.2],.cells [ai s,ai c,zH zC a .no],.cells [ai d,ai e,zH zC b .no]] 0:=⟨by
 unfold G9 at h
 obtain⟨r1,h2,h⟩:=zD h
 obtain⟨r3,h4,h⟩:=zD h
 have k:=oC 2 [0,1] (R5 h2) o0
 obtain⟨h5,h⟩:=xD h
 obtain⟨r6,h7,h⟩:=zD h
 obtain⟨r8,h9,h⟩:=zD h
 have k:=oC 2 [0,1] (R5 h7)<|oK 0 [] h5 (eU h4) k
 obtain⟨h10,h⟩:=xD h
 obtain⟨r11,h12,h⟩:=zD h
 obtain⟨r13,h14,h⟩:=zD h
 have k:=oC 1 [0,1] (c56 h12)<|oK 0 [] h10 (eU h9) k
 obtain⟨h15,h⟩:=xD h
 cases h
 exact tF ⟨func298,rfl⟩ 3 [0,1,2,3,4] (oD (dT b)<|oD (dT a)<|wS f g m n p<|oK 0 [7,0,1,2,3,4] h15 (zIJ h14) k),⟨(lz rfl),⟨tv,tv,⟨tv,dT _⟩,tv⟩,⟨tv,tv,⟨tv,dT _⟩,tv⟩,(lz rfl),⟨tv,⟨(lz rfl),(lz rfl),tv⟩⟩,tv⟩,(vY (lz rfl) (zA ⟨tv,tv,tv⟩ (zA ⟨tv,tv,⟨tv,dT _⟩,tv⟩ (zA ⟨tv,tv,⟨tv,dT _⟩,tv⟩ zB)))),⟨tv,tv,tv⟩,(vQ (lz rfl) (zA ⟨tv,tv,tv⟩ (zA ⟨tv,tv,dT _,tv⟩ (zA ⟨tv,tv,dT _,tv⟩ zB))))⟩
def zQg(e:Nat)(M:xR)(a b:Tm)(c d:Int):Option (Bool×Int×Int×Int):=
 G9 e M.l M.rl M.parts M.args M.own a b c d a.k a.n a.sub b.k b.n b.sub>>=fun r1=>
 some (r1.1,r1.2.1,r1.2.2.1,r1.2.2.2)
theorem zXH{e M a b c d r}(h:zQg e M a b c d=some r):Ct 195 [mB M 1,mR M,.cells [ai c,ai d]] [.mp 0 0,xF a,xF b,.mp 2 0] (.tup [ab r.1,ai r.2.1]) [mB M 1,mR M,.cells [ai r.2.2.1,ai r.2.2.2]] 0:=⟨by
 unfold zQg at h
 obtain⟨r1,h2,h⟩:=zD h
 cases h
 exact tF ⟨func195,rfl⟩ 2 [0,1,2] (tB M<|oC 2 [0,1,2,3,4] (zIK h2) o0),⟨(lz rfl),⟨tv,tv,⟨tv,dT _⟩,tv⟩,⟨tv,tv,⟨tv,dT _⟩,tv⟩,(lz rfl),tv⟩,(vY (lz rfl) (zA ⟨tv,tv,tv⟩ zB)),⟨tv,tv,tv⟩,(vQ (lz rfl) (zA ⟨tv,tv,tv⟩ zB))⟩
def zQf(m:Nat)(M:xR)(f g:Int)(a:zW)(b:zU)(c:zW)(d:yD)(e:Int):Option (Tm×Int):=
 if decide (e≥(a.length:Int))then
 none
 else
 yG a (xE ((xE ((a.length:Int)-1))-e))>>=fun x2=>
 zFQ m x2 (xE (e+1))>>=fun r4=>
 some (r4.1,r4.2)
theorem zXI{m M f g a b c d e r}(h:zQf m M f g a b c d e=some r):Ct 227 [.cells [.mp 1 0,.mp 3 0,zH zC a .no,zH zS b .no,zH zC c .no,zH yE d .no],mB M 2,mR M,.cells [ai f,ai g]] [.mp 0 0,ai e] (.tup [xF r.1,ai r.2]) [.cells [.mp 1 0,.mp 3 0,zH zC a .no,zH zS b .no,zH zC c .no,zH yE d .no],mB M 2,mR M,.cells [ai f,ai g]] 0:=⟨by
 unfold zQf at h
 obtain⟨h1,h⟩:=zT h
 obtain⟨x2,h3,h⟩:=zD h
 obtain⟨r4,h5,h⟩:=zD h
 cases h
 exact tF ⟨func227,rfl⟩ 3 [0,1,2,3] (oD (dT r4.1.sub)<|tB M<|oD (dE d)<|oD (dT c)<|oD (dI b)<|oD (dT a)<|oC 2 [] (zMx h5)<|oA 5 (wN (o:=.no) h3)<|oB 2 h1 o0),⟨(lz rfl),tv,tv⟩,(zA ⟨(lz rfl),(lz rfl),⟨tv,dT _⟩,⟨tv,dI _⟩,⟨tv,dT _⟩,⟨tv,dE _⟩,tv⟩ (vY (lz rfl) (zA ⟨tv,tv,tv⟩ zB))),⟨⟨tv,tv,dT _,tv⟩,tv,tv⟩,(zA ⟨(lz rfl),(lz rfl),dT _,dI _,dT _,dE _,tv⟩ (vQ (lz rfl) (zA ⟨tv,tv,tv⟩ zB)))⟩
def bQ:Nat->xR->Int->Int->zW->zU->zW->yD->Int->Int->Option (Tm×Int)
 |0,_,_,_,_,_,_,_,_,_=>none
 |g+1,M,e,f,a,b,c,d,m,n=>
 if decide (n≥0)then
 yG b n>>=fun x2=>
 if x2==m then
 yG c n>>=fun x5=>
 zFQ g x5 (a.length:Int)>>=fun r7=>
 some (r7.1,r7.2)
 else
 bQ g M e f a b c d m (xE (n-1))
 else
 none
def zQe(g:Nat)(M:xR)(e f:Int)(a:zW)(b:zU)(c:zW)(d:yD)(m:Int):Option (Tm×Int):=
 bQ g M e f a b c d m (xE ((b.length:Int)-1))
theorem zMm:∀g:Nat,(∀ {M e f a b c d m n r},bQ g M e f a b c d m n=some r->(∀j,dL 4 (pt 949 f228) (sp j 46 0 [(0,.mp 0 0),(1,ai m),(4,.mp 4 0),(6,ai n)]) (⟨[(0,.cells [.mp 1 0,.mp 3 0,zH zC a .no,zH zS b .no,zH zC c .no,zH yE d .no]),(1,mB M 2),(2,mR M),(3,.cells [ai e,ai f]),(4,.cells [ai 0,ai 0,zH zC ([]:zW) .nl])],5,[],0,[]⟩) (fQ 4 (nQ 4 f228 (.tup [xF r.1,ai r.2]) [.cells [.mp 1 0,.mp 3 0,zH zC a .no,zH zS b .no,zH zC c .no,zH yE d .no],mB M 2,mR M,.cells [ai e,ai f]] 0) [.blk 0,.seq (pt 15 f228)]))):=by
 intro g
 induction g with
 |zero=>
  exact fun h=>nn h
 |succ g ih=>
  intro M e f a b c d m n r h
  rw[bQ]at h
  have z {os ob} (k:Oz os ob):=tB M<|oD (dE d)<|oD (dT c)<|oD (dI b)<|oD (dT a)<|k
  obtain⟨h1,h⟩:=xD h
  obtain⟨x2,h3,h⟩:=zD h
  have k:=oA 1 (sU (o:=.no) h3)<|oB 0 h1 o0
  obtain⟨h4,h⟩|⟨h4,h⟩:=xA h
  obtain⟨x5,h6,h⟩:=zD h
  obtain⟨r7,h8,h⟩:=zD h
  cases h
  exact fun j=>lF 3 [0,1,2,3] (oD (dT r7.1.sub)<|z<|oC 3 [] (zMx h8)<|oA 1 (wN (o:=.no) h6)<|oB 1 h4 k)
  exact fun j=>lH 1 [] [0,1,2,3,4] [] [0,1,4,6] (oD (dT ([]:zW))<|z<|oB 1 h4 k) (ih h)
theorem zXJ{g M e f a b c d m r}(h:zQe g M e f a b c d m=some r):Ct 228 [.cells [.mp 1 0,.mp 3 0,zH zC a .no,zH zS b .no,zH zC c .no,zH yE d .no],mB M 2,mR M,.cells [ai e,ai f]] [.mp 0 0,ai m] (.tup [xF r.1,ai r.2]) [.cells [.mp 1 0,.mp 3 0,zH zC a .no,zH zS b .no,zH zC c .no,zH yE d .no],mB M 2,mR M,.cells [ai e,ai f]] 0:=⟨by
 unfold zQe at h
 exact tH ⟨func228,rfl⟩ 3 [] [0,1,2,3,4] [] [0,1,4,6] (oD (dT ([]:zW))<|tB M<|oD (dE d)<|oD (dT c)<|oD (dI b)<|oD (dT a) o0) (zMm _ h),⟨(lz rfl),tv,tv⟩,(zA ⟨(lz rfl),(lz rfl),⟨tv,dT _⟩,⟨tv,dI _⟩,⟨tv,dT _⟩,⟨tv,dE _⟩,tv⟩ (vY (lz rfl) (zA ⟨tv,tv,tv⟩ zB))),⟨⟨tv,tv,dT _,tv⟩,tv,tv⟩,(zA ⟨(lz rfl),(lz rfl),dT _,dI _,dT _,dE _,tv⟩ (vQ (lz rfl) (zA ⟨tv,tv,tv⟩ zB)))⟩
def H2(w:Nat)(f g:yD)(m:xS)(n p:zU)(q:yD)(t u v s c:Int)(a:zW)(d e:Int)(b:zW):Option (Bool×Int×Int×Int):=
 kB w f g m n p q t u v (Tm.mk s c a) (Tm.mk d e b)>>=fun r1=>
 some (r1.1,r1.2.1,r1.2.2.1,r1.2.2.2)
theorem zBr{w f g m n p q t u v s c a d e b r}(h:H2 w f g m n p q t u v s c a d e b=some r):Ct 388 [.cells [.mp 1 0,zH yE q .no,.mp 3 0,ai v],qB f 2 n p,qR g m,.cells [ai t,ai u],.cells [ai s,ai c,zH zC a .no],.cells [ai d,ai e,zH zC b .no]] [.mp 0 0,.mp 4 0,.mp 5 0] (ab r.1) [.cells [.mp 1 0,zH yE q .no,.mp 3 0,ai r.2.1],qB f 2 n p,qR g m,.cells [ai r.2.2.1,ai r.2.2.2],.cells [ai s,ai c,zH zC a .no],.cells [ai d,ai e,zH zC b .no]] 0:=⟨by
 unfold H2 at h
 obtain⟨r1,h2,h⟩:=zD h
 cases h
 exact tF ⟨func388,rfl⟩ 0 [0,1,2,3,4,5] (oD (dT b)<|oD (dT a)<|wS f g m n p<|oD (dE q)<|oC 2 [0,1,2,3] (zIF h2) o0),⟨(lz rfl),(lz rfl),(lz rfl),tv⟩,(zA ⟨(lz rfl),⟨tv,dE _⟩,(lz rfl),tv,tv⟩ (vY (lz rfl) (zA ⟨tv,tv,tv⟩ (zA ⟨tv,tv,⟨tv,dT _⟩,tv⟩ (zA ⟨tv,tv,⟨tv,dT _⟩,tv⟩ zB))))),tv,(zA ⟨(lz rfl),dE _,(lz rfl),tv,tv⟩ (vQ (lz rfl) (zA ⟨tv,tv,tv⟩ (zA ⟨tv,tv,dT _,tv⟩ (zA ⟨tv,tv,dT _,tv⟩ zB)))))⟩
def H3(q:Nat)(f g:yD)(m:xS)(n p:zU)(t u:Tm)(v w s c:Int)(a:zW)(d e:Int)(b:zW):Option (Bool×Int×Int×Int):=
 cG q (xR.mk f g m n p)>>=fun r1=>
 iP q t 1048577 r1>>=fun r3=>
 if r3 then
 cG q (xR.mk f g m n p)>>=fun r6=>
 iP q u 1048577 r6>>=fun r8=>
 if r8 then
 e56 q (xR.mk f g m n p)>>=fun r11=>
 H2 q f g m n p r11 v w 0 s c a d e b>>=fun r13=>
 if r13.1 then
 some ((r13.2.1==0),r13.2.1,r13.2.2.1,r13.2.2.2)
 else
 some (false,r13.2.1,r13.2.2.1,r13.2.2.2)
 else
 none
 else
 none
theorem zBq:Qf 298 f298:=⟨func298,rfl⟩
theorem zIL{q f g m n p t u v w s c a d e b r}(h:H3 q f g m n p t u v w s c a d e b=some r):Ct 298 [qB f 1 n p,qR g m,.cells [ai v,ai w],.cells [ai s,ai c,zH zC a .no],.cells [ai d,ai e,zH zC b .no]] [.mp 0 0,xF t,xF u,.mp 2 0,.clo 388 [] [.mp 3 0,.mp 4 0]] (.tup [ab r.1,ai r.2.1]) [qB f 1 n p,qR g m,.cells [ai r.2.2.1,ai r.2.2.2],.cells [ai s,ai c,zH zC a .no],.cells [ai d,ai e,zH zC b .no]] 0:=⟨by
 unfold H3 at h
 obtain⟨r1,h2,h⟩:=zD h
 obtain⟨r3,h4,h⟩:=zD h
 have k:=oC 2 [0,1] (R5 h2) o0
 obtain⟨h5,h⟩:=xD h
 obtain⟨r6,h7,h⟩:=zD h
 obtain⟨r8,h9,h⟩:=zD h
 have k:=oC 2 [0,1] (R5 h7)<|oK 0 [] h5 (eU h4) k
 obtain⟨h10,h⟩:=xD h
 obtain⟨r11,h12,h⟩:=zD h
 obtain⟨r13,h14,h⟩:=zD h
 have k:=oC 1 [0,1] (c56 h12)<|oK 0 [] h10 (eU h9) k
 obtain⟨h15,h⟩|⟨h15,h⟩:=xA h
 cases h
 exact tF zBq 3 [0,1,2,3,4] (oD (dT b)<|oD (dT a)<|wS f g m n p<|oK 0 [7,0,1,2,3,4] h15 (zBr h14) k)
 cases h
 exact tF zBq 1 [0,1,2,3,4] (oD (dT b)<|oD (dT a)<|wS f g m n p<|oK 0 [7,0,1,2,3,4] h15 (zBr h14) k),⟨(lz rfl),⟨tv,tv,⟨tv,dT _⟩,tv⟩,⟨tv,tv,⟨tv,dT _⟩,tv⟩,(lz rfl),⟨tv,⟨(lz rfl),(lz rfl),tv⟩⟩,tv⟩,(vY (lz rfl) (zA ⟨tv,tv,tv⟩ (zA ⟨tv,tv,⟨tv,dT _⟩,tv⟩ (zA ⟨tv,tv,⟨tv,dT _⟩,tv⟩ zB)))),⟨tv,tv,tv⟩,(vQ (lz rfl) (zA ⟨tv,tv,tv⟩ (zA ⟨tv,tv,dT _,tv⟩ (zA ⟨tv,tv,dT _,tv⟩ zB))))⟩
def zMl(e:Nat)(M:xR)(a b:Tm)(c d:Int):Option (Bool×Int×Int×Int):=
 H3 e M.l M.rl M.parts M.args M.own a b c d a.k a.n a.sub b.k b.n b.sub>>=fun r1=>
 some (r1.1,r1.2.1,r1.2.2.1,r1.2.2.2)
theorem zUB{e M a b c d r}(h:zMl e M a b c d=some r):Ct 296 [mB M 1,mR M,.cells [ai c,ai d]] [.mp 0 0,xF a,xF b,.mp 2 0] (.tup [ab r.1,ai r.2.1]) [mB M 1,mR M,.cells [ai r.2.2.1,ai r.2.2.2]] 0:=⟨by
 unfold zMl at h
 obtain⟨r1,h2,h⟩:=zD h
 cases h
 exact tF ⟨func296,rfl⟩ 2 [0,1,2] (tB M<|oC 2 [0,1,2,3,4] (zIL h2) o0),⟨(lz rfl),⟨tv,tv,⟨tv,dT _⟩,tv⟩,⟨tv,tv,⟨tv,dT _⟩,tv⟩,(lz rfl),tv⟩,(vY (lz rfl) (zA ⟨tv,tv,tv⟩ zB)),⟨tv,tv,tv⟩,(vQ (lz rfl) (zA ⟨tv,tv,tv⟩ zB))⟩
def zMk(m:Nat)(M:xR)(f g:Int)(a:zW)(b:zU)(c:zW)(d:yD)(e:Tm):Option (zW×zU×zW×yD):=
 C4 a 0 (a.length:Int)>>=fun x1=>
 yV 40 x1 [e]>>=fun l3=>
 some (l3,b,c,d)
theorem zUC{m M f g a b c d e r}(h:zMk m M f g a b c d e=some r):Ct 297 [.cells [.mp 1 0,.mp 3 0,zH zC a .no,zH zS b .no,zH zC c .no,zH yE d .no],mB M 2,mR M,.cells [ai f,ai g]] [.mp 0 0,xF e] (.mp 4 0) [.cells [.mp 1 0,.mp 3 0,zH zC a .no,zH zS b .no,zH zC c .no,zH yE d .no],mB M 2,mR M,.cells [ai f,ai g],.cells [.mp 1 0,.mp 3 0,zH zC r.1 .no,zH zS r.2.1 .no,zH zC r.2.2.1 .no,zH yE r.2.2.2 .no]] 0:=⟨by
 unfold zMk at h
 obtain⟨x1,h2,h⟩:=zD h
 obtain⟨l3,h4,h⟩:=zD h
 cases h
 exact tF ⟨func297,rfl⟩ 1 [0,1,2,3,5] (oD (dE d)<|oD (dT c)<|oD (dI b)<|oD (dT l3)<|tB M<|oD (dE d)<|oD (dT c)<|oD (dI b)<|oD (dT a)<|oP 0 (vO h4 (by simp))<|oS 1 (xL xU [e])<|oA 7 (zAB (o:=.no) h2) o0),⟨(lz rfl),⟨tv,tv,⟨tv,dT _⟩,tv⟩,tv⟩,(zA ⟨(lz rfl),(lz rfl),⟨tv,dT _⟩,⟨tv,dI _⟩,⟨tv,dT _⟩,⟨tv,dE _⟩,tv⟩ (vY (lz rfl) (zA ⟨tv,tv,tv⟩ zB))),(lz rfl),(zA ⟨(lz rfl),(lz rfl),dT _,dI _,dT _,dE _,tv⟩ (vQ (lz rfl) (zA ⟨tv,tv,tv⟩ (zA ⟨(lz rfl),(lz rfl),dT _,dI _,dT _,dE _,tv⟩ zB))))⟩
mutual
def e90:Nat->xR->Int->Int->zW->zU->zW->yD->Tm->Option (Int×Int×Int×Int)
 |0,_,_,_,_,_,_,_,_=>none
 |m+1,M,f,g,a,b,c,d,e=>
 zIM m M f g a b c d e>>=fun r1=>
 if r1.2.1 != 0 then
 none
 else
 w7 m M r1.1 r1.2.2.1 r1.2.2.2>>=fun r4=>
 if r4.2.1 != 0 then
 none
 else
 if r4.1.k != 2 then
 none
 else
 some (r4.1.n,0,r4.2.2.1,r4.2.2.2)
def zFX:Nat->xR->Int->Int->zW->zU->zW->yD->Tm->Tm->Option (Int×Int×Int)
 |0,_,_,_,_,_,_,_,_,_=>none
 |m+1,M,f,g,a,b,c,d,e,p=>
 if e.k==4 then
 w7 m M p f g>>=fun r2=>
 if r2.2.1 != 0 then
 none
 else
 if r2.1.k==3 then
 zQc m M r2.2.2.1 r2.2.2.2 a b c d e r2.1>>=fun r6=>
 some (r6.1,r6.2.1,r6.2.2)
 else
 none
 else
 zIM m M f g a b c d e>>=fun r16=>
 if r16.2.1 != 0 then
 none
 else
 zQg m M r16.1 p r16.2.2.1 r16.2.2.2>>=fun r19=>
 if r19.1 then
 if r19.2.1==0 then
 some (r19.2.1,r19.2.2.1,r19.2.2.2)
 else
 none
 else
 none
def zIM:Nat->xR->Int->Int->zW->zU->zW->yD->Tm->Option (Tm×Int×Int×Int)
 |0,_,_,_,_,_,_,_,_=>none
 |m+1,M,f,g,a,b,c,d,e=>
 if e.k==1 then
 zQf m M f g a b c d e.n>>=fun r2=>
 some (r2.1,r2.2,f,g)
 else
 if e.k==8 then
 zQe m M f g a b c d e.n>>=fun r5=>
 some (r5.1,r5.2,f,g)
 else
 if e.k==6 then
 yG d e.n>>=fun x8=>
 some (x8.type,0,f,g)
 else
 if e.k==7 then
 none
 else
 if e.k==2 then
 if decide (e.n≥7)then
 none
 else
 zIk m (xE (e.n+1))>>=fun r17=>
 some (r17,0,f,g)
 else
 if e.k==3 then
 zQb m M f g a b c d e>>=fun r20=>
 some (r20.1,r20.2.1,r20.2.2.1,r20.2.2.2)
 else
 if e.k==4 then
 none
 else
 zQa m M f g a b c d e>>=fun r25=>
 some (r25.1,r25.2.1,r25.2.2.1,r25.2.2.2)
def zQc:Nat->xR->Int->Int->zW->zU->zW->yD->Tm->Tm->Option (Int×Int×Int)
 |0,_,_,_,_,_,_,_,_,_=>none
 |m+1,M,f,g,a,b,c,d,e,p=>
 yG e.sub 0>>=fun x1=>
 e90 m M f g a b c d x1>>=fun r3=>
 if r3.2.1 != 0 then
 none
 else
 yG p.sub 0>>=fun x6=>
 zMl m M x1 x6 r3.2.2.1 r3.2.2.2>>=fun r8=>
 if r8.1 then
 if r8.2.1 != 0 then
 none
 else
 zMk m M r8.2.2.1 r8.2.2.2 a b c d x6>>=fun r12=>
 yG e.sub 1>>=fun x14=>
 yG p.sub 1>>=fun x16=>
 zFX m M r8.2.2.1 r8.2.2.2 r12.1 r12.2.1 r12.2.2.1 r12.2.2.2 x14 x16>>=fun r18=>
 some (r18.1,r18.2.1,r18.2.2)
 else
 none
def zQb:Nat->xR->Int->Int->zW->zU->zW->yD->Tm->Option (Tm×Int×Int×Int)
 |0,_,_,_,_,_,_,_,_=>none
 |m+1,M,f,g,a,b,c,d,e=>
 yG e.sub 0>>=fun x1=>
 e90 m M f g a b c d x1>>=fun r3=>
 if r3.2.1 != 0 then
 none
 else
 zMk m M r3.2.2.1 r3.2.2.2 a b c d x1>>=fun r6=>
 yG e.sub 1>>=fun x8=>
 e90 m M r3.2.2.1 r3.2.2.2 r6.1 r6.2.1 r6.2.2.1 r6.2.2.2 x8>>=fun r10=>
 if r10.2.1 != 0 then
 none
 else
 zIk m (X4 r3.1 r10.1)>>=fun r13=>
 some (r13,0,r10.2.2.1,r10.2.2.2)
def zQa:Nat->xR->Int->Int->zW->zU->zW->yD->Tm->Option (Tm×Int×Int×Int)
 |0,_,_,_,_,_,_,_,_=>none
 |m+1,M,f,g,a,b,c,d,e=>
 zAZ m f g>>=fun r1=>
 if r1.1 != 0 then
 none
 else
 yG e.sub 0>>=fun x4=>
 zIM m M r1.2.1 r1.2.2 a b c d x4>>=fun r6=>
 if r6.2.1 != 0 then
 none
 else
 w7 m M r6.1 r6.2.2.1 r6.2.2.2>>=fun r9=>
 if r9.2.1 != 0 then
 none
 else
 if r9.1.k != 3 then
 none
 else
 yG e.sub 1>>=fun x13=>
 yG r9.1.sub 0>>=fun x15=>
 zFX m M r9.2.2.1 r9.2.2.2 a b c d x13 x15>>=fun r17=>
 if r17.1 != 0 then
 none
 else
 yG r9.1.sub 1>>=fun x20=>
 zMv m x20 x13>>=fun r22=>
 some (r22.1,r22.2,r17.2.1,r17.2.2)
end
abbrev K90 (M:xR) (f g:Int) (a:zW) (b:zU) (c:zW) (d:yD) (e:Tm) (r:Int×Int×Int×Int) (C:Cf):Prop:=C 90 [.cells [.mp 1 0,.mp 3 0,zH zC a .no,zH zS b .no,zH zC c .no,zH yE d .no],mB M 2,mR M,.cells [ai f,ai g]] [.mp 0 0,xF e] (.tup [ai r.1,ai r.2.1]) [.cells [.mp 1 0,.mp 3 0,zH zC a .no,zH zS b .no,zH zC c .no,zH yE d .no],mB M 2,mR M,.cells [ai r.2.2.1,ai r.2.2.2]] 0
abbrev zMj (M:xR) (f g:Int) (a:zW) (b:zU) (c:zW) (d:yD) (e p:Tm) (r:Int×Int×Int) (C:Cf):Prop:=C 121 [.cells [.mp 1 0,.mp 3 0,zH zC a .no,zH zS b .no,zH zC c .no,zH yE d .no],mB M 2,mR M,.cells [ai f,ai g]] [.mp 0 0,xF e,xF p] (ai r.1) [.cells [.mp 1 0,.mp 3 0,zH zC a .no,zH zS b .no,zH zC c .no,zH yE d .no],mB M 2,mR M,.cells [ai r.2.1,ai r.2.2]] 0
abbrev zQA (M:xR) (f g:Int) (a:zW) (b:zU) (c:zW) (d:yD) (e:Tm) (r:Tm×Int×Int×Int) (C:Cf):Prop:=C 148 [.cells [.mp 1 0,.mp 3 0,zH zC a .no,zH zS b .no,zH zC c .no,zH yE d .no],mB M 2,mR M,.cells [ai f,ai g]] [.mp 0 0,xF e] (.tup [xF r.1,ai r.2.1]) [.cells [.mp 1 0,.mp 3 0,zH zC a .no,zH zS b .no,zH zC c .no,zH yE d .no],mB M 2,mR M,.cells [ai r.2.2.1,ai r.2.2.2]] 0
abbrev zXK (M:xR) (f g:Int) (a:zW) (b:zU) (c:zW) (d:yD) (e p:Tm) (r:Int×Int×Int) (C:Cf):Prop:=C 194 [.cells [.mp 1 0,.mp 3 0,zH zC a .no,zH zS b .no,zH zC c .no,zH yE d .no],mB M 2,mR M,.cells [ai f,ai g]] [.mp 0 0,xF e,xF p] (ai r.1) [.cells [.mp 1 0,.mp 3 0,zH zC a .no,zH zS b .no,zH zC c .no,zH yE d .no],mB M 2,mR M,.cells [ai r.2.1,ai r.2.2]] 0
abbrev zXL (M:xR) (f g:Int) (a:zW) (b:zU) (c:zW) (d:yD) (e:Tm) (r:Tm×Int×Int×Int) (C:Cf):Prop:=C 230 [.cells [.mp 1 0,.mp 3 0,zH zC a .no,zH zS b .no,zH zC c .no,zH yE d .no],mB M 2,mR M,.cells [ai f,ai g]] [.mp 0 0,xF e] (.tup [xF r.1,ai r.2.1]) [.cells [.mp 1 0,.mp 3 0,zH zC a .no,zH zS b .no,zH zC c .no,zH yE d .no],mB M 2,mR M,.cells [ai r.2.2.1,ai r.2.2.2]] 0
abbrev zXM (M:xR) (f g:Int) (a:zW) (b:zU) (c:zW) (d:yD) (e:Tm) (r:Tm×Int×Int×Int) (C:Cf):Prop:=C 232 [.cells [.mp 1 0,.mp 3 0,zH zC a .no,zH zS b .no,zH zC c .no,zH yE d .no],mB M 2,mR M,.cells [ai f,ai g]] [.mp 0 0,xF e] (.tup [xF r.1,ai r.2.1]) [.cells [.mp 1 0,.mp 3 0,zH zC a .no,zH zS b .no,zH zC c .no,zH yE d .no],mB M 2,mR M,.cells [ai r.2.2.1,ai r.2.2.2]] 0
theorem zUD:Qf 121 f121:=⟨func121,rfl⟩
theorem zUE{M f g a b c d e p r}(h:zMj M f g a b c d e p r Ci):zMj M f g a b c d e p r Ct:=⟨h,⟨(lz rfl),⟨tv,tv,⟨tv,dT _⟩,tv⟩,⟨tv,tv,⟨tv,dT _⟩,tv⟩,tv⟩,(zA ⟨(lz rfl),(lz rfl),⟨tv,dT _⟩,⟨tv,dI _⟩,⟨tv,dT _⟩,⟨tv,dE _⟩,tv⟩ (vY (lz rfl) (zA ⟨tv,tv,tv⟩ zB))),tv,(zA ⟨(lz rfl),(lz rfl),dT _,dI _,dT _,dE _,tv⟩ (vQ (lz rfl) (zA ⟨tv,tv,tv⟩ zB)))⟩
theorem zFY:Qf 148 f148:=⟨func148,rfl⟩
theorem zFZ{M f g a b c d e r}(h:zQA M f g a b c d e r Ci):zQA M f g a b c d e r Ct:=⟨h,⟨(lz rfl),⟨tv,tv,⟨tv,dT _⟩,tv⟩,tv⟩,(zA ⟨(lz rfl),(lz rfl),⟨tv,dT _⟩,⟨tv,dI _⟩,⟨tv,dT _⟩,⟨tv,dE _⟩,tv⟩ (vY (lz rfl) (zA ⟨tv,tv,tv⟩ zB))),⟨⟨tv,tv,dT _,tv⟩,tv,tv⟩,(zA ⟨(lz rfl),(lz rfl),dT _,dI _,dT _,dE _,tv⟩ (vQ (lz rfl) (zA ⟨tv,tv,tv⟩ zB)))⟩
theorem tV:∀m:Nat,(∀ {M f g a b c d e r},e90 m M f g a b c d e=some r->K90 M f g a b c d e r Ct)∧(∀ {M f g a b c d e p r},zFX m M f g a b c d e p=some r->zMj M f g a b c d e p r Ct)∧(∀ {M f g a b c d e r},zIM m M f g a b c d e=some r->zQA M f g a b c d e r Ct)∧(∀ {M f g a b c d e p r},zQc m M f g a b c d e p=some r->zXK M f g a b c d e p r Ct)∧(∀ {M f g a b c d e r},zQb m M f g a b c d e=some r->zXL M f g a b c d e r Ct)∧(∀ {M f g a b c d e r},zQa m M f g a b c d e=some r->zXM M f g a b c d e r Ct):=by
 intro m
 induction m with
 |zero=>
  exact⟨fun h=>nn h,fun h=>nn h,fun h=>nn h,fun h=>nn h,fun h=>nn h,fun h=>nn h⟩
 |succ m ih=>
  obtain⟨zQB,zNY,zIN,zUF,zUG,zUH⟩:=ih
  refine⟨?_,?_,?_,?_,?_,?_⟩
  intro M f g a b c d e r h
  rw[e90]at h
  obtain⟨r1,h2,h⟩:=zD h
  have k:=oC 1 [0,1,2,3] (zIN h2) o0
  obtain⟨h3,h⟩:=zT h
  obtain⟨r4,h5,h⟩:=zD h
  have k:=oC 3 [1,2,3] (zDu h5)<|oB 3 h3 k
  obtain⟨h6,h⟩:=zT h
  have k:=oB 3 h6 k
  obtain⟨h7,h⟩:=zT h
  cases h
  exact⟨tF ⟨func90,rfl⟩ 1 [0,1,2,3] (tB M<|oD (dE d)<|oD (dT c)<|oD (dI b)<|oD (dT a)<|oB 1 h7 k),⟨(lz rfl),⟨tv,tv,⟨tv,dT _⟩,tv⟩,tv⟩,(zA ⟨(lz rfl),(lz rfl),⟨tv,dT _⟩,⟨tv,dI _⟩,⟨tv,dT _⟩,⟨tv,dE _⟩,tv⟩ (vY (lz rfl) (zA ⟨tv,tv,tv⟩ zB))),⟨tv,tv,tv⟩,(zA ⟨(lz rfl),(lz rfl),dT _,dI _,dT _,dE _,tv⟩ (vQ (lz rfl) (zA ⟨tv,tv,tv⟩ zB)))⟩
  intro M f g a b c d e p r h
  rw[zFX]at h
  have z {os ob} (k:Oz os ob):=tB M<|oD (dE d)<|oD (dT c)<|oD (dI b)<|oD (dT a)<|k
  obtain⟨h1,h⟩|⟨h1,h⟩:=xA h
  obtain⟨r2,h3,h⟩:=zD h
  have k:=oC 3 [1,2,3] (zDu h3)<|oB 1 h1 o0
  obtain⟨h4,h⟩:=zT h
  have k:=oB 3 h4 k
  obtain⟨h5,h⟩:=xD h
  obtain⟨r6,h7,h⟩:=zD h
  cases h
  exact zUE (tF zUD 0 [0,1,2,3] (z<|oC 2 [0,1,2,3] (zUF h7)<|oB 1 h5 k))
  obtain⟨r16,h17,h⟩:=zD h
  have k:=oC 1 [0,1,2,3] (zIN h17)<|oB 1 h1 o0
  obtain⟨h18,h⟩:=zT h
  obtain⟨r19,h20,h⟩:=zD h
  have k:=oC 4 [1,2,3] (zXH h20)<|oB 3 h18 k
  obtain⟨h21,h⟩:=xD h
  have k:=oB 0 h21 k
  obtain⟨h22,h⟩:=xD h
  cases h
  exact zUE (tF zUD 1 [0,1,2,3] (z<|oB 1 h22 k))
  intro M f g a b c d e r h
  rw[zIM]at h
  have z {os ob} (k:Oz os ob):=tB M<|oD (dE d)<|oD (dT c)<|oD (dI b)<|oD (dT a)<|k
  obtain⟨h1,h⟩|⟨h1,h⟩:=xA h
  obtain⟨r2,h3,h⟩:=zD h
  cases h
  exact zFZ (tF zFY 3 [0,1,2,3] (oD (dT r2.1.sub)<|z<|oC 1 [0,1,2,3] (zXI h3)<|oB 1 h1 o0))
  have k:=oB 1 h1 o0
  obtain⟨h4,h⟩|⟨h4,h⟩:=xA h
  obtain⟨r5,h6,h⟩:=zD h
  cases h
  exact zFZ (tF zFY 3 [0,1,2,3] (oD (dT r5.1.sub)<|z<|oC 1 [0,1,2,3] (zXJ h6)<|oB 0 h4 k))
  have k:=oB 0 h4 k
  obtain⟨h7,h⟩|⟨h7,h⟩:=xA h
  obtain⟨x8,h9,h⟩:=zD h
  cases h
  exact zFZ (tF zFY 2 [0,1,2,3] (oD (dT x8.type.sub)<|z<|oA 2 (vF (o:=.no) h9)<|oB 0 h7 k))
  have k:=oB 0 h7 k
  obtain⟨h10,h⟩:=zT h
  have k:=oB 0 h10 k
  obtain⟨h15,h⟩|⟨h15,h⟩:=xA h
  have k:=oB 0 h15 k
  obtain⟨h16,h⟩:=zT h
  obtain⟨r17,h18,h⟩:=zD h
  cases h
  exact zFZ (tF zFY 1 [0,1,2,3] (oD (dT r17.sub)<|z<|oC 2 [] (zQs h18)<|oB 1 h16 k))
  have k:=oB 0 h15 k
  obtain⟨h19,h⟩|⟨h19,h⟩:=xA h
  obtain⟨r20,h21,h⟩:=zD h
  cases h
  exact zFZ (tF zFY 3 [0,1,2,3] (oD (dT r20.1.sub)<|z<|oC 1 [0,1,2,3] (zUG h21)<|oB 0 h19 k))
  have k:=oB 0 h19 k
  obtain⟨h22,h⟩:=zT h
  obtain⟨r25,h26,h⟩:=zD h
  cases h
  exact zFZ (tF zFY 3 [0,1,2,3] (oD (dT r25.1.sub)<|z<|oC 1 [0,1,2,3] (zUH h26)<|oB 0 h22 k))
  intro M f g a b c d e p r h
  rw[zQc]at h
  obtain⟨x1,h2,h⟩:=zD h
  obtain⟨r3,h4,h⟩:=zD h
  have k:=oC 1 [0,1,2,3] (zQB h4)<|oA 1 (wN (o:=.no) h2) o0
  obtain⟨h5,h⟩:=zT h
  obtain⟨x6,h7,h⟩:=zD h
  obtain⟨r8,h9,h⟩:=zD h
  have k:=oC 2 [1,2,3] (zUB h9)<|oA 2 (wN (o:=.no) h7)<|oA 2 (wN (o:=.no) h2)<|oB 2 h5 k
  obtain⟨h10,h⟩:=xD h
  have k:=oB 0 h10 k
  obtain⟨h11,h⟩:=zT h
  obtain⟨r12,h13,h⟩:=zD h
  obtain⟨x14,h15,h⟩:=zD h
  obtain⟨x16,h17,h⟩:=zD h
  obtain⟨r18,h19,h⟩:=zD h
  cases h
  exact⟨tF ⟨func194,rfl⟩ 0 [0,1,2,3] (tB M<|oD (dE d)<|oD (dT c)<|oD (dI b)<|oD (dT a)<|oC 1 [6,1,2,3] (zNY h19)<|oA 0 (wN (o:=.no) h17)<|rF 1<|oA 0 (wN (o:=.no) h15)<|rF 0<|oC 1 [0,1,2,3] (zUC h13)<|oA 2 (wN (o:=.no) h7)<|oB 1 h11 k),⟨(lz rfl),⟨tv,tv,⟨tv,dT _⟩,tv⟩,⟨tv,tv,⟨tv,dT _⟩,tv⟩,tv⟩,(zA ⟨(lz rfl),(lz rfl),⟨tv,dT _⟩,⟨tv,dI _⟩,⟨tv,dT _⟩,⟨tv,dE _⟩,tv⟩ (vY (lz rfl) (zA ⟨tv,tv,tv⟩ zB))),tv,(zA ⟨(lz rfl),(lz rfl),dT _,dI _,dT _,dE _,tv⟩ (vQ (lz rfl) (zA ⟨tv,tv,tv⟩ zB)))⟩
  intro M f g a b c d e r h
  rw[zQb]at h
  obtain⟨x1,h2,h⟩:=zD h
  obtain⟨r3,h4,h⟩:=zD h
  have k:=oC 1 [0,1,2,3] (zQB h4)<|oA 1 (wN (o:=.no) h2) o0
  obtain⟨h5,h⟩:=zT h
  obtain⟨r6,h7,h⟩:=zD h
  obtain⟨x8,h9,h⟩:=zD h
  obtain⟨r10,h11,h⟩:=zD h
  have k:=oC 1 [6,1,2,3] (zQB h11)<|oA 0 (wN (o:=.no) h9)<|rF 0<|oC 1 [0,1,2,3] (zUC h7)<|oA 1 (wN (o:=.no) h2)<|oB 2 h5 k
  obtain⟨h12,h⟩:=zT h
  obtain⟨r13,h14,h⟩:=zD h
  cases h
  exact⟨tF ⟨func230,rfl⟩ 1 [0,1,2,3] (oD (dT r13.sub)<|tB M<|oD (dE d)<|oD (dT c)<|oD (dI b)<|oD (dT a)<|oC 1 [] (zQs h14)<|oB 2 h12 k),⟨(lz rfl),⟨tv,tv,⟨tv,dT _⟩,tv⟩,tv⟩,(zA ⟨(lz rfl),(lz rfl),⟨tv,dT _⟩,⟨tv,dI _⟩,⟨tv,dT _⟩,⟨tv,dE _⟩,tv⟩ (vY (lz rfl) (zA ⟨tv,tv,tv⟩ zB))),⟨⟨tv,tv,dT _,tv⟩,tv,tv⟩,(zA ⟨(lz rfl),(lz rfl),dT _,dI _,dT _,dE _,tv⟩ (vQ (lz rfl) (zA ⟨tv,tv,tv⟩ zB)))⟩
  intro M f g a b c d e r h
  rw[zQa]at h
  obtain⟨r1,h2,h⟩:=zD h
  have k:=oC 1 [3] (zFP h2) o0
  obtain⟨h3,h⟩:=zT h
  obtain⟨x4,h5,h⟩:=zD h
  obtain⟨r6,h7,h⟩:=zD h
  have k:=oC 1 [0,1,2,3] (zIN h7)<|oA 1 (wN (o:=.no) h5)<|oB 0 h3 k
  obtain⟨h8,h⟩:=zT h
  obtain⟨r9,h10,h⟩:=zD h
  have k:=oC 3 [1,2,3] (zDu h10)<|oB 3 h8 k
  obtain⟨h11,h⟩:=zT h
  have k:=oB 3 h11 k
  obtain⟨h12,h⟩:=zT h
  obtain⟨x13,h14,h⟩:=zD h
  obtain⟨x15,h16,h⟩:=zD h
  obtain⟨r17,h18,h⟩:=zD h
  have k:=oC 1 [0,1,2,3] (zNY h18)<|oA 2 (wN (o:=.no) h16)<|oA 1 (wN (o:=.no) h14)<|oB 1 h12 k
  obtain⟨h19,h⟩:=zT h
  obtain⟨x20,h21,h⟩:=zD h
  obtain⟨r22,h23,h⟩:=zD h
  cases h
  exact⟨tF ⟨func232,rfl⟩ 3 [0,1,2,3] (oD (dT r22.1.sub)<|tB M<|oD (dE d)<|oD (dT c)<|oD (dI b)<|oD (dT a)<|oC 1 [] (zUk h23)<|oA 2 (wN (o:=.no) h14)<|oA 1 (wN (o:=.no) h21)<|oB 0 h19 k),⟨(lz rfl),⟨tv,tv,⟨tv,dT _⟩,tv⟩,tv⟩,(zA ⟨(lz rfl),(lz rfl),⟨tv,dT _⟩,⟨tv,dI _⟩,⟨tv,dT _⟩,⟨tv,dE _⟩,tv⟩ (vY (lz rfl) (zA ⟨tv,tv,tv⟩ zB))),⟨⟨tv,tv,dT _,tv⟩,tv,tv⟩,(zA ⟨(lz rfl),(lz rfl),dT _,dI _,dT _,dE _,tv⟩ (vQ (lz rfl) (zA ⟨tv,tv,tv⟩ zB)))⟩
theorem c90{m M f g a b c d e r}(h:e90 m M f g a b c d e=some r):K90 M f g a b c d e r Ct:=(tV _).1 h
theorem zXN{m M f g a b c d e p r}(h:zFX m M f g a b c d e p=some r):zMj M f g a b c d e p r Ct:=(tV _).2.1 h
def e46(d:Nat)(M:xR)(b c:Int)(p0_Context:zW)(p0_Names:zU)(p0_Types:zW)(a:Tm):Option (Int×Int×Int×Int):=
 e89 d M b c p0_Context p0_Names p0_Types [a]>>=fun r1=>
 if r1.1 != 0 then
 none
 else
 e90 d M b c r1.2.1 r1.2.2.1 r1.2.2.2.1 r1.2.2.2.2 a>>=fun r4=>
 some (r4.1,r4.2.1,r4.2.2.1,r4.2.2.2)
theorem c46{d M b c p0_Context p0_Names p0_Types a r}(h:e46 d M b c p0_Context p0_Names p0_Types a=some r):Ct 46 [mB M 1,mR M,.cells [ai b,ai c]] [.agg [.mp 0 0,.mp 2 0,zH zC p0_Context .no,zH zS p0_Names .no,zH zC p0_Types .no],xF a] (.tup [ai r.1,ai r.2.1]) [mB M 1,mR M,.cells [ai r.2.2.1,ai r.2.2.2]] 0:=⟨by
 unfold e46 at h
 obtain⟨r1,h2,h⟩:=zD h
 have k:=oC 0 [0,1,2] (c89 h2)<|oS 2 (xL xU [a]) o0
 obtain⟨h3,h⟩:=zT h
 obtain⟨r4,h5,h⟩:=zD h
 cases h
 exact tF ⟨func46,rfl⟩ 2 [0,1,2] (tB M<|oC 1 [5,0,1,2] (c90 h5)<|oB 2 h3 k),⟨⟨(lz rfl),(lz rfl),⟨tv,dT _⟩,⟨tv,dI _⟩,⟨tv,dT _⟩,tv⟩,⟨tv,tv,⟨tv,dT _⟩,tv⟩,tv⟩,(vY (lz rfl) (zA ⟨tv,tv,tv⟩ zB)),⟨tv,tv,tv⟩,(vQ (lz rfl) (zA ⟨tv,tv,tv⟩ zB))⟩
def w8(S:Nat)(J K L:yD)(M:xS)(N P:zU)(T U:Int)(Q:ByteArray)(R:List yJ)(f d:Int)(g:ByteArray)(m:Int)(e:List zO)(p:List yJ)(q:List xC)(C D:Int)(s:zW)(z i:Int)(t:zW)(a:List (List zK))(b:List (List ByteArray))(c:List yM)(j A B:Int)(u:xN)(v w:zW)(y:List zY)(E F:Int)(G:zW)(H I:Int):Option (Int×Int×zW×Int×Int×Int×Int):=
 e43 S J [] Q>>=fun r1=>
 if r1 then
 none
 else
 bL S J K L M N P T U Q R f d g m e p q C D s z i t a b c j A B u v w y E F G H I [] (zO.mk f d g m e) d>>=fun r6=>
 if r6.2.1 != 0 then
 none
 else
 e46 S (xR.mk K L M N P) C D [] [] [] r6.1>>=fun r9=>
 uO S J K L M N P T U Q R f d g m e p q r9.2.2.1 r9.2.2.2 s z i t a b c j A B u v w y E F G r6.2.1 r6.2.2 r9.2.1 d>>=fun r11=>
 some (r6.1.k,r6.1.n,r6.1.sub,r11.2.1,r11.2.2,r9.2.2.1,r9.2.2.2)
theorem zMi{S J K L M N P T U Q R f d g m e p q C D s z i t a b c j A B u v w y E F G H I r}(h:w8 S J K L M N P T U Q R f d g m e p q C D s z i t a b c j A B u v w y E F G H I=some r):Ct 28 [.cells [zH yE J .no,.mp 1 0,ai T,ai U,at' Q,zH zN R .no,ai f,ai d,at' g,ai m,zH zR e .no,zH zN p .no,zH yH q .no,.mp 3 0,zH zC s .no,ai z,ai i,zH zC t .no,.ms 4 0 a.length a.length 1,.ms 5 0 b.length b.length 1,.ms 6 0 c.length c.length 4,ai j,ai A,ai B,zH zJ u .no,zH zC v .no,zH zC w .no,zH zV y .no,ai E,ai F,zH zC G .no,ai H,ai I],qB K 2 N P,qR L M,.cells [ai C,ai D],.row (zF (yO zI) a),.row (zF (yO xG) b),.row (zF zZ c)] [.mp 0 0] (.tup []) [.cells [zH yE J .no,.mp 1 0,ai T,ai U,at' Q,zH zN R .no,ai f,ai d,at' g,ai m,zH zR e .no,zH zN p .no,zH yH q .no,.mp 3 0,zH zC s .no,ai z,ai i,zH zC t .no,.ms 4 0 a.length a.length 1,.ms 5 0 b.length b.length 1,.ms 6 0 c.length c.length 4,ai j,ai A,ai B,zH zJ u .no,zH zC v .no,zH zC w .no,zH zV y .no,ai r.1,ai r.2.1,zH zC r.2.2.1 .no,ai r.2.2.2.1,ai r.2.2.2.2.1],qB K 2 N P,qR L M,.cells [ai r.2.2.2.2.2.1,ai r.2.2.2.2.2.2],.row (zF (yO zI) a),.row (zF (yO xG) b),.row (zF zZ c)] 0:=⟨by
 unfold w8 at h
 obtain⟨r1,h2,h⟩:=zD h
 obtain⟨h3,h⟩:=zT h
 obtain⟨r6,h7,h⟩:=zD h
 have k:=oC 2 [0,1,2,3,4,5,6] (w6 h7)<|oK 2 [] h3 (c43 h2) o0
 obtain⟨h8,h⟩:=zT h
 obtain⟨r9,h10,h⟩:=zD h
 obtain⟨r11,h12,h⟩:=zD h
 cases h
 exact tF ⟨func28,rfl⟩ 2 [0,1,2,3,4,5,6] (oD (zQ c)<|oD ((yP yN) b)<|oD ((yP zG) a)<|wS K L M N P<|oD (dT r6.1.sub)<|oD (zM y)<|oD (dT w)<|oD (dT v)<|oD (zE u)<|oD (dT t)<|oD (dT s)<|qJ J R e p q<|oC 3 [0,1,2,3,4,5,6] (uP h12)<|oC 3 [1,2,3] (c46 h10)<|oB 2 h8 k),⟨(lz rfl),tv⟩,(zA ⟨⟨tv,dE _⟩,(lz rfl),tv,tv,tv,⟨tv,yC _⟩,tv,tv,tv,tv,⟨tv,zL _⟩,⟨tv,yC _⟩,⟨tv,yT _⟩,(lz rfl),⟨tv,dT _⟩,tv,tv,⟨tv,dT _⟩,(lz rfl),(lz rfl),(lz rfl),tv,tv,tv,⟨tv,zE _⟩,⟨tv,dT _⟩,⟨tv,dT _⟩,⟨tv,zM _⟩,tv,tv,⟨tv,dT _⟩,tv,tv,tv⟩ (vY (lz rfl) (zA ⟨tv,tv,tv⟩ (zA ((yP zG) _) (zA ((yP yN) _) (zA (zQ _) zB)))))),tv,(zA ⟨dE _,(lz rfl),tv,tv,tv,yC _,tv,tv,tv,tv,zL _,yC _,yT _,(lz rfl),dT _,tv,tv,dT _,(lz rfl),(lz rfl),(lz rfl),tv,tv,tv,zE _,dT _,dT _,zM _,tv,tv,dT _,tv,tv,tv⟩ (vQ (lz rfl) (zA ⟨tv,tv,tv⟩ (zA ((yP zG) _) (zA ((yP yN) _) (zA (zQ _) zB))))))⟩
def nT:Nat->yD->yD->yD->xS->zU->zU->Int->Int->ByteArray->List yJ->Int->Int->ByteArray->Int->List zO->List yJ->List xC->Int->Int->zW->Int->Int->zW->(List (List zK))->(List (List ByteArray))->List yM->Int->Int->Int->xN->zW->zW->List zY->Int->Int->zW->Int->Int->xC->Int->Option (zW×Int×Int×zW×Int×Int)
 |0,_,_,_,_,_,_,_,_,_,_,_,_,_,_,_,_,_,_,_,_,_,_,_,_,_,_,_,_,_,_,_,_,_,_,_,_,_,_,_,_=>none
 |W+1,K,L,M,N,P,Q,T,U,V,R,v,w,y,z,f,g,a,i,A,B,G,H,C,b,c,d,D,E,F,m,p,q,s,t,u,e,I,J,x4,S=>
 if decide (S<(a.length:Int))then
 yG a S>>=fun x7=>
 if (x7.pats_.length:Int) != (x4.pats_.length:Int)then
 none
 else
 nT W K L M N P Q T U V R v w y z f g a i A B G H C b c d D E F m p q s t u e I J x4 (xE (S+1))
 else
 e47 W (Tm.mk t u e) (x4.pats_.length:Int)>>=fun r12=>
 yG a 0>>=fun x14=>
 uO W K L M N P Q T U V R v w y z f g a i A B G H C b c d D E F m p q s t u e I J r12.2.2 x14.at_>>=fun r16=>
 some (r12.1,r12.2.1.k,r12.2.1.n,r12.2.1.sub,r16.2.1,r16.2.2)
def w9(W:Nat)(K L M:yD)(N:xS)(P Q:zU)(T U:Int)(V:ByteArray)(R:List yJ)(v w:Int)(y:ByteArray)(z:Int)(f:List zO)(g:List yJ)(a:List xC)(i A:Int)(B:zW)(G H:Int)(C:zW)(b:List (List zK))(c:List (List ByteArray))(d:List yM)(D E F:Int)(m:xN)(p q:zW)(s:List zY)(t u:Int)(e:zW)(I J:Int):Option (zW×Int×Int×zW×Int×Int):=
 if (a.length:Int)==0 then
 none
 else
 yG a 0>>=fun x4=>
 nT W K L M N P Q T U V R v w y z f g a i A B G H C b c d D E F m p q s t u e I J x4 0
theorem zDt:∀W:Nat,(∀ {K L M N P Q T U V R v w y z f g a i A B G H C b c d D E F m p q s t u e I J x4 S r},nT W K L M N P Q T U V R v w y z f g a i A B G H C b c d D E F m p q s t u e I J x4 S=some r->(∀j,dL 7 (pt 4021 f29) (sp j 83 0 [(0,.mp 0 0),(2,ai (x4.pats_.length:Int)),(35,zH yH a .no),(36,ai (a.length:Int)),(37,ai S)]) (⟨[(0,.cells [zH yE K .no,.mp 1 0,ai T,ai U,at' V,zH zN R .no,ai v,ai w,at' y,ai z,zH zR f .no,zH zN g .no,zH yH a .no,.mp 3 0,zH zC B .no,ai G,ai H,zH zC C .no,.ms 4 0 b.length b.length 1,.ms 5 0 c.length c.length 1,.ms 6 0 d.length d.length 4,ai D,ai E,ai F,zH zJ m .no,zH zC p .no,zH zC q .no,zH zV s .no,ai t,ai u,zH zC e .no,ai I,ai J]),(1,qB L 2 P Q),(2,qR M N),(3,.cells [ai i,ai A]),(4,.row (zF (yO zI) b)),(5,.row (zF (yO xG) c)),(6,.row (zF zZ d))],7,[],0,[]⟩) (fQ 7 (nQ 7 f29 (.tup []) [.cells [zH yE K .no,.mp 1 0,ai T,ai U,at' V,zH zN R .no,ai v,ai w,at' y,ai z,zH zR f .no,zH zN g .no,zH yH a .no,.mp 3 0,zH zC r.1 .no,ai r.2.1,ai r.2.2.1,zH zC r.2.2.2.1 .no,.ms 4 0 b.length b.length 1,.ms 5 0 c.length c.length 1,.ms 6 0 d.length d.length 4,ai D,ai E,ai F,zH zJ m .no,zH zC p .no,zH zC q .no,zH zV s .no,ai t,ai u,zH zC e .no,ai r.2.2.2.2.1,ai r.2.2.2.2.2],qB L 2 P Q,qR M N,.cells [ai i,ai A],.row (zF (yO zI) b),.row (zF (yO xG) c),.row (zF zZ d)] 0) [.blk 0,.seq (pt 63 f29)]))):=by
 intro W
 induction W with
 |zero=>
  exact fun h=>nn h
 |succ W ih=>
  intro K L M N P Q T U V R v w y z f g a i A B G H C b c d D E F m p q s t u e I J x4 S r h
  rw[nT]at h
  obtain⟨h6,h⟩|⟨h6,h⟩:=xA h
  obtain⟨x7,h8,h⟩:=zD h
  have k:=oA 0 (R3 (o:=.no) h8)<|oB 0 h6 o0
  obtain⟨h9,h⟩:=zT h
  exact fun j=>lH 1 [] [0,1,2,3,4,5,6] [] [0,2,35,36,37] (oD (yT a)<|oD (zQ d)<|oD ((yP yN) c)<|oD ((yP zG) b)<|wS L M N P Q<|oD (dT e)<|oD (zM s)<|oD (dT q)<|oD (dT p)<|oD (zE m)<|oD (dT C)<|oD (dT B)<|qJ K R f g a<|oB 4 h9 k) (ih h)
  obtain⟨r12,h13,h⟩:=zD h
  obtain⟨x14,h15,h⟩:=zD h
  obtain⟨r16,h17,h⟩:=zD h
  cases h
  exact fun j=>lF 3 [0,1,2,3,4,5,6] (oD (zQ d)<|oD ((yP yN) c)<|oD ((yP zG) b)<|wS L M N P Q<|oD (dT e)<|oD (zM s)<|oD (dT q)<|oD (dT p)<|oD (zE m)<|oD (dT r12.2.1.sub)<|oD (dT r12.1)<|qJ K R f g a<|oC 1 [0,1,2,3,4,5,6] (uP h17)<|oA 5 (R3 (o:=.no) h15)<|oC 1 [] (c47 h13)<|oB 0 h6 o0)
theorem zMh{W K L M N P Q T U V R v w y z f g a i A B G H C b c d D E F m p q s t u e I J r}(h:w9 W K L M N P Q T U V R v w y z f g a i A B G H C b c d D E F m p q s t u e I J=some r):Ct 29 [.cells [zH yE K .no,.mp 1 0,ai T,ai U,at' V,zH zN R .no,ai v,ai w,at' y,ai z,zH zR f .no,zH zN g .no,zH yH a .no,.mp 3 0,zH zC B .no,ai G,ai H,zH zC C .no,.ms 4 0 b.length b.length 1,.ms 5 0 c.length c.length 1,.ms 6 0 d.length d.length 4,ai D,ai E,ai F,zH zJ m .no,zH zC p .no,zH zC q .no,zH zV s .no,ai t,ai u,zH zC e .no,ai I,ai J],qB L 2 P Q,qR M N,.cells [ai i,ai A],.row (zF (yO zI) b),.row (zF (yO xG) c),.row (zF zZ d)] [.mp 0 0] (.tup []) [.cells [zH yE K .no,.mp 1 0,ai T,ai U,at' V,zH zN R .no,ai v,ai w,at' y,ai z,zH zR f .no,zH zN g .no,zH yH a .no,.mp 3 0,zH zC r.1 .no,ai r.2.1,ai r.2.2.1,zH zC r.2.2.2.1 .no,.ms 4 0 b.length b.length 1,.ms 5 0 c.length c.length 1,.ms 6 0 d.length d.length 4,ai D,ai E,ai F,zH zJ m .no,zH zC p .no,zH zC q .no,zH zV s .no,ai t,ai u,zH zC e .no,ai r.2.2.2.2.1,ai r.2.2.2.2.2],qB L 2 P Q,qR M N,.cells [ai i,ai A],.row (zF (yO zI) b),.row (zF (yO xG) c),.row (zF zZ d)] 0:=⟨by
 unfold w9 at h
 obtain⟨h1,h⟩:=zT h
 obtain⟨x4,h5,h⟩:=zD h
 exact tH ⟨func29,rfl⟩ 4 [] [0,1,2,3,4,5,6] [] [0,2,35,36,37] (oD (yT a)<|oD (zQ d)<|oD ((yP yN) c)<|oD ((yP zG) b)<|wS L M N P Q<|oD (dT e)<|oD (zM s)<|oD (dT q)<|oD (dT p)<|oD (zE m)<|oD (dT C)<|oD (dT B)<|qJ K R f g a<|oA 1 (R3 (o:=.no) h5)<|oB 2 h1 o0) (zDt _ h),⟨(lz rfl),tv⟩,(zA ⟨⟨tv,dE _⟩,(lz rfl),tv,tv,tv,⟨tv,yC _⟩,tv,tv,tv,tv,⟨tv,zL _⟩,⟨tv,yC _⟩,⟨tv,yT _⟩,(lz rfl),⟨tv,dT _⟩,tv,tv,⟨tv,dT _⟩,(lz rfl),(lz rfl),(lz rfl),tv,tv,tv,⟨tv,zE _⟩,⟨tv,dT _⟩,⟨tv,dT _⟩,⟨tv,zM _⟩,tv,tv,⟨tv,dT _⟩,tv,tv,tv⟩ (vY (lz rfl) (zA ⟨tv,tv,tv⟩ (zA ((yP zG) _) (zA ((yP yN) _) (zA (zQ _) zB)))))),tv,(zA ⟨dE _,(lz rfl),tv,tv,tv,yC _,tv,tv,tv,tv,zL _,yC _,yT _,(lz rfl),dT _,tv,tv,dT _,(lz rfl),(lz rfl),(lz rfl),tv,tv,tv,zE _,dT _,dT _,zM _,tv,tv,dT _,tv,tv,tv⟩ (vQ (lz rfl) (zA ⟨tv,tv,tv⟩ (zA ((yP zG) _) (zA ((yP yN) _) (zA (zQ _) zB))))))⟩
def qU:Nat->List ByteArray->ByteArray->Int->Option Int
 |0,_,_,_=>none
 |f+1,d,e,g=>
 if decide (g<(d.length:Int))then
 uR d.length g>>=fun x2=>
 yG d (x2:Int)>>=fun x4=>
 if e.toList==x4.toList then
 none
 else
 qU f d e (xE (g+1))
 else
 some (-1)
def H4(f:Nat)(d:List ByteArray)(e:ByteArray):Option Int:=
 qU f d e 0
theorem zBp:∀f:Nat,(∀ {d e g r},qU f d e g=some r->(∀j,dL 1 (pt 949 f406) (sp j 19 0 [(0,.ms 0 0 d.length d.length 1),(1,at' e),(7,ai (d.length:Int)),(8,ai g)]) (⟨[(0,.row (zF xG d))],1,[],0,[]⟩) (fQ 1 (nQ 1 f406 (ai r) [.row (zF xG d)] 0) [.blk 0,.seq (pt 15 f406)]))):=by
 intro f
 induction f with
 |zero=>
  exact fun h=>nn h
 |succ f ih=>
  intro d e g r h
  rw[qU]at h
  obtain⟨h1,h⟩|⟨h1,h⟩:=xA h
  obtain⟨x2,h3,h⟩:=zD h
  obtain⟨x4,h5,h⟩:=zD h
  have k:=oG (a:=(at' x4)) 0 (U1 yN h5 (false,1) (val:=at' x4) rfl)<|oA 0 (zSO (b:=0) (c:=List.length d) (z:=1) h3)<|oB 0 h1 o0
  obtain⟨h6,h⟩:=zT h
  exact fun j=>lH 1 [] [0] [] [0,1,7,8] (oD (dS d)<|oB 0 h6 k) (ih h)
  cases h
  exact fun j=>lF 0 [0] (oD (dS d)<|oB 0 h1 o0)
theorem zIO{f d e r}(h:H4 f d e=some r):Ct 406 [.row (zF xG d)] [.ms 0 0 d.length d.length 1,at' e] (ai r) [.row (zF xG d)] 0:=⟨by
 unfold H4 at h
 exact tH ⟨func406,rfl⟩ 1 [] [0] [] [0,1,7,8] (oD (dS d) o0) (zBp _ h),⟨(lz rfl),tv,tv⟩,(zA (dS _) zB),tv,(zA (dS _) zB)⟩
def H5(c:Nat)(a:List ByteArray)(b:ByteArray):Option Bool:=
 H4 c a b>>=fun r1=>
 some (decide (r1≥0))
theorem zIP{c a b r}(h:H5 c a b=some r):Ct 334 [.row (zF xG a)] [.ms 0 0 a.length a.length 1,at' b] (ab r) [.row (zF xG a)] 0:=⟨by
 unfold H5 at h
 obtain⟨r1,h2,h⟩:=zD h
 cases h
 exact tF ⟨func334,rfl⟩ 1 [0] (oD (dS a)<|oC 0 [0] (zIO h2) o0),⟨(lz rfl),tv,tv⟩,(zA (dS _) zB),tv,(zA (dS _) zB)⟩
def H6(g:Nat)(c:yD)(a:List ByteArray)(d e:Int)(b:ByteArray)(f:Int):Option (zK×List ByteArray×Int×Int):=
 if !(b.toList==(⟨#[95]⟩:ByteArray).toList)then
 H5 g a b>>=fun r2=>
 if r2 then
 none
 else
 yV 16 a [b]>>=fun l7=>
 some ((zK.mk 1 (xE ((l7.length:Int)-1)) f [] (Tm.mk 0 0 [])),l7,d,e)
 else
 none
theorem zIQ{g c a d e b f r}(h:H6 g c a d e b f=some r):Ct 238 [.cells [zH yE c .no,.ms 1 0 a.length a.length 1,ai d,ai e],.row (zF xG a)] [.mp 0 0,at' b,ai f] (xZ r.1) [.cells [zH yE c .no,.ms 2 0 r.2.1.length r.2.1.length 1,ai r.2.2.1,ai r.2.2.2],.dead,.row (zF xG r.2.1)] 0:=⟨by
 unfold H6 at h
 obtain⟨h1,h⟩:=xD h
 obtain⟨r2,h3,h⟩:=zD h
 have k:=oB 0 h1 o0
 obtain⟨h4,h⟩:=zT h
 obtain⟨l7,h8,h⟩:=zD h
 cases h
 exact tF ⟨func238,rfl⟩ 5 [0,1,3] (oD (dT ([]:zW))<|oD (zX ([]:List zK))<|oD (dS l7)<|oD (dE c)<|oM 2 (zSA h8 (by simp))<|oK 1 [1] h4 (zIP h3) k),⟨(lz rfl),tv,tv,tv⟩,(zA ⟨⟨tv,dE _⟩,(lz rfl),tv,tv,tv⟩ (zA (dS _) zB)),⟨tv,tv,tv,zX _,tv,tv,dT _,tv⟩,(zA ⟨dE _,(lz rfl),tv,tv,tv⟩ (zA tv (zA (dS _) zB)))⟩
def bR:Nat->yD->Int->Int->Int->Int->zW->Option Int
 |0,_,_,_,_,_,_=>none
 |f+1,d,e,g,a,c,b=>
 if a==3 then
 yG b 1>>=fun x7=>
 bR f d e (xE (g+1)) x7.k x7.n x7.sub
 else
 yG d e>>=fun x9=>
 some (xE (g-x9.pars))
def zMg(f:Nat)(d:yD)(e:Int):Option Int:=
 if decide (e<0)then
 none
 else
 if decide (e≥(d.length:Int))then
 none
 else
 yG d e>>=fun x3=>
 if x3.kind != 2 then
 none
 else
 bR f d e 0 x3.type.k x3.type.n x3.type.sub
theorem zMf:∀f:Nat,(∀ {d e g a c b r},bR f d e g a c b=some r->(∀j,dL 0 (pt 16309 f335) (sp j 45 0 [(0,zH yE d .no),(1,ai e),(5,ai g),(6,.mp 0 0)]) (⟨[(0,.cells [ai a,ai c,zH zC b .no])],1,[],0,[]⟩) (fQ 0 (nQ 0 f335 (ai r) [] 0) [.blk 0,.seq (pt 255 f335)]))):=by
 intro f
 induction f with
 |zero=>
  exact fun h=>nn h
 |succ f ih=>
  intro d e g a c b r h
  rw[bR]at h
  obtain⟨h6,h⟩|⟨h6,h⟩:=xA h
  obtain⟨x7,h8,h⟩:=zD h
  exact fun j=>lH 2 [] [1] [] [0,1,5,6] (oD (dE d)<|oD (dT x7.sub)<|oA 4 (wN (o:=.no) h8)<|oB 1 h6 o0) (ih h)
  obtain⟨x9,h10,h⟩:=zD h
  cases h
  exact fun j=>lF 2 [] (oA 0 (vF (o:=.no) h10)<|oB 1 h6 o0)
theorem zUI{f d e r}(h:zMg f d e=some r):Ct 335 [] [zH yE d .no,ai e] (ai r) [] 0:=⟨by
 unfold zMg at h
 obtain⟨h1,h⟩:=zT h
 have k:=oB 0 h1 o0
 obtain⟨h2,h⟩:=zT h
 obtain⟨x3,h4,h⟩:=zD h
 have k:=oA 0 (vF (o:=.no) h4)<|oB 1 h2 k
 obtain⟨h5,h⟩:=zT h
 exact tH ⟨func335,rfl⟩ 2 [] [0] [] [0,1,5,6] (oD (dE d)<|oD (dT x3.type.sub)<|oA 0 (vF (o:=.no) h4)<|oB 1 h5 k) (zMf _ h),⟨⟨tv,dE _⟩,tv,tv⟩,zB,tv,zB⟩
mutual
def kD:Nat->yD->List ByteArray->Int->Int->zO->Option (zK×List ByteArray×Int×Int)
 |0,_,_,_,_,_=>none
 |q+1,a,e,m,n,c=>
 if c.kind_==7 then
 none
 else
 if c.kind_==9 then
 some ((zK.mk 4 0 c.at_ [] (Tm.mk 0 0 [])),e,m,n)
 else
 if c.kind_==10 then
 none
 else
 e86 q a c.name_>>=fun r8=>
 if r8.2==0 then
 yG a r8.1>>=fun x11=>
 if x11.kind==2 then
 H7 q a e m n r8.1 c>>=fun r14=>
 some (r14.1,r14.2.1,r14.2.2.1,r14.2.2.2)
 else
 none
 else
 if c.kind_==8 then
 none
 else
 H6 q a e m n c.name_ c.at_>>=fun r24=>
 some (r24.1,r24.2.1,r24.2.2.1,r24.2.2.2)
def H7:Nat->yD->List ByteArray->Int->Int->Int->zO->Option (zK×List ByteArray×Int×Int)
 |0,_,_,_,_,_,_=>none
 |q+1,a,e,m,n,c,p=>
 zMg q a c>>=fun r1=>
 if r1 != (p.sub_.length:Int)then
 none
 else
 qV q a c p 0 m n [] e
def qV:Nat->yD->Int->zO->Int->Int->Int->List zK->List ByteArray->Option (zK×List ByteArray×Int×Int)
 |0,_,_,_,_,_,_,_,_=>none
 |q+1,a,c,p,s,f,g,d,b=>
 if decide (s<(p.sub_.length:Int))then
 yG p.sub_ s>>=fun x7=>
 kD q a b f g x7>>=fun r9=>
 yV 88 d [r9.1]>>=fun l11=>
 qV q a c p (xE (s+1)) r9.2.2.1 r9.2.2.2 l11 r9.2.1
 else
 some ((zK.mk 2 c p.at_ d (Tm.mk 0 0 [])),b,f,g)
end
abbrev fD (a:yD) (e:List ByteArray) (m n:Int) (c:zO) (r:zK×List ByteArray×Int×Int) (C:Cf):Prop:=C 153 [.cells [zH yE a .no,.ms 1 0 e.length e.length 1,ai m,ai n],.row (zF xG e)] [.mp 0 0,xP c] (xZ r.1) [.cells [zH yE a .no,.ms 2 0 r.2.1.length r.2.1.length 1,ai r.2.2.1,ai r.2.2.2],.dead,.row (zF xG r.2.1)] 0
abbrev zIR (a:yD) (e:List ByteArray) (m n c:Int) (p:zO) (r:zK×List ByteArray×Int×Int) (C:Cf):Prop:=C 239 [.cells [zH yE a .no,.ms 1 0 e.length e.length 1,ai m,ai n],.row (zF xG e)] [.mp 0 0,ai c,xP p] (xZ r.1) [.cells [zH yE a .no,.ms 2 0 r.2.1.length r.2.1.length 1,ai r.2.2.1,ai r.2.2.2],.dead,.row (zF xG r.2.1)] 0
theorem H8:Qf 153 f153:=⟨func153,rfl⟩
theorem H9{a e m n c r}(h:fD a e m n c r Ci):fD a e m n c r Ct:=⟨h,⟨(lz rfl),⟨tv,tv,tv,tv,⟨tv,zL _⟩,tv⟩,tv⟩,(zA ⟨⟨tv,dE _⟩,(lz rfl),tv,tv,tv⟩ (zA (dS _) zB)),⟨tv,tv,tv,zX _,tv,tv,dT _,tv⟩,(zA ⟨dE _,(lz rfl),tv,tv,tv⟩ (zA tv (zA (dS _) zB)))⟩
theorem rR:∀q:Nat,(∀ {a e m n c r},kD q a e m n c=some r->fD a e m n c r Ct)∧(∀ {a e m n c p r},H7 q a e m n c p=some r->zIR a e m n c p r Ct)∧(∀ {a c p s f g d b r},qV q a c p s f g d b=some r->(∀j,dL 2 (pt 16309 f239) (sp j 45 0 [(0,.mp 0 0),(6,.mp 2 0),(7,.mp 3 0),(29,zH zR p.sub_ .no),(30,ai (p.sub_.length:Int)),(31,ai s)]) (⟨[(0,.cells [zH yE a .no,.ms 4 0 b.length b.length 1,ai f,ai g]),(1,.dead),(2,.cells [ai 0,ai 0,ai 0,zH zI ([]:List zK) .nl,ai 0,ai 0,zH zC ([]:zW) .nl]),(3,.cells [ai 2,ai c,ai p.at_,zH zI d (.st 0 7),ai 0,ai 0,zH zC ([]:zW) .nl]),(4,.row (zF xG b))],5,[0],1,[]⟩) (fQ 2 (nQ 2 f239 (xZ r.1) [.cells [zH yE a .no,.ms 2 0 r.2.1.length r.2.1.length 1,ai r.2.2.1,ai r.2.2.2],.dead,.row (zF xG r.2.1)] 0) [.blk 0,.seq (pt 255 f239)]))):=by
 intro q
 induction q with
 |zero=>
  exact⟨fun h=>nn h,fun h=>nn h,fun h=>nn h⟩
 |succ q ih=>
  obtain⟨zGz,zGy,fE⟩:=ih
  refine⟨?_,?_,?_⟩
  intro a e m n c r h
  rw[kD]at h
  obtain⟨h1,h⟩:=zT h
  have k:=oB 1 h1 o0
  obtain⟨h4,h⟩|⟨h4,h⟩:=xA h
  cases h
  exact H9 (tG H8 2 [(some 1,0,0)] [0,1,4] [] false (oD (dT ([]:zW))<|oD (zX ([]:List zK))<|oD (dS e)<|oD (dE a)<|oB 0 h4 k))
  have k:=oB 0 h4 k
  obtain⟨h5,h⟩:=zT h
  obtain⟨r8,h9,h⟩:=zD h
  have k:=oC 2 [] (c86 h9)<|oB 0 h5 k
  obtain⟨h10,h⟩|⟨h10,h⟩:=xA h
  obtain⟨x11,h12,h⟩:=zD h
  have k:=oA 1 (vF (o:=.no) h12)<|oB 2 h10 k
  obtain⟨h13,h⟩:=xD h
  obtain⟨r14,h15,h⟩:=zD h
  cases h
  exact H9 (tF H8 1 [0,1,4] (oD (dT r14.1.t_.sub)<|oD (zX r14.1.sub_)<|oD (dS r14.2.1)<|oD (dE a)<|oC 1 [0,1] (zGy h15)<|oB 1 h13 k))
  have k:=oB 2 h10 k
  obtain⟨h21,h⟩:=zT h
  obtain⟨r24,h25,h⟩:=zD h
  cases h
  exact H9 (tF H8 1 [0,1,4] (oD (dT r24.1.t_.sub)<|oD (zX r24.1.sub_)<|oD (dS r24.2.1)<|oD (dE a)<|oC 2 [0,1] (zIQ h25)<|oB 1 h21 k))
  intro a e m n c p r h
  rw[H7]at h
  obtain⟨r1,h2,h⟩:=zD h
  have k:=rF 0<|oC 1 [] (zUI h2) o0
  obtain⟨h3,h⟩:=zT h
  exact⟨tH ⟨func239,rfl⟩ 4 [(some 1,0,0),(some 4,3,7)] [0,1,3,4,5] [0] [0,6,7,29,30,31] (oD (zL p.sub_)<|oD (dS e)<|oD (dT ([]:zW))<|oD (zX ([]:List zK))<|oD (dT ([]:zW))<|oD (zX ([]:List zK))<|oD (dE a)<|oB 1 h3 k) (fE h),⟨(lz rfl),tv,⟨tv,tv,tv,tv,⟨tv,zL _⟩,tv⟩,tv⟩,(zA ⟨⟨tv,dE _⟩,(lz rfl),tv,tv,tv⟩ (zA (dS _) zB)),⟨tv,tv,tv,zX _,tv,tv,dT _,tv⟩,(zA ⟨dE _,(lz rfl),tv,tv,tv⟩ (zA tv (zA (dS _) zB)))⟩
  intro a c p s f g d b r h
  rw[qV]at h
  obtain⟨h6,h⟩|⟨h6,h⟩:=xA h
  obtain⟨x7,h8,h⟩:=zD h
  obtain⟨r9,h10,h⟩:=zD h
  obtain⟨l11,h12,h⟩:=zD h
  exact fun j=>lH 2 [] [0,1,2,3,6] [1] [0,6,7,29,30,31] (oD (zL p.sub_)<|oD (dS r9.2.1)<|oD (dT ([]:zW))<|oD (zX l11)<|oD (dT ([]:zW))<|oD (zX ([]:List zK))<|oD (dE a)<|oP 0 (zHB h12 (by simp))<|oS 0 (xL tI [r9.1])<|oC 1 [0,4] (zGz h10)<|rF 2<|oA 0 (eS (o:=.no) h8)<|oB 0 h6 o0) (fE h)
  cases h
  exact fun j=>lF 2 [0,1,4] (oD (dT ([]:zW))<|oD (zX d)<|oD (dS b)<|oD (dE a)<|oB 0 h6 o0)
theorem zIS{q a e m n c r}(h:kD q a e m n c=some r):fD a e m n c r Ct:=(rR _).1 h
def v7:Nat->yD->List zO->List zK->Int->Int->Int->List ByteArray->Option (List ByteArray×List zK×Int×Int)
 |0,_,_,_,_,_,_,_=>none
 |e+1,c,b,g,m,d,f,a=>
 if decide (m<(b.length:Int))then
 yG b m>>=fun x11=>
 kD e c a d f x11>>=fun r13=>
 yV 88 g [r13.1]>>=fun l15=>
 v7 e c b l15 (xE (m+1)) r13.2.2.1 r13.2.2.2 r13.2.1
 else
 if d != 0 then
 none
 else
 gfz a.length a>>=fun l18=>
 some (l18,g,0,0)
def v8:Nat->yD->List zO->Int->Option (List ByteArray×List zK×Int×Int)
 |0,_,_,_=>none
 |e+1,c,b,n=>
 if decide (n<(b.length:Int))then
 yG b n>>=fun x5=>
 zLj e x5>>=fun r7=>
 if r7 then
 v8 e c b (xE (n+1))
 else
 none
 else
 v7 e c b [] 0 0 0 ([]:List ByteArray)
def e93(e:Nat)(c:yD)(b:List zO):Option (List ByteArray×List zK×Int×Int):=
 e66 e c>>=fun r1=>
 if r1 then
 v8 e c b 0
 else
 none
abbrev K93 (c:yD) (b:List zO) (r:List ByteArray×List zK×Int×Int) (C:Cf):Prop:=C 93 [] [zH yE c .no,zH zR b .no] (.tup [.sl (zF zI r.2.1) r.2.1.length .no,.ms 0 0 r.1.length r.1.length 1,ai r.2.2.1,ai r.2.2.2]) [.row (zF xG r.1)] 0
theorem zQC:∀e:Nat,(∀ {c b g m d f a r},v7 e c b g m d f a=some r->(∀j,dL 0 (pt 262069 f93) (sp j 61 0 [(10,.mp 0 0),(11,zH zI g (.st 0 7)),(30,zH zR b .no),(31,ai (b.length:Int)),(32,ai m)]) (⟨[(0,.cells [zH yE c .no,.ms 1 0 a.length a.length 1,ai d,ai f]),(1,.row (zF xG a))],2,[0],1,[]⟩) (fQ 0 (nQ 0 f93 (.tup [.sl (zF zI r.2.1) r.2.1.length .no,.ms 0 0 r.1.length r.1.length 1,ai r.2.2.1,ai r.2.2.2]) [.row (zF xG r.1)] 0) [.blk 2,.seq (pt 4095 f93)]))):=by
 intro e
 induction e with
 |zero=>
  exact fun h=>nn h
 |succ e ih=>
  intro c b g m d f a r h
  rw[v7]at h
  obtain⟨h10,h⟩|⟨h10,h⟩:=xA h
  obtain⟨x11,h12,h⟩:=zD h
  obtain⟨r13,h14,h⟩:=zD h
  obtain⟨l15,h16,h⟩:=zD h
  exact fun j=>lH 1 [] [0,3] [1] [10,11,30,31,32] (oD (zL b)<|oD (zX l15)<|oD (dS r13.2.1)<|oD (dE c)<|oP 0 (zHB h16 (by simp))<|oS 0 (xL tI [r13.1])<|oC 3 [0,1] (zIS h14)<|oA 0 (eS (o:=.no) h12)<|oB 0 h10 o0) (ih h)
  have k:=oB 0 h10 o0
  obtain⟨h17,h⟩:=zT h
  obtain⟨l18,h19,h⟩:=zD h
  obtain⟨h19a,h19b⟩:=tD h19
  cases h
  obtain rfl:=h19a.symm
  try dsimp only
  rw[←h19b]
  exact fun j=>lF 1 [1] (oD (zX g)<|oD (dS a)<|oB 1 h17 k)
theorem zQD:∀e:Nat,(∀ {c b n r},v8 e c b n=some r->(∀j,dL 0 (pt 4021 f93) (sp j 61 0 [(0,zH yE c .no),(1,zH zR b .no),(17,zH zR b .no),(18,ai (b.length:Int)),(19,ai n)]) (⟨[],0,[],0,[]⟩) (fQ 0 (nQ 0 f93 (.tup [.sl (zF zI r.2.1) r.2.1.length .no,.ms 0 0 r.1.length r.1.length 1,ai r.2.2.1,ai r.2.2.2]) [.row (zF xG r.1)] 0) [.blk 0,.seq (pt 63 f93)]))):=by
 intro e
 induction e with
 |zero=>
  exact fun h=>nn h
 |succ e ih=>
  intro c b n r h
  rw[v8]at h
  obtain⟨h4,h⟩|⟨h4,h⟩:=xA h
  obtain⟨x5,h6,h⟩:=zD h
  obtain⟨r7,h8,h⟩:=zD h
  have k:=oA 0 (eS (o:=.no) h6)<|oB 0 h4 o0
  obtain⟨h9,h⟩:=xD h
  exact fun j=>lH 2 [] [] [] [0,1,17,18,19] (oD (zL b)<|oD (zL b)<|oD (dE c)<|oK 3 [] h9 (zTD h8) k) (ih h)
  exact fun j=>lH 1 [(some 0,1,4097),(none,11,7)] [0,1] [0] [10,11,30,31,32] (oD (zL b)<|oD (zX ([]:List zK))<|oD (dS ([]:List ByteArray))<|oD (dE c)<|oB 0 h4 o0) (zQC _ h)
theorem zXP{e c b r}(h:e93 e c b=some r):K93 c b r Ct:=by
 unfold e93 at h
 obtain⟨r1,h2,h⟩:=zD h
 obtain⟨h3,h⟩:=xD h
 exact⟨tH ⟨func93,rfl⟩ 2 [] [] [] [0,1,17,18,19] (oD (zL b)<|oD (zL b)<|oD (dE c)<|oK 0 [] h3 (c66 h2) o0) (zQD _ h),⟨⟨tv,dE _⟩,⟨tv,zL _⟩,tv⟩,zB,⟨zX _,(lz rfl),tv,tv,tv⟩,(zA (dS _) zB)⟩
theorem c93{e c b r}(h:e93 e c b=some r):CT prog 93 [] [zH yE c .no,zH zR b .no] (.tup [.sl (zF zI r.2.1) r.2.1.length .no,.sl (zF xG r.1) r.1.length .no,ai r.2.2.1,ai r.2.2.2]) [] 0:=by
 have k:=zXP h
 exact CT.freeze (H1:=[]) (cs:=zF xG r.1) (res':=(.tup [.sl (zF zI r.2.1) r.2.1.length .no,.sl (zF xG r.1) r.1.length .no,ai r.2.2.1,ai r.2.2.2])) k (Nat.le_of_ble_eq_true rfl) zB (dS _) ⟨zX _,(.inl ⟨rfl,rfl⟩),trivial,trivial,tv⟩ (by rfl) rfl
mutual
def fF:Nat->yD->yD->yD->xS->zU->zU->Int->Int->ByteArray->List yJ->Int->Int->ByteArray->Int->List zO->List yJ->List xC->Int->Int->zW->Int->Int->zW->(List (List zK))->(List (List ByteArray))->List yM->Int->Int->Int->xN->zW->zW->List zY->Int->Int->zW->Int->Int->List ByteArray->zO->Int->Option (Int×Int)
 |0,_,_,_,_,_,_,_,_,_,_,_,_,_,_,_,_,_,_,_,_,_,_,_,_,_,_,_,_,_,_,_,_,_,_,_,_,_,_,_,_,_=>none
 |qq+1,L,M,N,P,Q,R,V,W,X,S,u,v,w,y,d,e,f,z,i,g,A,B,m,a,b,c,D,E,F,n,p,q,s,G,H,t,T,U,Y,K,Z=>
 if K.kind_==10 then
 none
 else
 nU qq L M N P Q R V W X S u v w y d e f z i g A B m a b c D E F n p q s G H t Y K Z 0 T U
def nU:Nat->yD->yD->yD->xS->zU->zU->Int->Int->ByteArray->List yJ->Int->Int->ByteArray->Int->List zO->List yJ->List xC->Int->Int->zW->Int->Int->zW->(List (List zK))->(List (List ByteArray))->List yM->Int->Int->Int->xN->zW->zW->List zY->Int->Int->zW->List ByteArray->zO->Int->Int->Int->Int->Option (Int×Int)
 |0,_,_,_,_,_,_,_,_,_,_,_,_,_,_,_,_,_,_,_,_,_,_,_,_,_,_,_,_,_,_,_,_,_,_,_,_,_,_,_,_,_,_=>none
 |qq+1,L,M,N,P,Q,R,V,W,X,S,u,v,w,y,d,e,f,z,i,g,A,B,m,a,b,c,D,E,F,n,p,q,s,G,H,t,Y,K,Z,v24,I,J=>
 if decide (v24<(K.sub_.length:Int))then
 yG K.sub_ v24>>=fun x7=>
 if K.kind_==8 then
 fF qq L M N P Q R V W X S u v w y d e f z i g A B m a b c D E F n p q s G H t I J Y x7 Z>>=fun r10=>
 nU qq L M N P Q R V W X S u v w y d e f z i g A B m a b c D E F n p q s G H t Y K Z (xE (v24+1)) r10.1 r10.2
 else
 none
 else
 some (I,J)
end
abbrev zEf (L M N:yD) (P:xS) (Q R:zU) (V W:Int) (X:ByteArray) (S:List yJ) (u v:Int) (w:ByteArray) (y:Int) (d:List zO) (e:List yJ) (f:List xC) (z i:Int) (g:zW) (A B:Int) (m:zW) (a:List (List zK)) (b:List (List ByteArray)) (c:List yM) (D E F:Int) (n:xN) (p q:zW) (s:List zY) (G H:Int) (t:zW) (T U:Int) (Y:List ByteArray) (K:zO) (Z:Int) (r:Int×Int) (C:Cf):Prop:=C 94 [.cells [zH yE L .no,.mp 1 0,ai V,ai W,at' X,zH zN S .no,ai u,ai v,at' w,ai y,zH zR d .no,zH zN e .no,zH yH f .no,.mp 3 0,zH zC g .no,ai A,ai B,zH zC m .no,.ms 4 0 a.length a.length 1,.ms 5 0 b.length b.length 1,.ms 6 0 c.length c.length 4,ai D,ai E,ai F,zH zJ n .no,zH zC p .no,zH zC q .no,zH zV s .no,ai G,ai H,zH zC t .no,ai T,ai U],qB M 2 Q R,qR N P,.cells [ai z,ai i],.row (zF (yO zI) a),.row (zF (yO xG) b),.row (zF zZ c)] [.mp 0 0,zH xG Y .no,xP K,ai Z] (.tup []) [.cells [zH yE L .no,.mp 1 0,ai V,ai W,at' X,zH zN S .no,ai u,ai v,at' w,ai y,zH zR d .no,zH zN e .no,zH yH f .no,.mp 3 0,zH zC g .no,ai A,ai B,zH zC m .no,.ms 4 0 a.length a.length 1,.ms 5 0 b.length b.length 1,.ms 6 0 c.length c.length 4,ai D,ai E,ai F,zH zJ n .no,zH zC p .no,zH zC q .no,zH zV s .no,ai G,ai H,zH zC t .no,ai r.1,ai r.2],qB M 2 Q R,qR N P,.cells [ai z,ai i],.row (zF (yO zI) a),.row (zF (yO xG) b),.row (zF zZ c)] 0
theorem fG:∀qq:Nat,(∀ {L M N P Q R V W X S u v w y d e f z i g A B m a b c D E F n p q s G H t T U Y K Z r},fF qq L M N P Q R V W X S u v w y d e f z i g A B m a b c D E F n p q s G H t T U Y K Z=some r->zEf L M N P Q R V W X S u v w y d e f z i g A B m a b c D E F n p q s G H t T U Y K Z r Ct)∧(∀ {L M N P Q R V W X S u v w y d e f z i g A B m a b c D E F n p q s G H t Y K Z v24 I J r},nU qq L M N P Q R V W X S u v w y d e f z i g A B m a b c D E F n p q s G H t Y K Z v24 I J=some r->(∀j,dL 7 (pt 1013 f94) (sp j 37 0 [(0,.mp 0 0),(1,zH xG Y .no),(3,ai Z),(6,.mp 7 0),(22,zH zR K.sub_ .no),(23,ai (K.sub_.length:Int)),(24,ai v24)]) (⟨[(0,.cells [zH yE L .no,.mp 1 0,ai V,ai W,at' X,zH zN S .no,ai u,ai v,at' w,ai y,zH zR d .no,zH zN e .no,zH yH f .no,.mp 3 0,zH zC g .no,ai A,ai B,zH zC m .no,.ms 4 0 a.length a.length 1,.ms 5 0 b.length b.length 1,.ms 6 0 c.length c.length 4,ai D,ai E,ai F,zH zJ n .no,zH zC p .no,zH zC q .no,zH zV s .no,ai G,ai H,zH zC t .no,ai I,ai J]),(1,qB M 2 Q R),(2,qR N P),(3,.cells [ai z,ai i]),(4,.row (zF (yO zI) a)),(5,.row (zF (yO xG) b)),(6,.row (zF zZ c)),(7,.cells [ai K.kind_,ai K.at_,at' K.name_,ai K.n_,zH zR K.sub_ .no])],8,[],0,[]⟩) (fQ 7 (nQ 7 f94 (.tup []) [.cells [zH yE L .no,.mp 1 0,ai V,ai W,at' X,zH zN S .no,ai u,ai v,at' w,ai y,zH zR d .no,zH zN e .no,zH yH f .no,.mp 3 0,zH zC g .no,ai A,ai B,zH zC m .no,.ms 4 0 a.length a.length 1,.ms 5 0 b.length b.length 1,.ms 6 0 c.length c.length 4,ai D,ai E,ai F,zH zJ n .no,zH zC p .no,zH zC q .no,zH zV s .no,ai G,ai H,zH zC t .no,ai r.1,ai r.2],qB M 2 Q R,qR N P,.cells [ai z,ai i],.row (zF (yO zI) a),.row (zF (yO xG) b),.row (zF zZ c)] 0) [.blk 0]))):=by
 intro qq
 induction qq with
 |zero=>
  exact⟨fun h=>nn h,fun h=>nn h⟩
 |succ qq ih=>
  obtain⟨zIT,dQ⟩:=ih
  refine⟨?_,?_⟩
  intro L M N P Q R V W X S u v w y d e f z i g A B m a b c D E F n p q s G H t T U Y K Z r h
  rw[fF]at h
  obtain⟨h1,h⟩:=zT h
  exact⟨tH ⟨func94,rfl⟩ 2 [] [0,1,2,3,4,5,6,7] [] [0,1,3,6,22,23,24] (oD (zL K.sub_)<|oD (dS Y)<|oD (zL K.sub_)<|oD (zQ c)<|oD ((yP yN) b)<|oD ((yP zG) a)<|wS M N P Q R<|oD (dT t)<|oD (zM s)<|oD (dT q)<|oD (dT p)<|oD (zE n)<|oD (dT m)<|oD (dT g)<|qJ L S d e f<|oB 1 h1 o0) (dQ h),⟨(lz rfl),⟨tv,dS _⟩,⟨tv,tv,tv,tv,⟨tv,zL _⟩,tv⟩,tv,tv⟩,(zA ⟨⟨tv,dE _⟩,(lz rfl),tv,tv,tv,⟨tv,yC _⟩,tv,tv,tv,tv,⟨tv,zL _⟩,⟨tv,yC _⟩,⟨tv,yT _⟩,(lz rfl),⟨tv,dT _⟩,tv,tv,⟨tv,dT _⟩,(lz rfl),(lz rfl),(lz rfl),tv,tv,tv,⟨tv,zE _⟩,⟨tv,dT _⟩,⟨tv,dT _⟩,⟨tv,zM _⟩,tv,tv,⟨tv,dT _⟩,tv,tv,tv⟩ (vY (lz rfl) (zA ⟨tv,tv,tv⟩ (zA ((yP zG) _) (zA ((yP yN) _) (zA (zQ _) zB)))))),tv,(zA ⟨dE _,(lz rfl),tv,tv,tv,yC _,tv,tv,tv,tv,zL _,yC _,yT _,(lz rfl),dT _,tv,tv,dT _,(lz rfl),(lz rfl),(lz rfl),tv,tv,tv,zE _,dT _,dT _,zM _,tv,tv,dT _,tv,tv,tv⟩ (vQ (lz rfl) (zA ⟨tv,tv,tv⟩ (zA ((yP zG) _) (zA ((yP yN) _) (zA (zQ _) zB))))))⟩
  intro L M N P Q R V W X S u v w y d e f z i g A B m a b c D E F n p q s G H t Y K Z v24 I J r h
  rw[nU]at h
  obtain⟨h6,h⟩|⟨h6,h⟩:=xA h
  obtain⟨x7,h8,h⟩:=zD h
  have k:=oA 0 (eS (o:=.no) h8)<|oB 0 h6 o0
  obtain⟨h9,h⟩:=xD h
  obtain⟨r10,h11,h⟩:=zD h
  exact fun j=>lH 1 [] [0,1,2,3,4,5,6,7] [] [0,1,3,6,22,23,24] (oD (zL K.sub_)<|oD (dS Y)<|oD (zL K.sub_)<|oD (zQ c)<|oD ((yP yN) b)<|oD ((yP zG) a)<|wS M N P Q R<|oD (dT t)<|oD (zM s)<|oD (dT q)<|oD (dT p)<|oD (zE n)<|oD (dT m)<|oD (dT g)<|qJ L S d e f<|oC 1 [0,1,2,3,4,5,6] (zIT h11)<|oB 3 h9 k) (dQ h)
  cases h
  exact fun j=>lF 0 [0,1,2,3,4,5,6] (oD (zQ c)<|oD ((yP yN) b)<|oD ((yP zG) a)<|wS M N P Q R<|oD (dT t)<|oD (zM s)<|oD (dT q)<|oD (dT p)<|oD (zE n)<|oD (dT m)<|oD (dT g)<|qJ L S d e f<|oB 0 h6 o0)
theorem zMe{qq L M N P Q R V W X S u v w y d e f z i g A B m a b c D E F n p q s G H t T U Y K Z r}(h:fF qq L M N P Q R V W X S u v w y d e f z i g A B m a b c D E F n p q s G H t T U Y K Z=some r):zEf L M N P Q R V W X S u v w y d e f z i g A B m a b c D E F n p q s G H t T U Y K Z r Ct:=(fG _).1 h
mutual
def e95:Nat->zK->Option Bool
 |0,_=>none
 |b+1,a=>
 u4 b a 0
def u4:Nat->zK->Int->Option Bool
 |0,_,_=>none
 |b+1,a,c=>
 if decide (c<(a.sub_.length:Int))then
 yG a.sub_ c>>=fun x2=>
 e95 b x2>>=fun r4=>
 if r4 then
 none
 else
 u4 b a (xE (c+1))
 else
 some (a.kind_==4)
end
abbrev K95 (a:zK) (r:Bool) (C:Cf):Prop:=C 95 [] [xZ a] (ab r) [] 0
theorem zGx:∀b:Nat,(∀ {a r},e95 b a=some r->K95 a r Ct)∧(∀ {a c r},u4 b a c=some r->(∀j,dL 0 (pt 949 f95) (sp j 18 0 [(1,.mp 0 0),(6,zH zI a.sub_ .no),(7,ai (a.sub_.length:Int)),(8,ai c)]) (⟨[(0,.cells [ai a.kind_,ai a.n_,ai a.at_,zH zI a.sub_ .no,ai a.t_.k,ai a.t_.n,zH zC a.t_.sub .no])],1,[],0,[]⟩) (fQ 0 (nQ 0 f95 (ab r) [] 0) [.blk 0,.seq (pt 15 f95)]))):=by
 intro b
 induction b with
 |zero=>
  exact⟨fun h=>nn h,fun h=>nn h⟩
 |succ b ih=>
  obtain⟨zXQ,zEe⟩:=ih
  refine⟨?_,?_⟩
  intro a r h
  rw[e95]at h
  exact⟨tH ⟨func95,rfl⟩ 2 [] [0] [] [1,6,7,8] (oD (zX a.sub_)<|oD (dT a.t_.sub)<|oD (zX a.sub_) o0) (zEe h),⟨⟨tv,tv,tv,⟨tv,zX _⟩,tv,tv,⟨tv,dT _⟩,tv⟩,tv⟩,zB,tv,zB⟩
  intro a c r h
  rw[u4]at h
  obtain⟨h1,h⟩|⟨h1,h⟩:=xA h
  obtain⟨x2,h3,h⟩:=zD h
  obtain⟨r4,h5,h⟩:=zD h
  have k:=oA 0 (lZ (o:=.no) h3)<|oB 0 h1 o0
  obtain⟨h6,h⟩:=zT h
  exact fun j=>lH 1 [] [0] [] [1,6,7,8] (oD (zX a.sub_)<|oD (dT a.t_.sub)<|oD (zX a.sub_)<|oK 3 [] h6 (zXQ h5) k) (zEe h)
  cases h
  exact fun j=>lF 2 [] (oB 0 h1 o0)
theorem c95{b a r}(h:e95 b a=some r):K95 a r Ct:=(zGx _).1 h
def qH:Nat->yD->yD->yD->xS->zU->zU->Int->Int->ByteArray->List yJ->Int->Int->ByteArray->Int->List zO->List yJ->List xC->Int->Int->zW->Int->Int->zW->(List (List zK))->(List (List ByteArray))->List yM->Int->Int->Int->xN->zW->zW->List zY->Int->Int->zW->xC->(List ByteArray×List zK×Int×Int)->Int->Bool->Int->Int->Option (List (List zK)×List (List ByteArray)×Int×Int)
 |0,_,_,_,_,_,_,_,_,_,_,_,_,_,_,_,_,_,_,_,_,_,_,_,_,_,_,_,_,_,_,_,_,_,_,_,_,_,_,_,_,_,_=>none
 |T+1,K,M,N,P,Q,R,U,V,W,S,y,z,i,A,d,e,f,B,C,g,D,E,m,b,c,a,F,G,H,n,p,q,s,I,J,t,w,r1,L,Z,u,v=>
 if Z then
 if decide (L<(w.pats_.length:Int))then
 none
 else
 if true==w.has_ then
 none
 else
 yV 24 b [r1.2.1]>>=fun l22=>
 yV 24 c [r1.1]>>=fun l24=>
 some (l22,l24,u,v)
 else
 if decide (L<(w.pats_.length:Int))then
 yG w.pats_ L>>=fun x27=>
 fF T K M N P Q R U V W S y z i A d e f B C g D E m b c a F G H n p q s I J t u v r1.1 x27 w.at_>>=fun r29=>
 yG r1.2.1 L>>=fun x31=>
 e95 T x31>>=fun r33=>
 if r33 then
 qH T K M N P Q R U V W S y z i A d e f B C g D E m b c a F G H n p q s I J t w r1 (xE (L+1)) true r29.1 r29.2
 else
 qH T K M N P Q R U V W S y z i A d e f B C g D E m b c a F G H n p q s I J t w r1 (xE (L+1)) false r29.1 r29.2
 else
 if false==w.has_ then
 none
 else
 yV 24 b [r1.2.1]>>=fun l43=>
 yV 24 c [r1.1]>>=fun l45=>
 some (l43,l45,u,v)
def u5(T:Nat)(K M N:yD)(P:xS)(Q R:zU)(U V:Int)(W:ByteArray)(S:List yJ)(y z:Int)(i:ByteArray)(A:Int)(d:List zO)(e:List yJ)(f:List xC)(B C:Int)(g:zW)(D E:Int)(m:zW)(b:List (List zK))(c:List (List ByteArray))(a:List yM)(F G H:Int)(n:xN)(p q:zW)(s:List zY)(I J:Int)(t:zW)(X Y:Int)(w:xC):Option (List (List zK)×List (List ByteArray)×Int×Int):=
 e93 T K w.pats_>>=fun r1=>
 if r1.2.2.2==2 then
 none
 else
 uO T K M N P Q R U V W S y z i A d e f B C g D E m b c a F G H n p q s I J t X Y r1.2.2.2 r1.2.2.1>>=fun r10=>
 if r10.1 then
 none
 else
 if decide ((r1.1.length:Int)≥24)then
 none
 else
 qH T K M N P Q R U V W S y z i A d e f B C g D E m b c a F G H n p q s I J t w r1 0 false r10.2.1 r10.2.2
theorem zDs:∀T:Nat,(∀ {K M N P Q R U V W S y z i A d e f B C g D E m b c a F G H n p q s I J t w r1 L Z u v r},qH T K M N P Q R U V W S y z i A d e f B C g D E m b c a F G H n p q s I J t w r1 L Z u v=some r->(∀j,dL 7 (pt 1048501 f48) (sp j 93 0 [(0,.mp 0 0),(3,.mp 7 0),(4,zH zI r1.2.1 .no),(5,zH xG r1.1 .no),(8,ab Z),(39,zH zR w.pats_ .no),(40,ai (w.pats_.length:Int)),(41,ai L)]) (⟨[(0,.cells [zH yE K .no,.mp 1 0,ai U,ai V,at' W,zH zN S .no,ai y,ai z,at' i,ai A,zH zR d .no,zH zN e .no,zH yH f .no,.mp 3 0,zH zC g .no,ai D,ai E,zH zC m .no,.ms 8 0 b.length b.length 1,.ms 9 0 c.length c.length 1,.ms 6 0 a.length a.length 4,ai F,ai G,ai H,zH zJ n .no,zH zC p .no,zH zC q .no,zH zV s .no,ai I,ai J,zH zC t .no,ai u,ai v]),(1,qB M 2 Q R),(2,qR N P),(3,.cells [ai B,ai C]),(4,.dead),(5,.dead),(6,.row (zF zZ a)),(7,.cells [ai w.at_,zH zR w.pats_ .no,ab w.has_,ai w.body_.kind_,ai w.body_.at_,at' w.body_.name_,ai w.body_.n_,zH zR w.body_.sub_ .no]),(8,.row (zF (yO zI) b)),(9,.row (zF (yO xG) c))],10,[],0,[]⟩) (fQ 7 (nQ 7 f48 (.tup []) [.cells [zH yE K .no,.mp 1 0,ai U,ai V,at' W,zH zN S .no,ai y,ai z,at' i,ai A,zH zR d .no,zH zN e .no,zH yH f .no,.mp 3 0,zH zC g .no,ai D,ai E,zH zC m .no,.ms 7 0 r.1.length r.1.length 1,.ms 8 0 r.2.1.length r.2.1.length 1,.ms 6 0 a.length a.length 4,ai F,ai G,ai H,zH zJ n .no,zH zC p .no,zH zC q .no,zH zV s .no,ai I,ai J,zH zC t .no,ai r.2.2.1,ai r.2.2.2],qB M 2 Q R,qR N P,.cells [ai B,ai C],.dead,.dead,.row (zF zZ a),.row (zF (yO zI) r.1),.row (zF (yO xG) r.2.1)] 0) [.blk 0,.seq (pt 16383 f48)]))):=by
 intro T
 induction T with
 |zero=>
  exact fun h=>nn h
 |succ T ih=>
  intro K M N P Q R U V W S y z i A d e f B C g D E m b c a F G H n p q s I J t w r1 L Z u v r h
  rw[qH]at h
  cases Z
  replace h:=ifF rfl h
  obtain⟨h26,h⟩|⟨h26,h⟩:=xA h
  obtain⟨x27,h28,h⟩:=zD h
  obtain⟨r29,h30,h⟩:=zD h
  obtain⟨x31,h32,h⟩:=zD h
  obtain⟨r33,h34,h⟩:=zD h
  have k:=oA 0 (lZ (o:=.no) h32)<|oC 4 [0,1,2,3,8,9,6] (zMe h30)<|oA 0 (eS (o:=.no) h28)<|oB 0 h26 o0
  obtain⟨h35,h⟩|⟨h35,h⟩:=xA h
  exact fun j=>lH 1 [] [0,1,2,3,4,5,6,7,8,9] [] [0,3,4,5,8,39,40,41] (oD (zL w.pats_)<|oD (dS r1.1)<|oD (zX r1.2.1)<|oD ((yP yN) c)<|oD ((yP zG) b)<|oD (zL w.body_.sub_)<|oD (zL w.pats_)<|oD (zQ a)<|wS M N P Q R<|oD (dT t)<|oD (zM s)<|oD (dT q)<|oD (dT p)<|oD (zE n)<|oD (dT m)<|oD (dT g)<|qJ K S d e f<|oK 1 [] h35 (c95 h34) k) (ih h)
  exact fun j=>lH 1 [] [0,1,2,3,4,5,6,7,8,9] [] [0,3,4,5,8,39,40,41] (oD (zL w.pats_)<|oD (dS r1.1)<|oD (zX r1.2.1)<|oD ((yP yN) c)<|oD ((yP zG) b)<|oD (zL w.body_.sub_)<|oD (zL w.pats_)<|oD (zQ a)<|wS M N P Q R<|oD (dT t)<|oD (zM s)<|oD (dT q)<|oD (dT p)<|oD (zE n)<|oD (dT m)<|oD (dT g)<|qJ K S d e f<|oK 1 [] h35 (c95 h34) k) (ih h)
  have k:=oB 0 h26 o0
  obtain⟨h36,h⟩:=zT h
  obtain⟨l43,h44,h⟩:=zD h
  obtain⟨l45,h46,h⟩:=zD h
  cases h
  exact fun j=>lF 2 [0,1,2,3,4,5,6,10,11] (oD ((yP yN) l45)<|oD ((yP zG) l43)<|oD (zQ a)<|wS M N P Q R<|oD (dT t)<|oD (zM s)<|oD (dT q)<|oD (dT p)<|oD (zE n)<|oD (dT m)<|oD (dT g)<|qJ K S d e f<|oM 2 (zNL h46 (by simp))<|oM 2 (zNK h44 (by simp))<|oB 1 h36 k)
  replace h:=ifT rfl h
  obtain⟨h10,h⟩:=zT h
  have k:=oB 0 h10 o0
  obtain⟨h15,h⟩:=zT h
  obtain⟨l22,h23,h⟩:=zD h
  obtain⟨l24,h25,h⟩:=zD h
  cases h
  exact fun j=>lF 2 [0,1,2,3,4,5,6,10,11] (oD ((yP yN) l24)<|oD ((yP zG) l22)<|oD (zQ a)<|wS M N P Q R<|oD (dT t)<|oD (zM s)<|oD (dT q)<|oD (dT p)<|oD (zE n)<|oD (dT m)<|oD (dT g)<|qJ K S d e f<|oM 2 (zNL h25 (by simp))<|oM 2 (zNK h23 (by simp))<|oB 1 h15 k)
theorem zMd{T K M N P Q R U V W S y z i A d e f B C g D E m b c a F G H n p q s I J t X Y w r}(h:u5 T K M N P Q R U V W S y z i A d e f B C g D E m b c a F G H n p q s I J t X Y w=some r):Ct 48 [.cells [zH yE K .no,.mp 1 0,ai U,ai V,at' W,zH zN S .no,ai y,ai z,at' i,ai A,zH zR d .no,zH zN e .no,zH yH f .no,.mp 3 0,zH zC g .no,ai D,ai E,zH zC m .no,.ms 4 0 b.length b.length 1,.ms 5 0 c.length c.length 1,.ms 6 0 a.length a.length 4,ai F,ai G,ai H,zH zJ n .no,zH zC p .no,zH zC q .no,zH zV s .no,ai I,ai J,zH zC t .no,ai X,ai Y],qB M 2 Q R,qR N P,.cells [ai B,ai C],.row (zF (yO zI) b),.row (zF (yO xG) c),.row (zF zZ a)] [.mp 0 0,D7 w] (.tup []) [.cells [zH yE K .no,.mp 1 0,ai U,ai V,at' W,zH zN S .no,ai y,ai z,at' i,ai A,zH zR d .no,zH zN e .no,zH yH f .no,.mp 3 0,zH zC g .no,ai D,ai E,zH zC m .no,.ms 7 0 r.1.length r.1.length 1,.ms 8 0 r.2.1.length r.2.1.length 1,.ms 6 0 a.length a.length 4,ai F,ai G,ai H,zH zJ n .no,zH zC p .no,zH zC q .no,zH zV s .no,ai I,ai J,zH zC t .no,ai r.2.2.1,ai r.2.2.2],qB M 2 Q R,qR N P,.cells [ai B,ai C],.dead,.dead,.row (zF zZ a),.row (zF (yO zI) r.1),.row (zF (yO xG) r.2.1)] 0:=⟨by
 unfold u5 at h
 obtain⟨r1,h2,h⟩:=zD h
 have k:=oC 2 [] (c93 h2) o0
 obtain⟨h3,h⟩:=zT h
 obtain⟨r10,h11,h⟩:=zD h
 have k:=oB 4 h3 k
 obtain⟨h12,h⟩:=zT h
 have k:=oK 0 [0,1,2,3,4,5,6] h12 (uP h11) k
 obtain⟨h13,h⟩:=zT h
 exact tH ⟨func48,rfl⟩ 2 [(some 4,0,0),(some 5,0,0)] [0,1,2,3,4,5,6,7,8,9] [] [0,3,4,5,8,39,40,41] (oD (zL w.pats_)<|oD (dS r1.1)<|oD (zX r1.2.1)<|oD ((yP yN) c)<|oD ((yP zG) b)<|oD (zL w.body_.sub_)<|oD (zL w.pats_)<|oD (zQ a)<|wS M N P Q R<|oD (dT t)<|oD (zM s)<|oD (dT q)<|oD (dT p)<|oD (zE n)<|oD (dT m)<|oD (dT g)<|qJ K S d e f<|oB 1 h13 k) (zDs _ h),⟨(lz rfl),⟨tv,⟨tv,zL _⟩,tv,tv,tv,tv,tv,⟨tv,zL _⟩,tv⟩,tv⟩,(zA ⟨⟨tv,dE _⟩,(lz rfl),tv,tv,tv,⟨tv,yC _⟩,tv,tv,tv,tv,⟨tv,zL _⟩,⟨tv,yC _⟩,⟨tv,yT _⟩,(lz rfl),⟨tv,dT _⟩,tv,tv,⟨tv,dT _⟩,(lz rfl),(lz rfl),(lz rfl),tv,tv,tv,⟨tv,zE _⟩,⟨tv,dT _⟩,⟨tv,dT _⟩,⟨tv,zM _⟩,tv,tv,⟨tv,dT _⟩,tv,tv,tv⟩ (vY (lz rfl) (zA ⟨tv,tv,tv⟩ (zA ((yP zG) _) (zA ((yP yN) _) (zA (zQ _) zB)))))),tv,(zA ⟨dE _,(lz rfl),tv,tv,tv,yC _,tv,tv,tv,tv,zL _,yC _,yT _,(lz rfl),dT _,tv,tv,dT _,(lz rfl),(lz rfl),(lz rfl),tv,tv,tv,zE _,dT _,dT _,zM _,tv,tv,dT _,tv,tv,tv⟩ (vQ (lz rfl) (zA ⟨tv,tv,tv⟩ (zA tv (zA tv (zA (zQ _) (zA ((yP zG) _) (zA ((yP yN) _) zB))))))))⟩
def nV:Nat->yD->yD->yD->xS->zU->zU->Int->Int->ByteArray->List yJ->Int->Int->ByteArray->Int->List zO->List yJ->List xC->Int->Int->zW->Int->Int->zW->List yM->Int->Int->Int->xN->zW->zW->List zY->Int->Int->zW->Int->Int->Int->(List (List zK))->(List (List ByteArray))->Option (List (List zK)×List (List ByteArray)×Int×Int)
 |0,_,_,_,_,_,_,_,_,_,_,_,_,_,_,_,_,_,_,_,_,_,_,_,_,_,_,_,_,_,_,_,_,_,_,_,_,_,_,_=>none
 |X+1,J,K,L,M,N,P,U,V,W,Q,w,y,z,i,g,m,b,A,B,n,C,D,p,a,E,F,G,q,s,t,u,H,I,v,R,e,f,c,d=>
 if decide (R<(b.length:Int))then
 yG b R>>=fun x2=>
 u5 X J K L M N P U V W Q w y z i g m b A B n C D p c d a E F G q s t u H I v e f x2>>=fun r4=>
 if r4.2.2.1 != 0 then
 none
 else
 nV X J K L M N P U V W Q w y z i g m b A B n C D p a E F G q s t u H I v (xE (R+1)) r4.2.2.1 r4.2.2.2 r4.1 r4.2.1
 else
 some (c,d,e,f)
def u6(X:Nat)(J K L:yD)(M:xS)(N P:zU)(U V:Int)(W:ByteArray)(Q:List yJ)(w y:Int)(z:ByteArray)(i:Int)(g:List zO)(m:List yJ)(b:List xC)(A B:Int)(n:zW)(C D:Int)(p:zW)(S:List (List zK))(T:List (List ByteArray))(a:List yM)(E F G:Int)(q:xN)(s t:zW)(u:List zY)(H I:Int)(v:zW)(Y Z:Int):Option (List (List zK)×List (List ByteArray)×Int×Int):=
 nV X J K L M N P U V W Q w y z i g m b A B n C D p a E F G q s t u H I v 0 Y Z S T
theorem zDr:∀X:Nat,(∀ {J K L M N P U V W Q w y z i g m b A B n C D p a E F G q s t u H I v R e f c d r},nV X J K L M N P U V W Q w y z i g m b A B n C D p a E F G q s t u H I v R e f c d=some r->(∀j,dL 7 (pt 53 Tryz.f30) (sp j 23 0 [(0,.mp 0 0),(8,zH yH b .no),(9,ai (b.length:Int)),(10,ai R)]) (⟨[(0,.cells [zH yE J .no,.mp 1 0,ai U,ai V,at' W,zH zN Q .no,ai w,ai y,at' z,ai i,zH zR g .no,zH zN m .no,zH yH b .no,.mp 3 0,zH zC n .no,ai C,ai D,zH zC p .no,.ms 7 0 c.length c.length 1,.ms 8 0 d.length d.length 1,.ms 6 0 a.length a.length 4,ai E,ai F,ai G,zH zJ q .no,zH zC s .no,zH zC t .no,zH zV u .no,ai H,ai I,zH zC v .no,ai e,ai f]),(1,qB K 2 N P),(2,qR L M),(3,.cells [ai A,ai B]),(4,.dead),(5,.dead),(6,.row (zF zZ a)),(7,.row (zF (yO zI) c)),(8,.row (zF (yO xG) d))],9,[],0,[]⟩) (fQ 7 (nQ 7 Tryz.f30 (.tup []) [.cells [zH yE J .no,.mp 1 0,ai U,ai V,at' W,zH zN Q .no,ai w,ai y,at' z,ai i,zH zR g .no,zH zN m .no,zH yH b .no,.mp 3 0,zH zC n .no,ai C,ai D,zH zC p .no,.ms 7 0 r.1.length r.1.length 1,.ms 8 0 r.2.1.length r.2.1.length 1,.ms 6 0 a.length a.length 4,ai E,ai F,ai G,zH zJ q .no,zH zC s .no,zH zC t .no,zH zV u .no,ai H,ai I,zH zC v .no,ai r.2.2.1,ai r.2.2.2],qB K 2 N P,qR L M,.cells [ai A,ai B],.dead,.dead,.row (zF zZ a),.row (zF (yO zI) r.1),.row (zF (yO xG) r.2.1)] 0) [.blk 0]))):=by
 intro X
 induction X with
 |zero=>
  exact fun h=>nn h
 |succ X ih=>
  intro J K L M N P U V W Q w y z i g m b A B n C D p a E F G q s t u H I v R e f c d r h
  rw[nV]at h
  obtain⟨h1,h⟩|⟨h1,h⟩:=xA h
  obtain⟨x2,h3,h⟩:=zD h
  obtain⟨r4,h5,h⟩:=zD h
  have k:=oC 3 [0,1,2,3,7,8,6] (zMd h5)<|oA 0 (R3 (o:=.no) h3)<|oB 0 h1 o0
  obtain⟨h6,h⟩:=zT h
  exact fun j=>lH 1 [] [0,1,2,3,4,5,6,10,11] [] [0,8,9,10] (oD (yT b)<|oD ((yP yN) r4.2.1)<|oD ((yP zG) r4.1)<|oD (zQ a)<|wS K L M N P<|oD (dT v)<|oD (zM u)<|oD (dT t)<|oD (dT s)<|oD (zE q)<|oD (dT p)<|oD (dT n)<|qJ J Q g m b<|oB 1 h6 k) (ih h)
  cases h
  exact fun j=>lF 0 [0,1,2,3,4,5,6,7,8] (oD ((yP yN) d)<|oD ((yP zG) c)<|oD (zQ a)<|wS K L M N P<|oD (dT v)<|oD (zM u)<|oD (dT t)<|oD (dT s)<|oD (zE q)<|oD (dT p)<|oD (dT n)<|qJ J Q g m b<|oB 0 h1 o0)
theorem zMc{X J K L M N P U V W Q w y z i g m b A B n C D p S T a E F G q s t u H I v Y Z r}(h:u6 X J K L M N P U V W Q w y z i g m b A B n C D p S T a E F G q s t u H I v Y Z=some r):Ct 30 [.cells [zH yE J .no,.mp 1 0,ai U,ai V,at' W,zH zN Q .no,ai w,ai y,at' z,ai i,zH zR g .no,zH zN m .no,zH yH b .no,.mp 3 0,zH zC n .no,ai C,ai D,zH zC p .no,.ms 4 0 S.length S.length 1,.ms 5 0 T.length T.length 1,.ms 6 0 a.length a.length 4,ai E,ai F,ai G,zH zJ q .no,zH zC s .no,zH zC t .no,zH zV u .no,ai H,ai I,zH zC v .no,ai Y,ai Z],qB K 2 N P,qR L M,.cells [ai A,ai B],.row (zF (yO zI) S),.row (zF (yO xG) T),.row (zF zZ a)] [.mp 0 0] (.tup []) [.cells [zH yE J .no,.mp 1 0,ai U,ai V,at' W,zH zN Q .no,ai w,ai y,at' z,ai i,zH zR g .no,zH zN m .no,zH yH b .no,.mp 3 0,zH zC n .no,ai C,ai D,zH zC p .no,.ms 7 0 r.1.length r.1.length 1,.ms 8 0 r.2.1.length r.2.1.length 1,.ms 6 0 a.length a.length 4,ai E,ai F,ai G,zH zJ q .no,zH zC s .no,zH zC t .no,zH zV u .no,ai H,ai I,zH zC v .no,ai r.2.2.1,ai r.2.2.2],qB K 2 N P,qR L M,.cells [ai A,ai B],.dead,.dead,.row (zF zZ a),.row (zF (yO zI) r.1),.row (zF (yO xG) r.2.1)] 0:=⟨by
 unfold u6 at h
 exact tH ⟨func30,rfl⟩ 2 [(some 4,0,0),(some 5,0,0)] [0,1,2,3,4,5,6,7,8] [] [0,8,9,10] (oD (yT b)<|oD ((yP yN) T)<|oD ((yP zG) S)<|oD (zQ a)<|wS K L M N P<|oD (dT v)<|oD (zM u)<|oD (dT t)<|oD (dT s)<|oD (zE q)<|oD (dT p)<|oD (dT n)<|oD (yT b)<|oD (yC m)<|oD (zL g)<|oD (yC Q)<|oD (dE J) o0) (zDr _ h),⟨(lz rfl),tv⟩,(zA ⟨⟨tv,dE _⟩,(lz rfl),tv,tv,tv,⟨tv,yC _⟩,tv,tv,tv,tv,⟨tv,zL _⟩,⟨tv,yC _⟩,⟨tv,yT _⟩,(lz rfl),⟨tv,dT _⟩,tv,tv,⟨tv,dT _⟩,(lz rfl),(lz rfl),(lz rfl),tv,tv,tv,⟨tv,zE _⟩,⟨tv,dT _⟩,⟨tv,dT _⟩,⟨tv,zM _⟩,tv,tv,⟨tv,dT _⟩,tv,tv,tv⟩ (vY (lz rfl) (zA ⟨tv,tv,tv⟩ (zA ((yP zG) _) (zA ((yP yN) _) (zA (zQ _) zB)))))),tv,(zA ⟨dE _,(lz rfl),tv,tv,tv,yC _,tv,tv,tv,tv,zL _,yC _,yT _,(lz rfl),dT _,tv,tv,dT _,(lz rfl),(lz rfl),(lz rfl),tv,tv,tv,zE _,dT _,dT _,zM _,tv,tv,dT _,tv,tv,tv⟩ (vQ (lz rfl) (zA ⟨tv,tv,tv⟩ (zA tv (zA tv (zA (zQ _) (zA ((yP zG) _) (zA ((yP yN) _) zB))))))))⟩
def zQE(b:Nat)(a:List zK):Option Int:=
 if (a.length:Int)==0 then
 none
 else
 yG a 0>>=fun x2=>
 some x2.at_
theorem zXR{b a r}(h:zQE b a=some r):Ct 100 [] [zH zI a .no] (ai r) [] 0:=⟨by
 unfold zQE at h
 obtain⟨h1,h⟩:=zT h
 obtain⟨x2,h3,h⟩:=zD h
 obtain rfl:=sj h
 exact tF ⟨func100,rfl⟩ 1 [] (oA 0 (lZ (o:=.no) h3)<|oB 1 h1 o0),⟨⟨tv,zX _⟩,tv⟩,zB,tv,zB⟩
def u7(b:Nat)(a:zW)(c d:Int):Option Unit:=
 if decide (c<d)then
 none
 else
 some ()
def zQF(b:Nat)(a:zW):Option Unit:=
 u7 b a 0 (xE ((a.length:Int)-1))
theorem zMb{b a c d r}(h:u7 b a c d=some r):(∀j,dL 0 (pt 53 f253) (sp j 28 0 [(0,zH zC a .no),(2,ai c),(3,ai d)]) (⟨[],0,[],0,[]⟩) (fQ 0 (nQ 0 f253 (.tup []) [] 0) [.blk 0])):=by
 unfold u7 at h
 obtain⟨h1,h⟩:=zT h
 cases h
 exact fun j=>lF 0 [] (oB 0 h1 o0)
theorem zXS{b a r}(h:zQF b a=some r):Ct 253 [] [zH zC a .no] (.tup []) [] 0:=⟨by
 unfold zQF at h
 exact tH ⟨func253,rfl⟩ 2 [] [] [] [0,2,3] (oD (dT a) o0) (zMb h),⟨⟨tv,dT _⟩,tv⟩,zB,tv,zB⟩
def qW:Nat->zW->Int->Int->zW->Option zW
 |0,_,_,_,_=>none
 |f+1,e,g,m,d=>
 if decide (g<m)then
 uR e.length m>>=fun x2=>
 yG d (x2:Int)>>=fun x4=>
 uR e.length g>>=fun x6=>
 yG d (x6:Int)>>=fun x8=>
 zCN d x6 x4>>=fun x10=>
 zCN x10 x2 x8>>=fun x12=>
 qW f e (xE (g+1)) (xE (m-1)) x12
 else
 some d
def I0(f:Nat)(e:zW):Option zW:=
 qW f e 0 (xE ((e.length:Int)-1)) e
theorem zBo:∀f:Nat,(∀ {e g m d r},qW f e g m d=some r->(∀j,dL 1 (pt 53 f253) (sp j 28 0 [(0,.ms 0 0 e.length e.length 3),(2,ai g),(3,ai m)]) (⟨[(0,.row (zF zC d))],1,[],0,[]⟩) (fQ 1 (nQ 1 f253 (.tup []) [.row (zF zC r)] 0) [.blk 0]))):=by
 intro f
 induction f with
 |zero=>
  exact fun h=>nn h
 |succ f ih=>
  intro e g m d r h
  rw[qW]at h
  obtain⟨h1,h⟩|⟨h1,h⟩:=xA h
  obtain⟨x2,h3,h⟩:=zD h
  obtain⟨x4,h5,h⟩:=zD h
  obtain⟨x6,h7,h⟩:=zD h
  obtain⟨x8,h9,h⟩:=zD h
  obtain⟨x10,h11,h⟩:=zD h
  obtain⟨x12,h13,h⟩:=zD h
  exact fun j=>lH 2 [] [0] [] [0,2,3] (oD (dT x12)<|oW 0 (wtE (x:=x8) (cs:=[ai x8.k,ai x8.n,zH zC x8.sub .no]) xM (by rw[xU];rfl) h13)<|oA 0 (U6 (b:=0) (c:=List.length e) (z:=3) h3)<|oW 0 (wtE (x:=x4) (cs:=[ai x4.k,ai x4.n,zH zC x4.sub .no]) xM (by rw[xU];rfl) h11)<|oA 0 (U6 (b:=0) (c:=List.length e) (z:=3) h7)<|oG (a:=(.agg [ai x8.k,ai x8.n,zH zC x8.sub .no])) 0 (U1 xM h9 (true,3) (val:=.agg [ai x8.k,ai x8.n,zH zC x8.sub .no]) (by rw[xU];rfl))<|oA 0 (U6 (b:=0) (c:=List.length e) (z:=3) h7)<|oG (a:=(.agg [ai x4.k,ai x4.n,zH zC x4.sub .no])) 0 (U1 xM h5 (true,3) (val:=.agg [ai x4.k,ai x4.n,zH zC x4.sub .no]) (by rw[xU];rfl))<|oA 0 (U6 (b:=0) (c:=List.length e) (z:=3) h3)<|oB 0 h1 o0) (ih h)
  obtain rfl:=sj h
  exact fun j=>lF 0 [0] (oD (dT d)<|oB 0 h1 o0)
theorem zIU{f e r}(h:I0 f e=some r):Ct 253 [.row (zF zC e)] [.ms 0 0 e.length e.length 3] (.tup []) [.row (zF zC r)] 0:=⟨by
 unfold I0 at h
 exact tH ⟨func253,rfl⟩ 2 [] [0] [] [0,2,3] (oD (dT e) o0) (zBo _ h),⟨(lz rfl),tv⟩,(zA (dT _) zB),tv,(zA (dT _) zB)⟩
def zGw(b:Nat)(a:zW):Option ((Unit) ⊕ zW):=
 Z5 b a>>=fun r1=>
 match r1 with
 | .inl y3=>
  zQF b []>>=fun r4=>
  some (.inl ())
 | .inr y6=>
  I0 b y6>>=fun r7=>
  gfz y6.length r7>>=fun l9=>
  some (.inr l9)
abbrev zQG (a:zW) (C:Cf):Prop:=C 166 [] [zH zC a .no] (zH zC ([]:zW) .full) [] 0
abbrev zQH (a r:zW) (C:Cf):Prop:=C 166 [] [zH zC a .no] (.ms 0 0 r.length r.length 3) [.row (zF zC r)] 0
theorem zUK:Qf 166 f166:=⟨func166,rfl⟩
theorem zUL{b a r}(h:zGw b a=some r):(match (generalizing:=false) r with | .inl x=>zQG a Ct | .inr x=>zQH a x Ct):=by
 unfold zGw at h
 obtain⟨r1,h2,h⟩:=zD h
 rcases r1 with y3|y6
 dsimp only at h
 obtain⟨r4,h5,h⟩:=zD h
 cases h
 exact⟨tG zUK 0 [] [] [] true (oD (dT ([]:zW))<|oC 0 [] (zXS h5)<|oC 0 [] (Z6 h2) o0),⟨⟨tv,dT _⟩,tv⟩,zB,dT _,zB⟩
 dsimp only at h
 obtain⟨r7,h8,h⟩:=zD h
 obtain⟨l9,h10,h⟩:=zD h
 obtain⟨h10a,h10b⟩:=tD h10
 cases h
 obtain rfl:=h10a.symm
 try dsimp only
 exact⟨by rw[←h10b];exact(tF zUK 0 [0] (oD (dT r7)<|oC 0 [0] (zIU h8)<|oC 0 [] (Z6 h2) o0)),⟨⟨tv,dT _⟩,tv⟩,zB,(lz rfl),(zA (dT _) zB)⟩
theorem zMa{b a r}(h:zGw b a=some r):(match (generalizing:=false) r with | .inl x=>CT prog 166 [] [zH zC a .no] (zH zC ([]:zW) (.st 0 3)) [] 1 | .inr x=>CT prog 166 [] [zH zC a .no] (zH zC x (.st 0 3)) [] 1):=by
 have k:=zUL h
 rcases r with y0|y1
 ·exact CT.stampNil k
 ·exact CT.freezeS k (dT _) (wQ xM.len _)
def zBn(a:Nat)(b:Tm)(c:zW):Option (Tm×Int):=
 zGw a c>>=fun r1=>
 match r1 with
 | .inl y3=>
  zFR a b []>>=fun r4=>
  some (r4.1,r4.2)
 | .inr y6=>
  zFR a b y6>>=fun r7=>
  some (r7.1,r7.2)
theorem zUM:Qf 102 f102:=⟨func102,rfl⟩
theorem R6{a b c r}(h:zBn a b c=some r):Ct 102 [] [xF b,zH zC c .no] (.tup [xF r.1,ai r.2]) [] 0:=⟨by
 unfold zBn at h
 obtain⟨r1,h2,h⟩:=zD h
 rcases r1 with y3|y6
 dsimp only at h
 obtain⟨r4,h5,h⟩:=zD h
 cases h
 exact tF zUM 3 [] (oD (dT r4.1.sub)<|oC 0 [] (zIC h5)<|oC 1 [] (zMa h2) o0)
 dsimp only at h
 obtain⟨r7,h8,h⟩:=zD h
 cases h
 exact tF zUM 3 [] (oD (dT r7.1.sub)<|oC 0 [] (zIC h8)<|oC 1 [] (zMa h2) o0),⟨⟨tv,tv,⟨tv,dT _⟩,tv⟩,⟨tv,dT _⟩,tv⟩,zB,⟨⟨tv,tv,dT _,tv⟩,tv,tv⟩,zB⟩
def e61(b:Nat)(a:Tm):Option Int:=
 jX b a>>=fun r1=>
 if r1 then
 zFM b a 0>>=fun r4=>
 some r4
 else
 none
theorem c61{b a r}(h:e61 b a=some r):Ct 61 [] [xF a] (ai r) [] 0:=⟨by
 unfold e61 at h
 obtain⟨r1,h2,h⟩:=zD h
 obtain⟨h3,h⟩:=xD h
 obtain⟨r4,h5,h⟩:=zD h
 obtain rfl:=sj h
 exact tF ⟨func61,rfl⟩ 0 [] (oC 2 [] (zTY h5)<|oK 1 [] h3 (jM h2) o0),⟨⟨tv,tv,⟨tv,dT _⟩,tv⟩,tv⟩,zB,tv,zB⟩
def bS:Nat->zW->Int->Option Bool
 |0,_,_=>none
 |b+1,a,c=>
 if decide (c<(a.length:Int))then
 yG a c>>=fun x2=>
 jX b x2>>=fun r4=>
 if r4 then
 e61 b x2>>=fun r7=>
 if decide (r7>c)then
 none
 else
 bS b a (xE (c+1))
 else
 none
 else
 some true
def zQI(b:Nat)(a:zW):Option Bool:=
 bS b a 0
theorem zMA:∀b:Nat,(∀ {a c r},bS b a c=some r->(∀j,dL 0 (pt 949 f111) (sp j 22 0 [(5,zH zC a .no),(6,ai (a.length:Int)),(7,ai c)]) (⟨[],0,[],0,[]⟩) (fQ 0 (nQ 0 f111 (ab r) [] 0) [.blk 0,.seq (pt 15 f111)]))):=by
 intro b
 induction b with
 |zero=>
  exact fun h=>nn h
 |succ b ih=>
  intro a c r h
  rw[bS]at h
  obtain⟨h1,h⟩|⟨h1,h⟩:=xA h
  obtain⟨x2,h3,h⟩:=zD h
  obtain⟨r4,h5,h⟩:=zD h
  have k:=oA 0 (wN (o:=.no) h3)<|oB 0 h1 o0
  obtain⟨h6,h⟩:=xD h
  obtain⟨r7,h8,h⟩:=zD h
  have k:=oC 2 [] (c61 h8)<|oK 3 [] h6 (jM h5) k
  obtain⟨h9,h⟩:=zT h
  exact fun j=>lH 1 [] [] [] [5,6,7] (oD (dT a)<|oB 0 h9 k) (ih h)
  cases h
  exact fun j=>lF 0 [] (oB 0 h1 o0)
theorem zXT{b a r}(h:zQI b a=some r):Ct 111 [] [zH zC a .no] (ab r) [] 0:=⟨by
 unfold zQI at h
 exact tH ⟨func111,rfl⟩ 1 [] [] [] [5,6,7] (oD (dT a) o0) (zMA _ h),⟨⟨tv,dT _⟩,tv⟩,zB,tv,zB⟩
def zDq(b:Nat)(a:Int):Option Tm:=
 w5 b 8 a []>>=fun r1=>
 some r1
theorem zGv{b a r}(h:zDq b a=some r):Ct 103 [] [ai a] (xF r) [] 0:=⟨by
 unfold zDq at h
 obtain⟨r1,h2,h⟩:=zD h
 obtain rfl:=sj h
 exact tF ⟨func103,rfl⟩ 1 [] (oD (dT r1.sub)<|oC 0 [] (zDx h2) o0),⟨tv,tv⟩,zB,⟨tv,tv,dT _,tv⟩,zB⟩
def u9:Nat->xN->zW->Int->Option zW
 |0,_,_,_=>none
 |b+1,a,c,d=>
 if decide (d<(a.length:Int))then
 yG a d>>=fun x2=>
 zDq b x2.n_>>=fun r4=>
 yV 40 c [r4]>>=fun l6=>
 u9 b a l6 (xE (d+1))
 else
 some c
def e58(b:Nat)(a:xN):Option zW:=
 u9 b a [] 0
theorem zQK:∀b:Nat,(∀ {a c d r},u9 b a c d=some r->(∀j,dL 0 (pt 4021 f58) (sp j 20 0 [(3,zH zC c (.st 0 3)),(6,zH zJ a .no),(7,ai (a.length:Int)),(8,ai d)]) (⟨[],0,[0],1,[]⟩) (fQ 0 (nQ 0 f58 (.sl (zF zC r) r.length .no) [] 0) [.blk 0,.seq (pt 63 f58)]))):=by
 intro b
 induction b with
 |zero=>
  exact fun h=>nn h
 |succ b ih=>
  intro a c d r h
  rw[u9]at h
  obtain⟨h1,h⟩|⟨h1,h⟩:=xA h
  obtain⟨x2,h3,h⟩:=zD h
  obtain⟨r4,h5,h⟩:=zD h
  obtain⟨l6,h7,h⟩:=zD h
  exact fun j=>lH 1 [] [] [1] [3,6,7,8] (oD (zE a)<|oD (dT l6)<|oP 0 (vO h7 (by simp))<|oS 0 (xL xU [r4])<|oC 3 [] (zGv h5)<|oA 0 (gX (o:=.no) h3)<|oB 0 h1 o0) (ih h)
  obtain rfl:=sj h
  exact fun j=>lF 0 [] (oD (dT c)<|oB 0 h1 o0)
theorem c58{b a r}(h:e58 b a=some r):Ct 58 [] [zH zJ a .no] (.sl (zF zC r) r.length .no) [] 0:=⟨by
 unfold e58 at h
 exact tH ⟨func58,rfl⟩ 1 [(none,3,3)] [] [0] [3,6,7,8] (oD (zE a)<|oD (dT ([]:zW)) o0) (zQK _ h),⟨⟨tv,zE _⟩,tv⟩,zB,dT _,zB⟩
def t6:Nat->zW->Int->Int->xN->Option (xN×Int)
 |0,_,_,_,_=>none
 |d+1,a,c,b,e=>
 if decide (b<(a.length:Int))then
 yG a b>>=fun x9=>
 e58 d e>>=fun r11=>
 zBn d x9 r11>>=fun r13=>
 if r13.2 != 0 then
 none
 else
 yV 48 e [(wI.mk (xE (c+b)) r13.1)]>>=fun l16=>
 t6 d a c (xE (b+1)) l16
 else
 some (e,0)
def e55(d:Nat)(a:zW)(c:Int):Option (xN×Int):=
 if decide (c<0)then
 none
 else
 if decide (c>1048576)then
 none
 else
 if decide ((a.length:Int)>(xE (1048576-c)))then
 none
 else
 zQI d a>>=fun r4=>
 if r4 then
 if decide ((a.length:Int)>24)then
 none
 else
 t6 d a c 0 []
 else
 none
theorem zQL:∀d:Nat,(∀ {a c b e r},t6 d a c b e=some r->(∀j,dL 0 (pt 65461 f55) (sp j 59 0 [(1,ai c),(6,zH zJ e (.st 0 4)),(32,zH zC a .no),(33,ai (a.length:Int)),(34,ai b)]) (⟨[],0,[0],1,[]⟩) (fQ 0 (nQ 0 f55 (.tup [zH zJ r.1 (.st 0 4),ai r.2]) [] 1) [.blk 0,.seq (pt 1023 f55)]))):=by
 intro d
 induction d with
 |zero=>
  exact fun h=>nn h
 |succ d ih=>
  intro a c b e r h
  rw[t6]at h
  obtain⟨h8,h⟩|⟨h8,h⟩:=xA h
  obtain⟨x9,h10,h⟩:=zD h
  obtain⟨r11,h12,h⟩:=zD h
  obtain⟨r13,h14,h⟩:=zD h
  have k:=oC 0 [] (R6 h14)<|oC 3 [] (c58 h12)<|oA 0 (wN (o:=.no) h10)<|oB 0 h8 o0
  obtain⟨h15,h⟩:=zT h
  obtain⟨l16,h17,h⟩:=zD h
  exact fun j=>lH 1 [] [] [1] [1,6,32,33,34] (oD (dT a)<|oD (zE l16)<|oP 3 (zAb h17 (by simp))<|oB 3 h15 k) (ih h)
  cases h
  exact fun j=>lG 0 [] [] [0] true (oD (zE e)<|oB 0 h8 o0)
theorem c55{d a c r}(h:e55 d a c=some r):Ct 55 [] [zH zC a .no,ai c] (.tup [zH zJ r.1 (.st 0 4),ai r.2]) [] 1:=⟨by
 unfold e55 at h
 obtain⟨h1,h⟩:=zT h
 have k:=oB 0 h1 o0
 obtain⟨h2,h⟩:=zT h
 have k:=oB 0 h2 k
 obtain⟨h3,h⟩:=zT h
 obtain⟨r4,h5,h⟩:=zD h
 have k:=oB 2 h3 k
 obtain⟨h6,h⟩:=xD h
 have k:=oK 0 [] h6 (zXT h5) k
 obtain⟨h7,h⟩:=zT h
 exact tH ⟨func55,rfl⟩ 1 [(none,6,4)] [] [0] [1,6,32,33,34] (oD (dT a)<|oD (zE ([]:xN))<|oB 2 h7 k) (zQL _ h),⟨⟨tv,dT _⟩,tv,tv⟩,zB,⟨zE _,tv,tv⟩,zB⟩
mutual
def zIV:Nat->zK->Int->Option Int
 |0,_,_=>none
 |c+1,a,d=>
 bT c a (xE (d+1)) 0
def bT:Nat->zK->Int->Int->Option Int
 |0,_,_,_=>none
 |c+1,a,e,b=>
 if decide (b<(a.sub_.length:Int))then
 yG a.sub_ b>>=fun x2=>
 if decide (e>8192)then
 none
 else
 zIV c x2 e>>=fun r5=>
 bT c a r5 (xE (b+1))
 else
 some e
end
abbrev zUP (a:zK) (d r:Int) (C:Cf):Prop:=C 346 [] [xZ a,ai d] (ai r) [] 0
theorem zBm:∀c:Nat,(∀ {a d r},zIV c a d=some r->zUP a d r Ct)∧(∀ {a e b r},bT c a e b=some r->(∀j,dL 0 (pt 4021 f346) (sp j 23 0 [(1,ai e),(10,zH zI a.sub_ .no),(11,ai (a.sub_.length:Int)),(12,ai b)]) (⟨[],0,[],0,[]⟩) (fQ 0 (nQ 0 f346 (ai r) [] 0) [.blk 0,.seq (pt 63 f346)]))):=by
 intro c
 induction c with
 |zero=>
  exact⟨fun h=>nn h,fun h=>nn h⟩
 |succ c ih=>
  obtain⟨zUQ,zBl⟩:=ih
  refine⟨?_,?_⟩
  intro a d r h
  rw[zIV]at h
  exact⟨tH ⟨func346,rfl⟩ 3 [] [] [] [1,10,11,12] (oD (zX a.sub_) o0) (zBl h),⟨⟨tv,tv,tv,⟨tv,zX _⟩,tv,tv,⟨tv,dT _⟩,tv⟩,tv,tv⟩,zB,tv,zB⟩
  intro a e b r h
  rw[bT]at h
  obtain⟨h1,h⟩|⟨h1,h⟩:=xA h
  obtain⟨x2,h3,h⟩:=zD h
  have k:=oA 0 (lZ (o:=.no) h3)<|oB 0 h1 o0
  obtain⟨h4,h⟩:=zT h
  obtain⟨r5,h6,h⟩:=zD h
  exact fun j=>lH 1 [] [] [] [1,10,11,12] (oD (zX a.sub_)<|oC 1 [] (zUQ h6)<|oB 2 h4 k) (zBl h)
  obtain rfl:=sj h
  exact fun j=>lF 0 [] (oB 0 h1 o0)
theorem zXV{c a d r}(h:zIV c a d=some r):zUP a d r Ct:=(zBm _).1 h
def zQM(b:Nat)(a:zK):Option Int:=
 zIV b a 0>>=fun r1=>
 some r1
theorem zXW{b a r}(h:zQM b a=some r):Ct 254 [] [xZ a] (ai r) [] 0:=⟨by
 unfold zQM at h
 obtain⟨r1,h2,h⟩:=zD h
 obtain rfl:=sj h
 exact tF ⟨func254,rfl⟩ 0 [] (oC 1 [] (zXV h2) o0),⟨⟨tv,tv,tv,⟨tv,zX _⟩,tv,tv,⟨tv,dT _⟩,tv⟩,tv⟩,zB,tv,zB⟩
mutual
def zIW:Nat->zK->Int->Option Int
 |0,_,_=>none
 |d+1,a,b=>
 if decide (b>128)then
 none
 else
 bU d a b 0 b
def bU:Nat->zK->Int->Int->Int->Option Int
 |0,_,_,_,_=>none
 |d+1,a,b,c,e=>
 if decide (c<(a.sub_.length:Int))then
 yG a.sub_ c>>=fun x3=>
 zIW d x3 (xE (b+1))>>=fun r5=>
 bU d a b (xE (c+1)) (X4 e r5)
 else
 some e
end
abbrev zUR (a:zK) (b r:Int) (C:Cf):Prop:=C 255 [] [xZ a,ai b] (ai r) [] 0
theorem zBk:∀d:Nat,(∀ {a b r},zIW d a b=some r->zUR a b r Ct)∧(∀ {a b c e r},bU d a b c e=some r->(∀j,dL 0 (pt 16309 f255) (sp j 27 0 [(1,ai b),(5,ai e),(13,zH zI a.sub_ .no),(14,ai (a.sub_.length:Int)),(15,ai c)]) (⟨[],0,[],0,[]⟩) (fQ 0 (nQ 0 f255 (ai r) [] 0) [.blk 0,.seq (pt 255 f255)]))):=by
 intro d
 induction d with
 |zero=>
  exact⟨fun h=>nn h,fun h=>nn h⟩
 |succ d ih=>
  obtain⟨zUS,zBj⟩:=ih
  refine⟨?_,?_⟩
  intro a b r h
  rw[zIW]at h
  obtain⟨h1,h⟩:=zT h
  exact⟨tH ⟨func255,rfl⟩ 2 [] [] [] [1,5,13,14,15] (oD (zX a.sub_)<|oB 0 h1 o0) (zBj h),⟨⟨tv,tv,tv,⟨tv,zX _⟩,tv,tv,⟨tv,dT _⟩,tv⟩,tv,tv⟩,zB,tv,zB⟩
  intro a b c e r h
  rw[bU]at h
  obtain⟨h2,h⟩|⟨h2,h⟩:=xA h
  obtain⟨x3,h4,h⟩:=zD h
  obtain⟨r5,h6,h⟩:=zD h
  exact fun j=>lH 2 [] [] [] [1,5,13,14,15] (oD (zX a.sub_)<|oC 4 [] (zUS h6)<|oA 0 (lZ (o:=.no) h4)<|oB 0 h2 o0) (zBj h)
  obtain rfl:=sj h
  exact fun j=>lF 0 [] (oB 0 h2 o0)
theorem zXX{d a b r}(h:zIW d a b=some r):zUR a b r Ct:=(zBk _).1 h
def zMB(b:Nat)(a:zK):Option Bool:=
 zQM b a>>=fun r1=>
 if decide (r1≤8192)then
 zIW b a 1>>=fun r4=>
 some (decide (r4≤128))
 else
 none
theorem zUT{b a r}(h:zMB b a=some r):Ct 168 [] [xZ a] (ab r) [] 0:=⟨by
 unfold zMB at h
 obtain⟨r1,h2,h⟩:=zD h
 have k:=oC 1 [] (zXW h2) o0
 obtain⟨h3,h⟩:=xD h
 obtain⟨r4,h5,h⟩:=zD h
 cases h
 exact tF ⟨func168,rfl⟩ 1 [] (oC 1 [] (zXX h5)<|oB 0 h3 k),⟨⟨tv,tv,tv,⟨tv,zX _⟩,tv,tv,⟨tv,dT _⟩,tv⟩,tv⟩,zB,tv,zB⟩
mutual
def zGu:Nat->List zK->Option zU
 |0,_=>none
 |b+1,a=>
 bV b a [] 0
def bV:Nat->List zK->zU->Int->Option zU
 |0,_,_,_=>none
 |b+1,a,c,d=>
 if decide (d<(a.length:Int))then
 yG a d>>=fun x2=>
 zMB b x2>>=fun r4=>
 if r4 then
 zQN b x2>>=fun r7=>
 yV 8 c r7>>=fun l9=>
 bV b a l9 (xE (d+1))
 else
 none
 else
 some c
def zQN:Nat->zK->Option zU
 |0,_=>none
 |b+1,a=>
 if a.kind_==1 then
 some [a.n_]
 else
 zGu b a.sub_>>=fun r2=>
 some r2
end
abbrev zUU (a:List zK) (r:zU) (C:Cf):Prop:=C 105 [] [zH zI a .no] (zH zS r (.st 0 1)) [] 1
abbrev zQO (a:zK) (r:zU) (C:Cf):Prop:=C 169 [] [xZ a] (.sl (zF zS r) r.length .no) [] 0
theorem zUV:Qf 169 f169:=⟨func169,rfl⟩
theorem zUW{a r}(h:zQO a r Ci):zQO a r Ct:=⟨h,⟨⟨tv,tv,tv,⟨tv,zX _⟩,tv,tv,⟨tv,dT _⟩,tv⟩,tv⟩,zB,dI _,zB⟩
theorem cH:∀b:Nat,(∀ {a r},zGu b a=some r->zUU a r Ct)∧(∀ {a c d r},bV b a c d=some r->(∀j,dL 0 (pt 4021 f105) (sp j 20 0 [(3,zH zS c (.st 0 1)),(6,zH zI a .no),(7,ai (a.length:Int)),(8,ai d)]) (⟨[],0,[0],1,[]⟩) (fQ 0 (nQ 0 f105 (zH zS r (.st 0 1)) [] 1) [.blk 0,.seq (pt 63 f105)])))∧(∀ {a r},zQN b a=some r->zQO a r Ct):=by
 intro b
 induction b with
 |zero=>
  exact⟨fun h=>nn h,fun h=>nn h,fun h=>nn h⟩
 |succ b ih=>
  obtain⟨zUX,I1,zUY⟩:=ih
  refine⟨?_,?_,?_⟩
  intro a r h
  rw[zGu]at h
  exact⟨tH ⟨func105,rfl⟩ 1 [(none,3,1)] [] [0] [3,6,7,8] (oD (zX a)<|oD (dI ([]:zU)) o0) (I1 h),⟨⟨tv,zX _⟩,tv⟩,zB,dI _,zB⟩
  intro a c d r h
  rw[bV]at h
  obtain⟨h1,h⟩|⟨h1,h⟩:=xA h
  obtain⟨x2,h3,h⟩:=zD h
  obtain⟨r4,h5,h⟩:=zD h
  have k:=oA 0 (lZ (o:=.no) h3)<|oB 0 h1 o0
  obtain⟨h6,h⟩:=xD h
  obtain⟨r7,h8,h⟩:=zD h
  obtain⟨l9,h10,h⟩:=zD h
  have k:=oC 1 [] (zUY h8)<|oK 3 [] h6 (zUT h5) k
  by_cases h11:List.length r7=0
  exact fun j=>lH 1 [] [] [0] [3,6,7,8] (oD (zX a)<|oD (dI l9)<|oP 0 (zAc h10 h11) k) (I1 h)
  exact fun j=>lH 1 [] [] [1] [3,6,7,8] (oD (zX a)<|oD (dI l9)<|oP 0 (sG h10 h11) k) (I1 h)
  obtain rfl:=sj h
  exact fun j=>lG 0 [] [] [0] true (oD (dI c)<|oB 0 h1 o0)
  intro a r h
  rw[zQN]at h
  obtain⟨h1,h⟩|⟨h1,h⟩:=xA h
  obtain rfl:=sj h
  exact zUW (tF zUV 2 [] (oD (dI [a.n_])<|oB 1 h1 o0))
  obtain⟨r2,h3,h⟩:=zD h
  obtain rfl:=sj h
  exact zUW (tF zUV 0 [] (oD (dI r2)<|oC 1 [] (zUX h3)<|oB 1 h1 o0))
theorem zUZ{b a r}(h:zGu b a=some r):zUU a r Ct:=(cH _).1 h
end Go.Proofs.YthncfoeaibgmnaaGreat
