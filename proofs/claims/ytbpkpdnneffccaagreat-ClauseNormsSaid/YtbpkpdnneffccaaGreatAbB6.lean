/- Parts of the proof that the law returns true: walks of the functions, plain laws. -/
import Derived.KernelRfl
import Derived.Test.YtbpkpdnneffccaaGreatAbB5
set_option linter.unusedVariables false
set_option linter.unusedSimpArgs false
set_option linter.unusedSectionVars false
namespace Go.Proofs.YtbpkpdnneffccaaGreat
open Go Go.Ab Go.Proofs.Tryz
def iI:Nat->wF->Int->Int->Int->Int->zQ->Int->Int->zQ->Int->zQ->Option ((yL×Int×Int×Int) ⊕ (zQ×Int×Int×Int×zQ×Int×Int×Int))
 |0,_,_,_,_,_,_,_,_,_,_,_=>none
 |qq+1,M,v35,vA,uN,vP,v85,v86,iW,nD,v87,nE=>
 if decide (v87<v86)then
 zR v85 v87>>=fun x28=>
 e26 qq x28>>=fun r30=>
 xQ 40 nE [r30]>>=fun l32=>
 iI qq M v35 vA uN vP v85 v86 iW nD (xL (v87+1)) l32
 else
 gfz nE.length nE>>=fun l34=>
 some (.inr (l34,v35,vP,iW,nD,0,vA,uN))
def iJ(qq:Nat)(M:wF)(v35:Int)(v85:zQ)(v86 v87 vA uN vP iW:Int)(nD:zQ):Option ((yL×Int×Int×Int) ⊕ (zQ×Int×Int×Int×zQ×Int×Int×Int)):=
 if decide (v87<v86)then
 zR v85 v87>>=fun x21=>
 e26 qq x21>>=fun r23=>
 xQ 40 ([]:zQ) [r23]>>=fun l25=>
 iI qq M v35 vA uN vP v85 v86 iW nD (xL (v87+1)) l25
 else
 some (.inl ((yL.mk v35 [] (Tm.mk vP iW nD)),0,vA,uN))
def nA:Nat->wF->List zJ->Nat->Nat->Int->Int->Int->Int->zQ->Option ((yL×Int×Int×Int) ⊕ (zQ×Int×Int×Int×zQ×Int×Int×Int))
 |0,_,_,_,_,_,_,_,_,_=>none
 |qq+1,M,p1,v11_c,v11_n,v35,vA,uN,vP,nE=>
 if decide (v35<(p1.length:Int))then
 zR p1 v35>>=fun x8=>
 lB qq M.l M.rl M.parts M.args M.own vA uN vP x8.pats_ nE v11_n v11_c>>=fun r10=>
 match r10 with
 | .inl y12=>
  if y12.2.2.1 != 0 then
  some (.inl ((yL.mk 0 [] (Tm.mk 0 0 [])),y12.2.2.1,y12.2.2.2.1,y12.2.2.2.2.1))
  else
  if y12.1==1 then
  nA qq M p1 v11_c v11_n (xL (v35+1)) y12.2.2.2.1 y12.2.2.2.2.1 y12.2.2.1 y12.2.2.2.2.2
  else
  if y12.1==2 then
  some (.inl ((yL.mk 0 [] (Tm.mk 0 0 [])),13,y12.2.2.2.1,y12.2.2.2.2.1))
  else
  if x8.has_ then
  e25 qq x8.body_ y12.2.1>>=fun r17=>
  if r17.2 != 0 then
  some (.inl ((yL.mk 0 [] (Tm.mk 0 0 [])),r17.2,y12.2.2.2.1,y12.2.2.2.2.1))
  else
  iJ qq M v35 y12.2.1 (y12.2.1.length:Int) 0 y12.2.2.2.1 y12.2.2.2.2.1 r17.1.k r17.1.n r17.1.sub
  else
  some (.inl ((yL.mk 0 [] (Tm.mk 0 0 [])),13,y12.2.2.2.1,y12.2.2.2.2.1))
 | .inr y20=>
  if y20.2.2.2.1 != 0 then
  some (.inl ((yL.mk 0 [] (Tm.mk 0 0 [])),y20.2.2.2.1,y20.2.2.2.2.1,y20.2.2.2.2.2.1))
  else
  if y20.2.1==1 then
  nA qq M p1 v11_c v11_n (xL (v35+1)) y20.2.2.2.2.1 y20.2.2.2.2.2.1 y20.2.2.2.1 y20.2.2.2.2.2.2
  else
  if y20.2.1==2 then
  some (.inl ((yL.mk 0 [] (Tm.mk 0 0 [])),13,y20.2.2.2.2.1,y20.2.2.2.2.2.1))
  else
  if x8.has_ then
  e25 qq x8.body_ y20.1>>=fun r25=>
  if r25.2 != 0 then
  some (.inl ((yL.mk 0 [] (Tm.mk 0 0 [])),r25.2,y20.2.2.2.2.1,y20.2.2.2.2.2.1))
  else
  iJ qq M v35 y20.1 (y20.1.length:Int) 0 y20.2.2.2.2.1 y20.2.2.2.2.2.1 r25.1.k r25.1.n r25.1.sub
  else
  some (.inl ((yL.mk 0 [] (Tm.mk 0 0 [])),13,y20.2.2.2.2.1,y20.2.2.2.2.2.1))
 else
 some (.inl ((yL.mk 0 [] (Tm.mk 0 0 [])),16,vA,uN))
def e10(qq:Nat)(M:wF)(p1:List zJ)(p2:zQ)(fl fu:Int):Option ((yL×Int×Int×Int) ⊕ (zQ×Int×Int×Int×zQ×Int×Int×Int)):=
 e22 qq M p1 p2>>=fun r1=>
 if r1 then
 M2 qq p2>>=fun r4=>
 match r4 with
 | .inl y6=>
  nA qq M p1 (List.length ([]:zQ)) (List.length ([]:zQ)) 0 fl fu 0 ([]:zQ)
 | .inr y7=>
  nA qq M p1 y7.length y7.length 0 fl fu 0 y7
 else
 some (.inl ((yL.mk 0 [] (Tm.mk 0 0 [])),5,fl,fu))
section
variable (M:wF) (p1:List zJ) (p2:zQ) (fl fu:Int)
abbrev zOS (r:yL×Int×Int×Int) (C:Cf):Prop:=C 10 [mB M 1,mR M,.cells [ai fl,ai fu]] [.mp 0 0,zO zY p1 .no,zO zD p2 .no,.mp 2 0] (.tup [vD r.1,ai r.2.1]) [mB M 1,mR M,.cells [ai r.2.2.1,ai r.2.2.2]] 0
abbrev zOT (r:zQ×Int×Int×Int×zQ×Int×Int×Int) (C:Cf):Prop:=C 10 [mB M 1,mR M,.cells [ai fl,ai fu]] [.mp 0 0,zO zY p1 .no,zO zD p2 .no,.mp 2 0] (.tup [.agg [ai r.2.1,.ms 3 0 r.1.length r.1.length 3,ai r.2.2.1,ai r.2.2.2.1,zO zD r.2.2.2.2.1 .no],ai r.2.2.2.2.2.1]) [mB M 1,mR M,.cells [ai r.2.2.2.2.2.2.1,ai r.2.2.2.2.2.2.2],.row (flat zD r.1)] 0
end
theorem qG:Qf 10 Tryz.f10:=⟨func10,rfl⟩
theorem zOU{M p1 p2 fl fu r}(h:zOS M p1 p2 fl fu r Ci):zOS M p1 p2 fl fu r Ct:=⟨h,⟨(lz rfl),⟨tv,yC _⟩,⟨tv,dT _⟩,(lz rfl),tv⟩,(eH (lz rfl) (zC ⟨tv,tv,tv⟩ zA)),⟨⟨tv,dT _,tv,tv,dT _,tv⟩,tv,tv⟩,(iY (lz rfl) (zC ⟨tv,tv,tv⟩ zA))⟩
theorem zSJ{M p1 p2 fl fu r}(h:zOT M p1 p2 fl fu r Ci):zOT M p1 p2 fl fu r Ct:=⟨h,⟨(lz rfl),⟨tv,yC _⟩,⟨tv,dT _⟩,(lz rfl),tv⟩,(eH (lz rfl) (zC ⟨tv,tv,tv⟩ zA)),⟨⟨tv,(lz rfl),tv,tv,dT _,tv⟩,tv,tv⟩,(iY (lz rfl) (zC ⟨tv,tv,tv⟩ (zC (dT _) zA)))⟩
theorem zUS:∀qq:Nat,(∀ {M v35 vA uN vP v85 v86 iW nD v87 nE r},iI qq M v35 vA uN vP v85 v86 iW nD v87 nE=some r->(∀j,dL 3 (pt 246270734106549 Tryz.f10) (sp j 102 0 [(8,.mp 3 0),(18,.mp 4 0),(85,zO zD v85 .no),(86,ai v86),(87,ai v87)]) (⟨[(0,mB M 1),(1,mR M),(2,.cells [ai vA,ai uN]),(3,.cells [ai 0,zO zD ([]:zQ) .nl,ai 0,ai 0,zO zD ([]:zQ) .nl]),(4,.cells [ai v35,.ms 5 0 nE.length nE.length 3,ai vP,ai iW,zO zD nD .no]),(5,.row (flat zD nE))],6,[],0,[]⟩) (fQ 3 ((match (generalizing:=false) r with | .inl x=>nQ 3 Tryz.f10 (.tup [vD x.1,ai x.2.1]) [mB M 1,mR M,.cells [ai x.2.2.1,ai x.2.2.2]] 0 | .inr x=>nQ 3 Tryz.f10 (.tup [.agg [ai x.2.1,.ms 3 0 x.1.length x.1.length 3,ai x.2.2.1,ai x.2.2.2.1,zO zD x.2.2.2.2.1 .no],ai x.2.2.2.2.2.1]) [mB M 1,mR M,.cells [ai x.2.2.2.2.2.2.1,ai x.2.2.2.2.2.2.2],.row (flat zD x.1)] 0)) [.blk 3,.seq (pt 3847980220415 Tryz.f10),.blk 1,.seq (pt 58715519 Tryz.f10),.loop (pt 917429 Tryz.f10),.blk 0,.seq (pt 14335 Tryz.f10)]))):=by
 intro qq
 induction qq with
 |zero=>
  exact fun h=>nn h
 |succ qq ih=>
  intro M v35 vA uN vP v85 v86 iW nD v87 nE r h
  rw[iI]at h
  obtain⟨h27,h⟩|⟨h27,h⟩:=zL h
  obtain⟨x28,h29,h⟩:=zB h
  obtain⟨r30,h31,h⟩:=zB h
  obtain⟨l32,h33,h⟩:=zB h
  exact fun j=>lH 2 [] [0,1,2,3,4,7] [] [8,18,85,86,87] (oD (dT v85)<|oD (dT l32)<|oD (dT nD)<|oD (dT ([]:zQ))<|oD (dT ([]:zQ))<|rF M<|oM 0 (zVT h33 (by simp))<|oS 0 (xJ xM [r30])<|oC 1 [] (c26 h31)<|oCl 2<|oA 0 (wN (o:=.no) h29)<|oB 0 h27 o0) (ih h)
  obtain⟨l34,h35,h⟩:=zB h
  obtain⟨h35a,h35b⟩:=gZ h35
  cases h
  obtain rfl:=h35a.symm
  try dsimp only
  rw[←h35b]
  exact fun j=>lF 2 [0,1,2,5] (oD (dT nD)<|oD (dT nE)<|rF M<|oB 0 h27 o0)
theorem zOV{qq M v35 v85 v86 v87 vA uN vP iW nD r}(h:iJ qq M v35 v85 v86 v87 vA uN vP iW nD=some r):(∀j,dL 3 (pt 246270734106549 Tryz.f10) (sp j 102 0 [(8,.mp 3 0),(18,.mp 4 0),(85,zO zD v85 .no),(86,ai v86),(87,ai v87)]) (⟨[(0,mB M 1),(1,mR M),(2,.cells [ai vA,ai uN]),(3,.cells [ai 0,zO zD ([]:zQ) .nl,ai 0,ai 0,zO zD ([]:zQ) .nl]),(4,.cells [ai v35,zO zD ([]:zQ) .nl,ai vP,ai iW,zO zD nD .no])],5,[],0,[]⟩) (fQ 3 ((match (generalizing:=false) r with | .inl x=>nQ 3 Tryz.f10 (.tup [vD x.1,ai x.2.1]) [mB M 1,mR M,.cells [ai x.2.2.1,ai x.2.2.2]] 0 | .inr x=>nQ 3 Tryz.f10 (.tup [.agg [ai x.2.1,.ms 3 0 x.1.length x.1.length 3,ai x.2.2.1,ai x.2.2.2.1,zO zD x.2.2.2.2.1 .no],ai x.2.2.2.2.2.1]) [mB M 1,mR M,.cells [ai x.2.2.2.2.2.2.1,ai x.2.2.2.2.2.2.2],.row (flat zD x.1)] 0)) [.blk 3,.seq (pt 3847980220415 Tryz.f10),.blk 1,.seq (pt 58715519 Tryz.f10),.loop (pt 917429 Tryz.f10),.blk 0,.seq (pt 14335 Tryz.f10)])):=by
 unfold iJ at h
 obtain⟨h20,h⟩|⟨h20,h⟩:=zL h
 obtain⟨x21,h22,h⟩:=zB h
 obtain⟨r23,h24,h⟩:=zB h
 obtain⟨l25,h26,h⟩:=zB h
 exact fun j=>lH 2 [] [0,1,2,3,4,6] [] [8,18,85,86,87] (oD (dT v85)<|oD (dT l25)<|oD (dT nD)<|oD (dT ([]:zQ))<|oD (dT ([]:zQ))<|rF M<|oM 0 (zRZ h26 (by simp))<|oS 0 (xJ xM [r23])<|oC 1 [] (c26 h24)<|oCl 2<|oA 0 (wN (o:=.no) h22)<|oB 0 h20 o0) (zUS _ h)
 cases h
 exact fun j=>lF 2 [0,1,2] (oD (dT nD)<|oD (dT ([]:zQ))<|rF M<|oB 0 h20 o0)
theorem zBb:∀qq:Nat,(∀ {M p1 v11_c v11_n v35 vA uN vP nE r},nA qq M p1 v11_c v11_n v35 vA uN vP nE=some r->(∀j,dL 3 (pt 917429 Tryz.f10) (sp j 102 0 [(8,.mp 3 0),(10,.mp 4 0),(11,.ms 5 0 v11_n v11_c 3),(33,zO zY p1 .no),(34,ai (p1.length:Int)),(35,ai v35)]) (⟨[(0,mB M 1),(1,mR M),(2,.cells [ai vA,ai uN]),(3,.cells [ai 0,zO zD ([]:zQ) .nl,ai 0,ai 0,zO zD ([]:zQ) .nl]),(4,.cells [.mp 0 0,.mp 2 0,ai vP]),(5,.row (flat zD nE))],6,[],0,[]⟩) (fQ 3 ((match (generalizing:=false) r with | .inl x=>nQ 3 Tryz.f10 (.tup [vD x.1,ai x.2.1]) [mB M 1,mR M,.cells [ai x.2.2.1,ai x.2.2.2]] 0 | .inr x=>nQ 3 Tryz.f10 (.tup [.agg [ai x.2.1,.ms 3 0 x.1.length x.1.length 3,ai x.2.2.1,ai x.2.2.2.1,zO zD x.2.2.2.2.1 .no],ai x.2.2.2.2.2.1]) [mB M 1,mR M,.cells [ai x.2.2.2.2.2.2.1,ai x.2.2.2.2.2.2.2],.row (flat zD x.1)] 0)) [.blk 0,.seq (pt 14335 Tryz.f10)]))):=by
 intro qq
 induction qq with
 |zero=>
  exact fun h=>nn h
 |succ qq ih=>
  intro M p1 v11_c v11_n v35 vA uN vP nE r h
  rw[nA]at h
  have z {os ob} (k:Oz os ob):=oD (dT ([]:zQ))<|oD (dT ([]:zQ))<|rF M<|k
  obtain⟨h7,h⟩|⟨h7,h⟩:=zL h
  obtain⟨x8,h9,h⟩:=zB h
  obtain⟨r10,h11,h⟩:=zB h
  have k:=oA 0 (zJv (o:=.no) h9)<|oB 0 h7 o0
  rcases r10 with y12|y20
  dsimp only at h
  have k:=oC 3 [4,0,1,2,5] (zHY h11) k
  obtain⟨h13,h⟩|⟨h13,h⟩:=zL h
  cases h
  exact fun j=>lF 2 [0,1,2] (z<|oB 3 h13 k)
  have k:=oB 3 h13 k
  obtain⟨h14,h⟩|⟨h14,h⟩:=zL h
  exact fun j=>lH 1 [] [0,1,2,3,4,5] [] [8,10,11,33,34,35] (oD (yC p1)<|oD (dT y12.2.2.2.2.2)<|z<|oB 0 h14 k) (ih h)
  have k:=oB 0 h14 k
  obtain⟨h15,h⟩|⟨h15,h⟩:=zL h
  cases h
  exact fun j=>lF 1 [0,1,2] (z<|oB 0 h15 k)
  have k:=oB 0 h15 k
  obtain⟨h16,h⟩|⟨h16,h⟩:=zL h
  obtain⟨r17,h18,h⟩:=zB h
  have k:=oC 2 [] (c25 h18)<|oB 0 h16 k
  obtain⟨h19,h⟩|⟨h19,h⟩:=zL h
  cases h
  exact fun j=>lF 1 [0,1,2] (z<|oB 3 h19 k)
  exact fun j=>lH 3 [] [0,1,2,3,8] [] [8,18,85,86,87] (oD (dT y12.2.1)<|oD (dT r17.1.sub)<|oD (dT ([]:zQ))<|z<|oB 3 h19 k) (zOV h)
  cases h
  exact fun j=>lF 2 [0,1,2] (z<|oB 0 h16 k)
  dsimp only at h
  have k:=oC 3 [4,0,1,2,5] (zHY h11) k
  obtain⟨h21,h⟩|⟨h21,h⟩:=zL h
  cases h
  exact fun j=>lF 2 [0,1,2] (z<|oB 3 h21 k)
  have k:=oB 3 h21 k
  obtain⟨h22,h⟩|⟨h22,h⟩:=zL h
  exact fun j=>lH 1 [] [0,1,2,3,4,5] [] [8,10,11,33,34,35] (oD (yC p1)<|oD (dT y20.2.2.2.2.2.2)<|z<|oB 0 h22 k) (ih h)
  have k:=oB 0 h22 k
  obtain⟨h23,h⟩|⟨h23,h⟩:=zL h
  cases h
  exact fun j=>lF 1 [0,1,2] (z<|oB 0 h23 k)
  have k:=oB 0 h23 k
  obtain⟨h24,h⟩|⟨h24,h⟩:=zL h
  obtain⟨r25,h26,h⟩:=zB h
  have k:=oC 2 [] (c25 h26)<|oB 0 h24 k
  obtain⟨h27,h⟩|⟨h27,h⟩:=zL h
  cases h
  exact fun j=>lF 1 [0,1,2] (z<|oB 3 h27 k)
  exact fun j=>lH 3 [] [0,1,2,3,8] [] [8,18,85,86,87] (oD (dT y20.1)<|oD (dT r25.1.sub)<|oD (dT ([]:zQ))<|z<|oB 3 h27 k) (zOV h)
  cases h
  exact fun j=>lF 2 [0,1,2] (z<|oB 0 h24 k)
  cases h
  exact fun j=>lF 1 [0,1,2] (z<|oB 0 h7 o0)
theorem zZi{qq M p1 p2 fl fu r}(h:e10 qq M p1 p2 fl fu=some r):(match (generalizing:=false) r with | .inl x=>zOS M p1 p2 fl fu x Ct | .inr x=>zOT M p1 p2 fl fu x Ct):=by
 unfold e10 at h
 have z {os ob} (k:Oz os ob):=oD (dT ([]:zQ))<|oD (dT ([]:zQ))<|rF M<|k
 obtain⟨r1,h2,h⟩:=zB h
 obtain⟨h3,h⟩|⟨h3,h⟩:=zL h
 obtain⟨r4,h5,h⟩:=zB h
 have k:=oK 0 [0,1] h3 (c22 h2) o0
 rcases r4 with y6|y7
 dsimp only at h
 rcases r with y0|y1
 exact zOU (tH qG 1 [(none,11,4099)] [0,1,2,3,4,5] [] [8,10,11,33,34,35] (oD (yC p1)<|oD (dT ([]:zQ))<|z<|oC 1 [] (iU h5) k) (zBb _ h))
 exact zSJ (tH qG 1 [(none,11,4099)] [0,1,2,3,4,5] [] [8,10,11,33,34,35] (oD (yC p1)<|oD (dT ([]:zQ))<|z<|oC 1 [] (iU h5) k) (zBb _ h))
 dsimp only at h
 rcases r with y0|y1
 exact zOU (tH qG 1 [] [0,1,2,3,4,5] [] [8,10,11,33,34,35] (oD (yC p1)<|oD (dT y7)<|z<|oC 1 [] (iU h5) k) (zBb _ h))
 exact zSJ (tH qG 1 [] [0,1,2,3,4,5] [] [8,10,11,33,34,35] (oD (yC p1)<|oD (dT y7)<|z<|oC 1 [] (iU h5) k) (zBb _ h))
 cases h
 exact zOU (tF qG 2 [0,1,2] (z<|oK 0 [0,1] h3 (c22 h2) o0))
theorem N2{qq M p1 p2 fl fu r}(h:e10 qq M p1 p2 fl fu=some r):(match (generalizing:=false) r with | .inl x=>CT prog 10 [mB M 1,mR M,.cells [ai fl,ai fu]] [.mp 0 0,zO zY p1 .no,zO zD p2 .no,.mp 2 0] (.tup [vD x.1,ai x.2.1]) [mB M 1,mR M,.cells [ai x.2.2.1,ai x.2.2.2]] 0 | .inr x=>CT prog 10 [mB M 1,mR M,.cells [ai fl,ai fu]] [.mp 0 0,zO zY p1 .no,zO zD p2 .no,.mp 2 0] (.tup [vD (yL.mk x.2.1 x.1 (Tm.mk x.2.2.1 x.2.2.2.1 x.2.2.2.2.1)),ai x.2.2.2.2.2.1]) [mB M 1,mR M,.cells [ai x.2.2.2.2.2.2.1,ai x.2.2.2.2.2.2.2]] 0):=by
 have k:=zZi h
 rcases r with y0|y1
 ·exact k
 ·exact CT.freeze (H1:=[mB M 1,mR M,.cells [ai y1.2.2.2.2.2.2.1,ai y1.2.2.2.2.2.2.2]]) (cs:=flat zD y1.1) (res':=(.tup [vD (yL.mk y1.2.1 y1.1 (Tm.mk y1.2.2.1 y1.2.2.2.1 y1.2.2.2.2.1)),ai y1.2.2.2.2.2.1])) k (Nat.le_of_ble_eq_true rfl) (iY (lz rfl) (zC ⟨tv,tv,tv⟩ zA)) (dT _) ⟨⟨trivial,(.inl ⟨rfl,rfl⟩),trivial,trivial,dT _,tv⟩,trivial,tv⟩ (by rfl) rfl
mutual
theorem zOW{l:List zU}:∀(p:zF) {t x:Tm} {how e:Int} {bs:List Tm},Mr l p t how x e bs->how=0∨how=1∨how=2
 | .mk k n _ ps _,t,x,how,e,bs,h=>by
  rw[Mr]at h
  rcases h with⟨-,h,-⟩|⟨-,h,-⟩|⟨-,h,-⟩|⟨-,-,-,⟨-,h,-⟩|⟨-,h,-⟩|⟨y,hw,⟨-,h,-⟩|⟨-,xs,hm,-⟩⟩⟩
  ·exact .inl h
  ·exact .inl h
  ·exact .inr (.inl h)
  ·exact .inr (.inr h)
  ·exact .inr (.inr h)
  ·exact .inr (.inl h)
  ·exact zIy ps hm
theorem zIy{l:List zU}:∀(ps:List zF) {ts xs:List Tm} {how e:Int} {bs:List Tm},G5 l ps ts how xs e bs->how=0∨how=1∨how=2
 | [],ts,xs,how,e,bs,h=>by rw[G5]at h;exact .inl h.1
 |p::ps,[],xs,how,e,bs,h=>by rw[G5]at h;exact h.elim
 |p::ps,t::ts,xs,how,e,bs,h=>by
  rw[G5]at h
  rcases h with⟨-,x,h,-⟩|⟨x,b1,b2,xs',-,h,-⟩
  ·exact zOW p h
  ·exact zIy ps h
end
theorem zOX{l:List zU}:∀(ps:List zF) {ts xs:List Tm} {how:Int} {bs:List Tm},Rw l ps ts how xs 0 bs->how=0∨how=1∨how=2
 | [],ts,xs,how,bs,h=>by rw[Rw]at h;exact .inl h.1
 |p::ps,[],xs,how,bs,h=>by rw[Rw]at h;exact h.elim
 |p::ps,t::ts,xs,how,bs,h=>by
  rw[Rw]at h
  obtain⟨how1,x,e1,b1,h1,⟨h2,h3⟩|⟨-,-,h3⟩|⟨-,-,⟨-,h3,-⟩|⟨-,xs',b2,h4,-⟩⟩⟩:=h
  ·exact absurd h3.symm h2
  ·exact absurd h3 (by decide)
  ·rw[h3];exact zOW p h1
  ·exact zOX ps h4
abbrev R54:=(yL×Int×Int×Int) ⊕ (List Tm×Int×Int×Int×List Tm×Int×Int×Int)
def iK:R54->Int
 | .inl y=>y.2.1
 | .inr y=>y.2.2.2.2.2.1
def QE(row:Int)(t:Tm)(R:Int->Int->R54)(_:Int):Prop:=
 (∃d:yL,d.row_=row∧d.term_=t∧R=fun L U=>.inl (d,0,L,U))∨∃b,R=fun L U=>.inr (b,row,t.k,t.n,t.sub,0,L,U)
def QA(l:List zU)(cs:List zJ)(i:Int)(own:List Tm)(R:Int->Int->R54)(_:Int):Prop:=
 ∃r T e,Ap l cs i own r T e∧((e≠0∧∃d,R=fun L U=>.inl (d,e,L,U))∨(e=0∧QE r T R 0))
theorem zRa(M:wF)(row:Int)(bs:List Tm)(ho:vK bs)(hl:bs.length≤1000000)(t:Tm):∀(r:List Tm) (v:Nat) (acc:List Tm) (f:Int),bs.drop v=r->acc.length=v->v≤bs.length->0≤f ->
  Ou (fun L U q=>iI q M row L U t.k bs (bs.length:Int) t.n t.sub (v:Int) acc) iK (QE row t) True f:=by
 intro r
 induction r with
 |nil=>
  intro v acc f hd ha hv hf
  refine Ou.succ ?_
  simp only[iI]
  exact Ou.ifF (drop_nil hd) (Ou.pure (a:=acc) (by simp[gfz]) (Ou.ret hf (.inr ⟨acc,rfl⟩)))
 |cons x r ih=>
  intro v acc f hd ha hv hf
  have hlt:=yY hd
  have hx:=ho x (List.mem_of_mem_drop (by rw[hd];simp))
  refine Ou.succ ?_
  simp only[iI]
  refine Ou.ifT (yK hd) (Ou.pure (yD hd) (Ou.evt (nJ x hx) (Ou.pure (xB (by simp;omega)) ?_)))
  rw[yE v (by omega)]
  exact ih (v+1) _ f (zZ hd) (by simp[ha]) hlt hf
theorem zOY(M:wF)(row:Int)(bs:List Tm)(ho:vK bs)(hl:bs.length≤1000000)(t:Tm)(f:Int)(hf:0≤f) :
  Ou (fun L U q=>iJ q M row bs (bs.length:Int) 0 L U t.k t.n t.sub) iK (QE row t) True f:=by
 simp only[iJ]
 refine Ou.ite (fun h=>?_) fun _=>Ou.ret hf (.inl ⟨_,rfl,uQ t,rfl⟩)
 have hlt:0<bs.length:=by have:=of_decide_eq_true h;omega
 have hd:bs.drop 0=bs[0]::bs.drop 1:=List.drop_eq_getElem_cons hlt
 have hx:=ho _ (List.getElem_mem hlt)
 refine Ou.pure (yD hd) (Ou.evt (nJ _ hx) (Ou.pure (xB (by simp)) ?_))
 exact zRa M row bs ho hl t (bs.drop 1) 1 _ f rfl rfl hlt hf
section
variable {N:ByteArray->Bool} (l:List zU) (hE:xA N l) (he:∀e∈l,hJ e)
include hE he
theorem zIx(cs:List zJ)(hcs:cs.length≤17592186044416)(n:Nat):∀(r:List zJ) (i:Nat) (as0:List Tm) (f:Int),cs.drop i=r->zOI l r n->(∀c∈r,okC c∧tE c.pats_≤300)->as0.length=n->t8 as0->0≤f ->
  Ou (fun L U q=>nA q (yX l) cs n n (i:Int) L U 0 as0) iK (QA l r i as0) True f:=by
 intro r
 induction r with
 |nil=>
  intro i as0 f hd hm ho ha hs hf
  refine Ou.succ ?_
  simp only[nA]
  refine Ou.ifF (drop_nil hd) (Ou.ret hf ⟨0,zT,16,?_,.inl ⟨by decide,_,rfl⟩⟩)
  rw[Ap]
 |cons c r ih=>
  intro i as0 f hd hm ho ha hs hf
  have hlt:=yY hd
  have hmc:=hm c (by simp)
  have hoc:=ho c (by simp)
  subst ha
  refine Ou.succ ?_
  simp only[nA]
  refine Ou.ifT (yK hd) (Ou.pure (yD hd) (Ou.bind (zOO l hE he c.pats_ hmc.2 (by omega) as0 hmc.1 hs f hf) id (fun r hr=>?_) ?_))
  ·match r,hr with
   | .inl y,hr=>
    have hr:y.2.2.1=8:=hr
    exact⟨_,zG.ifT (zUO hr) zG.ret,hr⟩
   | .inr y,hr=>
    have hr:y.2.2.2.1=8:=hr
    exact⟨_,zG.ifT (zUO hr) zG.ret,hr⟩
  ·have next:∀(as1:List Tm) (g:Int),as1.length=as0.length->t8 as1->0≤g->Ou (fun L U q=>nA q (yX l) cs as0.length as0.length (xL ((i:Int)+1)) L U 0 as1) iK (QA l r (i+1) as1) True g:=fun as1 g h1 h2 h3=>by
    rw[yE i (by omega)]
    exact ih (i+1) as1 g (zZ hd) (fun c h=>hm c (by simp[h])) (fun c h=>ho c (by simp[h])) h1 h2 h3
   have fin:∀(bs:List Tm) (xs:List Tm) (g:Int),Rw l c.pats_ as0 0 xs 0 bs->c.has_=true->t8 bs->bs.length≤1000000->0≤g->Ou (fun L U q=>e25 q c.body_ bs>>=fun r18=>if (r18.2 != 0)=true then some (Sum.inl (yL.mk 0 [] (Tm.mk 0 0 []),r18.2,L,U))else iJ q (yX l) (i:Int) bs (bs.length:Int) 0 L U r18.1.k r18.1.n r18.1.sub) iK (QA l (c::r) i as0) True g:=fun bs xs g hR hh h1 h2 h3=>by
    have hob:vK bs:=fun x hx=>zX (h1 x hx)
    refine Ou.evt (zRb c.body_ bs hoc.1.2.2 h2 hob) (Ou.ite (fun h=>?_) fun h=>?_)
    ·refine Ou.ret h3 ⟨0,zT,_,?_,.inl ⟨by simpa using h,_,rfl⟩⟩
     rw[Ap]
     exact⟨0,xs,0,bs,hR,.inr ⟨rfl,.inr (.inr (.inr ⟨rfl,hh,rfl,fun h0=>absurd h0 (by simpa using h)⟩))⟩⟩
    ·have h0:(oJ c.body_ bs.reverse).2=0:=by simpa using h
     refine(zOY (yX l) i bs hob h2 (oJ c.body_ bs.reverse).1 g h3).mono ?_ id
     intro R k _ _ hQ
     refine⟨i,(oJ c.body_ bs.reverse).1,0,?_,.inr ⟨rfl,hQ⟩⟩
     rw[Ap]
     exact⟨0,xs,0,bs,hR,.inr ⟨rfl,.inr (.inr (.inr ⟨rfl,hh,h0.symm,fun _=>⟨rfl,rfl⟩⟩))⟩⟩
   rintro R k k0 k1 (⟨how,e,xs,bs,h1,h2,hR,rfl⟩|⟨xs,bs,c',h1,h2,h3,h4,hR,rfl⟩)
   ·dsimp only
    rw[List.nil_append]at h1 h2 ⊢
    by_cases e0:e=0
    ·subst e0
     obtain⟨hn,hx⟩:=h2 rfl
     refine Ou.ifF rfl (Ou.ite (fun ho1=>?_) fun ho1=>Ou.ite (fun ho2=>?_) fun ho2=>?_)
     ·have ho1:how=1:=by simpa using ho1
      refine(next xs (f-k) h1 hx (by omega)).mono ?_ id
      rintro R n' _ _ ⟨r',T,e,g1,g2⟩
      refine⟨r',T,e,?_,g2⟩
      rw[Ap]
      exact⟨how,xs,0,bs,hR,.inr ⟨rfl,.inl ⟨ho1,g1⟩⟩⟩
     ·refine Ou.ret (by omega) ⟨0,zT,13,?_,.inl ⟨by decide,_,rfl⟩⟩
      rw[Ap]
      exact⟨how,xs,0,bs,hR,.inr ⟨rfl,.inr (.inl ⟨by simpa using ho2,rfl⟩)⟩⟩
     ·exact absurd (zOX c.pats_ hR) (by rintro (h|h|h)<;>simp[h]at hn ho1 ho2)
    ·refine Ou.ifT (by simpa using e0) (Ou.ret (by omega) ⟨0,zT,e,?_,.inl ⟨e0,_,rfl⟩⟩)
     rw[Ap]
     exact⟨how,xs,e,bs,hR,.inl ⟨e0,rfl⟩⟩
   ·dsimp only
    rw[List.nil_append]at h1 h2 h3 h4 ⊢
    refine Ou.ifF rfl (Ou.ifF rfl (Ou.ifF rfl (Ou.ite (fun hh=>?_) fun hh=>?_)))
    ·exact(fin bs xs (f-k) hR hh h3 h4 (by omega)).mono (fun _ _ _ _ h=>h) id
    ·refine Ou.ret (by omega) ⟨0,zT,13,?_,.inl ⟨by decide,_,rfl⟩⟩
     rw[Ap]
     exact⟨0,xs,0,bs,hR,.inr ⟨rfl,.inr (.inr (.inl ⟨rfl,by simpa using hh,rfl⟩))⟩⟩
end
def oV(l:List zU)(x:Tm):Bool:=rV x 0 l.length&&(iT x 8 8).isEmpty
section
variable {N:ByteArray->Bool} {l:List zU} (hE:xA N l) (hF:zG (fun q=>e42 q l) true)
theorem zRA(as0:List Tm)(ha:vK as0)(hl:as0.length≤1000000):∀(r:List Tm) (v:Nat),as0.drop v=r->zG (fun q=>bN q (yX l) as0 l (v:Int)) (r.all (oV l)):=by
 intro r
 induction r with
 |nil=>
  intro v hd
  refine zG.succ ?_
  simp only[bN]
  exact zG.ifF (drop_nil hd) zG.ret
 |cons x r ih=>
  intro v hd
  have hlt:=yY hd
  have hx:=ha x (List.mem_of_mem_drop (by rw[hd];simp))
  refine zG.succ ?_
  simp only[bN]
  refine zG.ifT (yK hd) (zG.pure (yD hd) ((kD x 0 l.length hx).bind ?_))
  rw[List.all_cons]
  cases hR:rV x 0 l.length with
  |false=>exact zG.ifF rfl (zG.ret.eq (by unfold oV;rw[hR];rfl))
  |true=>
   refine zG.ifT rfl ((T9 x hx).bind ?_)
   by_cases h0:iT x 8 8=[]
   ·rw[h0]
    refine zG.ifF (by simp) ?_
    rw[yE v (by omega)]
    have:oV l x=true:=by unfold oV;rw[hR,h0];rfl
    rw[this,Bool.true_and]
    exact ih (v+1) (zZ hd)
   ·refine zG.ifT (decide_eq_true (by have:=List.length_pos_iff.2 h0;omega)) (zG.ret.eq ?_)
    have:oV l x=false:=by unfold oV;rw[hR];simpa using h0
    rw[this];rfl
include hE hF
theorem zRB(n:Nat)(hn:n≤1000000)(cs:List zJ)(hcs:cs.length≤17592186044416)(ho:∀c∈cs,okC c∧tE c.pats_≤300):∀(r:List zJ) (v:Nat),cs.drop v=r->∃bc:Bool,(bc=true->zOI l r n)∧∀as0:List Tm,vK as0->as0.length=n->zG (fun q=>bO q (yX l) cs as0 l (v:Int)) (bc&&as0.all (oV l)):=by
 intro r
 induction r with
 |nil=>
  intro v hd
  refine⟨true,fun _ _ h=>(nomatch h),fun as0 ha hl=>?_⟩
  refine zG.succ ?_
  simp only[bO]
  exact zG.ifF (drop_nil hd) (zRA as0 ha (by omega) as0 0 rfl)
 |cons x r ih=>
  intro v hd
  have hlt:=yY hd
  have hx:=ho x (List.mem_of_mem_drop (by rw[hd];simp))
  obtain⟨bc,h1,h2⟩:=ih (v+1) (zZ hd)
  obtain⟨b,hb1,hb2⟩:=zFR hE hF x hx.1 hx.2 (n:Int)
  refine⟨b&&bc,fun h=>?_,fun as0 ha hl=>?_⟩
  ·simp only[Bool.and_eq_true]at h
   intro p hp
   rcases List.mem_cons.1 hp with rfl|hp
   ·have:=hb2 h.1
    exact⟨by omega,this.2⟩
   ·exact h1 h.2 p hp
  ·refine zG.succ ?_
   simp only[bO]
   rw[hl]
   refine zG.ifT (yK hd) (zG.pure (yD hd) (zG.bind hb1 ?_))
   cases b with
   |false=>exact zG.ifF rfl (zG.ret.eq (by simp))
   |true=>
    refine zG.ifT rfl ?_
    rw[yE v (by omega),Bool.true_and]
    exact h2 as0 ha hl
theorem zRC(hll:l.length≤65535)(he:∀e∈l,hJ e)(hc:∀e∈l,ECl e)(hcop:l.map zDv=l)(n:Nat)(hn:n≤1000000)(cs:List zJ)(hcs:cs.length≤17592186044416)(ho:∀c∈cs,okC c∧tE c.pats_≤300):∃bc:Bool,(bc=true->zOI l cs n)∧∀as0:List Tm,vK as0->as0.length=n->zG (fun q=>e22 q (yX l) cs as0) (bc&&as0.all (oV l)):=by
 obtain⟨bc,h1,h2⟩:=zRB hE hF n hn cs hcs ho cs 0 rfl
 refine⟨bc,h1,fun as0 ha hl=>?_⟩
 simp only[e22,e46,eP]
 have e1:zG (fun q=>e20 q l) l:=(C4 l hll he hc).eq hcop
 exact zG.bind (e1.bind zG.ret) (h2 as0 ha hl)
theorem zFV(he:∀e∈l,hJ e)(cs:List zJ)(hcs:cs.length≤17592186044416)(ho:∀c∈cs,okC c∧tE c.pats_≤300)(as0:List Tm)(hl:as0.length≤1000000)(hm:zOI l cs as0.length)(hs:t8 as0)(hmay:zG (fun q=>e22 q (yX l) cs as0) true)(f:Int)(hf:0≤f) :
  Ou (fun L U q=>e10 q (yX l) cs as0 L U) iK (QA l cs 0 as0) True f:=by
 simp only[e10]
 refine Ou.evt hmay (Ou.ifT rfl (Ou.evt (zHT as0 hl) ?_))
 by_cases h0:as0=[]
 ·subst h0
  rw[if_pos rfl]
  exact zIx l hE he cs hcs 0 cs 0 [] f rfl hm ho rfl hs hf
 ·rw[if_neg h0]
  exact zIx l hE he cs hcs as0.length cs 0 as0 f rfl hm ho rfl hs hf
end
section
variable {N:ByteArray->Bool} {l:List zU}
theorem zRD{y:Tm}(hs:zH y=true)(h:y.k=3∨y.k=4):∃a b,y = .mk y.k y.n [a,b]:=by
 have hg:=(zI hs).2.2
 obtain⟨k,n,ss⟩:=y
 obtain⟨a,b,e⟩:=zLE ((wQ (xV hg).1).2.2.2.2.2.1 (h.elim .inl fun h=>.inr (.inl h))).1
 exact⟨a,b,congrArg (Tm.mk k n) e⟩
theorem zIw(hE:xA N l):∀(n:Nat) {t x:Tm} {k:Int},cB l n t x k->∀j∈tC x 0,j∈tC t 0
 |0,_,_,_,h=>h.elim
 |n+1,t,x,k,⟨hR,y,k1,ps,k2,h1,h2,h3,_⟩=>by
  have hy:=h1.inv hE (zUh hE (fun j=>j∈tC t 0)) hR.shaped rfl (fun j hj=>hj)
  have hs:=h1.shaped hR.shaped rfl
  intro j hj
  refine hy j ?_
  rw[h3]at hj
  unfold cA at hj
  unfold wI at h2
  by_cases h34:y.k=3∨y.k=4
  ·rw[if_pos h34]at hj h2
   obtain⟨a,b,e⟩:=zRD hs h34
   have hk1:y.k≠1:=by omega
   rw[e]at h2
   obtain⟨a',r,c1,c2,e1,q1,⟨b',r',d1,d2,e2,q2,⟨e3,-⟩,-⟩,-⟩:=h2
   subst e3;subst e2;subst e1
   rw[zMR hk1]at hj
   rw[e,zMR hk1]
   rcases hj with hj|hj
   ·exact .inl (zIw hE n q1 j hj)
   ·refine .inr ?_
    have h0:0≤xZ y.k 1 0:=by unfold xZ;split<;>omega
    have e0:xZ y.k 1 0=0+xZ y.k 1 0:=(Int.zero_add _).symm
    rw[e0,qV _ _ _ _ h0]at hj ⊢
    exact⟨hj.1,zIw hE n q2 _ hj.2⟩
  ·rw[if_neg h34]at hj h2
   by_cases h5:y.k=5
   ·rw[if_pos h5]at hj h2
    have hsp:=C7 y (zI hs).2.2 0 j
    rcases(W1 _ _ _ _).1 hj with hj|⟨a,ha,hj⟩
    ·exact hsp.1 hj
    ·obtain⟨t',ht',kk,hn⟩:=h2.mem a ha
     exact hsp.2 t' ht' (zIw hE n hn j hj)
   ·rw[if_neg h5]at hj;exact hj
theorem zIv(hE:xA N l){P:Int->Int->Prop}(hP:∀k n:Int,k≠8->(k=6∨k=7->n<l.length)->P k n):∀(n:Nat) {t x:Tm} {k:Int},cB l n t x k->xH P t->xH P x
 |0,_,_,_,h,_=>h.elim
 |n+1,t,x,k,⟨hR,y,k1,ps,k2,h1,h2,h3,_⟩,ht=>by
  have hy:=h1.inv hE (b9 hE hP) hR.shaped rfl ht
  have hs:=h1.shaped hR.shaped rfl
  have hps:∀p∈ps,(∀q∈wI y,xH P q)->xH P p:=fun p hp hq=>by
   obtain⟨t',ht',kk,hn⟩:=h2.mem p hp
   exact zIv hE hP n hn (hq t' ht')
  rw[h3]
  unfold cA
  unfold wI at hps
  by_cases h34:y.k=3∨y.k=4
  ·rw[if_pos h34]at hps ⊢
   rw[xH,eK]
   refine⟨.inr (hP _ _ (by omega) (fun h=>by omega)),fun p hp=>hps p hp ?_⟩
   have e:=uQ y
   rw[←e,xH,eK]at hy
   exact hy.2
  ·rw[if_neg h34]at hps ⊢
   by_cases h5:y.k=5
   ·rw[if_pos h5]at hps ⊢
    have hsp:=jR y (zI hs).2.2 hy
    exact mX ps _ (hP 5 0 (by decide) (fun h=>by omega)) hsp.1 fun p hp=>hps p hp hsp.2
   ·rw[if_neg h5];exact hy
end
mutual
theorem zIu:∀(t:Tm) (b m:Int),xG t=true->0≤m->(∀j∈tC t b,j<m)->cP t b≤m
 | .mk k n l,b,m,hg,hm,h=>by
  rw[cP]
  by_cases hk:k=1
  ·subst hk
   rw[if_pos rfl]
   by_cases hb:b≤n
   ·have:=h (n-b) (rG.2 ⟨hb,rfl⟩);omega
   ·omega
  ·rw[if_neg hk]
   have hh:=xV hg
   have hs:=wQ hh.1
   refine zEx l k 0 b m hh.2 ?_ hm fun j hj=>h j ((tM hk).2 hj)
   have e1:k=3∨k=4∨k=5∨l.length≤1:=by
    by_cases h7:k=7
    ·obtain⟨x,hx,-⟩:=hs.2.2.2.2.2.2.1 h7
     have hx':l=[x]:=hx
     rw[hx'];simp
    ·by_cases h1:k=1∨k=2∨k=6∨k=8
     ·have hx:=hs.2.2.2.2.2.2.2.1 h1
      have hx':l=[]:=hx
      rw[hx'];simp
     ·have a1:1≤k:=hs.1
      have a2:k≤8:=hs.2.1
      omega
   omega
theorem zEx:∀(l:List Tm) (k:Int) (i:Nat) (b m:Int),qF l=true->(k=3∨k=4∨k=5∨i+l.length≤1)->0≤m->(∀j∈w9 l k i b,j<m)->dB l k i b≤m
 | [],k,i,b,m,hg,hl,hm,h=>by rw[dB];exact hm
 |t::l,k,i,b,m,hg,hl,hm,h=>by
  rw[dB]
  have hc:=wC hg
  rw[List.length_cons]at hl
  have h1:=zIu t (xZ k i b) m hc.1 hm fun j hj=>h j (wO.2 (.inl hj))
  have h2:=zEx l k (i+1) b m hc.2 (by omega) hm fun j hj=>h j (wO.2 (.inr hj))
  rw[zMU (by omega)]at h1
  omega
end
theorem zEw{t:Tm}(hs:zH t=true):cP t 0≤0 ↔ ∀j,¬j∈tC t 0:=by
 have hg:=(zI hs).2.2
 constructor
 ·intro h j hj
  have:=zFl t 0 j hg hj
  have:=W0 t 0 j hj
  omega
 ·exact fun h=>zIu t 0 0 hg (by omega) fun j hj=>absurd hj (h j)
section
variable {N:ByteArray->Bool} {l:List zU}
theorem eW{x:Tm}:oV l x=true↔zH x=true∧(∀j,¬j∈tC x 0)∧xH (fun k n=>(k=6∨k=7->n<l.length)∧(k=8->False)) x:=by
 have hA:xH (fun k n=>(k=6∨k=7->n<(l.length:Int))∧(k=8->False)) x↔(∀n∈lK x 6 7,n<(l.length:Int))∧∀n∈lK x 8 8,False:=by
  rw[kJ (Q:=fun n=>n<(l.length:Int)) (by decide) (by decide) x,kJ (Q:=fun _=>False) (by decide) (by decide) x]
  exact⟨fun h=>⟨eM (fun k n h=>h.1) h,eM (fun k n h h8=>h.2 (h8.elim id id)) h⟩,fun h=>eL (fun k n a b=>⟨a,fun h8=>b (.inl h8)⟩) x h.1 h.2⟩
 unfold oV rV
 rw[hA]
 simp only[Bool.and_eq_true,decide_eq_true_eq,List.all_eq_true]
 constructor
 ·rintro ⟨⟨⟨h1,h2⟩,h3⟩,h4⟩
  refine⟨h1,(zEw h1).1 h2,h3,fun n hn=>?_⟩
  have h5:iT x 8 8=[]:=by simpa using h4
  unfold iT at h5
  rw[if_pos h1]at h5
  have:=(fC n _).2 hn
  rw[h5]at this
  cases this
 ·rintro ⟨h1,h2,h3,h4⟩
  refine⟨⟨⟨h1,(zEw h1).2 h2⟩,h3⟩,?_⟩
  have h5:lK x 8 8=[]:=by
   cases hc:lK x 8 8 with
   |nil=>rfl
   |cons a r=>exact(h4 a (by rw[hc];simp)).elim
  have h6:iT x 8 8=[]:=by
   unfold iT
   rw[h5];split<;>rfl
  rw[h6];rfl
theorem zOZ(hE:xA N l){t x:Tm}{k:Int}(ht:oV l t=true)(hn:Nm l t x k)(hs:zH x=true):oV l x=true∧Nf l x∧sX l t x:=by
 obtain⟨n,h⟩:=hn
 obtain⟨h1,h2,h3⟩:=eW.1 ht
 refine⟨eW.2 ⟨hs,fun j hj=>h2 j (zIw hE n h j hj),zIv hE (fun k n h8 h6=>⟨h6,fun h=>h8 h⟩) n h h3⟩,⟨n,h.again hE hs⟩,zHN hE n t x k h⟩
end
theorem zRE{N:ByteArray->Bool}{l:List zU}(hE:xA N l):l.map zDv=l:=by
 refine List.ext_getElem (by simp) fun i h1 h2=>?_
 rw[List.getElem_map]
 have h:=i7 (hE.2 (i:Int) (by omega) (by omega))
 have e:zK l (i:Int)=l[i]:=by
  unfold zK
  simp[h2]
 rw[e]at h
 exact h
theorem eX{e1 e2 r1 r2:Int}{C:Nat->Option (Bool×Int×Int)}{A:Nat->Option Bool}(hA:zG A true)(h2:e1=0->e2=0∨e2=2∨e2=8)(hr:e1=0->e2=0->r1=r2)(hC:e1=0->e2=0->∃c,zG C c∧(c.2.2≠0∨c.1=true)) :
  zG (fun q=>if (e1 != 0)=true then A q>>=fun r=>some r else if (e2 != 0)=true then(if (e2==8)=true then A q>>=fun r=>some r else if (e2==2)=true then A q>>=fun r=>some r else none)else
   C q>>=fun r=>if r.1=true then(if (r1==r2)=true then(if (r.2.2 != 0)=true then A q>>=fun r=>some r else A q>>=fun r=>some r)else none)else(if (r1==r2)=true then(if (r.2.2 != 0)=true then A q>>=fun r=>some r else none)else none)) true:=by
 have hA':zG (fun q=>A q>>=fun r=>some r) true:=hA.bind zG.ret
 by_cases h1:e1=0
 ·refine zG.ifF (by simp[h1]) ?_
  by_cases h0:e2=0
  ·refine zG.ifF (by simp[h0]) ?_
   obtain⟨c,hc,hc2⟩:=hC h1 h0
   have hrr:=hr h1 h0
   refine hc.bind ?_
   by_cases hb:c.1=true
   ·refine zG.ifT hb (zG.ifT (by simpa using hrr) ?_)
    by_cases he:c.2.2=0
    ·exact zG.ifF (by simp[he]) hA'
    ·exact zG.ifT (by simpa using he) hA'
   ·refine zG.ifF (by simpa using hb) (zG.ifT (by simpa using hrr) (zG.ifT ?_ hA'))
    simpa using hc2.resolve_right hb
  ·refine zG.ifT (by simpa using h0) ?_
   rcases h2 h1 with h|h|h
   ·exact absurd h h0
   ·exact zG.ifF (by simp[h]) (zG.ifT (by simp[h]) hA')
   ·exact zG.ifT (by simp[h]) hA'
 ·exact zG.ifT (by simpa using h1) hA'
def s4(qq:Nat)(M:wF)(q0_l:yU)(fl fu q0_e:Int)(p1:Tm):Option (Tm×Int):=
 if p1.k==4 then
 zR p1.sub 1>>=fun x2=>
 some (x2,q0_e)
 else
 zEY qq p1 1>>=fun r4=>
 e86 qq 0>>=fun r6=>
 e94 qq r4.1 r6>>=fun r8=>
 if r4.2==0 then
 G3 qq r8>>=fun r11=>
 if r11 then
 if q0_e==0 then
 some (r8,r4.2)
 else
 some (r8,q0_e)
 else
 if q0_e==0 then
 some (r8,2)
 else
 some (r8,q0_e)
 else
 if q0_e==0 then
 some (r8,r4.2)
 else
 some (r8,q0_e)
theorem zFW:Qf 118 f118:=⟨func118,rfl⟩
theorem zRF{qq M q0_l fl fu q0_e p1 r}(h:s4 qq M q0_l fl fu q0_e p1=some r):Ct 118 [.cells [.mp 1 0,zO yZ q0_l .no,.mp 3 0,ai q0_e],mB M 2,mR M,.cells [ai fl,ai fu]] [.mp 0 0,xF p1] (xF r.1) [.cells [.mp 1 0,zO yZ q0_l .no,.mp 3 0,ai r.2],mB M 2,mR M,.cells [ai fl,ai fu]] 0:=⟨by
 unfold s4 at h
 have z {os ob} (k:Oz os ob):=rF M<|oD (dE q0_l)<|k
 obtain⟨h1,h⟩|⟨h1,h⟩:=zL h
 obtain⟨x2,h3,h⟩:=zB h
 cases h
 exact tF zFW 2 [0,1,2,3] (oD (dT x2.sub)<|z<|oA 1 (wN (o:=.no) h3)<|oB 1 h1 o0)
 obtain⟨r4,h5,h⟩:=zB h
 obtain⟨r6,h7,h⟩:=zB h
 obtain⟨r8,h9,h⟩:=zB h
 have k:=oC 0 [] (c94 h9)<|oC 4 [] (c86 h7)<|oC 1 [] (zTf h5)<|oB 1 h1 o0
 obtain⟨h10,h⟩|⟨h10,h⟩:=zL h
 obtain⟨r11,h12,h⟩:=zB h
 have k:=oB 1 h10 k
 obtain⟨h13,h⟩|⟨h13,h⟩:=zL h
 have k:=oK 1 [] h13 (mO h12) k
 obtain⟨h14,h⟩|⟨h14,h⟩:=zL h
 cases h
 exact tF zFW 3 [0,1,2,3] (oD (dT r8.sub)<|z<|oB 2 h14 k)
 cases h
 exact tF zFW 2 [0,1,2,3] (oD (dT r8.sub)<|z<|oB 2 h14 k)
 have k:=oK 1 [] h13 (mO h12) k
 obtain⟨h15,h⟩|⟨h15,h⟩:=zL h
 cases h
 exact tF zFW 3 [0,1,2,3] (oD (dT r8.sub)<|z<|oB 2 h15 k)
 cases h
 exact tF zFW 2 [0,1,2,3] (oD (dT r8.sub)<|z<|oB 2 h15 k)
 have k:=oB 1 h10 k
 obtain⟨h16,h⟩|⟨h16,h⟩:=zL h
 cases h
 exact tF zFW 3 [0,1,2,3] (oD (dT r8.sub)<|z<|oB 1 h16 k)
 cases h
 exact tF zFW 2 [0,1,2,3] (oD (dT r8.sub)<|z<|oB 1 h16 k),⟨(lz rfl),⟨tv,tv,⟨tv,dT _⟩,tv⟩,tv⟩,(zC ⟨(lz rfl),⟨tv,dE _⟩,(lz rfl),tv,tv⟩ (eH (lz rfl) (zC ⟨tv,tv,tv⟩ zA))),⟨tv,tv,dT _,tv⟩,(zC ⟨(lz rfl),dE _,(lz rfl),tv,tv⟩ (iY (lz rfl) (zC ⟨tv,tv,tv⟩ zA)))⟩
def zEv(qq:Nat)(M:wF)(q0_l:yU)(fl fu q0_e:Int)(p1:Tm):Option (Int×zQ×Bool):=
 e78 qq M p1>>=fun r1=>
 if r1.2.2 then
 zR q0_l r1.1>>=fun x4=>
 zR q0_l x4.fam>>=fun x6=>
 if (x6.fields.length:Int)==0 then
 some (0,[],false)
 else
 some (r1.1,r1.2.1,true)
 else
 some (0,[],false)
theorem zUT:Qf 119 f119:=⟨func119,rfl⟩
theorem zRG{qq M q0_l fl fu q0_e p1 r}(h:zEv qq M q0_l fl fu q0_e p1=some r):Ct 119 [.cells [.mp 1 0,zO yZ q0_l .no,.mp 3 0,ai q0_e],mB M 2,mR M,.cells [ai fl,ai fu]] [.mp 0 0,xF p1] (.tup [ai r.1,.sl (flat zD r.2.1) r.2.1.length .no,ab r.2.2]) [.cells [.mp 1 0,zO yZ q0_l .no,.mp 3 0,ai q0_e],mB M 2,mR M,.cells [ai fl,ai fu]] 0:=⟨by
 unfold zEv at h
 obtain⟨r1,h2,h⟩:=zB h
 have k:=oC 2 [1,2] (c78 h2) o0
 obtain⟨h3,h⟩|⟨h3,h⟩:=zL h
 obtain⟨x4,h5,h⟩:=zB h
 obtain⟨x6,h7,h⟩:=zB h
 have k:=oA 1 (wM (o:=.no) h7)<|oA 3 (wM (o:=.no) h5)<|oB 2 h3 k
 obtain⟨h8,h⟩|⟨h8,h⟩:=zL h
 cases h
 exact tF zUT 0 [0,1,2,3] (oD (dT ([]:zQ))<|rF M<|oD (dE q0_l)<|oB 2 h8 k)
 cases h
 exact tF zUT 0 [0,1,2,3] (oD (dT r1.2.1)<|rF M<|oD (dE q0_l)<|oB 2 h8 k)
 cases h
 exact tF zUT 1 [0,1,2,3] (oD (dT ([]:zQ))<|rF M<|oD (dE q0_l)<|oB 2 h3 k),⟨(lz rfl),⟨tv,tv,⟨tv,dT _⟩,tv⟩,tv⟩,(zC ⟨(lz rfl),⟨tv,dE _⟩,(lz rfl),tv,tv⟩ (eH (lz rfl) (zC ⟨tv,tv,tv⟩ zA))),⟨tv,dT _,tv,tv⟩,(zC ⟨(lz rfl),dE _,(lz rfl),tv,tv⟩ (iY (lz rfl) (zC ⟨tv,tv,tv⟩ zA)))⟩
def zPz(qq:Nat)(p0:Int):Option Tm:=
 zCQ qq 6 p0 []>>=fun r1=>
 some r1
theorem zXh{qq p0 r}(h:zPz qq p0=some r):Ct 171 [] [ai p0] (xF r) [] 0:=⟨by
 unfold zPz at h
 obtain⟨r1,h2,h⟩:=zB h
 obtain rfl:=sj h
 exact tF ⟨func171,rfl⟩ 1 [] (oD (dT r1.sub)<|oC 0 [] (zJl h2) o0),⟨tv,tv⟩,zA,⟨tv,tv,dT _,tv⟩,zA⟩
def zKk(qq:Nat)(M:wF)(q0_l:yU)(fl fu q0_e:Int)(p1:Tm)(p2 p3:Int)(p4:zQ):Option (Tm×Int):=
 zEv qq M q0_l fl fu q0_e p1>>=fun r1=>
 if r1.2.2 then
 if r1.1==p2 then
 zR r1.2.1 (xL ((p4.length:Int)+p3))>>=fun x5=>
 some (x5,q0_e)
 else
 zR q0_l p2>>=fun x7=>
 zR q0_l x7.fam>>=fun x9=>
 zR x9.fields p3>>=fun x11=>
 zPz qq x11>>=fun r13=>
 e63 qq r13 p4>>=fun r15=>
 e94 qq r15 p1>>=fun r17=>
 if q0_e==0 then
 G3 qq r17>>=fun r20=>
 if r20 then
 some (r17,q0_e)
 else
 some (r17,2)
 else
 some (r17,q0_e)
 else
 zR q0_l p2>>=fun x23=>
 zR q0_l x23.fam>>=fun x25=>
 zR x25.fields p3>>=fun x27=>
 zPz qq x27>>=fun r29=>
 e63 qq r29 p4>>=fun r31=>
 e94 qq r31 p1>>=fun r33=>
 if q0_e==0 then
 G3 qq r33>>=fun r36=>
 if r36 then
 some (r33,q0_e)
 else
 some (r33,2)
 else
 some (r33,q0_e)
theorem zFX:Qf 144 f144:=⟨func144,rfl⟩
theorem zXg{qq M q0_l fl fu q0_e p1 p2 p3 p4 r}(h:zKk qq M q0_l fl fu q0_e p1 p2 p3 p4=some r):Ct 144 [.cells [.mp 1 0,zO yZ q0_l .no,.mp 3 0,ai q0_e],mB M 2,mR M,.cells [ai fl,ai fu]] [.mp 0 0,xF p1,ai p2,ai p3,zO zD p4 .no] (xF r.1) [.cells [.mp 1 0,zO yZ q0_l .no,.mp 3 0,ai r.2],mB M 2,mR M,.cells [ai fl,ai fu]] 0:=⟨by
 unfold zKk at h
 have z {os ob} (k:Oz os ob):=rF M<|oD (dE q0_l)<|k
 obtain⟨r1,h2,h⟩:=zB h
 have k:=oC 1 [0,1,2,3] (zRG h2) o0
 obtain⟨h3,h⟩|⟨h3,h⟩:=zL h
 have k:=oB 2 h3 k
 obtain⟨h4,h⟩|⟨h4,h⟩:=zL h
 obtain⟨x5,h6,h⟩:=zB h
 cases h
 exact tF zFX 2 [0,1,2,3] (oD (dT x5.sub)<|z<|oA 2 (wN (o:=.no) h6)<|oB 0 h4 k)
 obtain⟨x7,h8,h⟩:=zB h
 obtain⟨x9,h10,h⟩:=zB h
 obtain⟨x11,h12,h⟩:=zB h
 obtain⟨r13,h14,h⟩:=zB h
 obtain⟨r15,h16,h⟩:=zB h
 obtain⟨r17,h18,h⟩:=zB h
 have k:=oC 1 [] (c94 h18)<|oC 0 [] (c63 h16)<|oC 1 [] (zXh h14)<|oA 1 (I0 (o:=.no) h12)<|oA 1 (wM (o:=.no) h10)<|oA 2 (wM (o:=.no) h8)<|oB 0 h4 k
 obtain⟨h19,h⟩|⟨h19,h⟩:=zL h
 obtain⟨r20,h21,h⟩:=zB h
 have k:=oB 2 h19 k
 obtain⟨h22,h⟩|⟨h22,h⟩:=zL h
 cases h
 exact tF zFX 3 [0,1,2,3] (oD (dT r17.sub)<|z<|oK 1 [] h22 (mO h21) k)
 cases h
 exact tF zFX 4 [0,1,2,3] (oD (dT r17.sub)<|z<|oK 1 [] h22 (mO h21) k)
 cases h
 exact tF zFX 2 [0,1,2,3] (oD (dT r17.sub)<|z<|oB 2 h19 k)
 obtain⟨x23,h24,h⟩:=zB h
 obtain⟨x25,h26,h⟩:=zB h
 obtain⟨x27,h28,h⟩:=zB h
 obtain⟨r29,h30,h⟩:=zB h
 obtain⟨r31,h32,h⟩:=zB h
 obtain⟨r33,h34,h⟩:=zB h
 have k:=oC 1 [] (c94 h34)<|oC 0 [] (c63 h32)<|oC 1 [] (zXh h30)<|oA 1 (I0 (o:=.no) h28)<|oA 1 (wM (o:=.no) h26)<|oA 2 (wM (o:=.no) h24)<|oB 2 h3 k
 obtain⟨h35,h⟩|⟨h35,h⟩:=zL h
 obtain⟨r36,h37,h⟩:=zB h
 have k:=oB 2 h35 k
 obtain⟨h38,h⟩|⟨h38,h⟩:=zL h
 cases h
 exact tF zFX 3 [0,1,2,3] (oD (dT r33.sub)<|z<|oK 1 [] h38 (mO h37) k)
 cases h
 exact tF zFX 4 [0,1,2,3] (oD (dT r33.sub)<|z<|oK 1 [] h38 (mO h37) k)
 cases h
 exact tF zFX 2 [0,1,2,3] (oD (dT r33.sub)<|z<|oB 2 h35 k),⟨(lz rfl),⟨tv,tv,⟨tv,dT _⟩,tv⟩,tv,tv,⟨tv,dT _⟩,tv⟩,(zC ⟨(lz rfl),⟨tv,dE _⟩,(lz rfl),tv,tv⟩ (eH (lz rfl) (zC ⟨tv,tv,tv⟩ zA))),⟨tv,tv,dT _,tv⟩,(zC ⟨(lz rfl),dE _,(lz rfl),tv,tv⟩ (iY (lz rfl) (zC ⟨tv,tv,tv⟩ zA)))⟩
def zKj(qq:Nat)(M:wF)(q0_l:yU)(fl fu q0_e:Int)(p1:Tm):Option (Tm×Int×Int×Int):=
 e60 qq M p1 fl fu>>=fun r1=>
 if q0_e==0 then
 some (r1.1,r1.2.1,r1.2.2.1,r1.2.2.2)
 else
 some (r1.1,q0_e,r1.2.2.1,r1.2.2.2)
theorem zXf:Qf 117 f117:=⟨func117,rfl⟩
theorem zXe{qq M q0_l fl fu q0_e p1 r}(h:zKj qq M q0_l fl fu q0_e p1=some r):Ct 117 [.cells [.mp 1 0,zO yZ q0_l .no,.mp 3 0,ai q0_e],mB M 2,mR M,.cells [ai fl,ai fu]] [.mp 0 0,xF p1] (xF r.1) [.cells [.mp 1 0,zO yZ q0_l .no,.mp 3 0,ai r.2.1],mB M 2,mR M,.cells [ai r.2.2.1,ai r.2.2.2]] 0:=⟨by
 unfold zKj at h
 obtain⟨r1,h2,h⟩:=zB h
 have k:=oC 3 [1,2,3] (c60 h2) o0
 obtain⟨h3,h⟩|⟨h3,h⟩:=zL h
 cases h
 exact tF zXf 3 [0,1,2,3] (oD (dT r1.1.sub)<|rF M<|oD (dE q0_l)<|oB 4 h3 k)
 cases h
 exact tF zXf 2 [0,1,2,3] (oD (dT r1.1.sub)<|rF M<|oD (dE q0_l)<|oB 4 h3 k),⟨(lz rfl),⟨tv,tv,⟨tv,dT _⟩,tv⟩,tv⟩,(zC ⟨(lz rfl),⟨tv,dE _⟩,(lz rfl),tv,tv⟩ (eH (lz rfl) (zC ⟨tv,tv,tv⟩ zA))),⟨tv,tv,dT _,tv⟩,(zC ⟨(lz rfl),dE _,(lz rfl),tv,tv⟩ (iY (lz rfl) (zC ⟨tv,tv,tv⟩ zA)))⟩
def e89(qq:Nat)(M:wF)(q0_l:yU)(fl fu q0_e:Int)(p1 p2:Tm):Option (Tm×Tm×Bool×Int×Int×Int):=
 if q0_e != 0 then
 some (p1,p2,false,q0_e,fl,fu)
 else
 zKj qq M q0_l fl fu q0_e p1>>=fun r2=>
 if r2.2.1 != 0 then
 some (r2.1,p2,false,r2.2.1,r2.2.2.1,r2.2.2.2)
 else
 zKj qq M q0_l r2.2.2.1 r2.2.2.2 r2.2.1 p2>>=fun r5=>
 some (r2.1,r5.1,(r5.2.1==0),r5.2.1,r5.2.2.1,r5.2.2.2)
theorem q89:Qf 89 f89:=⟨func89,rfl⟩
theorem c89{qq M q0_l fl fu q0_e p1 p2 r}(h:e89 qq M q0_l fl fu q0_e p1 p2=some r):Ct 89 [.cells [.mp 1 0,zO yZ q0_l .no,.mp 3 0,ai q0_e],mB M 2,mR M,.cells [ai fl,ai fu]] [.mp 0 0,xF p1,xF p2] (.tup [xF r.1,xF r.2.1,ab r.2.2.1]) [.cells [.mp 1 0,zO yZ q0_l .no,.mp 3 0,ai r.2.2.2.1],mB M 2,mR M,.cells [ai r.2.2.2.2.1,ai r.2.2.2.2.2]] 0:=⟨by
 unfold e89 at h
 obtain⟨h1,h⟩|⟨h1,h⟩:=zL h
 cases h
 exact tF q89 4 [0,1,2,3] (oD (dT p2.sub)<|oD (dT p1.sub)<|rF M<|oD (dE q0_l)<|oB 1 h1 o0)
 obtain⟨r2,h3,h⟩:=zB h
 have k:=oC 1 [0,1,2,3] (zXe h3)<|oB 1 h1 o0
 obtain⟨h4,h⟩|⟨h4,h⟩:=zL h
 cases h
 exact tF q89 4 [0,1,2,3] (oD (dT p2.sub)<|oD (dT r2.1.sub)<|rF M<|oD (dE q0_l)<|oB 2 h4 k)
 obtain⟨r5,h6,h⟩:=zB h
 cases h
 exact tF q89 7 [0,1,2,3] (oD (dT r5.1.sub)<|oD (dT r2.1.sub)<|rF M<|oD (dE q0_l)<|oC 1 [0,1,2,3] (zXe h6)<|oB 2 h4 k),⟨(lz rfl),⟨tv,tv,⟨tv,dT _⟩,tv⟩,⟨tv,tv,⟨tv,dT _⟩,tv⟩,tv⟩,(zC ⟨(lz rfl),⟨tv,dE _⟩,(lz rfl),tv,tv⟩ (eH (lz rfl) (zC ⟨tv,tv,tv⟩ zA))),⟨⟨tv,tv,dT _,tv⟩,⟨tv,tv,dT _,tv⟩,tv,tv⟩,(zC ⟨(lz rfl),dE _,(lz rfl),tv,tv⟩ (iY (lz rfl) (zC ⟨tv,tv,tv⟩ zA)))⟩
def e91(qq:Nat)(p0 p1:Int):Option Bool:=
 some (p0==p1)
theorem c91{qq p0 p1 r}(h:e91 qq p0 p1=some r):Ct 91 [] [ai p0,ai p1] (ab r) [] 0:=⟨by
 unfold e91 at h
 cases h
 exact tF ⟨func91,rfl⟩ 1 [] (o0),⟨tv,tv,tv⟩,zA,tv,zA⟩
mutual
def vT:Nat->yU->yU->tW->yV->yV->yU->Int->Int->Int->Tm->Tm->Option (Bool×Int×Int×Int)
 |0,_,_,_,_,_,_,_,_,_,_,_=>none
 |qq+1,q0,q1,q2,q3,q4,q5,q6,q7,q8,p1,p2=>
 e89 qq (wF.mk q0 q1 q2 q3 q4) q5 q6 q7 q8 p1 p2>>=fun r1=>
 if r1.2.2.1 then
 E4 qq q0 q1 q2 q3 q4 q5 r1.2.2.2.2.1 r1.2.2.2.2.2 r1.2.2.2.1 r1.1 r1.2.1>>=fun r4=>
 some (r4.1,r4.2.1,r4.2.2.1,r4.2.2.2)
 else
 some (false,r1.2.2.2.1,r1.2.2.2.2.1,r1.2.2.2.2.2)
def E4:Nat->yU->yU->tW->yV->yV->yU->Int->Int->Int->Tm->Tm->Option (Bool×Int×Int×Int)
 |0,_,_,_,_,_,_,_,_,_,_,_=>none
 |qq+1,q0,q1,q2,q3,q4,q5,q6,q7,q8,p1,p2=>
 if p1.k==4 then
 s4 qq (wF.mk q0 q1 q2 q3 q4) q5 q6 q7 q8 p1>>=fun r2=>
 s4 qq (wF.mk q0 q1 q2 q3 q4) q5 q6 q7 r2.2 p2>>=fun r4=>
 vT qq q0 q1 q2 q3 q4 q5 q6 q7 r4.2 r2.1 r4.1>>=fun r6=>
 some (r6.1,r6.2.1,r6.2.2.1,r6.2.2.2)
 else
 if p2.k==4 then
 s4 qq (wF.mk q0 q1 q2 q3 q4) q5 q6 q7 q8 p1>>=fun r9=>
 s4 qq (wF.mk q0 q1 q2 q3 q4) q5 q6 q7 r9.2 p2>>=fun r11=>
 vT qq q0 q1 q2 q3 q4 q5 q6 q7 r11.2 r9.1 r11.1>>=fun r13=>
 some (r13.1,r13.2.1,r13.2.2.1,r13.2.2.2)
 else
 zEv qq (wF.mk q0 q1 q2 q3 q4) q5 q6 q7 q8 p1>>=fun r15=>
 if r15.2.2 then
 zEv qq (wF.mk q0 q1 q2 q3 q4) q5 q6 q7 q8 p2>>=fun r18=>
 if r18.2.2 then
 if r15.1 != r18.1 then
 some (false,q8,q6,q7)
 else
 zR q5 r15.1>>=fun x22=>
 kY r15.2.1 0 x22.pars>>=fun x24=>
 mM qq q0 q1 q2 q3 q4 q5 q6 q7 q8 p1 p2 r15.1 x24>>=fun r26=>
 some (r26.1,r26.2.1,r26.2.2.1,r26.2.2.2)
 else
 zR q5 r15.1>>=fun x28=>
 kY r15.2.1 0 x28.pars>>=fun x30=>
 mM qq q0 q1 q2 q3 q4 q5 q6 q7 q8 p1 p2 r15.1 x30>>=fun r32=>
 some (r32.1,r32.2.1,r32.2.2.1,r32.2.2.2)
 else
 zEv qq (wF.mk q0 q1 q2 q3 q4) q5 q6 q7 q8 p2>>=fun r34=>
 if r34.2.2 then
 zR q5 r34.1>>=fun x37=>
 kY r34.2.1 0 x37.pars>>=fun x39=>
 mM qq q0 q1 q2 q3 q4 q5 q6 q7 q8 p1 p2 r34.1 x39>>=fun r41=>
 some (r41.1,r41.2.1,r41.2.2.1,r41.2.2.2)
 else
 if p1.k != p2.k then
 some (false,q8,q6,q7)
 else
 if p1.k==3 then
 zR p1.sub 0>>=fun x45=>
 zR p2.sub 0>>=fun x47=>
 vT qq q0 q1 q2 q3 q4 q5 q6 q7 q8 x45 x47>>=fun r49=>
 if r49.1 then
 zR p1.sub 1>>=fun x52=>
 zR p2.sub 1>>=fun x54=>
 vT qq q0 q1 q2 q3 q4 q5 r49.2.2.1 r49.2.2.2 r49.2.1 x52 x54>>=fun r56=>
 some (r56.1,r56.2.1,r56.2.2.1,r56.2.2.2)
 else
 some (false,r49.2.1,r49.2.2.1,r49.2.2.2)
 else
 if p1.k==2 then
 e91 qq p1.n p2.n>>=fun r59=>
 some (r59,q8,q6,q7)
 else
 fT qq q0 q1 q2 q3 q4 q5 q6 q7 q8 p1 p2>>=fun r61=>
 some (r61.1,r61.2.1,r61.2.2.1,r61.2.2.2)
def mM:Nat->yU->yU->tW->yV->yV->yU->Int->Int->Int->Tm->Tm->Int->zQ->Option (Bool×Int×Int×Int)
 |0,_,_,_,_,_,_,_,_,_,_,_,_,_=>none
 |qq+1,q0,q1,q2,q3,q4,q5,q6,q7,q8,p1,p2,p3,p4=>
 zR q5 p3>>=fun x1=>
 zR q5 x1.fam>>=fun x3=>
 uY qq q0 q1 q2 q3 q4 q5 p1 p2 p3 p4 x3 0 q8 q6 q7
def uY:Nat->yU->yU->tW->yV->yV->yU->Tm->Tm->Int->zQ->zU->Int->Int->Int->Int->Option (Bool×Int×Int×Int)
 |0,_,_,_,_,_,_,_,_,_,_,_,_,_,_,_=>none
 |qq+1,q0,q1,q2,q3,q4,q5,p1,p2,p3,p4,x3,v28,uF,xP,xX=>
 if decide (v28<(x3.fields.length:Int))then
 zKk qq (wF.mk q0 q1 q2 q3 q4) q5 xP xX uF p1 p3 v28 p4>>=fun r6=>
 zKk qq (wF.mk q0 q1 q2 q3 q4) q5 xP xX r6.2 p2 p3 v28 p4>>=fun r8=>
 vT qq q0 q1 q2 q3 q4 q5 xP xX r8.2 r6.1 r8.1>>=fun r10=>
 if r10.1 then
 uY qq q0 q1 q2 q3 q4 q5 p1 p2 p3 p4 x3 (xL (v28+1)) r10.2.1 r10.2.2.1 r10.2.2.2
 else
 some (false,r10.2.1,r10.2.2.1,r10.2.2.2)
 else
 some (true,uF,xP,xX)
def fT:Nat->yU->yU->tW->yV->yV->yU->Int->Int->Int->Tm->Tm->Option (Bool×Int×Int×Int)
 |0,_,_,_,_,_,_,_,_,_,_,_=>none
 |qq+1,q0,q1,q2,q3,q4,q5,q6,q7,q8,p1,p2=>
 e62 qq p1>>=fun r1=>
 e62 qq p2>>=fun r3=>
 if r1.1.k != r3.1.k then
 some (false,q8,q6,q7)
 else
 if r1.1.n != r3.1.n then
 some (false,q8,q6,q7)
 else
 if (r1.2.length:Int) != (r3.2.length:Int)then
 some (false,q8,q6,q7)
 else
 if r1.1.k==7 then
 zR r1.1.sub 0>>=fun x9=>
 zR r3.1.sub 0>>=fun x11=>
 if x9.n != x11.n then
 some (false,q8,q6,q7)
 else
 if r1.1.k==3 then
 vT qq q0 q1 q2 q3 q4 q5 q6 q7 q8 x9 x11>>=fun r15=>
 if r15.1 then
 zR r1.1.sub 1>>=fun x18=>
 zR r3.1.sub 1>>=fun x20=>
 vT qq q0 q1 q2 q3 q4 q5 r15.2.2.1 r15.2.2.2 r15.2.1 x18 x20>>=fun r22=>
 if r22.1 then
 wP qq q0 q1 q2 q3 q4 q5 r1 r3 0 r22.2.1 r22.2.2.1 r22.2.2.2
 else
 some (false,r22.2.1,r22.2.2.1,r22.2.2.2)
 else
 some (false,r15.2.1,r15.2.2.1,r15.2.2.2)
 else
 wP qq q0 q1 q2 q3 q4 q5 r1 r3 0 q8 q6 q7
 else
 if r1.1.k==3 then
 zR r1.1.sub 0>>=fun x26=>
 zR r3.1.sub 0>>=fun x28=>
 vT qq q0 q1 q2 q3 q4 q5 q6 q7 q8 x26 x28>>=fun r30=>
 if r30.1 then
 zR r1.1.sub 1>>=fun x33=>
 zR r3.1.sub 1>>=fun x35=>
 vT qq q0 q1 q2 q3 q4 q5 r30.2.2.1 r30.2.2.2 r30.2.1 x33 x35>>=fun r37=>
 if r37.1 then
 wP qq q0 q1 q2 q3 q4 q5 r1 r3 0 r37.2.1 r37.2.2.1 r37.2.2.2
 else
 some (false,r37.2.1,r37.2.2.1,r37.2.2.2)
 else
 some (false,r30.2.1,r30.2.2.1,r30.2.2.2)
 else
 wP qq q0 q1 q2 q3 q4 q5 r1 r3 0 q8 q6 q7
def wP:Nat->yU->yU->tW->yV->yV->yU->(Tm×zQ)->(Tm×zQ)->Int->Int->Int->Int->Option (Bool×Int×Int×Int)
 |0,_,_,_,_,_,_,_,_,_,_,_,_=>none
 |qq+1,q0,q1,q2,q3,q4,q5,r1,r3,v89,uF,xP,xX=>
 if decide (v89<(r1.2.length:Int))then
 zR r1.2 v89>>=fun x26=>
 zR r3.2 v89>>=fun x28=>
 vT qq q0 q1 q2 q3 q4 q5 xP xX uF x26 x28>>=fun r30=>
 if r30.1 then
 wP qq q0 q1 q2 q3 q4 q5 r1 r3 (xL (v89+1)) r30.2.1 r30.2.2.1 r30.2.2.2
 else
 some (false,r30.2.1,r30.2.2.1,r30.2.2.2)
 else
 some (true,uF,xP,xX)
end
abbrev P6 (q0 q1:yU) (q2:tW) (q3 q4:yV) (q5:yU) (q6 q7 q8:Int) (p1 p2:Tm) (r:Bool×Int×Int×Int) (C:Cf):Prop:=C 56 [.cells [.mp 1 0,zO yZ q5 .no,.mp 3 0,ai q8],qB q0 2 q3 q4,qR q1 q2,.cells [ai q6,ai q7]] [.mp 0 0,xF p1,xF p2] (ab r.1) [.cells [.mp 1 0,zO yZ q5 .no,.mp 3 0,ai r.2.1],qB q0 2 q3 q4,qR q1 q2,.cells [ai r.2.2.1,ai r.2.2.2]] 0
abbrev zBa (q0 q1:yU) (q2:tW) (q3 q4:yV) (q5:yU) (q6 q7 q8:Int) (p1 p2:Tm) (r:Bool×Int×Int×Int) (C:Cf):Prop:=C 90 [.cells [.mp 1 0,zO yZ q5 .no,.mp 3 0,ai q8],qB q0 2 q3 q4,qR q1 q2,.cells [ai q6,ai q7]] [.mp 0 0,xF p1,xF p2,.agg [.clo 91 [] [],.clo 56 [.mp 0 0] []]] (ab r.1) [.cells [.mp 1 0,zO yZ q5 .no,.mp 3 0,ai r.2.1],qB q0 2 q3 q4,qR q1 q2,.cells [ai r.2.2.1,ai r.2.2.2]] 0
abbrev zPy (q0 q1:yU) (q2:tW) (q3 q4:yV) (q5:yU) (q6 q7 q8:Int) (p1 p2:Tm) (p3:Int) (p4:zQ) (r:Bool×Int×Int×Int) (C:Cf):Prop:=C 120 [.cells [.mp 1 0,zO yZ q5 .no,.mp 3 0,ai q8],qB q0 2 q3 q4,qR q1 q2,.cells [ai q6,ai q7]] [.mp 0 0,xF p1,xF p2,ai p3,zO zD p4 .no] (ab r.1) [.cells [.mp 1 0,zO yZ q5 .no,.mp 3 0,ai r.2.1],qB q0 2 q3 q4,qR q1 q2,.cells [ai r.2.2.1,ai r.2.2.2]] 0
abbrev Y5 (q0 q1:yU) (q2:tW) (q3 q4:yV) (q5:yU) (q6 q7 q8:Int) (p1 p2:Tm) (r:Bool×Int×Int×Int) (C:Cf):Prop:=C 121 [.cells [.mp 1 0,zO yZ q5 .no,.mp 3 0,ai q8],qB q0 2 q3 q4,qR q1 q2,.cells [ai q6,ai q7]] [.mp 0 0,xF p1,xF p2] (ab r.1) [.cells [.mp 1 0,zO yZ q5 .no,.mp 3 0,ai r.2.1],qB q0 2 q3 q4,qR q1 q2,.cells [ai r.2.2.1,ai r.2.2.2]] 0
theorem zIt:Qf 56 f56:=⟨func56,rfl⟩
theorem zIs{q0 q1 q2 q3 q4 q5 q6 q7 q8 p1 p2 r}(h:P6 q0 q1 q2 q3 q4 q5 q6 q7 q8 p1 p2 r Ci):P6 q0 q1 q2 q3 q4 q5 q6 q7 q8 p1 p2 r Ct:=⟨h,⟨(lz rfl),⟨tv,tv,⟨tv,dT _⟩,tv⟩,⟨tv,tv,⟨tv,dT _⟩,tv⟩,tv⟩,(zC ⟨(lz rfl),⟨tv,dE _⟩,(lz rfl),tv,tv⟩ (eH (lz rfl) (zC ⟨tv,tv,tv⟩ zA))),tv,(zC ⟨(lz rfl),dE _,(lz rfl),tv,tv⟩ (iY (lz rfl) (zC ⟨tv,tv,tv⟩ zA)))⟩
theorem qY:Qf 90 f90:=⟨func90,rfl⟩
theorem qZ{q0 q1 q2 q3 q4 q5 q6 q7 q8 p1 p2 r}(h:zBa q0 q1 q2 q3 q4 q5 q6 q7 q8 p1 p2 r Ci):zBa q0 q1 q2 q3 q4 q5 q6 q7 q8 p1 p2 r Ct:=⟨h,⟨(lz rfl),⟨tv,tv,⟨tv,dT _⟩,tv⟩,⟨tv,tv,⟨tv,dT _⟩,tv⟩,⟨⟨tv,tv⟩,⟨⟨(lz rfl),tv⟩,tv⟩,tv⟩,tv⟩,(zC ⟨(lz rfl),⟨tv,dE _⟩,(lz rfl),tv,tv⟩ (eH (lz rfl) (zC ⟨tv,tv,tv⟩ zA))),tv,(zC ⟨(lz rfl),dE _,(lz rfl),tv,tv⟩ (iY (lz rfl) (zC ⟨tv,tv,tv⟩ zA)))⟩
theorem sG:Qf 121 f121:=⟨func121,rfl⟩
theorem sH{q0 q1 q2 q3 q4 q5 q6 q7 q8 p1 p2 r}(h:Y5 q0 q1 q2 q3 q4 q5 q6 q7 q8 p1 p2 r Ci):Y5 q0 q1 q2 q3 q4 q5 q6 q7 q8 p1 p2 r Ct:=⟨h,⟨(lz rfl),⟨tv,tv,⟨tv,dT _⟩,tv⟩,⟨tv,tv,⟨tv,dT _⟩,tv⟩,tv⟩,(zC ⟨(lz rfl),⟨tv,dE _⟩,(lz rfl),tv,tv⟩ (eH (lz rfl) (zC ⟨tv,tv,tv⟩ zA))),tv,(zC ⟨(lz rfl),dE _,(lz rfl),tv,tv⟩ (iY (lz rfl) (zC ⟨tv,tv,tv⟩ zA)))⟩
theorem uC:∀qq:Nat,(∀ {q0 q1 q2 q3 q4 q5 q6 q7 q8 p1 p2 r},vT qq q0 q1 q2 q3 q4 q5 q6 q7 q8 p1 p2=some r->P6 q0 q1 q2 q3 q4 q5 q6 q7 q8 p1 p2 r Ct)∧(∀ {q0 q1 q2 q3 q4 q5 q6 q7 q8 p1 p2 r},E4 qq q0 q1 q2 q3 q4 q5 q6 q7 q8 p1 p2=some r->zBa q0 q1 q2 q3 q4 q5 q6 q7 q8 p1 p2 r Ct)∧(∀ {q0 q1 q2 q3 q4 q5 q6 q7 q8 p1 p2 p3 p4 r},mM qq q0 q1 q2 q3 q4 q5 q6 q7 q8 p1 p2 p3 p4=some r->zPy q0 q1 q2 q3 q4 q5 q6 q7 q8 p1 p2 p3 p4 r Ct)∧(∀ {q0 q1 q2 q3 q4 q5 p1 p2 p3 p4 x3 v28 uF xP xX r},uY qq q0 q1 q2 q3 q4 q5 p1 p2 p3 p4 x3 v28 uF xP xX=some r->(∀j,dL 4 (pt 949 f120) (sp j 47 0 [(0,.mp 0 0),(3,ai p3),(4,zO zD p4 .no),(6,.mp 4 0),(7,.mp 5 0),(27,ai (x3.fields.length:Int)),(28,ai v28)]) (⟨[(0,.cells [.mp 1 0,zO yZ q5 .no,.mp 3 0,ai uF]),(1,qB q0 2 q3 q4),(2,qR q1 q2),(3,.cells [ai xP,ai xX]),(4,.cells [ai p1.k,ai p1.n,zO zD p1.sub .no]),(5,.cells [ai p2.k,ai p2.n,zO zD p2.sub .no])],6,[],0,[]⟩) (fQ 4 (nQ 4 f120 (ab r.1) [.cells [.mp 1 0,zO yZ q5 .no,.mp 3 0,ai r.2.1],qB q0 2 q3 q4,qR q1 q2,.cells [ai r.2.2.1,ai r.2.2.2]] 0) [.blk 0,.seq (pt 15 f120)])))∧(∀ {q0 q1 q2 q3 q4 q5 q6 q7 q8 p1 p2 r},fT qq q0 q1 q2 q3 q4 q5 q6 q7 q8 p1 p2=some r->Y5 q0 q1 q2 q3 q4 q5 q6 q7 q8 p1 p2 r Ct)∧(∀ {q0 q1 q2 q3 q4 q5 r1 r3 v89 uF xP xX r},wP qq q0 q1 q2 q3 q4 q5 r1 r3 v89 uF xP xX=some r->(∀j,dL 4 (pt 262069 f121) (sp j 104 0 [(0,.mp 0 0),(8,zO zD r1.2 .no),(10,zO zD r3.2 .no),(88,ai (r1.2.length:Int)),(89,ai v89)]) (⟨[(0,.cells [.mp 1 0,zO yZ q5 .no,.mp 3 0,ai uF]),(1,qB q0 2 q3 q4),(2,qR q1 q2),(3,.cells [ai xP,ai xX])],4,[],0,[]⟩) (fQ 4 (nQ 4 f121 (ab r.1) [.cells [.mp 1 0,zO yZ q5 .no,.mp 3 0,ai r.2.1],qB q0 2 q3 q4,qR q1 q2,.cells [ai r.2.2.1,ai r.2.2.2]] 0) [.blk 0,.seq (pt 4095 f121)]))):=by
 intro qq
 induction qq with
 |zero=>
  exact⟨fun h=>nn h,fun h=>nn h,fun h=>nn h,fun h=>nn h,fun h=>nn h,fun h=>nn h⟩
 |succ qq ih=>
  obtain⟨vR,zPx,K2,E5,zKi,pA⟩:=ih
  refine⟨?_,?_,?_,?_,?_,?_⟩
  intro q0 q1 q2 q3 q4 q5 q6 q7 q8 p1 p2 r h
  rw[vT]at h
  obtain⟨r1,h2,h⟩:=zB h
  have k:=oC 2 [0,1,2,3] (c89 h2) o0
  obtain⟨h3,h⟩|⟨h3,h⟩:=zL h
  obtain⟨r4,h5,h⟩:=zB h
  cases h
  exact zIs (tF zIt 0 [0,1,2,3] (A7 q0 q1 q2 q3 q4<|oD (dE q5)<|oC 4 [0,1,2,3] (zPx h5)<|oB 2 h3 k))
  cases h
  exact zIs (tF zIt 2 [0,1,2,3] (A7 q0 q1 q2 q3 q4<|oD (dE q5)<|oB 2 h3 k))
  intro q0 q1 q2 q3 q4 q5 q6 q7 q8 p1 p2 r h
  rw[E4]at h
  have z {os ob} (k:Oz os ob):=A7 q0 q1 q2 q3 q4<|oD (dE q5)<|k
  obtain⟨h1,h⟩|⟨h1,h⟩:=zL h
  obtain⟨r2,h3,h⟩:=zB h
  obtain⟨r4,h5,h⟩:=zB h
  obtain⟨r6,h7,h⟩:=zB h
  cases h
  exact qZ (tF qY 0 [0,1,2,3] (z<|oC 0 [0,1,2,3] (vR h7)<|oC 1 [0,1,2,3] (zRF h5)<|oC 1 [0,1,2,3] (zRF h3)<|oB 1 h1 o0))
  have k:=oB 1 h1 o0
  obtain⟨h8,h⟩|⟨h8,h⟩:=zL h
  obtain⟨r9,h10,h⟩:=zB h
  obtain⟨r11,h12,h⟩:=zB h
  obtain⟨r13,h14,h⟩:=zB h
  cases h
  exact qZ (tF qY 0 [0,1,2,3] (z<|oC 0 [0,1,2,3] (vR h14)<|oC 1 [0,1,2,3] (zRF h12)<|oC 1 [0,1,2,3] (zRF h10)<|oB 1 h8 k))
  obtain⟨r15,h16,h⟩:=zB h
  have k:=oC 1 [0,1,2,3] (zRG h16)<|oB 1 h8 k
  obtain⟨h17,h⟩|⟨h17,h⟩:=zL h
  obtain⟨r18,h19,h⟩:=zB h
  have k:=oC 1 [0,1,2,3] (zRG h19)<|oB 2 h17 k
  obtain⟨h20,h⟩|⟨h20,h⟩:=zL h
  have k:=oB 2 h20 k
  obtain⟨h21,h⟩|⟨h21,h⟩:=zL h
  cases h
  exact qZ (tF qY 0 [0,1,2,3] (z<|oB 0 h21 k))
  obtain⟨x22,h23,h⟩:=zB h
  obtain⟨x24,h25,h⟩:=zB h
  obtain⟨r26,h27,h⟩:=zB h
  cases h
  exact qZ (tF qY 0 [0,1,2,3] (z<|oC 0 [0,1,2,3] (K2 h27)<|oA 1 (mD h25)<|oA 3 (wM (o:=.no) h23)<|oB 0 h21 k))
  obtain⟨x28,h29,h⟩:=zB h
  obtain⟨x30,h31,h⟩:=zB h
  obtain⟨r32,h33,h⟩:=zB h
  cases h
  exact qZ (tF qY 0 [0,1,2,3] (z<|oC 0 [0,1,2,3] (K2 h33)<|oA 1 (mD h31)<|oA 3 (wM (o:=.no) h29)<|oB 2 h20 k))
  obtain⟨r34,h35,h⟩:=zB h
  have k:=oC 1 [0,1,2,3] (zRG h35)<|oB 2 h17 k
  obtain⟨h36,h⟩|⟨h36,h⟩:=zL h
  obtain⟨x37,h38,h⟩:=zB h
  obtain⟨x39,h40,h⟩:=zB h
  obtain⟨r41,h42,h⟩:=zB h
  cases h
  exact qZ (tF qY 0 [0,1,2,3] (z<|oC 0 [0,1,2,3] (K2 h42)<|oA 1 (mD h40)<|oA 3 (wM (o:=.no) h38)<|oB 2 h36 k))
  have k:=oB 2 h36 k
  obtain⟨h43,h⟩|⟨h43,h⟩:=zL h
  cases h
  exact qZ (tF qY 0 [0,1,2,3] (z<|oB 2 h43 k))
  have k:=oB 2 h43 k
  obtain⟨h44,h⟩|⟨h44,h⟩:=zL h
  obtain⟨x45,h46,h⟩:=zB h
  obtain⟨x47,h48,h⟩:=zB h
  obtain⟨r49,h50,h⟩:=zB h
  have k:=oA 2 (wN (o:=.no) h48)<|oA 1 (wN (o:=.no) h46)<|oB 1 h44 k
  obtain⟨h51,h⟩|⟨h51,h⟩:=zL h
  obtain⟨x52,h53,h⟩:=zB h
  obtain⟨x54,h55,h⟩:=zB h
  obtain⟨r56,h57,h⟩:=zB h
  cases h
  exact qZ (tF qY 0 [0,1,2,3] (z<|oC 1 [0,1,2,3] (vR h57)<|oA 2 (wN (o:=.no) h55)<|oA 2 (wN (o:=.no) h53)<|oK 1 [0,1,2,3] h51 (vR h50) k))
  cases h
  exact qZ (tF qY 0 [0,1,2,3] (z<|oK 1 [0,1,2,3] h51 (vR h50) k))
  have k:=oB 1 h44 k
  obtain⟨h58,h⟩|⟨h58,h⟩:=zL h
  obtain⟨r59,h60,h⟩:=zB h
  cases h
  exact qZ (tF qY 0 [0,1,2,3] (z<|oC 3 [] (c91 h60)<|oB 1 h58 k))
  obtain⟨r61,h62,h⟩:=zB h
  cases h
  exact qZ (tF qY 0 [0,1,2,3] (z<|oC 2 [0,1,2,3] (zKi h62)<|oB 1 h58 k))
  intro q0 q1 q2 q3 q4 q5 q6 q7 q8 p1 p2 p3 p4 r h
  rw[mM]at h
  obtain⟨x1,h2,h⟩:=zB h
  obtain⟨x3,h4,h⟩:=zB h
  exact⟨tH ⟨func120,rfl⟩ 2 [] [0,1,2,3,4,5] [] [0,3,4,6,7,27,28] (oD (dT p4)<|oD (dT p2.sub)<|oD (dT p1.sub)<|A7 q0 q1 q2 q3 q4<|oD (dE q5)<|oA 1 (wM (o:=.no) h4)<|oA 2 (wM (o:=.no) h2) o0) (E5 h),⟨(lz rfl),⟨tv,tv,⟨tv,dT _⟩,tv⟩,⟨tv,tv,⟨tv,dT _⟩,tv⟩,tv,⟨tv,dT _⟩,tv⟩,(zC ⟨(lz rfl),⟨tv,dE _⟩,(lz rfl),tv,tv⟩ (eH (lz rfl) (zC ⟨tv,tv,tv⟩ zA))),tv,(zC ⟨(lz rfl),dE _,(lz rfl),tv,tv⟩ (iY (lz rfl) (zC ⟨tv,tv,tv⟩ zA)))⟩
  intro q0 q1 q2 q3 q4 q5 p1 p2 p3 p4 x3 v28 uF xP xX r h
  rw[uY]at h
  have z {os ob} (k:Oz os ob):=A7 q0 q1 q2 q3 q4<|oD (dE q5)<|k
  obtain⟨h5,h⟩|⟨h5,h⟩:=zL h
  obtain⟨r6,h7,h⟩:=zB h
  obtain⟨r8,h9,h⟩:=zB h
  obtain⟨r10,h11,h⟩:=zB h
  have k:=oC 1 [0,1,2,3] (zXg h9)<|oC 1 [0,1,2,3] (zXg h7)<|oB 0 h5 o0
  obtain⟨h12,h⟩|⟨h12,h⟩:=zL h
  exact fun j=>lH 2 [] [0,1,2,3,4,5] [] [0,3,4,6,7,27,28] (oD (dT p4)<|oD (dT p2.sub)<|oD (dT p1.sub)<|z<|oK 0 [0,1,2,3] h12 (vR h11) k) (E5 h)
  cases h
  exact fun j=>lF 1 [0,1,2,3] (z<|oK 0 [0,1,2,3] h12 (vR h11) k)
  cases h
  exact fun j=>lF 0 [0,1,2,3] (z<|oB 0 h5 o0)
  intro q0 q1 q2 q3 q4 q5 q6 q7 q8 p1 p2 r h
  rw[fT]at h
  have z {os ob} (k:Oz os ob):=A7 q0 q1 q2 q3 q4<|oD (dE q5)<|k
  obtain⟨r1,h2,h⟩:=zB h
  obtain⟨r3,h4,h⟩:=zB h
  have k:=oC 4 [] (c62 h4)<|oC 1 [] (c62 h2) o0
  obtain⟨h5,h⟩|⟨h5,h⟩:=zL h
  cases h
  exact sH (tF sG 0 [0,1,2,3] (z<|oB 5 h5 k))
  have k:=oB 5 h5 k
  obtain⟨h6,h⟩|⟨h6,h⟩:=zL h
  cases h
  exact sH (tF sG 0 [0,1,2,3] (z<|oB 2 h6 k))
  have k:=oB 2 h6 k
  obtain⟨h7,h⟩|⟨h7,h⟩:=zL h
  cases h
  exact sH (tF sG 0 [0,1,2,3] (z<|oB 2 h7 k))
  have k:=oB 2 h7 k
  obtain⟨h8,h⟩|⟨h8,h⟩:=zL h
  obtain⟨x9,h10,h⟩:=zB h
  obtain⟨x11,h12,h⟩:=zB h
  have k:=oA 2 (wN (o:=.no) h12)<|oA 1 (wN (o:=.no) h10)<|oB 1 h8 k
  obtain⟨h13,h⟩|⟨h13,h⟩:=zL h
  cases h
  exact sH (tF sG 0 [0,1,2,3] (z<|oB 1 h13 k))
  have k:=oB 1 h13 k
  obtain⟨h14,h⟩|⟨h14,h⟩:=zL h
  obtain⟨r15,h16,h⟩:=zB h
  have k:=oA 2 (wN (o:=.no) h12)<|oA 1 (wN (o:=.no) h10)<|oB 1 h14 k
  obtain⟨h17,h⟩|⟨h17,h⟩:=zL h
  obtain⟨x18,h19,h⟩:=zB h
  obtain⟨x20,h21,h⟩:=zB h
  obtain⟨r22,h23,h⟩:=zB h
  have k:=oA 2 (wN (o:=.no) h21)<|oA 1 (wN (o:=.no) h19)<|oK 1 [0,1,2,3] h17 (vR h16) k
  obtain⟨h24,h⟩|⟨h24,h⟩:=zL h
  exact sH (tH sG 2 [] [0,1,2,3] [] [0,8,10,88,89] (oD (dT r3.2)<|oD (dT r1.2)<|z<|oK 1 [0,1,2,3] h24 (vR h23) k) (pA h))
  cases h
  exact sH (tF sG 1 [0,1,2,3] (z<|oK 1 [0,1,2,3] h24 (vR h23) k))
  cases h
  exact sH (tF sG 1 [0,1,2,3] (z<|oK 1 [0,1,2,3] h17 (vR h16) k))
  exact sH (tH sG 1 [] [0,1,2,3] [] [0,8,10,88,89] (oD (dT r3.2)<|oD (dT r1.2)<|z<|oB 1 h14 k) (pA h))
  have k:=oB 1 h8 k
  obtain⟨h25,h⟩|⟨h25,h⟩:=zL h
  obtain⟨x26,h27,h⟩:=zB h
  obtain⟨x28,h29,h⟩:=zB h
  obtain⟨r30,h31,h⟩:=zB h
  have k:=oA 2 (wN (o:=.no) h29)<|oA 1 (wN (o:=.no) h27)<|oB 1 h25 k
  obtain⟨h32,h⟩|⟨h32,h⟩:=zL h
  obtain⟨x33,h34,h⟩:=zB h
  obtain⟨x35,h36,h⟩:=zB h
  obtain⟨r37,h38,h⟩:=zB h
  have k:=oA 2 (wN (o:=.no) h36)<|oA 1 (wN (o:=.no) h34)<|oK 1 [0,1,2,3] h32 (vR h31) k
  obtain⟨h39,h⟩|⟨h39,h⟩:=zL h
  exact sH (tH sG 2 [] [0,1,2,3] [] [0,8,10,88,89] (oD (dT r3.2)<|oD (dT r1.2)<|z<|oK 1 [0,1,2,3] h39 (vR h38) k) (pA h))
  cases h
  exact sH (tF sG 1 [0,1,2,3] (z<|oK 1 [0,1,2,3] h39 (vR h38) k))
  cases h
  exact sH (tF sG 1 [0,1,2,3] (z<|oK 1 [0,1,2,3] h32 (vR h31) k))
  exact sH (tH sG 1 [] [0,1,2,3] [] [0,8,10,88,89] (oD (dT r3.2)<|oD (dT r1.2)<|z<|oB 1 h25 k) (pA h))
  intro q0 q1 q2 q3 q4 q5 r1 r3 v89 uF xP xX r h
  rw[wP]at h
  have z {os ob} (k:Oz os ob):=A7 q0 q1 q2 q3 q4<|oD (dE q5)<|k
  obtain⟨h25,h⟩|⟨h25,h⟩:=zL h
  obtain⟨x26,h27,h⟩:=zB h
  obtain⟨x28,h29,h⟩:=zB h
  obtain⟨r30,h31,h⟩:=zB h
  have k:=oA 1 (wN (o:=.no) h29)<|oA 0 (wN (o:=.no) h27)<|oB 0 h25 o0
  obtain⟨h32,h⟩|⟨h32,h⟩:=zL h
  exact fun j=>lH 2 [] [0,1,2,3] [] [0,8,10,88,89] (oD (dT r3.2)<|oD (dT r1.2)<|z<|oK 1 [0,1,2,3] h32 (vR h31) k) (pA h)
  cases h
  exact fun j=>lF 1 [0,1,2,3] (z<|oK 1 [0,1,2,3] h32 (vR h31) k)
  cases h
  exact fun j=>lF 0 [0,1,2,3] (z<|oB 0 h25 o0)
theorem zRH{qq q0 q1 q2 q3 q4 q5 q6 q7 q8 p1 p2 r}(h:vT qq q0 q1 q2 q3 q4 q5 q6 q7 q8 p1 p2=some r):P6 q0 q1 q2 q3 q4 q5 q6 q7 q8 p1 p2 r Ct:=(uC _).1 h
def zEu(r:Bool×Int×Int×Int):Int:=if r.1=true then 9 else r.2.1
theorem zBA{r:Bool×Int×Int×Int}(h:zEu r=8):r.1=false∧r.2.1=8:=by
 unfold zEu at h
 split at h
 ·omega
 ·rename_i h1;exact⟨by simpa using h1,h⟩
def zBB(l:List zU)(m:Bool)(L U e:Int)(q:Nat)(x y:Tm):Option (Bool×Int×Int×Int):=match m with
 |false=>vT q l l (jQ l l.length 0) (l.map xI) (l.map pD) l L U e x y
 |true=>none
def zUV(l:List zU)(m:Bool)(L U e:Int)(q:Nat)(x y:Tm):Option (Bool×Int×Int×Int):=match m with
 |false=>E4 q l l (jQ l l.length 0) (l.map xI) (l.map pD) l L U e x y
 |true=>none
def QX(X:Bool->Int->Prop)(R:Int->Int->Bool×Int×Int×Int)(k:Int):Prop:=∃b e,e≠8∧(e=0->X b k)∧(e≠0->b=false∧∀b k,¬X b k)∧R=fun L U=>(b,e,L,U)
def HX(g:Int->Int->Nat->Option (Bool×Int×Int×Int))(X:Bool->Int->Prop)(f:Int):Prop:=Ou g zEu (QX X) (∀b k,X b k->f<k) f
def HC(l:List zU)(m:Bool)(x y:Tm)(f:Int):Prop:=HX (fun L U q=>zBB l m L U 0 q x y) (Cv l m x y) f
theorem fU{X:Bool->Int->Prop}{e k:Int}(h8:e≠8)(h0:e≠0)(h:∀b k,¬X b k):QX X (fun L U=>(false,e,L,U)) k:=⟨false,e,h8,fun h=>absurd h h0,fun _=>⟨rfl,h⟩,rfl⟩
theorem zAq{X:Bool->Int->Prop}{b:Bool}{k:Int}(h:X b k):QX X (fun L U=>(b,0,L,U)) k:=⟨b,0,by decide,fun _=>h,fun h=>absurd rfl h,rfl⟩
theorem zEt(l:List zU)(m:Bool)(x y:Tm)(e:Int)(he:e≠0)(L U:Int)(hmf:m=false):zG (fun q=>zBB l m L U e q x y) (false,e,L,U):=by
 have hp:zG (fun q=>e89 q (wF.mk l l (jQ l l.length 0) (l.map xI) (l.map pD)) l L U e x y) (x,y,false,e,L,U):=by
  simp only[e89]
  exact zG.ifT (by simpa using he) zG.ret
 cases m with
 |false=>
  refine zG.succ ?_
  simp only[zBB,vT]
  exact hp.bind (zG.ifF rfl zG.ret)
 |true=>cases hmf
theorem uB.one{C:Tm->Tm->Bool->Int->Prop}{p:PE}{b:Bool}{k:Int}:uB C [p] b k↔p.1.2=0∧p.2.2=0∧C p.1.1 p.2.1 b k:=by
 constructor
 ·rintro ⟨h1,h2,b1,k1,h3,⟨rfl,rfl,rfl⟩|⟨rfl,k2,⟨rfl,rfl⟩,rfl⟩⟩
  ·exact⟨h1,h2,h3⟩
  ·exact⟨h1,h2,by rwa[Int.add_zero]⟩
 ·rintro ⟨h1,h2,h3⟩
  refine⟨h1,h2,b,k,h3,?_⟩
  cases b with
  |false=>exact .inl ⟨rfl,rfl,rfl⟩
  |true=>exact .inr ⟨rfl,0,⟨rfl,rfl⟩,by omega⟩
theorem E6{l:List zU}{p:PE}{r:List PE}{f:Int}{g:Int->Int->Nat->Option (Bool×Int×Int×Int)}{c:Int->Int->Int->Nat->Option (Bool×Int×Int×Int)}
  (h1:HX g (uB (Cv l false) [p]) f) (hc:∀k,0≤k->k≤f->HX (fun L U q=>c 0 L U q) (uB (Cv l false) r) (f-k)) :
  HX (fun L U q=>g L U q>>=fun r30=>if r30.1=true then c r30.2.1 r30.2.2.1 r30.2.2.2 q else some (false,r30.2.1,r30.2.2.1,r30.2.2.2)) (uB (Cv l false) (p::r)) f:=by
 refine Ou.bind h1 (fun h b k ha=>?_) (fun r hr=>?_) ?_
 ·obtain⟨a1,a2,b1,k1,a3,a4⟩:=ha
  have:=h b1 k1 (uB.one.2 ⟨a1,a2,a3⟩)
  rcases a4 with⟨-,-,a4⟩|⟨-,k2,a4,a5⟩
  ·omega
  ·have:=uB.nn (fun _ _ _ _ h=>Cv.nn h) a4;omega
 ·have:=zBA hr
  refine⟨_,zG.ifF this.1 zG.ret,?_⟩
  unfold zEu
  rw[if_neg (by simp)];exact this.2
 ·rintro R k k0 k1 ⟨b1,e1,h8,h0,hn,rfl⟩
  dsimp only
  by_cases e0:e1=0
  ·subst e0
   obtain⟨a1,a2,a3⟩:=uB.one.1 (h0 rfl)
   cases b1 with
   |false=>exact Ou.ifF rfl (Ou.ret (by omega) (zAq ⟨a1,a2,false,k,a3,.inl ⟨rfl,rfl,by omega⟩⟩))
   |true=>
    refine Ou.ifT rfl ((hc k k0 k1).mono ?_ fun h b k' ha=>?_)
    ·rintro R n _ _ ⟨b,e,g8,g0,gn,rfl⟩
     refine⟨b,e,g8,fun he=>⟨a1,a2,true,k,a3,.inr ⟨rfl,n,g0 he,rfl⟩⟩,fun he=>⟨(gn he).1,fun b' k' ha=>?_⟩,rfl⟩
     obtain⟨-,-,b1,k1,a4,a5⟩:=ha
     obtain⟨rfl,rfl⟩:=a3.det a4
     rcases a5 with⟨a5,-⟩|⟨-,k2,a5,-⟩
     ·cases a5
     ·exact(gn he).2 _ _ a5
    ·obtain⟨-,-,b1,k1,a4,a5⟩:=ha
     obtain⟨rfl,rfl⟩:=a3.det a4
     rcases a5 with⟨a5,-⟩|⟨-,k2,a5,a6⟩
     ·cases a5
     ·have:=h _ _ a5;omega
  ·obtain⟨rfl,hno⟩:=hn e0
   refine Ou.ifF rfl (Ou.ret (by omega) (fU h8 e0 fun b k ha=>?_))
   obtain⟨a1,a2,b1,k1,a3,-⟩:=ha
   exact hno b1 k1 (uB.one.2 ⟨a1,a2,a3⟩)
theorem zIr{l:List zU}{p q:Tm×Int}{f:Int}(hf:0≤f)(h8:p.2≠8∧q.2≠8)(h:p.2=0->q.2=0->HC l false p.1 q.1 f):HX (fun L U n=>zBB l false L U (if p.2=0 then q.2 else p.2) n p.1 q.1) (uB (Cv l false) [(p,q)]) f:=by
 by_cases h1:p.2=0
 ·rw[if_pos h1]
  by_cases h2:q.2=0
  ·rw[h2]
   refine(h h1 h2).mono ?_ fun hs b k ha=>hs b k (uB.one.1 ha).2.2
   rintro R n _ _ ⟨b,e,g8,g0,gn,rfl⟩
   exact⟨b,e,g8,fun he=>uB.one.2 ⟨h1,h2,g0 he⟩,fun he=>⟨(gn he).1,fun b k ha=>(gn he).2 b k (uB.one.1 ha).2.2⟩,rfl⟩
  ·exact Ou.evt0 (fun L U=>zEt l false p.1 q.1 q.2 h2 L U rfl) hf (fU h8.2 h2 fun b k ha=>h2 (uB.one.1 ha).2.1)
 ·rw[if_neg h1]
  exact Ou.evt0 (fun L U=>zEt l false p.1 q.1 p.2 h1 L U rfl) hf (fU h8.1 h1 fun b k ha=>h1 (uB.one.1 ha).1)
theorem K3{l:List zU}{a b:Tm}{f:Int}(h:HC l false a b f):HX (fun L U n=>zBB l false L U 0 n a b) (uB (Cv l false) [((a,0),(b,0))]) f:=by
 refine h.mono ?_ fun hs b k ha=>hs b k (uB.one.1 ha).2.2
 rintro R n _ _ ⟨b,e,g8,g0,gn,rfl⟩
 exact⟨b,e,g8,fun he=>uB.one.2 ⟨rfl,rfl,g0 he⟩,fun he=>⟨(gn he).1,fun b k ha=>(gn he).2 b k (uB.one.1 ha).2.2⟩,rfl⟩
theorem zIq{l:List zU}{f:Int}(hf:0≤f):HX (fun L U _=>some (true,0,L,U)) (uB (Cv l false) []) f:=Ou.ret hf (zAq ⟨rfl,rfl⟩)
theorem zIp(t:Tm):(pE t).2≠8:=by
 unfold pE
 split
 ·simp
 ·dsimp only
  split
  ·split<;>simp
  ·exact V7 t 1 0
theorem zIo{t:Tm}(hs:zH t=true):(pE t).1.Ok:=by
 unfold pE
 split
 ·rename_i h
  obtain⟨a,b,hab,-,hb⟩:=tS (zI hs).2.2 (.inr (.inl h))
  rw[hab];exact rS b hb
 ·exact fF (fD t 1 0 (zX hs)) (vX _ _)
theorem zXd{t:Tm}(h:t.k=4):pE t=(nth t.sub 1,0):=if_pos h
theorem zXc{t:Tm}(h:t.k≠4):pE t=(.mk 5 0 [(uK t 1 0).1,.mk 1 0 []],if (uK t 1 0).2=0 then(if zH (.mk 5 0 [(uK t 1 0).1,.mk 1 0 []])=true then 0 else 2)else(uK t 1 0).2):=if_neg h
theorem zAp(M:wF)(l:List zU)(t:Tm)(hs:zH t=true)(L U e:Int):zG (fun q=>s4 q M l L U e t) ((pE t).1,if e=0 then(pE t).2 else e):=by
 simp only[s4]
 by_cases h4:t.k=4
 ·obtain⟨a,b,hab,-,-⟩:=tS (zI hs).2.2 (.inr (.inl h4))
  refine zG.ifT (by simp[h4]) (zG.pure (tR (by omega) (by rw[hab];simp)) (zG.ret.eq ?_))
  rw[zXd h4]
  by_cases he:e=0
  ·simp[he]
  ·simp[he]
 ·rw[zXc h4]
  refine zG.ifF (by simp[h4]) ((zLK t 1 (zX hs)).bind ((I2 0).bind ((cX _ _).bind ?_)))
  dsimp only
  by_cases h1:(uK t 1 0).2=0
  ·refine zG.ifT (by simp[h1]) ((xR _ (fF (fD t 1 0 (zX hs)) (vX _ _))).bind ?_)
   by_cases h2:zH (.mk 5 0 [(uK t 1 0).1,.mk 1 0 []])=true
   ·refine zG.ifT h2 ?_
    by_cases he:e=0
    ·exact zG.ifT (by simp[he]) (zG.ret.eq (by simp[h1,h2,he]))
    ·exact zG.ifF (by simp[he]) (zG.ret.eq (by simp[he]))
   ·refine zG.ifF (by simpa using h2) ?_
    by_cases he:e=0
    ·exact zG.ifT (by simp[he]) (zG.ret.eq (by simp[h1,h2,he]))
    ·exact zG.ifF (by simp[he]) (zG.ret.eq (by simp[he]))
  ·refine zG.ifF (by simp[h1]) ?_
   by_cases he:e=0
   ·exact zG.ifT (by simp[he]) (zG.ret.eq (by simp[h1,he]))
   ·exact zG.ifF (by simp[he]) (zG.ret.eq (by simp[he]))
def N6(l:List zU)(t:Tm):Int×List Tm×Bool:=if tT l t then((zN t).n,yG t,true)else(0,[],false)
theorem zUW(l:List zU)(t:Tm)(hs:zH t=true):zG (fun q=>e78 q (yX l) t) (N4 l t):=by
 simp only[e78]
 refine(xR t (zX hs)).bind (zG.ifT hs (((nJ t (zX hs)).eq (by unfold iZ;rw[if_pos hs])).bind ((O8 l t hs).bind zG.ret)))
theorem eY{N:ByteArray->Bool}(l:List zU)(hE:xA N l)(t:Tm)(hs:zH t=true)(L U e:Int):zG (fun q=>zEv q (yX l) l L U e t) (N6 l t):=by
 simp only[zEv]
 refine(zUW l t hs).bind ?_
 by_cases h:vJ l t
 ·have hcs:=rW hs h
  obtain⟨A,z,a1,-,-,a4,a5,a6,a7,f0,f1,-⟩:=vB hE hcs.1 hcs.2.1 hcs.2.2.1
  have c:N4 l t=((zN t).n,yG t,true):=if_pos h
  rw[c]
  refine zG.ifT rfl (zG.pure (yP hcs.1 hcs.2.1) (zG.pure (yP f0 (show (zK l (zN t).n).fam<_ by omega)) ?_))
  by_cases h2:wX l (zN t).n=[]
  ·have r:N6 l t=(0,[],false):=if_neg (fun h=>h.2 h2)
   rw[r]
   have h3:(zK l (zK l (zN t).n).fam).fields=[]:=h2
   exact zG.ifT (by rw[h3];rfl) zG.ret
  ·have r:N6 l t=((zN t).n,yG t,true):=if_pos ⟨h,h2⟩
   rw[r]
   have h3:(zK l (zK l (zN t).n).fam).fields≠[]:=h2
   have:=List.length_pos_iff.2 h3
   exact zG.ifF (by simp;omega) zG.ret
 ·have c:N4 l t=(0,[],false):=if_neg h
  have r:N6 l t=(0,[],false):=if_neg (fun h'=>h h'.1)
  rw[c,r]
  exact zG.ifF rfl zG.ret
theorem kN{N:ByteArray->Bool}{l:List zU}{c:Int}(hE:xA N l)(h0:0≤c)(h1:c<l.length)(hk:(zK l c).kind=2)(hf:wX l c≠[]) :
  (vZ (zK l c).type:Int)=(zK l c).pars+(wX l c).length∧0≤(zK l c).pars∧0≤(zK l c).fam∧(zK l c).fam<l.length∧∀n∈wX l c,kH l n 4=true:=by
 obtain⟨A,z,a1,-,-,a4,a5,a6,a7,f0,f1,fk,fp,fi,fs,-,q0,q1⟩:=vB hE h0 h1 hk
 have hft:=(yQ (hE.2 _ f0 (by omega))).2.1 fk
 have hcn:=(yQ (hE.2 c h0 h1)).2.2.1 hk
 unfold nM at hft
 simp only[Bool.and_eq_true,Bool.or_eq_true,decide_eq_true_eq]at hft
 have hne:(zK l (zK l c).fam).fields.length≠0:=fun h=>hf (List.length_eq_zero_iff.1 h)
 have hD:=hft.2.resolve_left hne
 have hC:=hft.1.2
 unfold zTE at hD
 unfold zDy at hC
 simp only[Bool.and_eq_true,beq_iff_eq,decide_eq_true_eq]at hD hC
 obtain⟨⟨⟨⟨⟨d1,d2⟩,d3⟩,d4⟩,d5⟩,d6⟩:=hD
 unfold zFu mG zMp at hcn
 simp only[Bool.and_eq_true,decide_eq_true_eq,beq_iff_eq]at hcn
 have hown:V4 l (zK l c)=(zK l (zK l c).fam).cons:=by unfold V4;rw[if_neg (by omega)]
 have hpl:=hcn.1.2
 rw[hown]at hpl
 obtain⟨w,hw⟩:∃w,(zK l (zK l c).fam).cons=[w]:=by
  rcases hc:(zK l (zK l c).fam).cons with _|⟨w,_|⟨v,r⟩⟩<;>rw[hc]at d2<;>simp at d2
  exact⟨w,rfl⟩
 rw[hw]at hC hpl
 have hwc:w=c:=by
  have h3:=hpl.2
  have h4:(zK l c).place.toNat=0:=by have:=hpl.1.2;simp at this;omega
  rw[h4]at h3
  simpa using h3
 have hrun:=hC.1.2
 rw[w8]at hrun
 simp only[Bool.and_eq_true,beq_iff_eq]at hrun
 have hc1:c=(zK l c).fam+1:=by omega
 rw[←hc1,a1]at d6
 refine⟨?_,a6,f0,by omega,?_⟩
 ·rw[←a4,fp];exact d6
 ·have key:∀(r:List Int) (k:Int),V2 l (zK l c).fam 4 r k=true->∀n∈r,kH l n 4=true:=by
   intro r
   induction r with
   |nil=>intro k _ n hn;cases hn
   |cons a r ih=>
    intro k h n hn
    rw[V2]at h
    simp only[Bool.and_eq_true]at h
    rcases List.mem_cons.1 hn with rfl|hn
    ·exact h.1.1.1
    ·exact ih _ h.2 n hn
  exact key _ 0 d4
theorem zRI{l:List zU}{c:Int}{i:Nat}(h:i<(wX l c).length):zR (zK l (zK l c).fam).fields (i:Int)=some (((wX l c)[i]?).getD (-1)):=by
 unfold zR
 rw[if_pos (by omega),show (i:Int).toNat=i by omega]
 show (wX l c)[i]? = _
 rw[List.getElem?_eq_getElem h];rfl
theorem zEs(l:List zU)(t:Tm)(c:Int)(i:Nat)(pars:List Tm):(uO l t c i pars).2≠8:=by
 unfold uO
 split
 ·simp
 ·dsimp only;split<;>simp
theorem zEr{l:List zU}{t:Tm}(hs:zH t=true){c:Int}{i:Nat}{pars:List Tm}(hp:vK pars):(uO l t c i pars).1.Ok:=by
 unfold uO
 split
 ·exact zBu (Q:=Tm.Ok) (fun a ha=>zX (yW hs ha)) j5
 ·exact fF (pQ _ _ (vX _ _) hp) (zX hs)
theorem zIn{N:ByteArray->Bool}(l:List zU)(hE:xA N l)(t:Tm)(hs:zH t=true)(L U e c:Int)(i:Nat)(pars:List Tm)(h0:0≤c)(h1:c<l.length)(hk:(zK l c).kind=2)(hi:i<(wX l c).length)(hp:(pars.length:Int)=(zK l c).pars)(hop:vK pars) :
  zG (fun q=>zKk q (yX l) l L U e t c (i:Int) pars) ((uO l t c i pars).1,if e=0 then(uO l t c i pars).2 else e):=by
 have hf:wX l c≠[]:=fun h=>by rw[h]at hi;simp at hi
 obtain⟨r1,r2,r3,r4,-⟩:=kN hE h0 h1 hk hf
 have hpl:(zK l c).pars≤24∧vZ (zK l c).type≤24:=by
  obtain⟨A,z,a1,-,-,a4,a5,a6,a7,-⟩:=vB hE h0 h1 hk
  omega
 have tail:zG (fun q=>zR l c>>=fun x7=>zR l x7.fam>>=fun x9=>zR x9.fields (i:Int)>>=fun x11=>zPz q x11>>=fun r13=>e63 q r13 pars>>=fun r15=>e94 q r15 t>>=fun r17=>if (e==0)=true then G3 q r17>>=fun r20=>if r20=true then some (r17,e)else some (r17,2)else some (r17,e))
   (.mk 5 0 [wJ (.mk 6 (((wX l c)[i]?).getD (-1)) []) pars,t],if e=0 then(if zH (.mk 5 0 [wJ (.mk 6 (((wX l c)[i]?).getD (-1)) []) pars,t])=true then 0 else 2)else e):=by
  refine zG.pure (yP h0 h1) (zG.pure (yP r3 r4) (zG.pure (zRI hi) (zG.bind (a:=.mk 6 (((wX l c)[i]?).getD (-1)) []) (zG.mk fun _=>rfl) ((rM _ pars (by omega)).bind ((cX _ t).bind ?_)))))
  by_cases he:e=0
  ·refine zG.ifT (by simp[he]) ((xR _ (fF (pQ _ _ (vX _ _) hop) (zX hs))).bind ?_)
   by_cases h2:zH (.mk 5 0 [wJ (.mk 6 (((wX l c)[i]?).getD (-1)) []) pars,t])=true
   ·exact zG.ifT h2 (zG.ret.eq (by simp[h2,he]))
   ·exact zG.ifF (by simpa using h2) (zG.ret.eq (by simp[h2,he]))
  ·exact zG.ifF (by simp[he]) (zG.ret.eq (by simp[he]))
 simp only[zKk]
 refine(eY l hE t hs L U e).bind ?_
 by_cases h:tT l t
 ·have r:N6 l t=((zN t).n,yG t,true):=if_pos h
  rw[r]
  refine zG.ifT rfl ?_
  by_cases h2:(zN t).n=c
  ·have hpc:uO l t c i pars=(nth (yG t) ((pars.length+i:Nat):Int),0):=if_pos ⟨h,h2⟩
   rw[hpc]
   have hal:(yG t).length=vZ (zK l c).type:=by rw[←h2];exact h.1.2
   refine zG.ifT (by simp[h2]) ?_
   rw[yM (x:=(pars.length:Int)+i) (by omega) (by omega),show (pars.length:Int)+(i:Int)=((pars.length+i:Nat):Int) by omega]
   refine zG.pure (tR (by omega) (by show _<((yG t).length:Int);omega)) (zG.ret.eq ?_)
   by_cases he:e=0
   ·simp[he]
   ·simp[he]
  ·have hpc:uO l t c i pars=(.mk 5 0 [wJ (.mk 6 (((wX l c)[i]?).getD (-1)) []) pars,t],if zH (.mk 5 0 [wJ (.mk 6 (((wX l c)[i]?).getD (-1)) []) pars,t])=true then 0 else 2):=if_neg (fun h'=>h2 h'.2)
   rw[hpc]
   exact zG.ifF (by simpa using h2) tail
 ·have r:N6 l t=(0,[],false):=if_neg h
  have hpc:uO l t c i pars=(.mk 5 0 [wJ (.mk 6 (((wX l c)[i]?).getD (-1)) []) pars,t],if zH (.mk 5 0 [wJ (.mk 6 (((wX l c)[i]?).getD (-1)) []) pars,t])=true then 0 else 2):=if_neg (fun h'=>h h'.1)
  rw[r,hpc]
  exact zG.ifF rfl tail
def er6(r:Tm×Tm×Bool×Int×Int×Int):Int:=if r.2.2.1=true then 9 else r.2.2.2.1
theorem zXa{r:Tm×Tm×Bool×Int×Int×Int}(h:er6 r=8):r.2.2.1=false∧r.2.2.2.1=8:=by
 unfold er6 at h
 split at h
 ·omega
 ·rename_i h1;exact⟨by simpa using h1,h⟩
def QP(l:List zU)(x y:Tm)(R:Int->Int->Tm×Tm×Bool×Int×Int×Int)(k:Int):Prop:=
 (∃x' k1 y' k2,wA l x∧wA l y∧Br l x x' 0 k1∧Br l y y' 0 k2∧k=k1+k2∧R=fun L U=>(x',y',true,0,L,U)) ∨
 (∃a b e,e≠0∧e≠8∧(∀m b k,¬Cv l m x y b k)∧R=fun L U=>(a,b,false,e,L,U))
theorem Y6{N:ByteArray->Bool}(l:List zU)(hE:xA N l)(he:∀e∈l,hJ e)(x:Tm)(ho:x.Ok)(f:Int)(hf:0≤f):Ou (fun L U q=>zKj q (yX l) l L U 0 x) er4 (QBR l x) (wA l x∧∀y e k,Br l x y e k->f<k) f:=by
 simp only[zKj]
 refine Ou.bind (J1 l hE he x ho f hf) id (fun r hr=>⟨_,zG.ifT rfl zG.ret,hr⟩) ?_
 rintro R k k0 k1 hQ
 have hQ':=hQ
 rcases hQ with⟨hR,rfl,rfl⟩|⟨hR,y,e,hbr,rfl⟩
 ·exact Ou.ifT rfl (Ou.ret (by omega) (by rw[Int.add_zero];exact hQ'))
 ·exact Ou.ifT rfl (Ou.ret (by omega) (by rw[Int.add_zero];exact hQ'))
theorem zPw{N:ByteArray->Bool}(l:List zU)(hE:xA N l)(he:∀e∈l,hJ e)(x y:Tm)(hx:x.Ok)(hy:y.Ok)(f:Int)(hf:0≤f):Ou (fun L U q=>e89 q (yX l) l L U 0 x y) er6 (QP l x y) (∀m b k,Cv l m x y b k->f<k) f:=by
 simp only[e89]
 refine Ou.ifF rfl (Ou.bind (Y6 l hE he x hx f hf) (fun h m b k hc=>?_) (fun r hr=>?_) ?_)
 ·obtain⟨-,-,x',k1,y',k2,k3,h1,h2,h3,rfl⟩:=hc.inv
  have:=h.2 _ _ _ h1
  have:=h2.nn
  have:=h3.nn (fun _ _ _ _ _ h=>Cv.nn h)
  omega
 ·refine⟨_,zG.ifT (by show (r.2.1 != 0)=true;rw[show r.2.1=8 from hr];decide) zG.ret,?_⟩
  unfold er6
  rw[if_neg (by simp)];exact hr
 ·rintro R k k0 k1 (⟨hR,rfl,rfl⟩|⟨hR,x',e,hbr,rfl⟩)
  ·exact Ou.ifT rfl (Ou.ret (by omega) (.inr ⟨_,_,5,by decide,by decide,fun m b k hc=>hR hc.inv.1,rfl⟩))
  ·dsimp only
   by_cases e0:e=0
   ·subst e0
    rw[if_pos rfl]
    refine Ou.ifF rfl (Ou.bind (Y6 l hE he y hy (f-k) (by omega)) (fun h m b k' hc=>?_) (fun r hr=>⟨_,zG.ret,?_⟩) ?_)
    ·obtain⟨-,-,x1,k1,y',k2,k3,h1,h2,h3,rfl⟩:=hc.inv
     obtain⟨-,-,rfl⟩:=hbr.det h1
     have:=h.2 _ _ _ h2
     have:=h3.nn (fun _ _ _ _ _ h=>Cv.nn h)
     omega
    ·have hr':r.2.1=8:=hr
     unfold er6
     dsimp only
     rw[hr',if_neg (by decide)]
    ·rintro R n n0 n1 (⟨hR2,rfl,rfl⟩|⟨hR2,y',e,hbr2,rfl⟩)
     ·exact Ou.ret (by omega) (.inr ⟨x',zT,5,by decide,by decide,fun m b k hc=>hR2 hc.inv.2.1,rfl⟩)
     ·by_cases e1:e=0
      ·subst e1
       exact Ou.ret (by omega) (.inl ⟨x',k,y',n,hR,hR2,hbr,hbr2,by omega,by funext L U;simp⟩)
      ·refine Ou.ret (by omega) (.inr ⟨x',zT,e,e1,hbr2.e8 hE hR2.shaped,fun m b k' hc=>?_,by simp[e1,show (e==0)=false by simpa using e1]⟩)
       obtain⟨-,-,x1,k1,y1,k2,k3,h1,h2,h3,-⟩:=hc.inv
       exact e1 (hbr2.det h2).2.1.symm
   ·rw[if_neg e0]
    refine Ou.ifT (by simpa using e0) (Ou.ret (by omega) (.inr ⟨zT,y,e,e0,hbr.e8 hE hR.shaped,fun m b k' hc=>?_,rfl⟩))
    obtain⟨-,-,x1,k1,y1,k2,k3,h1,-⟩:=hc.inv
    exact e0 (hbr.det h1).2.1.symm
def BC(l:List zU)(f:Int)(W:Nat):Prop:=∀m p q,p.Ok->q.Ok->rH l p+rH l q<W->∀g,0≤g->g≤f->m=false->HC l m p q g
theorem BC.le{l:List zU}{f g:Int}{W:Nat}(h:BC l f W)(hg:g≤f):BC l g W:=fun m p q a b c d e k=>h m p q a b c d e (by omega)
theorem HX.imp{g g':Int->Int->Nat->Option (Bool×Int×Int×Int)}{X:Bool->Int->Prop}{f:Int}(h:HX g X f)(k:∀L U r,zG (g L U) r->zG (g' L U) r):HX g' X f:=Ou.imp h k
theorem HX.same{g:Int->Int->Nat->Option (Bool×Int×Int×Int)}{X:Bool->Int->Prop}{f:Int}(h:HX g X f):HX (fun L U q=>g L U q>>=fun r=>some (r.1,r.2.1,r.2.2.1,r.2.2.2)) X f:=h.imp fun L U r h=>h.bind zG.ret
theorem zIm(l:List zU)(x y:Tm×List Tm)(W:Nat)(hl:x.2.length≤8192)(hxy:y.2.length=x.2.length)(hox:vK x.2)(hoy:vK y.2)(hw:∀a∈x.2,∀b∈y.2,rH l a+rH l b<W):∀(r s:List Tm) (v:Nat) (f:Int),x.2.drop v=r->y.2.drop v=s->0≤f->BC l f W ->
  HX (fun L U q=>wP q l l (jQ l l.length 0) (l.map xI) (l.map pD) l x y (v:Int) 0 L U) (uB (Cv l false) (u9 r s)) f
 | [],s,v,f,hd,hs,hf,hB=>by
  refine Ou.succ ?_
  simp only[wP]
  have e:u9 [] s=[]:=by cases s<;>rfl
  rw[e]
  exact Ou.ifF (drop_nil hd) (zIq hf)
 |a::r,[],v,f,hd,hs,hf,hB=>by
  have hlt:=yY hd
  have:y.2.length≤v:=List.drop_eq_nil_iff.1 hs
  omega
 |a::r,b::s,v,f,hd,hs,hf,hB=>by
  have hlt:=yY hd
  have hma:a∈x.2:=by
   have:a∈x.2.drop v:=by rw[hd];simp
   exact List.mem_of_mem_drop this
  have hmb:b∈y.2:=by
   have:b∈y.2.drop v:=by rw[hs];simp
   exact List.mem_of_mem_drop this
  refine Ou.succ ?_
  simp only[wP]
  refine Ou.ifT (yK hd) (Ou.pure (yD hd) (Ou.pure (yD hs) ?_))
  rw[yE v (by omega)]
  exact E6 (c:=fun e L U q=>wP q l l (jQ l l.length 0) (l.map xI) (l.map pD) l x y ((v+1:Nat):Int) e L U) (K3 (hB false a b (hox a hma) (hoy b hmb) (hw a hma b hmb) f hf (Int.le_refl f) rfl))
   fun k k0 k1=>zIm l x y W hl hxy hox hoy hw r s (v+1) (f-k) (zZ hd) (zZ hs) (by omega) (hB.le (by omega))
theorem iL{l:List zU}{m b:Bool}{f:Int}(hf:0≤f):HX (fun L U _=>some (b,0,L,U)) (Z2 (Cv l) m (.ans b)) f:=Ou.ret hf (zAq ⟨rfl,rfl⟩)
theorem zFY(l:List zU)(m:Bool)(x y:Tm)(hsx:zH x=true)(hsy:zH y=true)(f:Int)(hf:0≤f)(hB:BC l f (rH l x+rH l y)):HX (fun L U q=>fT q l l (jQ l l.length 0) (l.map xI) (l.map pD) l L U 0 x y) (Z2 (Cv l) m (gB x y)) f:=by
 have hgx:=(zI hsx).2.2
 have hgy:=(zI hsy).2.2
 have hgh:=(zI (wG hsx)).2.2
 have hgk:=(zI (wG hsy)).2.2
 have hox:vK (yG x):=fun a ha=>zX (yW hsx ha)
 have hoy:vK (yG y):=fun a ha=>zX (yW hsy ha)
 have hlx:(yG x).length≤8192:=by
  have h:=zI hsx
  have:=sB _ h.2.2
  omega
 have hwx:=X4 l x hgx
 have hwy:=X4 l y hgy
 have hph:=zBl l (zN x)
 have hpk:=zBl l (zN y)
 have hw:∀a∈yG x,∀b∈yG y,rH l a+rH l b<rH l x+rH l y:=fun a ha b hb=>by
  have:=zBk l ha
  have:=zBk l hb
  omega
 refine Ou.succ ?_
 simp only[fT]
 refine Ou.evt (oI x hsx) (Ou.evt (oI y hsy) ?_)
 dsimp only
 by_cases c1:(zN x).k=(zN y).k
 ·refine Ou.ifF (by simp[c1]) ?_
  by_cases c2:(zN x).n=(zN y).n
  ·refine Ou.ifF (by simp[c2]) ?_
   by_cases c3:(yG x).length=(yG y).length
   ·refine Ou.ifF (by simp[c3]) ?_
    have loop:∀g,0≤g->g≤f->HX (fun L U q=>wP q l l (jQ l l.length 0) (l.map xI) (l.map pD) l (zN x,yG x) (zN y,yG y) 0 0 L U) (uB (Cv l false) (u9 (yG x) (yG y))) g:=fun g g0 g1=>zIm l (zN x,yG x) (zN y,yG y) _ hlx c3.symm hox hoy hw (yG x) (yG y) 0 g rfl rfl g0 (hB.le g1)
    by_cases c4:(zN x).k=7
    ·obtain⟨s,hs⟩:∃s,(zN x).sub=[s]:=by
      revert hgh c4
      generalize zN x=w
      intro hg h7
      obtain⟨kk,nn,ss⟩:=w
      obtain⟨s,hs,-⟩:=(wQ (xV hg).1).2.2.2.2.2.2.1 h7
      exact⟨s,hs⟩
     obtain⟨s',hs'⟩:∃s,(zN y).sub=[s]:=by
      have c4':(zN y).k=7:=by omega
      revert hgk c4'
      generalize zN y=w
      intro hg h7
      obtain⟨kk,nn,ss⟩:=w
      obtain⟨s,hs,-⟩:=(wQ (xV hg).1).2.2.2.2.2.2.1 h7
      exact⟨s,hs⟩
     refine Ou.ifT (by simp[c4]) (Ou.pure (tR (by omega) (by rw[hs];simp)) (Ou.pure (tR (by omega) (by rw[hs'];simp)) ?_))
     by_cases c5:(nth (zN x).sub 0).n=(nth (zN y).sub 0).n
     ·refine Ou.ifF (by simp[c5]) (Ou.ifF (by simp[c4]) ?_)
      have e:gB x y = .all (u9 (yG x) (yG y)):=by
       unfold gB zNN
       rw[if_neg (by omega),if_neg (by omega),List.nil_append]
      rw[e]
      exact loop f hf (Int.le_refl f)
     ·refine Ou.ifT (by simpa using c5) ?_
      have e:gB x y = .ans false:=by unfold gB;rw[if_pos (.inr (.inr (.inr ⟨c4,c5⟩)))]
      rw[e];exact iL hf
    ·refine Ou.ifF (by simpa using c4) ?_
     by_cases c5:(zN x).k=3
     ·have c5':(zN y).k=3:=by omega
      obtain⟨a,b,hab,hga,hgb⟩:=tS hgh (.inl c5)
      obtain⟨a',b',hab',hga',hgb'⟩:=tS hgk (.inl c5')
      have ea:nth (zN x).sub 0=a:=by rw[hab];rfl
      have eb:nth (zN x).sub 1=b:=by rw[hab];rfl
      have ea':nth (zN y).sub 0=a':=by rw[hab'];rfl
      have eb':nth (zN y).sub 1=b':=by rw[hab'];rfl
      have e:gB x y = .all (((a,0),(a',0))::((b,0),(b',0))::u9 (yG x) (yG y)):=by
       unfold gB zNN
       rw[if_neg (by omega),if_pos c5,ea,eb,ea',eb'];rfl
      have w1:=J7 l (zN x)
      have w2:=J7 l (zN y)
      rw[hab,pB,pB,pB]at w1
      rw[hab',pB,pB,pB]at w2
      have v1:=(J6 l (zN x).k (zN x).n).1
      have v2:=(J6 l (zN y).k (zN y).n).1
      rw[e]
      refine Ou.ifT (by simp[c5]) (Ou.pure (a:=a) (by rw[hab];rfl) (Ou.pure (a:=a') (by rw[hab'];rfl) ?_))
      refine E6 (c:=fun e L U q=>zR (zN x).sub 1>>=fun x33=>zR (zN y).sub 1>>=fun x35=>vT q l l (jQ l l.length 0) (l.map xI) (l.map pD) l L U e x33 x35>>=fun r37=>if r37.1=true then wP q l l (jQ l l.length 0) (l.map xI) (l.map pD) l (zN x,yG x) (zN y,yG y) 0 r37.2.1 r37.2.2.1 r37.2.2.2 else some (false,r37.2.1,r37.2.2.1,r37.2.2.2)) (K3 (hB false a a' (rS a hga) (rS a' hga') (by omega) f hf (Int.le_refl f) rfl)) fun k k0 k1=>?_
      refine Ou.pure (a:=b) (by rw[hab];rfl) (Ou.pure (a:=b') (by rw[hab'];rfl) ?_)
      exact E6 (c:=fun e L U q=>wP q l l (jQ l l.length 0) (l.map xI) (l.map pD) l (zN x,yG x) (zN y,yG y) 0 e L U) (K3 (hB false b b' (rS b hgb) (rS b' hgb') (by omega) (f-k) (by omega) (by omega) rfl)) fun k' k0' k1'=>loop (f-k-k') (by omega) (by omega)
     ·refine Ou.ifF (by simpa using c5) ?_
      have e:gB x y = .all (u9 (yG x) (yG y)):=by
       unfold gB zNN
       rw[if_neg (by omega),if_neg c5,List.nil_append]
      rw[e]
      exact loop f hf (Int.le_refl f)
   ·refine Ou.ifT (by simp;omega) ?_
    have e:gB x y = .ans false:=by unfold gB;rw[if_pos (.inr (.inr (.inl c3)))]
    rw[e];exact iL hf
  ·refine Ou.ifT (by simpa using c2) ?_
   have e:gB x y = .ans false:=by unfold gB;rw[if_pos (.inr (.inl c2))]
   rw[e];exact iL hf
 ·refine Ou.ifT (by simpa using c1) ?_
  have e:gB x y = .ans false:=by unfold gB;rw[if_pos (.inl c1)]
  rw[e];exact iL hf
theorem zEq{N:ByteArray->Bool}(l:List zU)(hE:xA N l)(x y:Tm)(c:Int)(pars:List Tm)(W:Nat)(hsx:zH x=true)(hsy:zH y=true)(h0:0≤c)(h1:c<l.length)(hk:(zK l c).kind=2)(hp:(pars.length:Int)=(zK l c).pars)(hop:vK pars)
  (hw:∀i,i<(wX l c).length->rH l (uO l x c i pars).1+rH l (uO l y c i pars).1<W):∀(m i:Nat) (f:Int),i+m=(wX l c).length->0≤f->BC l f W ->
  HX (fun L U q=>uY q l l (jQ l l.length 0) (l.map xI) (l.map pD) l x y c pars (zK l (zK l c).fam) (i:Int) 0 L U) (uB (Cv l false) (u7 l x y c pars m i)) f
 |0,i,f,hm,hf,hB=>by
  refine Ou.succ ?_
  simp only[uY]
  have hm':i=(zK l (zK l c).fam).fields.length:=hm
  exact Ou.ifF (decide_eq_false (by omega)) (zIq hf)
 |m+1,i,f,hm,hf,hB=>by
  have hi:i<(wX l c).length:=by omega
  have hne:wX l c≠[]:=fun h=>by rw[h]at hi;simp at hi
  have hlen:(wX l c).length≤24:=by
   have r:=kN hE h0 h1 hk hne
   obtain⟨A,z,a1,-,-,a4,a5,a6,a7,-⟩:=vB hE h0 h1 hk
   omega
  refine Ou.succ ?_
  simp only[uY]
  refine Ou.ifT (decide_eq_true (by show (i:Int)<((wX l c).length:Int);omega)) ?_
  have e1:=fun L U=>zIn l hE x hsx L U 0 c i pars h0 h1 hk hi hp hop
  have e2:=fun L U=>zIn l hE y hsy L U (uO l x c i pars).2 c i pars h0 h1 hk hi hp hop
  refine HX.imp (g:=fun L U q=>zBB l false L U (if (uO l x c i pars).2=0 then(uO l y c i pars).2 else(uO l x c i pars).2) q (uO l x c i pars).1 (uO l y c i pars).1>>=fun r10=>if r10.1=true then uY q l l (jQ l l.length 0) (l.map xI) (l.map pD) l x y c pars (zK l (zK l c).fam) ((i+1:Nat):Int) r10.2.1 r10.2.2.1 r10.2.2.2 else some (false,r10.2.1,r10.2.2.1,r10.2.2.2)) ?_ fun L U r h=>?_
  ·exact E6 (c:=fun e L U q=>uY q l l (jQ l l.length 0) (l.map xI) (l.map pD) l x y c pars (zK l (zK l c).fam) ((i+1:Nat):Int) e L U)
    (zIr (p:=uO l x c i pars) (q:=uO l y c i pars) hf ⟨zEs _ _ _ _ _,zEs _ _ _ _ _⟩ fun _ _=>hB false _ _ (zEr hsx hop) (zEr hsy hop) (hw i hi) f hf (Int.le_refl f) rfl)
    fun k k0 k1=>zEq l hE x y c pars W hsx hsy h0 h1 hk hp hop hw m (i+1) (f-k) (by omega) (by omega) (hB.le (by omega))
  ·have a1:=e1 L U
   rw[if_pos rfl]at a1
   rw[yE i (by omega)]
   exact a1.bind ((e2 L U).bind h)
theorem zUX{l:List zU}{m:Bool}{a a' c1 c1':Tm}{f:Int}{g:Int->Int->Nat->Option (Bool×Int×Int×Int)}{c:Int->Int->Int->Nat->Option (Bool×Int×Int×Int)}
  (h1:HX g (Cv l false a a') f) (hc:∀k,0≤k->k≤f->HX (fun L U q=>c 0 L U q) (Cv l m c1 c1') (f-k)) :
  HX (fun L U q=>g L U q>>=fun r30=>if r30.1=true then c r30.2.1 r30.2.2.1 r30.2.2.2 q else some (false,r30.2.1,r30.2.2.1,r30.2.2.2)) (Z2 (Cv l) m (.pi a a' c1 c1')) f:=by
 refine Ou.bind h1 (fun h b k ha=>?_) (fun r hr=>?_) ?_
 ·obtain⟨b1,k1,a3,a4⟩:=ha
  have:=h b1 k1 a3
  rcases a4 with⟨-,-,a4⟩|⟨-,k2,a4,a5⟩
  ·omega
  ·have:=a4.nn;omega
 ·have:=zBA hr
  refine⟨_,zG.ifF this.1 zG.ret,?_⟩
  unfold zEu
  rw[if_neg (by simp)];exact this.2
 ·rintro R k k0 k1 ⟨b1,e1,h8,h0,hn,rfl⟩
  dsimp only
  by_cases e0:e1=0
  ·subst e0
   have a3:=h0 rfl
   cases b1 with
   |false=>exact Ou.ifF rfl (Ou.ret (by omega) (zAq ⟨false,k,a3,.inl ⟨rfl,rfl,by omega⟩⟩))
   |true=>
    refine Ou.ifT rfl ((hc k k0 k1).mono ?_ fun h b k' ha=>?_)
    ·rintro R n _ _ ⟨b,e,g8,g0,gn,rfl⟩
     refine⟨b,e,g8,fun he=>⟨true,k,a3,.inr ⟨rfl,n,g0 he,rfl⟩⟩,fun he=>⟨(gn he).1,fun b' k' ha=>?_⟩,rfl⟩
     obtain⟨b1,k1,a4,a5⟩:=ha
     obtain⟨rfl,rfl⟩:=a3.det a4
     rcases a5 with⟨a5,-⟩|⟨-,k2,a5,-⟩
     ·cases a5
     ·exact(gn he).2 _ _ a5
    ·obtain⟨b1,k1,a4,a5⟩:=ha
     obtain⟨rfl,rfl⟩:=a3.det a4
     rcases a5 with⟨a5,-⟩|⟨-,k2,a5,a6⟩
     ·cases a5
     ·have:=h _ _ a5;omega
  ·obtain⟨rfl,hno⟩:=hn e0
   refine Ou.ifF rfl (Ou.ret (by omega) (fU h8 e0 fun b k ha=>?_))
   obtain⟨b1,k1,a3,-⟩:=ha
   exact hno b1 k1 a3
theorem zUY(l:List zU){x y:Tm}(hgx:xG x=true)(hgy:xG y=true)(hp:(pE x).2=0)(hq:(pE y).2=0)(h:x.k=4∨y.k=4):rH l (pE x).1+rH l (pE y).1<rH l x+rH l y:=by
 have lam:∀t:Tm,xG t=true->t.k=4->rH l (pE t).1+4≤rH l t:=fun t hg h4=>by
  obtain⟨a,b,hab,-,-⟩:=tS hg (.inr (.inl h4))
  rw[zXd h4,hab]
  have w:=J7 l t
  rw[hab,pB,pB,pB]at w
  have e:X3 l t.k t.n=3:=by unfold X3;rw[if_pos h4]
  have:=zBl l a
  show rH l b+4≤_
  omega
 have oth:∀t:Tm,(pE t).2=0->t.k≠4->rH l (pE t).1≤rH l t+2:=fun t h0 h4=>by
  rw[zXc h4]at h0 ⊢
  have h1:(uK t 1 0).2=0:=by
   by_cases h1:(uK t 1 0).2=0
   ·exact h1
   ·rw[if_neg h1]at h0;exact h0
  rw[(C6 h1).2.2.2.2,rH,pB,pB,pB,rH,pB]
  have e1:X3 l 5 0=1:=by unfold X3;simp
  have e2:X3 l 1 0=1:=by unfold X3;simp
  have:=zSd l t 0 0 1
  omega
 by_cases h1:x.k=4
 ·have a:=lam x hgx h1
  by_cases h2:y.k=4
  ·have b:=lam y hgy h2;omega
  ·have b:=oth y hq h2;omega
 ·have a:=oth x hp h1
  have b:=lam y hgy (h.resolve_left h1)
  omega
theorem zUZ{N:ByteArray->Bool}{l:List zU}(hE:xA N l){x y:Tm}(hsx:zH x=true)(hsy:zH y=true){c:Int}{pars:List Tm}(h0:0≤c)(h1:c<l.length)(hk:(zK l c).kind=2){i:Nat}(hi:i<(wX l c).length)
  (h:(tT l x∧(zN x).n=c∧pars=kM l x∧(tT l y->(zN y).n=c))∨(¬tT l x∧tT l y∧(zN y).n=c∧pars=kM l y)):rH l (uO l x c i pars).1+rH l (uO l y c i pars).1<rH l x+rH l y:=by
 have hne:wX l c≠[]:=fun h=>by rw[h]at hi;simp at hi
 obtain⟨r1,r2,r3,r4,r5⟩:=kN hE h0 h1 hk hne
 have con:∀t:Tm,zH t=true->tT l t->(zN t).n=c->pars.length=(zK l c).pars.toNat->rH l (uO l t c i pars).1+pB l (kM l t)+(zK l c).pars.toNat+3≤rH l t:=fun t hs hr hn hl=>by
  have e:uO l t c i pars=(nth (yG t) ((pars.length+i:Nat):Int),0):=if_pos ⟨hr,hn⟩
  rw[e]
  show rH l (nth (yG t) ((pars.length+i:Nat):Int))+pB l (kM l t)+(zK l c).pars.toNat+3≤rH l t
  have hlen:(yG t).length=vZ (zK l c).type:=by rw[←hn];exact hr.1.2
  have hk6:=(wD hr.1.1 (by decide)).1
  have hw:=X4 l t (zI hs).2.2
  have hh:=J7 l (zN t)
  have e2:X3 l (zN t).k (zN t).n=2:=by unfold X3;rw[if_neg (by omega),if_pos ⟨hk6,by rw[hn];exact hk⟩]
  have hsplit:yG t=(yG t).take (zK l c).pars.toNat++(yG t).drop (zK l c).pars.toNat:=(List.take_append_drop _ _).symm
  have hwl:pB l (yG t)=pB l (kM l t)+pB l ((yG t).drop (zK l c).pars.toNat):=by
   have:kM l t=(yG t).take (zK l c).pars.toNat:=by unfold kM;rw[hn]
   rw[this,←zBj,List.take_append_drop]
  have hm:nth (yG t) ((pars.length+i:Nat):Int)∈(yG t).drop (zK l c).pars.toNat:=by
   unfold nth
   have hlt:pars.length+i<(yG t).length:=by omega
   rw[show (((pars.length+i:Nat):Int)).toNat=pars.length+i by omega,List.getElem?_eq_getElem hlt]
   show (yG t)[pars.length+i]∈_
   have:(yG t)[pars.length+i]=((yG t).drop (zK l c).pars.toNat)[i]'(by simp;omega):=by
    rw[List.getElem_drop]
    congr 1
    omega
   rw[this]
   exact List.getElem_mem _
  have:=zBk l hm
  have:(yG t).length≥(zK l c).pars.toNat+1:=by omega
  have hnn:0≤pB l (zN t).sub:=Nat.zero_le _
  omega
 have oth:∀t:Tm,¬(tT l t∧(zN t).n=c)->rH l (uO l t c i pars).1=2+pB l pars+pars.length+rH l t:=fun t hr=>by
  have e:uO l t c i pars=(.mk 5 0 [wJ (.mk 6 (((wX l c)[i]?).getD (-1)) []) pars,t],if zH (.mk 5 0 [wJ (.mk 6 (((wX l c)[i]?).getD (-1)) []) pars,t])=true then 0 else 2):=if_neg hr
  rw[e]
  have hfk:(zK l (((wX l c)[i]?).getD (-1))).kind=4:=by
   rw[List.getElem?_eq_getElem hi]
   exact(wU (r5 _ (List.getElem_mem hi))).2.2
  have e1:X3 l 5 0=1:=by unfold X3;simp
  have e2:X3 l 6 (((wX l c)[i]?).getD (-1))=1:=by unfold X3;rw[if_neg (by decide),if_neg (by omega)]
  show rH l (.mk 5 0 [wJ (.mk 6 (((wX l c)[i]?).getD (-1)) []) pars,t])=_
  rw[rH,pB,pB,pB,zSc,rH,pB,e1,e2]
  omega
 have plen:∀t:Tm,zH t=true->tT l t->(zN t).n=c->(kM l t).length=(zK l c).pars.toNat:=fun t hs hr hn=>by
  have hlen:(yG t).length=vZ (zK l c).type:=by rw[←hn];exact hr.1.2
  unfold kM
  rw[hn,List.length_take]
  omega
 rcases h with⟨hx,hn,hp,hy⟩|⟨hx,hy,hn,hp⟩
 ·have hl:=plen x hsx hx hn
  rw[←hp]at hl
  have a:=con x hsx hx hn hl
  rw[←hp]at a
  by_cases ry:tT l y
  ·have b:=con y hsy ry (hy ry) hl
   omega
  ·have b:=oth y (fun h=>ry h.1)
   omega
 ·have hl:=plen y hsy hy hn
  rw[←hp]at hl
  have a:=con y hsy hy hn hl
  rw[←hp]at a
  have b:=oth x (fun h=>hx h.1)
  omega
theorem zFZ{N:ByteArray->Bool}(l:List zU)(hE:xA N l)(x y:Tm)(hsx:zH x=true)(hsy:zH y=true)(f:Int)(hf:0≤f)(hB:BC l f (rH l x+rH l y)):HX (fun L U q=>zUV l false L U 0 q x y) (Z2 (Cv l) false (sN l false x y)) f:=by
 have hgx:=(zI hsx).2.2
 have hgy:=(zI hsy).2.2
 refine Ou.succ ?_
 simp only[zUV,E4]
 have lamC:x.k=4∨y.k=4->HX (fun L U q=>s4 q (wF.mk l l (jQ l l.length 0) (l.map xI) (l.map pD)) l L U 0 x>>=fun r2=>s4 q (wF.mk l l (jQ l l.length 0) (l.map xI) (l.map pD)) l L U r2.2 y>>=fun r4=>vT q l l (jQ l l.length 0) (l.map xI) (l.map pD) l L U r4.2 r2.1 r4.1>>=fun r6=>some (r6.1,r6.2.1,r6.2.2.1,r6.2.2.2)) (Z2 (Cv l) false (sN l false x y)) f:=fun h=>by
  have e:sN l false x y = .all [(pE x,pE y)]:=if_pos h
  rw[e]
  refine HX.imp (g:=fun L U q=>zBB l false L U (if (pE x).2=0 then(pE y).2 else(pE x).2) q (pE x).1 (pE y).1>>=fun r6=>some (r6.1,r6.2.1,r6.2.2.1,r6.2.2.2)) ?_ fun L U r h=>?_
  ·refine HX.same (zIr (p:=pE x) (q:=pE y) hf ⟨zIp x,zIp y⟩ fun hp hq=>hB false _ _ (zIo hsx) (zIo hsy) ?_ f hf (Int.le_refl f) rfl)
   exact zUY l hgx hgy hp hq h
  ·have a1:=zAp (yX l) l x hsx L U 0
   have a2:=zAp (yX l) l y hsy L U (pE x).2
   rw[if_pos rfl]at a1
   exact a1.bind (a2.bind h)
 refine Ou.ite (fun h=>lamC (.inl (by simpa using h))) fun h4=>Ou.ite (fun h=>lamC (.inr (by simpa using h))) fun h4'=>?_
 have n4:¬(x.k=4∨y.k=4):=by
  have a:x.k≠4:=by simpa using h4
  have b:y.k≠4:=by simpa using h4'
  omega
 have flds:∀(c:Int) (pars:List Tm),(tT l x∧(zN x).n=c∧pars=kM l x∧(tT l y->(zN y).n=c))∨(¬tT l x∧tT l y∧(zN y).n=c∧pars=kM l y)->∀cs:List Tm,kY cs 0 (zK l c).pars=some pars ->
   HX (fun L U q=>zR l c>>=fun x22=>kY cs 0 x22.pars>>=fun x24=>mM q l l (jQ l l.length 0) (l.map xI) (l.map pD) l L U 0 x y c x24>>=fun r26=>some (r26.1,r26.2.1,r26.2.2.1,r26.2.2.2)) (uB (Cv l false) (u7 l x y c pars (wX l c).length 0)) f:=fun c pars h cs hcs=>by
  have hc:∃t,(t=x∨t=y)∧zH t=true∧tT l t∧(zN t).n=c∧pars=kM l t:=by
   rcases h with h|h
   ·exact⟨x,.inl rfl,hsx,h.1,h.2.1,h.2.2.1⟩
   ·exact⟨y,.inr rfl,hsy,h.2.1,h.2.2.1,h.2.2.2⟩
  obtain⟨t,-,hst,hrt,hnt,hpt⟩:=hc
  have hcs':=rW hst hrt.1
  rw[hnt]at hcs'
  have hf0:=hrt.2
  rw[hnt]at hf0
  have rf:=kN hE hcs'.1 hcs'.2.1 hcs'.2.2.1 hf0
  have hop:vK pars:=by rw[hpt];exact vK.take (fun a ha=>zX (yW hst ha)) _
  have hpl:(pars.length:Int)=(zK l c).pars:=by
   rw[hpt];unfold kM
   rw[hnt,List.length_take]
   omega
  refine Ou.pure (yP hcs'.1 hcs'.2.1) (Ou.pure hcs (HX.same (Ou.succ ?_)))
  simp only[mM]
  refine Ou.pure (yP hcs'.1 hcs'.2.1) (Ou.pure (yP rf.2.2.1 rf.2.2.2.1) ?_)
  exact zEq l hE x y c pars _ hsx hsy hcs'.1 hcs'.2.1 hcs'.2.2.1 hpl hop (fun i hi=>zUZ hE hsx hsy hcs'.1 hcs'.2.1 hcs'.2.2.1 hi h) (wX l c).length 0 f (by omega) hf hB
 have par_sl:∀t,zH t=true->tT l t->kY (yG t) 0 (zK l (zN t).n).pars=some (kM l t):=fun t hst hrt=>by
  have hcs':=rW hst hrt.1
  have rf:=kN hE hcs'.1 hcs'.2.1 hcs'.2.2.1 hrt.2
  rw[O7 (by omega) rf.2.1 (by omega)]
  unfold kM;simp
 refine Ou.evt (eY l hE x hsx 0 0 0) ?_
 by_cases rx:tT l x
 ·have ex:N6 l x=((zN x).n,yG x,true):=if_pos rx
  rw[ex]
  refine Ou.ifT rfl (Ou.evt (eY l hE y hsy 0 0 0) ?_)
  by_cases ry:tT l y
  ·have ey:N6 l y=((zN y).n,yG y,true):=if_pos ry
   rw[ey]
   refine Ou.ifT rfl ?_
   by_cases hn:(zN x).n=(zN y).n
   ·have e:sN l false x y = .all (u7 l x y (zN x).n (kM l x) (wX l (zN x).n).length 0):=by
     unfold sN;rw[if_neg n4,if_pos rx,if_neg (fun h=>h.2 hn)]
    rw[e]
    exact Ou.ifF (by simp[hn]) (flds _ _ (.inl ⟨rx,rfl,rfl,fun _=>hn.symm⟩) (yG x) (par_sl x hsx rx))
   ·have e:sN l false x y = .ans false:=by
     unfold sN;rw[if_neg n4,if_pos rx,if_pos ⟨ry,hn⟩]
    rw[e]
    exact Ou.ifT (by simpa using hn) (iL hf)
  ·have ey:N6 l y=(0,[],false):=if_neg ry
   have e:sN l false x y = .all (u7 l x y (zN x).n (kM l x) (wX l (zN x).n).length 0):=by
    unfold sN;rw[if_neg n4,if_pos rx,if_neg (fun h=>ry h.1)]
   rw[ey,e]
   exact Ou.ifF rfl (flds _ _ (.inl ⟨rx,rfl,rfl,fun h=>absurd h ry⟩) (yG x) (par_sl x hsx rx))
 ·have ex:N6 l x=(0,[],false):=if_neg rx
  rw[ex]
  refine Ou.ifF rfl (Ou.evt (eY l hE y hsy 0 0 0) ?_)
  by_cases ry:tT l y
  ·have ey:N6 l y=((zN y).n,yG y,true):=if_pos ry
   have e:sN l false x y = .all (u7 l x y (zN y).n (kM l y) (wX l (zN y).n).length 0):=by
    unfold sN;rw[if_neg n4,if_neg rx,if_pos ry]
   rw[ey,e]
   exact Ou.ifT rfl (flds _ _ (.inr ⟨rx,ry,rfl,rfl⟩) (yG y) (par_sl y hsy ry))
  ·have ey:N6 l y=(0,[],false):=if_neg ry
   rw[ey]
   refine Ou.ifF rfl ?_
   by_cases hk:x.k=y.k
   ·refine Ou.ifF (by simp[hk]) ?_
    by_cases k3:x.k=3
    ·have e:sN l false x y = .pi (nth x.sub 0) (nth y.sub 0) (nth x.sub 1) (nth y.sub 1):=by
      unfold sN;rw[if_neg n4,if_neg rx,if_neg ry,if_neg (by simpa using hk),if_pos k3]
     obtain⟨a,b,hab,hga,hgb⟩:=tS hgx (.inl k3)
     obtain⟨a',b',hab',hga',hgb'⟩:=tS hgy (.inl (by omega))
     have ea:nth x.sub 0=a:=by rw[hab];rfl
     have eb:nth x.sub 1=b:=by rw[hab];rfl
     have ea':nth y.sub 0=a':=by rw[hab'];rfl
     have eb':nth y.sub 1=b':=by rw[hab'];rfl
     have w1:=J7 l x
     have w2:=J7 l y
     rw[hab,pB,pB,pB]at w1
     rw[hab',pB,pB,pB]at w2
     have v1:=(J6 l x.k x.n).1
     have v2:=(J6 l y.k y.n).1
     rw[e,ea,eb,ea',eb']
     refine Ou.ifT (by simp[k3]) (Ou.pure (a:=a) (by rw[hab];rfl) (Ou.pure (a:=a') (by rw[hab'];rfl) ?_))
     refine zUX (c:=fun e L U q=>zR x.sub 1>>=fun x52=>zR y.sub 1>>=fun x54=>vT q l l (jQ l l.length 0) (l.map xI) (l.map pD) l L U e x52 x54>>=fun r56=>some (r56.1,r56.2.1,r56.2.2.1,r56.2.2.2)) (hB false a a' (rS a hga) (rS a' hga') (by omega) f hf (Int.le_refl f) rfl) fun k k0 k1=>?_
     exact Ou.pure (a:=b) (by rw[hab];rfl) (Ou.pure (a:=b') (by rw[hab'];rfl) (HX.same (hB false b b' (rS b hgb) (rS b' hgb') (by omega) (f-k) (by omega) (by omega) rfl)))
    ·refine Ou.ifF (by simpa using k3) ?_
     by_cases k2:x.k=2
     ·have e:sN l false x y = .ans (if false=true then decide (x.n≤y.n)else x.n==y.n):=by
       unfold sN;rw[if_neg n4,if_neg rx,if_neg ry,if_neg (by simpa using hk),if_neg k3,if_pos k2]
      rw[e]
      refine Ou.ifT (by simp[k2]) (Ou.evt (a:=if false=true then decide (x.n≤y.n)else x.n==y.n) (zG.mk fun q=>?_) (iL hf))
      simp[e91]
     ·have e:sN l false x y=gB x y:=by
       unfold sN;rw[if_neg n4,if_neg rx,if_neg ry,if_neg (by simpa using hk),if_neg k3,if_neg k2]
      rw[e]
      exact Ou.ifF (by simpa using k2) (HX.same (zFY l false x y hsx hsy f hf hB))
   ·have e:sN l false x y = .ans false:=by
     unfold sN;rw[if_neg n4,if_neg rx,if_neg ry,if_pos hk]
    rw[e]
    exact Ou.ifT (by simpa using hk) (iL hf)
def P7(qq:Nat)(q0 q1:yU)(q2:tW)(q3 q4:yV)(q5:yU)(q6 q7 q8 q9 qG:Int)(tV:zQ)(q12 q13:Int)(q14:zQ):Option (Bool×Int×Int×Int):=
 vT qq q0 q1 q2 q3 q4 q5 q6 q7 q8 (Tm.mk q9 qG tV) (Tm.mk q12 q13 q14)>>=fun r1=>
 some (r1.1,r1.2.1,r1.2.2.1,r1.2.2.2)
theorem zIl{qq q0 q1 q2 q3 q4 q5 q6 q7 q8 q9 qG tV q12 q13 q14 r}(h:P7 qq q0 q1 q2 q3 q4 q5 q6 q7 q8 q9 qG tV q12 q13 q14=some r):Ct 55 [.cells [.mp 1 0,zO yZ q5 .no,.mp 3 0,ai q8],qB q0 2 q3 q4,qR q1 q2,.cells [ai q6,ai q7],.cells [ai q9,ai qG,zO zD tV .no],.cells [ai q12,ai q13,zO zD q14 .no]] [.mp 0 0,.mp 4 0,.mp 5 0] (ab r.1) [.cells [.mp 1 0,zO yZ q5 .no,.mp 3 0,ai r.2.1],qB q0 2 q3 q4,qR q1 q2,.cells [ai r.2.2.1,ai r.2.2.2],.cells [ai q9,ai qG,zO zD tV .no],.cells [ai q12,ai q13,zO zD q14 .no]] 0:=⟨by
 unfold P7 at h
 obtain⟨r1,h2,h⟩:=zB h
 cases h
 exact tF ⟨func55,rfl⟩ 0 [0,1,2,3,4,5] (oD (dT q14)<|oD (dT tV)<|A7 q0 q1 q2 q3 q4<|oD (dE q5)<|oC 2 [0,1,2,3] (zRH h2) o0),⟨(lz rfl),(lz rfl),(lz rfl),tv⟩,(zC ⟨(lz rfl),⟨tv,dE _⟩,(lz rfl),tv,tv⟩ (eH (lz rfl) (zC ⟨tv,tv,tv⟩ (zC ⟨tv,tv,⟨tv,dT _⟩,tv⟩ (zC ⟨tv,tv,⟨tv,dT _⟩,tv⟩ zA))))),tv,(zC ⟨(lz rfl),dE _,(lz rfl),tv,tv⟩ (iY (lz rfl) (zC ⟨tv,tv,tv⟩ (zC ⟨tv,tv,dT _,tv⟩ (zC ⟨tv,tv,dT _,tv⟩ zA)))))⟩
def e88(qq:Nat)(M:wF):Option Int:=
 some (M.l.length:Int)
theorem c88{qq M r}(h:e88 qq M=some r):Ct 88 [mB M 1,mR M] [.mp 0 0] (ai r) [mB M 1,mR M] 0:=⟨by
 unfold e88 at h
 cases h
 exact tF ⟨func88,rfl⟩ 3 [0,1] (oD (dC M.parts)<|oD (dE M.rl)<|oD (dI M.own)<|oD (dI M.args)<|oD (dE M.l) o0),⟨(lz rfl),tv⟩,(eH (lz rfl) zA),tv,(iY (lz rfl) zA)⟩
def P9(qq:Nat)(q0 q1:yU)(q2:tW)(q3 q4:yV)(p1 p2:Tm)(q7 q8 q9 qG:Int)(tV:zQ)(q12 q13:Int)(q14:zQ):Option (Bool×Int×Int×Int):=
 e88 qq (wF.mk q0 q1 q2 q3 q4)>>=fun r1=>
 e48 qq p1 1048577 r1>>=fun r3=>
 if r3 then
 e88 qq (wF.mk q0 q1 q2 q3 q4)>>=fun r6=>
 e48 qq p2 1048577 r6>>=fun r8=>
 if r8 then
 e46 qq (wF.mk q0 q1 q2 q3 q4)>>=fun r11=>
 P7 qq q0 q1 q2 q3 q4 r11 q7 q8 0 q9 qG tV q12 q13 q14>>=fun r13=>
 if r13.1 then
 some ((r13.2.1==0),r13.2.1,r13.2.2.1,r13.2.2.2)
 else
 some (false,r13.2.1,r13.2.2.1,r13.2.2.2)
 else
 some (false,5,q7,q8)
 else
 some (false,5,q7,q8)
theorem Q0:Qf 54 f54:=⟨func54,rfl⟩
theorem zRJ{qq q0 q1 q2 q3 q4 p1 p2 q7 q8 q9 qG tV q12 q13 q14 r}(h:P9 qq q0 q1 q2 q3 q4 p1 p2 q7 q8 q9 qG tV q12 q13 q14=some r):Ct 54 [qB q0 1 q3 q4,qR q1 q2,.cells [ai q7,ai q8],.cells [ai q9,ai qG,zO zD tV .no],.cells [ai q12,ai q13,zO zD q14 .no]] [.mp 0 0,xF p1,xF p2,.mp 2 0,.clo 55 [] [.mp 3 0,.mp 4 0]] (.tup [ab r.1,ai r.2.1]) [qB q0 1 q3 q4,qR q1 q2,.cells [ai r.2.2.1,ai r.2.2.2],.cells [ai q9,ai qG,zO zD tV .no],.cells [ai q12,ai q13,zO zD q14 .no]] 0:=⟨by
 unfold P9 at h
 have z {os ob} (k:Oz os ob):=oD (dT q14)<|oD (dT tV)<|A7 q0 q1 q2 q3 q4<|k
 obtain⟨r1,h2,h⟩:=zB h
 obtain⟨r3,h4,h⟩:=zB h
 have k:=oC 2 [0,1] (c88 h2) o0
 obtain⟨h5,h⟩|⟨h5,h⟩:=zL h
 obtain⟨r6,h7,h⟩:=zB h
 obtain⟨r8,h9,h⟩:=zB h
 have k:=oC 2 [0,1] (c88 h7)<|oK 0 [] h5 (c48 h4) k
 obtain⟨h10,h⟩|⟨h10,h⟩:=zL h
 obtain⟨r11,h12,h⟩:=zB h
 obtain⟨r13,h14,h⟩:=zB h
 have k:=oC 1 [0,1] (c46 h12)<|oK 0 [] h10 (c48 h9) k
 obtain⟨h15,h⟩|⟨h15,h⟩:=zL h
 cases h
 exact tF Q0 3 [0,1,2,3,4] (z<|oK 0 [7,0,1,2,3,4] h15 (zIl h14) k)
 cases h
 exact tF Q0 1 [0,1,2,3,4] (z<|oK 0 [7,0,1,2,3,4] h15 (zIl h14) k)
 cases h
 exact tF Q0 1 [0,1,2,3,4] (z<|oK 0 [] h10 (c48 h9) k)
 cases h
 exact tF Q0 1 [0,1,2,3,4] (z<|oK 0 [] h5 (c48 h4) k),⟨(lz rfl),⟨tv,tv,⟨tv,dT _⟩,tv⟩,⟨tv,tv,⟨tv,dT _⟩,tv⟩,(lz rfl),⟨tv,⟨(lz rfl),(lz rfl),tv⟩⟩,tv⟩,(eH (lz rfl) (zC ⟨tv,tv,tv⟩ (zC ⟨tv,tv,⟨tv,dT _⟩,tv⟩ (zC ⟨tv,tv,⟨tv,dT _⟩,tv⟩ zA)))),⟨tv,tv,tv⟩,(iY (lz rfl) (zC ⟨tv,tv,tv⟩ (zC ⟨tv,tv,dT _,tv⟩ (zC ⟨tv,tv,dT _,tv⟩ zA))))⟩
def e27(qq:Nat)(M:wF)(p1 p2:Tm)(fl fu:Int):Option (Bool×Int×Int×Int):=
 P9 qq M.l M.rl M.parts M.args M.own p1 p2 fl fu p1.k p1.n p1.sub p2.k p2.n p2.sub>>=fun r1=>
 some (r1.1,r1.2.1,r1.2.2.1,r1.2.2.2)
theorem c27{qq M p1 p2 fl fu r}(h:e27 qq M p1 p2 fl fu=some r):Ct 27 [mB M 1,mR M,.cells [ai fl,ai fu]] [.mp 0 0,xF p1,xF p2,.mp 2 0] (.tup [ab r.1,ai r.2.1]) [mB M 1,mR M,.cells [ai r.2.2.1,ai r.2.2.2]] 0:=⟨by
 unfold e27 at h
 obtain⟨r1,h2,h⟩:=zB h
 cases h
 exact tF ⟨func27,rfl⟩ 2 [0,1,2] (rF M<|oC 2 [0,1,2,3,4] (zRJ h2) o0),⟨(lz rfl),⟨tv,tv,⟨tv,dT _⟩,tv⟩,⟨tv,tv,⟨tv,dT _⟩,tv⟩,(lz rfl),tv⟩,(eH (lz rfl) (zC ⟨tv,tv,tv⟩ zA)),⟨tv,tv,tv⟩,(iY (lz rfl) (zC ⟨tv,tv,tv⟩ zA))⟩
theorem zPv{N:ByteArray->Bool}(l:List zU)(hE:xA N l)(he:∀e∈l,hJ e):∀(F n:Nat) (m:Bool) (x y:Tm),x.Ok->y.Ok->rH l x+rH l y≤n->m=false->HC l m x y (F:Int):=by
 intro F
 induction F using Nat.strongRecOn with
 |ind F IH=>
  intro n
  induction n with
  |zero=>intro m x y _ _ h _;have:=zBl l x;omega
  |succ n ih=>
   intro m x y hx hy hn hmf
   have fin:∀(k:Int) (x' y':Tm) (j1 j2:Int),wA l x->wA l y->Br l x x' 0 j1->Br l y y' 0 j2->k=j1+j2->k≤F->Ou (fun L U q=>zUV l false L U 0 q x' y'>>=fun r4=>some (r4.1,r4.2.1,r4.2.2.1,r4.2.2.2)) zEu (fun R n=>QX (Cv l false x y) R (k+n)) (∀b k,Cv l false x y b k->(F:Int)<k) ((F:Int)-k):=fun k x' y' j1 j2 hR1 hR2 hb1 hb2 hk k1=>by
    have n1:=hb1.nn
    have n2:=hb2.nn
    have hB:BC l ((F:Int)-k) (rH l x'+rH l y'):=fun m p q hp hq hw g g0 g1 hf0=>by
     by_cases hk0:k≤0
     ·have e1:=hb1.zero rfl (by omega)
      have e2:=hb2.zero rfl (by omega)
      subst e1;subst e2
      by_cases hg:g=F
      ·subst hg
       exact ih m p q hp hq (by omega) hf0
      ·have:=IH g.toNat (by omega) (rH l p+rH l q) m p q hp hq (Nat.le_refl _) hf0
       rwa[show ((g.toNat:Nat):Int)=g by omega]at this
     ·have:=IH g.toNat (by omega) (rH l p+rH l q) m p q hp hq (Nat.le_refl _) hf0
      rwa[show ((g.toNat:Nat):Int)=g by omega]at this
    have h:=HX.same (zFZ l hE x' y' (hb1.shaped hR1.shaped rfl) (hb2.shaped hR2.shaped rfl) ((F:Int)-k) (by omega) hB)
    refine Ou.mono h ?_ fun hs b k' hc=>?_
    ·rintro R n _ _ ⟨b,e,h8,h0,hn',rfl⟩
     refine⟨b,e,h8,fun he=>?_,fun he=>⟨(hn' he).1,fun b' k' hc=>?_⟩,rfl⟩
     ·have:=Cv.mk hR1 hR2 hb1 hb2 (h0 he)
      rwa[hk]
     ·obtain⟨-,-,x1,i1,y1,i2,i3,h1,h2,h3,-⟩:=hc.inv
      obtain⟨rfl,-,-⟩:=hb1.det h1
      obtain⟨rfl,-,-⟩:=hb2.det h2
      exact(hn' he).2 _ _ h3
    ·obtain⟨-,-,x1,i1,y1,i2,i3,h1,h2,h3,rfl⟩:=hc.inv
     obtain⟨rfl,-,rfl⟩:=hb1.det h1
     obtain⟨rfl,-,rfl⟩:=hb2.det h2
     have:=hs _ _ h3
     omega
   cases m
   ·refine Ou.succ ?_
    simp only[zBB,vT]
    refine Ou.bind (zPw l hE he x y hx hy F (by omega)) (fun h b k hc=>h _ _ _ hc) (fun r hr=>?_) ?_
    ·have:=zXa hr
     refine⟨_,zG.ifF this.1 zG.ret,?_⟩
     unfold zEu
     rw[if_neg (by simp)];exact this.2
    ·rintro R k k0 k1 (⟨x',j1,y',j2,hR1,hR2,hb1,hb2,rfl,rfl⟩|⟨a,b,e,e0,e8,hno,rfl⟩)
     ·exact Ou.ifT rfl (fin (j1+j2) x' y' j1 j2 hR1 hR2 hb1 hb2 rfl k1)
     ·exact Ou.ifF rfl (Ou.ret (by omega) (fU e8 e0 fun b k=>hno _ b k))
   ·cases hmf
theorem zPu{N:ByteArray->Bool}(l:List zU)(hE:xA N l)(he:∀e∈l,hJ e)(hl:l.length≤65535)(hc:∀e∈l,ECl e)(x y:Tm)(hx:x.Ok)(hy:y.Ok)(f:Int)(hf:0≤f):HX (fun L U q=>e27 q (yX l) x y L U) (Cv l false x y) f:=by
 have hC:=zPv l hE he f.toNat (rH l x+rH l y) false x y hx hy (Nat.le_refl _) rfl
 rw[show ((f.toNat:Nat):Int)=f by omega]at hC
 have hLen:zG (fun q=>e88 q (yX l)) (l.length:Int):=zG.mk fun _=>rfl
 have hEnt:zG (fun q=>e46 q (yX l)) l:=by
  simp only[e46]
  exact((C4 l hl he hc).eq (I5 hE)).bind zG.ret
 have post:HX (fun L U q=>(zBB l false L U 0 q x y>>=fun r1=>some (r1.1,r1.2.1,r1.2.2.1,r1.2.2.2))>>=fun r13=>if r13.1=true then some ((r13.2.1==0),r13.2.1,r13.2.2.1,r13.2.2.2)else some (false,r13.2.1,r13.2.2.1,r13.2.2.2)) (Cv l false x y) f:=by
  refine Ou.bind (HX.same hC) id (fun r hr=>?_) ?_
  ·have:=zBA hr
   refine⟨_,zG.ifF this.1 zG.ret,?_⟩
   unfold zEu
   rw[if_neg (by simp)];exact this.2
  ·rintro R k k0 k1 ⟨b,e,h8,h0,hn,rfl⟩
   dsimp only
   by_cases e0:e=0
   ·subst e0
    have hX:=h0 rfl
    cases b with
    |true=>exact Ou.ifT rfl (Ou.ret (by omega) (zAq (b:=true) (by rwa[Int.add_zero])))
    |false=>exact Ou.ifF rfl (Ou.ret (by omega) (zAq (by rwa[Int.add_zero])))
   ·obtain⟨rfl,hno⟩:=hn e0
    exact Ou.ifF rfl (Ou.ret (by omega) (fU h8 e0 hno))
 have bad1:¬wA l x->∀b k,¬Cv l false x y b k:=fun h b k hc=>h hc.inv.1
 have bad2:¬wA l y->∀b k,¬Cv l false x y b k:=fun h b k hc=>h hc.inv.2.1
 simp only[e27,P9]
 refine HX.same ?_
 refine Ou.evt hLen (Ou.evt (kD x 1048577 l.length hx) (Ou.ite (fun h1=>?_) fun h1=>?_))
 ·refine Ou.evt hLen (Ou.evt (kD y 1048577 l.length hy) (Ou.ite (fun h2=>?_) fun h2=>?_))
  ·refine Ou.evt hEnt ?_
   simp only[P7,uQ]
   exact post
  ·exact Ou.ret hf (fU (by decide) (by decide) (bad2 (by unfold wA;rw[h2];simp)))
 ·exact Ou.ret hf (fU (by decide) (by decide) (bad1 (by unfold wA;rw[h1];simp)))
def e17(qq:Nat)(M:wF)(p1:Tm)(fl fu:Int):Option (Tm×Int×Int×Int):=
 e39 qq M fl fu 0 p1>>=fun r1=>
 if r1.2.1 != 0 then
 some ((Tm.mk 0 0 []),r1.2.1,r1.2.2.1,r1.2.2.2)
 else
 G3 qq r1.1>>=fun r4=>
 if r4 then
 some (r1.1,0,r1.2.2.1,r1.2.2.2)
 else
 some ((Tm.mk 0 0 []),2,r1.2.2.1,r1.2.2.2)
theorem q17:Qf 17 Tryz.f17:=⟨func17,rfl⟩
theorem c17{qq M p1 fl fu r}(h:e17 qq M p1 fl fu=some r):Ct 17 [mB M 1,mR M,.cells [ai fl,ai fu]] [.mp 0 0,xF p1,.mp 2 0] (.tup [xF r.1,ai r.2.1]) [mB M 1,mR M,.cells [ai r.2.2.1,ai r.2.2.2]] 0:=⟨by
 unfold e17 at h
 obtain⟨r1,h2,h⟩:=zB h
 have k:=oC 1 [5,0,1,2] (c39 h2) o0
 obtain⟨h3,h⟩|⟨h3,h⟩:=zL h
 cases h
 exact tF q17 2 [0,1,2] (oD (dT ([]:zQ))<|rF M<|oB 2 h3 k)
 obtain⟨r4,h5,h⟩:=zB h
 have k:=oB 2 h3 k
 obtain⟨h6,h⟩|⟨h6,h⟩:=zL h
 cases h
 exact tF q17 3 [0,1,2] (oD (dT r1.1.sub)<|rF M<|oK 1 [] h6 (mO h5) k)
 cases h
 exact tF q17 2 [0,1,2] (oD (dT ([]:zQ))<|rF M<|oK 1 [] h6 (mO h5) k),⟨(lz rfl),⟨tv,tv,⟨tv,dT _⟩,tv⟩,(lz rfl),tv⟩,(eH (lz rfl) (zC ⟨tv,tv,tv⟩ zA)),⟨⟨tv,tv,dT _,tv⟩,tv,tv⟩,(iY (lz rfl) (zC ⟨tv,tv,tv⟩ zA))⟩
def E7(qq:Nat)(q0 q1:Int):Option Int:=
 some q1
theorem zRK{qq q0 q1 r}(h:E7 qq q0 q1=some r):Ct 41 [.cells [ai q0,ai q1]] [.mp 0 1] (ai r) [.cells [ai q0,ai q1]] 0:=⟨by
 unfold E7 at h
 obtain rfl:=sj h
 exact tF ⟨func41,rfl⟩ 1 [0] (o0),⟨(lz rfl),tv⟩,(zC ⟨tv,tv,tv⟩ zA),tv,(zC ⟨tv,tv,tv⟩ zA)⟩
def e18(qq:Nat)(fl fu:Int):Option Int:=
 E7 qq fl fu>>=fun r1=>
 some r1
theorem c18{qq fl fu r}(h:e18 qq fl fu=some r):Ct 18 [.cells [ai fl,ai fu]] [.mp 0 0] (ai r) [.cells [ai fl,ai fu]] 0:=⟨by
 unfold e18 at h
 obtain⟨r1,h2,h⟩:=zB h
 obtain rfl:=sj h
 exact tF ⟨func18,rfl⟩ 0 [0] (oC 1 [0] (zRK h2) o0),⟨(lz rfl),tv⟩,(zC ⟨tv,tv,tv⟩ zA),tv,(zC ⟨tv,tv,tv⟩ zA)⟩
def e7(qq:Nat)(p0:yU)(p1:Tm)(p2:Int):Option (Tm×Int×Int):=
 e8 qq p0>>=fun r1=>
 match r1 with
 | .inl y21=>
  if y21 != 0 then
  some ((Tm.mk 0 0 []),0,y21)
  else
  e9 qq p2>>=fun r23=>
  match r23 with
  | .inl y32=>
   if y32 != 0 then
   some ((Tm.mk 0 0 []),0,y32)
   else
   none
  | .inr y25=>
   if y25.1 != 0 then
   some ((Tm.mk 0 0 []),0,y25.1)
   else
   none
 | .inr y3=>
  if y3.1 != 0 then
  some ((Tm.mk 0 0 []),0,y3.1)
  else
  e9 qq p2>>=fun r5=>
  match r5 with
  | .inl y14=>
   if y14 != 0 then
   some ((Tm.mk 0 0 []),0,y14)
   else
   none
  | .inr y7=>
   if y7.1 != 0 then
   some ((Tm.mk 0 0 []),0,y7.1)
   else
   e17 qq (wF.mk y3.2.1 y3.2.2.2.2.1 y3.2.2.2.2.2 y3.2.2.1 y3.2.2.2.1) p1 y7.2.1 y7.2.2>>=fun r9=>
   if r9.2.1 != 0 then
   some ((Tm.mk 0 0 []),0,r9.2.1)
   else
   e18 qq r9.2.2.1 r9.2.2.2>>=fun r12=>
   some (r9.1,r12,0)
theorem q7:Qf 7 Tryz.f7:=⟨func7,rfl⟩
theorem c7{qq p0 p1 p2 r}(h:e7 qq p0 p1 p2=some r):Ct 7 [] [zO yZ p0 .no,xF p1,ai p2] (.tup [xF r.1,ai r.2.1,ai r.2.2]) [] 0:=⟨by
 unfold e7 at h
 obtain⟨r1,h2,h⟩:=zB h
 rcases r1 with y21|y3
 dsimp only at h
 have k:=oC 0 [] (c8 h2) o0
 obtain⟨h22,h⟩|⟨h22,h⟩:=zL h
 cases h
 exact tF q7 1 [] (oD (dT ([]:zQ))<|oB 2 h22 k)
 obtain⟨r23,h24,h⟩:=zB h
 have k:=oB 2 h22 k
 rcases r23 with y32|y25
 dsimp only at h
 have k:=oC 0 [] (c9 h24) k
 obtain⟨h33,h⟩:=O0 h
 cases h
 exact tF q7 1 [] (oD (dT ([]:zQ))<|oB 2 h33 k)
 dsimp only at h
 have k:=oC 0 [] (c9 h24) k
 obtain⟨h26,h⟩:=O0 h
 cases h
 exact tF q7 1 [] (oD (dT ([]:zQ))<|oB 2 h26 k)
 dsimp only at h
 have k:=oC 0 [] (c8 h2) o0
 obtain⟨h4,h⟩|⟨h4,h⟩:=zL h
 cases h
 exact tF q7 1 [] (oD (dT ([]:zQ))<|oB 2 h4 k)
 obtain⟨r5,h6,h⟩:=zB h
 have k:=oB 2 h4 k
 rcases r5 with y14|y7
 dsimp only at h
 have k:=oC 0 [] (c9 h6) k
 obtain⟨h15,h⟩:=O0 h
 cases h
 exact tF q7 1 [] (oD (dT ([]:zQ))<|oB 2 h15 k)
 dsimp only at h
 have k:=oC 0 [] (c9 h6) k
 obtain⟨h8,h⟩|⟨h8,h⟩:=zL h
 cases h
 exact tF q7 1 [] (oD (dT ([]:zQ))<|oB 2 h8 k)
 obtain⟨r9,h10,h⟩:=zB h
 have k:=oC 1 [2,3,4] (c17 h10)<|oB 2 h8 k
 obtain⟨h11,h⟩|⟨h11,h⟩:=zL h
 cases h
 exact tF q7 1 [] (oD (dT ([]:zQ))<|oB 3 h11 k)
 obtain⟨r12,h13,h⟩:=zB h
 cases h
 exact tF q7 1 [] (oD (dT r9.1.sub)<|oC 1 [4] (c18 h13)<|oB 3 h11 k),⟨⟨tv,dE _⟩,⟨tv,tv,⟨tv,dT _⟩,tv⟩,tv,tv⟩,zA,⟨⟨tv,tv,dT _,tv⟩,tv,tv,tv⟩,zA⟩
def QNm(l:List zU)(t:Tm)(R:Int->Int->Tm×Int×Int×Int)(k:Int):Prop:=
 (∃x,Nm l t x k∧zH x=true∧R=fun L U=>(x,0,L,U))∨(∃e,e≠0∧e≠8∧(∀x k,Nm l t x k->zH x=false)∧R=fun L U=>(zT,e,L,U))
theorem zPt{N:ByteArray->Bool}(l:List zU)(hE:xA N l)(he:∀e∈l,hJ e)(t:Tm)(ht:t.Ok)(f:Int)(hf:0≤f):Ou (fun L U q=>e17 q (yX l) t L U) er4 (QNm l t) (∀x k,Nm l t x k->f<k) f:=by
 simp only[e17]
 have hN:=zNE l hE he f.toNat t.nodes t ht (Nat.le_refl _)
 rw[show ((f.toNat:Nat):Int)=f by omega]at hN
 refine Ou.bind hN id (fun r hr=>⟨_,zG.ifT (by show (r.2.1 != 0)=true;rw[show r.2.1=8 from hr];decide) zG.ret,hr⟩) ?_
 rintro R k k0 k1 ⟨x,e,hx,h8,h0,hn,rfl⟩
 dsimp only
 by_cases e0:e=0
 ·subst e0
  have hN:=h0 rfl
  refine Ou.ifF rfl (Ou.evt (xR x hx) ?_)
  by_cases hs:zH x=true
  ·exact Ou.ifT hs (Ou.ret (by omega) (.inl ⟨x,by rwa[Int.add_zero],hs,rfl⟩))
  ·exact Ou.ifF (by simpa using hs) (Ou.ret (by omega) (.inr ⟨2,by decide,by decide,fun x' k' h'=>by rw[(hN.det h').1];simpa using hs,rfl⟩))
 ·exact Ou.ifT (by simpa using e0) (Ou.ret (by omega) (.inr ⟨e,e0,h8,fun x k h=>absurd h (hn e0 x k),rfl⟩))
theorem zXB{N:ByteArray->Bool}(l:List zU)(hn:zG (fun q=>e8 q l) (zAY l true))(hE:xA N l)(he:∀e∈l,hJ e)(t:Tm)(ho:t.Ok)(f:Int)(h0:0≤f)(h1:f≤1048576) :
  (∃x k,Nm l t x k∧zH x=true∧0≤k∧k≤f∧zG (fun q=>e7 q l t f) (x,k,0))∨(∃r,zG (fun q=>e7 q l t f) r∧r.2.2≠0∧∀x k,Nm l t x k->zH x=true->f<k):=by
 have run:∀r,zG (fun q=>e17 q (yX l) t f 0) r->zG (fun q=>e7 q l t f) (if r.2.1≠0 then(Tm.mk 0 0 [],0,r.2.1)else(r.1,r.2.2.2,0)):=fun r h=>by
  simp only[e7]
  refine hn.bind (zG.ifF (by simp) ((O9 f h0 h1).bind (zG.ifF (by simp) (zG.bind (a:=r) h ?_))))
  by_cases e:r.2.1≠0
  ·rw[if_pos e];exact zG.ifT (by simpa using e) zG.ret
  ·rw[if_neg e]
   refine zG.ifF (by simpa using e) (zG.bind (a:=r.2.2.2) (zG.mk fun q=>?_) zG.ret)
   simp only[e18,E7];rfl
 rcases zPt l hE he t ho f h0 with⟨R,k,k0,k1,⟨x,hN,hs,rfl⟩|⟨e,e0,-,hno,rfl⟩,h3,-⟩|⟨h,hS⟩
 ·left
  have:=run _ (h3 f 0 k1 (by omega) (by omega))
  refine⟨x,k,hN,hs,k0,k1,this.eq ?_⟩
  rw[if_neg (by simp)]
  show (x,0+k,0)=_
  rw[Int.zero_add]
 ·right
  refine⟨_,run _ (h3 f 0 k1 (by omega) (by omega)),?_,fun x k h hs=>?_⟩
  ·rw[if_pos (by show e≠0;exact e0)];exact e0
  ·rw[hno x k h]at hs;cases hs
 ·right
  obtain⟨r,h5,h6⟩:=h 0 (by omega) (by omega)
  have h6':r.2.1=8:=h6
  refine⟨_,run r h5,?_,fun x k h _=>hS x k h⟩
  rw[if_pos (by omega)];show r.2.1≠0;omega
theorem zVz(l:List zU)(hn:zG (fun q=>e8 q l) (zAY l false))(t:Tm)(f:Int):zG (fun q=>e7 q l t f) (zT,0,5):=by
 simp only[e7]
 exact hn.bind (zG.ifT (by decide) zG.ret)
def e11(qq:Nat)(p0:yU)(p1 p2:Tm)(p3:Int):Option (Bool×Int×Int):=
 e8 qq p0>>=fun r1=>
 match r1 with
 | .inl y21=>
  if y21 != 0 then
  some (false,0,y21)
  else
  e9 qq p3>>=fun r23=>
  match r23 with
  | .inl y32=>
   if y32 != 0 then
   some (false,0,y32)
   else
   none
  | .inr y25=>
   if y25.1 != 0 then
   some (false,0,y25.1)
   else
   none
 | .inr y3=>
  if y3.1 != 0 then
  some (false,0,y3.1)
  else
  e9 qq p3>>=fun r5=>
  match r5 with
  | .inl y14=>
   if y14 != 0 then
   some (false,0,y14)
   else
   none
  | .inr y7=>
   if y7.1 != 0 then
   some (false,0,y7.1)
   else
   e27 qq (wF.mk y3.2.1 y3.2.2.2.2.1 y3.2.2.2.2.2 y3.2.2.1 y3.2.2.2.1) p1 p2 y7.2.1 y7.2.2>>=fun r9=>
   if r9.2.1 != 0 then
   some (false,0,r9.2.1)
   else
   e18 qq r9.2.2.1 r9.2.2.2>>=fun r12=>
   some (r9.1,r12,0)
theorem tV:Qf 11 Tryz.f11:=⟨func11,rfl⟩
theorem w6{qq p0 p1 p2 p3 r}(h:e11 qq p0 p1 p2 p3=some r):Ct 11 [] [zO yZ p0 .no,xF p1,xF p2,ai p3] (.tup [ab r.1,ai r.2.1,ai r.2.2]) [] 0:=⟨by
 unfold e11 at h
 obtain⟨r1,h2,h⟩:=zB h
 rcases r1 with y21|y3
 dsimp only at h
 have k:=oC 0 [] (c8 h2) o0
 obtain⟨h22,h⟩|⟨h22,h⟩:=zL h
 cases h
 exact tF tV 0 [] (oB 2 h22 k)
 obtain⟨r23,h24,h⟩:=zB h
 have k:=oB 2 h22 k
 rcases r23 with y32|y25
 dsimp only at h
 have k:=oC 0 [] (c9 h24) k
 obtain⟨h33,h⟩:=O0 h
 cases h
 exact tF tV 0 [] (oB 2 h33 k)
 dsimp only at h
 have k:=oC 0 [] (c9 h24) k
 obtain⟨h26,h⟩:=O0 h
 cases h
 exact tF tV 0 [] (oB 2 h26 k)
 dsimp only at h
 have k:=oC 0 [] (c8 h2) o0
 obtain⟨h4,h⟩|⟨h4,h⟩:=zL h
 cases h
 exact tF tV 0 [] (oB 2 h4 k)
 obtain⟨r5,h6,h⟩:=zB h
 have k:=oB 2 h4 k
 rcases r5 with y14|y7
 dsimp only at h
 have k:=oC 0 [] (c9 h6) k
 obtain⟨h15,h⟩:=O0 h
 cases h
 exact tF tV 0 [] (oB 2 h15 k)
 dsimp only at h
 have k:=oC 0 [] (c9 h6) k
 obtain⟨h8,h⟩|⟨h8,h⟩:=zL h
 cases h
 exact tF tV 0 [] (oB 2 h8 k)
 obtain⟨r9,h10,h⟩:=zB h
 have k:=oC 2 [2,3,4] (c27 h10)<|oB 2 h8 k
 obtain⟨h11,h⟩|⟨h11,h⟩:=zL h
 cases h
 exact tF tV 0 [] (oB 2 h11 k)
 obtain⟨r12,h13,h⟩:=zB h
 cases h
 exact tF tV 0 [] (oC 0 [4] (c18 h13)<|oB 2 h11 k),⟨⟨tv,dE _⟩,⟨tv,tv,⟨tv,dT _⟩,tv⟩,⟨tv,tv,⟨tv,dT _⟩,tv⟩,tv,tv⟩,zA,⟨tv,tv,tv,tv⟩,zA⟩
theorem zRL{N:ByteArray->Bool}(l:List zU)(hn:zG (fun q=>e8 q l) (zAY l true))(hE:xA N l)(he:∀e∈l,hJ e)(hl:l.length≤65535)(hc:∀e∈l,ECl e)(x y:Tm)(hx:x.Ok)(hy:y.Ok)(f:Int)(h0:0≤f)(h1:f≤1048576) :
  ∃r:Bool×Int×Int,zG (fun q=>e11 q l x y f) r∧(r.2.2=0->∃k,Cv l false x y r.1 k):=by
 have run:∀r,zG (fun q=>e27 q (yX l) x y f 0) r->zG (fun q=>e11 q l x y f) (if r.2.1≠0 then(false,0,r.2.1)else(r.1,r.2.2.2,0)):=fun r h=>by
  simp only[e11]
  refine hn.bind (zG.ifF (by simp) ((O9 f h0 h1).bind (zG.ifF (by simp) (zG.bind (a:=r) h ?_))))
  by_cases e:r.2.1≠0
  ·rw[if_pos e];exact zG.ifT (by simpa using e) zG.ret
  ·rw[if_neg e]
   refine zG.ifF (by simpa using e) (zG.bind (a:=r.2.2.2) (zG.mk fun q=>?_) zG.ret)
   simp only[e18,E7];rfl
 rcases zPu l hE he hl hc x y hx hy f h0 with⟨R,k,k0,k1,⟨b,e,h8,hC,hno,rfl⟩,h3,-⟩|⟨h,-⟩
 ·refine⟨_,run _ (h3 f 0 k1 (by omega) (by omega)),fun hz=>?_⟩
  by_cases e0:e=0
  ·subst e0
   rw[if_neg (by simp)]
   exact⟨k,hC rfl⟩
  ·rw[if_pos e0]at hz
   exact absurd hz e0
 ·obtain⟨r,h5,h6⟩:=h 0 (by omega) (by omega)
  have h7:=(zBA h6).2
  refine⟨_,run r h5,fun hz=>?_⟩
  rw[if_pos (by omega)]at hz
  have:r.2.1=0:=hz
  omega
section
variable {N:ByteArray->Bool} {l:List zU} (hE:xA N l) (hF:zG (fun q=>e42 q l) true) (he:∀e∈l,hJ e)
include hE hF he
theorem zKh(cs:List zJ)(hcs:cs.length≤17592186044416)(ho:∀c∈cs,okC c∧tE c.pats_≤300)(as0:List Tm)(hl:as0.length≤1000000)(hm:zOI l cs as0.length)(hs:t8 as0)(hmay:zG (fun q=>e22 q (yX l) cs as0) true)(f U:Int)(hf:0≤f)(hU:0≤U)(hfU:f+U≤1048576) :
  ∃r:R54,zG (fun q=>e10 q (yX l) cs as0 f U) r∧(iK r=8∨∃R k,0≤k∧k≤f∧QA l cs 0 as0 R k∧r=R (f-k) (U+k)):=by
 rcases zFV hE hF he cs hcs ho as0 hl hm hs hmay f hf with⟨R,k,k0,k1,hQ,h3,-⟩|⟨hsh,-⟩
 ·exact⟨_,h3 f U k1 (by omega) (by omega),.inr ⟨R,k,k0,k1,hQ,rfl⟩⟩
 ·obtain⟨r,h1,h2⟩:=hsh U (by omega) (by omega)
  exact⟨r,h1,.inl h2⟩
end
def zPr:R54->Int
 | .inl y=>y.1.row_
 | .inr y=>y.2.1
def tmK:R54->Tm
 | .inl y=>y.1.term_
 | .inr y=>.mk y.2.2.1 y.2.2.2.1 y.2.2.2.2.1
section
variable {N:ByteArray->Bool} {l:List zU}
theorem zBC{cs:List zJ}{i:Int}{own:List Tm}{R:Int->Int->R54}{k:Int}(h:QA l cs i own R k):∃r T e,Ap l cs i own r T e∧∀L U,iK (R L U)=e∧(e=0->zPr (R L U)=r∧tmK (R L U)=T):=by
 obtain⟨r,T,e,h1,⟨h2,d,rfl⟩|⟨h2,⟨d,h3,h4,rfl⟩|⟨b,rfl⟩⟩⟩:=h
 ·exact⟨r,T,e,h1,fun L U=>⟨rfl,fun h=>absurd h h2⟩⟩
 ·exact⟨r,T,e,h1,fun L U=>⟨h2.symm,fun _=>⟨h3,h4⟩⟩⟩
 ·exact⟨r,T,e,h1,fun L U=>⟨h2.symm,fun _=>⟨rfl,uQ T⟩⟩⟩
theorem zRM(hE:xA N l){cs:List zJ}{i:Int}{own own':List Tm}{R R':Int->Int->R54}{k k' a b c d:Int}(h:QA l cs i own R k)(h':QA l cs i own' R' k')(hs:∀t∈own,zH t=true)(hn:∀t∈own',Nf l t)(hj:yI (Jn l) own own')(h0:iK (R a b)=0) :
  (iK (R' c d)=0∨iK (R' c d)=2)∧(iK (R' c d)=0->zPr (R a b)=zPr (R' c d)∧Jn l (tmK (R a b)) (tmK (R' c d))):=by
 obtain⟨r,T,e,h1,h2⟩:=zBC h
 obtain⟨r',T',e',g1,g2⟩:=zBC h'
 obtain⟨p1,p2⟩:=h2 a b
 obtain⟨q1,q2⟩:=g2 c d
 rw[p1]at h0
 subst h0
 rw[q1,(p2 rfl).1,(p2 rfl).2]
 obtain⟨s1,s2⟩:=zSG hE cs i hs hn hj h1 g1
 exact⟨s1,fun he=>by rw[(q2 he).1,(q2 he).2];exact s2 he⟩
end
theorem K4{l:List zU}:∀(cs:List zJ) (i:Int) {own:List Tm} {r:Int} {T:Tm},Ap l cs i own r T 0->zH T=true
 | [],i,own,r,T,h=>by rw[Ap]at h;exact absurd h (by decide)
 |c::cs,i,own,r,T,h=>by
  rw[Ap]at h
  obtain⟨how,xs,e1,bs,-,⟨h1,h2⟩|⟨-,⟨-,h2⟩|⟨-,h2⟩|⟨-,-,h2⟩|⟨-,-,h2,h3⟩⟩⟩:=h
  ·exact absurd h2.symm h1
  ·exact K4 cs (i+1) h2
  ·exact absurd h2 (by decide)
  ·exact absurd h2 (by decide)
  ·obtain⟨-,-,h4,h5⟩:=eJ h2.symm
   rw[(h3 rfl).2,h5];exact h4
def NmS(l:List zU)(t x:Tm):Prop:=∃k,Nm l t x k∧zH x=true
theorem zEp{N:ByteArray->Bool}{l:List zU}(hE:xA N l):∀ {as0 as1:List Tm},yI (NmS l) as0 as1->as0.all (oV l)=true->as1.all (oV l)=true∧(∀t∈as1,Nf l t)∧yI (Jn l) as0 as1
 | [],[],_,_=>⟨rfl,(fun _ h=>nomatch h),trivial⟩
 | [],_::_,h,_=>h.elim
 |_::_,[],h,_=>h.elim
 |a::as0,b::as1,⟨⟨k,h1,h2⟩,h3⟩,h=>by
  rw[List.all_cons,Bool.and_eq_true]at h
  obtain⟨g1,g2,g3⟩:=zEp hE h3 h.2
  obtain⟨p1,p2,p3⟩:=zOZ hE h.1 h1 h2
  refine⟨by rw[List.all_cons,p1,g1];rfl,fun t ht=>?_,⟨⟨b,p3,.refl⟩,g3⟩⟩
  rcases List.mem_cons.1 ht with rfl|ht
  ·exact p2
  ·exact g2 t ht
def zVx(l:List zU)(cs:List zJ)(bc:Bool)(as0:List Tm)(r:R54):Prop:=
 ((bc&&as0.all (oV l))=false∧iK r=5)∨((bc&&as0.all (oV l))=true∧(iK r=8∨∃R k a b,QA l cs 0 as0 R k∧r=R a b))
theorem vU{N:ByteArray->Bool}{l:List zU}(hE:xA N l){cs:List zJ}{bc:Bool}{as0 as1:List Tm}{r r':R54}(h:zVx l cs bc as0 r)(h':zVx l cs bc as1 r')(hj:yI (NmS l) as0 as1)(h0:iK r=0) :
  (iK r'=0∨iK r'=2∨iK r'=8)∧(iK r'=0->zPr r=zPr r'∧Jn l (tmK r) (tmK r')∧(tmK r).Ok∧(tmK r').Ok):=by
 rcases h with⟨-,h⟩|⟨hb,h⟩
 ·rw[h0]at h;cases h
 rw[Bool.and_eq_true]at hb
 obtain⟨hb,ha⟩:=hb
 obtain⟨g1,g2,g3⟩:=zEp hE hj ha
 rcases h with h|⟨R,k,a,b,hQ,rfl⟩
 ·rw[h0]at h;cases h
 rcases h' with⟨h,-⟩|⟨-,h⟩
 ·rw[hb,g1]at h;cases h
 rcases h with h|⟨R',k',c,d,hQ',rfl⟩
 ·exact⟨.inr (.inr h),fun h'=>by rw[h]at h';cases h'⟩
 have hs:∀t∈as0,zH t=true:=fun t ht=>(eW.1 (List.all_eq_true.1 ha t ht)).1
 obtain⟨s1,s2⟩:=zRM hE (c:=c) (d:=d) hQ hQ' hs g2 g3 h0
 refine⟨s1.elim .inl fun h=>.inr (.inl h),fun he=>⟨(s2 he).1,(s2 he).2,?_,?_⟩⟩
 ·obtain⟨r,T,e,h1,h2⟩:=zBC hQ
  obtain⟨p1,p2⟩:=h2 a b
  rw[p1]at h0;subst h0
  rw[(p2 rfl).2];exact zX (K4 cs 0 h1)
 ·obtain⟨r,T,e,h1,h2⟩:=zBC hQ'
  obtain⟨p1,p2⟩:=h2 c d
  rw[p1]at he;subst he
  rw[(p2 rfl).2];exact zX (K4 cs 0 h1)
section
variable {N:ByteArray->Bool} {l:List zU} (hE:xA N l) (hF:zG (fun q=>e42 q l) true)
include hE hF
theorem zKg(hll:l.length≤65535)(he:∀e∈l,hJ e)(hc:∀e∈l,ECl e)(n:Nat)(hn:n≤1000000)(cs:List zJ)(hcs:cs.length≤17592186044416)(ho:∀c∈cs,okC c∧tE c.pats_≤300):∃bc:Bool,∀as0:List Tm,vK as0->as0.length=n->∀f U:Int,0≤f->0≤U->f+U≤1048576->∃r:R54,zG (fun q=>e10 q (yX l) cs as0 f U) r∧zVx l cs bc as0 r:=by
 obtain⟨bc,hm,hmay⟩:=zRC hE hF hll he hc (zRE hE) n hn cs hcs ho
 refine⟨bc,fun as0 ha hl f U h0 h1 h2=>?_⟩
 have hy:=hmay as0 ha hl
 cases hb:(bc&&as0.all (oV l))with
 |false=>
  rw[hb]at hy
  refine⟨.inl (yL.mk 0 [] (Tm.mk 0 0 []),5,f,U),?_,.inl ⟨hb,rfl⟩⟩
  simp only[e10]
  exact zG.bind hy (zG.ifF rfl zG.ret)
 |true=>
  rw[hb]at hy
  have hb':=hb
  rw[Bool.and_eq_true]at hb'
  have hs:t8 as0:=fun t ht=>(eW.1 (List.all_eq_true.1 hb'.2 t ht)).1
  obtain⟨r,h3,h4⟩:=zKh hE hF he cs hcs ho as0 (by omega) (by rw[hl];exact hm hb'.1) hs hy f U h0 h1 h2
  refine⟨r,h3,.inr ⟨hb,h4.imp id ?_⟩⟩
  rintro ⟨R,k,-,-,hQ,rfl⟩
  exact⟨R,k,_,_,hQ,rfl⟩
end
def E8(L U:Int):Prop:=0≤L∧0≤U∧L+U≤1048576
def Pm{ρ:Type}(x:Option ρ)(P:ρ->Prop):Prop:=∀r,x=some r->P r
section
variable {ρ σ:Type} {P:ρ->Prop} {Q:σ->Prop}
theorem Pm.none:Pm (none:Option ρ) P:=fun _ h=>nomatch h
theorem Pm.ret{a:ρ}(h:P a):Pm (some a) P:=fun _ e=>by cases e;exact h
theorem Pm.bind{x:Option ρ}{c:ρ->Option σ}(h:Pm x P)(k:∀a,P a->Pm (c a) Q):Pm (x>>=c) Q:=fun r e=>by
 cases x with
 |none=>cases e
 |some a=>exact k a (h a rfl) r e
theorem Pm.skip{x:Option ρ}{c:ρ->Option σ}(k:∀a,Pm (c a) Q):Pm (x>>=c) Q:=fun r e=>by
 cases x with
 |none=>cases e
 |some a=>exact k a r e
theorem Pm.ite{c:Prop}[Decidable c]{x y:Option ρ}(h:Pm x P)(k:Pm y P):Pm (if c then x else y) P:=by
 split
 ·exact h
 ·exact k
end
abbrev P4 (r:Tm×Int×Int×Int):Prop:=E8 r.2.2.1 r.2.2.2
abbrev P5 (r:Tm×Bool×Int×Int×Int):Prop:=E8 r.2.2.2.1 r.2.2.2.2
abbrev P8 (r:Int×Tm×Int×Int×Int×List Tm×Nat×Nat):Prop:=E8 r.2.2.2.1 r.2.2.2.2.1
theorem zRN(q:Nat){L U:Int}(h:E8 L U):Pm (dJ q L U) fun r=>E8 r.2.1 r.2.2:=by
 obtain⟨h0,h1,h2⟩:=h
 simp only[dJ,zNf,D1,fH,fI]
 refine Pm.bind (P:=fun r:Int×Int×Int=>E8 r.2.1 r.2.2) ?_ fun r hr=>Pm.ret hr
 intro r hr
 simp only[show decide ((1:Int)<0)=false from rfl,Bool.false_eq_true,if_false,Option.bind_eq_bind,Option.bind_some]at hr
 by_cases h:1≤L
 ·rw[if_neg (by simp;omega)]at hr
  have e:xL (0-1) = -1:=by decide
  rw[e,yM (x:=U+1) (by omega) (by omega),yM (x:=L + -1) (by omega) (by omega)]at hr
  cases hr
  exact⟨by show 0≤L + -1;omega,by show 0≤U+1;omega,by show L + -1+(U+1)≤_;omega⟩
 ·rw[if_pos (by simp;omega)]at hr
  cases hr
  exact⟨h0,h1,h2⟩
theorem zEo:∀q:Nat,(∀M t L U,E8 L U->Pm (e93 q M t L U) P4)∧(∀M L U k n s,E8 L U->Pm (fK q M L U k n s) P4)∧(∀M t L U,E8 L U->Pm (zFA q M t L U) P5)∧(∀M t s L U,E8 L U->Pm (zDc q M t s L U) P5)∧(∀M t s L U,E8 L U->Pm (zDb q M t s L U) P5)
 |0=>⟨fun _ _ _ _ _=>Pm.none,fun _ _ _ _ _ _ _=>Pm.none,fun _ _ _ _ _=>Pm.none,fun _ _ _ _ _ _=>Pm.none,fun _ _ _ _ _ _=>Pm.none⟩
 |q+1=>by
  obtain⟨i1,i2,i3,i4,i5⟩:=zEo q
  refine⟨fun M t L U h=>?_,fun M L U k n s h=>?_,fun M t L U h=>?_,fun M t s L U h=>?_,fun M t s L U h=>?_⟩
  ·rw[e93];exact i2 _ _ _ _ _ _ h
  ·rw[fK]
   repeat' (first|exact Pm.ret (by assumption)|exact i2 _ _ _ _ _ _ (by assumption)|refine Pm.ite ?_ ?_|refine Pm.bind (i3 _ _ _ _ (by assumption)) fun r hr=>?_)
  ·rw[zFA]
   repeat' (first|exact Pm.ret (by assumption)|refine Pm.ite ?_ ?_|refine Pm.bind (zRN _ (by assumption)) fun r hr=>?_|refine Pm.bind (i4 _ _ _ _ _ (by assumption)) fun r hr=>?_|refine Pm.bind (i5 _ _ _ _ _ (by assumption)) fun r hr=>?_|refine Pm.skip fun r=>?_)
  ·rw[zDc]
   repeat' (first|exact Pm.ret (by assumption)|refine Pm.ite ?_ ?_|refine Pm.bind (i1 _ _ _ _ (by assumption)) fun r hr=>?_|refine Pm.skip fun r=>?_)
  ·rw[zDb]
   repeat' (first|exact Pm.ret (by assumption)|refine Pm.ite ?_ ?_|refine Pm.bind (i1 _ _ _ _ (by assumption)) fun r hr=>?_|refine Pm.skip fun r=>?_)
theorem zPq(q:Nat)(M t){L U:Int}(h:E8 L U):Pm (e60 q M t L U) P4:=by
 rw[e60]
 repeat' (first|exact Pm.ret (by assumption)|refine Pm.ite ?_ ?_|refine Pm.bind ((zEo _).1 _ _ _ _ (by assumption)) fun r hr=>?_|refine Pm.skip fun r=>?_)
theorem zIk:∀q:Nat,(∀a b c d e L U s p t bs x y,E8 L U->Pm (nO q a b c d e L U s p t bs x y) P8)∧(∀a b c d e L U s p t u bs x y,E8 L U->Pm (nP q a b c d e L U s p t u bs x y) P8)∧(∀a b c d e p t r x y v s L U z w u bs,E8 L U->Pm (tI q a b c d e p t r x y v s L U z w u bs) P8)
 |0=>⟨fun _ _ _ _ _ _ _ _ _ _ _ _ _ _=>Pm.none,fun _ _ _ _ _ _ _ _ _ _ _ _ _ _ _=>Pm.none,fun _ _ _ _ _ _ _ _ _ _ _ _ _ _ _ _ _ _ _=>Pm.none⟩
 |q+1=>by
  obtain⟨i1,i2,i3⟩:=zIk q
  refine⟨fun a b c d e L U s p t bs x y h=>?_,fun a b c d e L U s p t u bs x y h=>?_,fun a b c d e p t r x y v s L U z w u bs h=>?_⟩
  ·rw[nO]
   repeat' (first|exact Pm.ret (by assumption)|refine Pm.ite ?_ ?_|refine Pm.bind (zPq _ _ _ (by assumption)) fun r hr=>?_|refine Pm.bind (i2 _ _ _ _ _ _ _ _ _ _ _ _ _ _ (by assumption)) fun r hr=>?_|refine Pm.skip fun r=>?_)
  ·rw[nP]
   refine Pm.skip fun r=>Pm.skip fun r=>?_
   cases r<;>exact i3 _ _ _ _ _ _ _ _ _ _ _ _ _ _ _ _ _ _ h
  ·rw[tI]
   repeat' (first|exact Pm.ret (by assumption)|exact i3 _ _ _ _ _ _ _ _ _ _ _ _ _ _ _ _ _ _ (by assumption)|refine Pm.ite ?_ ?_|refine Pm.bind (i1 _ _ _ _ _ _ _ _ _ _ _ _ _ (by assumption)) fun r hr=>?_|refine Pm.skip fun r=>?_)
def P24:(Int×List Tm×Int×Int×Int×List Tm) ⊕ (List Tm×Int×Nat×Int×Int×Int×List Tm)->Prop
 | .inl y=>E8 y.2.2.2.1 y.2.2.2.2.1
 | .inr y=>E8 y.2.2.2.2.1 y.2.2.2.2.2.1
theorem zIj:∀(q:Nat) (a b c d e p x y v s L U as0 z w bs),E8 L U->Pm (tJ q a b c d e p x y v s L U as0 z w bs) P24
 |0,_,_,_,_,_,_,_,_,_,_,_,_,_,_,_,_,_=>Pm.none
 |q+1,a,b,c,d,e,p,x,y,v,s,L,U,as0,z,w,bs,h=>by
  have ih:=zIj q
  rw[tJ]
  repeat' (first|exact Pm.ret (a:=Sum.inl _) (by assumption)|exact Pm.ret (a:=Sum.inr _) (by assumption)|exact ih _ _ _ _ _ _ _ _ _ _ _ _ _ _ _ _ (by assumption)|refine Pm.ite ?_ ?_|refine Pm.bind ((zIk _).1 _ _ _ _ _ _ _ _ _ _ _ _ _ (by assumption)) fun r hr=>?_|refine Pm.skip fun r=>?_)
theorem zVw(q:Nat)(a b c d e){L U:Int}(s p as0 x y)(h:E8 L U):Pm (lB q a b c d e L U s p as0 x y) P24:=by
 rw[lB];exact zIj _ _ _ _ _ _ _ _ _ _ _ _ _ _ _ _ _ h
def P54:R54->Prop
 | .inl y=>E8 y.2.2.1 y.2.2.2
 | .inr y=>E8 y.2.2.2.2.2.2.1 y.2.2.2.2.2.2.2
theorem zIi:∀(q:Nat) (M i L U k as0 m n s v bs),E8 L U->Pm (iI q M i L U k as0 m n s v bs) P54
 |0,_,_,_,_,_,_,_,_,_,_,_,_=>Pm.none
 |q+1,M,i,L,U,k,as0,m,n,s,v,bs,h=>by
  have ih:=zIi q
  rw[iI]
  exact Pm.ite (Pm.skip fun r=>Pm.skip fun r=>Pm.skip fun r=>ih _ _ _ _ _ _ _ _ _ _ _ h) (Pm.skip fun r=>Pm.ret (a:=Sum.inr _) h)
theorem zIh(q M i as0 m v){L U:Int}(k n s)(h:E8 L U):Pm (iJ q M i as0 m v L U k n s) P54:=by
 rw[iJ]
 exact Pm.ite (Pm.skip fun r=>Pm.skip fun r=>Pm.skip fun r=>zIi _ _ _ _ _ _ _ _ _ _ _ _ h) (Pm.ret (a:=Sum.inl _) h)
theorem zIg:∀(q:Nat) (M cs x y i L U s as0),E8 L U->Pm (nA q M cs x y i L U s as0) P54
 |0,_,_,_,_,_,_,_,_,_,_=>Pm.none
 |q+1,M,cs,x,y,i,L,U,s,as0,h=>by
  have ih:=zIg q
  rw[nA]
  refine Pm.ite (Pm.skip fun c=>Pm.bind (zVw _ _ _ _ _ _ _ _ _ _ _ h) fun r hr=>?_) (Pm.ret (a:=Sum.inl _) h)
  rcases r with r|r
  ·have hr:E8 r.2.2.2.1 r.2.2.2.2.1:=hr
   exact Pm.ite (Pm.ret (a:=Sum.inl _) hr) (Pm.ite (ih _ _ _ _ _ _ _ _ _ hr) (Pm.ite (Pm.ret (a:=Sum.inl _) hr) (Pm.ite (Pm.skip fun b=>Pm.ite (Pm.ret (a:=Sum.inl _) hr) (zIh _ _ _ _ _ _ _ _ _ hr)) (Pm.ret (a:=Sum.inl _) hr))))
  ·have hr:E8 r.2.2.2.2.1 r.2.2.2.2.2.1:=hr
   exact Pm.ite (Pm.ret (a:=Sum.inl _) hr) (Pm.ite (ih _ _ _ _ _ _ _ _ _ hr) (Pm.ite (Pm.ret (a:=Sum.inl _) hr) (Pm.ite (Pm.skip fun b=>Pm.ite (Pm.ret (a:=Sum.inl _) hr) (zIh _ _ _ _ _ _ _ _ _ hr)) (Pm.ret (a:=Sum.inl _) hr))))
theorem zPp(q M cs as0){L U:Int}(h:E8 L U):Pm (e10 q M cs as0 L U) P54:=by
 rw[e10]
 refine Pm.skip fun b=>Pm.ite (Pm.skip fun r=>?_) (Pm.ret (a:=Sum.inl _) h)
 cases r<;>exact zIg _ _ _ _ _ _ _ _ _ _ h
theorem zVv{ρ:Type}{f:Nat->Option ρ}{r:ρ}{P:ρ->Prop}(h:zG f r)(k:∀q,Pm (f q) P):P r:=by
 obtain⟨q,hq⟩:=h.at
 exact k q r hq
def Q1(qq:Nat)(p1:List zJ)(p2:zQ):Option Bool:=
 some false
theorem zIf{qq p1 p2 r}(h:Q1 qq p1 p2=some r):Ct 22 [] [.val (.pointer none),zO zY p1 .no,zO zD p2 .no] (ab r) [] 0:=⟨by
 unfold Q1 at h
 cases h
 exact tF ⟨func22,rfl⟩ 1 [] (o0),⟨tv,⟨tv,yC _⟩,⟨tv,dT _⟩,tv⟩,zA,tv,zA⟩
def iM(qq:Nat)(p1:List zJ)(q2 q3:Int)(v11_c v11_n:Nat)(v35 pJ:Int)(xP:zQ):Option ((yL×Int) ⊕ (zQ×Int×Int×Int×zQ×Int)):=
 if decide (v35<(p1.length:Int))then
 none
 else
 some (.inl ((yL.mk 0 [] (Tm.mk 0 0 [])),16))
def lC(qq:Nat)(p1:List zJ)(p2:zQ)(q2 q3:Int):Option ((yL×Int) ⊕ (zQ×Int×Int×Int×zQ×Int)):=
 Q1 qq p1 p2>>=fun r1=>
 if r1 then
 M2 qq p2>>=fun r4=>
 match r4 with
 | .inl y6=>
  iM qq p1 q2 q3 (List.length ([]:zQ)) (List.length ([]:zQ)) 0 0 ([]:zQ)
 | .inr y7=>
  iM qq p1 q2 q3 y7.length y7.length 0 0 y7
 else
 some (.inl ((yL.mk 0 [] (Tm.mk 0 0 [])),5))
section
variable (p1:List zJ) (p2:zQ) (q2 q3:Int)
abbrev K5 (r:yL×Int) (C:Cf):Prop:=C 10 [.cells [ai q2,ai q3]] [.val (.pointer none),zO zY p1 .no,zO zD p2 .no,.mp 0 0] (.tup [vD r.1,ai r.2]) [.cells [ai q2,ai q3]] 0
abbrev K6 (r:zQ×Int×Int×Int×zQ×Int) (C:Cf):Prop:=C 10 [.cells [ai q2,ai q3]] [.val (.pointer none),zO zY p1 .no,zO zD p2 .no,.mp 0 0] (.tup [.agg [ai r.2.1,.ms 1 0 r.1.length r.1.length 3,ai r.2.2.1,ai r.2.2.2.1,zO zD r.2.2.2.2.1 .no],ai r.2.2.2.2.2]) [.cells [ai q2,ai q3],.row (flat zD r.1)] 0
end
theorem E9:Qf 10 Tryz.f10:=⟨func10,rfl⟩
theorem K7{p1 p2 q2 q3 r}(h:K5 p1 p2 q2 q3 r Ci):K5 p1 p2 q2 q3 r Ct:=⟨h,⟨tv,⟨tv,yC _⟩,⟨tv,dT _⟩,(lz rfl),tv⟩,(zC ⟨tv,tv,tv⟩ zA),⟨⟨tv,dT _,tv,tv,dT _,tv⟩,tv,tv⟩,(zC ⟨tv,tv,tv⟩ zA)⟩
theorem zAo{p1 p2 q2 q3 r}(h:K6 p1 p2 q2 q3 r Ci):K6 p1 p2 q2 q3 r Ct:=⟨h,⟨tv,⟨tv,yC _⟩,⟨tv,dT _⟩,(lz rfl),tv⟩,(zC ⟨tv,tv,tv⟩ zA),⟨⟨tv,(lz rfl),tv,tv,dT _,tv⟩,tv,tv⟩,(zC ⟨tv,tv,tv⟩ (zC (dT _) zA))⟩
theorem iN{qq p1 q2 q3 v11_c v11_n v35 pJ xP r}(h:iM qq p1 q2 q3 v11_c v11_n v35 pJ xP=some r):(∀j,dL 1 (pt 917429 Tryz.f10) (sp j 102 0 [(8,.mp 1 0),(10,.mp 2 0),(11,.ms 3 0 v11_n v11_c 3),(33,zO zY p1 .no),(34,ai (p1.length:Int)),(35,ai v35)]) (⟨[(0,.cells [ai q2,ai q3]),(1,.cells [ai 0,zO zD ([]:zQ) .nl,ai 0,ai 0,zO zD ([]:zQ) .nl]),(2,.cells [.val (.pointer none),.mp 0 0,ai pJ]),(3,.row (flat zD xP))],4,[],0,[]⟩) (fQ 1 ((match (generalizing:=false) r with | .inl x=>nQ 1 Tryz.f10 (.tup [vD x.1,ai x.2]) [.cells [ai q2,ai q3]] 0 | .inr x=>nQ 1 Tryz.f10 (.tup [.agg [ai x.2.1,.ms 1 0 x.1.length x.1.length 3,ai x.2.2.1,ai x.2.2.2.1,zO zD x.2.2.2.2.1 .no],ai x.2.2.2.2.2]) [.cells [ai q2,ai q3],.row (flat zD x.1)] 0)) [.blk 0,.seq (pt 14335 Tryz.f10)])):=by
 unfold iM at h
 obtain⟨h7,h⟩:=zVQ h
 cases h
 exact fun j=>lF 1 [0] (oD (dT ([]:zQ))<|oD (dT ([]:zQ))<|oB 0 h7 o0)
theorem zPo{qq p1 p2 q2 q3 r}(h:lC qq p1 p2 q2 q3=some r):(match (generalizing:=false) r with | .inl x=>K5 p1 p2 q2 q3 x Ct | .inr x=>K6 p1 p2 q2 q3 x Ct):=by
 unfold lC at h
 have z {os ob} (k:Oz os ob):=oD (dT ([]:zQ))<|oD (dT ([]:zQ))<|k
 obtain⟨r1,h2,h⟩:=zB h
 obtain⟨h3,h⟩|⟨h3,h⟩:=zL h
 obtain⟨r4,h5,h⟩:=zB h
 have k:=oK 0 [] h3 (zIf h2) o0
 rcases r4 with y6|y7
 dsimp only at h
 rcases r with y0|y1
 exact K7 (tH E9 1 [(none,11,4099)] [0,1,2,3] [] [8,10,11,33,34,35] (oD (yC p1)<|z<|oD (dT ([]:zQ))<|oC 1 [] (iU h5) k) (iN h))
 exact zAo (tH E9 1 [(none,11,4099)] [0,1,2,3] [] [8,10,11,33,34,35] (oD (yC p1)<|z<|oD (dT ([]:zQ))<|oC 1 [] (iU h5) k) (iN h))
 dsimp only at h
 rcases r with y0|y1
 exact K7 (tH E9 1 [] [0,1,2,3] [] [8,10,11,33,34,35] (oD (yC p1)<|oD (dT y7)<|z<|oC 1 [] (iU h5) k) (iN h))
 exact zAo (tH E9 1 [] [0,1,2,3] [] [8,10,11,33,34,35] (oD (yC p1)<|oD (dT y7)<|z<|oC 1 [] (iU h5) k) (iN h))
 cases h
 exact K7 (tF E9 2 [0] (z<|oK 0 [] h3 (zIf h2) o0))
theorem Q3{qq p1 p2 q2 q3 r}(h:lC qq p1 p2 q2 q3=some r):(match (generalizing:=false) r with | .inl x=>CT prog 10 [.cells [ai q2,ai q3]] [.val (.pointer none),zO zY p1 .no,zO zD p2 .no,.mp 0 0] (.tup [vD x.1,ai x.2]) [.cells [ai q2,ai q3]] 0 | .inr x=>CT prog 10 [.cells [ai q2,ai q3]] [.val (.pointer none),zO zY p1 .no,zO zD p2 .no,.mp 0 0] (.tup [vD (yL.mk x.2.1 x.1 (Tm.mk x.2.2.1 x.2.2.2.1 x.2.2.2.2.1)),ai x.2.2.2.2.2]) [.cells [ai q2,ai q3]] 0):=by
 have k:=zPo h
 rcases r with y0|y1
 ·exact k
 ·exact CT.freeze (H1:=[.cells [ai q2,ai q3]]) (cs:=flat zD y1.1) (res':=(.tup [vD (yL.mk y1.2.1 y1.1 (Tm.mk y1.2.2.1 y1.2.2.2.1 y1.2.2.2.2.1)),ai y1.2.2.2.2.2])) k (Nat.le_of_ble_eq_true rfl) (zC ⟨tv,tv,tv⟩ zA) (dT _) ⟨⟨trivial,(.inl ⟨rfl,rfl⟩),trivial,trivial,dT _,tv⟩,trivial,tv⟩ (by rfl) rfl
def Y7:Nat->zQ->Int->Option Bool
 |0,_,_=>none
 |qq+1,p0,v3=>
 if decide (v3<(p0.length:Int))then
 zR p0 v3>>=fun x3=>
 e13 qq x3>>=fun r5=>
 if decide (r5>150)then
 some false
 else
 Y7 qq p0 (xL (v3+1))
 else
 some true
def e5(qq:Nat)(p0:zQ):Option Bool:=
 if decide ((p0.length:Int)>24)then
 some false
 else
 Y7 qq p0 0
theorem q5:Qf 5 Tryz.f5:=⟨func5,rfl⟩
theorem zXD:∀qq:Nat,(∀ {p0 v3 r},Y7 qq p0 v3=some r->(∀j,dL 0 (pt 4021 Tryz.f5) (sp j 19 0 [(0,zO zD p0 .no),(3,ai v3)]) (⟨[],0,[],0,[]⟩) (fQ 0 (nQ 0 Tryz.f5 (ab r) [] 0) [.blk 0,.seq (pt 63 Tryz.f5)]))):=by
 intro qq
 induction qq with
 |zero=>
  exact fun h=>nn h
 |succ qq ih=>
  intro p0 v3 r h
  rw[Y7]at h
  obtain⟨h2,h⟩|⟨h2,h⟩:=zL h
  obtain⟨x3,h4,h⟩:=zB h
  obtain⟨r5,h6,h⟩:=zB h
  have k:=oC 1 [] (m7 h6)<|oA 0 (wN (o:=.no) h4)<|oB 1 h2 o0
  obtain⟨h7,h⟩|⟨h7,h⟩:=zL h
  cases h
  exact fun j=>lF 0 [] (oB 0 h7 k)
  exact fun j=>lH 1 [] [] [] [0,3] (oD (dT p0)<|oB 0 h7 k) (ih h)
  cases h
  exact fun j=>lF 0 [] (oB 1 h2 o0)
theorem c5{qq p0 r}(h:e5 qq p0=some r):Ct 5 [] [zO zD p0 .no] (ab r) [] 0:=⟨by
 unfold e5 at h
 obtain⟨h1,h⟩|⟨h1,h⟩:=zL h
 cases h
 exact tF q5 0 [] (oB 1 h1 o0)
 exact tH q5 0 [] [] [] [0,3] (oD (dT p0)<|oB 1 h1 o0) (zXD _ h),⟨⟨tv,dT _⟩,tv⟩,zA,tv,zA⟩
def e38(qq:Nat)(p0 p1:Int):Option Tm:=
 some (Tm.mk p0 p1 [])
theorem c38{qq p0 p1 r}(h:e38 qq p0 p1=some r):Ct 38 [] [ai p0,ai p1] (xF r) [] 0:=⟨by
 unfold e38 at h
 cases h
 exact tF ⟨func38,rfl⟩ 1 [] (oD (dT ([]:zQ)) o0),⟨tv,tv,tv⟩,zA,⟨tv,tv,dT _,tv⟩,zA⟩
def e16(qq:Nat)(p0:Int):Option Tm:=
 e38 qq 6 p0>>=fun r1=>
 some r1
theorem Y8{qq p0 r}(h:e16 qq p0=some r):Ct 16 [] [ai p0] (xF r) [] 0:=⟨by
 unfold e16 at h
 obtain⟨r1,h2,h⟩:=zB h
 obtain rfl:=sj h
 exact tF ⟨func16,rfl⟩ 1 [] (oD (dT r1.sub)<|oC 0 [] (c38 h2) o0),⟨tv,tv⟩,zA,⟨tv,tv,dT _,tv⟩,zA⟩
def e28(qq:Nat)(p0:ByteArray)(p1:Tm)(p2 p3:Int)(p4:yV):Option zU:=
 some (zU.mk 1 p0 p1 (Tm.mk 0 0 []) 0 0 p2 p3 0 p4 [])
theorem c28{qq p0 p1 p2 p3 p4 r}(h:e28 qq p0 p1 p2 p3 p4=some r):Ct 28 [] [at' p0,xF p1,ai p2,ai p3,zO yH p4 .no] (zSX r) [] 0:=⟨by
 unfold e28 at h
 cases h
 exact tF ⟨func28,rfl⟩ 2 [] (oD (dI ([]:yV))<|oD (dI p4)<|oD (dT ([]:zQ))<|oD (dT p1.sub) o0),⟨tv,⟨tv,tv,⟨tv,dT _⟩,tv⟩,tv,tv,⟨tv,dI _⟩,tv⟩,zA,⟨tv,tv,tv,tv,dT _,tv,tv,dT _,tv,tv,tv,tv,tv,dI _,dI _,tv⟩,zA⟩
def e57(qq:Nat)(p0:Int)(p1 p2:Tm):Option Tm:=
 some (Tm.mk p0 0 [p1,p2])
theorem c57{qq p0 p1 p2 r}(h:e57 qq p0 p1 p2=some r):Ct 57 [] [ai p0,xF p1,xF p2] (xF r) [] 0:=⟨by
 unfold e57 at h
 cases h
 exact tF ⟨func57,rfl⟩ 1 [] (oD (dT [p1,p2])<|oS 2 (xJ xM [p1,p2]) o0),⟨tv,⟨tv,tv,⟨tv,dT _⟩,tv⟩,⟨tv,tv,⟨tv,dT _⟩,tv⟩,tv⟩,zA,⟨tv,tv,dT _,tv⟩,zA⟩
def gE(qq:Nat)(p0 p1:Tm):Option Tm:=
 e57 qq 3 p0 p1>>=fun r1=>
 some r1
theorem gF{qq p0 p1 r}(h:gE qq p0 p1=some r):Ct 29 [] [xF p0,xF p1] (xF r) [] 0:=⟨by
 unfold gE at h
 obtain⟨r1,h2,h⟩:=zB h
 obtain rfl:=sj h
 exact tF ⟨func29,rfl⟩ 1 [] (oD (dT r1.sub)<|oC 2 [] (c57 h2) o0),⟨⟨tv,tv,⟨tv,dT _⟩,tv⟩,⟨tv,tv,⟨tv,dT _⟩,tv⟩,tv⟩,zA,⟨tv,tv,dT _,tv⟩,zA⟩
def e30(qq:Nat)(p0:Int):Option Tm:=
 e38 qq 2 p0>>=fun r1=>
 some r1
theorem M8{qq p0 r}(h:e30 qq p0=some r):Ct 30 [] [ai p0] (xF r) [] 0:=⟨by
 unfold e30 at h
 obtain⟨r1,h2,h⟩:=zB h
 obtain rfl:=sj h
 exact tF ⟨func30,rfl⟩ 1 [] (oD (dT r1.sub)<|oC 0 [] (c38 h2) o0),⟨tv,tv⟩,zA,⟨tv,tv,dT _,tv⟩,zA⟩
def zBD:Nat->zQ->Int->Int->Int->zQ->Option Tm
 |0,_,_,_,_,_=>none
 |qq+1,p1,v5,yB,vO,xC=>
 if decide (v5<(p1.length:Int))then
 zR p1 v5>>=fun x2=>
 e57 qq 5 (Tm.mk yB vO xC) x2>>=fun r4=>
 zBD qq p1 (xL (v5+1)) r4.k r4.n r4.sub
 else
 some (Tm.mk yB vO xC)
def e58(qq:Nat)(p0:Tm)(p1:zQ):Option Tm:=
 zBD qq p1 0 p0.k p0.n p0.sub
theorem zVt:∀qq:Nat,(∀ {p1 v5 yB vO xC r},zBD qq p1 v5 yB vO xC=some r->(∀j,dL 0 (pt 949 f58) (sp j 19 0 [(1,zO zD p1 .no),(2,.mp 0 0),(4,.mp 1 0),(5,ai v5)]) (⟨[(0,.cells [ai yB,ai vO,zO zD xC .no]),(1,.cells [ai 0,ai 0,zO zD ([]:zQ) .nl])],2,[],0,[]⟩) (fQ 0 (nQ 0 f58 (xF r) [] 0) [.blk 0,.seq (pt 15 f58)]))):=by
 intro qq
 induction qq with
 |zero=>
  exact fun h=>nn h
 |succ qq ih=>
  intro p1 v5 yB vO xC r h
  rw[zBD]at h
  obtain⟨h1,h⟩|⟨h1,h⟩:=zL h
  obtain⟨x2,h3,h⟩:=zB h
  obtain⟨r4,h5,h⟩:=zB h
  exact fun j=>lH 2 [] [0,1] [] [1,2,4,5] (oD (dT p1)<|oD (dT ([]:zQ))<|oD (dT r4.sub)<|oC 1 [] (c57 h5)<|oA 1 (wN (o:=.no) h3)<|oB 1 h1 o0) (ih h)
  cases h
  exact fun j=>lF 2 [] (oD (dT xC)<|oB 1 h1 o0)
theorem c58{qq p0 p1 r}(h:e58 qq p0 p1=some r):Ct 58 [] [xF p0,zO zD p1 .no] (xF r) [] 0:=⟨by
 unfold e58 at h
 exact tH ⟨func58,rfl⟩ 0 [] [0,1] [] [1,2,4,5] (oD (dT p1)<|oD (dT ([]:zQ))<|oD (dT p0.sub) o0) (zVt _ h),⟨⟨tv,tv,⟨tv,dT _⟩,tv⟩,⟨tv,dT _⟩,tv⟩,zA,⟨tv,tv,dT _,tv⟩,zA⟩
def e31(qq:Nat)(p0:Tm)(p1:zQ):Option Tm:=
 e58 qq p0 p1>>=fun r1=>
 some r1
theorem c31{qq p0 p1 r}(h:e31 qq p0 p1=some r):Ct 31 [] [xF p0,zO zD p1 .no] (xF r) [] 0:=⟨by
 unfold e31 at h
 obtain⟨r1,h2,h⟩:=zB h
 obtain rfl:=sj h
 exact tF ⟨func31,rfl⟩ 1 [] (oD (dT r1.sub)<|oC 1 [] (c58 h2) o0),⟨⟨tv,tv,⟨tv,dT _⟩,tv⟩,⟨tv,dT _⟩,tv⟩,zA,⟨tv,tv,dT _,tv⟩,zA⟩
def e32(qq:Nat)(p0:Int):Option Tm:=
 e38 qq 1 p0>>=fun r1=>
 some r1
theorem dK{qq p0 r}(h:e32 qq p0=some r):Ct 32 [] [ai p0] (xF r) [] 0:=⟨by
 unfold e32 at h
 obtain⟨r1,h2,h⟩:=zB h
 obtain rfl:=sj h
 exact tF ⟨func32,rfl⟩ 1 [] (oD (dT r1.sub)<|oC 0 [] (c38 h2) o0),⟨tv,tv⟩,zA,⟨tv,tv,dT _,tv⟩,zA⟩
def e33(qq:Nat)(p0 p1:Tm):Option Tm:=
 e57 qq 4 p0 p1>>=fun r1=>
 some r1
theorem c33{qq p0 p1 r}(h:e33 qq p0 p1=some r):Ct 33 [] [xF p0,xF p1] (xF r) [] 0:=⟨by
 unfold e33 at h
 obtain⟨r1,h2,h⟩:=zB h
 obtain rfl:=sj h
 exact tF ⟨func33,rfl⟩ 1 [] (oD (dT r1.sub)<|oC 2 [] (c57 h2) o0),⟨⟨tv,tv,⟨tv,dT _⟩,tv⟩,⟨tv,tv,⟨tv,dT _⟩,tv⟩,tv⟩,zA,⟨tv,tv,dT _,tv⟩,zA⟩
def e59(qq:Nat)(p0 p1:Int)(p2:zQ):Option Tm:=
 some (Tm.mk p0 p1 p2)
theorem c59{qq p0 p1 p2 r}(h:e59 qq p0 p1 p2=some r):Ct 59 [] [ai p0,ai p1,zO zD p2 .no] (xF r) [] 0:=⟨by
 unfold e59 at h
 cases h
 exact tF ⟨func59,rfl⟩ 1 [] (oD (dT p2) o0),⟨tv,tv,⟨tv,dT _⟩,tv⟩,zA,⟨tv,tv,dT _,tv⟩,zA⟩
def e34(qq:Nat)(p0 p1:Int):Option Tm:=
 e30 qq p1>>=fun r1=>
 e59 qq 7 p0 [r1]>>=fun r3=>
 some r3
theorem c34{qq p0 p1 r}(h:e34 qq p0 p1=some r):Ct 34 [] [ai p0,ai p1] (xF r) [] 0:=⟨by
 unfold e34 at h
 obtain⟨r1,h2,h⟩:=zB h
 obtain⟨r3,h4,h⟩:=zB h
 obtain rfl:=sj h
 exact tF ⟨func34,rfl⟩ 1 [] (oD (dT r3.sub)<|oC 0 [] (c59 h4)<|oS 0 (xJ xM [r1])<|oC 0 [] (M8 h2) o0),⟨tv,tv,tv⟩,zA,⟨tv,tv,dT _,tv⟩,zA⟩
def e35(qq:Nat)(p0:ByteArray)(p1:Tm)(p2 p3 p4:Int):Option zU:=
 some (zU.mk 2 p0 p1 (Tm.mk 0 0 []) p2 p3 p4 0 0 [] [])
theorem c35{qq p0 p1 p2 p3 p4 r}(h:e35 qq p0 p1 p2 p3 p4=some r):Ct 35 [] [at' p0,xF p1,ai p2,ai p3,ai p4] (zSX r) [] 0:=⟨by
 unfold e35 at h
 cases h
 exact tF ⟨func35,rfl⟩ 2 [] (oD (dI ([]:yV))<|oD (dI ([]:yV))<|oD (dT ([]:zQ))<|oD (dT p1.sub) o0),⟨tv,⟨tv,tv,⟨tv,dT _⟩,tv⟩,tv,tv,tv,tv⟩,zA,⟨tv,tv,tv,tv,dT _,tv,tv,dT _,tv,tv,tv,tv,tv,dI _,dI _,tv⟩,zA⟩
def e36(qq:Nat)(p0:ByteArray)(p1:Tm)(p2:Int):Option zU:=
 some (zU.mk 4 p0 p1 (Tm.mk 0 0 []) 14 p2 2 0 0 [] [])
theorem c36{qq p0 p1 p2 r}(h:e36 qq p0 p1 p2=some r):Ct 36 [] [at' p0,xF p1,ai p2] (zSX r) [] 0:=⟨by
 unfold e36 at h
 cases h
 exact tF ⟨func36,rfl⟩ 2 [] (oD (dI ([]:yV))<|oD (dI ([]:yV))<|oD (dT ([]:zQ))<|oD (dT p1.sub) o0),⟨tv,⟨tv,tv,⟨tv,dT _⟩,tv⟩,tv,tv⟩,zA,⟨tv,tv,tv,tv,dT _,tv,tv,dT _,tv,tv,tv,tv,tv,dI _,dI _,tv⟩,zA⟩
def e14(qq:Nat)  : Option yU:=
 e16 qq 0>>=fun r1=>
 e30 qq 0>>=fun r3=>
 gE qq r3 r3>>=fun r5=>
 gE qq r3 r5>>=fun r7=>
 e28 qq (⟨#[80,97,105,114]⟩:ByteArray) r7 2 0 [15]>>=fun r9=>
 e16 qq 14>>=fun r11=>
 e32 qq 1>>=fun r13=>
 e32 qq 0>>=fun r15=>
 e31 qq r11 [r13,r15]>>=fun r17=>
 e34 qq 0 0>>=fun r19=>
 e33 qq r1 r1>>=fun r21=>
 e16 qq 2>>=fun r23=>
 e31 qq r23 [r15]>>=fun r25=>
 e33 qq r1 r25>>=fun r27=>
 e33 qq r1 r27>>=fun r29=>
 e31 qq r19 [r21,r15,r29,r13]>>=fun r31=>
 e33 qq r1 r31>>=fun r33=>
 e33 qq r1 r33>>=fun r35=>
 e28 qq (⟨#[78,97,116]⟩:ByteArray) r3 0 0 [1,2]>>=fun r37=>
 e35 qq (⟨#[122,101,114,111]⟩:ByteArray) r1 0 0 0>>=fun r39=>
 gE qq r1 r1>>=fun r41=>
 e35 qq (⟨#[115,117,99]⟩:ByteArray) r41 0 1 0>>=fun r43=>
 e28 qq (⟨#[66,111,111,108]⟩:ByteArray) r3 0 0 [4,5]>>=fun r45=>
 e16 qq 3>>=fun r47=>
 e35 qq (⟨#[116,114,117,101]⟩:ByteArray) r47 3 0 0>>=fun r49=>
 e35 qq (⟨#[102,97,108,115,101]⟩:ByteArray) r47 3 1 0>>=fun r51=>
 e28 qq (⟨#[76,105,115,116]⟩:ByteArray) r5 1 0 [7,8]>>=fun r53=>
 e16 qq 6>>=fun r55=>
 e31 qq r55 [r15]>>=fun r57=>
 gE qq r3 r57>>=fun r59=>
 e35 qq (⟨#[110,105,108]⟩:ByteArray) r59 6 0 1>>=fun r61=>
 e31 qq r55 [r13]>>=fun r63=>
 e32 qq 2>>=fun r65=>
 e31 qq r55 [r65]>>=fun r67=>
 gE qq r63 r67>>=fun r69=>
 gE qq r15 r69>>=fun r71=>
 gE qq r3 r71>>=fun r73=>
 e35 qq (⟨#[99,111,110,115]⟩:ByteArray) r73 6 1 1>>=fun r75=>
 gE qq r1 r3>>=fun r77=>
 gE qq r3 r77>>=fun r79=>
 e28 qq (⟨#[86,101,99]⟩:ByteArray) r79 1 1 [10,11]>>=fun r81=>
 e16 qq 9>>=fun r83=>
 e16 qq 1>>=fun r85=>
 e31 qq r83 [r15,r85]>>=fun r87=>
 gE qq r3 r87>>=fun r89=>
 e35 qq (⟨#[118,110,105,108]⟩:ByteArray) r89 9 0 1>>=fun r91=>
 e31 qq r83 [r65,r13]>>=fun r93=>
 e32 qq 3>>=fun r95=>
 e31 qq r23 [r65]>>=fun r97=>
 e31 qq r83 [r95,r97]>>=fun r99=>
 gE qq r93 r99>>=fun r101=>
 gE qq r13 r101>>=fun r103=>
 gE qq r1 r103>>=fun r105=>
 gE qq r3 r105>>=fun r107=>
 e35 qq (⟨#[118,99,111,110,115]⟩:ByteArray) r107 9 1 1>>=fun r109=>
 gE qq r13 r3>>=fun r111=>
 gE qq r15 r111>>=fun r113=>
 gE qq r3 r113>>=fun r115=>
 e28 qq (⟨#[69,113]⟩:ByteArray) r115 2 1 [13]>>=fun r117=>
 e16 qq 12>>=fun r119=>
 e31 qq r119 [r13,r15,r15]>>=fun r121=>
 gE qq r15 r121>>=fun r123=>
 gE qq r3 r123>>=fun r125=>
 e35 qq (⟨#[114,101,102,108]⟩:ByteArray) r125 12 0 2>>=fun r127=>
 e31 qq r11 [r95,r65]>>=fun r129=>
 gE qq r13 r129>>=fun r131=>
 gE qq r13 r131>>=fun r133=>
 gE qq r3 r133>>=fun r135=>
 gE qq r3 r135>>=fun r137=>
 e35 qq (⟨#[112,97,105,114]⟩:ByteArray) r137 14 0 2>>=fun r139=>
 gE qq r17 r65>>=fun r141=>
 gE qq r3 r141>>=fun r143=>
 gE qq r3 r143>>=fun r145=>
 e36 qq (⟨#[102,115,116]⟩:ByteArray) r145 0>>=fun r147=>
 gE qq r17 r13>>=fun r149=>
 gE qq r3 r149>>=fun r151=>
 gE qq r3 r151>>=fun r153=>
 e36 qq (⟨#[115,110,100]⟩:ByteArray) r153 1>>=fun r155=>
 e28 qq (⟨#[84,114,101,101]⟩:ByteArray) r3 0 0 [19,20]>>=fun r157=>
 e16 qq 18>>=fun r159=>
 e35 qq (⟨#[108,101,97,102]⟩:ByteArray) r159 18 0 0>>=fun r161=>
 gE qq r1 r159>>=fun r163=>
 gE qq r163 r159>>=fun r165=>
 e35 qq (⟨#[110,111,100,101]⟩:ByteArray) r165 18 1 0>>=fun r167=>
 gE qq r1 r41>>=fun r169=>
 gE qq r15 r13>>=fun r171=>
 gE qq r3 r171>>=fun r173=>
 e33 qq r15 r15>>=fun r175=>
 e33 qq r3 r175>>=fun r177=>
 some [r37,r39,r43,r45,r49,r51,r53,r61,r75,r81,r91,r109,r117,r127,(zU.mk r9.kind r9.name r9.type r9.body r9.fam r9.place r9.pars r9.inds r9.level r9.cons [16,17]),r139,r147,r155,r157,r161,r167,(zU.mk 3 (⟨#[112,108,117,115]⟩:ByteArray) r169 r35 0 0 0 0 0 [] []),(zU.mk 3 (⟨#[105,100]⟩:ByteArray) r173 r177 0 0 0 0 0 [] [])]
theorem c14{qq r}(h:e14 qq  = some r):Ct 14 [] [] (.sl (flat yZ r) r.length .no) [] 0:=⟨by
 unfold e14 at h
 obtain⟨r1,h2,h⟩:=zB h
 obtain⟨r3,h4,h⟩:=zB h
 obtain⟨r5,h6,h⟩:=zB h
 obtain⟨r7,h8,h⟩:=zB h
 obtain⟨r9,h10,h⟩:=zB h
 obtain⟨r11,h12,h⟩:=zB h
 obtain⟨r13,h14,h⟩:=zB h
 obtain⟨r15,h16,h⟩:=zB h
 obtain⟨r17,h18,h⟩:=zB h
 obtain⟨r19,h20,h⟩:=zB h
 obtain⟨r21,h22,h⟩:=zB h
 obtain⟨r23,h24,h⟩:=zB h
 obtain⟨r25,h26,h⟩:=zB h
 obtain⟨r27,h28,h⟩:=zB h
 obtain⟨r29,h30,h⟩:=zB h
 obtain⟨r31,h32,h⟩:=zB h
 obtain⟨r33,h34,h⟩:=zB h
 obtain⟨r35,h36,h⟩:=zB h
 obtain⟨r37,h38,h⟩:=zB h
 obtain⟨r39,h40,h⟩:=zB h
 obtain⟨r41,h42,h⟩:=zB h
 obtain⟨r43,h44,h⟩:=zB h
 obtain⟨r45,h46,h⟩:=zB h
 obtain⟨r47,h48,h⟩:=zB h
 obtain⟨r49,h50,h⟩:=zB h
 obtain⟨r51,h52,h⟩:=zB h
 obtain⟨r53,h54,h⟩:=zB h
 obtain⟨r55,h56,h⟩:=zB h
 obtain⟨r57,h58,h⟩:=zB h
 obtain⟨r59,h60,h⟩:=zB h
 obtain⟨r61,h62,h⟩:=zB h
 obtain⟨r63,h64,h⟩:=zB h
 obtain⟨r65,h66,h⟩:=zB h
 obtain⟨r67,h68,h⟩:=zB h
 obtain⟨r69,h70,h⟩:=zB h
 obtain⟨r71,h72,h⟩:=zB h
 obtain⟨r73,h74,h⟩:=zB h
 obtain⟨r75,h76,h⟩:=zB h
 obtain⟨r77,h78,h⟩:=zB h
 obtain⟨r79,h80,h⟩:=zB h
 obtain⟨r81,h82,h⟩:=zB h
 obtain⟨r83,h84,h⟩:=zB h
 obtain⟨r85,h86,h⟩:=zB h
 obtain⟨r87,h88,h⟩:=zB h
 obtain⟨r89,h90,h⟩:=zB h
 obtain⟨r91,h92,h⟩:=zB h
 obtain⟨r93,h94,h⟩:=zB h
 obtain⟨r95,h96,h⟩:=zB h
 obtain⟨r97,h98,h⟩:=zB h
 obtain⟨r99,h100,h⟩:=zB h
 obtain⟨r101,h102,h⟩:=zB h
 obtain⟨r103,h104,h⟩:=zB h
 obtain⟨r105,h106,h⟩:=zB h
 obtain⟨r107,h108,h⟩:=zB h
 obtain⟨r109,h110,h⟩:=zB h
 obtain⟨r111,h112,h⟩:=zB h
 obtain⟨r113,h114,h⟩:=zB h
 obtain⟨r115,h116,h⟩:=zB h
 obtain⟨r117,h118,h⟩:=zB h
 obtain⟨r119,h120,h⟩:=zB h
 obtain⟨r121,h122,h⟩:=zB h
 obtain⟨r123,h124,h⟩:=zB h
 obtain⟨r125,h126,h⟩:=zB h
 obtain⟨r127,h128,h⟩:=zB h
 obtain⟨r129,h130,h⟩:=zB h
 obtain⟨r131,h132,h⟩:=zB h
 obtain⟨r133,h134,h⟩:=zB h
 obtain⟨r135,h136,h⟩:=zB h
 obtain⟨r137,h138,h⟩:=zB h
 obtain⟨r139,h140,h⟩:=zB h
 obtain⟨r141,h142,h⟩:=zB h
 obtain⟨r143,h144,h⟩:=zB h
 obtain⟨r145,h146,h⟩:=zB h
 obtain⟨r147,h148,h⟩:=zB h
 obtain⟨r149,h150,h⟩:=zB h
 obtain⟨r151,h152,h⟩:=zB h
 obtain⟨r153,h154,h⟩:=zB h
 obtain⟨r155,h156,h⟩:=zB h
 obtain⟨r157,h158,h⟩:=zB h
 obtain⟨r159,h160,h⟩:=zB h
 obtain⟨r161,h162,h⟩:=zB h
 obtain⟨r163,h164,h⟩:=zB h
 obtain⟨r165,h166,h⟩:=zB h
 obtain⟨r167,h168,h⟩:=zB h
 obtain⟨r169,h170,h⟩:=zB h
 obtain⟨r171,h172,h⟩:=zB h
 obtain⟨r173,h174,h⟩:=zB h
 obtain⟨r175,h176,h⟩:=zB h
 obtain⟨r177,h178,h⟩:=zB h
 cases h
 exact tF ⟨func14,rfl⟩ 1 [] (oD (dE [r37,r39,r43,r45,r49,r51,r53,r61,r75,r81,r91,r109,r117,r127,(zU.mk r9.kind r9.name r9.type r9.body r9.fam r9.place r9.pars r9.inds r9.level r9.cons [16,17]),r139,r147,r155,r157,r161,r167,(zU.mk 3 (⟨#[112,108,117,115]⟩:ByteArray) r169 r35 0 0 0 0 0 [] []),(zU.mk 3 (⟨#[105,100]⟩:ByteArray) r173 r177 0 0 0 0 0 [] [])])<|oC 0 [] (c33 h178)<|oC 0 [] (c33 h176)<|oC 0 [] (dK h16)<|oC 0 [] (dK h16)<|oC 0 [] (M8 h4)<|oC 0 [] (gF h174)<|oC 0 [] (gF h172)<|oC 0 [] (dK h14)<|oC 0 [] (dK h16)<|oC 1 [] (M8 h4)<|oC 0 [] (gF h170)<|oC 3 [] (gF h42)<|oC 0 [] (c35 h168)<|oC 0 [] (gF h166)<|oC 0 [] (Y8 h160)<|oC 0 [] (gF h164)<|oC 1 [] (Y8 h160)<|oC 0 [] (c35 h162)<|oC 0 [] (Y8 h160)<|oC 1 [] (c28 h158)<|oC 0 [] (M8 h4)<|oC 0 [] (c36 h156)<|oC 0 [] (gF h154)<|oC 0 [] (gF h152)<|oC 0 [] (gF h150)<|oC 1 [] (dK h14)<|oC 0 [] (M8 h4)<|oC 0 [] (M8 h4)<|oC 0 [] (c36 h148)<|oC 0 [] (gF h146)<|oC 0 [] (gF h144)<|oC 0 [] (gF h142)<|oC 1 [] (dK h66)<|oC 0 [] (M8 h4)<|oC 0 [] (M8 h4)<|oC 0 [] (c35 h140)<|oC 0 [] (gF h138)<|oC 0 [] (gF h136)<|oC 0 [] (gF h134)<|oC 0 [] (gF h132)<|oC 0 [] (c31 h130)<|oS 0 (xJ xM [r95,r65])<|oC 0 [] (dK h66)<|oC 0 [] (dK h96)<|oC 0 [] (Y8 h12)<|oC 0 [] (dK h14)<|oC 0 [] (dK h14)<|oC 0 [] (M8 h4)<|oC 1 [] (M8 h4)<|oC 0 [] (c35 h128)<|oC 0 [] (gF h126)<|oC 0 [] (gF h124)<|oC 0 [] (c31 h122)<|oS 0 (xJ xM [r13,r15,r15])<|oC 0 [] (dK h16)<|oC 0 [] (dK h16)<|oC 0 [] (dK h14)<|oC 0 [] (Y8 h120)<|oC 0 [] (dK h16)<|oC 0 [] (M8 h4)<|oC 1 [] (c28 h118)<|oC 0 [] (gF h116)<|oC 0 [] (gF h114)<|oC 0 [] (gF h112)<|oC 0 [] (M8 h4)<|oC 0 [] (dK h14)<|oC 0 [] (dK h16)<|oC 0 [] (M8 h4)<|oC 0 [] (c35 h110)<|oC 0 [] (gF h108)<|oC 0 [] (gF h106)<|oC 0 [] (gF h104)<|oC 0 [] (gF h102)<|oC 0 [] (c31 h100)<|oS 0 (xJ xM [r95,r97])<|oC 0 [] (c31 h98)<|oS 0 (xJ xM [r65])<|oC 0 [] (dK h66)<|oC 0 [] (Y8 h24)<|oC 0 [] (dK h96)<|oC 0 [] (Y8 h84)<|oC 0 [] (c31 h94)<|oS 0 (xJ xM [r65,r13])<|oC 0 [] (dK h14)<|oC 0 [] (dK h66)<|oC 0 [] (Y8 h84)<|oC 1 [] (dK h14)<|oC 0 [] (M8 h4)<|oC 0 [] (c35 h92)<|oC 0 [] (gF h90)<|oC 0 [] (c31 h88)<|oS 0 (xJ xM [r15,r85])<|oC 0 [] (Y8 h86)<|oC 0 [] (dK h16)<|oC 0 [] (Y8 h84)<|oC 0 [] (M8 h4)<|oC 1 [] (c28 h82)<|oC 0 [] (gF h80)<|oC 0 [] (gF h78)<|oC 1 [] (M8 h4)<|oC 0 [] (M8 h4)<|oC 0 [] (c35 h76)<|oC 0 [] (gF h74)<|oC 0 [] (gF h72)<|oC 0 [] (gF h70)<|oC 0 [] (c31 h68)<|oS 0 (xJ xM [r65])<|oC 0 [] (dK h66)<|oC 0 [] (Y8 h56)<|oC 0 [] (c31 h64)<|oS 0 (xJ xM [r13])<|oC 0 [] (dK h14)<|oC 0 [] (Y8 h56)<|oC 0 [] (dK h16)<|oC 0 [] (M8 h4)<|oC 0 [] (c35 h62)<|oC 0 [] (gF h60)<|oC 0 [] (c31 h58)<|oS 0 (xJ xM [r15])<|oC 0 [] (dK h16)<|oC 0 [] (Y8 h56)<|oC 0 [] (M8 h4)<|oC 1 [] (c28 h54)<|oC 0 [] (gF h6)<|oC 0 [] (M8 h4)<|oC 0 [] (M8 h4)<|oC 0 [] (c35 h52)<|oC 0 [] (Y8 h48)<|oC 0 [] (c35 h50)<|oC 0 [] (Y8 h48)<|oC 1 [] (c28 h46)<|oC 0 [] (M8 h4)<|oC 0 [] (c35 h44)<|oC 2 [] (gF h42)<|oC 1 [] (c35 h40)<|oC 1 [] (c28 h38)<|oC 1 [] (M8 h4)<|oC 0 [] (c33 h36)<|oC 0 [] (c33 h34)<|oC 0 [] (c31 h32)<|oS 0 (xJ xM [r21,r15,r29,r13])<|oC 0 [] (dK h14)<|oC 0 [] (c33 h30)<|oC 0 [] (c33 h28)<|oC 0 [] (c31 h26)<|oS 0 (xJ xM [r15])<|oC 0 [] (dK h16)<|oC 2 [] (Y8 h24)<|oC 0 [] (dK h16)<|oC 2 [] (c33 h22)<|oC 3 [] (c34 h20)<|oC 0 [] (c31 h18)<|oS 0 (xJ xM [r13,r15])<|oC 0 [] (dK h16)<|oC 0 [] (dK h14)<|oC 3 [] (Y8 h12)<|oC 1 [] (c28 h10)<|oC 0 [] (gF h8)<|oC 0 [] (gF h6)<|oC 0 [] (M8 h4)<|oC 0 [] (M8 h4)<|oC 1 [] (M8 h4)<|oC 0 [] (Y8 h2) o0),tv,zA,dE _,zA⟩
def e37(qq:Nat)(p0:Int):Option zF:=
 some (zF.mk 1 p0 0 [] (Tm.mk 0 0 []))
theorem c37{qq p0 r}(h:e37 qq p0=some r):Ct 37 [] [ai p0] (vN (zF.mk r.kind_ r.n_ r.at_ r.sub_ r.t_)) [] 0:=⟨by
 unfold e37 at h
 cases h
 exact tF ⟨func37,rfl⟩ 1 [] (oD (dT ([]:zQ))<|oD (zS ([]:List zF)) o0),⟨tv,tv⟩,zA,⟨tv,tv,tv,zS _,tv,tv,dT _,tv⟩,zA⟩
def e15(qq:Nat)  : Option (List zJ):=
 e37 qq 0>>=fun r1=>
 e32 qq 0>>=fun r3=>
 e37 qq 1>>=fun r5=>
 e16 qq 2>>=fun r7=>
 e32 qq 1>>=fun r9=>
 e31 qq r7 [r9]>>=fun r11=>
 some [(zJ.mk [(zF.mk 2 1 0 [] (Tm.mk 0 0 [])),(zF.mk r1.kind_ r1.n_ r1.at_ r1.sub_ r1.t_)] true r3),(zJ.mk [(zF.mk 2 2 0 [(zF.mk r1.kind_ r1.n_ r1.at_ r1.sub_ r1.t_)] (Tm.mk 0 0 [])),(zF.mk r5.kind_ r5.n_ r5.at_ r5.sub_ r5.t_)] true r11)]
theorem c15{qq r}(h:e15 qq  = some r):Ct 15 [] [] (.sl (flat zY r) r.length .no) [] 0:=⟨by
 unfold e15 at h
 obtain⟨r1,h2,h⟩:=zB h
 obtain⟨r3,h4,h⟩:=zB h
 obtain⟨r5,h6,h⟩:=zB h
 obtain⟨r7,h8,h⟩:=zB h
 obtain⟨r9,h10,h⟩:=zB h
 obtain⟨r11,h12,h⟩:=zB h
 cases h
 exact tF ⟨func15,rfl⟩ 1 [] (oD (yC [(zJ.mk [(zF.mk 2 1 0 [] (Tm.mk 0 0 [])),(zF.mk r1.kind_ r1.n_ r1.at_ r1.sub_ r1.t_)] true r3),(zJ.mk [(zF.mk 2 2 0 [(zF.mk r1.kind_ r1.n_ r1.at_ r1.sub_ r1.t_)] (Tm.mk 0 0 [])),(zF.mk r5.kind_ r5.n_ r5.at_ r5.sub_ r5.t_)] true r11)])<|oC 0 [] (c31 h12)<|oS 0 (xJ xM [r9])<|oC 0 [] (dK h10)<|oC 0 [] (Y8 h8)<|oS 0 (xJ sK [(zF.mk 2 2 0 [(zF.mk r1.kind_ r1.n_ r1.at_ r1.sub_ r1.t_)] (Tm.mk 0 0 [])),(zF.mk r5.kind_ r5.n_ r5.at_ r5.sub_ r5.t_)])<|oC 0 [] (c37 h6)<|oS 0 (xJ sK [(zF.mk r1.kind_ r1.n_ r1.at_ r1.sub_ r1.t_)])<|oC 0 [] (c37 h2)<|oC 0 [] (dK h4)<|oS 0 (xJ sK [(zF.mk 2 1 0 [] (Tm.mk 0 0 [])),(zF.mk r1.kind_ r1.n_ r1.at_ r1.sub_ r1.t_)])<|oC 0 [] (c37 h2) o0),tv,zA,yC _,zA⟩
def e6(qq:Nat)  : Option Bool:=
 e14 qq>>=fun r1=>
 e8 qq r1>>=fun r3=>
 match r3 with
 | .inl y38=>
  e9 qq 100>>=fun r39=>
  match r39 with
  | .inl y56=>
   none
  | .inr y41=>
   e15 qq>>=fun r42=>
   e16 qq 1>>=fun r44=>
   lC qq r42 [r44,r44] y41.2.1 y41.2.2>>=fun r46=>
   match r46 with
   | .inl y48=>
    if y48.2==0 then
    if y48.1.row_==0 then
    if y48.1.term_.n==1 then
    some ((y48.1.binds_.length:Int)==1)
    else
    some false
    else
    some false
    else
    some false
   | .inr y52=>
    if y52.2.2.2.2.2==0 then
    if y52.2.1==0 then
    if y52.2.2.2.1==1 then
    some ((y52.1.length:Int)==1)
    else
    some false
    else
    some false
    else
    some false
 | .inr y5=>
  e9 qq 100>>=fun r6=>
  match r6 with
  | .inl y23=>
   none
  | .inr y8=>
   e15 qq>>=fun r9=>
   e16 qq 1>>=fun r11=>
   e10 qq (wF.mk y5.2.1 y5.2.2.2.2.1 y5.2.2.2.2.2 y5.2.2.1 y5.2.2.2.1) r9 [r11,r11] y8.2.1 y8.2.2>>=fun r13=>
   match r13 with
   | .inl y15=>
    if y15.2.1==0 then
    if y15.1.row_==0 then
    if y15.1.term_.n==1 then
    some ((y15.1.binds_.length:Int)==1)
    else
    some false
    else
    some false
    else
    some false
   | .inr y19=>
    if y19.2.2.2.2.2.1==0 then
    if y19.2.1==0 then
    if y19.2.2.2.1==1 then
    some ((y19.1.length:Int)==1)
    else
    some false
    else
    some false
    else
    some false
theorem q6:Qf 6 Tryz.f6:=⟨func6,rfl⟩
theorem c6{qq r}(h:e6 qq  = some r):Ct 6 [] [] (ab r) [] 0:=⟨by
 unfold e6 at h
 obtain⟨r1,h2,h⟩:=zB h
 obtain⟨r3,h4,h⟩:=zB h
 have k:=oC 0 [] (c14 h2) o0
 rcases r3 with y38|y5
 dsimp only at h
 obtain⟨r39,h40,h⟩:=zB h
 have k:=oC 0 [] (c8 h4) k
 rcases r39 with y56|y41
 cases h
 dsimp only at h
 obtain⟨r42,h43,h⟩:=zB h
 obtain⟨r44,h45,h⟩:=zB h
 obtain⟨r46,h47,h⟩:=zB h
 have k:=oS 0 (xJ xM [r44,r44])<|oC 0 [] (Y8 h45)<|oC 0 [] (Y8 h45)<|oC 2 [] (c15 h43)<|oC 2 [] (c9 h40) k
 rcases r46 with y48|y52
 dsimp only at h
 have k:=oC 0 [0] (Q3 h47) k
 obtain⟨h49,h⟩|⟨h49,h⟩:=zL h
 have k:=oB 3 h49 k
 obtain⟨h50,h⟩|⟨h50,h⟩:=zL h
 have k:=oB 1 h50 k
 obtain⟨h51,h⟩|⟨h51,h⟩:=zL h
 cases h
 exact tF q6 3 [] (oB 1 h51 k)
 cases h
 exact tF q6 0 [] (oB 1 h51 k)
 cases h
 exact tF q6 0 [] (oB 1 h50 k)
 cases h
 exact tF q6 0 [] (oB 3 h49 k)
 dsimp only at h
 have k:=oC 0 [0] (Q3 h47) k
 obtain⟨h53,h⟩|⟨h53,h⟩:=zL h
 have k:=oB 3 h53 k
 obtain⟨h54,h⟩|⟨h54,h⟩:=zL h
 have k:=oB 1 h54 k
 obtain⟨h55,h⟩|⟨h55,h⟩:=zL h
 cases h
 exact tF q6 3 [] (oB 1 h55 k)
 cases h
 exact tF q6 0 [] (oB 1 h55 k)
 cases h
 exact tF q6 0 [] (oB 1 h54 k)
 cases h
 exact tF q6 0 [] (oB 3 h53 k)
 dsimp only at h
 obtain⟨r6,h7,h⟩:=zB h
 have k:=oC 0 [] (c8 h4) k
 rcases r6 with y23|y8
 cases h
 dsimp only at h
 obtain⟨r9,h10,h⟩:=zB h
 obtain⟨r11,h12,h⟩:=zB h
 obtain⟨r13,h14,h⟩:=zB h
 have k:=oS 0 (xJ xM [r11,r11])<|oC 0 [] (Y8 h12)<|oC 0 [] (Y8 h12)<|oC 2 [] (c15 h10)<|oC 2 [] (c9 h7) k
 rcases r13 with y15|y19
 dsimp only at h
 have k:=oC 0 [0,1,2] (N2 h14) k
 obtain⟨h16,h⟩|⟨h16,h⟩:=zL h
 have k:=oB 3 h16 k
 obtain⟨h17,h⟩|⟨h17,h⟩:=zL h
 have k:=oB 1 h17 k
 obtain⟨h18,h⟩|⟨h18,h⟩:=zL h
 cases h
 exact tF q6 3 [] (oB 1 h18 k)
 cases h
 exact tF q6 0 [] (oB 1 h18 k)
 cases h
 exact tF q6 0 [] (oB 1 h17 k)
 cases h
 exact tF q6 0 [] (oB 3 h16 k)
 dsimp only at h
 have k:=oC 0 [0,1,2] (N2 h14) k
 obtain⟨h20,h⟩|⟨h20,h⟩:=zL h
 have k:=oB 3 h20 k
 obtain⟨h21,h⟩|⟨h21,h⟩:=zL h
 have k:=oB 1 h21 k
 obtain⟨h22,h⟩|⟨h22,h⟩:=zL h
 cases h
 exact tF q6 3 [] (oB 1 h22 k)
 cases h
 exact tF q6 0 [] (oB 1 h22 k)
 cases h
 exact tF q6 0 [] (oB 1 h21 k)
 cases h
 exact tF q6 0 [] (oB 3 h20 k),tv,zA,tv,zA⟩
def F1:Nat->yU->List zJ->zQ->Int->zQ->Option Bool
 |0,_,_,_,_,_=>none
 |qq+1,p0,p1,p2,v10,v9=>
 if decide (v10<(p2.length:Int))then
 zR p2 v10>>=fun x11=>
 e7 qq p0 x11 200>>=fun r13=>
 if r13.2.2 != 0 then
 e6 qq>>=fun r16=>
 some r16
 else
 xQ 40 v9 [r13.1]>>=fun l18=>
 F1 qq p0 p1 p2 (xL (v10+1)) l18
 else
 e8 qq p0>>=fun r20=>
 match r20 with
 | .inl y235=>
  e9 qq 2000>>=fun r236=>
  match r236 with
  | .inl y343=>
   none
  | .inr y238=>
   lC qq p1 p2 y238.2.1 y238.2.2>>=fun r239=>
   match r239 with
   | .inl y241=>
    lC qq p1 v9 y238.2.1 y238.2.2>>=fun r242=>
    match r242 with
    | .inl y244=>
     if y241.2 != 0 then
     e6 qq>>=fun r246=>
     some r246
     else
     none
    | .inr y268=>
     none
   | .inr y292=>
    none
 | .inr y22=>
  e9 qq 2000>>=fun r23=>
  match r23 with
  | .inl y130=>
   none
  | .inr y25=>
   e10 qq (wF.mk y22.2.1 y22.2.2.2.2.1 y22.2.2.2.2.2 y22.2.2.1 y22.2.2.2.1) p1 p2 y25.2.1 y25.2.2>>=fun r26=>
   match r26 with
   | .inl y28=>
    e10 qq (wF.mk y22.2.1 y22.2.2.2.2.1 y22.2.2.2.2.2 y22.2.2.1 y22.2.2.2.1) p1 v9 y28.2.2.1 y28.2.2.2>>=fun r29=>
    match r29 with
    | .inl y31=>
     if y28.2.1 != 0 then
     e6 qq>>=fun r33=>
     some r33
     else
     if y31.2.1 != 0 then
     if y31.2.1==8 then
     e6 qq>>=fun r37=>
     some r37
     else
     if y31.2.1==2 then
     e6 qq>>=fun r40=>
     some r40
     else
     none
     else
     e11 qq p0 y28.1.term_ y31.1.term_ 2000>>=fun r42=>
     if r42.1 then
     if y28.1.row_==y31.1.row_ then
     if r42.2.2 != 0 then
     e6 qq>>=fun r47=>
     some r47
     else
     e6 qq>>=fun r49=>
     some r49
     else
     none
     else
     if y28.1.row_==y31.1.row_ then
     if r42.2.2 != 0 then
     e6 qq>>=fun r53=>
     some r53
     else
     none
     else
     none
    | .inr y55=>
     if y28.2.1 != 0 then
     e6 qq>>=fun r57=>
     some r57
     else
     if y55.2.2.2.2.2.1 != 0 then
     if y55.2.2.2.2.2.1==8 then
     e6 qq>>=fun r61=>
     some r61
     else
     if y55.2.2.2.2.2.1==2 then
     e6 qq>>=fun r64=>
     some r64
     else
     none
     else
     e11 qq p0 y28.1.term_ (Tm.mk y55.2.2.1 y55.2.2.2.1 y55.2.2.2.2.1) 2000>>=fun r66=>
     if r66.1 then
     if y28.1.row_==y55.2.1 then
     if r66.2.2 != 0 then
     e6 qq>>=fun r71=>
     some r71
     else
     e6 qq>>=fun r73=>
     some r73
     else
     none
     else
     if y28.1.row_==y55.2.1 then
     if r66.2.2 != 0 then
     e6 qq>>=fun r77=>
     some r77
     else
     none
     else
     none
   | .inr y79=>
    e10 qq (wF.mk y22.2.1 y22.2.2.2.2.1 y22.2.2.2.2.2 y22.2.2.1 y22.2.2.2.1) p1 v9 y79.2.2.2.2.2.2.1 y79.2.2.2.2.2.2.2>>=fun r80=>
    match r80 with
    | .inl y82=>
     if y79.2.2.2.2.2.1 != 0 then
     e6 qq>>=fun r84=>
     some r84
     else
     if y82.2.1 != 0 then
     if y82.2.1==8 then
     e6 qq>>=fun r88=>
     some r88
     else
     if y82.2.1==2 then
     e6 qq>>=fun r91=>
     some r91
     else
     none
     else
     e11 qq p0 (Tm.mk y79.2.2.1 y79.2.2.2.1 y79.2.2.2.2.1) y82.1.term_ 2000>>=fun r93=>
     if r93.1 then
     if y79.2.1==y82.1.row_ then
     if r93.2.2 != 0 then
     e6 qq>>=fun r98=>
     some r98
     else
     e6 qq>>=fun r100=>
     some r100
     else
     none
     else
     if y79.2.1==y82.1.row_ then
     if r93.2.2 != 0 then
     e6 qq>>=fun r104=>
     some r104
     else
     none
     else
     none
    | .inr y106=>
     if y79.2.2.2.2.2.1 != 0 then
     e6 qq>>=fun r108=>
     some r108
     else
     if y106.2.2.2.2.2.1 != 0 then
     if y106.2.2.2.2.2.1==8 then
     e6 qq>>=fun r112=>
     some r112
     else
     if y106.2.2.2.2.2.1==2 then
     e6 qq>>=fun r115=>
     some r115
     else
     none
     else
     e11 qq p0 (Tm.mk y79.2.2.1 y79.2.2.2.1 y79.2.2.2.2.1) (Tm.mk y106.2.2.1 y106.2.2.2.1 y106.2.2.2.2.1) 2000>>=fun r117=>
     if r117.1 then
     if y79.2.1==y106.2.1 then
     if r117.2.2 != 0 then
     e6 qq>>=fun r122=>
     some r122
     else
     e6 qq>>=fun r124=>
     some r124
     else
     none
     else
     if y79.2.1==y106.2.1 then
     if r117.2.2 != 0 then
     e6 qq>>=fun r128=>
     some r128
     else
     none
     else
     none
def e3(qq:Nat)(p0:yU)(p1:List zJ)(p2:zQ):Option Bool:=
 e4 qq p1>>=fun r1=>
 if r1.2 then
 if decide ((p0.length:Int)>60)then
 e6 qq>>=fun r5=>
 some r5
 else
 e5 qq p2>>=fun r7=>
 if r7 then
 F1 qq p0 p1 p2 0 []
 else
 e6 qq>>=fun r10=>
 some r10
 else
 if decide ((p0.length:Int)>60)then
 e6 qq>>=fun r13=>
 some r13
 else
 e6 qq>>=fun r15=>
 some r15
theorem q3:Qf 3 Tryz.f3:=⟨func3,rfl⟩
theorem zXG:∀qq:Nat,(∀ {p0 p1 p2 v10 v9 r},F1 qq p0 p1 p2 v10 v9=some r->(∀j,dL 0 (pt 65461 Tryz.f3) (sp j 136 0 [(0,zO yZ p0 .no),(1,zO zY p1 .no),(2,zO zD p2 .no),(9,zO zD v9 (.st 0 3)),(10,ai v10)]) (⟨[],0,[0],1,[]⟩) (fQ 0 (nQ 0 Tryz.f3 (ab r) [] 0) [.blk 0,.seq (pt 1023 Tryz.f3)]))):=by
 intro qq
 induction qq with
 |zero=>
  exact fun h=>nn h
 |succ qq ih=>
  intro p0 p1 p2 v10 v9 r h
  rw[F1]at h
  obtain⟨h10,h⟩|⟨h10,h⟩:=zL h
  obtain⟨x11,h12,h⟩:=zB h
  obtain⟨r13,h14,h⟩:=zB h
  have k:=oC 1 [] (c7 h14)<|oA 0 (wN (o:=.no) h12)<|oB 1 h10 o0
  obtain⟨h15,h⟩|⟨h15,h⟩:=zL h
  obtain⟨r16,h17,h⟩:=zB h
  obtain rfl:=sj h
  exact fun j=>lF 0 [] (oC 0 [] (c6 h17)<|oB 4 h15 k)
  obtain⟨l18,h19,h⟩:=zB h
  exact fun j=>lH 1 [] [] [1] [0,1,2,9,10] (oD (dT l18)<|oD (dT p2)<|oD (yC p1)<|oD (dE p0)<|oP 0 (sE h19 (by simp))<|oS 1 (xJ xM [r13.1])<|oB 4 h15 k) (ih h)
  obtain⟨r20,h21,h⟩:=zB h
  have k:=oB 1 h10 o0
  rcases r20 with y235|y22
  dsimp only at h
  obtain⟨r236,h237,h⟩:=zB h
  have k:=oC 0 [] (c8 h21) k
  rcases r236 with y343|y238
  cases h
  dsimp only at h
  obtain⟨r239,h240,h⟩:=zB h
  have k:=oC 2 [] (c9 h237) k
  rcases r239 with y241|y292
  dsimp only at h
  obtain⟨r242,h243,h⟩:=zB h
  have k:=oC 2 [0] (Q3 h240) k
  rcases r242 with y244|y268
  dsimp only at h
  have k:=oC 3 [0] (Q3 h243) k
  obtain⟨h245,h⟩:=O0 h
  obtain⟨r246,h247,h⟩:=zB h
  obtain rfl:=sj h
  exact fun j=>lF 0 [] (oC 0 [] (c6 h247)<|oB 0 h245<|oB 3 h245 k)
  cases h
  cases h
  dsimp only at h
  obtain⟨r23,h24,h⟩:=zB h
  have k:=oC 0 [] (c8 h21) k
  rcases r23 with y130|y25
  cases h
  dsimp only at h
  obtain⟨r26,h27,h⟩:=zB h
  have k:=oC 2 [] (c9 h24) k
  rcases r26 with y28|y79
  dsimp only at h
  obtain⟨r29,h30,h⟩:=zB h
  have k:=oC 2 [0,1,2] (N2 h27) k
  rcases r29 with y31|y55
  dsimp only at h
  have k:=oC 3 [0,1,2] (N2 h30) k
  obtain⟨h32,h⟩|⟨h32,h⟩:=zL h
  obtain⟨r33,h34,h⟩:=zB h
  obtain rfl:=sj h
  exact fun j=>lF 0 [] (oC 0 [] (c6 h34)<|oB 0 h32<|oB 3 h32 k)
  have k:=oB 3 h32 k
  obtain⟨h35,h⟩|⟨h35,h⟩:=zL h
  have k:=oB 0 h32<|oB 0 h35 k
  obtain⟨h36,h⟩|⟨h36,h⟩:=zL h
  obtain⟨r37,h38,h⟩:=zB h
  obtain rfl:=sj h
  exact fun j=>lF 0 [] (oC 0 [] (c6 h38)<|oB 0 h36 k)
  have k:=oB 0 h36 k
  obtain⟨h39,h⟩:=O0 h
  obtain⟨r40,h41,h⟩:=zB h
  obtain rfl:=sj h
  exact fun j=>lF 0 [] (oC 0 [] (c6 h41)<|oB 0 h39 k)
  obtain⟨r42,h43,h⟩:=zB h
  have k:=oC 2 [] (w6 h43)<|oB 0 h35 k
  obtain⟨h44,h⟩|⟨h44,h⟩:=zL h
  have k:=oB 0 h44 k
  obtain⟨h45,h⟩:=O0 h
  have k:=oB 4 h45 k
  obtain⟨h46,h⟩|⟨h46,h⟩:=zL h
  obtain⟨r47,h48,h⟩:=zB h
  obtain rfl:=sj h
  exact fun j=>lF 0 [] (oC 0 [] (c6 h48)<|oB 0 h46 k)
  obtain⟨r49,h50,h⟩:=zB h
  obtain rfl:=sj h
  exact fun j=>lF 0 [] (oC 0 [] (c6 h50)<|oB 0 h46 k)
  have k:=oB 0 h44 k
  obtain⟨h51,h⟩:=O0 h
  have k:=oB 4 h51 k
  obtain⟨h52,h⟩:=O0 h
  obtain⟨r53,h54,h⟩:=zB h
  obtain rfl:=sj h
  exact fun j=>lF 0 [] (oC 0 [] (c6 h54)<|oB 0 h52 k)
  dsimp only at h
  have k:=oC 3 [0,1,2] (N2 h30) k
  obtain⟨h56,h⟩|⟨h56,h⟩:=zL h
  obtain⟨r57,h58,h⟩:=zB h
  obtain rfl:=sj h
  exact fun j=>lF 0 [] (oC 0 [] (c6 h58)<|oB 0 h56<|oB 3 h56 k)
  have k:=oB 3 h56 k
  obtain⟨h59,h⟩|⟨h59,h⟩:=zL h
  have k:=oB 0 h56<|oB 0 h59 k
  obtain⟨h60,h⟩|⟨h60,h⟩:=zL h
  obtain⟨r61,h62,h⟩:=zB h
  obtain rfl:=sj h
  exact fun j=>lF 0 [] (oC 0 [] (c6 h62)<|oB 0 h60 k)
  have k:=oB 0 h60 k
  obtain⟨h63,h⟩:=O0 h
  obtain⟨r64,h65,h⟩:=zB h
  obtain rfl:=sj h
  exact fun j=>lF 0 [] (oC 0 [] (c6 h65)<|oB 0 h63 k)
  obtain⟨r66,h67,h⟩:=zB h
  have k:=oC 2 [] (w6 h67)<|oB 0 h59 k
  obtain⟨h68,h⟩|⟨h68,h⟩:=zL h
  have k:=oB 0 h68 k
  obtain⟨h69,h⟩:=O0 h
  have k:=oB 4 h69 k
  obtain⟨h70,h⟩|⟨h70,h⟩:=zL h
  obtain⟨r71,h72,h⟩:=zB h
  obtain rfl:=sj h
  exact fun j=>lF 0 [] (oC 0 [] (c6 h72)<|oB 0 h70 k)
  obtain⟨r73,h74,h⟩:=zB h
  obtain rfl:=sj h
  exact fun j=>lF 0 [] (oC 0 [] (c6 h74)<|oB 0 h70 k)
  have k:=oB 0 h68 k
  obtain⟨h75,h⟩:=O0 h
  have k:=oB 4 h75 k
  obtain⟨h76,h⟩:=O0 h
  obtain⟨r77,h78,h⟩:=zB h
  obtain rfl:=sj h
  exact fun j=>lF 0 [] (oC 0 [] (c6 h78)<|oB 0 h76 k)
  dsimp only at h
  obtain⟨r80,h81,h⟩:=zB h
  have k:=oC 2 [0,1,2] (N2 h27) k
  rcases r80 with y82|y106
  dsimp only at h
  have k:=oC 3 [0,1,2] (N2 h81) k
  obtain⟨h83,h⟩|⟨h83,h⟩:=zL h
  obtain⟨r84,h85,h⟩:=zB h
  obtain rfl:=sj h
  exact fun j=>lF 0 [] (oC 0 [] (c6 h85)<|oB 0 h83<|oB 3 h83 k)
  have k:=oB 3 h83 k
  obtain⟨h86,h⟩|⟨h86,h⟩:=zL h
  have k:=oB 0 h83<|oB 0 h86 k
  obtain⟨h87,h⟩|⟨h87,h⟩:=zL h
  obtain⟨r88,h89,h⟩:=zB h
  obtain rfl:=sj h
  exact fun j=>lF 0 [] (oC 0 [] (c6 h89)<|oB 0 h87 k)
  have k:=oB 0 h87 k
  obtain⟨h90,h⟩:=O0 h
  obtain⟨r91,h92,h⟩:=zB h
  obtain rfl:=sj h
  exact fun j=>lF 0 [] (oC 0 [] (c6 h92)<|oB 0 h90 k)
  obtain⟨r93,h94,h⟩:=zB h
  have k:=oC 2 [] (w6 h94)<|oB 0 h86 k
  obtain⟨h95,h⟩|⟨h95,h⟩:=zL h
  have k:=oB 0 h95 k
  obtain⟨h96,h⟩:=O0 h
  have k:=oB 4 h96 k
  obtain⟨h97,h⟩|⟨h97,h⟩:=zL h
  obtain⟨r98,h99,h⟩:=zB h
  obtain rfl:=sj h
  exact fun j=>lF 0 [] (oC 0 [] (c6 h99)<|oB 0 h97 k)
  obtain⟨r100,h101,h⟩:=zB h
  obtain rfl:=sj h
  exact fun j=>lF 0 [] (oC 0 [] (c6 h101)<|oB 0 h97 k)
  have k:=oB 0 h95 k
  obtain⟨h102,h⟩:=O0 h
  have k:=oB 4 h102 k
  obtain⟨h103,h⟩:=O0 h
  obtain⟨r104,h105,h⟩:=zB h
  obtain rfl:=sj h
  exact fun j=>lF 0 [] (oC 0 [] (c6 h105)<|oB 0 h103 k)
  dsimp only at h
  have k:=oC 3 [0,1,2] (N2 h81) k
  obtain⟨h107,h⟩|⟨h107,h⟩:=zL h
  obtain⟨r108,h109,h⟩:=zB h
  obtain rfl:=sj h
  exact fun j=>lF 0 [] (oC 0 [] (c6 h109)<|oB 0 h107<|oB 3 h107 k)
  have k:=oB 3 h107 k
  obtain⟨h110,h⟩|⟨h110,h⟩:=zL h
  have k:=oB 0 h107<|oB 0 h110 k
  obtain⟨h111,h⟩|⟨h111,h⟩:=zL h
  obtain⟨r112,h113,h⟩:=zB h
  obtain rfl:=sj h
  exact fun j=>lF 0 [] (oC 0 [] (c6 h113)<|oB 0 h111 k)
  have k:=oB 0 h111 k
  obtain⟨h114,h⟩:=O0 h
  obtain⟨r115,h116,h⟩:=zB h
  obtain rfl:=sj h
  exact fun j=>lF 0 [] (oC 0 [] (c6 h116)<|oB 0 h114 k)
  obtain⟨r117,h118,h⟩:=zB h
  have k:=oC 2 [] (w6 h118)<|oB 0 h110 k
  obtain⟨h119,h⟩|⟨h119,h⟩:=zL h
  have k:=oB 0 h119 k
  obtain⟨h120,h⟩:=O0 h
  have k:=oB 4 h120 k
  obtain⟨h121,h⟩|⟨h121,h⟩:=zL h
  obtain⟨r122,h123,h⟩:=zB h
  obtain rfl:=sj h
  exact fun j=>lF 0 [] (oC 0 [] (c6 h123)<|oB 0 h121 k)
  obtain⟨r124,h125,h⟩:=zB h
  obtain rfl:=sj h
  exact fun j=>lF 0 [] (oC 0 [] (c6 h125)<|oB 0 h121 k)
  have k:=oB 0 h119 k
  obtain⟨h126,h⟩:=O0 h
  have k:=oB 4 h126 k
  obtain⟨h127,h⟩:=O0 h
  obtain⟨r128,h129,h⟩:=zB h
  obtain rfl:=sj h
  exact fun j=>lF 0 [] (oC 0 [] (c6 h129)<|oB 0 h127 k)
theorem c3{qq p0 p1 p2 r}(h:e3 qq p0 p1 p2=some r):Ct 3 [] [zO yZ p0 .no,zO zY p1 .no,zO zD p2 .no] (ab r) [] 0:=⟨by
 unfold e3 at h
 obtain⟨r1,h2,h⟩:=zB h
 have k:=oC 0 [] (c4 h2) o0
 obtain⟨h3,h⟩|⟨h3,h⟩:=zL h
 have k:=oB 1 h3 k
 obtain⟨h4,h⟩|⟨h4,h⟩:=zL h
 obtain⟨r5,h6,h⟩:=zB h
 obtain rfl:=sj h
 exact tF q3 0 [] (oC 0 [] (c6 h6)<|oB 1 h4 k)
 obtain⟨r7,h8,h⟩:=zB h
 have k:=oB 1 h4 k
 obtain⟨h9,h⟩|⟨h9,h⟩:=zL h
 exact tH q3 2 [(none,9,3)] [] [0] [0,1,2,9,10] (oD (dT ([]:zQ))<|oD (dT p2)<|oD (yC p1)<|oD (dE p0)<|oK 1 [] h9 (c5 h8) k) (zXG _ h)
 obtain⟨r10,h11,h⟩:=zB h
 obtain rfl:=sj h
 exact tF q3 0 [] (oC 1 [] (c6 h11)<|oK 1 [] h9 (c5 h8) k)
 have k:=oB 1 h3 k
 obtain⟨h12,h⟩|⟨h12,h⟩:=zL h
 obtain⟨r13,h14,h⟩:=zB h
 obtain rfl:=sj h
 exact tF q3 0 [] (oC 0 [] (c6 h14)<|oB 1 h12 k)
 obtain⟨r15,h16,h⟩:=zB h
 obtain rfl:=sj h
 exact tF q3 0 [] (oC 1 [] (c6 h16)<|oB 1 h12 k),⟨⟨tv,dE _⟩,⟨tv,yC _⟩,⟨tv,dT _⟩,tv⟩,zA,tv,zA⟩
theorem zVr(q:Nat):e6 (q+2000)=some true:=by kernel_rfl
theorem kO:zG (fun q=>e6 q) true:=⟨2000,fun q hq=>by
 obtain⟨k,rfl⟩:∃k,q=k+2000:=⟨q-2000,by omega⟩
 exact zVr k⟩
theorem zEn(l:List Tm):zM (fun q=>e5 q l) fun b=>b=true->l.length≤24:=by
 simp only[e5]
 refine zM.ite (fun _=>zM.ret fun h=>nomatch h) fun h=>?_
 have h':=of_decide_eq_false h
 have key:∀(r:List Tm) (v:Nat),l.drop v=r->zM (fun q=>Y7 q l (v:Int)) fun _=>True:=by
  intro r
  induction r with
  |nil=>
   intro v hd
   refine zM.succ ?_
   simp only[Y7]
   refine zM.ite (fun h=>?_) fun _=>zM.ret trivial
   rw[drop_nil hd]at h;cases h
  |cons x r ih=>
   intro v hd
   have hlt:=yY hd
   refine zM.succ ?_
   simp only[Y7]
   refine zM.ite (fun _=>zM.pure (yD hd) (zM.bind (P:=fun _=>True) ((zDA x).tot trivial) fun _ _=>zM.ite (fun _=>zM.ret trivial) fun _=>?_)) fun h=>?_
   ·rw[yE v (by omega)]
    exact ih (v+1) (zZ hd)
   ·rw[yK hd]at h;cases h
 exact(key l 0 rfl).mono fun _ _ _=>by omega
theorem zKe{l r:List Tm}{v:Nat}{x:Tm}(h:l.drop v=x::r):l.take (v+1)=l.take v++[x]:=by
 have hx:l[v]? = some x:=by
  have h0:=congrArg (fun m:List Tm=>m[0]?) h
  simpa[List.getElem?_drop]using h0
 rw[List.take_add_one,hx];rfl
theorem zAn{P:Tm->Tm->Prop}:∀ {a b:List Tm} {x y:Tm},yI P a b->P x y->yI P (a++[x]) (b++[y])
 | [],[],_,_,_,h=>⟨h,trivial⟩
 | [],_::_,_,_,h,_=>h.elim
 |_::_,[],_,_,h,_=>h.elim
 |_::_,_::_,_,_,⟨h1,h2⟩,h=>⟨h1,zAn h2 h⟩
theorem zGy{l:List zU}:∀ {a b:List Tm},yI (NmS l) a b->vK b
 | [],[],_=>fun _ h=>nomatch h
 | [],_::_,h=>h.elim
 |_::_,[],h=>h.elim
 |_::_,_::_,⟨⟨_,_,h1⟩,h2⟩=>fun t ht=>by
  rcases List.mem_cons.1 ht with rfl|ht
  ·exact zX h1
  ·exact zGy h2 t ht
theorem zAm(cs:List zJ)(as0:List Tm)(L U:Int):zG (fun q=>lC q cs as0 L U) (.inl (yL.mk 0 [] (Tm.mk 0 0 []),5)):=by
 simp only[lC,Q1]
 exact zG.pure rfl (zG.ifF rfl zG.ret)
theorem aw:zG (fun q=>e6 q>>=fun r=>some r) true:=kO.bind zG.ret
theorem zKd(l:List zU)(hn:zG (fun q=>e8 q l) (zAY l false))(cs:List zJ)(as0:List Tm):zG (fun q=>F1 q l cs as0 0 []) true:=by
 refine zG.succ ?_
 simp only[F1]
 cases as0 with
 |cons x r=>
  refine zG.ifT (yK (v:=0) rfl) (zG.pure (yD (v:=0) rfl) ((zVz l hn x 200).bind (zG.ifT (by decide) aw)))
 |nil=>
  refine zG.ifF (drop_nil (v:=0) rfl) (hn.bind ?_)
  unfold zAY
  rw[if_neg (by decide)]
  dsimp only
  refine(O9 2000 (by omega) (by omega)).bind ?_
  dsimp only
  refine(zAm cs [] 2000 0).bind ?_
  dsimp only
  refine(zAm cs [] 2000 0).bind ?_
  dsimp only
  exact zG.ifT (by decide) aw
section
variable {N:ByteArray->Bool} {l:List zU} (hE:xA N l) (hF:zG (fun q=>e42 q l) true) (hn:zG (fun q=>e8 q l) (zAY l true)) (he:∀e∈l,hJ e) (hc:∀e∈l,ECl e) (hll:l.length≤60)
include hE hn he hc hll
theorem zRQ{x y:Tm}(hx:x.Ok)(hy:y.Ok)(hj:Jn l x y):∃c:Bool×Int×Int,zG (fun q=>e11 q l x y 2000) c∧(c.2.2≠0∨c.1=true):=by
 obtain⟨c,h1,h2⟩:=zRL l hn hE he (by omega) hc x y hx hy 2000 (by omega) (by omega)
 refine⟨c,h1,?_⟩
 by_cases h0:c.2.2=0
 ·obtain⟨k,hk⟩:=h2 h0
  exact .inr (zXn hE hj hk)
 ·exact .inl h0
include hF
theorem zGx(cs:List zJ)(hcs:cs.length≤17592186044416)(ho:∀c∈cs,okC c∧tE c.pats_≤300)(as0:List Tm)(ha:vK as0)(hl:as0.length≤24):∀(r:List Tm) (v:Nat) (acc:List Tm),as0.drop v=r->acc.length=v->yI (NmS l) (as0.take v) acc->zG (fun q=>F1 q l cs as0 (v:Int) acc) true:=by
 intro r
 induction r with
 |cons x r ih=>
  intro v acc hd hv hA
  have hlt:=yY hd
  have hx:=ha x (List.mem_of_mem_drop (by rw[hd];simp))
  refine zG.succ ?_
  simp only[F1]
  refine zG.ifT (yK hd) (zG.pure (yD hd) ?_)
  rcases zXB l hn hE he x hx 200 (by omega) (by omega)with⟨y,k,h1,h2,-,-,h3⟩|⟨r',h3,h4,-⟩
  ·refine h3.bind (zG.ifF (by simp) (zG.pure (xB (by simp;omega)) ?_))
   rw[yE v (by omega)]
   refine ih (v+1) _ (zZ hd) (by simp[hv]) ?_
   rw[zKe hd]
   exact zAn hA ⟨k,h1,h2⟩
  ·exact h3.bind (zG.ifT (by simpa using h4) aw)
 |nil=>
  intro v acc hd hv hA
  have hA':yI (NmS l) as0 acc:=by
   rwa[List.take_of_length_le (List.drop_eq_nil_iff.1 hd)]at hA
  refine zG.succ ?_
  simp only[F1]
  refine zG.ifF (drop_nil hd) (hn.bind ?_)
  unfold zAY
  rw[if_pos rfl]
  dsimp only
  refine(O9 2000 (by omega) (by omega)).bind ?_
  dsimp only
  obtain⟨bc,hap⟩:=zKg hE hF (by omega) he hc as0.length (by omega) cs hcs ho
  obtain⟨r1,h1,h2⟩:=hap as0 ha rfl 2000 0 (by omega) (by omega) (by omega)
  have hp:=zVv h1 fun q=>zPp q (yX l) cs as0 ⟨by omega,by omega,by omega⟩
  have hC:∀ {x y:Tm},x.Ok->y.Ok->Jn l x y->∃c:Bool×Int×Int,zG (fun q=>e11 q l x y 2000) c∧(c.2.2≠0∨c.1=true):=fun a b c=>zRQ hE hn he hc hll a b c
  refine zG.bind h1 ?_
  cases r1 with
  |inl y=>
   have hp:E8 y.2.2.1 y.2.2.2:=hp
   obtain⟨r2,g1,g2⟩:=hap acc (zGy hA') hA'.len.symm y.2.2.1 y.2.2.2 hp.1 hp.2.1 hp.2.2
   dsimp only
   refine zG.bind g1 ?_
   cases r2 with
   |inl z=>exact eX kO (fun h=>(vU hE h2 g2 hA' h).1) (fun h h'=>((vU hE h2 g2 hA' h).2 h').1) fun h h'=>hC ((vU hE h2 g2 hA' h).2 h').2.2.1 ((vU hE h2 g2 hA' h).2 h').2.2.2 ((vU hE h2 g2 hA' h).2 h').2.1
   |inr z=>exact eX kO (fun h=>(vU hE h2 g2 hA' h).1) (fun h h'=>((vU hE h2 g2 hA' h).2 h').1) fun h h'=>hC ((vU hE h2 g2 hA' h).2 h').2.2.1 ((vU hE h2 g2 hA' h).2 h').2.2.2 ((vU hE h2 g2 hA' h).2 h').2.1
  |inr y=>
   have hp:E8 y.2.2.2.2.2.2.1 y.2.2.2.2.2.2.2:=hp
   obtain⟨r2,g1,g2⟩:=hap acc (zGy hA') hA'.len.symm y.2.2.2.2.2.2.1 y.2.2.2.2.2.2.2 hp.1 hp.2.1 hp.2.2
   dsimp only
   refine zG.bind g1 ?_
   cases r2 with
   |inl z=>exact eX kO (fun h=>(vU hE h2 g2 hA' h).1) (fun h h'=>((vU hE h2 g2 hA' h).2 h').1) fun h h'=>hC ((vU hE h2 g2 hA' h).2 h').2.2.1 ((vU hE h2 g2 hA' h).2 h').2.2.2 ((vU hE h2 g2 hA' h).2 h').2.1
   |inr z=>exact eX kO (fun h=>(vU hE h2 g2 hA' h).1) (fun h h'=>((vU hE h2 g2 hA' h).2 h').1) fun h h'=>hC ((vU hE h2 g2 hA' h).2 h').2.2.1 ((vU hE h2 g2 hA' h).2 h').2.2.2 ((vU hE h2 g2 hA' h).2 h').2.1
end
theorem Y9(l:List zU)(cs:List zJ)(as0:List Tm)(he:∀e∈l,hJ e)(hc:∀e∈l,ECl e)(hcs:cs.length≤17592186044416)(ho:∀c∈cs,okC c)(ha:vK as0):zG (fun q=>e3 q l cs as0) true:=by
 simp only[e3]
 obtain⟨r1,h,hr⟩:=zOH cs hcs ho
 refine h.bind (zG.iff (fun hp=>?_) fun _=>zG.iff (fun _=>aw) fun _=>aw)
 have hnd:=hr hp
 refine zG.iff (fun _=>aw) fun hl=>?_
 have hll:l.length≤60:=by have:=of_decide_eq_false hl;omega
 obtain⟨bb,hb,hbl⟩:=zEn as0
 refine hb.bind (zG.iff (fun hs=>?_) fun _=>aw)
 have hla:=hbl hs
 obtain⟨N,hN⟩:=zMi
 obtain⟨b,hF,hA,hn⟩:=zQB N hN l (by omega) he hc
 cases b with
 |false=>exact zKd l hn cs as0
 |true=>exact zGx (hA rfl) hF hn he hc hll cs hcs (fun c hc=>⟨ho c hc,hnd c hc⟩) as0 ha hla as0 0 [] rfl rfl trivial
theorem zVq{l:List zU}(h:∀e∈l,RdE e):∀e∈l,hJ e:=fun e he=>⟨(h e he).1,(h e he).2.1,Nat.le_trans (h e he).2.2.1 (by decide),Nat.le_trans (h e he).2.2.2 (by decide)⟩
theorem zVp{l:List zU}(h:∀e∈l,RdE e):∀e∈l,ECl e:=fun e he=>⟨(h e he).2.2.1,(h e he).2.2.2⟩
theorem zPn:∀l:List Tm,mN l->vK l
 | [],_=>vK.nil
 |t::l,h=>fun x hx=>by
  rw[mN]at h
  rcases List.mem_cons.1 hx with rfl|hx
  ·exact h.1
  ·exact zPn l h.2 x hx
theorem Z0(l:List zU)(cs:List zJ)(as0:List Tm)(w0:∀e∈l,RdE e)(w1:(∀e∈cs,okC e)∧cs.length≤17592186044416)(w2:mN as0∧as0.length<9223372036854775808):CT prog 3 [] [.sl (flat yZ l) l.length .no,.sl (flat zY cs) cs.length .no,.sl (flat zD as0) as0.length .no] (ab true) [] 0:=by
 obtain⟨q,hq⟩:=(Y9 l cs as0 (zVq w0) (zVp w0) w1.2 w1.1 (zPn as0 w2.1)).at
 exact c3 hq
end Go.Proofs.YtbpkpdnneffccaaGreat
