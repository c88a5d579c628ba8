/- Parts of the proof that the law returns true: walks of the functions, plain laws. -/
import Derived.Test.YthncchbcdpbgaaaGreatAbB5
set_option linter.unusedVariables false
set_option linter.unusedSimpArgs false
set_option linter.unusedSectionVars false
namespace Go.Proofs.YthncchbcdpbgaaaGreat
open Go Go.Ab Go.Proofs.Tryz
def sH:Nat->yD->Int->Int->ByteArray->Int->Int->ByteArray->Int->yI->Int->Int->Int->Int->yI->Int->Int->Int->Option (Int×Int×Int×Int)|0,_,_,_,_,_,_,_,_,_,_,_,_,_,_,_,_,_=>none|g+1,f,m,p,q,s,t,u,v,a,B,i,b,c,x73,A,d,e=>if decide (A<(x73.length:Int))then zL x73 A>>=λx76=>zRM g x76 B>>=λr78=>if r78 then tR g f m p q s t u v b c a d e 9 i>>=λr81=>sH g f m p q s t u v a B i b c x73 (yB (A+1)) r81.2.1 r81.2.2 else sH g f m p q s t u v a B i b c x73 (yB (A+1)) d e else some (d,e,b,c)
def sI:Nat->yD->Int->Int->ByteArray->Int->Int->ByteArray->Int->yI->Int->Int->yI->yI->Int->Int->Int->Int->Int->Int->Int->Int->yI->Option (Int×Int×Int×Int)
 |0,_,_,_,_,_,_,_,_,_,_,_,_,_,_,_,_,_,_,_,_,_,_=>none|g+1,f,m,p,q,s,t,u,v,a,B,i,D,E,F,C,d,e,b,c,w,y,z=>if decide (C<F)then zL E C>>=λx21=>uL a 0 (a.length:Int)>>=λx23=>uL D 0 C>>=λx25=>yR 40 x23 x25>>=λl27=>bR g f m p q s t u v b c a d e l27>>=λr30=>match r30 with
 |Sum.inl y32=>e98 g (xT.mk y32.2.2.2.2.2.1 y32.2.2.2.2.2.2.2.2.1 y32.2.2.2.2.2.2.2.2.2 y32.2.2.2.2.2.2.1 y32.2.2.2.2.2.2.2.1) b c y32.1 y32.2.1 y32.2.2.1 x21>>=λr33=>if r33.2.1==0 then zL f B>>=λx36=>if decide (r33.1>x36.level)then tR g f m p q s t u v r33.2.2.1 r33.2.2.2 a y32.2.2.2.1 y32.2.2.2.2.1 7 i>>=λr39=>if r39.1 then some (r39.2.1,r39.2.2,r33.2.2.1,r33.2.2.2)else sI g f m p q s t u v a B i D E F (yB (C+1)) r39.2.1 r39.2.2 r33.2.2.1 r33.2.2.2 w y z else tR g f m p q s t u v r33.2.2.1 r33.2.2.2 a y32.2.2.2.1 y32.2.2.2.2.1 r33.2.1 i>>=λr42=>if r42.1 then some (r42.2.1,r42.2.2,r33.2.2.1,r33.2.2.2)else sI g f m p q s t u v a B i D E F (yB (C+1)) r42.2.1 r42.2.2 r33.2.2.1 r33.2.2.2 w y z else tR g f m p q s t u v r33.2.2.1 r33.2.2.2 a y32.2.2.2.1 y32.2.2.2.2.1 r33.2.1 i>>=λr45=>if r45.1 then some (r45.2.1,r45.2.2,r33.2.2.1,r33.2.2.2)else sI g f m p q s t u v a B i D E F (yB (C+1)) r45.2.1 r45.2.2 r33.2.2.1 r33.2.2.2 w y z|Sum.inr y48=>none else zL f B>>=λx64=>zRL g D B x64.pars x64.inds>>=λr66=>tR g f m p q s t u v b c a d e r66.2 i>>=λr68=>if r68.1 then some (r68.2.1,r68.2.2,b,c)else jF g (Tm.mk w y z)>>=λr71=>uL r71.2 x64.pars (r71.2.length:Int)>>=λx73=>sH g f m p q s t u v a B i b c x73 0 r68.2.1 r68.2.2
def bS(g:Nat)(f:yD)(m p:Int)(q:ByteArray)(s t:Int)(u:ByteArray)(v I J:Int)(a:yI)(G H:Int)(K:Tm)(B i:Int):Option (Int×Int×Int×Int):=bR g f m p q s t u v I J a G H a>>=λr1=>match r1 with
 |Sum.inl y3=>e98 g (xT.mk y3.2.2.2.2.2.1 y3.2.2.2.2.2.2.2.2.1 y3.2.2.2.2.2.2.2.2.2 y3.2.2.2.2.2.2.1 y3.2.2.2.2.2.2.2.1) I J y3.1 y3.2.1 y3.2.2.1 K>>=λr4=>tR g f m p q s t u v r4.2.2.1 r4.2.2.2 a y3.2.2.2.1 y3.2.2.2.2.1 r4.2.1 i>>=λr6=>if r6.1 then some (r6.2.1,r6.2.2,r4.2.2.1,r4.2.2.2)else e99 g K>>=λr9=>if r9.2.2 !=0 then tR g f m p q s t u v r4.2.2.1 r4.2.2.2 a r6.2.1 r6.2.2 6 i>>=λr12=>some (r12.2.1,r12.2.2,r4.2.2.1,r4.2.2.2)else if decide ((r9.1.length:Int)>(yB (24-(a.length:Int))))then tR g f m p q s t u v r4.2.2.1 r4.2.2.2 a r6.2.1 r6.2.2 6 i>>=λr15=>some (r15.2.1,r15.2.2,r4.2.2.1,r4.2.2.2)else I5 g f m p q s t u v r4.2.2.1 r4.2.2.2 a r6.2.1 r6.2.2 r9.2.1 B (r9.1.length:Int)>>=λr17=>if r17 then sI g f m p q s t u v a B i r9.1 r9.1 (r9.1.length:Int) 0 r6.2.1 r6.2.2 r4.2.2.1 r4.2.2.2 r9.2.1.k r9.2.1.n r9.2.1.sub else tR g f m p q s t u v r4.2.2.1 r4.2.2.2 a r6.2.1 r6.2.2 6 i>>=λr20=>some (r20.2.1,r20.2.2,r4.2.2.1,r4.2.2.2)|Sum.inr y22=>none
theorem zJG:∀g:Nat,∀f m p q s t u v a B i b c x73 A d e,Lz (sH g f m p q s t u v a B i b c x73 A d e) 2 f52 (pt 1048565 f52) (λj=>sp j 174 0 [(0,.mp 0 0),(2,ai B),(3,ai i),(161,zC zA x73 .no),(162,ai (x73.length:Int)),(163,ai A)]) ⟨[(0,.cells [zC zV f .no,ai m,ai p,at' q,zC zF ([]:List zM) .nl,ai s,ai t,at' u,ai v,zC zK ([]:List zG) .nl,zC zF ([]:List zM) .nl,zC zY ([]:List yO) .nl,.mp 1 0,zC zA a .no,zC xC ([]:List ByteArray) .nl,ai d,ai e]),(1,.cells [ai b,ai c])],2,[],0,[]⟩ (λ_=>.tup []) (λr=>[.cells [zC zV f .no,ai m,ai p,at' q,zC zF ([]:List zM) .nl,ai s,ai t,at' u,ai v,zC zK ([]:List zG) .nl,zC zF ([]:List zM) .nl,zC zY ([]:List yO) .nl,.mp 1 0,zC zA a .no,zC xC ([]:List ByteArray) .nl,ai r.1,ai r.2.1],.cells [ai r.2.2.1,ai r.2.2.2]]) 0 [.blk 2]:=yS (λ_ _ _ _ _ _ _ _ _ _ _ _ _ _ _ _ _=>lN) λg ih=>λf m p q s t u v a B i b c x73 A d e=>lw λ_=>rB 0 (rA 0 (yP (o:=.no)) λ_=>rK 3 [] yBO (λ_=>rC 0 [0,1] tS λ_=>lH 1 [] [0,1] [] [0,2,3,161,162,163] (ih _ _ _ _ _ _ _ _ _ _ _ _ _ _ _ _ _)) λ_=>lH 1 [] [0,1] [] [0,2,3,161,162,163] (ih _ _ _ _ _ _ _ _ _ _ _ _ _ _ _ _ _))<|lG 0 [] [0,1] [] true
theorem zJH:∀g:Nat,∀f m p q s t u v a B i D E F C d e b c w y z,Lz (sI g f m p q s t u v a B i D E F C d e b c w y z) 2 f52 (pt 65461 f52) (λj=>sp j 174 0 [(0,.mp 0 0),(2,ai B),(3,ai i),(10,zC zA D .no),(11,.mp 2 0),(69,zC zA E .no),(70,ai F),(71,ai C)]) ⟨[(0,.cells [zC zV f .no,ai m,ai p,at' q,zC zF ([]:List zM) .nl,ai s,ai t,at' u,ai v,zC zK ([]:List zG) .nl,zC zF ([]:List zM) .nl,zC zY ([]:List yO) .nl,.mp 1 0,zC zA a .no,zC xC ([]:List ByteArray) .nl,ai d,ai e]),(1,.cells [ai b,ai c]),(2,.cells [ai w,ai y,zC zA z .no])],3,[],0,[]⟩ (λ_=>.tup []) (λr=>[.cells [zC zV f .no,ai m,ai p,at' q,zC zF ([]:List zM) .nl,ai s,ai t,at' u,ai v,zC zK ([]:List zG) .nl,zC zF ([]:List zM) .nl,zC zY ([]:List yO) .nl,.mp 1 0,zC zA a .no,zC xC ([]:List ByteArray) .nl,ai r.1,ai r.2.1],.cells [ai r.2.2.1,ai r.2.2.2]]) 0 [.blk 0,.seq (pt 1023 f52)]:=yS (λ_ _ _ _ _ _ _ _ _ _ _ _ _ _ _ _ _ _ _ _ _ _=>lN) λg ih=>λf m p q s t u v a B i D E F C d e b c w y z=>lw λ_=>rB 0 (rA 0 (yP (o:=.no)) λ_=>rA 7 (jE (o:=.no)) λ_=>rA 0 sZ λx25=>rH λ_ h28=>rZ (List.length x25=0) (λh29=>rS (oP 0 (rG h28 h29))<|rC 0 [0,1] Y3<|pN (λ_=>rC 1 [4,5,1] c98 λ_=>rB 2 (rA 1 (xA (o:=.no)) λ_=>rB 1 (rK 0 [0,1] tS (λ_=>lG 0 [] [0,1] [] true) λ_=>lH 1 [] [0,1,2] [] [0,2,3,10,11,69,70,71] (ih _ _ _ _ _ _ _ _ _ _ _ _ _ _ _ _ _ _ _ _ _ _))<|rK 0 [0,1] tS (λ_=>lG 0 [] [0,1] [] true) λ_=>lH 1 [] [0,1,2] [] [0,2,3,10,11,69,70,71] (ih _ _ _ _ _ _ _ _ _ _ _ _ _ _ _ _ _ _ _ _ _ _))<|rK 0 [0,1] tS (λ_=>lG 0 [] [0,1] [] true) λ_=>lH 1 [] [0,1,2] [] [0,2,3,10,11,69,70,71] (ih _ _ _ _ _ _ _ _ _ _ _ _ _ _ _ _ _ _ _ _ _ _)) λ_=>rN) λh29=>rS (oP 0 (xY h28 h29))<|rC 0 [0,1] Y3<|pN (λ_=>rC 1 [4,5,1] c98 λ_=>rB 2 (rA 1 (xA (o:=.no)) λ_=>rB 1 (rK 0 [0,1] tS (λ_=>lG 0 [] [0,1] [] true) λ_=>lH 1 [] [0,1,2] [] [0,2,3,10,11,69,70,71] (ih _ _ _ _ _ _ _ _ _ _ _ _ _ _ _ _ _ _ _ _ _ _))<|rK 0 [0,1] tS (λ_=>lG 0 [] [0,1] [] true) λ_=>lH 1 [] [0,1,2] [] [0,2,3,10,11,69,70,71] (ih _ _ _ _ _ _ _ _ _ _ _ _ _ _ _ _ _ _ _ _ _ _))<|rK 0 [0,1] tS (λ_=>lG 0 [] [0,1] [] true) λ_=>lH 1 [] [0,1,2] [] [0,2,3,10,11,69,70,71] (ih _ _ _ _ _ _ _ _ _ _ _ _ _ _ _ _ _ _ _ _ _ _)) λ_=>rN)<|rH λ_ h65=>rS (oA 1 (xA (o:=.no) h65))<|rS (oA 2 (xA (o:=.no) h65))<|rC 1 [] yBN λ_=>rK 2 [0,1] tS (λ_=>lG 0 [] [0,1] [] true) λ_=>rC 1 [] V4 λ_=>rS (oA 4 (xA (o:=.no) h65))<|rA 1 tZ λ_=>lH 1 [] [0,1] [] [0,2,3,161,162,163] (zJG _ _ _ _ _ _ _ _ _ _ _ _ _ _ _ _ _ _)
theorem zVM{g f m p q s t u v I J a G H K B i}:Cz (bS g f m p q s t u v I J a G H K B i) 52 [.cells [zC zV f .no,ai m,ai p,at' q,zC zF ([]:List zM) .nl,ai s,ai t,at' u,ai v,zC zK ([]:List zG) .nl,zC zF ([]:List zM) .nl,zC zY ([]:List yO) .nl,.mp 1 0,zC zA a .no,zC xC ([]:List ByteArray) .nl,ai G,ai H],.cells [ai I,ai J]] [.mp 0 0,yL K,ai B,ai i] (λ_=>.tup []) (λr=>[.cells [zC zV f .no,ai m,ai p,at' q,zC zF ([]:List zM) .nl,ai s,ai t,at' u,ai v,zC zK ([]:List zG) .nl,zC zF ([]:List zM) .nl,zC zY ([]:List yO) .nl,.mp 1 0,zC zA a .no,zC xC ([]:List ByteArray) .nl,ai r.1,ai r.2.1],.cells [ai r.2.2.1,ai r.2.2.2]]) 0:=fw func52<|rC 1 [0,1] Y3<|pN (λ_=>rC 1 [3,4,1] c98 λ_=>rK 2 [0,1] tS (λ_=>fG 0 [] [0,1] [] true) λ_=>rC 1 [] c99 λ_=>rB 4 (rC 0 [0,1] tS λ_=>fG 0 [] [0,1] [] true)<|rB 4 (rC 0 [0,1] tS λ_=>fG 0 [] [0,1] [] true)<|rK 2 [0,1] zRO (λ_=>fH 2 [] [0,1,5] [] [0,2,3,10,11,69,70,71] (zJH _ _ _ _ _ _ _ _ _ _ _ _ _ _ _ _ _ _ _ _ _ _ _)) λ_=>rC 1 [0,1] tS λ_=>fG 0 [] [0,1] [] true) λ_=>rN
def sJ:Nat->(List fZ)->Int->Int->ByteArray->(List zM)->Int->Int->ByteArray->Int->(List zG)->(List zM)->(List yO)->yI->(List ByteArray)->Int->Int->Int->Int->yI->Int->Int->Int->Option (Int×Int×Int×Int)|0,_,_,_,_,_,_,_,_,_,_,_,_,_,_,_,_,_,_,_,_,_,_=>none|q+1,p,s,t,u,v,w,y,z,i,A,f,g,a,m,G,E,b,c,x73,F,d,e=>if decide (F<(x73.length:Int))then zL x73 F>>=λx76=>zRM q x76 G>>=λr78=>if r78 then wU q p s t u v w y z i A f g b c a m d e 9 E>>=λr81=>sJ q p s t u v w y z i A f g a m G E b c x73 (yB (F+1)) r81.2.1 r81.2.2 else sJ q p s t u v w y z i A f g a m G E b c x73 (yB (F+1)) d e else some (d,e,b,c)
def sK:Nat->(List fZ)->Int->Int->ByteArray->(List zM)->Int->Int->ByteArray->Int->(List zG)->(List zM)->(List yO)->yI->(List ByteArray)->Int->Int->yI->yI->Int->Int->Int->Int->Int->Int->Int->Int->yI->Option (Int×Int×Int×Int)
 |0,_,_,_,_,_,_,_,_,_,_,_,_,_,_,_,_,_,_,_,_,_,_,_,_,_,_,_=>none|q+1,p,s,t,u,v,w,y,z,i,A,f,g,a,m,G,E,I,J,K,H,d,e,b,c,B,C,D=>if decide (H<K)then zL J H>>=λx21=>uL a 0 (a.length:Int)>>=λx23=>uL I 0 H>>=λx25=>yR 40 x23 x25>>=λl27=>I7 q p s t u v w y z i A f g b c a m d e l27>>=λr30=>match r30 with
 |Sum.inl y32=>e98 q (xT.mk y32.2.2.2.2.2.1 y32.2.2.2.2.2.2.2.2.1 y32.2.2.2.2.2.2.2.2.2 y32.2.2.2.2.2.2.1 y32.2.2.2.2.2.2.2.1) b c y32.1 y32.2.1 y32.2.2.1 x21>>=λr33=>if r33.2.1==0 then zL p G>>=λx36=>if decide (r33.1>x36.level)then wU q p s t u v w y z i A f g r33.2.2.1 r33.2.2.2 a m y32.2.2.2.1 y32.2.2.2.2.1 7 E>>=λr39=>if r39.1 then some (r39.2.1,r39.2.2,r33.2.2.1,r33.2.2.2)else sK q p s t u v w y z i A f g a m G E I J K (yB (H+1)) r39.2.1 r39.2.2 r33.2.2.1 r33.2.2.2 B C D else wU q p s t u v w y z i A f g r33.2.2.1 r33.2.2.2 a m y32.2.2.2.1 y32.2.2.2.2.1 r33.2.1 E>>=λr42=>if r42.1 then some (r42.2.1,r42.2.2,r33.2.2.1,r33.2.2.2)else sK q p s t u v w y z i A f g a m G E I J K (yB (H+1)) r42.2.1 r42.2.2 r33.2.2.1 r33.2.2.2 B C D else wU q p s t u v w y z i A f g r33.2.2.1 r33.2.2.2 a m y32.2.2.2.1 y32.2.2.2.2.1 r33.2.1 E>>=λr45=>if r45.1 then some (r45.2.1,r45.2.2,r33.2.2.1,r33.2.2.2)else sK q p s t u v w y z i A f g a m G E I J K (yB (H+1)) r45.2.1 r45.2.2 r33.2.2.1 r33.2.2.2 B C D|Sum.inr y48=>none else zL p G>>=λx64=>zRL q I G x64.pars x64.inds>>=λr66=>wU q p s t u v w y z i A f g b c a m d e r66.2 E>>=λr68=>if r68.1 then some (r68.2.1,r68.2.2,b,c)else jF q (Tm.mk B C D)>>=λr71=>uL r71.2 x64.pars (r71.2.length:Int)>>=λx73=>sJ q p s t u v w y z i A f g a m G E b c x73 0 r68.2.1 r68.2.2
def I8(q:Nat)(p:List fZ)(s t:Int)(u:ByteArray)(v:List zM)(w y:Int)(z:ByteArray)(i:Int)(A:List zG)(f:List zM)(g:List yO)(L M:Int)(a:yI)(m:List ByteArray)(N P:Int)(Q:Tm)(G E:Int):Option (Int×Int×Int×Int):=I7 q p s t u v w y z i A f g L M a m N P a>>=λr1=>match r1 with
 |Sum.inl y3=>e98 q (xT.mk y3.2.2.2.2.2.1 y3.2.2.2.2.2.2.2.2.1 y3.2.2.2.2.2.2.2.2.2 y3.2.2.2.2.2.2.1 y3.2.2.2.2.2.2.2.1) L M y3.1 y3.2.1 y3.2.2.1 Q>>=λr4=>wU q p s t u v w y z i A f g r4.2.2.1 r4.2.2.2 a m y3.2.2.2.1 y3.2.2.2.2.1 r4.2.1 E>>=λr6=>if r6.1 then some (r6.2.1,r6.2.2,r4.2.2.1,r4.2.2.2)else e99 q Q>>=λr9=>if r9.2.2 !=0 then wU q p s t u v w y z i A f g r4.2.2.1 r4.2.2.2 a m r6.2.1 r6.2.2 6 E>>=λr12=>some (r12.2.1,r12.2.2,r4.2.2.1,r4.2.2.2)else if decide ((r9.1.length:Int)>(yB (24-(a.length:Int))))then wU q p s t u v w y z i A f g r4.2.2.1 r4.2.2.2 a m r6.2.1 r6.2.2 6 E>>=λr15=>some (r15.2.1,r15.2.2,r4.2.2.1,r4.2.2.2)else I6 q p s t u v w y z i A f g r4.2.2.1 r4.2.2.2 a m r6.2.1 r6.2.2 r9.2.1 G (r9.1.length:Int)>>=λr17=>if r17 then sK q p s t u v w y z i A f g a m G E r9.1 r9.1 (r9.1.length:Int) 0 r6.2.1 r6.2.2 r4.2.2.1 r4.2.2.2 r9.2.1.k r9.2.1.n r9.2.1.sub else wU q p s t u v w y z i A f g r4.2.2.1 r4.2.2.2 a m r6.2.1 r6.2.2 6 E>>=λr20=>some (r20.2.1,r20.2.2,r4.2.2.1,r4.2.2.2)|Sum.inr y22=>none
theorem zJI:∀q:Nat,∀p s t u v w y z i A f g a m G E b c x73 F d e,Lz (sJ q p s t u v w y z i A f g a m G E b c x73 F d e) 2 f52 (pt 1048565 f52) (λj=>sp j 174 0 [(0,.mp 0 0),(2,ai G),(3,ai E),(161,zC zA x73 .no),(162,ai (x73.length:Int)),(163,ai F)]) ⟨[(0,.cells [zC entZ p .no,ai s,ai t,at' u,zC zF v .no,ai w,ai y,at' z,ai i,zC zK A .no,zC zF f .no,zC zY g .no,.mp 1 0,zC zA a .no,zC xC m .no,ai d,ai e]),(1,.cells [ai b,ai c])],2,[],0,[]⟩ (λ_=>.tup []) (λr=>[.cells [zC entZ p .no,ai s,ai t,at' u,zC zF v .no,ai w,ai y,at' z,ai i,zC zK A .no,zC zF f .no,zC zY g .no,.mp 1 0,zC zA a .no,zC xC m .no,ai r.1,ai r.2.1],.cells [ai r.2.2.1,ai r.2.2.2]]) 0 [.blk 2]:=yS (λ_ _ _ _ _ _ _ _ _ _ _ _ _ _ _ _ _ _ _ _ _ _=>lN) λq ih=>λp s t u v w y z i A f g a m G E b c x73 F d e=>lw λ_=>rB 0 (rA 0 (yP (o:=.no)) λ_=>rK 3 [] yBO (λ_=>rC 0 [0,1] vG λ_=>lH 1 [] [0,1] [] [0,2,3,161,162,163] (ih _ _ _ _ _ _ _ _ _ _ _ _ _ _ _ _ _ _ _ _ _ _)) λ_=>lH 1 [] [0,1] [] [0,2,3,161,162,163] (ih _ _ _ _ _ _ _ _ _ _ _ _ _ _ _ _ _ _ _ _ _ _))<|lE 0
theorem zJJ:∀q:Nat,∀p s t u v w y z i A f g a m G E I J K H d e b c B C D,Lz (sK q p s t u v w y z i A f g a m G E I J K H d e b c B C D) 2 f52 (pt 65461 f52) (λj=>sp j 174 0 [(0,.mp 0 0),(2,ai G),(3,ai E),(10,zC zA I .no),(11,.mp 2 0),(69,zC zA J .no),(70,ai K),(71,ai H)]) ⟨[(0,.cells [zC entZ p .no,ai s,ai t,at' u,zC zF v .no,ai w,ai y,at' z,ai i,zC zK A .no,zC zF f .no,zC zY g .no,.mp 1 0,zC zA a .no,zC xC m .no,ai d,ai e]),(1,.cells [ai b,ai c]),(2,.cells [ai B,ai C,zC zA D .no])],3,[],0,[]⟩ (λ_=>.tup []) (λr=>[.cells [zC entZ p .no,ai s,ai t,at' u,zC zF v .no,ai w,ai y,at' z,ai i,zC zK A .no,zC zF f .no,zC zY g .no,.mp 1 0,zC zA a .no,zC xC m .no,ai r.1,ai r.2.1],.cells [ai r.2.2.1,ai r.2.2.2]]) 0 [.blk 0,.seq (pt 1023 f52)]:=yS (λ_ _ _ _ _ _ _ _ _ _ _ _ _ _ _ _ _ _ _ _ _ _ _ _ _ _ _=>lN) λq ih=>λp s t u v w y z i A f g a m G E I J K H d e b c B C D=>lw λ_=>rB 0 (rA 0 (yP (o:=.no)) λ_=>rA 7 (jE (o:=.no)) λ_=>rA 0 sZ λx25=>rH λ_ h28=>rZ (List.length x25=0) (λh29=>rS (oP 0 (rG h28 h29))<|rC 0 [0,1] zEF<|pN (λ_=>rC 1 [4,5,1] c98 λ_=>rB 2 (rS (oWk 0 (wkE p .no))<|rA 0 (xA (o:=.no)) λ_=>rB 1 (rK 0 [0,1] vG (λ_=>lE 0) λ_=>lH 1 [] [0,1,2] [] [0,2,3,10,11,69,70,71] (ih _ _ _ _ _ _ _ _ _ _ _ _ _ _ _ _ _ _ _ _ _ _ _ _ _ _ _))<|rK 0 [0,1] vG (λ_=>lE 0) λ_=>lH 1 [] [0,1,2] [] [0,2,3,10,11,69,70,71] (ih _ _ _ _ _ _ _ _ _ _ _ _ _ _ _ _ _ _ _ _ _ _ _ _ _ _ _))<|rK 0 [0,1] vG (λ_=>lE 0) λ_=>lH 1 [] [0,1,2] [] [0,2,3,10,11,69,70,71] (ih _ _ _ _ _ _ _ _ _ _ _ _ _ _ _ _ _ _ _ _ _ _ _ _ _ _ _)) λ_=>rN) λh29=>rS (oP 0 (xY h28 h29))<|rC 0 [0,1] zEF<|pN (λ_=>rC 1 [4,5,1] c98 λ_=>rB 2 (rS (oWk 0 (wkE p .no))<|rA 0 (xA (o:=.no)) λ_=>rB 1 (rK 0 [0,1] vG (λ_=>lE 0) λ_=>lH 1 [] [0,1,2] [] [0,2,3,10,11,69,70,71] (ih _ _ _ _ _ _ _ _ _ _ _ _ _ _ _ _ _ _ _ _ _ _ _ _ _ _ _))<|rK 0 [0,1] vG (λ_=>lE 0) λ_=>lH 1 [] [0,1,2] [] [0,2,3,10,11,69,70,71] (ih _ _ _ _ _ _ _ _ _ _ _ _ _ _ _ _ _ _ _ _ _ _ _ _ _ _ _))<|rK 0 [0,1] vG (λ_=>lE 0) λ_=>lH 1 [] [0,1,2] [] [0,2,3,10,11,69,70,71] (ih _ _ _ _ _ _ _ _ _ _ _ _ _ _ _ _ _ _ _ _ _ _ _ _ _ _ _)) λ_=>rN)<|rS (oWk 0 (wkE p .no))<|rH λ_ h65=>rS (oA 0 (xA (o:=.no) h65))<|rS (oWk 1 (wkE p .no))<|rS (oA 0 (xA (o:=.no) h65))<|rC 1 [] yBN λ_=>rK 2 [0,1] vG (λ_=>lE 0) λ_=>rC 1 [] V4 λ_=>rS (oWk 3 (wkE p .no))<|rS (oA 0 (xA (o:=.no) h65))<|rA 1 tZ λ_=>lH 1 [] [0,1] [] [0,2,3,161,162,163] (zJI _ _ _ _ _ _ _ _ _ _ _ _ _ _ _ _ _ _ _ _ _ _ _)
theorem zLc{q p s t u v w y z i A f g L M a m N P Q G E}:Cz (I8 q p s t u v w y z i A f g L M a m N P Q G E) 52 [.cells [zC entZ p .no,ai s,ai t,at' u,zC zF v .no,ai w,ai y,at' z,ai i,zC zK A .no,zC zF f .no,zC zY g .no,.mp 1 0,zC zA a .no,zC xC m .no,ai N,ai P],.cells [ai L,ai M]] [.mp 0 0,yL Q,ai G,ai E] (λ_=>.tup []) (λr=>[.cells [zC entZ p .no,ai s,ai t,at' u,zC zF v .no,ai w,ai y,at' z,ai i,zC zK A .no,zC zF f .no,zC zY g .no,.mp 1 0,zC zA a .no,zC xC m .no,ai r.1,ai r.2.1],.cells [ai r.2.2.1,ai r.2.2.2]]) 0:=fw func52<|rC 1 [0,1] zEF<|pN (λ_=>rC 1 [3,4,1] c98 λ_=>rK 2 [0,1] vG (λ_=>fE 0) λ_=>rC 1 [] c99 λ_=>rB 4 (rC 0 [0,1] vG λ_=>fE 0)<|rB 4 (rC 0 [0,1] vG λ_=>fE 0)<|rK 2 [0,1] zRP (λ_=>fH 2 [] [0,1,5] [] [0,2,3,10,11,69,70,71] (zJJ _ _ _ _ _ _ _ _ _ _ _ _ _ _ _ _ _ _ _ _ _ _ _ _ _ _ _ _)) λ_=>rC 1 [0,1] vG λ_=>fE 0) λ_=>rN
set_option linter.unusedSectionVars false
theorem Ou.evtL{ρ τ:Type}{er:ρ->Int}{Q:(Int->Int->ρ)->Int->Prop}{S:Prop}{l:Int}{x:Int->Int->Nat->Option τ}{a:τ}{c:Int->Int->Nat->τ->Option ρ}(h:∀L U,zB (x L U) a)(g:Ou (λL U q=>c L U q a) er Q S l):Ou (λL U q=>x L U q>>=c L U q) er Q S l:=g.imp λL U _ k=>zB.bind (h L U) k
theorem Ou.cst{ρ:Type}{er:ρ->Int}{Q:(Int->Int->ρ)->Int->Prop}{S:Prop}{l:Int}{f:Int->Int->Nat->Option ρ}{R:Int->Int->ρ}(hl:0<=l)(h:∀L U,zB (f L U) (R L U))(k:Q R 0):Ou f er Q S l:=(Ou.ret hl k).imp λL U r e=>by rw[<-zB.ret.det e];exact h L U
abbrev zZy(r:Int×Int×Int×Int):Int:=r.1
def Ru{ρ:Type}(f:Int->Int->Nat->Option ρ)(R:Int->Int->ρ)(k:Int):Prop:=0<=k/\∀L U,k<=L->0<=U->L+U<=1099511627776->zB (f L U) (R (L-k) (U+k))
section
variable{ρ τ:Type}{R:Int->Int->ρ}{k k':Int}
theorem Ru.ret:Ru (λL U _=>some (R L U)) R 0:=⟨by omega,λL U _ _ _=>by rw[show L-0=L by omega,show U+0=U by omega];exact zB.ret⟩
theorem Ru.imp{f g:Int->Int->Nat->Option ρ}(h:Ru f R k)(j:∀L U r,zB (f L U) r->zB (g L U) r):Ru g R k:=⟨h.1,λL U a b c=>j _ _ _ (h.2 L U a b c)⟩
theorem Ru.succ{f:Int->Int->Nat->Option ρ}(h:Ru (λL U q=>f L U (q+1)) R k):Ru f R k:=h.imp λ_ _ _ h=>h.succ
theorem Ru.cst{f:Int->Int->Nat->Option ρ}(h:∀L U,zB (f L U) (R L U)):Ru f R 0:=⟨by omega,λL U _ _ _=>by rw[show L-0=L by omega,show U+0=U by omega];exact h L U⟩
theorem Ru.evtL{x:Int->Int->Nat->Option τ}{a:τ}{c:Int->Int->Nat->τ->Option ρ}(h:∀L U,zB (x L U) a)(g:Ru (λL U q=>c L U q a) R k):Ru (λL U q=>x L U q>>=c L U q) R k:=g.imp λL U _ j=>zB.bind (h L U) j
theorem Ru.evt{x:Nat->Option τ}{a:τ}{c:Int->Int->Nat->τ->Option ρ}(h:zB x a)(g:Ru (λL U q=>c L U q a) R k):Ru (λL U q=>x q>>=c L U q) R k:=g.imp λ_ _ _ j=>zB.bind h j
theorem Ru.pure{x:Option τ}{a:τ}{c:Int->Int->Nat->τ->Option ρ}(h:x=some a)(g:Ru (λL U q=>c L U q a) R k):Ru (λL U q=>x>>=c L U q) R k:=g.imp λ_ _ _ j=>zB.pure h j
theorem Ru.ifT{b:Bool}{f g:Int->Int->Nat->Option ρ}(h:b=true)(j:Ru f R k):Ru (λL U q=>if b=true then f L U q else g L U q) R k:=j.imp λ_ _ _ x=>zB.ifT h x
theorem Ru.ifF{b:Bool}{f g:Int->Int->Nat->Option ρ}(h:b=false)(j:Ru g R k):Ru (λL U q=>if b=true then f L U q else g L U q) R k:=j.imp λ_ _ _ x=>zB.ifF h x
theorem Ru.bind{f:Int->Int->Nat->Option τ}{A:Int->Int->τ}{c:Nat->τ->Option ρ}(h:Ru f A k)(g:Ru (λL U q=>c q (A L U)) R k'):Ru (λL U q=>f L U q>>=c q) R (k+k'):=by obtain⟨h0,h⟩:=h;obtain⟨g0,g⟩:=g;refine⟨by omega,λL U a b c=>?_⟩;have:=g (L-k) (U+k) (by omega) (by omega) (by omega);rw[show L-(k+k')=L-k-k' by omega,show U+(k+k')=U+k+k' by omega];exact(h L U (by omega) b c).bind this
theorem Ou.own{er:ρ->Int}{Q:(Int->Int->ρ)->Int->Prop}{S:Prop}{l:Int}{f:Int->Int->Nat->Option ρ}(h:Ou f er Q S l):Ou f er (λR k=>Q R k/\Ru f R k) S l:=by
 rcases h with⟨R,k,h0,h1,h2,h3⟩|h;·exact .inl ⟨R,k,h0,h1,⟨h2,h0,λL U a b c=>h3.1 L U a b c⟩,h3⟩
 ·exact .inr h
end
def QGc(C:Int->Int->Int->Nat->Option (Int×Int×Int×Int))(R:Int->Int->Int×Int×Int×Int)(k:Int):Prop:=∃e a,R=(λL U=>(e,a,L,U))/\(e=0->∀a',∃a2,Ru (C a') (λL U=>(0,a2,L,U)) k)
theorem QGc.ne{C}{e a k:Int}(h:e≠0):QGc C (λL U=>(e,a,L,U)) k:=⟨e,a,rfl,λh'=>absurd h' h⟩
section
variable{l:List yF}(hS:kG l)(m1 m2:Int)(m3:ByteArray)(m4 m5:Int)(m6:ByteArray)(m7:Int)(q1 q2:Int)(q3:ByteArray)(q4:List zM)(q5 q6:Int)(q7:ByteArray)(q8:Int)(q9:List zG)(q10:List zM)(q11:List yO){pars:List Tm}(own:List ByteArray)(hp:xW pars)(hpl:pars.length<=24)
theorem sL(l:List yF)(pars:List Tm)(L U a p at0:Int):zB (λq=>wU q l q1 q2 q3 q4 q5 q6 q7 q8 q9 q10 q11 L U pars own 0 a p at0) (p !=0,p,if p=0 then a else at0):=by
 simp only[wU];refine zB.ifT rfl ?_;by_cases h:p=0;·subst h;exact zB.ifF rfl zB.ret
 ·rw[if_neg h];exact zB.ifT (by simpa using h) zB.ret
def sM(e a p at0:Int):Bool×Int×Int:=if e=0 then(if p=0 then(false,0,a)else(true,p,at0))else(true,e,a)
theorem zHD(l:List yF)(pars:List Tm)(L U e a p at0:Int):zB (λq=>wU q l q1 q2 q3 q4 q5 q6 q7 q8 q9 q10 q11 L U pars own e a p at0) (sM e a p at0):=by
 unfold sM;by_cases h:e=0
 ·subst h;rw[if_pos rfl];refine(sL q1 q2 q3 q4 q5 q6 q7 q8 q9 q10 q11 own l pars L U a p at0).eq ?_;by_cases h2:p=0;·subst h2;rfl
  ·rw[if_neg h2,if_neg h2,show(p !=0)=true by simpa using h2]
 ·rw[if_neg h];simp only[wU];exact zB.ifF (by simpa using h) (zB.ret.eq (by rw[show(e !=0)=true by simpa using h]))
theorem zVN(e a p x:Int):(sM e a p x).2.1=if e=0 then p else e:=by
 unfold sM;by_cases h:e=0
 ·rw[if_pos h,if_pos h];by_cases h2:p=0;·rw[if_pos h2,h2]
  ·rw[if_neg h2]
 ·rw[if_neg h,if_neg h]
theorem I9(l:List yF)(pars:List Tm)(L U e a p at0:Int):zB (λq=>tR q l m1 m2 m3 m4 m5 m6 m7 L U pars e a p at0) (sM e a p at0):=by
 simp only[tR];unfold sM;by_cases h:e=0
 ·subst h;rw[if_pos rfl];refine zB.ifT rfl ?_;by_cases h:p=0;·subst h;exact zB.ifF rfl zB.ret
  ·rw[if_neg h];exact zB.ifT (by simpa using h) (zB.ret.eq (by rw[show(p !=0)=true by simpa using h]))
 ·rw[if_neg h];exact zB.ifF (by simpa using h) (zB.ret.eq (by rw[show(e !=0)=true by simpa using h]))
include hS in theorem P1(pars:List Tm)(L U e a:Int)(ctx:List Tm):zB (λq=>bR q l m1 m2 m3 m4 m5 m6 m7 L U pars e a ctx) (.inl (ctx,[],[],e,a,l,l.map xV,l.map uT,l,nM l l.length 0)):=by simp only[bR];exact hS.E.2.bind (zB.ifF rfl zB.ret)
include hS in theorem zCR(pars:List Tm)(L U e a:Int)(ctx:List Tm):zB (λq=>I7 q l q1 q2 q3 q4 q5 q6 q7 q8 q9 q10 q11 L U pars own e a ctx) (.inl (ctx,[],[],e,a,l,l.map xV,l.map uT,l,nM l l.length 0)):=by simp only[I7];exact hS.E.2.bind (zB.ifF rfl zB.ret)
theorem J0(p2 p3:Int)(r1:Tm×List Tm)(h2:0<=p2/\p2<l.length)(P:Nat)(hP:(zN l p2).pars=P)(h24:P<=24)(hr:P<=r1.2.length):∀(m v:Nat),v+m=P->∃b,(∀L U e a,zB (λq=>uW q l q1 q2 q3 q4 q5 q6 q7 q8 q9 q10 q11 L U pars own e a p2 p3 r1 (zN l p2) (v:Int)) b)/\∀L U e a,zB (λq=>uV q l m1 m2 m3 m4 m5 m6 m7 L U pars e a p2 p3 r1 (zN l p2) (v:Int)) b
 |0,v,hv=>by
  refine⟨true,λL U e a=>zB.succ ?_,λL U e a=>zB.succ ?_⟩;·simp only[uW];exact zB.ifF (decide_eq_false (by omega)) zB.ret
  ·simp only[uV];exact zB.ifF (decide_eq_false (by omega)) zB.ret|m+1,v,hv=>by
  obtain⟨x,hx,-⟩:=pQ (l:=r1.2) (i:=(v:Int)) (by omega) (by omega);obtain⟨b,hb,hb'⟩:=J0 p2 p3 r1 h2 P hP h24 hr m (v+1) (by omega);by_cases c1:(x.k !=1)=true
  ·refine⟨false,λL U e a=>zB.succ ?_,λL U e a=>zB.succ ?_⟩
   ·simp only[uW];exact zB.ifT (decide_eq_true (by omega)) (zB.pure hx (zB.ifT c1 zB.ret))
   ·simp only[uV];exact zB.ifT (decide_eq_true (by omega)) (zB.pure hx (zB.ifT c1 zB.ret))
  ·have c1':(x.k !=1)=false:=by simpa using c1
   by_cases c2:(x.n !=(yB ((yB ((yB ((zN l p2).pars+p3))-1))-(v:Int))))=true
   ·refine⟨false,λL U e a=>zB.succ ?_,λL U e a=>zB.succ ?_⟩;·simp only[uW];exact zB.ifT (decide_eq_true (by omega)) (zB.pure hx (zB.ifF c1' (zB.pure (yE h2.1 h2.2) (zB.ifT c2 zB.ret))))
    ·simp only[uV];exact zB.ifT (decide_eq_true (by omega)) (zB.pure hx (zB.ifF c1' (zB.pure (yE h2.1 h2.2) (zB.ifT c2 zB.ret))))
   ·have c2':=(Bool.not_eq_true _).mp c2;refine⟨b,λL U e a=>zB.succ ?_,λL U e a=>zB.succ ?_⟩
    ·simp only[uW];rw[zS v (by omega)];exact zB.ifT (decide_eq_true (by omega)) (zB.pure hx (zB.ifF c1' (zB.pure (yE h2.1 h2.2) (zB.ifF c2' (hb L U e a)))))
    ·simp only[uV];rw[zS v (by omega)];exact zB.ifT (decide_eq_true (by omega)) (zB.pure hx (zB.ifF c1' (zB.pure (yE h2.1 h2.2) (zB.ifF c2' (hb' L U e a)))))
theorem zHE(p2 p3:Int)(t:Tm)(ht:zJ t=true)(h2:0<=p2/\p2<l.length)(hP:0<=(zN l p2).pars/\(zN l p2).pars<=24)(hI:0<=(zN l p2).inds/\(zN l p2).inds<=24):∃b,(∀L U e a,zB (λq=>I6 q l q1 q2 q3 q4 q5 q6 q7 q8 q9 q10 q11 L U pars own e a t p2 p3) b)/\(∀L U e a,zB (λq=>I5 q l m1 m2 m3 m4 m5 m6 m7 L U pars e a t p2 p3) b)/\(b=true->(zN l p2).pars<=(xH t).length):=by
 simp only[I6,I5];have sp:=qX t ht;by_cases c1:((yQ t).k !=6)=true;·exact⟨false,λL U e a=>sp.bind (zB.ifT c1 zB.ret),λL U e a=>sp.bind (zB.ifT c1 zB.ret),by simp⟩
 have c1':=(Bool.not_eq_true _).mp c1;by_cases c2:((yQ t).n !=p2)=true;·exact⟨false,λL U e a=>sp.bind (zB.ifF c1' (zB.ifT c2 zB.ret)),λL U e a=>sp.bind (zB.ifF c1' (zB.ifT c2 zB.ret)),by simp⟩
 have c2':=(Bool.not_eq_true _).mp c2;by_cases c3:(((xH t).length:Int)!=yB ((zN l p2).pars+(zN l p2).inds))=true;·exact⟨false,λL U e a=>sp.bind (zB.ifF c1' (zB.ifF c2' (zB.pure (yE h2.1 h2.2) (zB.ifT c3 zB.ret)))),λL U e a=>sp.bind (zB.ifF c1' (zB.ifF c2' (zB.pure (yE h2.1 h2.2) (zB.ifT c3 zB.ret)))),by simp⟩
 have c3':=(Bool.not_eq_true _).mp c3;have h3:((xH t).length:Int)=(zN l p2).pars+(zN l p2).inds:=by rw[zR (by omega) (by omega)]at c3;simpa using c3
 obtain⟨b,hb,hb'⟩:=J0 (l:=l) (pars:=pars) m1 m2 m3 m4 m5 m6 m7 q1 q2 q3 q4 q5 q6 q7 q8 q9 q10 q11 own p2 p3 (yQ t,xH t) h2 (zN l p2).pars.toNat (by omega) (by omega) (by show _<=(xH t).length;omega) _ 0 (Nat.zero_add _);exact⟨b,λL U e a=>sp.bind (zB.ifF c1' (zB.ifF c2' (zB.pure (yE h2.1 h2.2) (zB.ifF c3' (hb L U e a))))),λL U e a=>sp.bind (zB.ifF c1' (zB.ifF c2' (zB.pure (yE h2.1 h2.2) (zB.ifF c3' (hb' L U e a))))),λ_=>by omega⟩
theorem zAR(p2 p3:Int)(X:List Tm)(hX:X.length<=8192)(ho:xW X):∀(r:List Tm)(v:Nat)(e a a':Int),X.drop v=r->∃e' x y,(∀L U,zB (λq=>sJ q l q1 q2 q3 q4 q5 q6 q7 q8 q9 q10 q11 pars own p2 p3 L U X (v:Int) e a) (e',x,L,U))/\∀L U,zB (λq=>sH q l m1 m2 m3 m4 m5 m6 m7 pars p2 0 L U X (v:Int) e a') (e',y,L,U)
 |[],v,e,a,a',hd=>by
  refine⟨e,a,a',λL U=>zB.succ ?_,λL U=>zB.succ ?_⟩;·simp only[sJ];exact zB.ifF (zZ hd) zB.ret
  ·simp only[sH];exact zB.ifF (zZ hd) zB.ret|t::r,v,e,a,a',hd=>by have hlt:=yC hd;have hm:t∈X:=List.mem_of_mem_drop (hd▸List.mem_cons_self ..);obtain⟨b,hb,-⟩:=zJE t (ho t hm) p2;cases b with|true=>
   obtain⟨e',x,y,h,h'⟩:=zAR p2 p3 X hX ho r (v+1) (sM e a 9 p3).2.1 (sM e a 9 p3).2.2 (sM e a' 9 0).2.2 (zP hd);refine⟨e',x,y,λL U=>zB.succ ?_,λL U=>zB.succ ?_⟩
   ·simp only[sJ];rw[zS v (by omega)];exact zB.ifT (zX hd) (zB.pure (zU hd) (hb.bind (zB.ifT rfl ((zHD q1 q2 q3 q4 q5 q6 q7 q8 q9 q10 q11 own l pars L U e a 9 p3).bind (h L U)))))
   ·simp only[sH];rw[zS v (by omega)];refine zB.ifT (zX hd) (zB.pure (zU hd) (hb.bind (zB.ifT rfl ((I9 m1 m2 m3 m4 m5 m6 m7 l pars L U e a' 9 0).bind ?_))));have h:=h' L U;rw[zVN]at h⊢;exact h|false=>
   obtain⟨e',x,y,h,h'⟩:=zAR p2 p3 X hX ho r (v+1) e a a' (zP hd);refine⟨e',x,y,λL U=>zB.succ ?_,λL U=>zB.succ ?_⟩
   ·simp only[sJ];rw[zS v (by omega)];exact zB.ifT (zX hd) (zB.pure (zU hd) (hb.bind (zB.ifF rfl (h L U))))
   ·simp only[sH];rw[zS v (by omega)];exact zB.ifT (zX hd) (zB.pure (zU hd) (hb.bind (zB.ifF rfl (h' L U))))
include hS hp hpl
theorem zCS(p2 p3:Int)(h2:0<=p2/\p2<l.length)(hP:0<=(zN l p2).pars/\(zN l p2).pars<=24)(A:List Tm)(hA:∀t∈A,zJ t=true)(hAl:A.length<=24)(t:Tm)(ht:zJ t=true)(hpt:(zN l p2).pars<=(xH t).length):∀(r:List Tm)(v:Nat)(a f:Int),A.drop v=r->v<=A.length->0<=f->Ou (λL U q=>sK q l q1 q2 q3 q4 q5 q6 q7 q8 q9 q10 q11 pars own p2 p3 A A (A.length:Int) (v:Int) 0 a L U t.k t.n t.sub) zZy (QGc λa' L U q=>sI q l m1 m2 m3 m4 m5 m6 m7 pars p2 0 A A (A.length:Int) (v:Int) 0 a' L U t.k t.n t.sub) True f
 |[],v,a,f,hd,hv,hf=>by
  refine Ou.succ ?_;simp only[sK];have:=rT t (zO ht).2.2;have:=(zO ht).1;have sp:zB (λq=>jF q (Tm.mk t.k t.n t.sub)) (yQ t,xH t):=by rw[show Tm.mk t.k t.n t.sub=t by cases t;rfl];exact qX t ht
  obtain⟨r,hr,-⟩:=zNJ A p2 (zN l p2).pars (zN l p2).inds hAl hA;obtain⟨r1,r2⟩:=r;refine Ou.ifF (zZ hd) (Ou.pure (yE h2.1 h2.2) (Ou.evt hr (Ou.evtL (λL U=>sL q1 q2 q3 q4 q5 q6 q7 q8 q9 q10 q11 own l pars L U a r2 p3) (Ou.ite (λh=>Ou.ret hf (QGc.ne (by simpa using h))) λh=>?_))));have e0:r2=0:=by simpa using h
  subst e0;refine Ou.evt sp ?_;have gs:uL (xH t) (zN l p2).pars ((xH t).length:Int)=some ((xH t).drop (zN l p2).pars.toNat):=sE hP.1 (by omega);refine Ou.pure gs ?_;have fs:=λa a'=>zAR (l:=l) (pars:=pars) m1 m2 m3 m4 m5 m6 m7 q1 q2 q3 q4 q5 q6 q7 q8 q9 q10 q11 own p2 p3 ((xH t).drop (zN l p2).pars.toNat) (by rw[List.length_drop];omega) (λx hx=>yJ (xX ht (List.mem_of_mem_drop hx))) _ 0 0 a a' rfl;obtain⟨e',x,y,h1,-⟩:=fs a 0;refine Ou.cst hf h1 ⟨_,_,rfl,λhe a'=>?_⟩;subst he;obtain⟨e2,x2,y2,h3,h4⟩:=fs a a';have e2:e2=0:=by have:=(h3 0 0).det (h1 0 0);injection this
  subst e2;refine⟨y2,Ru.succ ?_⟩;simp only[sI];exact Ru.ifF (zZ hd) (Ru.pure (yE h2.1 h2.2) (Ru.evt hr (Ru.evtL (λL U=>I9 m1 m2 m3 m4 m5 m6 m7 l pars L U 0 a' 0 0) (Ru.ifF rfl (Ru.evt sp (Ru.pure gs (Ru.cst h4)))))))|x::r,v,a,f,hd,hv,hf=>by
  have hlt:=yC hd;have hm:x∈A:=List.mem_of_mem_drop (hd▸List.mem_cons_self ..);have go:=λ(a f:Int)(hf:0<=f)=>zCS p2 p3 h2 hP A hA hAl t ht hpt r (v+1) a f (zP hd) hlt hf;have g1:uL pars 0 (pars.length:Int)=some pars:=by unfold uL;rw[if_pos (by omega)];simp
  have g2:uL A 0 (v:Int)=some (A.take v):=by unfold uL;rw[if_pos (by omega)];simp
  refine Ou.succ ?_;simp only[sK];rw[zS v (by omega)];refine Ou.ifT (decide_eq_true (by omega)) (Ou.pure (zU hd) (Ou.pure g1 (Ou.pure g2 (Ou.pure (yA (by rw[List.length_take];omega)) (Ou.evtL (λL U=>zCR hS q1 q2 q3 q4 q5 q6 q7 q8 q9 q10 q11 own pars L U 0 a _) ?_)))));have ho:xW (pars++A.take v):=λy hy=>by
   rcases List.mem_append.1 hy with hy|hy;·exact hp y hy
   ·exact yJ (hA y (List.mem_of_mem_take hy))
  refine Ou.bind (hS.U (pars++A.take v) x (by rw[List.length_append,List.length_take];omega) ho (yJ (hA x hm)) f hf).own id (λr hr=>⟨_,zB.ifF (by have h:r.2.1=8:=hr;rw[h];rfl) ((sL q1 q2 q3 q4 q5 q6 q7 q8 q9 q10 q11 own l pars _ _ a r.2.1 p3).bind (zB.ifT (ne8 hr) zB.ret)),hr⟩) ?_;rintro R k k0 k1⟨⟨n,e,h8,rfl⟩,hu⟩;dsimp only;have e7:=λL U=>sL q1 q2 q3 q4 q5 q6 q7 q8 q9 q10 q11 own l pars L U a 7 p3;have e0':=λL U=>sL q1 q2 q3 q4 q5 q6 q7 q8 q9 q10 q11 own l pars L U a 0 p3;have ee:=λL U=>sL q1 q2 q3 q4 q5 q6 q7 q8 q9 q10 q11 own l pars L U a e p3;refine Ou.ite (λhe=>Ou.pure (yE h2.1 h2.2) ?_) λhe=>?_;by_cases hn:n>(zN l p2).level
  ·simp only[decide_eq_true hn,↓reduceIte];refine Ou.evtL e7 ?_;refine Ou.ite (λ_=>Ou.ret (by omega) (QGc.ne (by show(7:Int)≠0;decide))) λh=>by simp at h
  ·simp only[decide_eq_false hn,Bool.false_eq_true,↓reduceIte];have e0:e=0:=by simpa using he
   subst e0;refine Ou.evtL e0' ?_;refine Ou.ite (λh=>by simp at h) λ_=>?_;refine(go _ _ (by omega)).mono ?_ id;rintro R' k'- -⟨e,b,rfl,hc⟩;refine⟨e,b,rfl,λhe a'=>?_⟩;obtain⟨a2,ha2⟩:=hc he a';refine⟨a2,Ru.succ ?_⟩;simp only[sI];rw[zS v (by omega)];refine Ru.ifT (decide_eq_true (by omega)) (Ru.pure (zU hd) (Ru.pure g1 (Ru.pure g2 (Ru.pure (yA (by rw[List.length_take];omega)) (Ru.evtL (λL U=>P1 hS m1 m2 m3 m4 m5 m6 m7 pars L U 0 a' _) (Ru.bind hu ?_))))));dsimp only;refine Ru.ifT rfl (Ru.pure (yE h2.1 h2.2) ?_);simp only[decide_eq_false hn,Bool.false_eq_true,↓reduceIte];exact Ru.evtL (λL U=>I9 m1 m2 m3 m4 m5 m6 m7 l pars L U 0 a' 0 0) (Ru.ifF rfl ha2)
  ·refine Ou.evtL ee ?_;refine Ou.ite (λh=>Ou.ret (by omega) (QGc.ne (by simpa using h))) λh=>absurd h (by simpa using he)
theorem zRQ(p2 p3:Int)(h2:0<=p2/\p2<l.length)(hP:0<=(zN l p2).pars/\(zN l p2).pars<=24)(hI:0<=(zN l p2).inds/\(zN l p2).inds<=24)(t:Tm)(ho:t.Ok)(a f:Int)(hf:0<=f):Ou (λL U q=>I8 q l q1 q2 q3 q4 q5 q6 q7 q8 q9 q10 q11 L U pars own 0 a t p2 p3) zZy (QGc λa' L U q=>bS q l m1 m2 m3 m4 m5 m6 m7 L U pars 0 a' t p2 0) True f:=by
 simp only[I8];refine Ou.evtL (λL U=>zCR hS q1 q2 q3 q4 q5 q6 q7 q8 q9 q10 q11 own pars L U 0 a _) ?_;refine Ou.bind (hS.U pars t (by omega) hp ho f hf).own id (λr hr=>⟨_,(sL q1 q2 q3 q4 q5 q6 q7 q8 q9 q10 q11 own l pars _ _ a r.2.1 p3).bind (zB.ifT (ne8 hr) zB.ret),hr⟩) ?_;rintro R k k0 k1⟨⟨n,e,h8,rfl⟩,hu⟩;dsimp only;refine Ou.evtL (λL U=>sL q1 q2 q3 q4 q5 q6 q7 q8 q9 q10 q11 own l pars L U a e p3) (Ou.ite (λh=>Ou.ret (by omega) (QGc.ne (by simpa using h))) λhe=>?_);have e0:e=0:=by simpa using he
 subst e0;have six:∀(a:Int)Q,(∀a k,Q (λL U=>((6:Int),(a:Int),(L:Int),(U:Int))) k)->Ou (λL U q=>wU q l q1 q2 q3 q4 q5 q6 q7 q8 q9 q10 q11 L U pars own 0 a 6 p3>>=λr=>some (r.2.1,r.2.2,L,U)) zZy Q True (f-k):=λa Q hQ=>Ou.evtL (λL U=>sL q1 q2 q3 q4 q5 q6 q7 q8 q9 q10 q11 own l pars L U a 6 p3) (Ou.ret (by omega) (hQ _ _));have six':∀(C:Int->Int->Int->Nat->Option (Int×Int×Int×Int))a k',QGc C (λL U=>((6:Int),(a:Int),(L:Int),(U:Int))) k':=λC a k'=>QGc.ne (by decide);refine Ou.evt (mZ t ho) (Ou.ite (λ_=>six _ _ λ_ _=>six' _ _ _) λh=>Ou.ite (λ_=>six _ _ λ_ _=>six' _ _ _) λh24=>?_);obtain⟨A,y,e9,hw⟩:∃A y e9,yX t=(A,y,e9):=⟨_,_,_,rfl⟩;rw[hw]at h h24⊢;have h9:e9=0:=by simpa using h
 subst h9;obtain⟨-,-,w1,-,w2,w3⟩:=tL hw;dsimp only at h24⊢;obtain⟨b,hb,hbC,hb2⟩:=zHE (l:=l) (pars:=pars) m1 m2 m3 m4 m5 m6 m7 q1 q2 q3 q4 q5 q6 q7 q8 q9 q10 q11 own p2 (A.length:Int) y w2 h2 hP hI;refine Ou.evtL (λL U=>hb L U 0 _) (Ou.ite (λh=>?_) λ_=>six _ _ λ_ _=>six' _ _ _);refine(zCS hS m1 m2 m3 m4 m5 m6 m7 q1 q2 q3 q4 q5 q6 q7 q8 q9 q10 q11 own hp hpl p2 p3 h2 hP A w3 w1 y w2 (hb2 h) A 0 _ _ rfl (by omega) (by omega)).mono ?_ id;rintro R' k'- -⟨e,b',rfl,hc⟩;refine⟨e,b',rfl,λhe a'=>?_⟩;obtain⟨a2,ha2⟩:=hc he a';refine⟨a2,?_⟩;simp only[bS];refine Ru.evtL (λL U=>P1 hS m1 m2 m3 m4 m5 m6 m7 pars L U 0 a' _) (Ru.bind hu ?_);dsimp only;refine Ru.evtL (λL U=>I9 m1 m2 m3 m4 m5 m6 m7 l pars L U 0 a' 0 0) (Ru.ifF rfl (Ru.evt ((mZ t ho).eq hw) (Ru.ifF rfl (Ru.ifF h24 (Ru.evtL (λL U=>hbC L U 0 _) (Ru.ifT h ha2))))))
end
def rX:Nat->(List fZ)->Int->Int->ByteArray->(List zM)->Int->Int->ByteArray->Int->(List zG)->(List zM)->(List yO)->yI->(List ByteArray)->Int->yD->Int->Int->Int->Int->Option (yD×Int×Int×Int×Int)
 |0,_,_,_,_,_,_,_,_,_,_,_,_,_,_,_,_,_,_,_,_=>none|A+1,n,q,s,t,u,v,w,y,z,i,b,f,a,e,p,F,g,m,c,d=>if decide (p<(b.length:Int))then zL b p>>=λx2=>zNE A n e x2.type_>>=λr4=>if r4.2.2==2 then wU A n q s t u v w y z i b f c d a e g m r4.2.2 x2.at_>>=λr7=>if r7.1 then some ([],r7.2.1,r7.2.2,c,d)else I8 A n q s t u v w y z i b f c d a e r7.2.1 r7.2.2 r4.1 (yB ((n.length:Int)-1)) x2.at_>>=λr10=>if r10.1 !=0 then some ([],r10.1,r10.2.1,r10.2.2.1,r10.2.2.2)else zAH A a r4.1>>=λr13=>wU A n q s t u v w y z i b f r10.2.2.1 r10.2.2.2 a e r10.1 r10.2.1 r13.2 x2.at_>>=λr15=>if r15.1 then some ([],r15.2.1,r15.2.2,r10.2.2.1,r10.2.2.2)else yR 192 F [(yF.mk 2 x2.name_ r13.1 (Tm.mk 0 0 []) (yB ((n.length:Int)-1)) p (a.length:Int) 0 0 [] [])]>>=λl18=>rX A n q s t u v w y z i b f a e (yB (p+1)) l18 r15.2.1 r15.2.2 r10.2.2.1 r10.2.2.2 else wU A n q s t u v w y z i b f c d a e g m r4.2.2 r4.2.1>>=λr21=>if r21.1 then some ([],r21.2.1,r21.2.2,c,d)else I8 A n q s t u v w y z i b f c d a e r21.2.1 r21.2.2 r4.1 (yB ((n.length:Int)-1)) x2.at_>>=λr24=>if r24.1 !=0 then some ([],r24.1,r24.2.1,r24.2.2.1,r24.2.2.2)else zAH A a r4.1>>=λr27=>wU A n q s t u v w y z i b f r24.2.2.1 r24.2.2.2 a e r24.1 r24.2.1 r27.2 x2.at_>>=λr29=>if r29.1 then some ([],r29.2.1,r29.2.2,r24.2.2.1,r24.2.2.2)else yR 192 F [(yF.mk 2 x2.name_ r27.1 (Tm.mk 0 0 []) (yB ((n.length:Int)-1)) p (a.length:Int) 0 0 [] [])]>>=λl32=>rX A n q s t u v w y z i b f a e (yB (p+1)) l32 r29.2.1 r29.2.2 r24.2.2.1 r24.2.2.2 else some (F,g,m,c,d)
def zEG(A:Nat)(n:List fZ)(q s:Int)(t:ByteArray)(u:List zM)(v w:Int)(y:ByteArray)(z:Int)(i:List zG)(b:List zM)(f:List yO)(B C:Int)(a:yI)(e:List ByteArray)(D E:Int):Option (yD×Int×Int×Int×Int):=rX A n q s t u v w y z i b f a e 0 [] D E B C
theorem zJK:∀A:Nat,∀n q s t u v w y z i b f a e p F g m c d,Lz (rX A n q s t u v w y z i b f a e p F g m c d) 2 f76 (pt 16309 f76) (λj=>sp j 92 0 [(0,.mp 0 0),(3,ai (yB ((n.length:Int)-1))),(4,zC zV F (.st 0 15)),(21,zC zF b .no),(22,ai (b.length:Int)),(23,ai p)]) ⟨[(0,.cells [zC entZ n .no,ai q,ai s,at' t,zC zF u .no,ai v,ai w,at' y,ai z,zC zK i .no,zC zF b .no,zC zY f .no,.mp 1 0,zC zA a .no,zC xC e .no,ai g,ai m]),(1,.cells [ai c,ai d])],2,[0],1,[]⟩ (λr=>.sl (zH zV r.1) r.1.length .no) (λr=>[.cells [zC entZ n .no,ai q,ai s,at' t,zC zF u .no,ai v,ai w,at' y,ai z,zC zK i .no,zC zF b .no,zC zY f .no,.mp 1 0,zC zA a .no,zC xC e .no,ai r.2.1,ai r.2.2.1],.cells [ai r.2.2.2.1,ai r.2.2.2.2]]) 0 [.blk 0,.seq (pt 255 f76)]:=yS (λ_ _ _ _ _ _ _ _ _ _ _ _ _ _ _ _ _ _ _ _=>lN) λA ih=>λn q s t u v w y z i b f a e p F g m c d=>lw λ_=>rB 0 (rA 0 (zIJ (o:=.no)) λx2=>rS (oWk 2 (wkE n .no))<|rC 2 [] zVj λ_=>rB 4 (rK 1 [0,1] vG (λ_=>lE 0) λ_=>rC 2 [0,1] zLc λ_=>rB 1 (lE 0)<|rC 2 [] zAI λr13=>rK 4 [0,1] vG (λ_=>lE 0) λ_=>rH λ_ h19=>rZ (List.length [(yF.mk 2 x2.name_ r13.1 (Tm.mk 0 0 []) (yB ((n.length:Int)-1)) p (a.length:Int) 0 0 [] [])]=0) (λh20=>rS (oP 5 (zBY h19 h20))<|lH 1 [] [0,1] [0] [0,3,4,21,22,23] (ih _ _ _ _ _ _ _ _ _ _ _ _ _ _ _ _ _ _ _ _)) λh20=>rS (oP 5 (n8 h19 h20))<|lH 1 [] [0,1] [1] [0,3,4,21,22,23] (ih _ _ _ _ _ _ _ _ _ _ _ _ _ _ _ _ _ _ _ _))<|rK 0 [0,1] vG (λ_=>lE 0) λ_=>rC 2 [0,1] zLc λ_=>rB 1 (lE 0)<|rC 2 [] zAI λr27=>rK 4 [0,1] vG (λ_=>lE 0) λ_=>rH λ_ h33=>rZ (List.length [(yF.mk 2 x2.name_ r27.1 (Tm.mk 0 0 []) (yB ((n.length:Int)-1)) p (a.length:Int) 0 0 [] [])]=0) (λh34=>rS (oP 5 (zBY h33 h34))<|lH 1 [] [0,1] [0] [0,3,4,21,22,23] (ih _ _ _ _ _ _ _ _ _ _ _ _ _ _ _ _ _ _ _ _)) λh34=>rS (oP 5 (n8 h33 h34))<|lH 1 [] [0,1] [1] [0,3,4,21,22,23] (ih _ _ _ _ _ _ _ _ _ _ _ _ _ _ _ _ _ _ _ _))<|lE 0
theorem zVO{A n q s t u v w y z i b f B C a e D E}:Cz (zEG A n q s t u v w y z i b f B C a e D E) 76 [.cells [zC entZ n .no,ai q,ai s,at' t,zC zF u .no,ai v,ai w,at' y,ai z,zC zK i .no,zC zF b .no,zC zY f .no,.mp 1 0,zC zA a .no,zC xC e .no,ai D,ai E],.cells [ai B,ai C]] [.mp 0 0] (λr=>.sl (zH zV r.1) r.1.length .no) (λr=>[.cells [zC entZ n .no,ai q,ai s,at' t,zC zF u .no,ai v,ai w,at' y,ai z,zC zK i .no,zC zF b .no,zC zY f .no,.mp 1 0,zC zA a .no,zC xC e .no,ai r.2.1,ai r.2.2.1],.cells [ai r.2.2.2.1,ai r.2.2.2.2]]) 0:=fw func76<|rS (oWk 0 (wkE n .no))<|fH 4 [(none,4,15)] [0,1] [0] [0,3,4,21,22,23] (zJK _ _ _ _ _ _ _ _ _ _ _ _ _ _ _ _ _ _ _ _ _)
set_option linter.unusedSectionVars false
abbrev yEH(r:List yF×Int×Int×Int×Int):Int:=r.2.1
inductive CF(l:List yF)(pars:List Tm)(m1 m2:Int)(m3:ByteArray)(m4 m5:Int)(m6:ByteArray)(m7:Int):List yF->Int->Prop where|nil:CF l pars m1 m2 m3 m4 m5 m6 m7 [] 0|cons{x K t k k'}(h:x.type=piI pars t)(g:∀a',∃a2,Ru (λL U q=>bS q l m1 m2 m3 m4 m5 m6 m7 L U pars 0 a' t ((l.length:Int)-1) 0) (λL U=>(0,a2,L,U)) k)(r:CF l pars m1 m2 m3 m4 m5 m6 m7 K k'):CF l pars m1 m2 m3 m4 m5 m6 m7 (x::K) (k+k')
def QC(P:List yF->Int->Prop)(N:Nat)(acc:List yF)(R:Int->Int->List yF×Int×Int×Int×Int)(k:Int):Prop:=∃C e a,R=(λL U=>(C,e,a,L,U))/\(e=0->C.length<=N/\(∀x∈C,qK x/\M0 x)/\∃K,C=acc++K/\P K k)
theorem QC.ne{P:List yF->Int->Prop}{N:Nat}{acc C:List yF}{e a k:Int}(h:e≠0):QC P N acc (λL U=>(C,e,a,L,U)) k:=⟨C,e,a,rfl,λh'=>absurd h' h⟩
section
variable{l:List yF}(hS:kG l)(m1 m2:Int)(m3:ByteArray)(m4 m5:Int)(m6:ByteArray)(m7:Int)(q1 q2:Int)(q3:ByteArray)(q4:List zM)(q5 q6:Int)(q7:ByteArray)(q8:Int)(q9:List zG)(q10:List zM)(q11:List yO){pars:List Tm}(own:List ByteArray)(hp:xW pars)(hpl:pars.length<=24)
include hS hp hpl
theorem zCT(hb:bOk q10)(hbl:q10.length<=100000)(hown:own.length<=65535)(h0:0<l.length)(hP:0<=(zN l ((l.length:Int)-1)).pars/\(zN l ((l.length:Int)-1)).pars<=24)(hI:0<=(zN l ((l.length:Int)-1)).inds/\(zN l ((l.length:Int)-1)).inds<=24):∀(r:List zM)(v:Nat)(acc:List yF)(a f:Int),q10.drop v=r->v<=q10.length->acc.length<=v->(∀x∈acc,qK x/\M0 x)->0<=f->Ou (λL U q=>rX q l q1 q2 q3 q4 q5 q6 q7 q8 q9 q10 q11 pars own (v:Int) acc 0 a L U) yEH (QC (CF l pars m1 m2 m3 m4 m5 m6 m7) q10.length acc) True f
 |[],v,acc,a,f,hd,hv,ha,hx,hf=>by refine Ou.succ ?_;simp only[rX];exact Ou.ifF (zZ hd) (Ou.ret hf ⟨_,_,_,rfl,λ_=>⟨by omega,hx,[],by simp,.nil⟩⟩)|x::r,v,acc,a,f,hd,hv,ha,hx,hf=>by
  have hlt:=yC hd;have hm:x∈q10:=List.mem_of_mem_drop (hd▸List.mem_cons_self ..);have hl:=hS.hl;refine Ou.succ ?_;simp only[rX];rw[zS v (by omega),zR (x:=(l.length:Int)-1) (by omega) (by omega)];refine Ou.ifT (zX hd) (Ou.pure (zU hd) (Ou.tot (O9 l hS.hl hS.he own hown x.type_ (hb x hm)) λr4 hr4=>?_));obtain⟨t,p,e0⟩:=r4;have ht:t.Ok:=hr4.1;refine Ou.ite (λ_=>?_) (λ_=>?_)<;>
  ·refine Ou.evtL (λL U=>sL q1 q2 q3 q4 q5 q6 q7 q8 q9 q10 q11 own l pars L U a e0 _) ?_;refine Ou.ite (λh=>Ou.ret hf (QC.ne (by simpa using h))) λh=>?_;have e00:e0=0:=by simpa using h
   subst e00;refine Ou.bind (zRQ hS m1 m2 m3 m4 m5 m6 m7 q1 q2 q3 q4 q5 q6 q7 q8 q9 q10 q11 own hp hpl ((l.length:Int)-1) x.at_ ⟨by omega,by omega⟩ hP hI t ht _ f hf) id (λr h=>⟨_,zB.ifT (ne8 h) zB.ret,h⟩) ?_;rintro R k k0 k1⟨e,a',rfl,hfo⟩;dsimp only;refine Ou.ite (λh=>Ou.ret (by omega) (QC.ne (by simpa using h))) λh=>?_;have e00:e=0:=by simpa using h
   subst e00;refine Ou.tot (bI pars t hp ht) λs hs=>?_;obtain⟨s1,s2⟩:=s;refine Ou.evtL (λL U=>sL q1 q2 q3 q4 q5 q6 q7 q8 q9 q10 q11 own l pars L U a' s2 _) ?_;refine Ou.ite (λh=>Ou.ret (by omega) (QC.ne (by simpa using h))) λh=>?_;have e00:s2=0:=by simpa using h
   subst e00;refine Ou.pure (yA (by simp;omega)) ?_;have hx':∀y∈acc++[yF.mk 2 x.name_ s1 (Tm.mk 0 0 []) ((l.length:Int)-1) (v:Int) (pars.length:Int) 0 0 [] []],qK y/\M0 y:=λy hy=>by
    rcases List.mem_append.1 hy with hy|hy;·exact hx y hy
    ·rw[List.mem_singleton.1 hy];exact⟨⟨hs.1,lJ _ _,by simp,by simp⟩,by simp,by simp⟩
   refine(zCT hb hbl hown h0 hP hI r (v+1) _ _ _ (zP hd) hlt (by simp;omega) hx' (by omega)).mono ?_ id;rintro R' k'- -⟨C,e,a3,rfl,hc⟩;refine⟨C,e,a3,rfl,λhe=>?_⟩;obtain⟨c1,c2,K,c3,c4⟩:=hc he;rw[List.append_assoc]at c3;refine⟨c1,c2,_,c3,?_⟩;rw[List.singleton_append];exact CF.cons (hs.2.2 rfl).2 (hfo rfl) c4
end
def mG(i:Nat)(m:yD)(n p:Int)(q:ByteArray)(s:List zM)(t u:Int)(v:ByteArray)(w:Int)(y:List zG)(c:List zM)(d:List yO)(e f a b g z:Int):Option (Bool×Int×Int):=if a==0 then if g !=0 then some ((g !=0),g,z)else some ((a !=0),a,b)else some ((a !=0),a,b)
theorem gH{i m n p q s t u v w y c d e f a b g z}:Cz (mG i m n p q s t u v w y c d e f a b g z) 92 [.cells [zC zV m .no,ai n,ai p,at' q,zC zF s .no,ai t,ai u,at' v,ai w,zC zK y .no,zC zF c .no,zC zY d .no,.mp 1 0,zC zA ([]:yI) .nl,zC xC ([]:List ByteArray) .nl,ai a,ai b],.cells [ai e,ai f]] [.mp 0 0,ai g,ai z] (λr=>ab r.1) (λr=>[.cells [zC zV m .no,ai n,ai p,at' q,zC zF s .no,ai t,ai u,at' v,ai w,zC zK y .no,zC zF c .no,zC zY d .no,.mp 1 0,zC zA ([]:yI) .nl,zC xC ([]:List ByteArray) .nl,ai r.2.1,ai r.2.2],.cells [ai e,ai f]]) 0:=fw func92<|rB 1 (rB 0 (fG 4 [] [0,1] [] true)<|fG 2 [] [0,1] [] true)<|fG 2 [] [0,1] [] true
def Y4(z:Nat)(g:yD)(m n:Int)(p:ByteArray)(q:List zM)(s t:Int)(u:ByteArray)(v:Int)(w:List zG)(a:List zM)(b:List yO)(c d e f:Int)(y:yI):Option ((yI×yH×yI×Int×Int×yD×yH×yH×yD×tC)⊕(yI×yH×yI×Int×Int)):=e39 z g>>=λr1=>match r1 with|Sum.inl y7=>if y7 !=0 then mG z g m n p q s t u v w a b c d e f 5 0>>=λr9=>some (Sum.inr (y,[],[],r9.2.1,r9.2.2))else some (Sum.inr (y,[],[],e,f))|Sum.inr y3=>if y3.1 !=0 then mG z g m n p q s t u v w a b c d e f 5 0>>=λr5=>some (Sum.inl (y,[],[],r5.2.1,r5.2.2,y3.2.1,y3.2.2.1,y3.2.2.2.1,y3.2.2.2.2.1,y3.2.2.2.2.2))else some (Sum.inl (y,[],[],e,f,y3.2.1,y3.2.2.1,y3.2.2.2.1,y3.2.2.2.2.1,y3.2.2.2.2.2))
theorem zVP{z g m n p q s t u v w a b c d e f y}:Cz (Y4 z g m n p q s t u v w a b c d e f y) 49 [.cells [zC zV g .no,ai m,ai n,at' p,zC zF q .no,ai s,ai t,at' u,ai v,zC zK w .no,zC zF a .no,zC zY b .no,.mp 1 0,zC zA ([]:yI) .nl,zC xC ([]:List ByteArray) .nl,ai e,ai f],.cells [ai c,ai d]] [.mp 0 0,zC zA y .no] (Sum.elim (λx=>.agg [.mp 2 0,.mp 1 0,zC zA x.1 .no,zC zW x.2.1 .no,zC zA x.2.2.1 .no]) (λx=>.agg [.val (.pointer none),.mp 1 0,zC zA x.1 .no,zC zW x.2.1 .no,zC zA x.2.2.1 .no])) (Sum.elim (λx=>[.cells [zC zV g .no,ai m,ai n,at' p,zC zF q .no,ai s,ai t,at' u,ai v,zC zK w .no,zC zF a .no,zC zY b .no,.mp 1 0,zC zA ([]:yI) .nl,zC xC ([]:List ByteArray) .nl,ai x.2.2.2.1,ai x.2.2.2.2.1],.cells [ai c,ai d],.cells [zC zV x.2.2.2.2.2.1 .no,.mp 3 0,zC zW x.2.2.2.2.2.2.1 .no,zC zW x.2.2.2.2.2.2.2.1 .no],.cells [zC zV x.2.2.2.2.2.2.2.2.1 .no,zC sX x.2.2.2.2.2.2.2.2.2 .no]]) (λx=>[.cells [zC zV g .no,ai m,ai n,at' p,zC zF q .no,ai s,ai t,at' u,ai v,zC zK w .no,zC zF a .no,zC zY b .no,.mp 1 0,zC zA ([]:yI) .nl,zC xC ([]:List ByteArray) .nl,ai x.2.2.2.1,ai x.2.2.2.2],.cells [ai c,ai d]])) 0:=fw func49<|rC 1 [] c39<|pN (λ_=>rB 2 (rC 0 [0,1] gH λ_=>fG 2 [] [0,1] [] true)<|fG 2 [] [0,1] [] true) λ_=>rB 2 (rC 0 [0,1] gH λ_=>fG 2 [] [0,1,3,4] [] true)<|fG 2 [] [0,1,3,4] [] true
mutual def sN:Nat->yD->Int->Int->ByteArray->(List zM)->Int->Int->ByteArray->Int->(List zG)->(List zM)->(List yO)->Int->Int->(List zM)->(List ByteArray)->Int->Int->Int->Option (Int×Int)
 |0,_,_,_,_,_,_,_,_,_,_,_,_,_,_,_,_,_,_,_=>none|A+1,m,q,n,p,s,t,u,v,w,y,c,d,e,f,l3,z,g,a,b=>if decide (g<(l3.length:Int))then zL l3 g>>=λx7=>sO A m q n p s t u v w y c d e f l3 z g x7 0 a b else some (a,b)def sO:Nat->yD->Int->Int->ByteArray->(List zM)->Int->Int->ByteArray->Int->(List zG)->(List zM)->(List yO)->Int->Int->(List zM)->(List ByteArray)->Int->zM->Int->Int->Int->Option (Int×Int)
 |0,_,_,_,_,_,_,_,_,_,_,_,_,_,_,_,_,_,_,_,_,_=>none|A+1,m,q,n,p,s,t,u,v,w,y,c,d,e,f,l3,z,g,x7,i,a,b=>if decide (i<(z.length:Int))then zL z i>>=λx10=>if x10.toList==x7.name_.toList then mG A m q n p s t u v w y c d e f a b 4 x7.at_>>=λr13=>sO A m q n p s t u v w y c d e f l3 z g x7 (yB (i+1)) r13.2.1 r13.2.2 else sO A m q n p s t u v w y c d e f l3 z g x7 (yB (i+1)) a b else yR 16 z [x7.name_]>>=λl15=>sN A m q n p s t u v w y c d e f l3 l15 (yB (g+1)) a b end
def Y5(A:Nat)(m:yD)(q n:Int)(p:ByteArray)(s:List zM)(t u:Int)(v:ByteArray)(w:Int)(y:List zG)(c:List zM)(d:List yO)(e f B C:Int):Option (Int×Int):=e88 A m>>=λr1=>yR 88 [(zM.mk p n (zG.mk 0 0 (⟨#[]⟩:ByteArray) 0 []))] c>>=λl3=>sN A m q n p s t u v w y c d e f l3 r1 0 B C
theorem nG:∀A:Nat,(∀m q n p s t u v w y c d e f l3 z g a b,Lz (sN A m q n p s t u v w y c d e f l3 z g a b) 2 f73 (pt 1013 f73) (λj=>sp j 58 0 [(0,.mp 0 0),(2,zC xC z (.st 0 1)),(31,zC zF l3 .full),(32,ai (l3.length:Int)),(33,ai g)]) ⟨[(0,.cells [zC zV m .no,ai q,ai n,at' p,zC zF s .no,ai t,ai u,at' v,ai w,zC zK y .no,zC zF c .no,zC zY d .no,.mp 1 0,zC zA ([]:yI) .nl,zC xC ([]:List ByteArray) .nl,ai a,ai b]),(1,.cells [ai e,ai f])],2,[0],1,[]⟩ (λ_=>.tup []) (λr=>[.cells [zC zV m .no,ai q,ai n,at' p,zC zF s .no,ai t,ai u,at' v,ai w,zC zK y .no,zC zF c .no,zC zY d .no,.mp 1 0,zC zA ([]:yI) .nl,zC xC ([]:List ByteArray) .nl,ai r.1,ai r.2],.cells [ai e,ai f]]) 0 [.blk 0]/\Lz (sN A m q n p s t u v w y c d e f l3 z g a b) 2 f73 (pt 1013 f73) (λj=>sp j 58 0 [(0,.mp 0 0),(2,zC xC z (.st 0 1)),(31,zC zF l3 (.st 1 7)),(32,ai (l3.length:Int)),(33,ai g)]) ⟨[(0,.cells [zC zV m .no,ai q,ai n,at' p,zC zF s .no,ai t,ai u,at' v,ai w,zC zK y .no,zC zF c .no,zC zY d .no,.mp 1 0,zC zA ([]:yI) .nl,zC xC ([]:List ByteArray) .nl,ai a,ai b]),(1,.cells [ai e,ai f])],2,[0,1],2,[]⟩ (λ_=>.tup []) (λr=>[.cells [zC zV m .no,ai q,ai n,at' p,zC zF s .no,ai t,ai u,at' v,ai w,zC zK y .no,zC zF c .no,zC zY d .no,.mp 1 0,zC zA ([]:yI) .nl,zC xC ([]:List ByteArray) .nl,ai r.1,ai r.2],.cells [ai e,ai f]]) 0 [.blk 0])/\(∀m q n p s t u v w y c d e f l3 z g x7 i a b,Lz (sO A m q n p s t u v w y c d e f l3 z g x7 i a b) 2 f73 (pt 265807797 f73) (λj=>sp j 58 0 [(0,.mp 0 0),(2,zC xC z (.st 0 1)),(5,.mp 2 0),(31,zC zF l3 .full),(32,ai (l3.length:Int)),(33,ai g),(37,zC xC z (.st 0 1)),(38,ai (z.length:Int)),(39,ai i)]) ⟨[(0,.cells [zC zV m .no,ai q,ai n,at' p,zC zF s .no,ai t,ai u,at' v,ai w,zC zK y .no,zC zF c .no,zC zY d .no,.mp 1 0,zC zA ([]:yI) .nl,zC xC ([]:List ByteArray) .nl,ai a,ai b]),(1,.cells [ai e,ai f]),(2,.cells [at' x7.name_,ai x7.at_,ai x7.type_.kind_,ai x7.type_.at_,at' x7.type_.name_,ai x7.type_.n_,zC zK x7.type_.sub_ .no])],3,[0],1,[]⟩ (λ_=>.tup []) (λr=>[.cells [zC zV m .no,ai q,ai n,at' p,zC zF s .no,ai t,ai u,at' v,ai w,zC zK y .no,zC zF c .no,zC zY d .no,.mp 1 0,zC zA ([]:yI) .nl,zC xC ([]:List ByteArray) .nl,ai r.1,ai r.2],.cells [ai e,ai f]]) 0 [.blk 2,.seq (pt 4153247 f73),.blk 1,.seq (pt 64895 f73),.loop (pt 1013 f73),.blk 0]/\Lz (sO A m q n p s t u v w y c d e f l3 z g x7 i a b) 2 f73 (pt 265807797 f73) (λj=>sp j 58 0 [(0,.mp 0 0),(2,zC xC z (.st 0 1)),(5,.mp 2 0),(31,zC zF l3 (.st 1 7)),(32,ai (l3.length:Int)),(33,ai g),(37,zC xC z (.st 0 1)),(38,ai (z.length:Int)),(39,ai i)]) ⟨[(0,.cells [zC zV m .no,ai q,ai n,at' p,zC zF s .no,ai t,ai u,at' v,ai w,zC zK y .no,zC zF c .no,zC zY d .no,.mp 1 0,zC zA ([]:yI) .nl,zC xC ([]:List ByteArray) .nl,ai a,ai b]),(1,.cells [ai e,ai f]),(2,.cells [at' x7.name_,ai x7.at_,ai x7.type_.kind_,ai x7.type_.at_,at' x7.type_.name_,ai x7.type_.n_,zC zK x7.type_.sub_ .no])],3,[0,1],2,[]⟩ (λ_=>.tup []) (λr=>[.cells [zC zV m .no,ai q,ai n,at' p,zC zF s .no,ai t,ai u,at' v,ai w,zC zK y .no,zC zF c .no,zC zY d .no,.mp 1 0,zC zA ([]:yI) .nl,zC xC ([]:List ByteArray) .nl,ai r.1,ai r.2],.cells [ai e,ai f]]) 0 [.blk 2,.seq (pt 4153247 f73),.blk 1,.seq (pt 64895 f73),.loop (pt 1013 f73),.blk 0]):=yS ⟨λ_ _ _ _ _ _ _ _ _ _ _ _ _ _ _ _ _ _ _=>⟨lN,lN⟩,λ_ _ _ _ _ _ _ _ _ _ _ _ _ _ _ _ _ _ _ _ _=>⟨lN,lN⟩⟩ λA ih=>⟨λm q n p s t u v w y c d e f l3 z g a b=>⟨lw λ_=>rB 0 (rA 0 (zIJ (o:=.full)) λ_=>lH 3 [] [0,1,2] [0] [0,2,5,31,32,33,37,38,39] ((ih.2 _ _ _ _ _ _ _ _ _ _ _ _ _ _ _ _ _ _ _ _ _).1))<|lG 0 [] [0,1] [] true,lw λ_=>rB 0 (rA 0 (zIJ (o:=(.st 1 7))) λ_=>lH 3 [] [0,1,2] [0,1] [0,2,5,31,32,33,37,38,39] ((ih.2 _ _ _ _ _ _ _ _ _ _ _ _ _ _ _ _ _ _ _ _ _).2))<|lG 0 [] [0,1] [] true⟩,λm q n p s t u v w y c d e f l3 z g x7 i a b=>⟨lw λ_=>rB 0 (rA 0 (zIK (o:=(.st 0 1))) λ_=>rB 2 (rC 1 [0,1] gH λ_=>lH 1 [] [0,1,2] [0] [0,2,5,31,32,33,37,38,39] ((ih.2 _ _ _ _ _ _ _ _ _ _ _ _ _ _ _ _ _ _ _ _ _).1))<|lH 1 [] [0,1,2] [0] [0,2,5,31,32,33,37,38,39] ((ih.2 _ _ _ _ _ _ _ _ _ _ _ _ _ _ _ _ _ _ _ _ _).1))<|rW (λh16=>oP 2 (S5 h16 (by simp))) λ_=>lH 1 [] [0,1] [1] [0,2,31,32,33] ((ih.1 _ _ _ _ _ _ _ _ _ _ _ _ _ _ _ _ _ _ _).1),lw λ_=>rB 0 (rA 0 (zIK (o:=(.st 0 1))) λ_=>rB 2 (rC 1 [0,1] gH λ_=>lH 1 [] [0,1,2] [0,1] [0,2,5,31,32,33,37,38,39] ((ih.2 _ _ _ _ _ _ _ _ _ _ _ _ _ _ _ _ _ _ _ _ _).2))<|lH 1 [] [0,1,2] [0,1] [0,2,5,31,32,33,37,38,39] ((ih.2 _ _ _ _ _ _ _ _ _ _ _ _ _ _ _ _ _ _ _ _ _).2))<|rW (λh16=>oP 2 (S5 h16 (by simp))) λ_=>lH 1 [] [0,1] [2,1] [0,2,31,32,33] ((ih.1 _ _ _ _ _ _ _ _ _ _ _ _ _ _ _ _ _ _ _).2)⟩⟩
theorem zVQ{A m q n p s t u v w y c d e f B C}:Cz (Y5 A m q n p s t u v w y c d e f B C) 73 [.cells [zC zV m .no,ai q,ai n,at' p,zC zF s .no,ai t,ai u,at' v,ai w,zC zK y .no,zC zF c .no,zC zY d .no,.mp 1 0,zC zA ([]:yI) .nl,zC xC ([]:List ByteArray) .nl,ai B,ai C],.cells [ai e,ai f]] [.mp 0 0] (λ_=>.tup []) (λr=>[.cells [zC zV m .no,ai q,ai n,at' p,zC zF s .no,ai t,ai u,at' v,ai w,zC zK y .no,zC zF c .no,zC zY d .no,.mp 1 0,zC zA ([]:yI) .nl,zC xC ([]:List ByteArray) .nl,ai r.1,ai r.2],.cells [ai e,ai f]]) 0:=fw func73<|rC 1 [] c88 λ_=>rH λ_ h4=>rZ (List.length c=0) (λh5=>rS (oP 4 (yAd h4 h5))<|fH 1 [] [0,1] [0] [0,2,31,32,33] ((((nG _).1) _ _ _ _ _ _ _ _ _ _ _ _ _ _ _ _ _ _ _).1)) λh5=>rS (oP 4 (zPg h4 h5))<|fH 1 [] [0,1] [0,1] [0,2,31,32,33] ((((nG _).1) _ _ _ _ _ _ _ _ _ _ _ _ _ _ _ _ _ _ _).2)
def rY:Nat->yD->Int->Int->ByteArray->(List zM)->Int->Int->ByteArray->Int->(List zG)->(List zM)->(List yO)->(yI×List ByteArray×Int×Int)->Int->Int->Int->Int->Int->Option (yI×List ByteArray×Int×Int×Int×Int)|0,_,_,_,_,_,_,_,_,_,_,_,_,_,_,_,_,_,_=>none|A+1,q,t,s,u,g,v,w,y,z,i,a,b,r1,m,c,d,e,f=>if decide (m<(r1.1.length:Int))then zL r1.1 m>>=λx8=>uL r1.1 0 m>>=λx10=>Y4 A q t s u g v w y z i a b e f c d x10>>=λr12=>match r12 with|Sum.inl y14=>e98 A (xT.mk y14.2.2.2.2.2.1 y14.2.2.2.2.2.2.2.2.1 y14.2.2.2.2.2.2.2.2.2 y14.2.2.2.2.2.2.1 y14.2.2.2.2.2.2.2.1) e f y14.1 y14.2.1 y14.2.2.1 x8>>=λr15=>zL g m>>=λx17=>mG A q t s u g v w y z i a b r15.2.2.1 r15.2.2.2 y14.2.2.2.1 y14.2.2.2.2.1 r15.2.1 x17.at_>>=λr19=>if r19.1 then some ([],[],r19.2.1,r19.2.2,r15.2.2.1,r15.2.2.2)else rY A q t s u g v w y z i a b r1 (yB (m+1)) r19.2.1 r19.2.2 r15.2.2.1 r15.2.2.2|Sum.inr y22=>none else some (r1.1,r1.2.1,c,d,e,f)
def Y6(A:Nat)(q:yD)(t s:Int)(u:ByteArray)(g:List zM)(v w:Int)(y:ByteArray)(z:Int)(i:List zG)(a:List zM)(b:List yO)(n p B C:Int):Option (yI×List ByteArray×Int×Int×Int×Int):=zVi A q [] g>>=λr1=>if r1.2.2.2==2 then mG A q t s u g v w y z i a b n p B C r1.2.2.2 s>>=λr4=>if r4.1 then some ([],[],r4.2.1,r4.2.2,n,p)else rY A q t s u g v w y z i a b r1 0 r4.2.1 r4.2.2 n p else mG A q t s u g v w y z i a b n p B C r1.2.2.2 r1.2.2.1>>=λr7=>if r7.1 then some ([],[],r7.2.1,r7.2.2,n,p)else rY A q t s u g v w y z i a b r1 0 r7.2.1 r7.2.2 n p
theorem zAS:∀A:Nat,∀q t s u g v w y z i a b r1 m c d e f,Lz (rY A q t s u g v w y z i a b r1 m c d e f) 2 f74 (pt 16309 f74) (λj=>sp j 75 0 [(0,.mp 0 0),(2,zC zA r1.1 .no),(3,zC xC r1.2.1 .no),(36,zC zA r1.1 .no),(37,ai (r1.1.length:Int)),(38,ai m)]) ⟨[(0,.cells [zC zV q .no,ai t,ai s,at' u,zC zF g .no,ai v,ai w,at' y,ai z,zC zK i .no,zC zF a .no,zC zY b .no,.mp 1 0,zC zA ([]:yI) .nl,zC xC ([]:List ByteArray) .nl,ai c,ai d]),(1,.cells [ai e,ai f])],2,[],0,[]⟩ (λ_=>.tup []) (λr=>[.cells [zC zV q .no,ai t,ai s,at' u,zC zF g .no,ai v,ai w,at' y,ai z,zC zK i .no,zC zF a .no,zC zY b .no,.mp 1 0,zC zA r.1 .no,zC xC r.2.1 .no,ai r.2.2.1,ai r.2.2.2.1],.cells [ai r.2.2.2.2.1,ai r.2.2.2.2.2]]) 0 [.blk 0,.seq (pt 255 f74)]:=yS (λ_ _ _ _ _ _ _ _ _ _ _ _ _ _ _ _ _ _=>lN) λA ih=>λq t s u g v w y z i a b r1 m c d e f=>lw λ_=>rB 0 (rA 0 (yP (o:=.no)) λ_=>rA 2 (jE (o:=.no)) λ_=>rC 0 [0,1] zVP<|pN (λ_=>rC 1 [3,4,1] c98 λ_=>rA 3 (zIJ (o:=.no)) λ_=>rK 1 [0,1] gH (λ_=>lE 0) λ_=>lH 1 [] [0,1] [] [0,2,3,36,37,38] (ih _ _ _ _ _ _ _ _ _ _ _ _ _ _ _ _ _ _)) λ_=>rN)<|lE 2
theorem zVR{A q t s u g v w y z i a b n p B C}:Cz (Y6 A q t s u g v w y z i a b n p B C) 74 [.cells [zC zV q .no,ai t,ai s,at' u,zC zF g .no,ai v,ai w,at' y,ai z,zC zK i .no,zC zF a .no,zC zY b .no,.mp 1 0,zC zA ([]:yI) .nl,zC xC ([]:List ByteArray) .nl,ai B,ai C],.cells [ai n,ai p]] [.mp 0 0] (λ_=>.tup []) (λr=>[.cells [zC zV q .no,ai t,ai s,at' u,zC zF g .no,ai v,ai w,at' y,ai z,zC zK i .no,zC zF a .no,zC zY b .no,.mp 1 0,zC zA r.1 .no,zC xC r.2.1 .no,ai r.2.2.1,ai r.2.2.2.1],.cells [ai r.2.2.2.2.1,ai r.2.2.2.2.2]]) 0:=fw func74<|rC 2 [] yEb λ_=>rB 4 (rK 1 [0,1] gH (λ_=>fE 0) λ_=>fH 1 [] [0,1] [] [0,2,3,36,37,38] (zAS _ _ _ _ _ _ _ _ _ _ _ _ _ _ _ _ _ _ _))<|rK 0 [0,1] gH (λ_=>fE 0) λ_=>fH 1 [] [0,1] [] [0,2,3,36,37,38] (zAS _ _ _ _ _ _ _ _ _ _ _ _ _ _ _ _ _ _ _)
def pW:Nat->(List fZ)->Int->Int->ByteArray->(List zM)->Int->Int->ByteArray->Int->(List zG)->(List zM)->(List yO)->Int->Int->yI->(List ByteArray)->Int->Int->yD->yD->yF->Int->yH->Option (yD×Int×Int)|0,_,_,_,_,_,_,_,_,_,_,_,_,_,_,_,_,_,_,_,_,_,_,_=>none|E+1,s,v,t,w,y,z,i,A,B,C,b,c,d,e,f,g,m,p,D,u,x1,q,a=>if decide (q<(u.length:Int))then yR 8 a [(yB ((yB ((D.length:Int)+1))+q))]>>=λl5=>pW E s v t w y z i A B C b c d e f g m p D u x1 (yB (q+1)) l5 else yR 192 [(yF.mk x1.kind x1.name x1.type x1.body x1.fam x1.place x1.pars x1.inds x1.level a x1.fields)] u>>=λl7=>e61 E D l7>>=λr10=>wU E s v t w y z i A B C b c d e f g m p r10.2 t>>=λr12=>some (r10.1,r12.2.1,r12.2.2)
def Y7(E:Nat)(s:List fZ)(v t:Int)(w:ByteArray)(y:List zM)(z i:Int)(A:ByteArray)(B:Int)(C:List zG)(b:List zM)(c:List yO)(d e:Int)(f:yI)(g:List ByteArray)(m p:Int)(D u:yD):Option (yD×Int×Int):=zL s (D.length:Int)>>=λx1=>if List.isEmpty x1.cons then pW E s v t w y z i A B C b c d e f g m p D u x1 0 []else none
theorem zJL:∀E:Nat,∀s v t w y z i A B C b c d e f g m p D u x1 q a,Lz (pW E s v t w y z i A B C b c d e f g m p D u x1 q a) 2 f77 (pt 4021 f77) (λj=>sp j 53 0 [(0,.mp 0 0),(1,zC zV D .no),(2,zC zV u .no),(7,.mp 2 0),(20,ai (u.length:Int)),(21,ai q)]) ⟨[(0,.cells [zC entZ s .no,ai v,ai t,at' w,zC zF y .no,ai z,ai i,at' A,ai B,zC zK C .no,zC zF b .no,zC zY c .no,.mp 1 0,zC zA f .no,zC xC g .no,ai m,ai p]),(1,.cells [ai d,ai e]),(2,.cells [ai x1.kind,at' x1.name,ai x1.type.k,ai x1.type.n,zC zA x1.type.sub .no,ai x1.body.k,ai x1.body.n,zC zA x1.body.sub .no,ai x1.fam,ai x1.place,ai x1.pars,ai x1.inds,ai x1.level,zC zW a (.st 0 1),zC zW x1.fields .no])],3,[0],1,[]⟩ (λr=>.sl (zH zV r.1) r.1.length .no) (λr=>[.cells [zC entZ s .no,ai v,ai t,at' w,zC zF y .no,ai z,ai i,at' A,ai B,zC zK C .no,zC zF b .no,zC zY c .no,.mp 1 0,zC zA f .no,zC xC g .no,ai r.2.1,ai r.2.2],.cells [ai d,ai e]]) 0 [.blk 0,.seq (pt 63 f77)]:=yS (λ_ _ _ _ _ _ _ _ _ _ _ _ _ _ _ _ _ _ _ _ _ _ _=>lN) λE ih=>λs v t w y z i A B C b c d e f g m p D u x1 q a=>lw λ_=>rB 0 (rW (λh6=>oP 5 (tY h6 (by simp))) λ_=>lH 2 [] [0,1,2] [1] [0,1,2,7,20,21] (ih _ _ _ _ _ _ _ _ _ _ _ _ _ _ _ _ _ _ _ _ _ _ _))<|rH λ_ h8=>rZ (List.length u=0) (λh9=>rS (oP 2 (zBY h8 h9))<|rC 0 [] c61 λr10=>rS (oWk 0 (wkE r10.1 .no))<|rC 2 [0,1] vG λ_=>lE 0) λh9=>rS (oP 2 (n8 h8 h9))<|rC 0 [] c61 λr10=>rS (oWk 0 (wkE r10.1 .no))<|rC 2 [0,1] vG λ_=>lE 0
theorem zVS{E s v t w y z i A B C b c d e f g m p D u}:Cz (Y7 E s v t w y z i A B C b c d e f g m p D u) 77 [.cells [zC entZ s .no,ai v,ai t,at' w,zC zF y .no,ai z,ai i,at' A,ai B,zC zK C .no,zC zF b .no,zC zY c .no,.mp 1 0,zC zA f .no,zC xC g .no,ai m,ai p],.cells [ai d,ai e]] [.mp 0 0,zC zV D .no,zC zV u .no] (λr=>.sl (zH zV r.1) r.1.length .no) (λr=>[.cells [zC entZ s .no,ai v,ai t,at' w,zC zF y .no,ai z,ai i,at' A,ai B,zC zK C .no,zC zF b .no,zC zY c .no,.mp 1 0,zC zA f .no,zC xC g .no,ai r.2.1,ai r.2.2],.cells [ai d,ai e]]) 0:=fw func77<|rA 2 (yAE (o:=.no)) λ_=>rI (λh3=>rS (oWk 0 (wkC h3))<|fH 2 [(some 2,13,1)] [0,1,2] [0] [0,1,2,7,20,21] (zJL _ _ _ _ _ _ _ _ _ _ _ _ _ _ _ _ _ _ _ _ _ _ _ _)) λ_=>rN
set_option linter.unusedSectionVars false
def TV{α:Type}(f:Int->Int->Nat->Option α)(P:α->Prop):Prop:=∃a,P a/\∀L U,zB (f L U) a
section
variable{α β:Type}{P:α->Prop}{Q:β->Prop}
theorem TV.ret{r:α}(h:P r):TV (λ_ _ _=>some r) P:=⟨r,h,λ_ _=>zB.ret⟩
theorem TV.succ{f:Int->Int->Nat->Option α}(h:TV (λL U q=>f L U (q+1)) P):TV f P:=by obtain⟨r,p,h⟩:=h;exact⟨r,p,λL U=>(h L U).succ⟩
theorem TV.tot{x:Nat->Option β}{c:Int->Int->Nat->β->Option α}(h:zD x Q)(g:∀a,Q a->TV (λL U q=>c L U q a) P):TV (λL U q=>x q>>=c L U q) P:=by obtain⟨a,h,q⟩:=h;obtain⟨r,p,g⟩:=g a q;exact⟨r,p,λL U=>h.bind (g L U)⟩
theorem TV.evt{x:Int->Int->Nat->Option β}{a:β}{c:Int->Int->Nat->β->Option α}(h:∀L U,zB (x L U) a)(g:TV (λL U q=>c L U q a) P):TV (λL U q=>x L U q>>=c L U q) P:=by obtain⟨r,p,g⟩:=g;exact⟨r,p,λL U=>(h L U).bind (g L U)⟩
theorem TV.pure{x:Option β}{a:β}{c:Int->Int->Nat->β->Option α}(h:x=some a)(g:TV (λL U q=>c L U q a) P):TV (λL U q=>x>>=c L U q) P:=by obtain⟨r,p,g⟩:=g;exact⟨r,p,λL U=>zB.pure h (g L U)⟩
theorem TV.ite{b:Bool}{f g:Int->Int->Nat->Option α}(h:b=true->TV f P)(k:b=false->TV g P):TV (λL U q=>if b=true then f L U q else g L U q) P:=by cases b with|true=>obtain⟨r,p,g⟩:=h rfl;exact⟨r,p,λL U=>zB.ifT rfl (g L U)⟩|false=>obtain⟨r,p,g⟩:=k rfl;exact⟨r,p,λL U=>zB.ifF rfl (g L U)⟩
end
theorem zAT(l:List yF)(hl:l.length<=65535):∀(r:List yF)(v:Nat)(acc:List ByteArray),l.drop v=r->acc.length<=v->v<=l.length->zD (λq=>iR q l acc (v:Int)) λr=>r.length<=65535|[],v,acc,hd,ha,hv=>by refine zD.succ ?_;simp only[iR];exact zD.ite (λh=>by rw[zZ hd]at h;cases h) λ_=>zD.ret (by omega)|x::r,v,acc,hd,ha,hv=>by have hlt:=yC hd;refine zD.succ ?_;simp only[iR];rw[zS v (by omega)];exact zD.ite (λ_=>zD.pure (zU hd) (zD.pure (yA (by simp;omega)) (zAT l hl r (v+1) _ (zP hd) (by simp;omega) hlt))) λh=>by rw[zX hd]at h;cases h
inductive PU(l:List yF):List Tm->List Tm->Int->Prop where|nil{ctx}:PU l ctx [] 0|cons{ctx x r k k' n}(h:Ru (λL U q=>e98 q (xQ l) L U ctx [] [] x) (λL U=>(n,0,L,U)) k)(g:PU l (ctx++[x]) r k'):PU l ctx (x::r) (k+k')
abbrev yBP(r:List Tm×List ByteArray×Int×Int×Int×Int):Int:=r.2.2.1
def QPa(P:List Tm->Int->Prop)(R:Int->Int->List Tm×List ByteArray×Int×Int×Int×Int)(k:Int):Prop:=∃T n e a,R=(λL U=>(T,n,e,a,L,U))/\(e=0->xW T/\T.length<=24/\n.length<=24/\P T k)
section
variable{l:List yF}(hS:kG l)(q1 q2:Int)(q3:ByteArray)(q4:List zM)(q5 q6:Int)(q7:ByteArray)(q8:Int)(q9:List zG)(q10:List zM)(q11:List yO)(pars:List Tm)(own:List ByteArray)
theorem J1(L U e a p at0:Int):zB (λq=>mG q l q1 q2 q3 q4 q5 q6 q7 q8 q9 q10 q11 L U e a p at0) (sM e a p at0):=by
 simp only[mG];unfold sM;by_cases h:e=0
 ·subst h;rw[if_pos rfl];refine zB.ifT rfl ?_;by_cases h:p=0;·subst h;exact zB.ifF rfl zB.ret
  ·rw[if_neg h];exact zB.ifT (by simpa using h) (zB.ret.eq (by rw[show(p !=0)=true by simpa using h]))
 ·rw[if_neg h];exact zB.ifF (by simpa using h) (zB.ret.eq (by rw[show(e !=0)=true by simpa using h]))
def qG(n k:Nat):List Int:=(List.range k).map λi=>((n+1+i:Nat):Int)
theorem zEH(n k:Nat):(qG n k).length=k:=by simp[qG]
def WhP(p1 p2:List yF)(x:yF)(r:List yF×Int×Int):Prop:=r.2.1=0->r.1=p1++([yF.mk x.kind x.name x.type x.body x.fam x.place x.pars x.inds x.level (qG p1.length p2.length) x.fields]++p2)/\(∀x∈r.1,qK x/\M0 x)/\r.1.length<=65535/\zB (λq=>cV q r.1) true
theorem zCU(p1 p2:List yF)(x:yF)(hx:qK x/\M0 x)(hl:p1.length+1+p2.length<=65535)(h1:∀e∈p1,qK e/\M0 e)(h2:∀e∈p2,qK e/\M0 e)(a:Int):∀(r:List yF)(v:Nat),p2.drop v=r->v<=p2.length->TV (λL U q=>pW q l q1 q2 q3 q4 q5 q6 q7 q8 q9 q10 q11 L U pars own 0 a p1 p2 x (v:Int) (qG p1.length v)) (WhP p1 p2 x)
 |[],v,hd,hv=>by
  refine TV.succ ?_;simp only[pW];have hv':p2.length<=v:=List.drop_eq_nil_iff.1 hd;have hv:v=p2.length:=by omega
  subst hv;have hn:=zEH p1.length p2.length;refine TV.ite (λh=>by rw[zZ hd]at h;cases h) λ_=>TV.pure (yA (by simp;omega)) ?_;have hh:∀e∈p1++([yF.mk x.kind x.name x.type x.body x.fam x.place x.pars x.inds x.level (qG p1.length p2.length) x.fields]++p2),qK e/\M0 e:=λe he=>by
   rcases List.mem_append.1 he with he|he;·exact h1 e he
   ·rcases List.mem_append.1 he with he|he
    ·rw[List.mem_singleton.1 he];exact⟨⟨hx.1.1,hx.1.2.1,by show(qG p1.length p2.length).length<=_;omega,hx.1.2.2.2⟩,by show(qG p1.length p2.length).length<=_;omega,hx.2.2⟩
    ·exact h2 e he
  refine TV.tot (zHd p1 _ (by simp;omega) (by simp;omega) (λe h=>(hh e h).1) λe h=>(hh e h).2) λr hr=>?_;obtain⟨r1,r2⟩:=r;refine TV.evt (λL U=>zHD q1 q2 q3 q4 q5 q6 q7 q8 q9 q10 q11 own l pars L U 0 a r2 q2) (TV.ret λh=>?_);have:r2=0:=by
   by_cases h0:r2=0;·exact h0
   ·unfold sM at h;simp only[h0,if_false,↓reduceIte]at h
  obtain⟨e1,e2⟩:=hr.2 this;dsimp only at e1;subst e1;exact⟨rfl,hh,by simp;omega,e2⟩|y::r,v,hd,hv=>by
  have hlt:=yC hd;have hn:=zEH p1.length v;have ih:=zCU p1 p2 x hx hl h1 h2 a r (v+1) (zP hd) hlt;refine TV.succ ?_;simp only[pW];rw[zS v (by omega),zR (x:=(p1.length:Int)+1) (by omega) (by omega),zR (x:=(p1.length:Int)+1+(v:Int)) (by omega) (by omega)];refine TV.ite (λ_=>TV.pure (yA (by simp;omega)) ?_) λh=>by rw[zX hd]at h;cases h
  have:qG p1.length v++[(p1.length:Int)+1+(v:Int)]=qG p1.length (v+1):=by unfold qG;rw[List.range_succ,List.map_append];simp
  rw[this];exact ih
theorem zRR(p1 p2:List yF)(hl:l.length+p2.length<=65535)(h1:∀e∈l,qK e/\M0 e)(hi:p1.length<l.length)(hs:∀e∈p1,e∈l)(hc:(zN l p1.length).cons=[])(h2:∀e∈p2,qK e/\M0 e)(a:Int):TV (λL U q=>Y7 q l q1 q2 q3 q4 q5 q6 q7 q8 q9 q10 q11 L U pars own 0 a p1 p2) (WhP p1 p2 (zN l p1.length)):=by simp only[Y7];refine TV.pure (yE (by omega) (by omega)) ?_;have hx:=h1 _ (uD (l:=l) (n:=(p1.length:Int)) (by omega) (by omega));refine TV.ite (λ_=>zCU q1 q2 q3 q4 q5 q6 q7 q8 q9 q10 q11 pars own p1 p2 _ hx (by omega) (λe h=>h1 e (hs e h)) h2 a p2 0 rfl (by omega)) λh=>by rw[hc]at h;cases h
theorem P2(l3:List zM)(v:Nat)(x:zM)(n:List ByteArray)(hn:n.length<=1000000)(go:∀e a,TV (λL U q=>sN q l q1 q2 q3 q4 q5 q6 q7 q8 q9 q10 q11 L U l3 (n++[x.name_]) (yB ((v:Int)+1)) e a) λ_=>True):∀(r:List ByteArray)(w:Nat)(e a:Int),n.drop w=r->TV (λL U q=>sO q l q1 q2 q3 q4 q5 q6 q7 q8 q9 q10 q11 L U l3 n (v:Int) x (w:Int) e a) λ_=>True|[],w,e,a,hd=>by refine TV.succ ?_;simp only[sO];exact TV.ite (λh=>by rw[zZ hd]at h;cases h) λ_=>TV.pure (yA (by simp;omega)) (go e a)|y::r,w,e,a,hd=>by have hlt:=yC hd;refine TV.succ ?_;simp only[sO];rw[zS w (by omega)];refine TV.ite (λ_=>TV.pure (zU hd) (TV.ite (λ_=>TV.evt (λL U=>J1 q1 q2 q3 q4 q5 q6 q7 q8 q9 q10 q11 L U e a 4 _) (P2 l3 v x n hn go r (w+1) _ _ (zP hd))) λ_=>P2 l3 v x n hn go r (w+1) _ _ (zP hd))) λh=>by rw[zX hd]at h;cases h
theorem zCV(l3:List zM)(h3:l3.length<=200000):∀(r:List zM)(v:Nat)(n:List ByteArray)(e a:Int),l3.drop v=r->v<=l3.length->n.length<=65535+v->TV (λL U q=>sN q l q1 q2 q3 q4 q5 q6 q7 q8 q9 q10 q11 L U l3 n (v:Int) e a) λ_=>True|[],v,n,e,a,hd,hv,hn=>by refine TV.succ ?_;simp only[sN];exact TV.ite (λh=>by rw[zZ hd]at h;cases h) λ_=>TV.ret trivial|x::r,v,n,e,a,hd,hv,hn=>by have hlt:=yC hd;refine TV.succ ?_;simp only[sN];exact TV.ite (λ_=>TV.pure (zU hd) (P2 q1 q2 q3 q4 q5 q6 q7 q8 q9 q10 q11 l3 v x n (by omega) (λe a=>by rw[zS v (by omega)];exact zCV l3 h3 r (v+1) _ e a (zP hd) hlt (by simp;omega)) n 0 e a rfl)) λh=>by rw[zX hd]at h;cases h
theorem zRS(hl:l.length<=65535)(h10:q10.length<=100000):TV (λL U q=>Y5 q l q1 q2 q3 q4 q5 q6 q7 q8 q9 q10 q11 L U 0 0) λ_=>True:=by simp only[Y5,e88];exact TV.tot (zAT l hl l 0 [] rfl (by simp) (by omega)) λn hn=>TV.pure (yA (by simp;omega)) (zCV q1 q2 q3 q4 q5 q6 q7 q8 q9 q10 q11 _ (by simp;omega) _ 0 n 0 0 rfl (by omega) (by omega))
include hS
theorem zNL(L U e a:Int)(ctx:List Tm):zB (λq=>Y4 q l q1 q2 q3 q4 q5 q6 q7 q8 q9 q10 q11 L U e a ctx) (.inl (ctx,[],[],e,a,l,l.map xV,l.map uT,l,nM l l.length 0)):=by simp only[Y4];exact hS.E.2.bind (zB.ifF rfl zB.ret)
theorem zCW(T:List Tm)(n:List ByteArray)(x1 x2:Int)(hT:xW T)(h24:T.length<=24)(h4:T.length=q4.length)(hn:n.length<=24):∀(r:List Tm)(v:Nat)(a f:Int),T.drop v=r->0<=f->Ou (λL U q=>rY q l q1 q2 q3 q4 q5 q6 q7 q8 q9 q10 q11 (T,n,x1,x2) (v:Int) 0 a L U) yBP (QPa λT' k=>T'=T/\PU l (T.take v) r k) True f
 |[],v,a,f,hd,hf=>by refine Ou.succ ?_;simp only[rY];exact Ou.ifF (zZ hd) (Ou.ret hf ⟨_,_,_,_,rfl,λ_=>⟨hT,h24,hn,rfl,.nil⟩⟩)|t::r,v,a,f,hd,hf=>by
  have hlt:=yC hd;have hm:t∈T:=List.mem_of_mem_drop (hd▸List.mem_cons_self ..);refine Ou.succ ?_;simp only[rY];rw[zS v (by omega)];refine Ou.ifT (zX hd) (Ou.pure (zU hd) (Ou.pure (a:=T.take v) (by unfold uL;rw[if_pos (by omega)];simp) (Ou.evtL (λL U=>zNL hS q1 q2 q3 q4 q5 q6 q7 q8 q9 q10 q11 L U 0 a _) ?_)));obtain⟨x,hx,-⟩:=pQ (l:=q4) (i:=(v:Int)) (by omega) (by omega);refine Ou.bind (hS.U (T.take v) t (by rw[List.length_take];omega) (λy hy=>hT y (List.mem_of_mem_take hy)) (hT t hm) f hf).own id (λr hr=>⟨_,zB.pure hx ((J1 q1 q2 q3 q4 q5 q6 q7 q8 q9 q10 q11 _ _ 0 a r.2.1 _).bind (zB.ifT (by unfold sM;rw[if_pos rfl,if_neg (by have h:r.2.1=8:=hr;omega)]) zB.ret)),by have h:r.2.1=8:=hr;unfold sM;rw[if_pos rfl,if_neg (by omega)];exact h⟩) ?_;rintro R k k0 k1⟨⟨n,e,h8,rfl⟩,hu⟩;dsimp only;refine Ou.pure hx (Ou.evtL (λL U=>J1 q1 q2 q3 q4 q5 q6 q7 q8 q9 q10 q11 L U 0 a e _) ?_);by_cases he:e=0
  ·subst he;simp only[sM];refine Ou.ite (λh=>by simp at h) λ_=>(zCW T _ x1 x2 hT h24 h4 hn r (v+1) _ _ (zP hd) (by omega)).mono ?_ id;rintro R' k'- -⟨T',n',e',a',rfl,hc⟩;refine⟨T',n',e',a',rfl,λhe=>?_⟩;obtain⟨c1,c2,c3,c4,c5⟩:=hc he;refine⟨c1,c2,c3,c4,.cons hu ?_⟩;rw[List.take_succ_eq_append_getElem hlt]at c5;rw[show t=T[v]from(by have:=List.drop_eq_getElem_cons hlt;rw[hd]at this;injection this)];exact c5
  ·simp only[sM,he,if_false,↓reduceIte];exact Ou.ret (by omega) ⟨_,_,_,_,rfl,λh=>absurd h he⟩
theorem zRT(hb:bOk q4)(h4:q4.length<=24)(a f:Int)(hf:0<=f):Ou (λL U q=>Y6 q l q1 q2 q3 q4 q5 q6 q7 q8 q9 q10 q11 L U 0 a) yBP (QPa λT k=>PU l [] T k) True f:=by
 simp only[Y6];refine Ou.tot (zNH l hS.hl hS.he [] (by simp) q4 hb (by omega)) λr hr=>?_;obtain⟨T,n,x1,e⟩:=r;refine Ou.ite (λ_=>?_) (λ_=>?_)<;>
 ·refine Ou.evtL (λL U=>J1 q1 q2 q3 q4 q5 q6 q7 q8 q9 q10 q11 L U 0 a e _) ?_;by_cases he:e=0
  ·subst he;obtain⟨o1,o2,o3,o4⟩:=hr rfl;dsimp only at o1 o2 o3 o4;simp only[sM];exact Ou.ite (λh=>by simp at h) λ_=>(zCW hS q1 q2 q3 q4 q5 q6 q7 q8 q9 q10 q11 T n x1 0 o1 (by omega) (by omega) (by omega) T 0 _ _ rfl hf).mono (λR' k' _ _ h=>by obtain⟨T',n',e',a',h1,hc⟩:=h;refine⟨T',n',e',a',h1,λhe=>?_⟩;obtain⟨c1,c2,c3,rfl,c5⟩:=hc he;exact⟨c1,c2,c3,c5⟩) id
  ·simp only[sM,he,if_false,↓reduceIte];exact Ou.ret hf ⟨_,_,_,_,rfl,λh=>absurd h he⟩
end
def e92(q:Nat)(f:yD)(a:xD)(m n:Int)(b:yI)(d:List ByteArray)(c e g p:Int):Option (Bool×Int×Int):=if c==0 then if g !=0 then some ((g !=0),g,p)else some ((c !=0),c,e)else some ((c !=0),c,e)
theorem c92{q f a m n b d c e g p}:Cz (e92 q f a m n b d c e g p) 92 [.cells [zC zV f .no,ai a.kind_,ai a.at_,at' a.name_,zC zF a.tele_ .no,ai a.type_.kind_,ai a.type_.at_,at' a.type_.name_,ai a.type_.n_,zC zK a.type_.sub_ .no,zC zF a.cons_ .no,zC zY a.rows_ .no,.mp 1 0,zC zA b .no,zC xC d .no,ai c,ai e],.cells [ai m,ai n]] [.mp 0 0,ai g,ai p] (λr=>ab r.1) (λr=>[.cells [zC zV f .no,ai a.kind_,ai a.at_,at' a.name_,zC zF a.tele_ .no,ai a.type_.kind_,ai a.type_.at_,at' a.type_.name_,ai a.type_.n_,zC zK a.type_.sub_ .no,zC zF a.cons_ .no,zC zY a.rows_ .no,.mp 1 0,zC zA b .no,zC xC d .no,ai r.2.1,ai r.2.2],.cells [ai m,ai n]]) 0:=fw func92<|rB 1 (rB 0 (fE 4)<|fE 2)<|fE 2
def e49(p:Nat)(e:yD)(a:xD)(g m:Int)(b:yI)(c:List ByteArray)(f d:Int)(n:yI):Option ((yI×yH×yI×Int×Int×yD×yH×yH×yD×tC)⊕(yI×yH×yI×Int×Int)):=e39 p e>>=λr1=>match r1 with|Sum.inl y7=>if y7 !=0 then e92 p e a g m b c f d 5 0>>=λr9=>some (Sum.inr (n,[],[],r9.2.1,r9.2.2))else some (Sum.inr (n,[],[],f,d))|Sum.inr y3=>if y3.1 !=0 then e92 p e a g m b c f d 5 0>>=λr5=>some (Sum.inl (n,[],[],r5.2.1,r5.2.2,y3.2.1,y3.2.2.1,y3.2.2.2.1,y3.2.2.2.2.1,y3.2.2.2.2.2))else some (Sum.inl (n,[],[],f,d,y3.2.1,y3.2.2.1,y3.2.2.2.1,y3.2.2.2.2.1,y3.2.2.2.2.2))
theorem c49{p e a g m b c f d n}:Cz (e49 p e a g m b c f d n) 49 [.cells [zC zV e .no,ai a.kind_,ai a.at_,at' a.name_,zC zF a.tele_ .no,ai a.type_.kind_,ai a.type_.at_,at' a.type_.name_,ai a.type_.n_,zC zK a.type_.sub_ .no,zC zF a.cons_ .no,zC zY a.rows_ .no,.mp 1 0,zC zA b .no,zC xC c .no,ai f,ai d],.cells [ai g,ai m]] [.mp 0 0,zC zA n .no] (Sum.elim (λx=>.agg [.mp 2 0,.mp 1 0,zC zA x.1 .no,zC zW x.2.1 .no,zC zA x.2.2.1 .no]) (λx=>.agg [.val (.pointer none),.mp 1 0,zC zA x.1 .no,zC zW x.2.1 .no,zC zA x.2.2.1 .no])) (Sum.elim (λx=>[.cells [zC zV e .no,ai a.kind_,ai a.at_,at' a.name_,zC zF a.tele_ .no,ai a.type_.kind_,ai a.type_.at_,at' a.type_.name_,ai a.type_.n_,zC zK a.type_.sub_ .no,zC zF a.cons_ .no,zC zY a.rows_ .no,.mp 1 0,zC zA b .no,zC xC c .no,ai x.2.2.2.1,ai x.2.2.2.2.1],.cells [ai g,ai m],.cells [zC zV x.2.2.2.2.2.1 .no,.mp 3 0,zC zW x.2.2.2.2.2.2.1 .no,zC zW x.2.2.2.2.2.2.2.1 .no],.cells [zC zV x.2.2.2.2.2.2.2.2.1 .no,zC sX x.2.2.2.2.2.2.2.2.2 .no]]) (λx=>[.cells [zC zV e .no,ai a.kind_,ai a.at_,at' a.name_,zC zF a.tele_ .no,ai a.type_.kind_,ai a.type_.at_,at' a.type_.name_,ai a.type_.n_,zC zK a.type_.sub_ .no,zC zF a.cons_ .no,zC zY a.rows_ .no,.mp 1 0,zC zA b .no,zC xC c .no,ai x.2.2.2.1,ai x.2.2.2.2],.cells [ai g,ai m]])) 0:=fw func49<|rC 1 [] c39<|pN (λ_=>rB 2 (rC 0 [0,1] c92 λ_=>fE 2)<|fE 2) λ_=>rB 2 (rC 0 [0,1] c92 λ_=>fF 2 [0,1,3,4])<|fF 2 [0,1,3,4]
def e75(e:Nat)(d:yD)(a:xD)(m p:Int)(b:yI)(c:List ByteArray)(g f:Int):Option ((yD×Int×Int×Int×Int)⊕(List fZ×Int×Int×Int×Int)):=zNE e d c a.type_>>=λr1=>if r1.2.2==2 then e92 e d a m p b c g f r1.2.2 a.type_.at_>>=λr4=>if r4.1 then some (Sum.inl (d,r4.2.1,r4.2.2,m,p))else e49 e d a m p b c r4.2.1 r4.2.2 b>>=λr7=>match r7 with
 |Sum.inl y9=>e98 e (xT.mk y9.2.2.2.2.2.1 y9.2.2.2.2.2.2.2.2.1 y9.2.2.2.2.2.2.2.2.2 y9.2.2.2.2.2.2.1 y9.2.2.2.2.2.2.2.1) m p y9.1 y9.2.1 y9.2.2.1 r1.1>>=λr10=>e92 e d a r10.2.2.1 r10.2.2.2 b c y9.2.2.2.1 y9.2.2.2.2.1 r10.2.1 a.type_.at_>>=λr12=>if r12.1 then some (Sum.inl (d,r12.2.1,r12.2.2,r10.2.2.1,r10.2.2.2))else e99 e r1.1>>=λr15=>if r15.2.2 !=0 then e92 e d a r10.2.2.1 r10.2.2.2 b c r12.2.1 r12.2.2 6 a.type_.at_>>=λr18=>some (Sum.inl (d,r18.2.1,r18.2.2,r10.2.2.1,r10.2.2.2))else if r15.2.1.k !=2 then e92 e d a r10.2.2.1 r10.2.2.2 b c r12.2.1 r12.2.2 6 a.type_.at_>>=λr21=>some (Sum.inl (d,r21.2.1,r21.2.2,r10.2.2.1,r10.2.2.2))else if decide ((r15.1.length:Int)>(yB (24-(b.length:Int))))then e92 e d a r10.2.2.1 r10.2.2.2 b c r12.2.1 r12.2.2 6 a.type_.at_>>=λr24=>some (Sum.inl (d,r24.2.1,r24.2.2,r10.2.2.1,r10.2.2.2))else zAH e b r1.1>>=λr26=>e92 e d a r10.2.2.1 r10.2.2.2 b c r12.2.1 r12.2.2 r26.2 a.at_>>=λr28=>if r28.1 then some (Sum.inl (d,r28.2.1,r28.2.2,r10.2.2.1,r10.2.2.2))else e61 e d [(yF.mk 1 a.name_ r26.1 (Tm.mk 0 0 []) 0 0 (b.length:Int) (r15.1.length:Int) r15.2.1.n [] [])]>>=λr31=>e92 e d a r10.2.2.1 r10.2.2.2 b c r28.2.1 r28.2.2 r31.2 a.at_>>=λr33=>if r33.1 then some (Sum.inl (d,r33.2.1,r33.2.2,r10.2.2.1,r10.2.2.2))else some (Sum.inr (r31.1,r33.2.1,r33.2.2,r10.2.2.1,r10.2.2.2))|Sum.inr y36=>none else e92 e d a m p b c g f r1.2.2 r1.2.1>>=λr63=>if r63.1 then some (Sum.inl (d,r63.2.1,r63.2.2,m,p))else e49 e d a m p b c r63.2.1 r63.2.2 b>>=λr66=>match r66 with
 |Sum.inl y68=>e98 e (xT.mk y68.2.2.2.2.2.1 y68.2.2.2.2.2.2.2.2.1 y68.2.2.2.2.2.2.2.2.2 y68.2.2.2.2.2.2.1 y68.2.2.2.2.2.2.2.1) m p y68.1 y68.2.1 y68.2.2.1 r1.1>>=λr69=>e92 e d a r69.2.2.1 r69.2.2.2 b c y68.2.2.2.1 y68.2.2.2.2.1 r69.2.1 a.type_.at_>>=λr71=>if r71.1 then some (Sum.inl (d,r71.2.1,r71.2.2,r69.2.2.1,r69.2.2.2))else e99 e r1.1>>=λr74=>if r74.2.2 !=0 then e92 e d a r69.2.2.1 r69.2.2.2 b c r71.2.1 r71.2.2 6 a.type_.at_>>=λr77=>some (Sum.inl (d,r77.2.1,r77.2.2,r69.2.2.1,r69.2.2.2))else if r74.2.1.k !=2 then e92 e d a r69.2.2.1 r69.2.2.2 b c r71.2.1 r71.2.2 6 a.type_.at_>>=λr80=>some (Sum.inl (d,r80.2.1,r80.2.2,r69.2.2.1,r69.2.2.2))else if decide ((r74.1.length:Int)>(yB (24-(b.length:Int))))then e92 e d a r69.2.2.1 r69.2.2.2 b c r71.2.1 r71.2.2 6 a.type_.at_>>=λr83=>some (Sum.inl (d,r83.2.1,r83.2.2,r69.2.2.1,r69.2.2.2))else zAH e b r1.1>>=λr85=>e92 e d a r69.2.2.1 r69.2.2.2 b c r71.2.1 r71.2.2 r85.2 a.at_>>=λr87=>if r87.1 then some (Sum.inl (d,r87.2.1,r87.2.2,r69.2.2.1,r69.2.2.2))else e61 e d [(yF.mk 1 a.name_ r85.1 (Tm.mk 0 0 []) 0 0 (b.length:Int) (r74.1.length:Int) r74.2.1.n [] [])]>>=λr90=>e92 e d a r69.2.2.1 r69.2.2.2 b c r87.2.1 r87.2.2 r90.2 a.at_>>=λr92=>if r92.1 then some (Sum.inl (d,r92.2.1,r92.2.2,r69.2.2.1,r69.2.2.2))else some (Sum.inr (r90.1,r92.2.1,r92.2.2,r69.2.2.1,r69.2.2.2))|Sum.inr y95=>none
theorem c75{e d a m p b c g f}:Cz (e75 e d a m p b c g f) 75 [.cells [zC zV d .no,ai a.kind_,ai a.at_,at' a.name_,zC zF a.tele_ .no,ai a.type_.kind_,ai a.type_.at_,at' a.type_.name_,ai a.type_.n_,zC zK a.type_.sub_ .no,zC zF a.cons_ .no,zC zY a.rows_ .no,.mp 1 0,zC zA b .no,zC xC c .no,ai g,ai f],.cells [ai m,ai p]] [.mp 0 0] (λ_=>.tup []) (Sum.elim (λx=>[.cells [zC zV x.1 .no,ai a.kind_,ai a.at_,at' a.name_,zC zF a.tele_ .no,ai a.type_.kind_,ai a.type_.at_,at' a.type_.name_,ai a.type_.n_,zC zK a.type_.sub_ .no,zC zF a.cons_ .no,zC zY a.rows_ .no,.mp 1 0,zC zA b .no,zC xC c .no,ai x.2.1,ai x.2.2.1],.cells [ai x.2.2.2.1,ai x.2.2.2.2]]) (λx=>[.cells [zC entZ x.1 .no,ai a.kind_,ai a.at_,at' a.name_,zC zF a.tele_ .no,ai a.type_.kind_,ai a.type_.at_,at' a.type_.name_,ai a.type_.n_,zC zK a.type_.sub_ .no,zC zF a.cons_ .no,zC zY a.rows_ .no,.mp 1 0,zC zA b .no,zC xC c .no,ai x.2.1,ai x.2.2.1],.cells [ai x.2.2.2.1,ai x.2.2.2.2]])) 0:=fw func75<|rC 3 [] zVj λ_=>rB 4 (rK 1 [0,1] c92 (λ_=>fE 0) λ_=>rC 1 [0,1] c49<|pN (λ_=>rC 1 [3,4,1] c98 λ_=>rK 3 [0,1] c92 (λ_=>fE 0) λ_=>rC 1 [] c99 λ_=>rB 4 (rC 1 [0,1] c92 λ_=>fE 0)<|rB 1 (rC 1 [0,1] c92 λ_=>fE 0)<|rB 4 (rC 1 [0,1] c92 λ_=>fE 0)<|rC 2 [] zAI λ_=>rK 4 [0,1] c92 (λ_=>fE 0) λ_=>rC 10 [] c61 λ_=>rK 3 [0,1] c92 (λ_=>fE 0) λ_=>fE 1) λ_=>rN)<|rK 0 [0,1] c92 (λ_=>fE 0) λ_=>rC 1 [0,1] c49<|pN (λ_=>rC 1 [3,4,1] c98 λ_=>rK 3 [0,1] c92 (λ_=>fE 0) λ_=>rC 1 [] c99 λ_=>rB 4 (rC 1 [0,1] c92 λ_=>fE 0)<|rB 1 (rC 1 [0,1] c92 λ_=>fE 0)<|rB 4 (rC 1 [0,1] c92 λ_=>fE 0)<|rC 2 [] zAI λ_=>rK 4 [0,1] c92 (λ_=>fE 0) λ_=>rC 10 [] c61 λ_=>rK 3 [0,1] c92 (λ_=>fE 0) λ_=>fE 1) λ_=>rN
def zJM(c:Nat)(b:yD)(a:xD)(r11:yI×List ByteArray×Int×Int×Int×Int)(y18:List fZ×Int×Int×Int×Int):Option (yD×Int×Int×Int×Int):=zEG c y18.1 a.kind_ a.at_ a.name_ a.tele_ a.type_.kind_ a.type_.at_ a.type_.name_ a.type_.n_ a.type_.sub_ a.cons_ a.rows_ y18.2.2.2.1 y18.2.2.2.2 r11.1 r11.2.1 y18.2.1 y18.2.2.1>>=λr20=>if r20.2.1 !=0 then some ([],r20.2.2.1,r20.2.1,r20.2.2.2.1,r20.2.2.2.2)else Y7 c y18.1 a.kind_ a.at_ a.name_ a.tele_ a.type_.kind_ a.type_.at_ a.type_.name_ a.type_.n_ a.type_.sub_ a.cons_ a.rows_ r20.2.2.2.1 r20.2.2.2.2 r11.1 r11.2.1 r20.2.1 r20.2.2.1 b r20.1>>=λr23=>if r23.2.1 !=0 then some ([],r23.2.2,r23.2.1,r20.2.2.2.1,r20.2.2.2.2)else some (r23.1,0,0,r20.2.2.2.1,r20.2.2.2.2)
def zJN(c:Nat)(b:yD)(a:xD)(r11:yI×List ByteArray×Int×Int×Int×Int):Option (yD×Int×Int×Int×Int):=e75 c b a r11.2.2.2.2.1 r11.2.2.2.2.2 r11.1 r11.2.1 r11.2.2.1 r11.2.2.2.1>>=λr14=>match r14 with|Sum.inl y16=>if y16.2.1 !=0 then some ([],y16.2.2.1,y16.2.1,y16.2.2.2.1,y16.2.2.2.2)else none|Sum.inr y18=>if y18.2.1 !=0 then some ([],y18.2.2.1,y18.2.1,y18.2.2.2.1,y18.2.2.2.2)else zJM c b a r11 y18
def zJO(c:Nat)(b:yD)(a:xD)(d e:Int)(r8:Int×Int):Option (yD×Int×Int×Int×Int):=Y6 c b a.kind_ a.at_ a.name_ a.tele_ a.type_.kind_ a.type_.at_ a.type_.name_ a.type_.n_ a.type_.sub_ a.cons_ a.rows_ d e r8.1 r8.2>>=λr11=>if r11.2.2.1 !=0 then some ([],r11.2.2.2.1,r11.2.2.1,r11.2.2.2.2.1,r11.2.2.2.2.2)else zJN c b a r11
def zJP(c:Nat)(b:yD)(a:xD)(d e:Int):Option (yD×Int×Int×Int×Int):=Y5 c b a.kind_ a.at_ a.name_ a.tele_ a.type_.kind_ a.type_.at_ a.type_.name_ a.type_.n_ a.type_.sub_ a.cons_ a.rows_ d e 0 0>>=λr8=>if r8.1 !=0 then some ([],r8.2,r8.1,d,e)else zJO c b a d e r8
def e42(c:Nat)(b:yD)(a:xD)(d e:Int):Option (yD×Int×Int×Int×Int):=cV c b>>=λr1=>if r1 then e56 c a>>=λr4=>if r4 then if a.kind_ !=1 then some ([],0,5,d,e)else zJP c b a d e else some ([],0,5,d,e)else some ([],0,5,d,e)
theorem zZx{c b a r11 y18}:Lz (zJM c b a r11 y18) 1 f42 (pt 16309 f42) (λj=>sp j 91 0 [(0,zC zV b .no),(9,.mp 1 0),(38,.agg [.clo 73 [.mp 1 0] [],.clo 74 [.mp 1 0] [],.clo 75 [.mp 1 0] []]),(39,ai 3)]) ⟨[(0,.cells [ai y18.2.2.2.1,ai y18.2.2.2.2]),(1,.cells [zC entZ y18.1 .no,ai a.kind_,ai a.at_,at' a.name_,zC zF a.tele_ .no,ai a.type_.kind_,ai a.type_.at_,at' a.type_.name_,ai a.type_.n_,zC zK a.type_.sub_ .no,zC zF a.cons_ .no,zC zY a.rows_ .no,.mp 0 0,zC zA r11.1 .no,zC xC r11.2.1 .no,ai y18.2.1,ai y18.2.2.1])],2,[],0,[]⟩ (λr=>.tup [.sl (zH zV r.1) r.1.length .no,ai r.2.1,ai r.2.2.1]) (λr=>[.cells [ai r.2.2.2.1,ai r.2.2.2.2]]) 0 [.blk 0,.seq (pt 255 f42)]:=lw λ_=>rC 1 [1,0] zVO λ_=>rB 1 (lE 2)<|rC 0 [1,0] zVS λ_=>rB 1 (lE 2)<|lE 0
theorem zZw{c b a r11}:Lz (zJN c b a r11) 1 f42 (pt 16309 f42) (λj=>sp j 91 0 [(0,zC zV b .no),(9,.mp 1 0),(38,.agg [.clo 73 [.mp 1 0] [],.clo 74 [.mp 1 0] [],.clo 75 [.mp 1 0] []]),(39,ai 2)]) ⟨[(0,.cells [ai r11.2.2.2.2.1,ai r11.2.2.2.2.2]),(1,.cells [zC zV b .no,ai a.kind_,ai a.at_,at' a.name_,zC zF a.tele_ .no,ai a.type_.kind_,ai a.type_.at_,at' a.type_.name_,ai a.type_.n_,zC zK a.type_.sub_ .no,zC zF a.cons_ .no,zC zY a.rows_ .no,.mp 0 0,zC zA r11.1 .no,zC xC r11.2.1 .no,ai r11.2.2.1,ai r11.2.2.2.1])],2,[],0,[]⟩ (λr=>.tup [.sl (zH zV r.1) r.1.length .no,ai r.2.1,ai r.2.2.1]) (λr=>[.cells [ai r.2.2.2.1,ai r.2.2.2.2]]) 0 [.blk 0,.seq (pt 255 f42)]:=lw λ_=>rC 2 [1,0] c75<|pN (λ_=>rB 1 (lE 2) rN) λ_=>rB 1 (lE 2)<|lH 1 [] [0,1] [] [0,9,38,39] (zZx)
theorem zZv{c b a d e r8}:Lz (zJO c b a d e r8) 1 f42 (pt 16309 f42) (λj=>sp j 91 0 [(0,zC zV b .no),(9,.mp 1 0),(38,.agg [.clo 73 [.mp 1 0] [],.clo 74 [.mp 1 0] [],.clo 75 [.mp 1 0] []]),(39,ai 1)]) ⟨[(0,.cells [ai d,ai e]),(1,.cells [zC zV b .no,ai a.kind_,ai a.at_,at' a.name_,zC zF a.tele_ .no,ai a.type_.kind_,ai a.type_.at_,at' a.type_.name_,ai a.type_.n_,zC zK a.type_.sub_ .no,zC zF a.cons_ .no,zC zY a.rows_ .no,.mp 0 0,zC zA ([]:yI) .nl,zC xC ([]:List ByteArray) .nl,ai r8.1,ai r8.2])],2,[],0,[]⟩ (λr=>.tup [.sl (zH zV r.1) r.1.length .no,ai r.2.1,ai r.2.2.1]) (λr=>[.cells [ai r.2.2.2.1,ai r.2.2.2.2]]) 0 [.blk 0,.seq (pt 255 f42)]:=lw λ_=>rC 2 [1,0] zVR λ_=>rB 1 (lE 2)<|lH 1 [] [0,1] [] [0,9,38,39] (zZw)
theorem zZu{c b a d e}:Lz (zJP c b a d e) 1 f42 (pt 16309 f42) (λj=>sp j 91 0 [(0,zC zV b .no),(9,.mp 1 0),(38,.agg [.clo 73 [.mp 1 0] [],.clo 74 [.mp 1 0] [],.clo 75 [.mp 1 0] []]),(39,ai 0)]) ⟨[(0,.cells [ai d,ai e]),(1,.cells [zC zV b .no,ai a.kind_,ai a.at_,at' a.name_,zC zF a.tele_ .no,ai a.type_.kind_,ai a.type_.at_,at' a.type_.name_,ai a.type_.n_,zC zK a.type_.sub_ .no,zC zF a.cons_ .no,zC zY a.rows_ .no,.mp 0 0,zC zA ([]:yI) .nl,zC xC ([]:List ByteArray) .nl,ai 0,ai 0])],2,[],0,[]⟩ (λr=>.tup [.sl (zH zV r.1) r.1.length .no,ai r.2.1,ai r.2.2.1]) (λr=>[.cells [ai r.2.2.2.1,ai r.2.2.2.2]]) 0 [.blk 0,.seq (pt 255 f42)]:=lw λ_=>rC 2 [1,0] zVQ λ_=>rB 1 (lE 2)<|lH 1 [] [0,1] [] [0,9,38,39] (zZv)
theorem c42{c b a d e}:Cz (e42 c b a d e) 42 [.cells [ai d,ai e]] [zC zV b .no,N1 a,.mp 0 0] (λr=>.tup [.sl (zH zV r.1) r.1.length .no,ai r.2.1,ai r.2.2.1]) (λr=>[.cells [ai r.2.2.2.1,ai r.2.2.2.2]]) 0:=fw func42<|rK 0 [] c47 (λ_=>rK 2 [] c56 (λ_=>rB 2 (fE 0)<|fH 1 [] [0,2] [] [0,9,38,39] (zZu)) λ_=>fE 1) λ_=>fE 1
set_option linter.unusedSectionVars false
abbrev RF:=(List yF×Int×Int×Int×Int)⊕(List yF×Int×Int×Int×Int)
def er7:RF->Int|.inl y=>y.2.1|.inr y=>y.2.1
structure yBR(l l':List yF):Prop where
 S:kG l'
 len:l'.length=l.length+1
 mem:∀e∈l,e∈l'
 cons:(zN l' l.length).cons=[]P:0<=(zN l' l.length).pars/\(zN l' l.length).pars<=24
 I:0<=(zN l' l.length).inds/\(zN l' l.length).inds<=24
def yBS(l l':List yF)(pars:List Tm)(k:Int):Prop:=∃nm t A y n,l'=l++[yF.mk 1 nm (piI pars t) (Tm.mk 0 0 []) 0 0 (pars.length:Int) (A.length:Int) y.n [] []]/\t.Ok/\yX t=(A,y,0)/\y.k=2/\A.length+pars.length<=24/\Ru (λL U q=>e98 q (xQ l) L U pars [] [] t) (λL U=>(n,0,L,U)) k
def QFm(l:List yF)(pars:List Tm)(R:Int->Int->RF)(k:Int):Prop:=(∃ll e a,e≠0/\R=λL U=>.inl (ll,e,a,L,U))\/∃l' a,yBR l l'/\yBS l l' pars k/\R=λL U=>.inr (l',0,a,L,U)
theorem QFm.ne{l ll:List yF}{pars:List Tm}{e a k:Int}(h:e≠0):QFm l pars (λL U=>.inl (ll,e,a,L,U)) k:=.inl ⟨ll,e,a,h,rfl⟩
section
variable{l:List yF}(hS:kG l)(d:xD){pars:List Tm}(own:List ByteArray)(hp:xW pars)(hpl:pars.length<=24)
theorem jU(l:List yF)(pars:List Tm)(L U e a p at0:Int):zB (λq=>e92 q l d L U pars own e a p at0) (sM e a p at0):=by
 simp only[e92];unfold sM;by_cases h:e=0
 ·subst h;rw[if_pos rfl];refine zB.ifT rfl ?_;by_cases h:p=0;·subst h;exact zB.ifF rfl zB.ret
  ·rw[if_neg h];exact zB.ifT (by simpa using h) (zB.ret.eq (by rw[show(p !=0)=true by simpa using h]))
 ·rw[if_neg h];exact zB.ifF (by simpa using h) (zB.ret.eq (by rw[show(e !=0)=true by simpa using h]))
theorem C0(a p at0:Int)(h:p≠0):sM 0 a p at0=(true,p,at0):=by unfold sM;rw[if_pos rfl,if_neg h]
theorem Y8(a at0:Int):sM 0 a 0 at0=(false,0,a):=rfl
include hS
theorem zNM(pars:List Tm)(L U e a:Int)(ctx:List Tm):zB (λq=>e49 q l d L U pars own e a ctx) (.inl (ctx,[],[],e,a,l,l.map xV,l.map uT,l,nM l l.length 0)):=by simp only[e49];exact hS.E.2.bind (zB.ifF rfl zB.ret)
include hp hpl
theorem zJQ(hd:cO d.type_)(hown:own.length<=65535)(hl:l.length<65535)(a f:Int)(hf:0<=f):Ou (λL U q=>e75 q l d L U pars own 0 a) er7 (QFm l pars) True f:=by
 simp only[e75];refine Ou.tot (O9 l hS.hl hS.he own hown d.type_ hd) λr4 hr4=>?_;obtain⟨t,p,e0⟩:=r4;have ht:t.Ok:=hr4.1;refine Ou.ite (λ_=>?_) (λ_=>?_)<;>
 ·refine Ou.evtL (λL U=>jU d own l pars L U 0 a e0 _) ?_;by_cases he:e0=0;rotate_left;·rw[C0 _ _ _ he];exact Ou.ret hf (QFm.ne he)
  subst he;rw[Y8];refine Ou.ite (λh=>by simp at h) λ_=>?_;refine Ou.evtL (λL U=>zNM hS d own pars L U 0 a _) ?_;refine Ou.bind (hS.U pars t (by omega) hp ht f hf).own id (λr hr=>⟨_,(jU d own l pars _ _ 0 a r.2.1 _).bind (zB.ifT (by rw[C0 _ _ _ (by have h:r.2.1=8:=hr;omega)]) zB.ret),by have h:r.2.1=8:=hr;rw[C0 _ _ _ (by omega)];exact h⟩) ?_;rintro R k k0 k1⟨⟨n,e,h8,rfl⟩,hu⟩;dsimp only;refine Ou.evtL (λL U=>jU d own l pars L U 0 a e _) ?_;by_cases he:e=0;rotate_left;·rw[C0 _ _ _ he];exact Ou.ret (by omega) (QFm.ne he)
  subst he;rw[Y8];refine Ou.ite (λh=>by simp at h) λ_=>Ou.evt (mZ t ht) ?_;have six:∀(at0:Int),Ou (λL U q=>e92 q l d L U pars own 0 a 6 at0>>=λr=>some (Sum.inl (l,r.2.1,r.2.2,L,U):RF)) er7 (λR' n=>QFm l pars R' (k+n)) True (f-k):=λat0=>Ou.evtL (λL U=>jU d own l pars L U 0 a 6 at0) (Ou.ret (by omega) (by rw[C0 _ _ _ (by decide)];exact QFm.ne (by show(6:Int)≠0;decide)));obtain⟨A,y,e9,hw⟩:∃A y e9,yX t=(A,y,e9):=⟨_,_,_,rfl⟩;rw[hw];refine Ou.ite (λ_=>six _) λh=>Ou.ite (λ_=>six _) λhk=>Ou.ite (λ_=>six _) λh3=>?_;have h9:e9=0:=by simpa using h
  subst h9;have h3:=of_decide_eq_false h3;rw[zR (by omega) (by omega)]at h3;dsimp only at h3;refine Ou.tot (bI pars t hp ht) λs hs=>?_;obtain⟨s1,s2⟩:=s;refine Ou.evtL (λL U=>jU d own l pars L U 0 a s2 _) ?_;by_cases he:s2=0;rotate_left
  ·rw[C0 _ _ _ he];exact Ou.ret (by omega) (QFm.ne he)
  subst he;rw[Y8];refine Ou.ite (λh=>by simp at h) λ_=>?_;have hh:∀x∈l++[yF.mk 1 d.name_ s1 (Tm.mk 0 0 []) 0 0 (pars.length:Int) (A.length:Int) y.n [] []],qK x/\M0 x:=λx hx=>by
   rcases List.mem_append.1 hx with hx|hx;·exact⟨hS.he x hx,hS.hc x hx⟩
   ·rw[List.mem_singleton.1 hx];exact⟨⟨hs.1,lJ _ _,by simp,by simp⟩,by simp,by simp⟩
  refine Ou.tot (zHd l [yF.mk 1 d.name_ s1 (Tm.mk 0 0 []) 0 0 (pars.length:Int) (A.length:Int) y.n [] []] (by simp) (by simp;omega) (λx hx=>(hh x hx).1) λx hx=>(hh x hx).2) λr hr=>?_;obtain⟨r1,r2⟩:=r;refine Ou.evtL (λL U=>jU d own l pars L U 0 a r2 _) ?_;by_cases he:r2=0;rotate_left;·rw[C0 _ _ _ he];exact Ou.ret (by omega) (QFm.ne he)
  subst he;rw[Y8];refine Ou.ite (λh=>by simp at h) λ_=>?_;obtain⟨e1,e2⟩:=hr.2 rfl;dsimp only at e1;subst e1;have en:zN (l++[yF.mk 1 d.name_ s1 (Tm.mk 0 0 []) 0 0 (pars.length:Int) (A.length:Int) y.n [] []]) (l.length:Int)=yF.mk 1 d.name_ s1 (Tm.mk 0 0 []) 0 0 (pars.length:Int) (A.length:Int) y.n [] []:=by have:=yE (l:=l++[yF.mk 1 d.name_ s1 (Tm.mk 0 0 []) 0 0 (pars.length:Int) (A.length:Int) y.n [] []]) (n:=(l.length:Int)) (by omega) (by simp<;>omega);unfold zL at this;rw[if_pos (by omega)]at this;simpa using this.symm
  have s1':=(hs.2.2 rfl).2;dsimp only at s1';refine Ou.ret (by omega) (.inr ⟨_,_,⟨⟨λx hx=>(hh x hx).1,λx hx=>(hh x hx).2,by simp;omega,e2⟩,by simp,λe he=>List.mem_append_left _ he,by rw[en],by rw[en];exact⟨by show 0<=(pars.length:Int);omega,by show(pars.length:Int)<=24;omega⟩,by rw[en];exact⟨by show 0<=(A.length:Int);omega,by show(A.length:Int)<=24;omega⟩⟩,⟨d.name_,t,A,y,n,by rw[s1'],ht,hw,by simpa using hk,by omega,by rw[show k+0=k by omega];exact hu⟩,rfl⟩)
end
abbrev er8(r:List yF×Int×Int×Int×Int):Int:=if r.1=[]then r.2.2.1 else 0
abbrev CF0(l:List yF)(pars:List Tm):List yF->Int->Prop:=CF l pars 0 0 ⟨#[]⟩ 0 0 ⟨#[]⟩ 0
def DOK(l C:List yF)(k:Int):Prop:=∃pars l' K k1 k2 k3,k=k1+k2+k3/\PU l [] pars k1/\xW pars/\yBR l l'/\yBS l l' pars k2/\CF0 l' pars K k3/\K.length<=100/\C=l++([yF.mk (zN l' l.length).kind (zN l' l.length).name (zN l' l.length).type (zN l' l.length).body (zN l' l.length).fam (zN l' l.length).place (zN l' l.length).pars (zN l' l.length).inds (zN l' l.length).level (qG l.length K.length) (zN l' l.length).fields]++K)/\zB (λq=>cV q C) true
def QDc(l:List yF)(R:Int->Int->List yF×Int×Int×Int×Int)(k:Int):Prop:=∃C a e,R=(λL U=>(C,a,e,L,U))/\(e≠0->C=[])/\C.length<=65535/\(∀x∈C,qK x/\M0 x)/\(e=0->DOK l C k)
theorem QDc.nil{l:List yF}(a e:Int)(h:e≠0)(k:Int):QDc l (λL U=>([],a,e,L,U)) k:=⟨_,_,_,rfl,λ_=>rfl,by simp,by simp,λh'=>absurd h' h⟩
theorem zHF{l:List yF}(hS:kG l)(hl:l.length<=100)(d:xD)(ho:dOk d)(f:Int)(hf:0<=f):Ou (λL U q=>e42 q l d L U) er8 (QDc l) True f:=by
 simp only[e42];refine Ou.evt hS.hF (Ou.ite (λ_=>?_) λh=>absurd h (by decide));refine Ou.tot (zMV d ho) λb hb=>Ou.ite (λhb1=>?_) λ_=>Ou.ret hf (QDc.nil _ _ (by decide) _);obtain⟨b1,b2⟩:=hb hb1;refine Ou.ite (λ_=>Ou.ret hf (QDc.nil _ _ (by decide) _)) λ_=>?_;simp only[zJP];obtain⟨⟨e,a⟩,-,hN⟩:=zRS (l:=l) d.kind_ d.at_ d.name_ d.tele_ d.type_.kind_ d.type_.at_ d.type_.name_ d.type_.n_ d.type_.sub_ d.cons_ d.rows_ (by omega) (by omega);refine Ou.evtL hN (Ou.ite (λh=>Ou.ret hf (QDc.nil _ _ (by simpa using h) _)) λhe=>?_);have e0:e=0:=by simpa using he
 subst e0;simp only[zJO];refine Ou.bind (zRT hS d.kind_ d.at_ d.name_ d.tele_ d.type_.kind_ d.type_.at_ d.type_.name_ d.type_.n_ d.type_.sub_ d.cons_ d.rows_ ho.2.1.2 b1 a f hf) id (λr hr=>⟨_,zB.ifT (by have h:r.2.2.1=8:=hr;rw[h];rfl) zB.ret,hr⟩) ?_;rintro R k k0 k1⟨T,n,e,a,rfl,hg⟩;dsimp only;refine Ou.ite (λh=>Ou.ret (by omega) (QDc.nil _ _ (by simpa using h) _)) λhe=>?_;have e0:e=0:=by simpa using he
 subst e0;obtain⟨g1,g2,g3,gP⟩:=hg rfl;simp only[zJN,zJM];refine Ou.bind (zJQ hS d n g1 g2 ho.1 (by omega) (by omega) a (f-k) (by omega)) id (λr hr=>?_) ?_
 ·rcases r with y|y;·exact⟨_,zB.ifT (by have h:y.2.1=8:=hr;rw[h];rfl) zB.ret,hr⟩
  ·exact⟨_,zB.ifT (by have h:y.2.1=8:=hr;rw[h];rfl) zB.ret,hr⟩
 rintro R k2 k20 k21(⟨ll,e,a,he,rfl⟩|⟨l',a,hN,hFam,rfl⟩)
 ·dsimp only;exact Ou.ifT (by simpa using he) (Ou.ret (by omega) (QDc.nil _ _ he _))
 ·dsimp only;refine Ou.ifF rfl ?_;have hlen:=hN.len;have le:((l'.length:Int)-1)=(l.length:Int):=by omega
  refine Ou.bind (by simp only[zEG];exact zCT hN.S 0 0 ⟨#[]⟩ 0 0 ⟨#[]⟩ 0 d.kind_ d.at_ d.name_ d.tele_ d.type_.kind_ d.type_.at_ d.type_.name_ d.type_.n_ d.type_.sub_ d.cons_ d.rows_ n g1 g2 ho.2.2.1.2 ho.2.2.1.1 (by omega) (by omega) (by rw[le];exact hN.P) (by rw[le];exact hN.I) d.cons_ 0 [] a (f-k-k2) rfl (by omega) (by simp) (by simp) (by omega)) id (λr hr=>⟨_,zB.ifT (by have h:r.2.1=8:=hr;rw[h];rfl) zB.ret,hr⟩) ?_;rintro R k3 k30 k31⟨C,e,a,rfl,hc⟩;dsimp only;refine Ou.ite (λh=>Ou.ret (by omega) (QDc.nil _ _ (by simpa using h) _)) λhe=>?_;have e0:e=0:=by simpa using he
  subst e0;obtain⟨c1,c2,K,cK,cF⟩:=hc rfl;have cK:C=K:=cK;subst cK;obtain⟨⟨w1,w2,w3⟩,hw,hW⟩:=zRR (l:=l') d.kind_ d.at_ d.name_ d.tele_ d.type_.kind_ d.type_.at_ d.type_.name_ d.type_.n_ d.type_.sub_ d.cons_ d.rows_ T n l C (by omega) (λx hx=>⟨hN.S.he x hx,hN.S.hc x hx⟩) (by omega) hN.mem hN.cons c2 a;refine Ou.evtL hW (Ou.ite (λh=>Ou.ret (by omega) (QDc.nil _ _ (by simpa using h) _)) λhe=>Ou.ret (by omega) ?_);have e0:w2=0:=by simpa using he
  subst e0;obtain⟨u1,u2,u3,u4⟩:=hw rfl;exact⟨w1,0,0,rfl,λh=>absurd rfl h,u3,u2,λ_=>⟨T,l',C,k,k2,k3,by omega,gP,g1,hN,hFam,cF,by omega,u1,u4⟩⟩
set_option linter.unusedSectionVars false
theorem zB.unbind{α β:Type}{f:Nat->Option α}{a:α}{c:Nat->α->Option β}{r:β}(h:zB f a)(g:zB (λq=>f q>>=c q) r):zB (λq=>c q a) r:=by obtain⟨n,h⟩:=h;obtain⟨m,g⟩:=g;refine⟨max n m,λq hq=>?_⟩;have this:(f q>>=c q)=some r:=g q (by omega);rw[h q (by omega)]at this;exact this
theorem Ou.known{ρ:Type}{er:ρ->Int}{Q:(Int->Int->ρ)->Int->Prop}{k:Int}{f:Int->Int->Nat->Option ρ}(h:Ou f er Q True k){r:ρ}(hk:zB (f k 0) r)(h8:er r≠8)(h0:0<=k)(h1:k<=1000000):∃R k',0<=k'/\k'<=k/\Q R k'/\zWZ f er R k'/\r=R (k-k') k':=by
 rcases h with⟨R,k',a,b,c,d⟩|⟨h,-⟩
 ·refine⟨R,k',a,b,c,d,?_⟩;have:=(d.1 k 0 b (by omega) (by omega)).det hk;rw[show(0:Int)+k'=k' by omega]at this;exact this.symm
 ·obtain⟨r',x,y⟩:=h 0 (by omega) (by omega);rw[x.det hk]at y;exact absurd y h8
theorem Ru.at{ρ:Type}{f:Int->Int->Nat->Option ρ}{R:Int->Int->ρ}{k:Int}(h:Ru f R k)(h1:k<=1000000):zB (f k 0) (R 0 k):=by have:=h.2 k 0 (by omega) (by omega) (by omega);rw[show k-k=0 by omega,show(0:Int)+k=k by omega]at this;exact this
section
variable{l:List yF}(hS:kG l)
abbrev RuT(l:List yF)(ctx:List Tm)(x:Tm)(n k:Int):Prop:=Ru (λL U q=>e94 q (xQ l) L U ctx [] [] l x) (λL U=>(n,0,L,U)) k
include hS
theorem zJR(t:Tm)(hR:xE l t):HU l [] [] t:=by obtain⟨⟨N,hE⟩,-⟩:=hS.E;exact(zAK l hE hS.he hS.hl hS.hc hS.hF [] [] (λ_ h=>nomatch h) rfl (by simp) t.nodes t hR (Nat.le_refl _)).2.1
theorem zCY{ctx:List Tm}{x:Tm}{n k:Int}(hcl:ctx.length<=100)(hoc:xW ctx)(ho:x.Ok)(h1:k<=1000000)(h:Ru (λL U q=>e98 q (xQ l) L U ctx [] [] x) (λL U=>(n,0,L,U)) k):xE l x/\RuT l ctx x n k:=by
 obtain⟨⟨N,hE⟩,-⟩:=hS.E;have st:=λL U=>zAQ l hE hS.he hS.hl hS.hc ctx [] [] x hcl (by simp) hoc (λ_ h=>nomatch h) ho L U;have hat:=h.at h1;by_cases hh:(jT l [] [] [x]&&jT l [] [] ctx&&jT l [] [] [])=true
 ·have hR:xE l x:=by have h2:=hh;simp only[Bool.and_eq_true]at h2;exact(P0 h2.1.1).2 x (by simp)
  refine⟨hR,?_⟩;have hat2:zB (λq=>e94 q (xQ l) k 0 ctx [] [] l x>>=λr5=>some (r5.1,r5.2.1,r5.2.2.1,r5.2.2.2)) (n,0,0,k):=by simp only[e98]at hat;have h3:=zB.unbind ((st k 0).eq (if_pos hh)) hat;exact h3
  have hn:=(zO hR.shaped).1;have O:=zJR hS x hR ctx k hoc (by omega) h.1;rcases O with⟨R,k',a,b,⟨a1,e1,h8,rfl⟩,d⟩|⟨hs,-⟩
  ·have e:=(((d.1 k 0 b (by omega) (by omega)).bind (k:=λ_ r5=>some (r5.1,r5.2.1,r5.2.2.1,r5.2.2.2)) zB.ret)).det hat2;dsimp only at e;injection e with e2 e;injection e with e3 e;injection e with e4 e;subst e2 e3;have:k'=k:=by omega
   subst this;exact⟨h.1,d.1⟩
  ·obtain⟨r,hr,h8⟩:=hs 0 (by omega) (by omega);have e:=(hr.bind (k:=λ_ r5=>some (r5.1,r5.2.1,r5.2.2.1,r5.2.2.2)) zB.ret).det hat2;have:r.2.1=0:=by injection e with e2 e;injection e
   have h8:r.2.1=8:=h8;omega
 ·simp only[e98]at hat;have:=zB.unbind ((st k 0).eq (if_neg hh)) hat;have e:=(zB.ifT (g:=λq=>some (0,0,0,0)) (c:=((5:Int)!=0)) rfl zB.ret).det this;injection e with e2 e;injection e with e3 e;cases e3
def Two(l:List yF)(ctx:List Tm)(a b:Tm)(k:Int):Prop:=∃n1 k1 n2 k2,RuT l ctx a n1 k1/\RuT l (ctx++[a]) b n2 k2/\k1+k2<=k
def QTw(l:List yF)(ctx:List Tm)(a b:Tm)(R:Int->Int->Tm×Int×Int×Int)(k:Int):Prop:=∃t e,t.Ok/\e≠8/\R=(λL U=>(t,e,L,U))/\(e=0->Two l ctx a b k)
theorem zRU(ctx:List Tm)(m:Int)(a b:Tm)(hRa:xE l a)(hRb:xE l b)(ho:xW ctx)(hn:ctx.length+a.nodes+b.nodes+1<=100000)(f:Int)(hf:0<=f):Ou (λL U q=>O6 q (xQ l) L U ctx [] [] l (.mk 3 m [a,b])) er4 (QTw l ctx a b) True f:=by
 refine Ou.succ ?_;simp only[O6];refine Ou.ifF rfl (Ou.ifF rfl (Ou.ifF rfl (Ou.ifF rfl (Ou.ifF rfl (Ou.ifT rfl ?_)))));refine Ou.bind (er:=er4) (Q:=QTw l ctx a b) (S:=True) (Ou.succ ?_) id (λr hr=>⟨_,zB.ret,hr⟩) (λR k k0 k1 hQ=>by obtain⟨a,e,h1,h2,rfl,h3⟩:=hQ;exact Ou.ret (by omega) ⟨a,e,h1,h2,rfl,λhe=>by rw[show k+0=k by omega];exact h3 he⟩);simp only[zVp];refine Ou.pure (a:=a) rfl (Ou.bind (zJR hS a hRa ctx f ho (by omega) hf).own id (λr hr=>⟨_,zB.ifT (ne8 hr) zB.ret,hr⟩) ?_);rintro R k k0 k1⟨⟨i,e,h8,rfl⟩,hu⟩;dsimp only;refine Ou.ite (λh=>Ou.ret (by omega) ⟨_,e,yW 0 0,h8,rfl,λhe=>absurd he (by simpa using h)⟩) λh0=>?_;have e0:e=0:=by simpa using h0
 subst e0;refine Ou.imp (f:=λL U q=>e94 q (xQ l) L U (ctx++[a]) [] [] l b>>=λr10=>if(r10.2.1 !=0)=true then some ((Tm.mk 0 0 []),r10.2.1,r10.2.2.1,r10.2.2.2)else V5 q (nI i r10.1)>>=λr13=>some (r13,0,r10.2.2.1,r10.2.2.2)) ?_ λL U r h=>(jS l [] ctx [] a (by omega) L U).bind (zB.pure (a:=b) rfl h);refine Ou.bind (zJR hS b hRb (ctx++[a]) (f-k) (ho.app (xW.one (yJ hRa.shaped))) (by simp;omega) (by omega)).own id (λr hr=>⟨_,zB.ifT (ne8 hr) zB.ret,hr⟩) ?_;rintro R n n0 n1⟨⟨j,e,h8,rfl⟩,hv⟩;dsimp only;refine Ou.ite (λh=>Ou.ret (by omega) ⟨_,e,yW 0 0,h8,rfl,λhe=>absurd he (by simpa using h)⟩) λh0=>Ou.evt (lX _) (Ou.ret (by omega) ⟨_,0,yW _ _,by decide,rfl,λ_=>?_⟩);have e0:e=0:=by simpa using h0
 subst e0;exact⟨i,k,j,n,hu,hv,by omega⟩
theorem zZt{ctx:List Tm}{m:Int}{a b:Tm}(hRa:xE l a)(hRb:xE l b)(ho:xW ctx)(hn:ctx.length+a.nodes+b.nodes+1<=100000){n k:Int}(h1:k<=1000000)(h:RuT l ctx (.mk 3 m [a,b]) n k):Two l ctx a b k:=by
 have O:Ou (λL U q=>e94 q (xQ l) L U ctx [] [] l (.mk 3 m [a,b])) zVo (λR k=>∃n e,R=(λL U=>(n,e,L,U))/\(e=0->Two l ctx a b k)) True k:=by
  obtain⟨⟨N,hE⟩,-⟩:=hS.E;refine Ou.succ ?_;simp only[e94];refine Ou.bind (zRU hS ctx m a b hRa hRb ho hn k h.1) id (λr hr=>⟨_,zB.ifT (ne8 hr) zB.ret,hr⟩) ?_;rintro R j k0 k1⟨t,e,ha,h8,rfl,hT⟩;dsimp only;refine Ou.ite (λh=>Ou.ret (by omega) ⟨0,e,rfl,λhe=>absurd he (by simpa using h)⟩) λh0=>?_;have T:=hT (by simpa using h0);have T2:∀n,0<=n->Two l ctx a b (j+n):=λn h0=>by obtain⟨n1,k1,n2,k2,x,y,z⟩:=T;exact⟨n1,k1,n2,k2,x,y,by omega⟩
  refine Ou.bind (gB l hE hS.he t ha (k-j) (by omega)) id (λr hr=>⟨_,zB.ifT (ne8 hr) zB.ret,hr⟩) ?_;rintro R n n0 n1⟨y,e,hy,h8,-,rfl⟩;dsimp only;exact Ou.ite (λh=>Ou.ret (by omega) ⟨0,e,rfl,λ_=>T2 _ (by omega)⟩) λ_=>Ou.ite (λ_=>Ou.ret (by omega) ⟨0,6,rfl,λ_=>T2 _ (by omega)⟩) λ_=>Ou.ret (by omega) ⟨y.n,0,rfl,λ_=>T2 _ (by omega)⟩
 obtain⟨R,k',a0,a1,⟨n',e',rfl,hT⟩,-,e⟩:=O.known (h.at h1) (by show(0:Int)≠8;decide) h.1 h1;dsimp only at e;injection e with e2 e;injection e with e3 e;obtain⟨n1,k1,n2,k2,x,y,z⟩:=hT e3.symm;exact⟨n1,k1,n2,k2,x,y,by omega⟩
theorem zRV{ctx:List Tm}{y:Tm}(hk:y.k=2){n k:Int}(h1:k<=1000000)(h:RuT l ctx y n k):y.n<7:=by
 by_cases h7:y.n<7;·exact h7
 have e:zB (λq=>e94 q (xQ l) k 0 ctx [] [] l y) (0,7,k,0):=by refine zB.succ ?_;simp only[e94];refine zB.bind (a:=(Tm.mk 0 0 [],7,k,0)) (zB.succ ?_) (zB.ifT rfl zB.ret);simp only[O6];rw[hk];exact zB.ifF rfl (zB.ifF rfl (zB.ifF rfl (zB.ifF rfl (zB.ifT rfl (zB.ifT (decide_eq_true (by omega)) zB.ret)))))
 have e:=e.det (h.at h1);injection e with e2 e;injection e with e3 e;cases e3
inductive TU(l:List yF):List Tm->List Tm->Int->Prop where|nil{ctx}:TU l ctx [] 0|cons{ctx x r k k' n}(hR:xE l x)(h:RuT l ctx x n k)(g:TU l (ctx++[x]) r k'):TU l ctx (x::r) (k+k')
omit hS in theorem TU.pos{ctx r:List Tm}{k:Int}(h:TU l ctx r k):0<=k:=by induction h with|nil=>omega|cons _ h _ ih=>have:=h.1;omega
omit hS in theorem PU.pos{ctx r:List Tm}{k:Int}(h:PU l ctx r k):0<=k:=by induction h with|nil=>omega|cons h _ ih=>have:=h.1;omega
theorem PU.typer{ctx r:List Tm}{k:Int}(h:PU l ctx r k)(hk:k<=1000000):∀(_:xW (ctx++r))(_:(ctx++r).length<=100),TU l ctx r k:=by induction h with|nil=>exactλ_ _=>.nil|@cons ctx x r k k' n h g ih=>intro ho hl;have:=h.1;have:=g.pos;obtain⟨a,b⟩:=zCY hS (by simp at hl;omega) (λy hy=>ho y (List.mem_append_left _ hy)) (ho x (by simp)) (by omega) h;exact .cons a b (ih (by omega) (by rw[List.append_assoc];exact ho) (by rw[List.append_assoc];exact hl))
omit hS in theorem TU.app{ctx r s:List Tm}{k k':Int}(h:TU l ctx r k)(g:TU l (ctx++r) s k'):TU l ctx (r++s) (k+k'):=by induction h with|nil=>rw[List.append_nil]at g;simpa using g|@cons ctx x r k1 k2 n hR h _ ih=>rw[show k1+k2+k'=k1+(k2+k')by omega];exact .cons hR h (ih (by rw[List.append_assoc];exact g))
theorem zHG:∀(m:Nat)(t y:Tm)(A ctx:List Tm)(n k:Int),uZ m t=some (A,y)->xE l t->xW ctx->ctx.length+t.nodes<=100000->k<=1000000->RuT l ctx t n k->∃k1 k2 n2,TU l ctx A k1/\RuT l (ctx++A) y n2 k2/\k1+k2<=k
 |0,t,y,A,ctx,n,k,h,hR,ho,hl,hk,hu=>by injection h with h;injection h with h1 h2;subst h1 h2;exact⟨0,k,n,.nil,by rw[List.append_nil];exact hu,by omega⟩|m+1,t,y,A,ctx,n,k,h,hR,ho,hl,hk,hu=>by
  by_cases h3:t.k=3
  ·obtain⟨a,b,hx,-,-⟩:=rM (zO hR.shaped).2.2 h3;rw[hx]at h hu hR hl;rw[pZ]at h;have hRa:=pU hR (x:=a) (by simp[Tm.sub]);have hRb:=pU hR (x:=b) (by simp[Tm.sub]);rw[Tm.nodes,yN,yN,yN]at hl;obtain⟨n1,k1,n2,k2,u1,u2,u3⟩:=zZt hS hRa hRb ho (by omega) hk hu;cases hb:uZ m b with|none=>rw[hb]at h;cases h|some r=>obtain⟨B,z⟩:=r;rw[hb]at h;injection h with h;injection h with h1 h2;subst h1 h2;have:=u1.1;obtain⟨j1,j2,n3,v1,v2,v3⟩:=zHG m b _ B (ctx++[a]) n2 k2 hb hRb (ho.app (xW.one (yJ hRa.shaped))) (by simp;have:=xM a;omega) (by omega) u2;exact⟨k1+j1,j2,n3,.cons hRa u1 v1,by rw[List.append_assoc]at v2;exact v2,by omega⟩
  ·rw[mY h3]at h;cases h
end
def P3:Nat->xT->yI->Int->Int->Int->Int->yI->yH->yI->yD->Option (Int×Int×Int×Int)|0,_,_,_,_,_,_,_,_,_,_=>none|n+1,M,m,g,s,a,b,c,d,e,f=>if decide (g<(m.length:Int))then zL m g>>=λx6=>e94 n M a b c d e f x6>>=λr8=>if r8.2.1 !=0 then some (0,r8.2.1,r8.2.2.1,r8.2.2.2)else e95 n M r8.2.2.1 r8.2.2.2 c d e f x6>>=λr11=>P3 n M m (yB (g+1)) (nI s r8.1) r8.2.2.1 r8.2.2.2 r11.1 r11.2.1 r11.2.2.1 r11.2.2.2 else some (s,0,a,b)
def e50(n:Nat)(M:xT)(p q:Int)(p0_Context:yI)(p0_Names:yH)(p0_Types m:yI):Option (Int×Int×Int×Int):=e93 n M p q p0_Context p0_Names p0_Types m>>=λr1=>match r1 with|Sum.inl y3=>if y3.1 !=0 then some (0,y3.1,p,q)else P3 n M m 0 0 p q y3.2.1 y3.2.2.1 y3.2.2.2.1 y3.2.2.2.2|Sum.inr y5=>if y5 !=0 then some (0,y5,p,q)else none
theorem zZs:∀n:Nat,∀M m g s a b c d e f,Lz (P3 n M m g s a b c d e f) 3 f50 (pt 65461 f50) (λj=>sp j 45 0 [(6,.mp 3 0),(8,ai s),(22,zC zA m .no),(23,ai (m.length:Int)),(24,ai g)]) ⟨[(0,mB M 1),(1,mR M),(2,.cells [ai a,ai b]),(3,.cells [.mp 0 0,.mp 2 0,zC zA c .no,zC zW d .no,zC zA e .no,zC zV f .no])],4,[],0,[]⟩ (λr=>.tup [ai r.1,ai r.2.1]) (λr=>[mB M 1,mR M,.cells [ai r.2.2.1,ai r.2.2.2]]) 0 [.blk 0,.seq (pt 1023 f50)]:=yS (λ_ _ _ _ _ _ _ _ _ _=>lN) λn ih=>λM m g s a b c d e f=>lw λ_=>rB 0 (rA 0 (yP (o:=.no)) λ_=>rC 3 [3,0,1,2] c94 λ_=>rB 2 (lE 0)<|rC 2 [3,0,1,2] c95 λ_=>lH 1 [] [0,1,2,5] [] [6,8,22,23,24] (ih _ _ _ _ _ _ _ _ _ _))<|lE 0
theorem c50{n M p q p0_Context p0_Names p0_Types m}:Cz (e50 n M p q p0_Context p0_Names p0_Types m) 50 [mB M 1,mR M,.cells [ai p,ai q]] [.agg [.mp 0 0,.mp 2 0,zC zA p0_Context .no,zC zW p0_Names .no,zC zA p0_Types .no],zC zA m .no] (λr=>.tup [ai r.1,ai r.2.1]) (λr=>[mB M 1,mR M,.cells [ai r.2.2.1,ai r.2.2.2]]) 0:=fw func50<|rC 1 [0,1,2] c93<|pN (λ_=>rB 2 (fE 0)<|fH 1 [] [0,1,2,4] [] [6,8,22,23,24] (zZs _ _ _ _ _ _ _ _ _ _ _)) λ_=>rB 2 (fE 0) rN
mutual def C1:Nat->yD->Int->yF->(yI×yI×Int)->Int->Int->Int->yD->Int->Int->Option (Int×Int×Int)
 |0,_,_,_,_,_,_,_,_,_,_=>none|u+1,m,p,x6,r9,f,c,d,e,a,b=>if decide (f<(x6.cons.length:Int))then zL x6.cons f>>=λx31=>zL m x31>>=λx33=>P4 u m p x6 r9 f c d e a b 0 x33.type.k x33.type.n x33.type.sub else some (0,c,d)def P4:Nat->yD->Int->yF->(yI×yI×Int)->Int->Int->Int->yD->Int->Int->Int->Int->Int->yI->Option (Int×Int×Int)
 |0,_,_,_,_,_,_,_,_,_,_,_,_,_,_=>none|u+1,m,p,x6,r9,f,c,d,e,a,b,t,q,s,g=>if decide (t<x6.pars)then zL g 1>>=λx36=>P4 u m p x6 r9 f c d e a b (yB (t+1)) x36.k x36.n x36.sub else bS u e 0 0 (⟨#[]⟩:ByteArray) 0 0 (⟨#[]⟩:ByteArray) 0 c d r9.1 a b (Tm.mk q s g) p 0>>=λr38=>if r38.1 !=0 then some (r38.1,r38.2.2.1,r38.2.2.2)else C1 u m p x6 r9 (yB (f+1)) r38.2.2.1 r38.2.2.2 e r38.1 r38.2.1 end
def e21(u:Nat)(m:yD)(p v w:Int):Option (Int×Int×Int):=cV u m>>=λr1=>if r1 then if decide (p<0)then some (16,v,w)else if decide (p>=(m.length:Int))then some (16,v,w)else zL m p>>=λx6=>if x6.kind !=1 then some (16,v,w)else e48 u m p>>=λr9=>uL m 0 p>>=λx11=>bR u x11 0 0 (⟨#[]⟩:ByteArray) 0 0 (⟨#[]⟩:ByteArray) 0 v w r9.1 0 0 []>>=λr13=>match r13 with
 |Sum.inl y15=>uL r9.1 0 (r9.1.length:Int)>>=λx16=>yR 40 x16 r9.2.1>>=λl18=>e50 u (xT.mk y15.2.2.2.2.2.1 y15.2.2.2.2.2.2.2.2.1 y15.2.2.2.2.2.2.2.2.2 y15.2.2.2.2.2.2.1 y15.2.2.2.2.2.2.2.1) v w y15.1 y15.2.1 y15.2.2.1 l18>>=λr21=>if r21.2.1 !=0 then some (r21.2.1,r21.2.2.1,r21.2.2.2)else if decide (x6.level>=7)then some (7,r21.2.2.1,r21.2.2.2)else e51 u x11>>=λr25=>yR 192 r25 [(yF.mk x6.kind x6.name x6.type x6.body x6.fam x6.place x6.pars x6.inds x6.level [] [])]>>=λl27=>C1 u m p x6 r9 0 r21.2.2.1 r21.2.2.2 l27 y15.2.2.2.1 y15.2.2.2.2.1|Sum.inr y30=>none else some (5,v,w)
theorem mH:∀u:Nat,(∀m p x6 r9 f c d e a b,Lz (C1 u m p x6 r9 f c d e a b) 1 f21 (pt 4294967221 f21) (λj=>sp j 125 0 [(0,zC zV m .no),(1,ai p),(7,.mp 1 0),(11,.mp 2 0),(91,zC zW x6.cons .no),(92,ai (x6.cons.length:Int)),(93,ai f)]) ⟨[(0,.cells [ai c,ai d]),(1,.cells [ai x6.kind,at' x6.name,ai x6.type.k,ai x6.type.n,zC zA x6.type.sub .no,ai x6.body.k,ai x6.body.n,zC zA x6.body.sub .no,ai x6.fam,ai x6.place,ai x6.pars,ai x6.inds,ai x6.level,zC zW x6.cons .no,zC zW x6.fields .no]),(2,.cells [zC zV e .no,ai 0,ai 0,at' (⟨#[]⟩:ByteArray),zC zF ([]:List zM) .nl,ai 0,ai 0,at' (⟨#[]⟩:ByteArray),ai 0,zC zK ([]:List zG) .nl,zC zF ([]:List zM) .nl,zC zY ([]:List yO) .nl,.mp 0 0,zC zA r9.1 .no,zC xC ([]:List ByteArray) .nl,ai a,ai b])],3,[],0,[]⟩ (λr=>ai r.1) (λr=>[.cells [ai r.2.1,ai r.2.2]]) 0 [.blk 0,.seq (pt 67108863 f21)])/\(∀m p x6 r9 f c d e a b t q s g,Lz (P4 u m p x6 r9 f c d e a b t q s g) 1 f21 (pt 4503599549751221 f21) (λj=>sp j 125 0 [(0,zC zV m .no),(1,ai p),(7,.mp 1 0),(11,.mp 2 0),(18,.mp 3 0),(91,zC zW x6.cons .no),(92,ai (x6.cons.length:Int)),(93,ai f),(103,ai x6.pars),(104,ai t)]) ⟨[(0,.cells [ai c,ai d]),(1,.cells [ai x6.kind,at' x6.name,ai x6.type.k,ai x6.type.n,zC zA x6.type.sub .no,ai x6.body.k,ai x6.body.n,zC zA x6.body.sub .no,ai x6.fam,ai x6.place,ai x6.pars,ai x6.inds,ai x6.level,zC zW x6.cons .no,zC zW x6.fields .no]),(2,.cells [zC zV e .no,ai 0,ai 0,at' (⟨#[]⟩:ByteArray),zC zF ([]:List zM) .nl,ai 0,ai 0,at' (⟨#[]⟩:ByteArray),ai 0,zC zK ([]:List zG) .nl,zC zF ([]:List zM) .nl,zC zY ([]:List yO) .nl,.mp 0 0,zC zA r9.1 .no,zC xC ([]:List ByteArray) .nl,ai a,ai b]),(3,.cells [ai q,ai s,zC zA g .no])],4,[],0,[]⟩ (λr=>ai r.1) (λr=>[.cells [ai r.2.1,ai r.2.2]]) 0 [.blk 2,.seq (pt 70368742964863 f21),.blk 1,.seq (pt 274877902207 f21),.loop (pt 4294967221 f21),.blk 0,.seq (pt 67108863 f21)]):=yS ⟨λ_ _ _ _ _ _ _ _ _ _=>lN,λ_ _ _ _ _ _ _ _ _ _ _ _ _ _=>lN⟩ λu ih=>⟨λm p x6 r9 f c d e a b=>lw λ_=>rB 0 (rA 0 (vQ (o:=.no)) λ_=>rA 1 (xA (o:=.no)) λ_=>lH 3 [] [0,1,2,3] [] [0,1,7,11,18,91,92,93,103,104] (ih.2 _ _ _ _ _ _ _ _ _ _ _ _ _ _))<|lE 0,λm p x6 r9 f c d e a b t q s g=>lw λ_=>rB 0 (rA 1 (yP (o:=.no)) λ_=>lH 3 [] [0,1,2,3] [] [0,1,7,11,18,91,92,93,103,104] (ih.2 _ _ _ _ _ _ _ _ _ _ _ _ _ _))<|rC 1 [2,0] zVM λ_=>rB 1 (lE 1)<|lH 1 [] [0,1,2] [] [0,1,7,11,91,92,93] (ih.1 _ _ _ _ _ _ _ _ _ _)⟩
theorem c21{u m p v w}:Cz (e21 u m p v w) 21 [.cells [ai v,ai w]] [zC zV m .no,ai p,.mp 0 0] (λr=>ai r.1) (λr=>[.cells [ai r.2.1,ai r.2.2]]) 0:=fw func21<|rK 0 [] c47 (λ_=>rB 1 (fE 0)<|rB 1 (fE 0)<|rH λx6 h7=>rS (oA 0 (xA (o:=.no) h7))<|rB 1 (fE 0)<|rS (oA 0 (xA (o:=.no) h7))<|rC 2 [] c48 λr9=>rH λ_ h12=>rS (oA 3 (zDO h12))<|rC 0 [2,0] Y3<|pN (λ_=>rA 4 (jE (o:=.no)) λ_=>rH λ_ h19=>rZ (List.length r9.2.1=0) (λh20=>rS (oP 0 (rG h19 h20))<|rC 0 [3,4,0] c50 λ_=>rB 2 (fE 0)<|rB 1 (fE 0)<|rS (oA 4 (zDO h12))<|rC 0 [] c51 λ_=>rH λ_ h28=>rZ (List.length [(yF.mk x6.kind x6.name x6.type x6.body x6.fam x6.place x6.pars x6.inds x6.level [] [])]=0) (λh29=>rS (oP 2 (zBY h28 h29))<|fH 3 [] [0,1,2] [] [0,1,7,11,91,92,93] (((mH _).1) _ _ _ _ _ _ _ _ _ _)) λh29=>rS (oP 2 (n8 h28 h29))<|fH 3 [] [0,1,2] [] [0,1,7,11,91,92,93] (((mH _).1) _ _ _ _ _ _ _ _ _ _)) λh20=>rS (oP 0 (xY h19 h20))<|rC 0 [3,4,0] c50 λ_=>rB 2 (fE 0)<|rB 1 (fE 0)<|rS (oA 4 (zDO h12))<|rC 0 [] c51 λ_=>rH λ_ h28=>rZ (List.length [(yF.mk x6.kind x6.name x6.type x6.body x6.fam x6.place x6.pars x6.inds x6.level [] [])]=0) (λh29=>rS (oP 2 (zBY h28 h29))<|fH 3 [] [0,1,2] [] [0,1,7,11,91,92,93] (((mH _).1) _ _ _ _ _ _ _ _ _ _)) λh29=>rS (oP 2 (n8 h28 h29))<|fH 3 [] [0,1,2] [] [0,1,7,11,91,92,93] (((mH _).1) _ _ _ _ _ _ _ _ _ _)) λ_=>rN) λ_=>fE 1
set_option linter.unusedSectionVars false
theorem zHH(m:Nat)(t:Tm):∀ps:List Tm,uZ (ps.length+m) (piI ps t)=(uZ m t).map λr=>(ps++r.1,r.2)|[]=>by simp[piI]|a::ps=>by rw[show(a::ps).length+m=(ps.length+m)+1 by simp;omega,show piI (a::ps) t=.mk 3 0 [a,piI ps t]from rfl,pZ,zHH m t ps];cases uZ m t<;>rfl
theorem J2{t y:Tm}{A:List Tm}(h:yX t=(A,y,0)):uZ A.length t=some (A,y):=by
 obtain⟨h1,h2,-⟩:=tL h;unfold yX xJ at h;rw[if_pos h1,if_neg (by omega)]at h;by_cases h24:((min (wJ t) 25:Nat):Int)>24;·rw[if_pos h24]at h;injection h with h3 h;injection h with h4 h5;cases h5
 ·rw[if_neg h24]at h;rw[show(((min (wJ t) 25:Nat):Int)).toNat=A.length by omega]at h;cases hs:uZ A.length t with|none=>rw[hs,aE]at h;injection h with h3 h;injection h with h4 h5;cases h5|some r=>rw[hs,aE]at h;injection h with h3 h;injection h with h4 h5;obtain⟨r1,r2⟩:=r;simp only[List.nil_append]at h3;have h4:r2=y:=h4;rw[h3,h4]
section
variable{l:List yF}(hS:kG l)
include hS
theorem zNN(P:List Tm)(hl:P.length<=100)(ho:xW P)(hR:∀x∈P,xE l x)(L U:Int):zB (λq=>e93 q (xQ l) L U [] [] [] P) (.inl (0,[],[],[],l)):=by
 obtain⟨⟨N,hE⟩,-⟩:=hS.E;have r1:jT l [] [] P=true:=by unfold jT;simpa using hR
 have r2:jT l [] [] []=true:=by unfold jT;simp
 simp only[e93];refine((mO l [] [] [] P L U hl ho).eq r1).bind (zB.ifT rfl (((mO l [] [] [] [] L U (by simp) (λ_ h=>nomatch h)).eq r2).bind (zB.ifT rfl (((mO l [] [] [] [] L U (by simp) (λ_ h=>nomatch h)).eq r2).bind (zB.ifT rfl (zB.bind (a:=l) ?_ zB.ret))))));simp only[zHo];exact((jP l hS.hl hS.he hS.hc).eq (pR hE)).bind zB.ret
theorem zRW(P:List Tm)(hl:P.length<=100):∀{ctx r:List Tm}{k:Int},TU l ctx r k->∀(v:Nat)(mx:Int),P.drop v=r->ctx.length+r.length<=100->∃m,Ru (λL U q=>P3 q (xQ l) P (v:Int) mx L U ctx [] [] l) (λL U=>(m,0,L,U)) k:=by intro ctx r k h;induction h with|nil=>intro v mx hd hc;refine⟨mx,Ru.succ ?_⟩;simp only[P3];exact Ru.ifF (zZ hd) Ru.ret|@cons ctx x r k k' n hR h g ih=>intro v mx hd hc;have hlt:=yC hd;simp only[List.length_cons]at hc;obtain⟨m,hm⟩:=ih (v+1) (nI mx n) (zP hd) (by simp;omega);refine⟨m,Ru.succ ?_⟩;simp only[P3];rw[zS v (by omega)];refine Ru.ifT (zX hd) (Ru.pure (zU hd) (Ru.bind h ?_));dsimp only;exact Ru.ifF rfl (Ru.evtL (λL U=>jS l [] ctx [] x (by omega) L U) hm)
theorem zVU(P:List Tm)(hl:P.length<=100)(ho:xW P){k:Int}(h:TU l [] P k):∃m,Ru (λL U q=>e50 q (xQ l) L U [] [] [] P) (λL U=>(m,0,L,U)) k:=by
 have hR:∀{ctx r:List Tm}{k:Int},TU l ctx r k->∀x∈r,xE l x:=by intro ctx r k h;induction h with|nil=>intro x hx;cases hx|cons a _ _ ih=>
  intro x hx;rcases List.mem_cons.1 hx with rfl|hx;·exact a
  ·exact ih x hx
 obtain⟨m,hm⟩:=zRW hS P hl h 0 0 rfl (by simpa using hl);refine⟨m,?_⟩;simp only[e50];exact Ru.evtL (λL U=>zNN hS P hl ho (hR h) L U) (Ru.ifF rfl hm)
end
section
variable{l l':List yF}{pars:List Tm}(C:List yF)(d:Int)(x6:yF)(r9:List Tm×List Tm×Int)
theorem zHI(v:Nat){t:Tm}{R:Int->Int->Int×Int×Int}{k at0:Int}(hP:x6.pars=pars.length)(hpl:pars.length<=24)(g:Ru (λL U q=>bS q l' 0 0 ⟨#[]⟩ 0 0 ⟨#[]⟩ 0 L U r9.1 0 at0 (Tm.mk t.k t.n t.sub) d 0>>=λr38=>if(r38.1 !=0)=true then some (r38.1,r38.2.2.1,r38.2.2.2)else C1 q C d x6 r9 (yB ((v:Int)+1)) r38.2.2.1 r38.2.2.2 l' r38.1 r38.2.1) R k):∀(ps:List Tm)(w:Nat),w+ps.length=pars.length->Ru (λL U q=>P4 q C d x6 r9 (v:Int) L U l' 0 at0 (w:Int) (piI ps t).k (piI ps t).n (piI ps t).sub) R k|[],w,hw=>by refine Ru.succ ?_;simp only[P4];exact Ru.ifF (decide_eq_false (by rw[hP];simp at hw;omega)) g|a::ps,w,hw=>by simp only[List.length_cons]at hw;refine Ru.succ ?_;simp only[P4];rw[zS w (by omega)];exact Ru.ifT (decide_eq_true (by rw[hP];omega)) (Ru.pure (a:=piI ps t) rfl (zHI v hP hpl g ps (w+1) (by omega)))
theorem zVV(hP:x6.pars=pars.length)(hpl:pars.length<=24)(h9:r9.1=pars)(hd:d=(l'.length:Int)-1)(K0:List yF)(n0:Nat)(hcs:x6.cons=qG n0 K0.length)(hK:K0.length<=100)(hC:∀i:Nat,i<K0.length->zL C ((n0+1+i:Nat):Int)=zL K0 (i:Int)):∀{K:List yF}{k:Int},CF0 l' pars K k->∀(v:Nat)(at0:Int),K0.drop v=K->v<=K0.length->Ru (λL U q=>C1 q C d x6 r9 (v:Int) L U l' 0 at0) (λL U=>(0,L,U)) k:=by intro K k h;have hn:=zEH n0 K0.length;induction h with|nil=>intro v at0 hdr hv;have hdr:=List.drop_eq_nil_iff.1 hdr;refine Ru.succ ?_;simp only[C1];exact Ru.ifF (decide_eq_false (by rw[hcs,hn];omega)) Ru.ret|@cons x K t k k' hx g r ih=>
 intro v at0 hdr hv;have hlt:=yC hdr;obtain⟨a2,ha2⟩:=g at0;have go:=ih (v+1) a2 (zP hdr) hlt;refine Ru.succ ?_;simp only[C1];have hi:zL x6.cons (v:Int)=some ((n0+1+v:Nat):Int):=by rw[hcs];unfold zL qG;rw[if_pos (by omega)];simp[hlt]
 refine Ru.ifT (decide_eq_true (by rw[hcs,hn];omega)) (Ru.pure hi (Ru.pure ((hC v hlt).trans (zU hdr)) ?_));rw[hx];refine zHI C d x6 r9 v hP hpl ?_ pars 0 (by omega);rw[h9,hd,show Tm.mk t.k t.n t.sub=t by cases t;rfl];refine Ru.bind ha2 ?_;dsimp only;refine Ru.ifF rfl ?_;rw[zS v (by omega),<-hd];exact go
end
theorem zZr{l C:List yF}(hS:kG l)(hl:l.length<=100){k:Int}(hk:k<=1000000)(hC:∀x∈C,qK x/\M0 x)(hCl:C.length<=65535)(h:DOK l C k):∃k',k'<=k/\C.length>l.length/\C.take l.length=l/\Ru (λL U q=>e21 q C (l.length:Int) L U) (λL U=>(0,L,U)) k':=by
 obtain⟨pars,l',K,k1,k2,k3,hkk,hPU,hop,hN,⟨nm,t,A,y,n,hl',hto,hw,hyk,h24,hU⟩,hCF,hKl,hCe,hF⟩:=h;have p1:=hPU.pos;have p2:=hU.1;have p3:0<=k3:=by clear hCe hF hKl hkk;induction hCF with|nil=>omega|@cons x K t k k' hx g r ih=>obtain⟨a2,g⟩:=g 0;have:=g.1;omega
 have hent:zN l' (l.length:Int)=yF.mk 1 nm (piI pars t) (Tm.mk 0 0 []) 0 0 (pars.length:Int) (A.length:Int) y.n [] []:=by have:=yE (l:=l') (n:=(l.length:Int)) (by omega) (by have:=hN.len;omega);rw[hl']at this⊢;unfold zL at this;rw[if_pos (by omega)]at this;simpa using this.symm
 rw[hent]at hCe;dsimp only at hCe;have hlen:C.length=l.length+1+K.length:=by rw[hCe];simp;omega
 have hx:zL C (l.length:Int)=some (yF.mk 1 nm (piI pars t) (Tm.mk 0 0 []) 0 0 (pars.length:Int) (A.length:Int) y.n (qG l.length K.length) []):=by rw[hCe];unfold zL;rw[if_pos (by omega)];simp
 have htk:C.take l.length=l:=by rw[hCe,List.take_append_of_le_length (Nat.le_refl _),List.take_length]
 obtain⟨-,-,hA24,-,hys,hAs⟩:=tL hw;obtain⟨hRt,hUt⟩:=zCY hS (by omega) hop hto (by omega) hU;have hns:=(zO hRt.shaped).1;obtain⟨j1,j2,n2,hTA,hUy,hjj⟩:=zHG hS _ _ _ _ _ _ _ (J2 hw) hRt hop (by omega) (by omega) hUt;have h7:=zRV hS hyk (by have:=hTA.pos;omega) hUy;have hTP:=hPU.typer hS (by omega) (by simpa using hop) (by simp;omega);have hT:=hTP.app (s:=A) (by simpa using hTA);have hoA:xW (pars++A):=λz hz=>by
  rcases List.mem_append.1 hz with hz|hz;·exact hop z hz
  ·exact yJ (hAs z hz)
 obtain⟨mx,hTe⟩:=zVU hS (pars++A) (by simp;omega) hoA hT;obtain⟨N,hNm⟩:=eI;have hE:vN N C:=by obtain⟨b,q1,q2⟩:=jO N hNm C hCl λe h=>(hC e h).1;exact mD (hF.det q2).symm
 have hsh:zJ (piI pars t)=true:=by have:=(xS (hE.2 (l.length:Int) (by omega) (by omega))).1;have e:=(yE (l:=C) (n:=(l.length:Int)) (by omega) (by omega)).symm.trans hx;injection e with e;rw[e]at this;exact oH this
 have hsp:zB (λq=>e91 q (piI pars t) (yB ((pars.length:Int)+(A.length:Int)))) (pars++A,y,0):=by rw[zR (by omega) (by omega)];refine(jI _ _ (yJ hsh)).eq ?_;unfold xJ;rw[if_pos hsh,if_neg (by omega),if_neg (by omega),show((pars.length:Int)+(A.length:Int)).toNat=pars.length+A.length by omega,zHH,J2 hw];rfl
 have hPars:zB (λq=>e48 q C (l.length:Int)) (pars,A,0):=by
  simp only[e48];have his:zB (λq=>e90 q C (l.length:Int) 1) true:=by simp only[e90];exact zB.ifT (decide_eq_true (by omega)) (zB.ifT (decide_eq_true (by omega)) (zB.pure hx zB.ret))
  exact hF.bind (zB.ifT rfl (his.bind (zB.ifT rfl (zB.pure hx (hsp.bind (zB.pure (a:=pars) (by unfold uL;rw[if_pos (by simp;omega)];simp) (zB.pure (a:=A) (by unfold uL;rw[if_pos (by simp;omega)];simp;exact List.take_of_length_le (by omega)) zB.ret)))))))
 have hcopy:zB (λq=>e51 q l) l:=by obtain⟨⟨N,hE⟩,-⟩:=hS.E;exact(jP l hS.hl hS.he hS.hc).eq (pR hE)
 have hcon:=zVV (l':=l') (pars:=pars) C (l.length:Int) (yF.mk 1 nm (piI pars t) (Tm.mk 0 0 []) 0 0 (pars.length:Int) (A.length:Int) y.n (qG l.length K.length) []) (pars,A,0) rfl (by omega) rfl (by rw[hN.len];omega) K l.length rfl hKl (λi hi=>by rw[hCe];unfold zL;rw[if_pos (by omega),if_pos (by omega),List.getElem?_append_right (by omega),show(((l.length+1+i:Nat):Int)).toNat-l.length=i+1 by omega];simp) hCF 0 0 rfl (by omega);refine⟨k1+j1+k3,by have:=hUy.1;omega,by omega,htk,?_⟩;simp only[e21];refine Ru.evt hF (Ru.ifT rfl (Ru.ifF (decide_eq_false (by omega)) (Ru.ifF (decide_eq_false (by omega)) (Ru.pure hx (Ru.ifF rfl (Ru.evt hPars (Ru.pure (a:=l) (by unfold uL;rw[if_pos (by omega)];simpa using htk) (Ru.evtL (λL U=>P1 hS 0 0 ⟨#[]⟩ 0 0 ⟨#[]⟩ 0 pars L U 0 0 []) (Ru.pure (a:=pars) (by unfold uL;rw[if_pos (by omega)];simp) (Ru.pure (yA (by simp;omega)) (Ru.bind hTe ?_)))))))))));dsimp only;refine Ru.ifF rfl (Ru.ifF (decide_eq_false (by omega)) (Ru.evt hcopy (Ru.pure (yA (by simp;omega)) ?_)));rw[<-hl'];exact hcon
def bs(s:ByteArray):List Int:=s.data.toList.map λb=>(b.toNat:Int)
theorem rD(s:ByteArray):(bs s).length=s.size:=by unfold bs;rw[List.length_map,Array.length_toList];rfl
theorem eP{s:ByteArray}{c:Int}(h:c∈bs s):0<=c/\c<256:=by unfold bs at h;obtain⟨b,-,rfl⟩:=List.mem_map.1 h;have:=b.toNat_lt;omega
theorem J3(s:ByteArray){i:Int}(h:0<=i):nP s i=(bs s)[i.toNat]?:=by
 unfold nP bs;rw[if_pos h,List.getElem?_map,Array.getElem?_toList];have e:s[i.toNat]?=s.data[i.toNat]?:=by
  by_cases hi:i.toNat<s.size;·rw[getElem?_pos s _ hi,getElem?_pos s.data _ hi];rfl
  ·rw[getElem?_neg s _ hi,getElem?_neg s.data _ hi]
 rw[e];cases s.data[i.toNat]?<;>rfl
theorem zVW(s:ByteArray){a b:Nat}(h1:a<=b)(h2:b<=s.size):∃r,zMk s (a:Int) (b:Int)=some r/\bs r=((bs s).drop a).take (b-a):=by refine⟨_,by unfold zMk;rw[if_pos (by omega)],?_⟩;unfold bs;rw[ByteArray.data_extract,Array.toList_extract,List.map_take,List.map_drop,Int.toNat_natCast,Int.toNat_natCast]
theorem zVX(ns:List Int)(h:∀c∈ns,0<=c/\c<256):bs (tN ns)=ns:=by
 have key:∀(ns:List Int)(r:ByteArray),(∀c∈ns,0<=c/\c<256)->bs (ns.foldl (λr n=>r.push (UInt8.ofNat n.toNat)) r)=bs r++ns:=by intro ns;induction ns with|nil=>intro r _;simp|cons c ns ih=>
  intro r h;rw[List.foldl_cons,ih _ λx hx=>h x (by simp[hx])];have hc:=h c (by simp);have e:bs (r.push (UInt8.ofNat c.toNat))=bs r++[c]:=by unfold bs;rw[ByteArray.data_push,Array.toList_push,List.map_append];congr 1;simp only[List.map_cons,List.map_nil,UInt8.toNat_ofNat'];rw[Nat.mod_eq_of_lt (by omega),Int.toNat_of_nonneg hc.1]
  rw[e];simp
 have:=key ns ByteArray.empty h;unfold tN;rw[this];rfl
theorem zEI(s:ByteArray):s.toList=s.data.toList:=by
 have key:∀(m i:Nat)(r:List UInt8),i+m=s.size->ByteArray.toList.loop s i r=r.reverse++s.data.toList.drop i:=by intro m;induction m with|zero=>intro i r h;rw[ByteArray.toList.loop,if_neg (by omega),List.drop_eq_nil_of_le (by rw[Array.length_toList];show s.size<=i;omega),List.append_nil]|succ m ih=>
  intro i r h;have hi:i<s.data.toList.length:=by rw[Array.length_toList];show i<s.size;omega
  rw[ByteArray.toList.loop,if_pos (by omega),ih _ _ (by omega),List.drop_eq_getElem_cons hi];have e:s.get! i=s.data.toList[i]:=by
   have h2:i<s.data.size:=by simpa using hi
   show s.data[i]! =_;rw[getElem!_pos s.data i h2];simp
  rw[e];simp
 have:=key s.size 0 [] (by omega);unfold ByteArray.toList;rw[this];simp
theorem zLb(a b:ByteArray):(a.toList==b.toList)=decide (bs a=bs b):=by
 rw[zEI,zEI];by_cases h:a.data.toList=b.data.toList
 ·have e:bs a=bs b:=by unfold bs;rw[h]
  rw[h];simp[e]
 ·have e:¬bs a=bs b:=λe=>h (by unfold bs at e;exact(List.map_inj_right (λx y hxy=>UInt8.toNat_inj.1 (by omega))).1 e);rw[decide_eq_false e];simpa using h
def gI(n:Int):Bool:=decide (0<=n/\n<=1114111/\(n<55296\/57343<n))
def kQ(n:Int):Nat:=if 65536<=n then 4 else if 2048<=n then 3 else if 128<=n then 2 else 1
def tG(n:Int):List Int:=if n<128 then[n]else if n<2048 then[192+n/64,128+n%64]else if n<65536 then[224+n/4096,128+(n/64)%64,128+n%64]else[240+n/262144,128+(n/64/64)%64,128+(n/64)%64,128+n%64]
theorem Y9(n:Int):(tG n).length=kQ n:=by
 unfold tG kQ;by_cases h1:n<128;·rw[if_pos h1,if_neg (by omega),if_neg (by omega),if_neg (by omega)];rfl
 ·rw[if_neg h1];by_cases h2:n<2048;·rw[if_pos h2,if_neg (by omega),if_neg (by omega),if_pos (by omega)];rfl
  ·rw[if_neg h2];by_cases h3:n<65536;·rw[if_pos h3,if_neg (by omega),if_pos (by omega)];rfl
   ·rw[if_neg h3,if_pos (by omega)];rfl
def wZ(c:Int):Nat×Int:=if c<128 then(1,c)else if c<192 then(0,0)else if c<224 then(2,c-192)else if c<240 then(3,c-224)else if c<248 then(4,c-240)else(0,0)
def kR:Nat->Int->List Int->Option Int|0,n,_=>some n|_+1,_,[]=>none|m+1,n,d::r=>if 128<=d/\d<192 then kR m (n*64+(d-128)) r else none
def nN:List Int->Option (Int×Nat)|[]=>none|c::r=>if(wZ c).1=0 then none else match kR ((wZ c).1-1) (wZ c).2 r with|some n=>if gI n=true/\kQ n=(wZ c).1 then some (n,(wZ c).1)else none|none=>none
theorem zRX{m:Nat}{n x:Int}{r:List Int}(h:kR m n r=some x):m<=r.length:=by induction m generalizing n r with|zero=>omega|succ m ih=>cases r with|nil=>cases h|cons d r=>
 rw[kR]at h;split at h;·have:=ih h;simp;omega
 ·cases h
theorem zVY{n:Int}(h:gI n=true)(r:List Int):nN (tG n++r)=some (n,(tG n).length):=by
 have h':=of_decide_eq_true h;have hl:=Y9 n;rw[hl];unfold tG;by_cases h1:n<128
 ·have hw:kQ n=1:=by unfold kQ;rw[if_neg (by omega),if_neg (by omega),if_neg (by omega)]
  have e:wZ n=(1,n):=by unfold wZ;rw[if_pos h1]
  rw[if_pos h1,hw];simp only[List.cons_append,List.nil_append,nN,e,Nat.sub_self,kR];rw[if_neg (by decide),if_pos ⟨h,hw⟩]
 ·rw[if_neg h1];by_cases h2:n<2048
  ·have hw:kQ n=2:=by unfold kQ;rw[if_neg (by omega),if_neg (by omega),if_pos (by omega)]
   have e:wZ (192+n/64)=(2,n/64):=by unfold wZ;rw[if_neg (by omega),if_neg (by omega),if_pos (by omega)];congr 1;omega
   rw[if_pos h2,hw];simp only[List.cons_append,List.nil_append,nN,e,kR];rw[if_neg (by omega),if_pos (by omega)];have e2:n/64*64+(128+n%64-128)=n:=by omega
   simp only[e2];rw[if_pos ⟨h,hw⟩]
  ·rw[if_neg h2];by_cases h3:n<65536
   ·have hw:kQ n=3:=by unfold kQ;rw[if_neg (by omega),if_pos (by omega)]
    have e:wZ (224+n/4096)=(3,n/4096):=by unfold wZ;rw[if_neg (by omega),if_neg (by omega),if_neg (by omega),if_pos (by omega)];congr 1;omega
    rw[if_pos h3,hw];simp only[List.cons_append,List.nil_append,nN,e,kR];rw[if_neg (by omega),if_pos (by omega),if_pos (by omega)];have e2:(n/4096*64+(128+n/64%64-128))*64+(128+n%64-128)=n:=by omega
    simp only[e2];rw[if_pos ⟨h,hw⟩]
   ·have hw:kQ n=4:=by unfold kQ;rw[if_pos (by omega)]
    have e:wZ (240+n/262144)=(4,n/262144):=by unfold wZ;rw[if_neg (by omega),if_neg (by omega),if_neg (by omega),if_neg (by omega),if_pos (by omega)];congr 1;omega
    rw[if_neg h3,hw];simp only[List.cons_append,List.nil_append,nN,e,kR];rw[if_neg (by omega),if_pos (by omega),if_pos (by omega),if_pos (by omega)];have e2:((n/262144*64+(128+n/64/64%64-128))*64+(128+n/64%64-128))*64+(128+n%64-128)=n:=by omega
    simp only[e2];rw[if_pos ⟨h,hw⟩]
theorem zHJ{l:List Int}{n:Int}{w:Nat}(hb:∀c∈l,0<=c/\c<256)(h:nN l=some (n,w)):gI n=true/\w=(tG n).length/\l=tG n++l.drop w:=by cases l with|nil=>cases h|cons c r=>
 have hc:=hb c (by simp);rw[nN]at h;split at h;·cases h
 ·rename_i h0;split at h
  ·rename_i x hx;split at h
   ·rename_i hs;obtain⟨hs,hw⟩:=hs;obtain⟨rfl,rfl⟩:x=n/\(wZ c).1=w:=by injection h with h;injection h with a b;exact⟨a,b⟩
    refine⟨hs,by rw[Y9,hw],?_⟩;have hs':=of_decide_eq_true hs;revert hx hw h0;unfold wZ;by_cases a1:c<128
    ·rw[if_pos a1];intro h0 hx hw;simp only[kR,Nat.sub_self,Option.some.injEq]at hx;subst hx;unfold tG;rw[if_pos a1];rfl
    ·rw[if_neg a1];by_cases a2:c<192;·rw[if_pos a2];intro h0;exact absurd rfl h0
     ·rw[if_neg a2];by_cases a3:c<224
      ·rw[if_pos a3];intro h0 hx hw;rcases r with _|⟨d,r⟩;·cases hx
       ·simp only[kR,Nat.add_one_sub_one]at hx;split at hx
        ·rename_i hd;simp only[Option.some.injEq]at hx;have hn:128<=x/\x<2048:=by unfold kQ at hw;split at hw<;>(try split at hw)<;>(try split at hw)<;>first|omega|(simp at hw)
         unfold tG;rw[if_neg (by omega),if_pos hn.2];have e1:192+x/64=c:=by omega
         have e2:128+x%64=d:=by omega
         rw[e1,e2];rfl
        ·cases hx
      ·rw[if_neg a3];by_cases a4:c<240
       ·rw[if_pos a4];intro h0 hx hw;rcases r with _|⟨d,_|⟨e,r⟩⟩;·cases hx
        ·simp only[kR,Nat.reduceSub]at hx;split at hx<;>cases hx
        ·simp only[kR,Nat.reduceSub]at hx;split at hx
         ·split at hx
          ·rename_i hd he;simp only[Option.some.injEq]at hx;have hn:2048<=x/\x<65536:=by unfold kQ at hw;split at hw<;>(try split at hw)<;>(try split at hw)<;>first|omega|(simp at hw)
           unfold tG;rw[if_neg (by omega),if_neg (by omega),if_pos hn.2];have e1:224+x/4096=c:=by omega
           have e2:128+x/64%64=d:=by omega
           have e3:128+x%64=e:=by omega
           rw[e1,e2,e3];rfl
          ·cases hx
         ·cases hx
       ·rw[if_neg a4];by_cases a5:c<248
        ·rw[if_pos a5];intro h0 hx hw;rcases r with _|⟨d,_|⟨e,_|⟨f,r⟩⟩⟩;·cases hx
         ·simp only[kR,Nat.reduceSub]at hx;split at hx<;>cases hx
         ·simp only[kR,Nat.reduceSub]at hx;split at hx;·split at hx<;>cases hx
          ·cases hx
         ·simp only[kR,Nat.reduceSub]at hx;split at hx
          ·split at hx
           ·split at hx
            ·rename_i hd he hf;simp only[Option.some.injEq]at hx;have hn:65536<=x:=by unfold kQ at hw;split at hw<;>(try split at hw)<;>(try split at hw)<;>first|omega|(simp at hw)
             unfold tG;rw[if_neg (by omega),if_neg (by omega),if_neg (by omega)];have e1:240+x/262144=c:=by omega
             have e2:128+x/64/64%64=d:=by omega
             have e3:128+x/64%64=e:=by omega
             have e4:128+x%64=f:=by omega
             rw[e1,e2,e3,e4];rfl
            ·cases hx
           ·cases hx
          ·cases hx
        ·rw[if_neg a5];intro h0;exact absurd rfl h0
   ·cases h
  ·cases h
def zEJ(b:Nat)(a:Int):Option (Bool):=if decide (a<0)then some false else if decide (a>1114111)then some false else if decide (a<55296)then some true else some (decide (a>57343))
theorem zRY{b a}:Cz (zEJ b a) 202 [] [ai a] (λr=>ab r) (λ_=>[]) 0:=fw func202<|rB 0 (fE 0)<|rB 0 (fE 0)<|rB 0 (fE 0)<|fE 1
theorem zHK{x:Int}(h0:0<=x)(h1:x<256):IntKind.u8.wrap x=x:=by
 unfold IntKind.wrap;have e:(2^IntKind.u8.bits:Int)=256:=by rfl
 have s:IntKind.u8.signed=false:=rfl;simp only[e,s,Bool.false_and,Bool.false_eq_true,if_false];omega
theorem zHL{c:Int}(h0:0<=c)(h1:c<256):IntKind.u8.wrap ((BitVec.ofInt (IntKind.bits .u8) c&&&BitVec.ofInt (IntKind.bits .u8) 31).toNat:Nat)=c%32/\IntKind.u8.wrap ((BitVec.ofInt (IntKind.bits .u8) c&&&BitVec.ofInt (IntKind.bits .u8) 15).toNat:Nat)=c%16/\IntKind.u8.wrap ((BitVec.ofInt (IntKind.bits .u8) c&&&BitVec.ofInt (IntKind.bits .u8) 7).toNat:Nat)=c%8/\IntKind.u8.wrap ((BitVec.ofInt (IntKind.bits .u8) c&&&BitVec.ofInt (IntKind.bits .u8) 63).toNat:Nat)=c%64/\IntKind.u8.wrap ((BitVec.ofInt (IntKind.bits .u8) c&&&BitVec.ofInt (IntKind.bits .u8) 192).toNat:Nat)=c/64*64:=by
 have key:((List.range 256).all λi=>decide (IntKind.u8.wrap ((BitVec.ofInt (IntKind.bits .u8) (i:Int)&&&BitVec.ofInt (IntKind.bits .u8) 31).toNat:Nat)=(i:Int)%32)&&decide (IntKind.u8.wrap ((BitVec.ofInt (IntKind.bits .u8) (i:Int)&&&BitVec.ofInt (IntKind.bits .u8) 15).toNat:Nat)=(i:Int)%16)&&decide (IntKind.u8.wrap ((BitVec.ofInt (IntKind.bits .u8) (i:Int)&&&BitVec.ofInt (IntKind.bits .u8) 7).toNat:Nat)=(i:Int)%8)&&decide (IntKind.u8.wrap ((BitVec.ofInt (IntKind.bits .u8) (i:Int)&&&BitVec.ofInt (IntKind.bits .u8) 63).toNat:Nat)=(i:Int)%64)&&decide (IntKind.u8.wrap ((BitVec.ofInt (IntKind.bits .u8) (i:Int)&&&BitVec.ofInt (IntKind.bits .u8) 192).toNat:Nat)=(i:Int)/64*64))=true:=by kernel_rfl
 have h:=List.all_eq_true.1 key c.toNat (List.mem_range.2 (by omega));simp only[Bool.and_eq_true,decide_eq_true_eq]at h;rw[Int.toNat_of_nonneg h0]at h;exact⟨h.1.1.1.1,h.1.1.1.2,h.1.1.2,h.1.2,h.2⟩
theorem zVZ{n x:Int}(h0:0<=n)(h1:n<1048576)(h2:0<=x)(h3:x<64):IntKind.i64.wrap ((BitVec.ofInt (IntKind.bits .i64) (yB (n*2^(min (Int.toNat 6) (IntKind.bits .i64))))|||BitVec.ofInt (IntKind.bits .i64) (yB x)).toNat:Nat)=n*64+x:=by
 have e:(2^(min (Int.toNat 6) (IntKind.bits .i64)):Int)=64:=by rfl
 rw[e,zR (by omega) (by omega),zR (by omega) (by omega)];obtain⟨a,rfl⟩:=Int.eq_ofNat_of_zero_le h0;obtain⟨b,rfl⟩:=Int.eq_ofNat_of_zero_le h2;have hb:(BitVec.ofInt (IntKind.bits .i64) ((a:Int)*64)|||BitVec.ofInt (IntKind.bits .i64) (b:Int)).toNat=a*64+b:=by
  have e1:((a:Int)*64)=((a*64:Nat):Int):=by omega
  rw[e1,BitVec.ofInt_natCast,BitVec.ofInt_natCast,BitVec.toNat_or,BitVec.toNat_ofNat,BitVec.toNat_ofNat];have e2:(2^IntKind.bits .i64:Nat)=18446744073709551616:=rfl;rw[e2,Nat.mod_eq_of_lt (by omega),Nat.mod_eq_of_lt (by omega)];have:=Nat.two_pow_add_eq_or_of_lt (i:=6) (b:=b) (by omega) a;have e3:a*64=2^6*a:=by omega
  rw[e3];exact this.symm
 rw[hb];have:=zR (x:=((a*64+b:Nat):Int)) (by omega) (by omega);show yB _=_;rw[this];omega
theorem zWz{c:Int}(h0:0<=c)(h1:c<256):zB (λq=>zMI q c) (((wZ c).1:Int),(wZ c).2):=by
 obtain⟨a1,a2,a3,-,-⟩:=zHL h0 h1;simp only[zMI,a1,a2,a3];rw[zR (x:=c) (by omega) (by omega),zR (x:=c%32) (by omega) (by omega),zR (x:=c%16) (by omega) (by omega),zR (x:=c%8) (by omega) (by omega)];have geT:∀k:Int,k<=c->decide (c>=k)=true:=λk h=>decide_eq_true h;have geF:∀k:Int,c<k->decide (c>=k)=false:=λk h=>decide_eq_false (by omega);have ltT:∀k:Int,c<k->decide (c<k)=true:=λk h=>decide_eq_true h;have ltF:∀k:Int,k<=c->decide (c<k)=false:=λk h=>decide_eq_false (by omega);clear a1 a2 a3;unfold wZ;by_cases b1:c<128;·rw[if_pos b1];exact zB.ifT (ltT 128 b1) zB.ret
 ·rw[if_neg b1];refine zB.ifF (ltF 128 (by omega)) ?_;by_cases b2:c<192
  ·rw[if_pos b2];exact zB.ifF (geF 192 b2) (zB.ifF (geF 224 (by omega)) (zB.ifF (geF 240 (by omega)) zB.ret))
  ·rw[if_neg b2];refine zB.ifT (geT 192 (by omega)) ?_;by_cases b3:c<224;·rw[if_pos b3];exact zB.ifT (ltT 224 b3) (zB.ret.eq (by rw[show c%32=c-192 by omega];rfl))
   ·rw[if_neg b3];refine zB.ifF (ltF 224 (by omega)) (zB.ifT (geT 224 (by omega)) ?_);by_cases b4:c<240;·rw[if_pos b4];exact zB.ifT (ltT 240 b4) (zB.ret.eq (by rw[show c%16=c-224 by omega];rfl))
    ·rw[if_neg b4];refine zB.ifF (ltF 240 (by omega)) (zB.ifT (geT 240 (by omega)) ?_);by_cases b5:c<248;·rw[if_pos b5];exact zB.ifT (ltT 248 b5) (zB.ret.eq (by rw[show c%8=c-240 by omega];rfl))
     ·rw[if_neg b5];exact zB.ifF (ltF 248 (by omega)) zB.ret
theorem P5(n:Int):zB (λq=>zDV q n) (gI n):=by
 simp only[zDV];unfold gI;refine zB.iff (λh=>zB.iff (λh2=>zB.iff (λh3=>zB.ret.eq ?_) λh3=>zB.ret.eq ?_) λh2=>zB.ret.eq ?_) λh=>zB.ret.eq ?_;all_goals simp only[decide_eq_true_eq,decide_eq_false_iff_not]at*
 ·exact(decide_eq_true (by omega)).symm
 ·by_cases h4:n>57343;·rw[decide_eq_true h4,decide_eq_true (by omega)]
  ·rw[decide_eq_false h4,decide_eq_false (by omega)]
 ·exact(decide_eq_false (by omega)).symm
 ·exact(decide_eq_false (by omega)).symm
theorem zLa(n:Int):zB (λq=>zEJ q n) (gI n):=by
 simp only[zEJ];unfold gI;refine zB.iff (λh=>zB.ret.eq ?_) λh=>zB.iff (λh2=>zB.ret.eq ?_) λh2=>zB.iff (λh3=>zB.ret.eq ?_) λh3=>zB.ret.eq ?_;all_goals simp only[decide_eq_true_eq,decide_eq_false_iff_not]at*
 ·exact(decide_eq_false (by omega)).symm
 ·exact(decide_eq_false (by omega)).symm
 ·exact(decide_eq_true (by omega)).symm
 ·by_cases h4:n>57343;·rw[decide_eq_true h4,decide_eq_true (by omega)]
  ·rw[decide_eq_false h4,decide_eq_false (by omega)]
theorem zHM(n:Int):zB (λq=>zDW q n) (kQ n:Int):=by
 simp only[zDW];unfold kQ;refine zB.iff (λh=>zB.ret.eq ?_) λh=>zB.iff (λh2=>zB.ret.eq ?_) λh2=>zB.iff (λh3=>zB.ret.eq ?_) λh3=>zB.ret.eq ?_;all_goals simp only[decide_eq_true_eq,decide_eq_false_iff_not]at*
 ·rw[if_pos (by omega)];rfl
 ·rw[if_neg (by omega),if_pos (by omega)];rfl
 ·rw[if_neg (by omega),if_neg (by omega),if_pos (by omega)];rfl
 ·rw[if_neg (by omega),if_neg (by omega),if_neg (by omega)];rfl
def zWy(o:Option (Int×Nat)):Int×Int×Int:=match o with|some (n,w)=>(n,(w:Int),0)|none=>(0,0,1)
theorem zNO(s:ByteArray)(a w:Nat)(n0:Int)(hs:s.size<=65535)(hw:a+w<=s.size)(hw4:w<=4):∀(m i:Nat)(n:Int),i+m=w->0<=n->n<32*64^(i-1)->1<=i->zB (λq=>oE q s (a:Int) ((w:Int),n0) n (i:Int)) (zWy (match kR m n ((bs s).drop (a+i))with|some x=>if gI x=true/\kQ x=w then some (x,w)else none|none=>none)):=by intro m;induction m with
 |zero=>
  intro i n hi h0 h1 h2;refine zB.succ ?_;simp only[oE];refine zB.ifF (decide_eq_false (by simp;omega)) ((P5 n).bind ?_);simp only[kR];by_cases hr:gI n=true
  ·refine zB.ifT hr ((zHM n).bind ?_);by_cases hx:kQ n=w;·exact(zB.ifF (by simp[hx]) zB.ret).eq (by rw[if_pos ⟨hr,hx⟩];rfl)
   ·exact(zB.ifT (by simp;omega) zB.ret).eq (by rw[if_neg (λh=>hx h.2)];rfl)
  ·exact(zB.ifF (by simpa using hr) zB.ret).eq (by rw[if_neg (λh=>hr h.1)];rfl)|succ m ih=>
  intro i n hi h0 h1 h2;have hlt:a+i<(bs s).length:=by rw[rD];omega
  have hd:(bs s).drop (a+i)=(bs s)[a+i]::(bs s).drop (a+i+1):=List.drop_eq_getElem_cons hlt;have hc:=eP (List.getElem_mem hlt);refine zB.succ ?_;simp only[oE];have hg:nP s (yB ((a:Int)+(i:Int)))=some (bs s)[a+i]:=by rw[zR (by omega) (by omega),J3 s (by omega),show((a:Int)+(i:Int)).toNat=a+i by omega];exact List.getElem?_eq_getElem hlt
  obtain⟨-,-,-,b1,b2⟩:=zHL hc.1 hc.2;refine zB.ifT (decide_eq_true (by simp;omega)) (zB.pure hg ?_);rw[hd,kR];generalize(bs s)[a+i]=c at*;rw[b2,b1];by_cases h3:128<=c/\c<192
  ·rw[if_pos h3];refine zB.ifF (by simp;omega) ?_;have hp:n<1048576:=by
    have:i-1<=2:=by omega
    rcases(by omega:i-1=0\/i-1=1\/i-1=2)with e|e|e<;>rw[e]at h1<;>omega
   rw[zVZ h0 hp (by omega) (by omega),zS i (by omega)];have e:n*64+c%64=n*64+(c-128):=by omega
   rw[e];refine ih (i+1) _ (by omega) (by omega) ?_ (by omega);rw[Nat.add_sub_cancel];have e2:(64:Int)^i=64^(i-1)*64:=by rw[<-Int.pow_succ];congr 1;omega
   rw[e2];omega
  ·rw[if_neg h3];exact zB.ifT (by simp;omega) zB.ret
theorem zRZ(s:ByteArray)(a:Nat)(hs:s.size<=65535)(ha:a<s.size):zB (λq=>zMJ q s (a:Int)) (zWy (nN ((bs s).drop a))):=by
 have hlt:a<(bs s).length:=by rw[rD];omega
 have hd:(bs s).drop a=(bs s)[a]::(bs s).drop (a+1):=List.drop_eq_getElem_cons hlt;have hc:=eP (List.getElem_mem hlt);simp only[zMJ];have hg:nP s (a:Int)=some (bs s)[a]:=by rw[J3 s (by omega),Int.toNat_natCast];exact List.getElem?_eq_getElem hlt
 refine zB.ifF (decide_eq_false (by omega)) (zB.ifF (decide_eq_false (by omega)) (zB.pure hg ((zWz hc.1 hc.2).bind ?_)));rw[hd,nN];generalize(bs s)[a]=c at*;by_cases h0:(wZ c).1=0;·rw[if_pos h0];exact zB.ifT (by simp[h0]) zB.ret
 ·rw[if_neg h0];refine zB.ifF (by simp;omega) ?_;rw[zR (by omega) (by omega)];have hle:(wZ c).1<=4/\0<=(wZ c).2/\((wZ c).1≠1->(wZ c).2<32):=by
   unfold wZ;repeat' split
   all_goals(refine⟨?_,?_,?_⟩<;>simp<;>omega)
  by_cases hl:a+(wZ c).1<=s.size
  ·refine zB.ifF (decide_eq_false (by simp;omega)) ?_;by_cases h1:(wZ c).1=1
   ·refine zB.succ ?_;simp only[oE,h1,Nat.sub_self,kR];refine zB.ifF rfl ((P5 _).bind ?_);by_cases hr:gI (wZ c).2=true
    ·refine zB.ifT hr ((zHM _).bind ?_);by_cases hx:kQ (wZ c).2=1;·exact(zB.ifF (by simp[hx]) zB.ret).eq (by rw[if_pos ⟨hr,hx⟩];rfl)
     ·exact(zB.ifT (by simp;omega) zB.ret).eq (by rw[if_neg (λh=>hx h.2)];rfl)
    ·exact(zB.ifF (by simpa using hr) zB.ret).eq (by rw[if_neg (λh=>hr h.1)];rfl)
   ·have:=zNO s a (wZ c).1 (wZ c).2 hs hl hle.1 ((wZ c).1-1) 1 (wZ c).2 (by omega) hle.2.1 (by simpa using hle.2.2 h1) (by omega);exact this
  ·refine zB.ifT (decide_eq_true (by simp;omega)) (zB.ret.eq ?_);have:kR ((wZ c).1-1) (wZ c).2 ((bs s).drop (a+1))=none:=by cases hx:kR ((wZ c).1-1) (wZ c).2 ((bs s).drop (a+1))with|none=>rfl|some x=>have:=zRX hx;rw[List.length_drop,rD]at this;omega
   rw[this];rfl
mutual def mI:Nat->Int->(List U8)->Int->Option (List U8)
 |0,_,_,_=>none|d+1,a,c,b=>if decide (b>=0)then bT d a c b a 0 else some c def bT:Nat->Int->(List U8)->Int->Int->Int->Option (List U8)
 |0,_,_,_,_,_=>none|d+1,a,c,b,e,f=>if decide (f<b)then bT d a c b (yB (Int.tdiv e 64)) (yB (f+1))else yR 1 c [(IntKind.u8.wrap ((yB (128+(Int.tmod e 64)))))]>>=λl3=>mI d a l3 (yB (b-1))end
def zBE(d:Nat)(a g:Int):Option (List U8):=mI d a [] (yB (g-1))
theorem zAU:∀d:Nat,(∀a c b,Lz (mI d a c b) 0 f321 (pt 4021 f321) (λj=>sp j 32 0 [(0,ai a),(5,zC kT c (.st 0 1)),(6,ai b)]) ⟨[],0,[0],1,[]⟩ (λr=>.sl (zH kT r) r.length .no) (λ_=>[]) 0 [.blk 0,.seq (pt 63 f321)])/\(∀a c b e f,Lz (bT d a c b e f) 0 f321 (pt 263579573 f321) (λj=>sp j 32 0 [(0,ai a),(5,zC kT c (.st 0 1)),(6,ai b),(7,ai e),(8,ai f)]) ⟨[],0,[0],1,[]⟩ (λr=>.sl (zH kT r) r.length .no) (λ_=>[]) 0 [.blk 2,.seq (pt 4118431 f321),.blk 1,.seq (pt 64351 f321),.loop (pt 4021 f321),.blk 0,.seq (pt 63 f321)]):=yS ⟨λ_ _ _=>lN,λ_ _ _ _ _=>lN⟩ λd ih=>⟨λa c b=>lw λ_=>rB 0 (lH 0 [] [] [0] [0,5,6,7,8] (ih.2 _ _ _ _ _))<|lE 0,λa c b e f=>lw λ_=>rB 0 (lH 2 [] [] [0] [0,5,6,7,8] (ih.2 _ _ _ _ _))<|rW (λh4=>oP 4 (zDM h4 (by simp))) λ_=>lH 1 [] [] [1] [0,5,6] (ih.1 _ _ _)⟩
theorem zZq{d a g}:Cz (zBE d a g) 321 [] [ai a,ai g] (λr=>.sl (zH kT r) r.length .no) (λ_=>[]) 0:=fw func321<|fH 2 [(none,5,1)] [] [0] [0,5,6] (((zAU _).1) _ _ _)
def zWx(b:Nat)(a:Int):Option (ByteArray):=if decide (a<128)then some (tN [(IntKind.u8.wrap (a))])else if decide (a<2048)then zBE b a 1>>=λr3=>yR 1 [(IntKind.u8.wrap ((yB (192+(yB (Int.tdiv a 64))))))] r3>>=λl5=>some (tN l5)else if decide (a<65536)then zBE b a 2>>=λr9=>yR 1 [(IntKind.u8.wrap ((yB (224+(yB (Int.tdiv a 4096))))))] r9>>=λl11=>some (tN l11)else zBE b a 3>>=λr14=>yR 1 [(IntKind.u8.wrap ((yB (240+(yB (Int.tdiv a 262144))))))] r14>>=λl16=>some (tN l16)
theorem yEI{b a}:Cz (zWx b a) 296 [] [ai a] (λr=>at' r) (λ_=>[]) 0:=fw func296<|rB 0 (rS (oA 2 (vF [(IntKind.u8.wrap (a))] (o:=.full)))<|fE 0)<|rB 0 (rC 4 [] zZq λr3=>rH λl5 h6=>rZ (List.length r3=0) (λh7=>rS (oP 0 (zII h6 h7))<|rS (oA 0 (vF l5 (o:=.full)))<|fE 0) λh7=>rS (oP 0 (zDM h6 h7))<|rS (oA 0 (vF l5 (o:=(.st 0 1))))<|fE 0)<|rB 0 (rC 4 [] zZq λr9=>rH λl11 h12=>rZ (List.length r9=0) (λh13=>rS (oP 0 (zII h12 h13))<|rS (oA 0 (vF l11 (o:=.full)))<|fE 0) λh13=>rS (oP 0 (zDM h12 h13))<|rS (oA 0 (vF l11 (o:=(.st 0 1))))<|fE 0)<|rC 4 [] zZq λr14=>rH λl16 h17=>rZ (List.length r14=0) (λh18=>rS (oP 0 (zII h17 h18))<|rS (oA 0 (vF l16 (o:=.full)))<|fE 0) λh18=>rS (oP 0 (zDM h17 h18))<|rS (oA 0 (vF l16 (o:=(.st 0 1))))<|fE 0
def gJ:Nat->ByteArray->Int->Int->Option (Int)|0,_,_,_=>none|b+1,a,c,d=>if decide (d<(a.size:Int))then nP a d>>=λx9=>gJ b a (yB ((yB ((yB (c*64))+(yB (x9))))-128)) (yB (d+1))else zEJ b c>>=λr11=>if r11 then zWx b c>>=λr14=>if !(r14.toList==a.toList)then some (-1)else some c else some (-1)
def zWw(b:Nat)(a:ByteArray):Option (Int):=if(a.size:Int)==0 then some (-1)else nP a 0>>=λx2=>if decide ((a.size:Int)>1)then zL [0,0,192,224,240] (a.size:Int)>>=λx5=>if decide ((yB ((yB (x2))-x5))<0)then some (-1)else gJ b a (yB ((yB (x2))-x5)) 1 else if decide ((yB (x2))<0)then some (-1)else gJ b a (yB (x2)) 1
theorem zLA:∀b:Nat,∀a c d,Lz (gJ b a c d) 0 f255 (pt 1048501 f255) (λj=>sp j 49 0 [(0,at' a),(3,ai c),(5,ai d)]) ⟨[],0,[],0,[]⟩ (λr=>ai r) (λ_=>[]) 0 [.blk 0,.seq (pt 16383 f255)]:=yS (λ_ _ _=>lN) λb ih=>λa c d=>lw λ_=>rB 1 (rA 1 n9 λ_=>lH 4 [] [] [] [0,3,5] (ih _ _ _))<|rK 0 [] zRY (λ_=>rC 1 [] yEI λ_=>rB 0 (lE 0)<|lE 0) λ_=>lE 1
theorem yEJ{b a}:Cz (zWw b a) 255 [] [at' a] (λr=>ai r) (λ_=>[]) 0:=fw func255<|rB 1 (fE 0)<|rA 0 n9 λ_=>rB 3 (rA 1 (vQ (o:=.full)) λ_=>rB 2 (fE 0)<|fH 0 [] [] [] [0,3,5] (zLA _ _ _ _))<|rB 0 (fE 0)<|fH 0 [] [] [] [0,3,5] (zLA _ _ _ _)
def bU:Nat->ByteArray->Int->Int->Option (Int×Int×Bool)|0,_,_,_=>none|c+1,b,a,d=>if decide (d<=4)then if decide (d<=(yB ((b.size:Int)-a)))then zMk b a (yB (a+d))>>=λx5=>zWw c x5>>=λr7=>if decide (r7>=0)then some (r7,d,true)else bU c b a (yB (d+1))else some (0,0,false)else some (0,0,false)
def zWv(c:Nat)(b:ByteArray)(a:Int):Option (Int×Int×Bool):=if decide (a<0)then some (0,0,false)else if decide (a>=(b.size:Int))then some (0,0,false)else bU c b a 1
theorem zWu:∀c:Nat,∀b a d,Lz (bU c b a d) 0 f201 (pt 4021 f201) (λj=>sp j 40 0 [(0,at' b),(1,ai a),(7,ai d)]) ⟨[],0,[],0,[]⟩ (λr=>.tup [ai r.1,ai r.2.1,ab r.2.2]) (λ_=>[]) 0 [.blk 0,.seq (pt 63 f201)]:=yS (λ_ _ _=>lN) λc ih=>λb a d=>lw λ_=>rB 0 (rB 2 (rA 1 zXN λ_=>rC 0 [] yEJ λ_=>rB 0 (lE 0)<|lH 1 [] [] [] [0,1,7] (ih _ _ _))<|lE 0)<|lE 0
theorem yEK{c b a}:Cz (zWv c b a) 201 [] [at' b,ai a] (λr=>.tup [ai r.1,ai r.2.1,ab r.2.2]) (λ_=>[]) 0:=fw func201<|rB 0 (fE 0)<|rB 1 (fE 0)<|fH 0 [] [] [] [0,1,7] (zWu _ _ _ _)
def dvT:Nat->Int->Int|0,x=>x|m+1,x=>dvT m (x/64)
theorem zHN(n:Int)(out:List Int)(i:Nat)(hi:i<=4)(ho:out.length<=10){r:List Int}:∀(m k:Nat)(x:Int),k+m=i->0<=x->x<=1114111->zB (λq=>mI q n (out++[128+dvT m x%64]) ((i:Int)-1)) r->zB (λq=>bT q n out (i:Int) x (k:Int)) r
 |0,k,x,hk,h0,h1,h=>by
  refine zB.succ ?_;simp only[bT];have e:IntKind.u8.wrap (yB (128+Int.tmod x 64))=128+dvT 0 x%64:=by rw[Int.tmod_eq_emod_of_nonneg h0,zR (by omega) (by omega),zHK (by omega) (by omega)];rfl
  rw[e];refine zB.ifF (decide_eq_false (by omega)) (zB.pure (yA (by simp;omega)) ?_);rw[zR (by omega) (by omega)];exact h|m+1,k,x,hk,h0,h1,h=>by
  refine zB.succ ?_;simp only[bT];have e:yB (Int.tdiv x 64)=x/64:=by rw[Int.tdiv_eq_ediv_of_nonneg h0,zR (by omega) (by omega)]
  rw[e,zS k (by omega)];exact zB.ifT (decide_eq_true (by omega)) (zHN n out i hi ho m (k+1) (x/64) (by omega) (by omega) (by omega) h)
theorem zAV(n:Int)(out:List Int):zB (λq=>mI q n out (-1)) out:=by refine zB.succ ?_;simp only[mI];exact zB.ifF rfl zB.ret
theorem jV(n:Int)(h0:0<=n)(h1:n<=1114111)(out:List Int)(i:Nat)(hi:i<=4)(ho:out.length<=10){r:List Int}(h:zB (λq=>mI q n (out++[128+dvT i n%64]) ((i:Int)-1)) r):zB (λq=>mI q n out (i:Int)) r:=by refine zB.succ ?_;simp only[mI];exact zB.ifT (decide_eq_true (by omega)) (zHN n out i hi ho i 0 n (by omega) h0 h1 h)
theorem zZp{n:Int}(h0:0<=n)(h1:n<=1114111):zB (λq=>zWx q n) (tN (tG n)):=by
 have t1:zB (λq=>zBE q n 1) [128+n%64]:=by simp only[zBE];exact jV n h0 h1 [] 0 (by omega) (by simp) (zAV n _)
 have t2:zB (λq=>zBE q n 2) [128+n/64%64,128+n%64]:=by simp only[zBE];exact jV n h0 h1 [] 1 (by omega) (by simp) (jV n h0 h1 _ 0 (by omega) (by simp) (zAV n _))
 have t3:zB (λq=>zBE q n 3) [128+n/64/64%64,128+n/64%64,128+n%64]:=by simp only[zBE];exact jV n h0 h1 [] 2 (by omega) (by simp) (jV n h0 h1 _ 1 (by omega) (by simp) (jV n h0 h1 _ 0 (by omega) (by simp) (zAV n _)))
 have e0:n<256->IntKind.u8.wrap n=n:=λh=>zHK h0 h;have e1:n<2048->IntKind.u8.wrap (yB (192+yB (Int.tdiv n 64)))=192+n/64:=λh=>by rw[Int.tdiv_eq_ediv_of_nonneg h0,zR (x:=n/64) (by omega) (by omega),zR (by omega) (by omega),zHK (by omega) (by omega)]
 have e2:n<65536->IntKind.u8.wrap (yB (224+yB (Int.tdiv n 4096)))=224+n/4096:=λh=>by rw[Int.tdiv_eq_ediv_of_nonneg h0,zR (x:=n/4096) (by omega) (by omega),zR (by omega) (by omega),zHK (by omega) (by omega)]
 have e3:IntKind.u8.wrap (yB (240+yB (Int.tdiv n 262144)))=240+n/262144:=by rw[Int.tdiv_eq_ediv_of_nonneg h0,zR (x:=n/262144) (by omega) (by omega),zR (by omega) (by omega),zHK (by omega) (by omega)]
 simp only[zWx];unfold tG;by_cases h2:n<128;·rw[if_pos h2,e0 (by omega)];exact zB.ifT (decide_eq_true h2) zB.ret
 ·rw[if_neg h2];refine zB.ifF (decide_eq_false h2) ?_;by_cases h3:n<2048;·rw[if_pos h3,e1 h3];exact zB.ifT (decide_eq_true h3) (t1.bind (zB.pure (yA (by simp)) zB.ret))
  ·rw[if_neg h3];refine zB.ifF (decide_eq_false h3) ?_;by_cases h4:n<65536;·rw[if_pos h4,e2 h4];exact zB.ifT (decide_eq_true h4) (t2.bind (zB.pure (yA (by simp)) zB.ret))
   ·rw[if_neg h4,e3];exact zB.ifF (decide_eq_false h4) (t3.bind (zB.pure (yA (by simp)) zB.ret))
theorem zNP{n:Int}(h0:0<=n)(h1:n<=1114111):∀c∈tG n,0<=c/\c<256:=by
 unfold tG;intro c hc;split at hc;·simp at hc;omega
 ·split at hc;·simp at hc;omega
  ·split at hc;·simp at hc;omega
   ·simp at hc;omega
def mJ(m:Nat):Int:=if m=2 then 192 else if m=3 then 224 else if m=4 then 240 else 0
def eQ:Int->List Int->Int|n,[]=>n|n,d::r=>eQ (n*64+d-128) r
def eR:List Int->Int|[]=>-1|c::r=>if c-mJ (r.length+1)<0 then-1 else if gI (eQ (c-mJ (r.length+1)) r)=true/\tG (eQ (c-mJ (r.length+1)) r)=c::r then eQ (c-mJ (r.length+1)) r else-1
theorem zSz{l:List Int}(h:0<=eR l):gI (eR l)=true/\tG (eR l)=l:=by cases l with|nil=>rw[eR]at h;omega|cons c r=>
 rw[eR]at h⊢;split at h;·omega
 ·rename_i h1;rw[if_neg h1];split at h;·rename_i h2;rw[if_pos h2];exact h2
  ·omega
theorem zWt{n:Int}(h:gI n=true):eR (tG n)=n:=by
 have h':=of_decide_eq_true h;have key:∀c r,tG n=c::r->eQ (c-mJ (r.length+1)) r=n->0<=c-mJ (r.length+1)->eR (tG n)=n:=λc r h1 h2 h3=>by rw[h1,eR,if_neg (by omega),h2,if_pos ⟨h,h1⟩]
 by_cases h1:n<128;·exact key n [] (by unfold tG;rw[if_pos h1]) (by simp[mJ,eQ]) (by simp[mJ];omega)
 ·by_cases h2:n<2048;·exact key _ _ (by unfold tG;rw[if_neg h1,if_pos h2]) (by simp only[List.length_cons,List.length_nil,mJ,eQ];simp;omega) (by simp[mJ];omega)
  ·by_cases h3:n<65536;·exact key _ _ (by unfold tG;rw[if_neg h1,if_neg h2,if_pos h3]) (by simp only[List.length_cons,List.length_nil,mJ,eQ];simp;omega) (by simp[mJ];omega)
   ·exact key _ _ (by unfold tG;rw[if_neg h1,if_neg h2,if_neg h3]) (by simp only[List.length_cons,List.length_nil,mJ,eQ];simp;omega) (by simp[mJ];omega)
def zEK(i:Nat):Int:=if i<=1 then 256 else if i=2 then 17000 else if i=3 then 1100000 else 71000000
theorem zAW(s:ByteArray)(hs:s.size<=4):∀(m i:Nat)(n:Int),i+m=s.size->1<=i->-zEK i<=n->n<=zEK i->zB (λq=>gJ q s n (i:Int)) (if gI (eQ n ((bs s).drop i))=true/\tG (eQ n ((bs s).drop i))=bs s then eQ n ((bs s).drop i)else-1)
 |0,i,n,hm,hi,h0,h1=>by
  refine zB.succ ?_;simp only[gJ];rw[List.drop_eq_nil_of_le (by rw[rD];omega),eQ];refine zB.ifF (decide_eq_false (by omega)) ((zLa n).bind ?_);by_cases hr:gI n=true
  ·have hr':=of_decide_eq_true hr;refine zB.ifT hr ((zZp (by omega) (by omega)).bind ?_);have e:((tN (tG n)).toList==s.toList)=decide (tG n=bs s):=by rw[zLb,zVX _ (zNP (by omega) (by omega))]
   rw[e];by_cases hp:tG n=bs s;·exact(zB.ifF (by simp[hp]) zB.ret).eq (by rw[if_pos ⟨hr,hp⟩])
   ·exact(zB.ifT (by simp[hp]) zB.ret).eq (by rw[if_neg (λh=>hp h.2)])
  ·exact(zB.ifF (by simpa using hr) zB.ret).eq (by rw[if_neg (λh=>hr h.1)])|m+1,i,n,hm,hi,h0,h1=>by
  have hlt:i<(bs s).length:=by rw[rD];omega
  have hc:=eP (List.getElem_mem hlt);have hd:(bs s).drop i=(bs s)[i]::(bs s).drop (i+1):=List.drop_eq_getElem_cons hlt;refine zB.succ ?_;simp only[gJ];have hg:nP s (i:Int)=some (bs s)[i]:=by rw[J3 s (by omega),Int.toNat_natCast];exact List.getElem?_eq_getElem hlt
  refine zB.ifT (decide_eq_true (by omega)) (zB.pure hg ?_);rw[hd,eQ];generalize(bs s)[i]=c at*;have hb:-71000000<=n/\n<=71000000:=by unfold zEK at h0 h1;split at h0<;>(try split at h0)<;>(try split at h0)<;>omega
  rw[zR (x:=n*64) (by omega) (by omega),zR (x:=c) (by omega) (by omega),zR (x:=n*64+c) (by omega) (by omega),zR (x:=n*64+c-128) (by omega) (by omega),zS i (by omega)];have hi3:i=1\/i=2\/i=3:=by omega
  refine zAW s hs m (i+1) _ (by omega) (by omega) ?_ ?_;·rcases hi3 with rfl|rfl|rfl<;>simp[zEK]at h0 h1⊢<;>omega
  ·rcases hi3 with rfl|rfl|rfl<;>simp[zEK]at h0 h1⊢<;>omega
theorem zNQ(s:ByteArray)(hs:s.size<=4)(h1:1<=s.size):zB (λq=>zWw q s) (eR (bs s)):=by
 have hlen:=rD s;have hlt:0<(bs s).length:=by omega
 have hc:=eP (List.getElem_mem hlt);have hd:bs s=(bs s)[0]::(bs s).drop 1:=by have:=List.drop_eq_getElem_cons hlt;simpa using this
 have hl1:((bs s).drop 1).length+1=s.size:=by rw[List.length_drop];omega
 simp only[zWw];have hg:nP s 0=some (bs s)[0]:=by rw[J3 s (by omega)];exact List.getElem?_eq_getElem hlt
 refine zB.ifF (beq_eq_false_iff_ne.2 (by omega)) (zB.pure hg ?_);have hN:eR (bs s)=if(bs s)[0]-mJ s.size<0 then-1 else if gI (eQ ((bs s)[0]-mJ s.size) ((bs s).drop 1))=true/\tG (eQ ((bs s)[0]-mJ s.size) ((bs s).drop 1))=bs s then eQ ((bs s)[0]-mJ s.size) ((bs s).drop 1)else-1:=by
  conv=>lhs;rw[hd,eR]
  rw[hl1,<-hd]
 rw[hN];have hL:=zAW s hs (s.size-1) 1;generalize(bs s)[0]=c at*;by_cases h2:1<s.size
 ·have hf:zL [0,0,192,224,240] (s.size:Int)=some (mJ s.size):=by rcases(by omega:s.size=2\/s.size=3\/s.size=4)with e|e|e<;>rw[e]<;>rfl
  have hfb:0<=mJ s.size/\mJ s.size<=240:=by unfold mJ;split<;>(try split)<;>(try split)<;>omega
  refine zB.ifT (decide_eq_true (by omega)) (zB.pure hf ?_);rw[zR (x:=c) (by omega) (by omega),zR (by omega) (by omega)];by_cases h3:c-mJ s.size<0;·exact(zB.ifT (decide_eq_true h3) zB.ret).eq (by rw[if_pos h3])
  ·refine(zB.ifF (decide_eq_false h3) ?_).eq (by rw[if_neg h3]);exact hL _ (by omega) (by omega) (by simp[zEK];omega) (by simp[zEK];omega)
 ·have hs1:mJ s.size=0:=by rw[show s.size=1 by omega];rfl
  refine zB.ifF (decide_eq_false (by omega)) ?_;rw[zR (x:=c) (by omega) (by omega),hs1,Int.sub_zero];refine(zB.ifF (decide_eq_false (by omega)) ?_).eq (by rw[if_neg (by omega)]);exact hL _ (by omega) (by omega) (by simp[zEK];omega) (by simp[zEK];omega)
def zWs(o:Option (Int×Nat)):Int×Int×Bool:=match o with|some (n,w)=>(n,(w:Int),true)|none=>(0,0,false)
theorem zWr{l:List Int}{w:Nat}(hl:w<=l.length)(h:0<=eR (l.take w)):nN l=some (eR (l.take w),w):=by
 obtain⟨h1,h2⟩:=zSz h;have h3:=zVY h1 (l.drop w);have h4:(tG (eR (l.take w))).length=w:=by rw[h2,List.length_take];omega
 rw[h4]at h3;rw[h2,List.take_append_drop]at h3;exact h3
theorem Z0{l:List Int}{n:Int}{w:Nat}(hb:∀c∈l,0<=c/\c<256)(h:nN l=some (n,w)):1<=w/\w<=4/\w<=l.length/\eR (l.take w)=n/\0<=n:=by
 obtain⟨h1,h2,h3⟩:=zHJ hb h;have h4:1<=w/\w<=4:=by rw[h2,Y9];unfold kQ;split<;>(try split)<;>(try split)<;>omega
 have h5:w<=l.length:=by rw[h3,List.length_append];omega
 have h6:l.take w=tG n:=by rw[h3,h2];simp
 exact⟨h4.1,h4.2,h5,by rw[h6];exact zWt h1,(of_decide_eq_true h1).1⟩
theorem zCZ(s:ByteArray)(a:Nat)(hs:s.size<=65535)(ha:a<s.size):∀(m w:Nat),w+m=5->1<=w->(∀v,1<=v->v<w->v<=((bs s).drop a).length->eR (((bs s).drop a).take v)<0)->zB (λq=>bU q s (a:Int) (w:Int)) (zWs (nN ((bs s).drop a)))
 |0,w,hm,hw,hb=>by
  have hmem:∀c∈(bs s).drop a,0<=c/\c<256:=λc hc=>eP (List.mem_of_mem_drop hc);refine zB.succ ?_;simp only[bU];have hn:nN ((bs s).drop a)=none:=by cases hx:nN ((bs s).drop a)with|none=>rfl|some x=>obtain⟨h1,h2,h3,h4,h5⟩:=Z0 hmem (n:=x.1) (w:=x.2) hx;have:=hb x.2 h1 (by omega) h3;omega
  rw[hn];exact zB.ifF (decide_eq_false (by omega)) zB.ret|m+1,w,hm,hw,hb=>by
  have hmem:∀c∈(bs s).drop a,0<=c/\c<256:=λc hc=>eP (List.mem_of_mem_drop hc);have hdl:((bs s).drop a).length=s.size-a:=by rw[List.length_drop,rD]
  refine zB.succ ?_;simp only[bU];refine zB.ifT (decide_eq_true (by omega)) ?_;rw[zR (x:=(s.size:Int)-a) (by omega) (by omega)];by_cases hl:w<=s.size-a
  ·refine zB.ifT (decide_eq_true (by omega)) ?_;obtain⟨x,hx,hxb⟩:=zVW s (a:=a) (b:=a+w) (by omega) (by omega);rw[zR (x:=(a:Int)+w) (by omega) (by omega),show(a:Int)+w=((a+w:Nat):Int)by omega];rw[Nat.add_sub_cancel_left]at hxb;have hxs:x.size=w:=by rw[<-rD,hxb,List.length_take];omega
   refine zB.pure hx ((zNQ x (by omega) (by omega)).bind ?_);rw[hxb];by_cases hn:0<=eR (((bs s).drop a).take w)
   ·rw[zWr (by omega) hn];exact zB.ifT (decide_eq_true (by omega)) zB.ret
   ·refine zB.ifF (decide_eq_false (by omega)) ?_;rw[zS w (by omega)];refine zCZ s a hs ha m (w+1) (by omega) (by omega) λv h1 h2 h3=>?_;by_cases e:v=w;·subst e;omega
    ·exact hb v h1 (by omega) h3
  ·have hn:nN ((bs s).drop a)=none:=by cases hx:nN ((bs s).drop a)with|none=>rfl|some x=>obtain⟨h1,h2,h3,h4,h5⟩:=Z0 hmem (n:=x.1) (w:=x.2) hx;have:=hb x.2 h1 (by omega) h3;omega
   rw[hn];exact zB.ifF (decide_eq_false (by omega)) zB.ret
theorem zSy(s:ByteArray)(a:Nat)(hs:s.size<=65535)(ha:a<s.size):zB (λq=>zWv q s (a:Int)) (zWs (nN ((bs s).drop a))):=by simp only[zWv];exact zB.ifF (decide_eq_false (by omega)) (zB.ifF (decide_eq_false (by omega)) (zCZ s a hs ha 4 1 (by omega) (by omega) λv h1 h2=>by omega))
def kH:Nat->ByteArray->yH->Int->Option (yH×Int×Int)|0,_,_,_=>none|b+1,a,d,c=>if decide (c<(a.size:Int))then zWv b a c>>=λr3=>if r3.2.2 then yR 8 d [r3.1]>>=λl6=>kH b a l6 (yB (c+r3.2.1))else some ([],c,1)else some (d,(a.size:Int),0)
def zSx(b:Nat)(a:ByteArray):Option (yH×Int×Int):=if decide ((a.size:Int)>65535)then some ([],0,2)else kH b a [] 0
theorem zWq:∀b:Nat,∀a d c,Lz (kH b a d c) 0 f143 (pt 16357 f143) (λj=>sp j 38 0 [(0,at' a),(5,zC zW d (.st 0 1)),(6,ai c)]) ⟨[],0,[0],1,[]⟩ (λr=>.tup [.sl (zH zW r.1) r.1.length .no,ai r.2.1,ai r.2.2]) (λ_=>[]) 0 [.blk 0,.seq (pt 1023 f143)]:=yS (λ_ _ _=>lN) λb ih=>λa d c=>lw λ_=>rB 1 (rC 0 [] yEK λ_=>rB 2 (rW (λh7=>oP 2 (tY h7 (by simp))) λ_=>lH 1 [] [] [1] [0,5,6] (ih _ _ _))<|lE 1)<|lE 1
theorem yEL{b a}:Cz (zSx b a) 143 [] [at' a] (λr=>.tup [.sl (zH zW r.1) r.1.length .no,ai r.2.1,ai r.2.2]) (λ_=>[]) 0:=fw func143<|rB 1 (fE 0)<|fH 1 [(none,5,1)] [] [0] [0,5,6] (zWq _ _ _ _)
def bV:Nat->yH->Int->Int->Option (Bool)|0,_,_,_=>none|c+1,a,b,d=>if decide (d<(a.length:Int))then zL a d>>=λx2=>if x2==b then some true else bV c a b (yB (d+1))else some false
def zZo(c:Nat)(a:yH)(b:Int):Option (Bool):=bV c a b 0
theorem zWp:∀c:Nat,∀a b d,Lz (bV c a b d) 0 f256 (pt 949 f256) (λj=>sp j 18 0 [(0,zC zW a .no),(1,ai b),(5,ai d)]) ⟨[],0,[],0,[]⟩ (λr=>ab r) (λ_=>[]) 0 [.blk 0,.seq (pt 15 f256)]:=yS (λ_ _ _=>lN) λc ih=>λa b d=>lw λ_=>rB 1 (rA 0 (vQ (o:=.no)) λ_=>rB 1 (lE 0)<|lH 1 [] [] [] [0,1,5] (ih _ _ _))<|lE 0
theorem yEM{c a b}:Cz (zZo c a b) 256 [] [zC zW a .no,ai b] (λr=>ab r) (λ_=>[]) 0:=fw func256<|fH 0 [] [] [] [0,1,5] (zWp _ _ _ _)
def zHO(b:Nat)(a:Int):Option (Bool):=zZo b [40,41,123,125,58,61,46,44,59,124,92,955,8594,45,62] a>>=λr1=>some r1
theorem zWo{b a}:Cz (zHO b a) 203 [] [ai a] (λr=>ab r) (λ_=>[]) 0:=fw func203<|rC 1 [] yEM λ_=>fE 0
def zWn(b:Nat)(a:Int):Option (Bool):=if decide (a>=97)then if decide (a<=122)then some true else if decide (a>=65)then if decide (a<=90)then some true else if decide (a>=128)then zEJ b a>>=λr6=>if r6 then zHO b a>>=λr9=>if r9 then some false else if a !=160 then if decide (a>=8192)then some (!(decide (a<=8303)))else some true else some false else some false else some false else if decide (a>=128)then zEJ b a>>=λr15=>if r15 then zHO b a>>=λr18=>if r18 then some false else if a !=160 then if decide (a>=8192)then some (!(decide (a<=8303)))else some true else some false else some false else some false else if decide (a>=65)then if decide (a<=90)then some true else if decide (a>=128)then zEJ b a>>=λr26=>if r26 then zHO b a>>=λr29=>if r29 then some false else if a !=160 then if decide (a>=8192)then some (!(decide (a<=8303)))else some true else some false else some false else some false else if decide (a>=128)then zEJ b a>>=λr35=>if r35 then zHO b a>>=λr38=>if r38 then some false else if a !=160 then if decide (a>=8192)then some (!(decide (a<=8303)))else some true else some false else some false else some false
theorem yEN{b a}:Cz (zWn b a) 145 [] [ai a] (λr=>ab r) (λ_=>[]) 0:=fw func145<|rB 0 (rB 0 (fE 0)<|rB 0 (rB 0 (fE 0)<|rB 0 (rK 0 [] zRY (λ_=>rK 0 [] zWo (λ_=>fE 1) λ_=>rB 1 (rB 0 (fE 2)<|fE 1)<|fE 0) λ_=>fE 0)<|fE 0)<|rB 0 (rK 0 [] zRY (λ_=>rK 0 [] zWo (λ_=>fE 1) λ_=>rB 1 (rB 0 (fE 2)<|fE 1)<|fE 0) λ_=>fE 0)<|fE 0)<|rB 0 (rB 0 (fE 0)<|rB 0 (rK 0 [] zRY (λ_=>rK 0 [] zWo (λ_=>fE 1) λ_=>rB 1 (rB 0 (fE 2)<|fE 1)<|fE 0) λ_=>fE 0)<|fE 0)<|rB 0 (rK 0 [] zRY (λ_=>rK 0 [] zWo (λ_=>fE 1) λ_=>rB 1 (rB 0 (fE 2)<|fE 1)<|fE 0) λ_=>fE 0)<|fE 0
def zWm(b:Nat)(a:Int):Option (Bool):=if decide (a>=48)then some (decide (a<=57))else some false
theorem yEO{b a}:Cz (zWm b a) 146 [] [ai a] (λr=>ab r) (λ_=>[]) 0:=fw func146<|rB 0 (fE 1)<|fE 0
def C2:Nat->List Int->Option (List Int)|0,_=>some []|_+1,[]=>some []|m+1,c::r=>match nN (c::r)with|some (n,w)=>(C2 m ((c::r).drop w)).map λL=>n::L|none=>none
theorem zLB:∀(m:Nat)(l L:List Int),(∀c∈l,0<=c/\c<256)->l.length<=m->C2 m l=some L->l=L.flatMap tG
 |0,l,L,_,hl,h=>by rw[C2]at h;cases h;cases l with|nil=>rfl|cons _ _=>simp at hl
 |m+1,[],L,_,_,h=>by rw[C2]at h;cases h;rfl|m+1,c::r,L,hb,hl,h=>by rw[C2]at h;cases hd:nN (c::r)with|none=>rw[hd]at h;cases h|some x=>obtain⟨n,w⟩:=x;rw[hd]at h;obtain⟨L',hL,rfl⟩:=Option.map_eq_some_iff.1 h;obtain⟨h1,-,h3,-,-⟩:=Z0 hb hd;have:=zLB m ((c::r).drop w) L' (λx hx=>hb x (List.mem_of_mem_drop hx)) (by rw[List.length_drop];omega) hL;rw[List.flatMap_cons,<-this];exact(zHJ hb hd).2.2
def zDz(s:ByteArray)(acc:List Int)(m a:Nat)(f:Nat->Option (List Int×Int×Int)):Prop:=(∃L,C2 m ((bs s).drop a)=some L/\zB f (acc++L,(s.size:Int),0))\/(C2 m ((bs s).drop a)=none/\∃i,zB f ([],i,1))
theorem zWl(m:Nat):C2 m []=some []:=by cases m<;>rw[C2]
theorem zHP(m:Nat){l:List Int}(h:l≠[]):C2 (m+1) l=match nN l with|some (n,w)=>(C2 m (l.drop w)).map λL=>n::L|none=>none:=by cases l with|nil=>exact absurd rfl h|cons c r=>rw[C2]
theorem zHQ{s:ByteArray}{acc:List Int}{m a w:Nat}{n:Int}{f g:Nat->Option (List Int×Int×Int)}(ha:a<s.size)(hd:nN ((bs s).drop a)=some (n,w))(h:zDz s (acc++[n]) m (a+w) f)(k:∀r,zB f r->zB g r):zDz s acc (m+1) a g:=by
 have hne:(bs s).drop a≠[]:=λe=>by have:=congrArg List.length e;rw[List.length_drop,rD]at this;simp at this;omega
 have e:C2 (m+1) ((bs s).drop a)=(C2 m ((bs s).drop (a+w))).map λL=>n::L:=by rw[zHP m hne,hd];simp only[List.drop_drop]
 rcases h with⟨L,h1,h2⟩|⟨h1,i,h2⟩;·exact .inl ⟨n::L,by rw[e,h1];rfl,k _ (by simpa using h2)⟩
 ·exact .inr ⟨by rw[e,h1];rfl,i,k _ h2⟩
theorem zLC{s:ByteArray}{acc:List Int}{m a:Nat}{i:Int}{g:Nat->Option (List Int×Int×Int)}(ha:a<s.size)(hd:nN ((bs s).drop a)=none)(k:zB g ([],i,1)):zDz s acc (m+1) a g:=by
 have hne:(bs s).drop a≠[]:=λe=>by have:=congrArg List.length e;rw[List.length_drop,rD]at this;simp at this;omega
 exact .inr ⟨by rw[zHP m hne,hd],i,k⟩
theorem Z1{s:ByteArray}{acc:List Int}{m a:Nat}{g:Nat->Option (List Int×Int×Int)}(ha:s.size<=a)(k:zB g (acc,(s.size:Int),0)):zDz s acc m a g:=by have e:(bs s).drop a=[]:=List.drop_eq_nil_of_le (by rw[rD];exact ha);exact .inl ⟨[],by rw[e,zWl],by simpa using k⟩
theorem zXu{s:ByteArray}{a w:Nat}{n:Int}(hd:nN ((bs s).drop a)=some (n,w)):1<=w/\a+w<=s.size/\w<=4:=by obtain⟨h1,h2,h3,-,-⟩:=Z0 (λc hc=>eP (List.mem_of_mem_drop hc)) hd;rw[List.length_drop,rD]at h3;exact⟨h1,by omega,h2⟩
theorem zHR(s:ByteArray)(hs:s.size<=65535):∀(m a:Nat)(acc:List Int),s.size<=a+m->acc.length<=a->a<=s.size->zDz s acc m a (λq=>qY q s acc (a:Int))
 |0,a,acc,hm,hl,_=>Z1 (by omega) (zB.succ (by simp only[qY];exact zB.ifF (decide_eq_false (by omega)) zB.ret))|m+1,a,acc,hm,hl,hle=>by
  by_cases ha:a<s.size;·have hx:=zRZ s a hs ha;cases hd:nN ((bs s).drop a)with|none=>rw[hd]at hx;exact zLC (i:=(a:Int)) ha hd (zB.succ (by simp only[qY];exact zB.ifT (decide_eq_true (by omega)) (hx.bind (zB.ifT rfl zB.ret))))|some x=>
   obtain⟨n,w⟩:=x;rw[hd]at hx;have hw:=zXu hd;refine zHQ ha hd (zHR s hs m (a+w) (acc++[n]) (by omega) (by simp;omega) hw.2.1) λr hr=>zB.succ ?_;simp only[qY];refine zB.ifT (decide_eq_true (by omega)) (hx.bind (zB.ifF rfl (zB.pure (yA (by simp;omega)) ?_)));have e:yB ((a:Int)+(zWy (some (n,w))).2.1)=((a+w:Nat):Int):=by simp only[zWy];rw[zR (by omega) (by omega)];omega
   rw[e];exact hr
  ·exact Z1 (by omega) (zB.succ (by simp only[qY];exact zB.ifF (decide_eq_false (by omega)) zB.ret))
theorem zHS(s:ByteArray)(hs:s.size<=65535):∀(m a:Nat)(acc:List Int),s.size<=a+m->acc.length<=a->a<=s.size->zDz s acc m a (λq=>kH q s acc (a:Int))
 |0,a,acc,hm,hl,_=>Z1 (by omega) (zB.succ (by simp only[kH];exact zB.ifF (decide_eq_false (by omega)) zB.ret))|m+1,a,acc,hm,hl,hle=>by
  by_cases ha:a<s.size;·have hx:=zSy s a hs ha;cases hd:nN ((bs s).drop a)with|none=>rw[hd]at hx;exact zLC (i:=(a:Int)) ha hd (zB.succ (by simp only[kH];exact zB.ifT (decide_eq_true (by omega)) (hx.bind (zB.ifF rfl zB.ret))))|some x=>
   obtain⟨n,w⟩:=x;rw[hd]at hx;have hw:=zXu hd;refine zHQ ha hd (zHS s hs m (a+w) (acc++[n]) (by omega) (by simp;omega) hw.2.1) λr hr=>zB.succ ?_;simp only[kH];refine zB.ifT (decide_eq_true (by omega)) (hx.bind (zB.ifT rfl (zB.pure (yA (by simp;omega)) ?_)));have e:yB ((a:Int)+(zWs (some (n,w))).2.1)=((a+w:Nat):Int):=by simp only[zWs];rw[zR (by omega) (by omega)];omega
   rw[e];exact hr
  ·exact Z1 (by omega) (zB.succ (by simp only[kH];exact zB.ifF (decide_eq_false (by omega)) zB.ret))
def W4(s:ByteArray):Option (List Int):=if s.size<=65535 then C2 s.size (bs s)else none
theorem zWk(s:ByteArray):(∃L,W4 s=some L/\zB (λq=>zGo q s) (L,(s.size:Int),0))\/(W4 s=none/\∃r,zB (λq=>zGo q s) r/\r.2.2≠0):=by
 simp only[zGo];unfold W4;by_cases h:s.size<=65535
 ·rw[if_pos h];rcases zHR s h s.size 0 [] (by omega) (by simp) (by omega)with⟨L,h1,h2⟩|⟨h1,i,h2⟩;·exact .inl ⟨L,by simpa using h1,zB.ifF (decide_eq_false (by omega)) (by simpa using h2)⟩
  ·exact .inr ⟨by simpa using h1,_,zB.ifF (decide_eq_false (by omega)) h2,by show(1:Int)≠0;decide⟩
 ·rw[if_neg h];exact .inr ⟨rfl,_,zB.ifT (decide_eq_true (by omega)) zB.ret,by decide⟩
theorem zWj(s:ByteArray):(∃L,W4 s=some L/\zB (λq=>zSx q s) (L,(s.size:Int),0))\/(W4 s=none/\∃r,zB (λq=>zSx q s) r/\r.2.2≠0):=by
 simp only[zSx];unfold W4;by_cases h:s.size<=65535
 ·rw[if_pos h];rcases zHS s h s.size 0 [] (by omega) (by simp) (by omega)with⟨L,h1,h2⟩|⟨h1,i,h2⟩;·exact .inl ⟨L,by simpa using h1,zB.ifF (decide_eq_false (by omega)) (by simpa using h2)⟩
  ·exact .inr ⟨by simpa using h1,_,zB.ifF (decide_eq_false (by omega)) h2,by show(1:Int)≠0;decide⟩
 ·rw[if_neg h];exact .inr ⟨rfl,_,zB.ifT (decide_eq_true (by omega)) zB.ret,by decide⟩
def zDy:List Int:=[40,41,123,125,58,61,46,44,59,124,92,955,8594,45,62]
def mkT(n:Int):Bool:=decide (n∈zDy)
def zZn(n:Int):Bool:=decide ((97<=n/\n<=122)\/(65<=n/\n<=90))
def zLD(n:Int):Bool:=gI n&&!mkT n&&decide (n≠160/\(n<8192\/8303<n))
def eS(n:Int):Bool:=if n<128 then zZn n else zLD n
def zJS(n:Int):Bool:=decide (48<=n/\n<=57)
theorem zSw(n:Int):zB (λq=>zMK q n) (mkT n):=by
 simp only[zMK];have yes:∀k:Int,k∈zDy->(n==k)=true->true=mkT n:=λk hk h=>by
  have:n=k:=by simpa using h
  subst this;exact(decide_eq_true hk).symm
 repeat'(first|exact zB.ret.eq (yes _ (by simp[zDy]) h)|refine zB.iff (λh=>?_) (λh=>?_))
 refine zB.ret.eq (decide_eq_false λhm=>?_).symm;clear yes;simp only[zDy,List.mem_cons,List.not_mem_nil,or_false]at hm;rcases hm with rfl|rfl|rfl|rfl|rfl|rfl|rfl|rfl|rfl|rfl|rfl|rfl|rfl|rfl|rfl<;>simp_all
theorem zXt(l:List Int)(n:Int)(hl:l.length<=100):∀(r:List Int)(v:Nat),l.drop v=r->zB (λq=>bV q l n (v:Int)) (decide (n∈r))
 |[],v,hd=>by refine zB.succ ?_;simp only[bV];exact zB.ifF (zZ hd) (zB.ret.eq (by simp))|x::r,v,hd=>by
  have hlt:=yC hd;refine zB.succ ?_;simp only[bV];refine zB.ifT (zX hd) (zB.pure (zU hd) ?_);by_cases h:x=n;·exact zB.ifT (by simpa using h) (zB.ret.eq (by simp[h]))
  ·refine zB.ifF (by simpa using h) ?_;rw[zS v (by omega)];exact(zXt l n hl r (v+1) (zP hd)).eq (by have:¬n=x:=λe=>h e.symm;simp[this])
theorem zSv(n:Int):zB (λq=>zHO q n) (mkT n):=by simp only[zHO,zZo];exact(zXt zDy n (by decide) zDy 0 rfl).bind zB.ret
theorem zAX(n:Int):zB (λq=>zDX q n) (eS n):=by
 simp only[zDX];unfold eS;by_cases h:n<128
 ·rw[if_pos h];refine zB.ifT (decide_eq_true h) ?_;unfold zZn;refine zB.iff (λh1=>zB.iff (λh2=>zB.ret.eq ?_) λh2=>zB.iff (λh3=>zB.ret.eq ?_) λh3=>zB.ret.eq ?_) λh1=>zB.iff (λh3=>zB.ret.eq ?_) λh3=>zB.ret.eq ?_;all_goals simp only[decide_eq_true_eq,decide_eq_false_iff_not]at*
  ·exact(decide_eq_true (by omega)).symm
  ·exact decide_eq_decide.2 (by omega)
  ·exact(decide_eq_false (by omega)).symm
  ·exact decide_eq_decide.2 (by omega)
  ·exact(decide_eq_false (by omega)).symm
 ·rw[if_neg h];refine zB.ifF (decide_eq_false h) ((P5 n).bind ?_);unfold zLD;cases gI n with|false=>exact zB.ifF rfl (zB.ret.eq (by simp))|true=>refine zB.ifT rfl ((zSw n).bind ?_);cases mkT n with|true=>exact zB.ifT rfl (zB.ret.eq (by simp))|false=>
   refine zB.ifF rfl (zB.iff (λh1=>zB.iff (λh2=>zB.ret.eq ?_) λh2=>zB.ret.eq ?_) λh1=>zB.ret.eq ?_);all_goals simp only[decide_eq_true_eq,decide_eq_false_iff_not,bne_iff_ne,bne_eq_false_iff_eq,Bool.true_and,Bool.not_false,ne_eq]at*
   ·exact(decide_eq_true (by omega)).symm
   ·exact decide_eq_decide.2 (by omega)
   ·exact(decide_eq_false (by omega)).symm
theorem zAY(n:Int):zB (λq=>zWn q n) (eS n):=by
 have hi:128<=n->zB (λq=>zEJ q n>>=λr6=>if r6=true then zHO q n>>=λr9=>if r9=true then some false else if(n !=160)=true then if decide (n>=8192)=true then some (!(decide (n<=8303)))else some true else some false else some false) (eS n):=λh=>by
  have e:eS n=zLD n:=by unfold eS;rw[if_neg (by omega)]
  rw[e];refine(zLa n).bind ?_;unfold zLD;cases gI n with|false=>exact zB.ifF rfl (zB.ret.eq (by simp))|true=>refine zB.ifT rfl ((zSv n).bind ?_);cases mkT n with|true=>exact zB.ifT rfl (zB.ret.eq (by simp))|false=>
   refine zB.ifF rfl (zB.iff (λh1=>zB.iff (λh2=>zB.ret.eq ?_) λh2=>zB.ret.eq ?_) λh1=>zB.ret.eq ?_);all_goals simp only[decide_eq_true_eq,decide_eq_false_iff_not,bne_iff_ne,bne_eq_false_iff_eq,Bool.true_and,Bool.not_false,ne_eq]at*
   ·by_cases h3:n<=8303;·rw[decide_eq_true h3,decide_eq_false (by omega)];rfl
    ·rw[decide_eq_false h3,decide_eq_true (by omega)];rfl
   ·exact(decide_eq_true (by omega)).symm
   ·exact(decide_eq_false (by omega)).symm
 have lo:∀b,n<128->(b=true↔(97<=n/\n<=122)\/(65<=n/\n<=90))->b=eS n:=λb h k=>by unfold eS zZn;rw[if_pos h];cases b with|true=>exact(decide_eq_true (k.1 rfl)).symm|false=>exact(decide_eq_false λe=>by have:=k.2 e;cases this).symm
 simp only[zWn];refine zB.iff (λh1=>zB.iff (λh2=>zB.ret.eq ?_) λh2=>zB.iff (λh3=>zB.iff (λh4=>zB.ret.eq ?_) λh4=>zB.iff (λh5=>hi (of_decide_eq_true h5)) λh5=>zB.ret.eq ?_) λh3=>zB.iff (λh5=>hi (of_decide_eq_true h5)) λh5=>zB.ret.eq ?_) λh1=>zB.iff (λh3=>zB.iff (λh4=>zB.ret.eq ?_) λh4=>zB.iff (λh5=>hi (of_decide_eq_true h5)) λh5=>zB.ret.eq ?_) λh3=>zB.iff (λh5=>hi (of_decide_eq_true h5)) λh5=>zB.ret.eq ?_;all_goals simp only[decide_eq_true_eq,decide_eq_false_iff_not]at*
 all_goals refine lo _ (by omega) ⟨λh=>?_,λh=>?_⟩
 all_goals first|omega|rfl|cases h
 all_goals omega
theorem zNR(n:Int):zB (λq=>zBi q n) (zJS n):=by
 simp only[zBi];unfold zJS;refine zB.iff (λh=>zB.ret.eq ?_) λh=>zB.ret.eq ?_;all_goals simp only[decide_eq_true_eq,decide_eq_false_iff_not]at*
 ·exact decide_eq_decide.2 (by omega)
 ·exact(decide_eq_false (by omega)).symm
theorem zNS(n:Int):zB (λq=>zWm q n) (zJS n):=by
 simp only[zWm];unfold zJS;refine zB.iff (λh=>zB.ret.eq ?_) λh=>zB.ret.eq ?_;all_goals simp only[decide_eq_true_eq,decide_eq_false_iff_not]at*
 ·exact decide_eq_decide.2 (by omega)
 ·exact(decide_eq_false (by omega)).symm
def zWi(b:Nat)(a:ByteArray):Option (Bool):=if a.toList==(⟨#[100,97,116,97]⟩:ByteArray).toList then some true else if a.toList==(⟨#[114,101,99,111,114,100]⟩:ByteArray).toList then some true else if a.toList==(⟨#[100,101,102]⟩:ByteArray).toList then some true else some (a.toList==(⟨#[83,101,116]⟩:ByteArray).toList)
theorem yEP{b a}:Cz (zWi b a) 144 [] [at' a] (λr=>ab r) (λ_=>[]) 0:=fw func144<|rB 0 (fE 0)<|rB 0 (fE 0)<|rB 0 (fE 0)<|fE 1
def eT:Nat->(List ByteArray)->ByteArray->Int->Int->Option (Int)|0,_,_,_,_=>none|c+1,a,b,e,d=>if decide (d<(a.length:Int))then zL a d>>=λx2=>if x2.toList==b.toList then eT c a b d (yB (d+1))else eT c a b e (yB (d+1))else some e
def e78(c:Nat)(a:List ByteArray)(b:ByteArray):Option (Int):=eT c a b (-1) 0
theorem zZm:∀c:Nat,∀a b e d,Lz (eT c a b e d) 0 f78 (pt 4021 f78) (λj=>sp j 21 0 [(0,zC xC a .no),(1,at' b),(5,ai e),(6,ai d)]) ⟨[],0,[],0,[]⟩ (λr=>ai r) (λ_=>[]) 0 [.blk 0,.seq (pt 63 f78)]:=yS (λ_ _ _ _=>lN) λc ih=>λa b e d=>lw λ_=>rB 1 (rA 0 (zIK (o:=.no)) λ_=>rB 1 (lH 1 [] [] [] [0,1,5,6] (ih _ _ _ _))<|lH 1 [] [] [] [0,1,5,6] (ih _ _ _ _))<|lE 0
theorem c78{c a b}:Cz (e78 c a b) 78 [] [zC xC a .no,at' b] (λr=>ai r) (λ_=>[]) 0:=fw func78<|fH 0 [] [] [] [0,1,5,6] (zZm _ _ _ _ _)
def C3:Nat->(List ByteArray)->Int->Option (Bool)|0,_,_=>none|b+1,a,c=>if decide (c<(a.length:Int))then zL a c>>=λx2=>e78 b a x2>>=λr4=>if r4 !=c then some false else C3 b a (yB (c+1))else some true
def e43(b:Nat)(a:List ByteArray):Option (Bool):=C3 b a 0
theorem zZl:∀b:Nat,∀a c,Lz (C3 b a c) 0 Tryz.f43 (pt 949 Tryz.f43) (λj=>sp j 18 0 [(0,zC xC a .no),(3,ai c)]) ⟨[],0,[],0,[]⟩ (λr=>ab r) (λ_=>[]) 0 [.blk 0,.seq (pt 15 Tryz.f43)]:=yS (λ_ _=>lN) λb ih=>λa c=>lw λ_=>rB 1 (rA 0 (zIK (o:=.no)) λ_=>rC 1 [] c78 λ_=>rB 0 (lE 0)<|lH 1 [] [] [] [0,3] (ih _ _))<|lE 0
theorem c43{b a}:Cz (e43 b a) 43 [] [zC xC a .no] (λr=>ab r) (λ_=>[]) 0:=fw func43<|fH 0 [] [] [] [0,3] (zZl _ _ _)
def kS:Nat->(yH×Int×Int)->Int->Option (Bool)
 |0,_,_=>none|a+1,r1,b=>if decide (b<(r1.1.length:Int))then zL r1.1 b>>=λx11=>zWn a x11>>=λr13=>if r13 then kS a r1 (yB (b+1))else if x11 !=95 then if b==0 then some false else zWm a x11>>=λr18=>if r18 then kS a r1 (yB (b+1))else if x11 !=39 then some false else kS a r1 (yB (b+1))else kS a r1 (yB (b+1))else some true
def e79(a:Nat)(c:ByteArray):Option (Bool):=zSx a c>>=λr1=>if r1.2.2 !=0 then some false else if(c.size:Int)==0 then some false else if decide ((c.size:Int)>40)then some false else zWi a c>>=λr6=>if r6 then some false else if c.toList==(⟨#[95]⟩:ByteArray).toList then some false else kS a r1 0
theorem zZk:∀a:Nat,∀r1 b,Lz (kS a r1 b) 0 f79 (pt 16309 f79) (λj=>sp j 71 0 [(3,zC zW r1.1 .no),(6,ai b)]) ⟨[],0,[],0,[]⟩ (λr=>ab r) (λ_=>[]) 0 [.blk 0,.seq (pt 255 f79)]:=yS (λ_ _=>lN) λa ih=>λr1 b=>lw λ_=>rB 1 (rH λ_ h12=>rS (oA 0 (vQ (o:=.no) h12))<|rK 1 [] yEN (λ_=>lH 2 [] [] [] [3,6] (ih _ _)) λ_=>rS (oA 1 (vQ (o:=.no) h12))<|rB 1 (rB 0 (lE 0)<|rS (oA 0 (vQ (o:=.no) h12))<|rK 1 [] yEO (λ_=>lH 2 [] [] [] [3,6] (ih _ _)) λ_=>rS (oA 1 (vQ (o:=.no) h12))<|rB 1 (lE 0)<|lH 1 [] [] [] [3,6] (ih _ _))<|lH 1 [] [] [] [3,6] (ih _ _))<|lE 0
theorem c79{a c}:Cz (e79 a c) 79 [] [at' c] (λr=>ab r) (λ_=>[]) 0:=fw func79<|rC 0 [] yEL λ_=>rB 3 (fE 0)<|rB 1 (fE 0)<|rB 1 (fE 0)<|rK 0 [] yEP (λ_=>fE 0) λ_=>rB 0 (fE 0)<|fH 0 [] [] [] [3,6] (zZk _ _ _)
def kwT(s:ByteArray):Bool:=(s.toList==(⟨#[100,97,116,97]⟩:ByteArray).toList)||(s.toList==(⟨#[114,101,99,111,114,100]⟩:ByteArray).toList)||(s.toList==(⟨#[100,101,102]⟩:ByteArray).toList)||(s.toList==(⟨#[83,101,116]⟩:ByteArray).toList)
theorem zHT(s:ByteArray):zB (λq=>zGn q s) (kwT s):=by
 simp only[zGn];unfold kwT;generalize(s.toList==(⟨#[100,97,116,97]⟩:ByteArray).toList)=a;generalize(s.toList==(⟨#[114,101,99,111,114,100]⟩:ByteArray).toList)=b;generalize(s.toList==(⟨#[100,101,102]⟩:ByteArray).toList)=c;generalize(s.toList==(⟨#[83,101,116]⟩:ByteArray).toList)=d;cases a
 ·cases b
  ·cases c
   ·cases d;·exact zB.ret
    ·exact zB.ret
   ·exact zB.ret
  ·exact zB.ret
 ·exact zB.ret
theorem zHU(s:ByteArray):zB (λq=>zWi q s) (kwT s):=by
 simp only[zWi];unfold kwT;generalize(s.toList==(⟨#[100,97,116,97]⟩:ByteArray).toList)=a;generalize(s.toList==(⟨#[114,101,99,111,114,100]⟩:ByteArray).toList)=b;generalize(s.toList==(⟨#[100,101,102]⟩:ByteArray).toList)=c;generalize(s.toList==(⟨#[83,101,116]⟩:ByteArray).toList)=d;cases a
 ·cases b
  ·cases c
   ·cases d;·exact zB.ret
    ·exact zB.ret
   ·exact zB.ret
  ·exact zB.ret
 ·exact zB.ret
def W5(n:Int):Bool:=eS n||zJS n||n==95||n==39
theorem zNT(n:Int):zB (λq=>zML q n) (W5 n):=by simp only[zML];unfold W5;refine(zAX n).bind ?_;cases eS n with|true=>exact zB.ifT rfl (zB.ret.eq (by simp))|false=>refine zB.ifF rfl ((zNR n).bind ?_);cases zJS n with|true=>exact zB.ifT rfl (zB.ret.eq (by simp))|false=>
 refine zB.ifF rfl ?_;by_cases h:n=95;·exact zB.ifT (by simpa using h) (zB.ret.eq (by simp[h]))
 ·exact zB.ifF (by simpa using h) (zB.ret.eq (by simp[h]))
def zDx(L:List Int):Bool:=match L with|[]=>false|x::r=>(eS x||x==95)&&r.all W5&&!(x==95&&r.isEmpty)
def zWh(s:ByteArray):Bool:=match W4 s with|some L=>decide (s.size<=40)&&!kwT s&&zDx L|none=>false
theorem zAZ(r1:List Int×Int×Int)(x:Int)(r0:List Int)(h1:r1.1=x::r0)(hl:r1.1.length<=65535):∀(r:List Int)(v:Nat),r1.1.drop v=r->zB (λq=>nZ q r1 (v:Int)) (r.all W5&&(eS x||(x==95&&!r0.isEmpty)))
 |[],v,hd=>by refine zB.succ ?_;simp only[nZ];refine zB.ifF (zZ hd) (zB.pure (a:=x) (by rw[h1];rfl) ((zAX x).bind ?_));cases eS x with|true=>exact zB.ifT rfl (zB.ret.eq (by simp))|false=>
  refine zB.ifF rfl ?_;by_cases h:x=95
  ·refine zB.ifT (by simpa using h) (zB.ret.eq ?_);rw[h1];cases r0 with|nil=>simp[h]|cons _ _=>simp[h];omega
  ·exact zB.ifF (by simpa using h) (zB.ret.eq (by simp[h]))|y::r,v,hd=>by have hlt:=yC hd;refine zB.succ ?_;simp only[nZ];refine zB.ifT (zX hd) (zB.pure (zU hd) ((zNT y).bind ?_));cases hy:W5 y with|true=>refine zB.ifT rfl ?_;rw[zS v (by omega)];exact(zAZ r1 x r0 h1 hl r (v+1) (zP hd)).eq (by simp[hy])|false=>exact zB.ifF rfl (zB.ret.eq (by simp[hy]))
theorem yBX:eS 95=false:=by kernel_rfl
theorem zEL{s:ByteArray}{L:List Int}(h:W4 s=some L):bs s=L.flatMap tG:=by
 unfold W4 at h;split at h;·exact zLB s.size (bs s) L (λc hc=>eP hc) (by rw[rD];omega) h
 ·cases h
theorem zZj(n:Int):tG n≠[]:=λh=>by have:=Y9 n;rw[h]at this;unfold kQ at this;split at this<;>(try split at this)<;>(try split at this)<;>simp at this
theorem zJT:∀(L:List Int),L.length<=(L.flatMap tG).length|[]=>by simp|n::L=>by rw[List.flatMap_cons,List.length_append,List.length_cons];have:=zJT L;have:0<(tG n).length:=List.length_pos_iff.2 (zZj n);omega
theorem zJU(s:ByteArray):zB (λq=>iM q s) (zWh s):=by
 simp only[iM];unfold zWh;rcases zWk s with⟨L,h1,h2⟩|⟨h1,r,h2,h3⟩;·rw[h1];dsimp only;refine h2.bind (zB.ifF rfl ?_);have hb:=zEL h1;cases L with|nil=>exact zB.ifT rfl (zB.ret.eq (by simp[zDx]))|cons x r=>
  refine zB.ifF (by simp;omega) ?_;by_cases h40:s.size<=40;·refine zB.ifF (decide_eq_false (by omega)) ((zHT s).bind ?_);rw[decide_eq_true h40];cases kwT s with|true=>exact zB.ifT rfl (zB.ret.eq (by simp))|false=>
   refine zB.ifF rfl ?_;have hlen:(x::r).length<=65535:=by have h1:=rD s;have h2:=zJT (x::r);rw[hb]at h1;omega
   refine(zAZ (x::r,(s.size:Int),0) x r rfl hlen (x::r) 0 rfl).eq ?_;simp only[zDx,List.all_cons,W5,Bool.true_and,Bool.not_false];by_cases hx:x=95;·subst hx;rw[yBX];cases r<;>simp
   ·have e:(x==95)=false:=by simpa using hx
    rw[e];cases eS x<;>simp
  ·exact zB.ifT (decide_eq_true (by omega)) (zB.ret.eq (by simp[h40]))
 ·rw[h1];exact h2.bind (zB.ifT (by simpa using h3) zB.ret)
theorem zBz(r1:List Int×Int×Int)(hl:r1.1.length<=65535):∀(r:List Int)(v:Nat),1<=v->r1.1.drop v=r->zB (λq=>kS q r1 (v:Int)) (r.all W5)|[],v,hv,hd=>by refine zB.succ ?_;simp only[kS];exact zB.ifF (zZ hd) zB.ret|y::r,v,hv,hd=>by have hlt:=yC hd;have next:=zBz r1 hl r (v+1) (by omega) (zP hd);refine zB.succ ?_;simp only[kS];refine zB.ifT (zX hd) (zB.pure (zU hd) ((zAY y).bind ?_));rw[zS v (by omega)];have ha:(y::r).all W5=(W5 y&&r.all W5):=rfl;rw[ha];generalize r.all W5=R at next⊢;unfold W5;cases eS y with|true=>exact zB.ifT rfl (next.eq (by simp))|false=>
 refine zB.ifF rfl ?_;by_cases h:y=95;·exact zB.ifF (by simp[h]) (next.eq (by simp[h]))
 ·refine zB.ifT (by simpa using h) (zB.ifF (beq_eq_false_iff_ne.2 (by omega)) ((zNS y).bind ?_));cases zJS y with|true=>exact zB.ifT rfl (next.eq (by simp))|false=>
  refine zB.ifF rfl ?_;by_cases h2:y=39;·exact zB.ifF (by simp[h2]) (next.eq (by simp[h2]))
  ·exact zB.ifT (by simpa using h2) (zB.ret.eq (by simp[h,h2]))
theorem yBY:bs ⟨#[95]⟩=[95]:=by rfl
theorem zZi{s:ByteArray}{L:List Int}(h:W4 s=some L):(s.toList==(⟨#[95]⟩:ByteArray).toList)=decide (L=[95]):=by
 rw[zLb,yBY];have hb:=zEL h;have e95:tG 95=[95]:=by unfold tG;rw[if_pos (by omega)]
 by_cases hL:L=[95]
 ·subst hL;rw[decide_eq_true rfl];refine decide_eq_true ?_;rw[hb];simp[e95]
 ·rw[decide_eq_false hL];refine decide_eq_false λhs=>hL ?_;have hz:s.size=1:=by rw[<-rD,hs];rfl
  have h2:W4 s=some [95]:=by unfold W4;rw[if_pos (by omega),hz,hs];rfl
  rw[h]at h2;exact Option.some.inj h2
theorem zJV(s:ByteArray):zB (λq=>e79 q s) (zWh s):=by
 simp only[e79];unfold zWh;rcases zWj s with⟨L,h1,h2⟩|⟨h1,r,h2,h3⟩;·rw[h1];dsimp only;refine h2.bind (zB.ifF rfl ?_);have hb:=zEL h1;have hbl:=rD s;cases L with
  |nil=>
   have hz:s.size=0:=by rw[<-hbl,hb];rfl
   exact zB.ifT (by rw[hz];rfl) (zB.ret.eq (by simp[zDx]))|cons x r=>
   have hlen:=zJT (x::r);rw[<-hb,hbl]at hlen;have hpos:0<s.size:=by simp at hlen;omega
   refine zB.ifF (beq_eq_false_iff_ne.2 (by omega)) ?_;by_cases h40:s.size<=40;·refine zB.ifF (decide_eq_false (by omega)) ((zHU s).bind ?_);rw[decide_eq_true h40];cases kwT s with|true=>exact zB.ifT rfl (zB.ret.eq (by simp))|false=>
    refine zB.ifF rfl ?_;rw[zZi h1];by_cases hu:x::r=[95]
    ·refine zB.ifT (decide_eq_true hu) (zB.ret.eq ?_);obtain⟨rfl,rfl⟩:x=95/\r=[]:=by simpa using hu
     simp[zDx]
    ·refine zB.ifF (decide_eq_false hu) (zB.succ ?_);have next:=zBz (x::r,(s.size:Int),0) (by show(x::r).length<=65535;omega) r 1 (by omega) rfl;simp only[kS];refine zB.ifT (decide_eq_true (by show(0:Int)<((r.length+1:Nat):Int);omega)) (zB.pure (a:=x) rfl ((zAY x).bind ?_));have e1:yB (0+1)=((1:Nat):Int):=by rfl
     rw[e1];have hq:(x==95&&r.isEmpty)=false:=by
      by_cases hx:x=95;·cases r with|nil=>exact absurd (by rw[hx]) hu|cons _ _=>simp
      ·simp[hx]
     simp only[zDx,hq];cases eS x with|true=>exact zB.ifT rfl (next.eq (by simp))|false=>
      refine zB.ifF rfl ?_;by_cases hx:x=95;·exact zB.ifF (by simp[hx]) (next.eq (by simp[hx]))
      ·exact zB.ifT (by simpa using hx) (zB.ifT rfl (zB.ret.eq (by simp[hx])))
   ·exact zB.ifT (decide_eq_true (by omega)) (zB.ret.eq (by simp[h40]))
 ·rw[h1];exact h2.bind (zB.ifT (by simpa using h3) zB.ret)
theorem zJW{N:ByteArray->Bool}(hN:mC N)(s:ByteArray):zB (λq=>e79 q s) (N s):=(zJV s).eq ((zJU s).det (hN s))
theorem zZh{a b:ByteArray}:bs a=bs b↔a=b:=by
 constructor
 ·intro h;have:=zLb a b;rw[decide_eq_true h]at this;have h2:a.toList=b.toList:=by simpa using this
  rw[zEI,zEI]at h2;cases a;cases b;simp only[ByteArray.mk.injEq];exact Array.toList_inj.1 h2
 ·rintro rfl;rfl
theorem zBy(a b:ByteArray):(a==b)=decide (a=b):=by cases a with|mk x=>cases b with|mk y=>
 show(x==y)=_;by_cases h:x=y;·subst h;simp
 ·rw[decide_eq_false (λe=>h (ByteArray.mk.inj e))];simpa using h
theorem zHV(m:List (ByteArray×Int))(k y:ByteArray)(z:Int):nJ (A5 m k z) y=if y=k then z else nJ m y:=by induction m with|nil=>simp only[A5,nJ,zBy,decide_eq_true_eq]|cons p m ih=>
 rw[A5,zBy];by_cases e1:k=p.1
 ·rw[if_pos (decide_eq_true e1),nJ,nJ,zBy,zBy];simp only[decide_eq_true_eq];by_cases e:y=k;·rw[if_pos e,if_pos e]
  ·rw[if_neg e,if_neg e,if_neg (λh:y=p.1=>e (h.trans e1.symm))]
 ·rw[if_neg (by simpa using e1),nJ,nJ,ih,zBy];simp only[decide_eq_true_eq];by_cases e:y=p.1;·rw[if_pos e,if_pos e,if_neg (λh:y=k=>e1 (h.symm.trans e))]
  ·rw[if_neg e,if_neg e]
open Classical in theorem zDw(l:List ByteArray)(hl:l.length<=65535):∀(r:List ByteArray)(v:Nat)(m:List (ByteArray×Int)),l.drop v=r->(∀x,0<=nJ m x/\nJ m x<=v)->(∀x,0<nJ m x↔x∈l.take v)->zB (λq=>iN q l (v:Int) m) (decide (∀i,v<=i->(h:i<l.length)->l[i]∉l.take i))
 |[],v,m,hd,hm0,hm=>by refine zB.succ ?_;simp only[iN];refine zB.ifF (zZ hd) (zB.ret.eq (decide_eq_true λi hi h=>?_).symm);have:=List.drop_eq_nil_iff.1 hd;omega|x::r,v,m,hd,hm0,hm=>by
  have hlt:=yC hd;have hx:l[v]=x:=by have:=zU hd;unfold zL at this;rw[if_pos (by omega),Int.toNat_natCast,List.getElem?_eq_getElem hlt]at this;exact Option.some.inj this
  refine zB.succ ?_;simp only[iN];refine zB.ifT (zX hd) (zB.pure (zU hd) ?_);by_cases h:0<nJ m x;·refine zB.ifT (decide_eq_true h) (zB.ret.eq (decide_eq_false λhf=>?_).symm);exact hf v (Nat.le_refl _) hlt (by rw[hx];exact(hm x).1 h)
  ·refine zB.ifF (decide_eq_false h) ?_;have hz:nJ m x=0:=by have:=(hm0 x).1;omega
   rw[hz,zS v (by omega),show yB (0+1)=1 by rfl];have ht:l.take (v+1)=l.take v++[x]:=by rw[List.take_succ_eq_append_getElem hlt,hx]
   refine(zDw l hl r (v+1) _ (zP hd) (λy=>?_) λy=>?_).eq ?_;·rw[zHV];have:=hm0 y;split<;>omega
   ·rw[zHV,ht,List.mem_append,List.mem_singleton];by_cases e:y=x;·rw[if_pos e];simp[e]
    ·rw[if_neg e];simp[e,hm y]
   ·refine decide_eq_decide.2 ⟨λhf i hi hil=>?_,λhf i hi hil=>hf i (by omega) hil⟩;by_cases e:i=v;·subst e;rw[hx];exactλhmem=>h ((hm x).2 hmem)
    ·exact hf i (by omega) hil
theorem C4(l:List ByteArray)(x:ByteArray)(hl:l.length<=65535):∀(r:List ByteArray)(v:Nat)(a:Int),l.drop v=r->∃p,zB (λq=>eT q l x a (v:Int)) p/\((p=a/\x∉r)\/∃i:Nat,p=(i:Int)/\v<=i/\∃h:i<l.length,l[i]=x/\∀j,i<j->(hj:j<l.length)->l[j]≠x)
 |[],v,a,hd=>⟨a,by refine zB.succ ?_;simp only[eT];exact zB.ifF (zZ hd) zB.ret,.inl ⟨rfl,by simp⟩⟩|y::r,v,a,hd=>by
  have hlt:=yC hd;have hx:l[v]=y:=by have:=zU hd;unfold zL at this;rw[if_pos (by omega),Int.toNat_natCast,List.getElem?_eq_getElem hlt]at this;exact Option.some.inj this
  have hmem:∀j,v<j->(hj:j<l.length)->l[j]∈r:=λj h1 h2=>by have h3:=zP hd;rw[<-h3];exact List.mem_drop_iff_getElem.2 ⟨j-(v+1),by omega,by congr 1;omega⟩
  by_cases e:y=x
  ·obtain⟨p,h1,h2⟩:=C4 l x hl r (v+1) (v:Int) (zP hd);refine⟨p,zB.succ ?_,.inr ?_⟩
   ·simp only[eT];refine zB.ifT (zX hd) (zB.pure (zU hd) (zB.ifT (by rw[e];simp) ?_));rw[zS v (by omega)];exact h1
   ·rcases h2 with⟨h3,h4⟩|⟨i,h3,h4,h5,h6,h7⟩;·exact⟨v,h3,Nat.le_refl _,hlt,by rw[hx,e],λj h8 h9 h10=>h4 (by rw[<-h10];exact hmem j h8 h9)⟩
    ·exact⟨i,h3,by omega,h5,h6,h7⟩
  ·obtain⟨p,h1,h2⟩:=C4 l x hl r (v+1) a (zP hd);refine⟨p,zB.succ ?_,?_⟩
   ·simp only[eT];refine zB.ifT (zX hd) (zB.pure (zU hd) (zB.ifF ?_ ?_));·rw[zLb];exact decide_eq_false λh=>e (zZh.1 h)
    ·rw[zS v (by omega)];exact h1
   ·rcases h2 with⟨h3,h4⟩|⟨i,h3,h4,h5,h6,h7⟩;·exact .inl ⟨h3,λhm=>(List.mem_cons.1 hm).elim (λh=>e h.symm) h4⟩
    ·exact .inr ⟨i,h3,by omega,h5,h6,h7⟩
def zDv(l:List ByteArray):Prop:=∀i,(h:i<l.length)->l[i]∉l.take i
open Classical in theorem zSu(l:List ByteArray)(hl:l.length<=65535):∃d,zB (λq=>e87 q l) d/\(d=true↔zDv l):=by refine⟨_,(by simp only[e87];exact zDw l hl l 0 [] rfl (λx=>by rw[nJ];omega) λx=>by rw[nJ];simp),?_⟩;rw[decide_eq_true_eq];exact⟨λh i hi=>h i (Nat.zero_le _) hi,λh i _ hi=>h i hi⟩
theorem zSt(l:List ByteArray)(hl:l.length<=65535):∃d,zB (λq=>e43 q l) d/\(d=true↔zDv l):=by
 simp only[e43];have key:∀(r:List ByteArray)(v:Nat),l.drop v=r->∃d,zB (λq=>C3 q l (v:Int)) d/\(d=true↔∀i,v<=i->(h:i<l.length)->∀j,i<j->(hj:j<l.length)->l[j]≠l[i]):=by intro r;induction r with
  |nil=>
   intro v hd;refine⟨true,zB.succ ?_,⟨λ_ i hi h=>?_,λ_=>rfl⟩⟩
   ·simp only[C3];exact zB.ifF (zZ hd) zB.ret
   ·have:=List.drop_eq_nil_iff.1 hd;omega|cons x r ih=>
   intro v hd;have hlt:=yC hd;have hx:l[v]=x:=by have:=zU hd;unfold zL at this;rw[if_pos (by omega),Int.toNat_natCast,List.getElem?_eq_getElem hlt]at this;exact Option.some.inj this
   obtain⟨p,h1,h2⟩:=C4 l x hl l 0 (-1) rfl;have hP:zB (λq=>e78 q l x) p:=by simp only[e78];exact h1
   obtain⟨i,hp,-,hi,hix,hlast⟩:∃i:Nat,p=(i:Int)/\0<=i/\∃h:i<l.length,l[i]=x/\∀j,i<j->(hj:j<l.length)->l[j]≠x:=by
    rcases h2 with⟨-,h4⟩|h;·exact absurd (by rw[<-hx];exact List.getElem_mem hlt) h4
    ·exact h
   by_cases e:i=v
   ·obtain⟨d,g1,g2⟩:=ih (v+1) (zP hd);refine⟨d,zB.succ ?_,g2.trans ⟨λhf j hj hjl k hk hkl=>?_,λhf j hj hjl=>hf j (by omega) hjl⟩⟩
    ·simp only[C3];refine zB.ifT (zX hd) (zB.pure (zU hd) (hP.bind (zB.ifF (by rw[hp,e];simp) ?_)));rw[zS v (by omega)];exact g1
    ·by_cases ej:j=v;·subst ej;rw[hx];exact hlast k (by omega) hkl
     ·exact hf j (by omega) hjl k hk hkl
   ·refine⟨false,zB.succ ?_,⟨λh=>(by cases h),λhf=>?_⟩⟩;·simp only[C3];exact zB.ifT (zX hd) (zB.pure (zU hd) (hP.bind (zB.ifT (by rw[hp];simp;omega) zB.ret)))
    ·exfalso;rcases Nat.lt_or_gt_of_ne e with h|h;·exact hlast v h hlt hx
     ·exact hf v (Nat.le_refl _) hlt i h hi (by rw[hix,hx])
 obtain⟨d,h1,h2⟩:=key l 0 rfl;refine⟨d,h1,h2.trans ⟨λh i hi hm=>?_,λh i _ hi j hij hj e=>?_⟩⟩
 ·obtain⟨j,hj,hje⟩:=List.mem_take_iff_getElem.1 hm;exact h j (Nat.zero_le _) (by omega) i (by omega) hi hje.symm
 ·exact h j hj (by rw[e];exact List.mem_take_iff_getElem.2 ⟨i,by omega,rfl⟩)
theorem zJX{l:List ByteArray}(hl:l.length<=65535){d:Bool}(h:zB (λq=>e87 q l) d):zB (λq=>e43 q l) d:=by obtain⟨a,h1,h2⟩:=zSu l hl;obtain⟨b,h3,h4⟩:=zSt l hl;have:=h1.det h;subst this;refine h3.eq ?_;rw[Bool.eq_iff_iff];exact h4.trans h2.symm
mutual def C5:Nat->yI->Int->Option (Int)|0,_,_=>none|c+1,b,a=>if decide ((b.length:Int)>0)then if decide (a<129)then C6 c b a [] 0 else some a else some a def C6:Nat->yI->Int->yI->Int->Option (Int)|0,_,_,_,_=>none|c+1,b,a,e,d=>if decide (d<(b.length:Int))then zL b d>>=λx7=>yR 40 e x7.sub>>=λl9=>C6 c b a l9 (yB (d+1))else C5 c e (yB (a+1))end
def e64(c:Nat)(f:Tm):Option (Int):=e12 c f>>=λr1=>if decide (r1>8192)then some 129 else C5 c [f] 0
theorem zEM:∀c:Nat,(∀b a,Lz (C5 c b a) 0 f64 (pt 16357 f64) (λj=>sp j 37 0 [(3,zC zA b .full),(4,ai a)]) ⟨[],0,[],0,[]⟩ (λr=>ai r) (λ_=>[]) 0 [.blk 0,.seq (pt 1023 f64)]/\Lz (C5 c b a) 0 f64 (pt 16357 f64) (λj=>sp j 37 0 [(3,zC zA b (.st 0 3)),(4,ai a)]) ⟨[],0,[0],1,[]⟩ (λr=>ai r) (λ_=>[]) 0 [.blk 0,.seq (pt 1023 f64)])/\(∀b a e d,Lz (C6 c b a e d) 0 f64 (pt 268007349 f64) (λj=>sp j 37 0 [(3,zC zA b .full),(4,ai a),(5,zC zA e (.st 0 3)),(6,ai d)]) ⟨[],0,[0],1,[]⟩ (λr=>ai r) (λ_=>[]) 0 [.blk 2,.seq (pt 4187615 f64),.blk 1,.loop (pt 16357 f64),.blk 0,.seq (pt 1023 f64)]/\Lz (C6 c b a e d) 0 f64 (pt 268007349 f64) (λj=>sp j 37 0 [(3,zC zA b (.st 0 3)),(4,ai a),(5,zC zA e (.st 1 3)),(6,ai d)]) ⟨[],0,[0,1],2,[]⟩ (λr=>ai r) (λ_=>[]) 0 [.blk 2,.seq (pt 4187615 f64),.blk 1,.loop (pt 16357 f64),.blk 0,.seq (pt 1023 f64)]):=yS ⟨λ_ _=>⟨lN,lN⟩,λ_ _ _ _=>⟨lN,lN⟩⟩ λc ih=>⟨λb a=>⟨lw λ_=>rB 1 (rB 0 (lH 1 [(none,5,3)] [] [0] [3,4,5,6] ((ih.2 _ _ _ _).1))<|lE 0)<|lE 0,lw λ_=>rB 1 (rB 0 (lH 1 [(none,5,3)] [] [0,1] [3,4,5,6] ((ih.2 _ _ _ _).2))<|lE 0)<|lE 0⟩,λb a e d=>⟨lw λ_=>rB 1 (rA 0 (yP (o:=.full)) λx7=>rH λ_ h10=>rZ (List.length x7.sub=0) (λh11=>rS (oP 1 (rG h10 h11))<|lH 1 [] [] [0] [3,4,5,6] ((ih.2 _ _ _ _).1)) λh11=>rS (oP 1 (xY h10 h11))<|lH 1 [] [] [1] [3,4,5,6] ((ih.2 _ _ _ _).1))<|lH 1 [] [] [0] [3,4] ((ih.1 _ _).2),lw λ_=>rB 1 (rA 0 (yP (o:=(.st 0 3))) λx7=>rH λ_ h10=>rZ (List.length x7.sub=0) (λh11=>rS (oP 1 (rG h10 h11))<|lH 1 [] [] [0,1] [3,4,5,6] ((ih.2 _ _ _ _).2)) λh11=>rS (oP 1 (xY h10 h11))<|lH 1 [] [] [0,2] [3,4,5,6] ((ih.2 _ _ _ _).2))<|lH 1 [] [] [1] [3,4] ((ih.1 _ _).2)⟩⟩
theorem c64{c f}:Cz (e64 c f) 64 [] [yL f] (λr=>ai r) (λ_=>[]) 0:=fw func64<|rC 1 [] c12 λ_=>rB 0 (fE 0)<|rS (oS 1 (yZ xO [f]))<|fH 0 [] [] [] [3,4] ((((zEM _).1) _ _).1)
theorem zDu:∀l:List Tm,l≠[]->wY l=1+wY (l.flatMap Tm.sub)|[t],_=>by simp[wY,zHv t]|t::u::l,_=>by have h1:=zDu (u::l) (by simp);have h2:(t::u::l).flatMap Tm.sub=t.sub++(u::l).flatMap Tm.sub:=rfl;rw[wY,h1,h2,zCG,zHv t];omega
theorem zBx:∀l:List Tm,yN l=l.length+yN (l.flatMap Tm.sub)|[]=>by simp[yN]|t::l=>by rw[yN,List.flatMap_cons,iV,zBx l,mN t];simp;omega
theorem zJY:∀(m d:Nat)(l:List Tm),d+m=129->yN l<=8192->zB (λq=>C5 q l (d:Int)) ((min (d+wY l) 129:Nat):Int):=by intro m;induction m with
 |zero=>
  intro d l hm hl;refine zB.succ ?_;simp only[C5];have:d=129:=by omega
  subst this;rcases l with _|⟨x,l⟩;·exact zB.ifF (by simp) (zB.ret.eq (by simp))
  ·refine zB.ifT (by simp<;>omega) (zB.ifF (by simp) (zB.ret.eq ?_));have:min (129+wY (x::l)) 129=129:=by omega
   rw[this]|succ m ih=>
  intro d l hm hl;refine zB.succ ?_;simp only[C5];by_cases h:l=[]
  ·subst h;refine zB.ifF (by simp) (zB.ret.eq ?_);have:min (d+wY []) 129=d:=by rw[wY];omega
   rw[this]
  ·have hpos:0<l.length:=List.length_pos_iff.2 h;refine zB.ifT (by simp<;>omega) (zB.ifT (by simp<;>omega) ?_);have hfn:=zBx l;have key:∀(r:List Tm)(v:Nat)(acc:List Tm),l.drop v=r->acc.length+yN (r.flatMap Tm.sub)<=8192->zB (λq=>C6 q l (d:Int) acc (v:Int)) ((min (d+1+wY (acc++r.flatMap Tm.sub)) 129:Nat):Int)\/yN (acc++r.flatMap Tm.sub)>8192:=by intro r;induction r with
    |nil=>
     intro v acc hd ha;by_cases hn:yN acc<=8192
     ·refine .inl (zB.succ ?_);simp only[C6];refine zB.ifF (zZ hd) ?_;rw[zS d (by omega)];refine(ih (d+1) acc (by omega) hn).eq (by simp)
     ·exact .inr (by simp<;>omega)|cons x r ihr=>
     intro v acc hd ha;have hlt:=yC hd;have hll:=lD l;have hsl:=lD x.sub;rw[List.flatMap_cons,iV]at ha;rcases ihr (v+1) (acc++x.sub) (zP hd) (by simp<;>omega)with h1|h1;·refine .inl (zB.succ ?_);simp only[C6];refine zB.ifT (zX hd) (zB.pure (zU hd) (zB.pure (yA (by omega)) ?_));rw[zS v (by omega)];refine h1.eq ?_;rw[List.flatMap_cons,List.append_assoc]
     ·refine .inr ?_;rw[List.flatMap_cons,<-List.append_assoc];exact h1
   rcases key l 0 [] rfl (by simp<;>omega)with h1|h1
   ·refine h1.eq ?_;rw[zDu l h];simp;omega
   ·simp only[List.nil_append]at h1;omega
def zSs(t:Tm):Int:=if t.nodes<=8192 then((min t.high 129:Nat):Int)else 129
theorem zNU(t:Tm):zB (λq=>e64 q t) (zSs t):=by
 simp only[e64];refine(zRj t).bind ?_;unfold zSs;by_cases h:t.nodes<=8192
 ·rw[if_pos h];refine zB.ifF (by simp<;>omega) ((zJY 129 0 [t] (by omega) (by simpa[yN]using h)).eq ?_);simp[wY]
 ·rw[if_neg h];exact zB.ifT (by simp<;>omega) zB.ret
theorem J4{p:Tm}{c:Nat}{m:Int}{X:Nat->Option Bool}{r:Bool}(h:p.sub.length=c->0<=p.n->p.n<=m->zB X r):zB (λq=>if((List.length p.sub:Int)!=(c:Int))=true then some false else if decide (p.n<0)=true then some false else if decide (p.n>m)=true then some false else X q) (decide (p.sub.length=c)&&decide (0<=p.n)&&decide (p.n<=m)&&r):=by
 by_cases h1:p.sub.length=c
 ·refine zB.ifF (by simp<;>omega) ?_;by_cases h2:p.n<0;·exact zB.ifT (by simpa using h2) (zB.ret.eq (by simp<;>omega))
  ·refine zB.ifF (by simpa using h2) ?_;by_cases h3:p.n>m;·exact zB.ifT (by simpa using h3) (zB.ret.eq (by simp<;>omega))
   ·refine zB.ifF (by simpa using h3) ((h h1 (by omega) (by omega)).eq ?_);simp[h1,show 0<=p.n by omega,show p.n<=m by omega]
 ·exact zB.ifT (by simp<;>omega) (zB.ret.eq (by simp[h1]))
mutual def e65:Nat->Tm->Option (Bool)
 |0,_=>none|b+1,a=>if a.k==1 then if(a.sub.length:Int)!=0 then some false else if decide (a.n<0)then some false else if decide (a.n>1048576)then some false else if a.k==7 then zL a.sub 0>>=λx6=>if x6.k !=2 then some false else uJ b a 0 0 else uJ b a 0 0 else if a.k==6 then if(a.sub.length:Int)!=0 then some false else if decide (a.n<0)then some false else if decide (a.n>1048576)then some false else if a.k==7 then zL a.sub 0>>=λx14=>if x14.k !=2 then some false else uJ b a 0 0 else uJ b a 0 0 else if a.k==8 then if(a.sub.length:Int)!=0 then some false else if decide (a.n<0)then some false else if decide (a.n>1048576)then some false else if a.k==7 then zL a.sub 0>>=λx22=>if x22.k !=2 then some false else uJ b a 0 0 else uJ b a 0 0 else if a.k==2 then if(a.sub.length:Int)!=0 then some false else if decide (a.n<0)then some false else if decide (a.n>7)then some false else if a.k==7 then zL a.sub 0>>=λx30=>if x30.k !=2 then some false else uJ b a 0 0 else uJ b a 0 0 else if a.k==3 then if(a.sub.length:Int)!=2 then some false else if decide (a.n<0)then some false else if decide (a.n>0)then some false else if a.k==7 then zL a.sub 0>>=λx38=>if x38.k !=2 then some false else uJ b a 2 0 else uJ b a 2 0 else if a.k==4 then if(a.sub.length:Int)!=2 then some false else if decide (a.n<0)then some false else if decide (a.n>0)then some false else if a.k==7 then zL a.sub 0>>=λx46=>if x46.k !=2 then some false else uJ b a 2 0 else uJ b a 2 0 else if a.k==5 then if(a.sub.length:Int)!=2 then some false else if decide (a.n<0)then some false else if decide (a.n>0)then some false else if a.k==7 then zL a.sub 0>>=λx54=>if x54.k !=2 then some false else uJ b a 2 0 else uJ b a 2 0 else if a.k==7 then if(a.sub.length:Int)!=1 then some false else if decide (a.n<0)then some false else if decide (a.n>1048576)then some false else zL a.sub 0>>=λx61=>if x61.k !=2 then some false else uJ b a 1 0 else some false def uJ:Nat->Tm->Int->Int->Option (Bool)|0,_,_,_=>none|b+1,a,d,c=>if decide (c<d)then zL a.sub c>>=λx10=>e65 b x10>>=λr12=>if r12 then uJ b a d (yB (c+1))else some false else some true end
theorem zNV:∀b:Nat,(∀a,Cz (e65 b a) 65 [] [yL a] (λr=>ab r) (λ_=>[]) 0)/\(∀a d c,Lz (uJ b a d c) 0 f65 (pt 262069 f65) (λj=>sp j 61 0 [(1,.mp 0 0),(3,ai d),(5,ai c)]) ⟨[(0,.cells [ai a.k,ai a.n,zC zA a.sub .no])],1,[],0,[]⟩ (λr=>ab r) (λ_=>[]) 0 [.blk 1,.seq (pt 4095 f65)]):=yS ⟨λ_=>cN,λ_ _ _=>lN⟩ λb ih=>⟨λa=>fw func65<|rB 1 (rB 2 (fE 0)<|rB 1 (fE 0)<|rB 1 (fE 0)<|rB 1 (rA 1 (yP (o:=.no)) λ_=>rB 1 (fE 0)<|fH 0 [] [0] [] [1,3,5] (ih.2 _ _ _))<|fH 0 [] [0] [] [1,3,5] (ih.2 _ _ _))<|rB 0 (rB 2 (fE 0)<|rB 1 (fE 0)<|rB 1 (fE 0)<|rB 1 (rA 1 (yP (o:=.no)) λ_=>rB 1 (fE 0)<|fH 0 [] [0] [] [1,3,5] (ih.2 _ _ _))<|fH 0 [] [0] [] [1,3,5] (ih.2 _ _ _))<|rB 0 (rB 2 (fE 0)<|rB 1 (fE 0)<|rB 1 (fE 0)<|rB 1 (rA 1 (yP (o:=.no)) λ_=>rB 1 (fE 0)<|fH 0 [] [0] [] [1,3,5] (ih.2 _ _ _))<|fH 0 [] [0] [] [1,3,5] (ih.2 _ _ _))<|rB 0 (rB 2 (fE 0)<|rB 1 (fE 0)<|rB 1 (fE 0)<|rB 1 (rA 1 (yP (o:=.no)) λ_=>rB 1 (fE 0)<|fH 0 [] [0] [] [1,3,5] (ih.2 _ _ _))<|fH 0 [] [0] [] [1,3,5] (ih.2 _ _ _))<|rB 0 (rB 2 (fE 0)<|rB 1 (fE 0)<|rB 1 (fE 0)<|rB 1 (rA 1 (yP (o:=.no)) λ_=>rB 1 (fE 0)<|fH 0 [] [0] [] [1,3,5] (ih.2 _ _ _))<|fH 0 [] [0] [] [1,3,5] (ih.2 _ _ _))<|rB 0 (rB 2 (fE 0)<|rB 1 (fE 0)<|rB 1 (fE 0)<|rB 1 (rA 1 (yP (o:=.no)) λ_=>rB 1 (fE 0)<|fH 0 [] [0] [] [1,3,5] (ih.2 _ _ _))<|fH 0 [] [0] [] [1,3,5] (ih.2 _ _ _))<|rB 0 (rB 2 (fE 0)<|rB 1 (fE 0)<|rB 1 (fE 0)<|rB 1 (rA 1 (yP (o:=.no)) λ_=>rB 1 (fE 0)<|fH 0 [] [0] [] [1,3,5] (ih.2 _ _ _))<|fH 0 [] [0] [] [1,3,5] (ih.2 _ _ _))<|rI (λh57=>rS (oB 0 h57)<|rB 2 (fE 0)<|rB 1 (fE 0)<|rB 1 (fE 0)<|rS (oB 1 h57)<|rA 1 (yP (o:=.no)) λ_=>rB 1 (fE 0)<|fH 0 [] [0] [] [1,3,5] (ih.2 _ _ _)) λh57=>rS (oB 0 h57)<|fE 0,λa d c=>lw λ_=>rB 0 (rA 1 (yP (o:=.no)) λ_=>rK 1 [] (ih.1 _) (λ_=>lH 2 [] [0] [] [1,3,5] (ih.2 _ _ _)) λ_=>lE 1)<|lE 0⟩
theorem c65{b a}:Cz (e65 b a) 65 [] [yL a] (λr=>ab r) (λ_=>[]) 0:=(zNV _).1 _
def e34(b:Nat)(a:Tm):Option (Bool):=e64 b a>>=λr1=>if decide (r1<=128)then e65 b a>>=λr4=>some r4 else some false
theorem c34{b a}:Cz (e34 b a) 34 [] [yL a] (λr=>ab r) (λ_=>[]) 0:=fw func34<|rC 1 [] c64 λ_=>rB 0 (rC 1 [] c65 λ_=>fE 0)<|fE 0
def e66(c:Nat)(a:Tm)(b:Int):Option (Int):=if b==1 then if a.k !=5 then some 1 else some 0 else some 0
theorem c66{c a b}:Cz (e66 c a b) 66 [] [yL a,ai b] (λr=>ai r) (λ_=>[]) 0:=fw func66<|rB 0 (rB 1 (fE 0)<|fE 0)<|fE 0
mutual def e35:Nat->Tm->Int->Option (Int)|0,_,_=>none|c+1,a,b=>if a.k==1 then if decide (a.n>=b)then some (yB ((yB (a.n-b))+1))else eU c a b 0 0 else eU c a b 0 0 def eU:Nat->Tm->Int->Int->Int->Option (Int)|0,_,_,_,_=>none|c+1,a,b,e,d=>if decide (d<(a.sub.length:Int))then zL a.sub d>>=λx4=>e66 c a d>>=λr6=>e35 c x4 (yB (b+r6))>>=λr8=>eU c a b (nI e r8) (yB (d+1))else some e end
theorem zNW:∀c:Nat,(∀a b,Cz (e35 c a b) 35 [] [yL a,ai b] (λr=>ai r) (λ_=>[]) 0)/\(∀a b e d,Lz (eU c a b e d) 0 Tryz.f35 (pt 16309 Tryz.f35) (λj=>sp j 42 0 [(1,ai b),(2,.mp 0 0),(5,ai e),(6,ai d)]) ⟨[(0,.cells [ai a.k,ai a.n,zC zA a.sub .no])],1,[],0,[]⟩ (λr=>ai r) (λ_=>[]) 0 [.blk 0,.seq (pt 255 Tryz.f35)]):=yS ⟨λ_ _=>cN,λ_ _ _ _=>lN⟩ λc ih=>⟨λa b=>fw func35<|rB 1 (rB 1 (fE 3)<|fH 0 [] [0] [] [1,2,5,6] (ih.2 _ _ _ _))<|fH 0 [] [0] [] [1,2,5,6] (ih.2 _ _ _ _),λa b e d=>lw λ_=>rB 2 (rS (gR 0)<|rA 0 (yP (o:=.no)) λ_=>rC 2 [] c66 λ_=>rC 1 [] (ih.1 _ _) λ_=>lH 2 [] [0] [] [1,2,5,6] (ih.2 _ _ _ _))<|lE 0⟩
theorem c35{c a b}:Cz (e35 c a b) 35 [] [yL a,ai b] (λr=>ai r) (λ_=>[]) 0:=(zNW _).1 _ _
theorem tM(k n:Int)(l:List Tm):xF (.mk k n l)=(tX (.mk k n l)&&wR l):=by rw[xF]
mutual theorem zHW:∀(t:Tm),t.Ok->zB (λq=>e65 q t) (xF t)
 |.mk k n l,ho=>by
  refine zB.succ ?_;simp only[e65];have hL:∀c:Nat,l.length=c->zB (λq=>uJ q (.mk k n l) (c:Int) 0) (wR l):=λc hc=>zDt l (.mk k n l) 0 c rfl (by simpa[Tm.sub]using hc) ho.1 ho.2;by_cases h1:k=1
  ·subst h1;refine zB.ifT rfl ((J4 (p:=.mk 1 n l) (c:=0) (m:=1048576) (r:=wR l) λhc _ _=>zB.ifF rfl (hL 0 hc)).eq ?_);rw[tM];simp[tX,Tm.k,Tm.n,Tm.sub];cases wR l<;>simp[Bool.and_comm,Bool.and_left_comm,Bool.and_assoc]
  refine zB.ifF (by simpa[Tm.k]using h1) ?_;by_cases h6:k=6
  ·subst h6;refine zB.ifT rfl ((J4 (p:=.mk 6 n l) (c:=0) (m:=1048576) (r:=wR l) λhc _ _=>zB.ifF rfl (hL 0 hc)).eq ?_);rw[tM];simp[tX,Tm.k,Tm.n,Tm.sub];cases wR l<;>simp[Bool.and_comm,Bool.and_left_comm,Bool.and_assoc]
  refine zB.ifF (by simpa[Tm.k]using h6) ?_;by_cases h8:k=8
  ·subst h8;refine zB.ifT rfl ((J4 (p:=.mk 8 n l) (c:=0) (m:=1048576) (r:=wR l) λhc _ _=>zB.ifF rfl (hL 0 hc)).eq ?_);rw[tM];simp[tX,Tm.k,Tm.n,Tm.sub];cases wR l<;>simp[Bool.and_comm,Bool.and_left_comm,Bool.and_assoc]
  refine zB.ifF (by simpa[Tm.k]using h8) ?_;by_cases h2:k=2
  ·subst h2;refine zB.ifT rfl ((J4 (p:=.mk 2 n l) (c:=0) (m:=7) (r:=wR l) λhc _ _=>zB.ifF rfl (hL 0 hc)).eq ?_);rw[tM];simp[tX,Tm.k,Tm.n,Tm.sub];cases wR l<;>simp[Bool.and_comm,Bool.and_left_comm,Bool.and_assoc]
  refine zB.ifF (by simpa[Tm.k]using h2) ?_;by_cases h3:k=3
  ·subst h3;refine zB.ifT rfl ((J4 (p:=.mk 3 n l) (c:=2) (m:=0) (r:=wR l) λhc _ _=>zB.ifF rfl (hL 2 hc)).eq ?_);rw[tM];simp[tX,Tm.k,Tm.n,Tm.sub];cases wR l<;>simp[Bool.and_comm,Bool.and_left_comm,Bool.and_assoc]
  refine zB.ifF (by simpa[Tm.k]using h3) ?_;by_cases h4:k=4
  ·subst h4;refine zB.ifT rfl ((J4 (p:=.mk 4 n l) (c:=2) (m:=0) (r:=wR l) λhc _ _=>zB.ifF rfl (hL 2 hc)).eq ?_);rw[tM];simp[tX,Tm.k,Tm.n,Tm.sub];cases wR l<;>simp[Bool.and_comm,Bool.and_left_comm,Bool.and_assoc]
  refine zB.ifF (by simpa[Tm.k]using h4) ?_;by_cases h5:k=5
  ·subst h5;refine zB.ifT rfl ((J4 (p:=.mk 5 n l) (c:=2) (m:=0) (r:=wR l) λhc _ _=>zB.ifF rfl (hL 2 hc)).eq ?_);rw[tM];simp[tX,Tm.k,Tm.n,Tm.sub];cases wR l<;>simp[Bool.and_comm,Bool.and_left_comm,Bool.and_assoc]
  refine zB.ifF (by simpa[Tm.k]using h5) ?_;by_cases h7:k=7
  ·subst h7;refine zB.ifT rfl ?_;rcases l with _|⟨x,l⟩;·refine(J4 (p:=.mk 7 n []) (c:=1) (m:=1048576) (r:=false) λhc _ _=>by simp[Tm.sub]at hc).eq ?_;rw[tM];simp[tX,Tm.k,Tm.n,Tm.sub]
   ·refine(J4 (p:=.mk 7 n (x::l)) (c:=1) (m:=1048576) (r:=(x.k==2)&&wR (x::l)) λhc _ _=>zB.pure (a:=x) rfl ?_).eq ?_
    ·by_cases hx:x.k=2;·refine zB.ifF (by simp[hx]) ((hL 1 (by simpa[Tm.sub]using hc)).eq (by simp[hx]))
     ·exact zB.ifT (by simp[hx]) (zB.ret.eq (by simp[hx]))
    ·rw[tM];simp[tX,Tm.k,Tm.n,Tm.sub];cases wR (x::l)<;>cases(x.k==2)<;>simp[Bool.and_comm,Bool.and_left_comm,Bool.and_assoc]
  refine zB.ifF (by simpa[Tm.k]using h7) (zB.ret.eq ?_);rw[tM];have:tX (.mk k n l)=false:=by
   simp only[tX,Tm.k];by_cases h9:1<=k/\k<=8;·omega
   ·by_cases h10:1<=k;·simp[show¬k<=8 by omega]
    ·simp[h10]
  simp[this]theorem zDt:∀(l:List Tm)(p:Tm)(v c:Nat),p.sub.drop v=l->p.sub.length=c->p.sub.length<9223372036854775808->gV l->zB (λq=>uJ q p (c:Int) (v:Int)) (wR l)|[],p,v,c,hd,hc,hl,ho=>by refine zB.succ ?_;simp only[uJ];rw[wR,<-hc];exact zB.ifF (zZ hd) zB.ret|t::l,p,v,c,hd,hc,hl,ho=>by refine zB.succ ?_;simp only[uJ];refine zB.ifT (by rw[<-hc];exact zX hd) (zB.pure (zU hd) ((zHW t ho.1).bind ?_));rw[wR];cases xF t with|false=>exact zB.ifF rfl zB.ret|true=>refine zB.ifT rfl ?_;rw[zS v (by have:=yC hd;omega)];exact zDt l p (v+1) c (zP hd) hc hl ho.2 end
theorem gK(t:Tm)(ho:t.Ok):zB (λq=>e34 q t) (zJ t):=by
 simp only[e34];refine(zNU t).bind ?_;unfold zJ zSs;by_cases h1:t.nodes<=8192
 ·rw[if_pos h1];by_cases h2:t.high<=128;·exact zB.ifT (by simp<;>omega) (((zHW t ho).bind zB.ret).eq (by simp[h1,h2]))
  ·exact zB.ifF (by simp<;>omega) (zB.ret.eq (by simp[h2]))
 ·rw[if_neg h1];exact zB.ifF (by simp) (zB.ret.eq (by simp[h1]))
def zWg(k:Int)(i:Nat):Int:=if i=1/\k≠5 then 1 else 0
theorem zHX(t:Tm)(i:Nat):zB (λq=>e66 q t (i:Int)) (zWg t.k i):=by
 refine zB.mk λq=>?_;simp only[e66,zWg];by_cases h1:i=1;·subst h1;by_cases h5:t.k=5<;>simp[h5]
 ·have:¬((i:Int)=1):=by omega
  simp[h1,this]
theorem zWf{k n:Int}{l:List Tm}(h:tX (.mk k n l)=true){i:Nat}(hi:i<l.length):zWg k i=D9 k i:=by
 unfold D9 zWg;by_cases h1:i=1
 ·subst h1;have hs:=tK h;simp only[Tm.k,Tm.n,Tm.sub]at hs;have:k=3\/k=4\/k=5:=by
   by_cases h7:k=7
   ·obtain⟨x,hx,_⟩:=hs.2.2.2.2.2.2.1 h7;rw[hx]at hi;simp at hi
   ·by_cases h3:k=1\/k=2\/k=6\/k=8;·rw[hs.2.2.2.2.2.2.2.1 h3]at hi;simp at hi
    ·omega
  rcases this with rfl|rfl|rfl<;>simp
 ·simp[h1]
mutual theorem zDs:∀(t:Tm)(b:Int),xF t=true->0<=b->b+t.high<=4611686018427387904->zB (λq=>e35 q t b) (E0 t b)
 |.mk k n l,b,hg,h0,h1=>by
  refine zB.succ ?_;simp only[e35,Tm.k,Tm.n];have hh:=wO hg;have hn:=mU hh.1;have hl:zB (λq=>eU q (.mk k n l) b 0 0) (aB l k 0 b):=(zBw l (.mk k n l) 0 b 0 rfl hh.1 hh.2 h0 (by omega) (by rw[Tm.high]at h1;omega)).eq (by have:=zDQ l k 0 b;simp only[Tm.k];omega);rw[Tm.high]at h1;rw[E0];by_cases hk:k=1
  ·rw[if_pos hk];refine zB.ifT (by simpa using hk) ?_;by_cases hb:n>=b;·refine zB.ifT (by simpa using hb) (zB.ret.eq ?_);rw[zR (x:=n-b) (by omega) (by omega),zR (by omega) (by omega)];omega
   ·refine zB.ifF (by simpa using hb) (hl.eq ?_);have:l=[]:=by have:=hh.1;subst hk;simp[tX,Tm.k,Tm.n,Tm.sub]at this;exact this.2.1
    subst this;rw[aB];omega
  ·rw[if_neg hk];exact zB.ifF (by simpa using hk) hl theorem zBw:∀(l:List Tm)(p:Tm)(v:Nat)(b m:Int),p.sub.drop v=l->tX p=true->wR l=true->0<=b->0<=m->b+1+wY l<=4611686018427387904->zB (λq=>eU q p b m (v:Int)) (max m (aB l p.k v b))|[],p,v,b,m,hd,hp,ho,h0,hm,h1=>by refine zB.succ ?_;simp only[eU];rw[aB];exact zB.ifF (zZ hd) (zB.ret.eq (by omega))|t::l,p,v,b,m,hd,hp,ho,h0,hm,h1=>by refine zB.succ ?_;simp only[eU];have hg:=wD ho;have hu:=zDR p.k v;have hlt:=yC hd;obtain⟨k,n,ls⟩:=p;have hls:=(mU hp).2.2.2.2;simp only[Tm.sub]at hlt hd;have he:=zWf hp hlt;rw[wY]at h1;refine zB.ifT (zX hd) (zB.pure (zU hd) ((zHX (.mk k n ls) v).bind ?_));simp only[Tm.k]at hu⊢;rw[he,zR (x:=b+D9 k v) (by omega) (by omega)];refine(zDs t (b+D9 k v) hg.1 (by omega) (by omega)).bind ?_;rw[zS v (by omega),zDP];refine(zBw l (.mk k n ls) (v+1) b _ (zP hd) hp hg.2 h0 (by omega) (by omega)).eq ?_;simp only[Tm.k];rw[aB];omega end
def gL:Nat->yH->Int->yH->Bool->Int->Option yH
 |0,_,_,_,_,_=>none|d+1,a,b,e,f,c=>if f then if decide (c<(a.length:Int))then zL a c>>=λx2=>yR 8 e [x2]>>=λl4=>gL d a b l4 true (yB (c+1))else some e else if decide (c<(a.length:Int))then zL a c>>=λx7=>if decide (x7>=b)then if decide (x7>b)then yR 8 e [b]>>=λl11=>yR 8 l11 [x7]>>=λl13=>gL d a b l13 true (yB (c+1))else yR 8 e [x7]>>=λl15=>gL d a b l15 true (yB (c+1))else yR 8 e [x7]>>=λl17=>gL d a b l17 false (yB (c+1))else yR 8 e [b]>>=λl19=>some l19
def e67(d:Nat)(a:yH)(b:Int):Option yH:=gL d a b [] false 0
theorem zZf:∀d:Nat,∀a b e f c,Lz (gL d a b e f c) 0 f67 (pt 16309 f67) (λj=>sp j 49 0 [(0,zC zW a .no),(1,ai b),(5,zC zW e (.st 0 1)),(6,ab f),(7,ai c)]) ⟨[],0,[0],1,[]⟩ (λr=>.sl (zH zW r) r.length .no) (λ_=>[]) 0 [.blk 0,.seq (pt 255 f67)]:=yS (λ_ _ _ _ _=>lN) λd ih=>λa b e f c=>lw λ_=>rI (λhb=>by subst hb;exact rB 1 (rA 1 (vQ (o:=.no)) λ_=>rW (λh5=>oP 2 (tY h5 (by simp))) λ_=>lH 1 [] [] [1] [0,1,5,6,7] (ih _ _ _ _ _))<|lE 1) λhb=>by subst hb;exact rB 1 (rH λ_ h8=>rS (oA 1 (vQ (o:=.no) h8))<|rB 1 (rS (oA 0 (vQ (o:=.no) h8))<|rB 1 (rW (λh12=>oP 1 (tY h12 (by simp))) λ_=>rS (oA 0 (vQ (o:=.no) h8))<|rW (λh14=>oP 2 (tY h14 (by simp))) λ_=>lH 1 [] [] [2] [0,1,5,6,7] (ih _ _ _ _ _))<|rS (oA 0 (vQ (o:=.no) h8))<|rW (λh16=>oP 2 (tY h16 (by simp))) λ_=>lH 1 [] [] [1] [0,1,5,6,7] (ih _ _ _ _ _))<|rS (oA 0 (vQ (o:=.no) h8))<|rW (λh18=>oP 2 (tY h18 (by simp))) λ_=>lH 1 [] [] [1] [0,1,5,6,7] (ih _ _ _ _ _))<|rW (λh20=>oP 2 (tY h20 (by simp))) λ_=>lE 0
theorem c67{d a b}:Cz (e67 d a b) 67 [] [zC zW a .no,ai b] (λr=>.sl (zH zW r) r.length .no) (λ_=>[]) 0:=fw func67<|fH 1 [(none,5,1)] [] [0] [0,1,5,6,7] (zZf _ _ _ _ _ _)
mutual def e36:Nat->Tm->Int->Int->Option yH|0,_,_,_=>none|f+1,a,b,c=>if a.k==b then yR 8 ([]:yH) [a.n]>>=λl2=>nO f a b c l2 0 else if a.k==c then yR 8 ([]:yH) [a.n]>>=λl5=>nO f a b c l5 0 else nO f a b c [] 0 def nO:Nat->Tm->Int->Int->yH->Int->Option yH
 |0,_,_,_,_,_=>none|f+1,a,b,c,g,e=>if decide (e<(a.sub.length:Int))then zL a.sub e>>=λx5=>e36 f x5 b c>>=λr7=>eV f a b c e r7 0 g else some g def eV:Nat->Tm->Int->Int->Int->yH->Int->yH->Option yH
 |0,_,_,_,_,_,_,_=>none|f+1,a,b,c,e,r7,d,g=>if decide (d<(r7.length:Int))then zL r7 d>>=λx10=>e67 f g x10>>=λr12=>eV f a b c e r7 (yB (d+1)) r12 else nO f a b c g (yB (e+1))end
theorem W6:∀f:Nat,(∀a b c,Cz (e36 f a b c) 36 [] [yL a,ai b,ai c] (λr=>.sl (zH zW r) r.length .no) (λ_=>[]) 0)/\(∀a b c g e,Lz (nO f a b c g e) 0 f36 (pt 16309 f36) (λj=>sp j 55 0 [(1,ai b),(2,ai c),(3,.mp 0 0),(7,zC zW g (.st 0 1)),(8,ai e)]) ⟨[(0,.cells [ai a.k,ai a.n,zC zA a.sub .no])],1,[0],1,[]⟩ (λr=>.sl (zH zW r) r.length .no) (λ_=>[]) 0 [.blk 0,.seq (pt 255 f36)]/\Lz (nO f a b c g e) 0 f36 (pt 16309 f36) (λj=>sp j 55 0 [(1,ai b),(2,ai c),(3,.mp 0 0),(7,zC zW g .no),(8,ai e)]) ⟨[(0,.cells [ai a.k,ai a.n,zC zA a.sub .no])],1,[],0,[]⟩ (λr=>.sl (zH zW r) r.length .no) (λ_=>[]) 0 [.blk 0,.seq (pt 255 f36)]/\Lz (nO f a b c g e) 0 f36 (pt 16309 f36) (λj=>sp j 55 0 [(1,ai b),(2,ai c),(3,.mp 0 0),(7,zC zW g .full),(8,ai e)]) ⟨[(0,.cells [ai a.k,ai a.n,zC zA a.sub .no])],1,[],0,[]⟩ (λr=>.sl (zH zW r) r.length .no) (λ_=>[]) 0 [.blk 0,.seq (pt 255 f36)])/\(∀a b c e r7 d g,Lz (eV f a b c e r7 d g) 0 f36 (pt 267221493 f36) (λj=>sp j 55 0 [(1,ai b),(2,ai c),(3,.mp 0 0),(7,zC zW g (.st 0 1)),(8,ai e),(9,zC zW r7 .no),(10,ai d)]) ⟨[(0,.cells [ai a.k,ai a.n,zC zA a.sub .no])],1,[0],1,[]⟩ (λr=>.sl (zH zW r) r.length .no) (λ_=>[]) 0 [.blk 2,.blk 1,.seq (pt 260959 f36),.loop (pt 16309 f36),.blk 0,.seq (pt 255 f36)]/\Lz (eV f a b c e r7 d g) 0 f36 (pt 267221493 f36) (λj=>sp j 55 0 [(1,ai b),(2,ai c),(3,.mp 0 0),(7,zC zW g .no),(8,ai e),(9,zC zW r7 .no),(10,ai d)]) ⟨[(0,.cells [ai a.k,ai a.n,zC zA a.sub .no])],1,[],0,[]⟩ (λr=>.sl (zH zW r) r.length .no) (λ_=>[]) 0 [.blk 2,.blk 1,.seq (pt 260959 f36),.loop (pt 16309 f36),.blk 0,.seq (pt 255 f36)]/\Lz (eV f a b c e r7 d g) 0 f36 (pt 267221493 f36) (λj=>sp j 55 0 [(1,ai b),(2,ai c),(3,.mp 0 0),(7,zC zW g .full),(8,ai e),(9,zC zW r7 .no),(10,ai d)]) ⟨[(0,.cells [ai a.k,ai a.n,zC zA a.sub .no])],1,[],0,[]⟩ (λr=>.sl (zH zW r) r.length .no) (λ_=>[]) 0 [.blk 2,.blk 1,.seq (pt 260959 f36),.loop (pt 16309 f36),.blk 0,.seq (pt 255 f36)]):=yS ⟨λ_ _ _=>cN,λ_ _ _ _ _=>⟨lN,lN,lN⟩,λ_ _ _ _ _ _ _=>⟨lN,lN,lN⟩⟩ λf ih=>⟨λa b c=>fw func36<|rB 2 (rW (λh3=>oP 2 (tY h3 (by simp))) λ_=>fH 0 [] [0] [0] [1,2,3,7,8] ((ih.2.1 _ _ _ _ _).1))<|rB 1 (rW (λh6=>oP 2 (tY h6 (by simp))) λ_=>fH 0 [] [0] [0] [1,2,3,7,8] ((ih.2.1 _ _ _ _ _).1))<|fH 0 [] [0] [] [1,2,3,7,8] ((ih.2.1 _ _ _ _ _).2.2),λa b c g e=>⟨lw λ_=>rB 2 (rA 1 (yP (o:=.no)) λ_=>rC 1 [] (ih.1 _ _ _) λ_=>lH 0 [] [0] [0] [1,2,3,7,8,9,10] ((ih.2.2 _ _ _ _ _ _ _).1))<|lE 0,lw λ_=>rB 2 (rA 1 (yP (o:=.no)) λ_=>rC 1 [] (ih.1 _ _ _) λ_=>lH 0 [] [0] [] [1,2,3,7,8,9,10] ((ih.2.2 _ _ _ _ _ _ _).2.1))<|lE 0,lw λ_=>rB 2 (rA 1 (yP (o:=.no)) λ_=>rC 1 [] (ih.1 _ _ _) λ_=>lH 0 [] [0] [] [1,2,3,7,8,9,10] ((ih.2.2 _ _ _ _ _ _ _).2.2))<|lE 0⟩,λa b c e r7 d g=>⟨lw λ_=>rB 1 (rA 0 (vQ (o:=.no)) λ_=>rC 1 [] c67 λ_=>lH 1 [] [0] [] [1,2,3,7,8,9,10] ((ih.2.2 _ _ _ _ _ _ _).2.1))<|lH 1 [] [0] [0] [1,2,3,7,8] ((ih.2.1 _ _ _ _ _).1),lw λ_=>rB 1 (rA 0 (vQ (o:=.no)) λ_=>rC 1 [] c67 λ_=>lH 1 [] [0] [] [1,2,3,7,8,9,10] ((ih.2.2 _ _ _ _ _ _ _).2.1))<|lH 1 [] [0] [] [1,2,3,7,8] ((ih.2.1 _ _ _ _ _).2.1),lw λ_=>rB 1 (rA 0 (vQ (o:=.no)) λ_=>rC 1 [] c67 λ_=>lH 1 [] [0] [] [1,2,3,7,8,9,10] ((ih.2.2 _ _ _ _ _ _ _).2.1))<|lH 1 [] [0] [] [1,2,3,7,8] ((ih.2.1 _ _ _ _ _).2.2)⟩⟩
theorem c36{f a b c}:Cz (e36 f a b c) 36 [] [yL a,ai b,ai c] (λr=>.sl (zH zW r) r.length .no) (λ_=>[]) 0:=(W6 _).1 _ _ _
def P6:Nat->Int->yH->Int->Option (Bool)|0,_,_,_=>none|a+1,b,r7,c=>if decide (c<(r7.length:Int))then zL r7 c>>=λx10=>if decide (x10>=b)then some false else P6 a b r7 (yB (c+1))else some true
def e11(a:Nat)(d:Tm)(e b:Int):Option (Bool):=e34 a d>>=λr1=>if r1 then e35 a d 0>>=λr4=>if decide (r4>e)then some false else e36 a d 6 7>>=λr7=>P6 a b r7 0 else some false
theorem zZd:∀a:Nat,∀b r7 c,Lz (P6 a b r7 c) 0 Tryz.f11 (pt 16309 Tryz.f11) (λj=>sp j 32 0 [(2,ai b),(7,zC zW r7 .no),(8,ai c)]) ⟨[],0,[],0,[]⟩ (λr=>ab r) (λ_=>[]) 0 [.blk 0,.seq (pt 255 Tryz.f11)]:=yS (λ_ _ _=>lN) λa ih=>λb r7 c=>lw λ_=>rB 1 (rA 0 (vQ (o:=.no)) λ_=>rB 1 (lE 0)<|lH 1 [] [] [] [2,7,8] (ih _ _ _))<|lE 0
theorem c11{a d e b}:Cz (e11 a d e b) 11 [] [yL d,ai e,ai b] (λr=>ab r) (λ_=>[]) 0:=fw func11<|rK 1 [] c34 (λ_=>rC 2 [] c35 λ_=>rB 0 (fE 0)<|rC 1 [] c36 λ_=>fH 0 [] [] [] [2,7,8] (zZd _ _ _ _)) λ_=>fE 1
def e80(b:Nat)(a:Tm)(c:Int):Option (Bool):=e11 b a 0 c>>=λr1=>if r1 then e36 b a 8 8>>=λr4=>some ((r4.length:Int)==0)else some false
theorem c80{b a c}:Cz (e80 b a c) 80 [] [yL a,ai c] (λr=>ab r) (λ_=>[]) 0:=fw func80<|rK 1 [] c11 (λ_=>rC 1 [] c36 λ_=>fE 2) λ_=>fE 0
theorem J5:∀(r l:List Int)(n:Int)(v:Nat)(acc:List Int)(done:Bool),l.drop v=r->l.length<=8192->acc.length<=v+1->(done=false->acc.length<=v)->v<=l.length->zD (λq=>gL q l n acc done (v:Int)) λo=>o.length<=acc.length+r.length+1/\(done=true->o.length<=acc.length+r.length)/\∀x,x∈o↔x∈acc\/x∈r\/(done=false/\x=n)
 |[],l,n,v,acc,done,hd,hl,ha,hb,hv=>by refine zD.succ ?_;simp only[gL];cases done with|true=>refine zD.ite (λ_=>zD.ite (λh=>?_) λ_=>zD.ret ⟨(by simp<;>omega),λ_=>(by simp),λx=>by simp⟩) (λh=>by cases h);rw[zZ hd]at h;cases h|false=>refine zD.ite (λh=>by cases h) (λ_=>zD.ite (λh=>?_) λ_=>zD.pure (yA (by simp<;>omega)) (zD.ret ⟨(by simp),λh=>(by cases h),λx=>by simp⟩));rw[zZ hd]at h;cases h
 |y::r,l,n,v,acc,done,hd,hl,ha,hb,hv=>by have hlt:=yC hd;refine zD.succ ?_;simp only[gL];cases done with
  |true=>
   refine zD.ite (λ_=>zD.ite (λ_=>zD.pure (zU hd) (zD.pure (yA (by simp<;>omega)) ?_)) λh=>?_) (λh=>by cases h)
   ·rw[zS v (by omega)];refine(J5 r l n (v+1) (acc++[y]) true (zP hd) hl (by simp<;>omega) (λh=>by cases h) (by omega)).mono λo ho=>?_;refine⟨by have:=ho.2.1 rfl;simp at this⊢<;>omega,λ_=>by have:=ho.2.1 rfl;simp at this⊢<;>omega,λx=>?_⟩;rw[ho.2.2 x];simp[or_assoc]
   ·rw[zX hd]at h;cases h|false=>
   have hb':=hb rfl;refine zD.ite (λh=>by cases h) (λ_=>zD.ite (λ_=>zD.pure (zU hd) (zD.ite (λh1=>zD.ite (λh2=>zD.pure (yA (by simp<;>omega)) (zD.pure (yA (by simp<;>omega)) ?_)) λh2=>zD.pure (yA (by simp<;>omega)) ?_) λh1=>zD.pure (yA (by simp<;>omega)) ?_)) λh=>?_)
   ·rw[zS v (by omega)];refine(J5 r l n (v+1) (acc++[n]++[y]) true (zP hd) hl (by simp<;>omega) (λh=>by cases h) (by omega)).mono λo ho=>?_;refine⟨by have:=ho.2.1 rfl;simp at this⊢<;>omega,λh=>(by cases h),λx=>?_⟩;rw[ho.2.2 x];simp;grind
   ·rw[zS v (by omega)];refine(J5 r l n (v+1) (acc++[y]) true (zP hd) hl (by simp<;>omega) (λh=>by cases h) (by omega)).mono λo ho=>?_;have e:y=n:=by simp at h1 h2;omega
    subst e;refine⟨by have:=ho.2.1 rfl;simp at this⊢<;>omega,λh=>(by cases h),λx=>?_⟩;rw[ho.2.2 x];simp;grind
   ·rw[zS v (by omega)];refine(J5 r l n (v+1) (acc++[y]) false (zP hd) hl (by simp<;>omega) (λ_=>by simp<;>omega) (by omega)).mono λo ho=>?_;refine⟨by have:=ho.1;simp at this⊢;omega,λh=>(by cases h),λx=>?_⟩;rw[ho.2.2 x];simp;grind
   ·rw[zX hd]at h;cases h
theorem zSr(l:List Int)(n:Int)(hl:l.length<=8192):zD (λq=>e67 q l n) λo=>o.length<=l.length+1/\∀x,x∈o↔x∈l\/x=n:=by simp only[e67];refine(J5 l l n 0 [] false rfl hl (by simp) (λ_=>by simp) (by omega)).mono λo ho=>⟨by have:=ho.1;simpa using this,λx=>by rw[ho.2.2 x];simp⟩
theorem zDr{p:Tm}{a b:Int}{v:Nat}{r7:List Int}{Q:List Int->Prop}{N:Nat}{S:Int->Prop}(hN:N<=8192)(hr:r7.length<=8192)(hv:v<9223372036854775807)(K:∀acc:List Int,acc.length<=N->(∀x,x∈acc↔S x)->zD (λq=>nO q p a b acc ((v+1:Nat):Int)) Q):∀(m:List Int)(w:Nat)(acc:List Int),r7.drop w=m->acc.length+m.length<=N->(∀x,(x∈acc\/x∈m)↔S x)->zD (λq=>eV q p a b (v:Int) r7 (w:Int) acc) Q
 |[],w,acc,hd,hl,hm=>by
  refine zD.succ ?_;simp only[eV];refine zD.ite (λh=>?_) λ_=>?_;·rw[zZ hd]at h;cases h
  ·rw[zS v (by omega)];exact K acc (by simpa using hl) λx=>by simpa using hm x|y::m,w,acc,hd,hl,hm=>by
  have hlt:=yC hd;refine zD.succ ?_;simp only[eV];refine zD.ite (λ_=>zD.pure (zU hd) ((zSr acc y (by simp at hl;omega)).bind λo ho=>?_)) λh=>?_
  ·rw[zS w (by omega)];refine zDr hN hr hv K m (w+1) o (zP hd) (by simp at hl;have:=ho.1;omega) λx=>?_;rw[<-hm x,ho.2 x];simp[or_assoc]
  ·rw[zX hd]at h;cases h
def zZc(r m:List Int):Prop:=∀x,x∈r↔x∈m
mutual theorem eW:∀(t:Tm)(a b:Int),t.Ok->t.nodes<=8192->zD (λq=>e36 q t a b) λo=>o.length<=t.nodes/\zZc o (lK t a b)
 |.mk k n l,a,b,ho,hn=>by
  refine zD.succ ?_;simp only[e36,Tm.k,Tm.n];rw[Tm.nodes]at hn;have key:∀acc:List Int,acc.length<=1->acc=(if k=a\/k=b then[n]else[])->zD (λq=>nO q (.mk k n l) a b acc 0) λo=>o.length<=(Tm.mk k n l).nodes/\zZc o (lK (.mk k n l) a b):=by intro acc h1 h2;refine(J6 l (.mk k n l) 0 a b acc rfl ho.1 ho.2 (by omega)).mono λo ho=>⟨by rw[Tm.nodes];have:=ho.1;omega,λx=>?_⟩;rw[ho.2 x,lK,h2];simp
  refine zD.ite (λh=>zD.pure (yA (by simp)) ?_) λh=>zD.ite (λh'=>zD.pure (yA (by simp)) ?_) λh'=>?_;·exact key _ (by simp) (by rw[if_pos (.inl (by simpa using h))];rfl)
  ·exact key _ (by simp) (by rw[if_pos (.inr (by simpa using h'))];rfl)
  ·exact key _ (by simp) (by rw[if_neg (by simp at h h';simp[h,h'])])theorem J6:∀(l:List Tm)(p:Tm)(v:Nat)(a b:Int)(acc:List Int),p.sub.drop v=l->p.sub.length<9223372036854775808->gV l->acc.length+yN l<=8192->zD (λq=>nO q p a b acc (v:Int)) λo=>o.length<=acc.length+yN l/\∀x,x∈o↔x∈acc\/x∈E1 l a b
 |[],p,v,a,b,acc,hd,hl,ho,hn=>by refine zD.succ ?_;simp only[nO];refine zD.ite (λh=>?_) λ_=>zD.ret ⟨by omega,λx=>by rw[E1];simp⟩;rw[zZ hd]at h;cases h|t::l,p,v,a,b,acc,hd,hl,ho,hn=>by
  have hlt:=yC hd;rw[yN]at hn;have IH:=λacc' h=>J6 l p (v+1) a b acc' (zP hd) hl ho.2 h;refine zD.succ ?_;simp only[nO];refine zD.ite (λ_=>zD.pure (zU hd) ((eW t a b ho.1 (by omega)).bind λr7 hr=>?_)) λh=>?_
  ·refine zDr (N:=acc.length+t.nodes) (S:=λx=>x∈acc\/x∈lK t a b) (by omega) (by have:=hr.1;omega) (by omega) (λacc' h1 h2=>?_) r7 0 acc rfl (by have:=hr.1;omega) λx=>by rw[hr.2 x]
   refine(IH acc' (by omega)).mono λo ho=>⟨by rw[yN];have:=ho.1;omega,λx=>?_⟩;rw[ho.2 x,h2 x,E1];simp[or_assoc]
  ·rw[zX hd]at h;cases h end
theorem zSq:∀(r l:List Int)(n:Int)(v:Nat),l.drop v=r->l.length<=8192->zB (λq=>P6 q n l (v:Int)) (r.all λx=>decide (x<n))
 |[],l,n,v,hd,hl=>by refine zB.succ ?_;simp only[P6];exact zB.ifF (zZ hd) zB.ret|y::r,l,n,v,hd,hl=>by
  have hlt:=yC hd;refine zB.succ ?_;simp only[P6];refine zB.ifT (zX hd) (zB.pure (zU hd) ?_);by_cases h:y>=n;·exact zB.ifT (by simpa using h) (zB.ret.eq (by simp<;>omega))
  ·refine zB.ifF (by simpa using h) ?_;rw[zS v (by omega)];refine(zSq r l n (v+1) (zP hd) hl).eq ?_;simp[show y<n by omega]
theorem zSp{r m:List Int}(h:zZc r m)(n:Int):(r.all λx=>decide (x<n))=m.all λx=>decide (x<n):=by rw[Bool.eq_iff_iff];simp only[List.all_eq_true];exact⟨λk x hx=>k x ((h x).2 hx),λk x hx=>k x ((h x).1 hx)⟩
theorem zNX(t:Tm)(f n:Int)(ho:t.Ok):zB (λq=>e11 q t f n) (tO t f n):=by
 simp only[e11];refine(gK t ho).bind ?_;unfold tO;by_cases h:zJ t=true
 ·have hs:=zO h;refine zB.ifT h ((zDs t 0 hs.2.2 (by omega) (by omega)).bind ?_);rw[h];by_cases h2:E0 t 0>f;·exact zB.ifT (by simpa using h2) (zB.ret.eq (by simp<;>omega))
  ·obtain⟨r,h3,h4,h5⟩:=eW t 6 7 ho hs.1;refine zB.ifF (by simpa using h2) (h3.bind ((zSq r r n 0 rfl (by omega)).eq ?_));rw[zSp h5,show decide (E0 t 0<=f)=true by simp<;>omega];simp
 ·exact zB.ifF (by simpa using h) (zB.ret.eq (by simp[h]))
def zLE(t:Tm)(n:Int):Bool:=tO t 0 n&&(lK t 8 8).isEmpty
theorem zBF{t:Tm}{f n:Int}(h:tO t f n=true):zJ t=true:=by unfold tO at h;simp at h;exact h.1.1
theorem zBv(t:Tm)(n:Int)(ho:t.Ok):zB (λq=>e80 q t n) (zLE t n):=by
 simp only[e80];refine(zNX t 0 n ho).bind ?_;unfold zLE;by_cases h:tO t 0 n=true
 ·have hs:=zO (zBF h);obtain⟨r,h3,h4,h5⟩:=eW t 8 8 ho hs.1;refine zB.ifT h (h3.bind (zB.ret.eq ?_));rw[h,Bool.true_and,Bool.eq_iff_iff];simp only[beq_iff_eq,List.isEmpty_iff];constructor
  ·intro h6;have h6':r=[]:=List.length_eq_zero_iff.1 (by omega);refine List.eq_nil_iff_forall_not_mem.2 λx hx=>?_;rw[<-h5 x,h6']at hx;cases hx
  ·intro h6;have:r=[]:=List.eq_nil_iff_forall_not_mem.2 λx hx=>by rw[h5 x,h6]at hx;cases hx
   rw[this];rfl
 ·exact zB.ifF (by simpa using h) (zB.ret.eq (by simp[h]))
def zSo(b:Nat)(a:Tm):Option (Bool):=if a.k==0 then if a.n==0 then some ((a.sub.length:Int)==0)else some false else some false
theorem yCz{b a}:Cz (zSo b a) 147 [] [yL a] (λr=>ab r) (λ_=>[]) 0:=fw func147<|rB 1 (rB 1 (fE 3)<|fE 0)<|fE 0
def bW:Nat->Int->yI->Int->Int->Int->yI->Option (yI×Tm×Int)|0,_,_,_,_,_,_=>none|e+1,d,g,m,b,c,a=>if decide (m<d)then if b !=3 then some ([],(Tm.mk 0 0 []),6)else zL a 0>>=λx8=>yR 40 g [x8]>>=λl10=>zL a 1>>=λx12=>bW e d l10 (yB (m+1)) x12.k x12.n x12.sub else some (g,(Tm.mk b c a),0)
def zWe(e:Nat)(f:Tm)(d:Int):Option (yI×Tm×Int):=e34 e f>>=λr1=>if r1 then if decide (d<0)then some ([],(Tm.mk 0 0 []),5)else if decide (d>24)then some ([],(Tm.mk 0 0 []),2)else bW e d [] 0 f.k f.n f.sub else some ([],(Tm.mk 0 0 []),5)
theorem zWd:∀e:Nat,∀d g m b c a,Lz (bW e d g m b c a) 0 f148 (pt 65461 f148) (λj=>sp j 43 0 [(1,ai d),(2,.mp 0 0),(5,.mp 1 0),(7,zC zA g (.st 0 3)),(8,ai m)]) ⟨[(0,.cells [ai b,ai c,zC zA a .no]),(1,.cells [ai 0,ai 0,zC zA ([]:yI) .nl])],2,[0],1,[]⟩ (λr=>.tup [.sl (zH zA r.1) r.1.length .no,yL r.2.1,ai r.2.2]) (λ_=>[]) 0 [.blk 0,.seq (pt 1023 f148)]:=yS (λ_ _ _ _ _ _=>lN) λe ih=>λd g m b c a=>lw λ_=>rB 0 (rB 1 (lE 1)<|rA 1 (yP (o:=.no)) λx8=>rS (oS 1 (yZ xO [x8]))<|rW (λh11=>oP 0 (xY h11 (by simp))) λ_=>rA 1 (yP (o:=.no)) λ_=>lH 3 [] [0,1] [1] [1,2,5,7,8] (ih _ _ _ _ _ _))<|lE 2
theorem yER{e f d}:Cz (zWe e f d) 148 [] [yL f,ai d] (λr=>.tup [.sl (zH zA r.1) r.1.length .no,yL r.2.1,ai r.2.2]) (λ_=>[]) 0:=fw func148<|rK 1 [] c34 (λ_=>rB 1 (fE 1)<|rB 0 (fE 1)<|fH 1 [(none,7,3)] [0,1] [0] [1,2,5,7,8] (zWd _ _ _ _ _ _ _)) λ_=>fE 2
def zSn(d:Nat)(b:yD)(a c:Int):Option (Bool):=if decide (a>=0)then if decide (a<(b.length:Int))then zL b a>>=λx3=>some (x3.kind==c)else some false else some false
theorem yCy{d b a c}:Cz (zSn d b a c) 150 [] [zC zV b .no,ai a,ai c] (λr=>ab r) (λ_=>[]) 0:=fw func150<|rB 0 (rB 1 (rA 0 (xA (o:=.no)) λ_=>fE 2)<|fE 0)<|fE 0
def bX:Nat->yD->yH->Int->Int->Int->Int->Option (Bool)
 |0,_,_,_,_,_,_=>none|g+1,b,c,d,e,f,a=>if decide (a<(c.length:Int))then zL c a>>=λx2=>if x2 !=(yB (d+a))then some false else zSn g b x2 f>>=λr5=>if r5 then zL b x2>>=λx8=>if x8.fam !=e then some false else if x8.place !=a then some false else bX g b c d e f (yB (a+1))else some false else some true
def zSm(g:Nat)(b:yD)(c:yH)(d e f:Int):Option (Bool):=bX g b c d e f 0
theorem zWc:∀g:Nat,∀b c d e f a,Lz (bX g b c d e f a) 0 f149 (pt 949 f149) (λj=>sp j 60 0 [(0,zC zV b .no),(1,zC zW c .no),(2,ai d),(3,ai e),(4,ai f),(11,ai a)]) ⟨[],0,[],0,[]⟩ (λr=>ab r) (λ_=>[]) 0 [.blk 0,.seq (pt 15 f149)]:=yS (λ_ _ _ _ _ _=>lN) λg ih=>λb c d e f a=>lw λ_=>rB 1 (rH λ_ h3=>rS (oA 0 (vQ (o:=.no) h3))<|rB 2 (lE 0)<|rS (oA 0 (vQ (o:=.no) h3))<|rK 1 [] yCy (λ_=>rS (oA 1 (vQ (o:=.no) h3))<|rH λ_ h9=>rS (oA 1 (xA (o:=.no) h9))<|rB 1 (lE 0)<|rS (oA 0 (vQ (o:=.no) h3))<|rS (oA 1 (xA (o:=.no) h9))<|rB 1 (lE 0)<|lH 1 [] [] [] [0,1,2,3,4,11] (ih _ _ _ _ _ _)) λ_=>lE 1)<|lE 0
theorem yCx{g b c d e f}:Cz (zSm g b c d e f) 149 [] [zC zV b .no,zC zW c .no,ai d,ai e,ai f] (λr=>ab r) (λ_=>[]) 0:=fw func149<|fH 0 [] [] [] [0,1,2,3,4,11] (zWc _ _ _ _ _ _ _)
def zNY:Nat->Tm->Option yI|0,_=>none|b+1,a=>if a.k !=5 then some []else zL a.sub 0>>=λx2=>zNY b x2>>=λr4=>zL a.sub 1>>=λx6=>yR 40 r4 [x6]>>=λl8=>some l8
theorem yES:∀b:Nat,∀a,Cz (zNY b a) 151 [] [yL a] (λr=>zC zA r (.st 0 3)) (λ_=>[]) 1:=yS (λ_=>cN) λb ih=>λa=>fw func151<|rB 1 (fG 1 [(none,2,3)] [] [0] true)<|rA 1 (yP (o:=.no)) λ_=>rC 1 [] (ih _) λ_=>rS (gR 0)<|rA 0 (yP (o:=.no)) λx6=>rS (oS 1 (yZ xO [x6]))<|rW (λh9=>oP 0 (xY h9 (by simp))) λ_=>fG 0 [] [] [1] true
theorem yET{b a}:Cz (zNY b a) 151 [] [yL a] (λr=>zC zA r (.st 0 3)) (λ_=>[]) 1:=yES _ _
def J7:Nat->Int->Int->yI->Option (Tm)|0,_,_,_=>none|d+1,a,c,b=>if a==5 then zL b 0>>=λx2=>J7 d x2.k x2.n x2.sub else some (Tm.mk a c b)
def zWb(d:Nat)(e:Tm):Option (Tm):=J7 d e.k e.n e.sub
theorem zWa:∀d:Nat,∀a c b,Lz (J7 d a c b) 0 f152 (pt 229 f152) (λj=>sp j 11 0 [(1,.mp 0 0),(2,.mp 1 0)]) ⟨[(0,.cells [ai a,ai c,zC zA b .no]),(1,.cells [ai 0,ai 0,zC zA ([]:yI) .nl])],2,[],0,[]⟩ (λr=>yL r) (λ_=>[]) 0 [.blk 0,.seq (pt 15 f152)]:=yS (λ_ _ _=>lN) λd ih=>λa c b=>lw λ_=>rB 1 (rA 1 (yP (o:=.no)) λ_=>lH 2 [] [0,1] [] [1,2] (ih _ _ _))<|lE 2
theorem yEU{d e}:Cz (zWb d e) 152 [] [yL e] (λr=>yL r) (λ_=>[]) 0:=fw func152<|fH 0 [] [0,1] [] [1,2] (zWa _ _ _ _)
def P7:Nat->yI->Int->Int->yI->Option yI|0,_,_,_,_=>none|d+1,e,b,c,a=>if b==3 then zL a 0>>=λx2=>yR 40 e [x2]>>=λl4=>zL a 1>>=λx6=>P7 d l4 x6.k x6.n x6.sub else some e
def e81(d:Nat)(f:Tm):Option yI:=P7 d [] f.k f.n f.sub
theorem zZb:∀d:Nat,∀e b c a,Lz (P7 d e b c a) 0 f81 (pt 997 f81) (λj=>sp j 20 0 [(1,.mp 0 0),(3,zC zA e (.st 0 3))]) ⟨[(0,.cells [ai b,ai c,zC zA a .no])],1,[0],1,[]⟩ (λr=>.sl (zH zA r) r.length .no) (λ_=>[]) 0 [.blk 0,.seq (pt 63 f81)]:=yS (λ_ _ _ _=>lN) λd ih=>λe b c a=>lw λ_=>rB 1 (rA 1 (yP (o:=.no)) λx2=>rS (oS 1 (yZ xO [x2]))<|rW (λh5=>oP 0 (xY h5 (by simp))) λ_=>rA 1 (yP (o:=.no)) λ_=>lH 2 [] [0] [1] [1,3] (ih _ _ _ _))<|lE 0
theorem c81{d f}:Cz (e81 d f) 81 [] [yL f] (λr=>.sl (zH zA r) r.length .no) (λ_=>[]) 0:=fw func81<|fH 1 [(none,3,3)] [0] [0] [1,3] (zZb _ _ _ _ _)
def P8:Nat->Int->Int->yI->Int->Option (Bool)
 |0,_,_,_,_=>none|d+1,b,c,r1,a=>if decide (a<b)then zL r1 a>>=λx9=>if x9.k !=1 then some false else if x9.n !=(yB ((yB (c-1))-a))then some false else P8 d b c r1 (yB (a+1))else some true
def e84(d:Nat)(e:Tm)(f b g c:Int):Option (Bool):=zNY d e>>=λr1=>zWb d e>>=λr3=>if r3.k !=6 then some false else if r3.n !=f then some false else if(r1.length:Int)!=(yB (b+g))then some false else P8 d b c r1 0
theorem zZa:∀d:Nat,∀b c r1 a,Lz (P8 d b c r1 a) 0 f84 (pt 65461 f84) (λj=>sp j 58 0 [(2,ai b),(4,ai c),(11,zC zA r1 (.st 0 3)),(13,ai a)]) ⟨[],0,[0],1,[]⟩ (λr=>ab r) (λ_=>[]) 0 [.blk 0,.seq (pt 1023 f84)]:=yS (λ_ _ _ _=>lN) λd ih=>λb c r1 a=>lw λ_=>rB 0 (rH λ_ h10=>rS (oA 0 (yP (o:=(.st 0 3)) h10))<|rB 1 (lE 0)<|rS (oA 0 (yP (o:=(.st 0 3)) h10))<|rB 3 (lE 0)<|lH 1 [] [] [0] [2,4,11,13] (ih _ _ _ _))<|lE 0
theorem c84{d e f b g c}:Cz (e84 d e f b g c) 84 [] [yL e,ai f,ai b,ai g,ai c] (λr=>ab r) (λ_=>[]) 0:=fw func84<|rC 1 [] yET λ_=>rC 1 [] yEU λ_=>rB 2 (fE 0)<|rB 1 (fE 0)<|rB 2 (fE 0)<|fH 0 [] [] [0] [2,4,11,13] (zZa _ _ _ _ _)
def P9:Nat->Int->Int->yI->Option (Tm)|0,_,_,_=>none|d+1,a,c,b=>if a==3 then zL b 1>>=λx2=>P9 d x2.k x2.n x2.sub else some (Tm.mk a c b)
def e85(d:Nat)(e:Tm):Option (Tm):=P9 d e.k e.n e.sub
theorem zZA:∀d:Nat,∀a c b,Lz (P9 d a c b) 0 f85 (pt 229 f85) (λj=>sp j 11 0 [(1,.mp 0 0),(2,.mp 1 0)]) ⟨[(0,.cells [ai a,ai c,zC zA b .no]),(1,.cells [ai 0,ai 0,zC zA ([]:yI) .nl])],2,[],0,[]⟩ (λr=>yL r) (λ_=>[]) 0 [.blk 0,.seq (pt 15 f85)]:=yS (λ_ _ _=>lN) λd ih=>λa c b=>lw λ_=>rB 1 (rA 1 (yP (o:=.no)) λ_=>lH 2 [] [0,1] [] [1,2] (ih _ _ _))<|lE 2
theorem c85{d e}:Cz (e85 d e) 85 [] [yL e] (λr=>yL r) (λ_=>[]) 0:=fw func85<|fH 0 [] [0,1] [] [1,2] (zZA _ _ _ _)
def Dc(f:Nat->Option Bool)(P:Prop):Prop:=∃b,zB f b/\(b=true↔P)
section
variable{f g:Nat->Option Bool}{P Q:Prop}{α:Type}
theorem Dc.ret{b:Bool}(h:b=true↔P):Dc (λ_=>some b) P:=⟨b,zB.ret,h⟩
theorem Dc.yes(h:P):Dc (λ_=>some true) P:=⟨true,zB.ret,⟨λ_=>h,λ_=>rfl⟩⟩
theorem Dc.no(h:¬P):Dc (λ_=>some false) P:=⟨false,zB.ret,⟨λe=>(by cases e),λe=>absurd e h⟩⟩
theorem Dc.ite{c:Bool}(h:c=true->Dc f P)(k:c=false->Dc g P):Dc (λq=>if c=true then f q else g q) P:=by cases c with|true=>obtain⟨b,h1,h2⟩:=h rfl;exact⟨b,zB.ifT rfl h1,h2⟩|false=>obtain⟨b,h1,h2⟩:=k rfl;exact⟨b,zB.ifF rfl h1,h2⟩
theorem Dc.evt{x:Nat->Option α}{a:α}{c:Nat->α->Option Bool}(h:zB x a)(k:Dc (λq=>c q a) P):Dc (λq=>x q>>=c q) P:=by obtain⟨b,h1,h2⟩:=k;exact⟨b,h.bind h1,h2⟩
theorem Dc.pure{x:Option α}{a:α}{c:Nat->α->Option Bool}(h:x=some a)(k:Dc (λq=>c q a) P):Dc (λq=>x>>=c q) P:=by obtain⟨b,h1,h2⟩:=k;exact⟨b,zB.pure h h1,h2⟩
theorem Dc.bind{x:Nat->Option Bool}{c:Nat->Bool->Option Bool}(h:Dc x Q)(k:Q->Dc (λq=>c q true) P)(k':¬Q->Dc (λq=>c q false) P):Dc (λq=>x q>>=c q) P:=by obtain⟨b,h1,h2⟩:=h;cases b with|true=>exact Dc.evt h1 (k (h2.1 rfl))|false=>exact Dc.evt h1 (k' λe=>by have:=h2.2 e;cases this)
theorem Dc.succ(h:Dc (λq=>f (q+1)) P):Dc f P:=by obtain⟨b,h1,h2⟩:=h;exact⟨b,h1.succ,h2⟩
theorem Dc.iff(h:Dc f P)(k:P↔Q):Dc f Q:=by obtain⟨b,h1,h2⟩:=h;exact⟨b,h1,h2.trans k⟩
theorem Dc.of{b:Bool}(h:zB f b):Dc f (b=true):=⟨b,h,Iff.rfl⟩
end
theorem zHY{t:Tm}(hg:xF t=true):∃l y,uZ (wJ t) t=some (l,y)/\l.length=wJ t/\y.k≠3/\xF y=true/\y.nodes<=t.nodes/\y.high<=t.high/\∀x∈l,xF x=true/\x.nodes<=t.nodes/\x.high<=t.high:=by obtain⟨r,hr⟩:=zQv t hg _ (Nat.le_refl _);obtain⟨h1,h2,h3,h4⟩:=cB _ t r hg hr;refine⟨r.1,r.2,hr,h1,λh=>?_,h3.1,h3.2.1,h3.2.2,h4⟩;obtain⟨a,b,hx,-,-⟩:=rM h3.1 h;rw[hx,cA]at h2;omega
theorem zHZ:∀(n:Nat)(t:Tm)(l:List Tm)(y:Tm)(acc:List Tm),xF t=true->uZ n t=some (l,y)->y.k≠3->acc.length+n<=100000->zB (λq=>P7 q acc t.k t.n t.sub) (acc++l)
 |0,t,l,y,acc,_,h,hk,_=>by rw[uZ]at h;cases h;refine zB.succ ?_;simp only[P7];exact zB.ifF (by simpa using hk) (zB.ret.eq (by simp))|n+1,t,l,y,acc,hg,h,hk,hl=>by
  by_cases h3:t.k=3
  ·obtain⟨a,b,hx,hga,hgb⟩:=rM hg h3;rw[hx,pZ]at h;obtain⟨r',h1,h2⟩:=Option.map_eq_some_iff.1 h;cases h2;refine zB.succ ?_;simp only[P7];have hs:t.sub=[a,b]:=by rw[hx];rfl
   rw[hs];refine zB.ifT (by simp[h3]) (zB.pure (a:=a) rfl (zB.pure (yA (by simp;omega)) (zB.pure (a:=b) rfl ?_)));exact(zHZ n b r'.1 r'.2 (acc++[a]) hgb h1 hk (by simp;omega)).eq (by simp)
  ·rw[mY h3]at h;cases h
theorem zJZ:∀(n:Nat)(t:Tm),t.nodes<=n->wJ t<=n
 |0,t,h=>by have:=xM t;omega|n+1,t,h=>by
  unfold wJ;split
  ·rename_i k m a b;rw[Tm.nodes,yN,yN,yN]at h;have:=xM a;split;·have:=zJZ n b (by omega);omega
   ·omega
  ·omega
theorem zLF{t:Tm}(hg:xF t=true)(hn:t.nodes<=8192){l:List Tm}{y:Tm}(h:uZ (wJ t) t=some (l,y))(hk:y.k≠3):zB (λq=>e81 q t) l:=by simp only[e81];have:=zJZ t.nodes t (Nat.le_refl _);exact(zHZ (wJ t) t l y [] hg h hk (by simp;omega)).eq (by simp)
theorem zLG:∀(n:Nat)(t:Tm)(l:List Tm)(y:Tm),xF t=true->uZ n t=some (l,y)->y.k≠3->zB (λq=>P9 q t.k t.n t.sub) y
 |0,t,l,y,_,h,hk=>by rw[uZ]at h;cases h;refine zB.succ ?_;simp only[P9];exact zB.ifF (by simpa using hk) (zB.ret.eq (vR _))|n+1,t,l,y,hg,h,hk=>by
  by_cases h3:t.k=3
  ·obtain⟨a,b,hx,hga,hgb⟩:=rM hg h3;rw[hx,pZ]at h;obtain⟨r',h1,h2⟩:=Option.map_eq_some_iff.1 h;cases h2;refine zB.succ ?_;simp only[P9];have hs:t.sub=[a,b]:=by rw[hx];rfl
   rw[hs];exact zB.ifT (by simp[h3]) (zB.pure (a:=b) rfl (zLG n b r'.1 r'.2 hgb h1 hk))
  ·rw[mY h3]at h;cases h
theorem zBu{t:Tm}(hg:xF t=true)(h:t.k=5):∃a b,t=.mk 5 t.n [a,b]/\xF a=true/\xF b=true:=by obtain⟨k,n,l⟩:=t;have hh:=wO hg;replace h:k=5:=h;subst h;obtain⟨a,b,rfl⟩:=zPJ ((tK hh.1).2.2.2.2.2.1 (.inr (.inr rfl))).1;have hc:=wD hh.2;exact⟨a,b,rfl,hc.1,(wD hc.2).1⟩
theorem zXr:∀(n:Nat)(t:Tm),xF t=true->t.nodes<=n->(xH t).length<=n
 |0,t,_,h=>by have:=xM t;omega|n+1,t,hg,h=>by
  by_cases h5:t.k=5
  ·obtain⟨a,b,hx,hga,-⟩:=zBu hg h5;rw[hx]at h⊢;rw[Tm.nodes,yN,yN,yN]at h;rw[dX,List.length_append];have:=zXr n a hga (by omega);have:=xM b;simp;omega
  ·rw[iL h5];simp
theorem zIz:∀(n:Nat)(t:Tm),xF t=true->t.nodes<=n->n<=8192->zB (λq=>zNY q t) (xH t)
 |0,t,_,h,_=>by have:=xM t;omega|n+1,t,hg,h,hn=>by
  refine zB.succ ?_;simp only[zNY];by_cases h5:t.k=5
  ·obtain⟨a,b,hx,hga,-⟩:=zBu hg h5;have hs:t.sub=[a,b]:=by rw[hx];rfl
   have hnn:=mN t;rw[hs,yN,yN,yN]at hnn;have:=xM b;rw[hs];have hle:=zXr n a hga (by omega);refine zB.ifF (by simp[h5]) (zB.pure (a:=a) rfl ((zIz n a hga (by omega) (by omega)).bind (zB.pure (a:=b) rfl (zB.pure (yA (by simp;omega)) (zB.ret.eq ?_)))));rw[hx,dX]
  ·exact zB.ifT (by simpa using h5) (zB.ret.eq (iL h5).symm)
theorem zDq:∀(n:Nat)(t:Tm),xF t=true->t.nodes<=n->zB (λq=>J7 q t.k t.n t.sub) (yQ t)
 |0,t,_,h=>by have:=xM t;omega|n+1,t,hg,h=>by
  refine zB.succ ?_;simp only[J7];by_cases h5:t.k=5
  ·obtain⟨a,b,hx,hga,-⟩:=zBu hg h5;have hs:t.sub=[a,b]:=by rw[hx];rfl
   have hnn:=mN t;rw[hs,yN,yN,yN]at hnn;rw[hs];refine zB.ifT (by simp[h5]) (zB.pure (a:=a) rfl ((zDq n a hga (by omega)).eq ?_));rw[hx,X2]
  ·exact zB.ifF (by simpa using h5) (zB.ret.eq (by rw[F3 h5,vR]))
theorem U4(P:Nat)(binders:Int)(args:List Tm)(hP:P<=args.length)(hP2:P<=24)(hb:-1048576<=binders/\binders<=1048576):∀(m v:Nat),v+m=P->Dc (λq=>P8 q (P:Int) binders args (v:Int)) (F6 ((args.take P).drop v) (binders-1-v)=true)
 |0,v,hm=>by refine Dc.succ ?_;simp only[P8];refine Dc.ite (λh=>absurd (of_decide_eq_true h) (by omega)) λ_=>Dc.yes ?_;rw[List.drop_eq_nil_of_le (by rw[List.length_take];omega)];rfl|m+1,v,hm=>by
  have hlt:v<args.length:=by omega
  have hd:(args.take P).drop v=args[v]::(args.take P).drop (v+1):=by
   have h2:v<(args.take P).length:=by rw[List.length_take];omega
   rw[List.drop_eq_getElem_cons h2];simp
  refine Dc.succ ?_;simp only[P8];have hg:zL args (v:Int)=some args[v]:=by unfold zL;rw[if_pos (by omega),Int.toNat_natCast];exact List.getElem?_eq_getElem hlt
  rw[hd];refine Dc.ite (λ_=>Dc.pure hg (Dc.ite (λh=>Dc.no ?_) λh=>?_)) λh=>absurd (of_decide_eq_false h) (by omega);·rw[F6];simp only[bne_iff_ne,ne_eq]at h;simp[h]
  ·have hk:args[v].k=1:=by simpa using h
   rw[zR (x:=binders-1) (by omega) (by omega),zR (x:=binders-1-v) (by omega) (by omega)];refine Dc.ite (λh=>Dc.no ?_) λh=>?_;·rw[F6];simp only[bne_iff_ne,ne_eq]at h;simp[h]
   ·have hn:args[v].n=binders-1-v:=by simpa using h
    rw[zS v (by omega)];refine(U4 P binders args hP hP2 hb m (v+1) (by omega)).iff ?_;rw[F6,hk,hn];simp only[beq_self_eq_true,Bool.true_and];rw[show binders-1-((v+1:Nat):Int)=binders-1-v-1 by omega]
theorem zBt(t:Tm)(of pars more binders:Int)(hg:xF t=true)(hn:t.nodes<=8192)(h0:0<=pars/\pars<=24)(h1:0<=more/\more<=24)(hb:-1048576<=binders/\binders<=1048576):Dc (λq=>e84 q t of pars more binders) (uP t of pars more binders=true):=by
 have hH:zB (λq=>zWb q t) (yQ t):=by simp only[zWb];exact zDq t.nodes t hg (Nat.le_refl _)
 simp only[e84];unfold uP;refine Dc.evt (zIz t.nodes t hg (Nat.le_refl _) hn) (Dc.evt hH (Dc.ite (λh=>Dc.no ?_) λh=>Dc.ite (λk=>Dc.no ?_) λk=>?_));·simp only[bne_iff_ne,ne_eq]at h;simp[h]
 ·simp only[bne_iff_ne,ne_eq]at k;simp[k]
 ·rw[zR (by omega) (by omega)];refine Dc.ite (λj=>Dc.no ?_) λj=>?_;·simp only[bne_iff_ne,ne_eq]at j;simp[j]
  ·have h':(yQ t).k=6:=by simpa using h
   have k':(yQ t).n=of:=by simpa using k
   have j':((xH t).length:Int)=pars+more:=by simpa using j
   have:=U4 pars.toNat binders (xH t) (by omega) (by omega) hb pars.toNat 0 (by omega);rw[show((pars.toNat:Nat):Int)=pars by omega]at this;refine this.iff ?_;simp[h',k',j']
def zBG(l:List yF)(i:Int):Prop:=jN (zN l i)=true/\H2 (zN l i)=true/\aF l i (zN l i)=true/\((zN l i).fields.length=0\/((zN l i).inds=0/\(zN l i).cons.length=1/\jM (zN l i).fields (i+2)=true/\nE l i 4 (zN l i).fields 0=true/\zJ (zN l (i+1)).type=true/\(wJ (zN l (i+1)).type:Int)=(zN l i).pars+(zN l i).fields.length))
def W7(N:ByteArray->Bool)(l:List yF)(i:Int):Prop:=N (zN l i).name=true/\vS (zN l i).type i=true/\(((zN l i).kind=1/\zBG l i)\/((zN l i).kind=2/\aG l i=true)\/((zN l i).kind=4/\lC l i=true)\/((zN l i).kind=3/\V9 l i=true))
theorem zSl(l:List yF)(n kind:Int):zB (λq=>zSn q l n kind) (gX l n kind):=by
 simp only[zSn];unfold gX;by_cases h0:0<=n
 ·refine zB.ifT (decide_eq_true h0) ?_;by_cases h1:n<l.length;·exact zB.ifT (decide_eq_true h1) (zB.pure (yE h0 h1) (zB.ret.eq (by simp[h0,h1])))
  ·exact zB.ifF (decide_eq_false h1) (zB.ret.eq (by simp[h1]))
 ·exact zB.ifF (decide_eq_false h0) (zB.ret.eq (by simp[h0]))
theorem zIy(t:Tm):zB (λq=>zSo q t) (kB t):=by
 simp only[zSo];unfold kB;by_cases h0:t.k=0
 ·refine zB.ifT (by simp[h0]) ?_;by_cases h1:t.n=0;·exact zB.ifT (by simp[h1]) (zB.ret.eq (by simp[h0,h1]))
  ·exact zB.ifF (by simp[h1]) (zB.ret.eq (by simp[h1]))
 ·exact zB.ifF (by simp[h0]) (zB.ret.eq (by simp[h0]))
theorem zKz(l:List yF)(p:List Int)(f of kind:Int)(hf:0<=f/\f<=1048576)(hl:l.length<=65535)(hp:p.length<=1152921504606846976):∀(r:List Int)(v:Nat),p.drop v=r->Dc (λq=>bX q l p f of kind (v:Int)) (jM r (f+v)=true/\nE l of kind r v=true)
 |[],v,hd=>by refine Dc.succ ?_;simp only[bX];refine Dc.ite (λh=>?_) λ_=>Dc.yes ⟨rfl,rfl⟩;rw[zZ hd]at h;cases h|n::r,v,hd=>by
  have hlt:=yC hd;refine Dc.succ ?_;simp only[bX];rw[zR (x:=f+v) (by omega) (by omega)];refine Dc.ite (λ_=>Dc.pure (zU hd) (Dc.ite (λh=>Dc.no λ⟨a,_⟩=>?_) λh=>?_)) λh=>?_;·rw[jM]at a;simp only[Bool.and_eq_true,beq_iff_eq]at a;simp[a.1]at h
  ·have hn:n=f+v:=by simpa using h
   refine Dc.bind (Dc.of (zSl l n kind)) (λhi=>?_) λhi=>Dc.ite (λh=>(by cases h)) λ_=>Dc.no λ⟨_,a⟩=>?_
   ·have hs:=wG hi;refine Dc.ite (λ_=>Dc.pure (yE hs.1 hs.2.1) (Dc.ite (λh=>Dc.no λ⟨_,a⟩=>?_) λh=>Dc.ite (λh=>Dc.no λ⟨_,a⟩=>?_) λh2=>?_)) λh=>(by cases h);·rw[nE]at a;simp only[Bool.and_eq_true,beq_iff_eq]at a;simp[a.1.1.2]at h
    ·rw[nE]at a;simp only[Bool.and_eq_true,beq_iff_eq]at a;simp[a.1.2]at h
    ·rw[zS v (by omega)];refine(zKz l p f of kind hf hl hp r (v+1) (zP hd)).iff ?_;have h3:(zN l n).fam=of:=by simpa using h
     have h4:(zN l n).place=v:=by simpa using h2
     rw[jM,nE,hi,h3,h4];simp only[beq_self_eq_true,Bool.true_and,Bool.and_eq_true,beq_iff_eq];rw[show f+((v+1:Nat):Int)=f+v+1 by omega,show((v+1:Nat):Int)=(v:Int)+1 by omega];exact⟨λ⟨a,b⟩=>⟨⟨hn,a⟩,b⟩,λ⟨⟨_,a⟩,b⟩=>⟨a,b⟩⟩
   ·rw[nE]at a;simp only[Bool.and_eq_true]at a;exact hi a.1.1.1
  ·rw[zX hd]at h;cases h
theorem zKy(N:Nat)(hN:N<=24):∀(m v:Nat)(acc:List Tm)(x:Tm),v+m=N->xF x=true->acc.length<=v->zB (λq=>bW q (N:Int) acc (v:Int) x.k x.n x.sub) (aE acc (uZ m x)):=by intro m;induction m with|zero=>intro v acc x hm hg ha;refine zB.succ ?_;simp only[bW];refine zB.ifF (decide_eq_false (by omega)) (zB.ret.eq ?_);rw[uZ,aE,vR];simp|succ m ih=>
 intro v acc x hm hg ha;refine zB.succ ?_;simp only[bW];refine zB.ifT (decide_eq_true (by omega)) ?_;by_cases h:x.k=3
 ·obtain⟨a,b,hx,hga,hgb⟩:=rM hg h;refine zB.ifF (by simp[h]) ?_;have hs:x.sub=[a,b]:=by rw[hx];rfl
  rw[hs];refine zB.pure (a:=a) rfl (zB.pure (yA (by simp<;>omega)) (zB.pure (a:=b) rfl ?_));rw[zS v (by omega)];refine(ih (v+1) (acc++[a]) b (by omega) hgb (by simp<;>omega)).eq ?_;rw[hx,pZ];cases uZ m b<;>simp[aE]
 ·rw[mY h,aE];exact zB.ifT (by simp[h]) zB.ret
theorem zNZ(t:Tm)(n:Int)(ho:t.Ok):zB (λq=>zWe q t n) (xJ t n):=by
 simp only[zWe];unfold xJ;refine(gK t ho).bind ?_;by_cases hs:zJ t=true
 ·refine zB.ifT hs ?_;rw[if_pos hs];by_cases h0:n<0;·rw[if_pos h0];exact zB.ifT (decide_eq_true h0) zB.ret
  ·rw[if_neg h0];refine zB.ifF (decide_eq_false h0) ?_;by_cases h1:n>24;·rw[if_pos h1];exact zB.ifT (decide_eq_true h1) zB.ret
   ·rw[if_neg h1];refine zB.ifF (decide_eq_false h1) ?_;have:=zKy n.toNat (by omega) n.toNat 0 [] t (by omega) (zO hs).2.2 (by simp);rwa[show((n.toNat:Nat):Int)=n by omega]at this
 ·rw[if_neg hs];exact zB.ifF (by simpa using hs) zB.ret
def e82(b:Nat)(c:yD)(a:Int):Option (Bool):=zL c a>>=λx1=>if decide (x1.pars<0)then some false else if decide (x1.inds<0)then some false else if decide (x1.pars>24)then some false else if decide (x1.inds>24)then some false else if decide ((yB (x1.pars+x1.inds))>24)then some false else if x1.fam !=0 then some false else if x1.place !=0 then some false else zSo b x1.body>>=λr10=>if r10 then zWe b x1.type (yB (x1.pars+x1.inds))>>=λr13=>if r13.2.2 !=0 then some false else if r13.2.1.k !=2 then some false else if r13.2.1.n !=x1.level then some false else if decide ((x1.cons.length:Int)>16)then some false else zSm b c x1.cons (yB (a+1)) a 2>>=λr19=>if r19 then if(x1.fields.length:Int)==0 then some true else if x1.inds==0 then if(x1.cons.length:Int)==1 then zSm b c x1.fields (yB (a+2)) a 4>>=λr25=>if r25 then zL c (yB (a+1))>>=λx28=>e34 b x28.type>>=λr30=>if r30 then e81 b x28.type>>=λr33=>some ((r33.length:Int)==(yB (x1.pars+(x1.fields.length:Int))))else some false else some false else some false else some false else some false else some false
theorem c82{b c a}:Cz (e82 b c a) 82 [] [zC zV c .no,ai a] (λr=>ab r) (λ_=>[]) 0:=fw func82<|rA 0 (xA (o:=.no)) λ_=>rB 3 (fE 0)<|rB 1 (fE 0)<|rB 1 (fE 0)<|rB 1 (fE 0)<|rB 3 (fE 0)<|rB 1 (fE 0)<|rB 1 (fE 0)<|rK 1 [] yCz (λ_=>rC 5 [] yER λ_=>rB 4 (fE 0)<|rB 1 (fE 0)<|rB 2 (fE 0)<|rB 2 (fE 0)<|rK 2 [] yCx (λ_=>rB 3 (fE 0)<|rB 1 (rB 2 (rK 2 [] yCx (λ_=>rH λ_ h29=>rS (oA 1 (xA (o:=.no) h29))<|rK 1 [] c34 (λ_=>rS (oA 1 (xA (o:=.no) h29))<|rC 1 [] c81 λ_=>rS (gR 1)<|rS (gR 0)<|fE 3) λ_=>fE 0) λ_=>fE 0)<|fE 0)<|fE 0) λ_=>fE 1) λ_=>fE 1
def gM:Nat->Int->yF->yH->Int->Option (Bool)|0,_,_,_,_=>none|b+1,a,x1,d,c=>if decide (c<(d.length:Int))then zL d c>>=λx19=>if x19==a then if x1.place==c then some true else gM b a x1 d (yB (c+1))else gM b a x1 d (yB (c+1))else some false
def e83(b:Nat)(e:yD)(a:Int):Option (Bool):=zL e a>>=λx1=>zSn b e x1.fam 1>>=λr3=>if r3 then if decide (x1.fam>=a)then some false else zSo b x1.body>>=λr7=>if r7 then if x1.inds !=0 then some false else if x1.level !=0 then some false else if(x1.cons.length:Int)!=0 then some false else if(x1.fields.length:Int)!=0 then some false else zL e x1.fam>>=λx14=>if x1.pars !=x14.pars then some false else if x1.kind==4 then gM b a x1 x14.fields 0 else gM b a x1 x14.cons 0 else some false else some false
theorem zSk:∀b:Nat,∀a x1 d c,Lz (gM b a x1 d c) 0 f83 (pt 262069 f83) (λj=>sp j 95 0 [(1,ai a),(5,.mp 0 0),(6,zC zW d .no),(7,ai c)]) ⟨[(0,.cells [ai x1.kind,at' x1.name,ai x1.type.k,ai x1.type.n,zC zA x1.type.sub .no,ai x1.body.k,ai x1.body.n,zC zA x1.body.sub .no,ai x1.fam,ai x1.place,ai x1.pars,ai x1.inds,ai x1.level,zC zW x1.cons .no,zC zW x1.fields .no])],1,[],0,[]⟩ (λr=>ab r) (λ_=>[]) 0 [.blk 0,.seq (pt 4095 f83)]:=yS (λ_ _ _ _=>lN) λb ih=>λa x1 d c=>lw λ_=>rB 1 (rA 0 (vQ (o:=.no)) λ_=>rB 1 (rB 1 (lE 0)<|lH 1 [] [0] [] [1,5,6,7] (ih _ _ _ _))<|lH 1 [] [0] [] [1,5,6,7] (ih _ _ _ _))<|lE 0
theorem c83{b e a}:Cz (e83 b e a) 83 [] [zC zV e .no,ai a] (λr=>ab r) (λ_=>[]) 0:=fw func83<|rA 0 (xA (o:=.no)) λ_=>rK 3 [] yCy (λ_=>rB 2 (fE 0)<|rK 1 [] yCz (λ_=>rB 2 (fE 0)<|rB 1 (fE 0)<|rB 2 (fE 0)<|rB 2 (fE 0)<|rH λ_ h15=>rS (oA 2 (xA (o:=.no) h15))<|rB 1 (fE 0)<|rS (oA 1 (xA (o:=.no) h15))<|rB 2 (rS (oA 1 (xA (o:=.no) h15))<|fH 1 [] [0] [] [1,5,6,7] (zSk _ _ _ _ _))<|fH 0 [] [0] [] [1,5,6,7] (zSk _ _ _ _ _)) λ_=>fE 1) λ_=>fE 1
theorem zOz{l:List yF}{i:Int}(h:zBG l i):0<=(zN l i).pars/\0<=(zN l i).inds/\(zN l i).pars+(zN l i).inds<=24:=by have h1:=h.1;unfold jN at h1;simp only[Bool.and_eq_true,decide_eq_true_eq]at h1;exact⟨by omega,by omega,by omega⟩
theorem zKx(l:List yF)(i:Int)(h0:0<=i)(h1:i<l.length)(hl:l.length<=65535)(he:∀e∈l,qK e):Dc (λq=>e82 q l i) (zBG l i):=by
 have hx:=he _ (uD h0 h1);simp only[e82];refine Dc.pure (yE h0 h1) ?_;have no:(jN (zN l i)=false\/H2 (zN l i)=false\/aF l i (zN l i)=false)->¬zBG l i:=λh k=>by
  rcases h with h|h|h;·rw[k.1]at h;cases h
  ·rw[k.2.1]at h;cases h
  ·rw[k.2.2.1]at h;cases h
 refine Dc.ite (λa=>Dc.no (no (.inl ?_))) λa1=>Dc.ite (λa=>Dc.no (no (.inl ?_))) λa2=>Dc.ite (λa=>Dc.no (no (.inl ?_))) λa3=>Dc.ite (λa=>Dc.no (no (.inl ?_))) λa4=>?_;·have:=of_decide_eq_true a;unfold jN;rw[decide_eq_false (by omega)];simp
 ·have:=of_decide_eq_true a;unfold jN;rw[decide_eq_false (p:=0<=(zN l i).inds) (by omega)];simp
 ·have:=of_decide_eq_true a;unfold jN;rw[decide_eq_false (p:=(zN l i).pars<=24) (by omega)];simp
 ·have:=of_decide_eq_true a;have:=of_decide_eq_false a1;unfold jN;rw[decide_eq_false (p:=(zN l i).inds<=24-(zN l i).pars) (by omega)];simp
 have a1:=of_decide_eq_false a1;have a2:=of_decide_eq_false a2;have a3:=of_decide_eq_false a3;have a4:=of_decide_eq_false a4;rw[zR (x:=(zN l i).pars+(zN l i).inds) (by omega) (by omega)];refine Dc.ite (λa=>Dc.no (no (.inl ?_))) λa5=>Dc.ite (λa=>Dc.no (no (.inl ?_))) λa6=>Dc.ite (λa=>Dc.no (no (.inl ?_))) λa7=>?_;·have:=of_decide_eq_true a;unfold jN;rw[decide_eq_false (p:=(zN l i).inds<=24-(zN l i).pars) (by omega)];simp
 ·have:(zN l i).fam≠0:=by simpa using a
  unfold jN;rw[beq_eq_false_iff_ne.2 this];simp
 ·have:(zN l i).place≠0:=by simpa using a
  unfold jN;rw[beq_eq_false_iff_ne.2 this];simp
 have a5:=of_decide_eq_false a5;refine Dc.bind (Dc.of (zIy _)) (λa8=>?_) λa8=>Dc.ite (λh=>(by cases h)) λ_=>Dc.no (no (.inl ?_));case refine_2=>unfold jN;rw[show kB (zN l i).body=false by simpa using a8];simp
 have hA:jN (zN l i)=true:=by
  unfold jN;have b6:(zN l i).fam=0:=by simpa using a6
  have b7:(zN l i).place=0:=by simpa using a7
  simp only[Bool.and_eq_true,decide_eq_true_eq,beq_iff_eq];exact⟨⟨⟨⟨⟨⟨by omega,by omega⟩,by omega⟩,by omega⟩,b6⟩,b7⟩,a8⟩
 refine Dc.ite (λ_=>?_) λh=>(by cases h);refine Dc.evt (zNZ _ _ hx.1) (Dc.ite (λa=>Dc.no (no (.inr (.inl ?_)))) λb1=>Dc.ite (λa=>Dc.no (no (.inr (.inl ?_)))) λb2=>Dc.ite (λa=>Dc.no (no (.inr (.inl ?_)))) λb3=>Dc.ite (λa=>Dc.no (no (.inr (.inr ?_)))) λb4=>?_);·unfold H2;rw[show((xJ (zN l i).type ((zN l i).pars+(zN l i).inds)).2.2==0)=false by rw[beq_eq_false_iff_ne];simpa using a];simp
 ·unfold H2;rw[show((xJ (zN l i).type ((zN l i).pars+(zN l i).inds)).2.1.k==2)=false by rw[beq_eq_false_iff_ne];simpa using a];simp
 ·unfold H2;rw[show((xJ (zN l i).type ((zN l i).pars+(zN l i).inds)).2.1.n==(zN l i).level)=false by rw[beq_eq_false_iff_ne];simpa using a];simp
 ·have:=of_decide_eq_true a;unfold aF;rw[decide_eq_false (by omega)];simp
 have hB:H2 (zN l i)=true:=by unfold H2;simp only[Bool.and_eq_true,beq_iff_eq];exact⟨⟨by simpa using b1,by simpa using b2⟩,by simpa using b3⟩
 have b4:=of_decide_eq_false b4;rw[zR (x:=i+1) (by omega) (by omega)];have hrow:=zKz l (zN l i).cons (i+1) i 2 (by omega) hl hx.2.2.1 (zN l i).cons 0 rfl;refine Dc.bind (Q:=jM (zN l i).cons (i+1)=true/\nE l i 2 (zN l i).cons 0=true) (by simp only[zSm];exact hrow.iff (by simp)) (λb5=>?_) λb5=>Dc.ite (λh=>(by cases h)) λ_=>Dc.no (no (.inr (.inr ?_)));case refine_2=>unfold aF;cases r1:jM (zN l i).cons (i+1)with|false=>simp|true=>rw[show nE l i 2 (zN l i).cons 0=false by cases r2:nE l i 2 (zN l i).cons 0 with|false=>rfl|true=>exact absurd ⟨r1,r2⟩ b5];simp
 have hC:aF l i (zN l i)=true:=by unfold aF;simp only[Bool.and_eq_true,decide_eq_true_eq];exact⟨⟨by omega,b5.1⟩,b5.2⟩
 refine Dc.ite (λ_=>?_) λh=>(by cases h);refine Dc.ite (λc1=>Dc.yes ⟨hA,hB,hC,.inl ?_⟩) λc1=>?_
 ·have:((zN l i).fields.length:Int)=0:=by simpa using c1
  omega
 have c1':¬(zN l i).fields.length=0:=λh=>by rw[h]at c1;simp at c1
 have no2:∀{P:Prop},(P->False)->(zBG l i->P)->¬zBG l i:=λh k m=>h (k m);have rest:zBG l i->(zN l i).inds=0/\(zN l i).cons.length=1/\jM (zN l i).fields (i+2)=true/\nE l i 4 (zN l i).fields 0=true/\zJ (zN l (i+1)).type=true/\(wJ (zN l (i+1)).type:Int)=(zN l i).pars+(zN l i).fields.length:=λh=>h.2.2.2.resolve_left c1';refine Dc.ite (λc2=>?_) λc2=>Dc.no λh=>?_;case refine_2=>have:=(rest h).1;rw[this]at c2;simp at c2
 have c2':(zN l i).inds=0:=by simpa using c2
 refine Dc.ite (λc3=>?_) λc3=>Dc.no λh=>?_;case refine_2=>have:=(rest h).2.1;rw[this]at c3;simp at c3
 have c3':(zN l i).cons.length=1:=by have:((zN l i).cons.length:Int)=1:=(by simpa using c3);omega
 rw[zR (x:=i+2) (by omega) (by omega)];have hrow2:=zKz l (zN l i).fields (i+2) i 4 (by omega) hl hx.2.2.2 (zN l i).fields 0 rfl;refine Dc.bind (Q:=jM (zN l i).fields (i+2)=true/\nE l i 4 (zN l i).fields 0=true) (by simp only[zSm];exact hrow2.iff (by simp)) (λc4=>?_) λc4=>Dc.ite (λh=>(by cases h)) λ_=>Dc.no λh=>c4 ⟨(rest h).2.2.1,(rest h).2.2.2.1⟩;refine Dc.ite (λ_=>?_) λh=>(by cases h);have hnext:i+1<l.length:=by
  have h5:=b5;obtain⟨n,hn⟩:∃n,(zN l i).cons=[n]:=by
   rcases hc:(zN l i).cons with _|⟨n,_|⟨m,r⟩⟩;·rw[hc]at c3';simp at c3'
   ·exact⟨n,rfl⟩
   ·rw[hc]at c3';simp at c3'
  rw[hn,jM,nE]at h5;simp only[Bool.and_eq_true,beq_iff_eq]at h5;have:=wG h5.2.1.1.1;omega
 have hx1:=he _ (uD (l:=l) (n:=i+1) (by omega) hnext);refine Dc.pure (yE (by omega) hnext) (Dc.bind (Dc.of (gK _ hx1.1)) (λc5=>?_) λc5=>Dc.ite (λh=>(by cases h)) λ_=>Dc.no λh=>c5 (rest h).2.2.2.2.1);refine Dc.ite (λ_=>?_) λh=>(by cases h);have hsp:=zO c5;obtain⟨L,y,hs,hL,hk,-⟩:=zHY hsp.2.2;refine Dc.evt (zLF hsp.2.2 hsp.1 hs hk) (Dc.ret ?_);have hw:yB ((zN l i).pars+((zN l i).fields.length:Int))=(zN l i).pars+(zN l i).fields.length:=zR (by have:=hx.2.2.2;omega) (by have:=hx.2.2.2;omega);rw[hw,beq_iff_eq,hL];exact⟨λh=>⟨hA,hB,hC,.inr ⟨c2',c3',c4.1,c4.2,c5,h⟩⟩,λh=>(rest h).2.2.2.2.2⟩
theorem zDp(i p:Int)(L:List Int)(x:yF)(hp:x.place=p)(hl:L.length<=1152921504606846976):∀(r:List Int)(v:Nat),L.drop v=r->Dc (λq=>gM q i x L (v:Int)) (∃k:Nat,v<=k/\∃h:k<L.length,L[k]=i/\p=k)
 |[],v,hd=>by
  refine Dc.succ ?_;simp only[gM];refine Dc.ite (λh=>?_) λ_=>Dc.no λ⟨k,h1,h2,_⟩=>?_;·rw[zZ hd]at h;cases h
  ·have:=List.drop_eq_nil_iff.1 hd;omega|n::r,v,hd=>by
  have hlt:=yC hd;have hx:L[v]=n:=by have:=zU hd;unfold zL at this;rw[if_pos (by omega),Int.toNat_natCast,List.getElem?_eq_getElem hlt]at this;exact Option.some.inj this
  have next:=zDp i p L x hp hl r (v+1) (zP hd);have go:¬(n=i/\p=v)->((∃k:Nat,v+1<=k/\∃h:k<L.length,L[k]=i/\p=k)↔∃k:Nat,v<=k/\∃h:k<L.length,L[k]=i/\p=k):=λhn=>⟨λ⟨k,a,b,c⟩=>⟨k,by omega,b,c⟩,λ⟨k,a,b,c,d⟩=>by
   by_cases e:k=v;·subst e;exact absurd ⟨by rw[<-hx];exact c,d⟩ hn
   ·exact⟨k,by omega,b,c,d⟩⟩;refine Dc.succ ?_;simp only[gM];rw[zS v (by omega)];refine Dc.ite (λ_=>Dc.pure (zU hd) (Dc.ite (λh=>Dc.ite (λk=>Dc.yes ?_) λk=>next.iff (go λe=>?_)) λh=>next.iff (go λe=>?_))) λh=>?_
  ·have h':n=i:=by simpa using h
   have k':x.place=v:=by simpa using k
   exact⟨v,Nat.le_refl _,hlt,by rw[hx,h'],by omega⟩
  ·have:x.place=v:=by omega
   rw[this]at k;simp at k
  ·rw[e.1]at h;simp at h
  ·rw[zX hd]at h;cases h
theorem zOy(l:List yF)(i:Int)(h0:0<=i)(h1:i<l.length)(he:∀e∈l,qK e)(hk:(zN l i).kind=2\/(zN l i).kind=4):Dc (λq=>e83 q l i) (sB l i=true):=by
 have hx:=he _ (uD h0 h1);simp only[e83];refine Dc.pure (yE h0 h1) ?_;have need:sB l i=true->gX l (zN l i).fam 1=true/\(zN l i).fam<i/\(zN l i).pars=(zN l (zN l i).fam).pars/\kB (zN l i).body=true/\(zN l i).inds=0/\(zN l i).level=0/\(zN l i).cons.length=0/\(zN l i).fields.length=0:=λh=>by unfold sB zJy at h;simp only[Bool.and_eq_true,decide_eq_true_eq,beq_iff_eq]at h;exact⟨h.1.1.1.1.1.1.1.1,h.1.1.1.1.1.1.1.2,h.1.1.1.1.1.1.2,h.1.1.1.1.1.2,h.1.1.1.1.2,h.1.1.1.2,h.1.1.2,h.1.2⟩
 refine Dc.bind (Dc.of (zSl l _ 1)) (λa1=>?_) λa1=>Dc.ite (λh=>(by cases h)) λ_=>Dc.no λh=>a1 (need h).1;have hi:=wG a1;refine Dc.ite (λ_=>?_) λh=>(by cases h);refine Dc.ite (λa=>Dc.no λh=>?_) λa2=>?_;·have:=of_decide_eq_true a;have:=(need h).2.1;omega
 refine Dc.bind (Dc.of (zIy _)) (λa3=>?_) λa3=>Dc.ite (λh=>(by cases h)) λ_=>Dc.no λh=>a3 (need h).2.2.2.1;refine Dc.ite (λ_=>?_) λh=>(by cases h);refine Dc.ite (λa=>Dc.no λh=>?_) λa4=>Dc.ite (λa=>Dc.no λh=>?_) λa5=>Dc.ite (λa=>Dc.no λh=>?_) λa6=>Dc.ite (λa=>Dc.no λh=>?_) λa7=>Dc.pure (yE hi.1 hi.2.1) (Dc.ite (λa=>Dc.no λh=>?_) λa8=>?_);·rw[(need h).2.2.2.2.1]at a;simp at a
 ·rw[(need h).2.2.2.2.2.1]at a;simp at a
 ·rw[(need h).2.2.2.2.2.2.1]at a;simp at a
 ·rw[(need h).2.2.2.2.2.2.2]at a;simp at a
 ·rw[(need h).2.2.1]at a;simp at a
 have hA:zJy l i (zN l i)=true:=by
  unfold zJy;have b6:((zN l i).cons.length:Int)=0:=by simpa using a6
  have b7:((zN l i).fields.length:Int)=0:=by simpa using a7
  simp only[Bool.and_eq_true,decide_eq_true_eq,beq_iff_eq];exact⟨⟨⟨⟨⟨⟨⟨a1,by have:=of_decide_eq_false a2;omega⟩,by simpa using a8⟩,a3⟩,by simpa using a4⟩,by simpa using a5⟩,by omega⟩,by omega⟩
 have hf:=he _ (uD hi.1 hi.2.1);have hB:∀L:List Int,L=H3 l (zN l i)->L.length<=1152921504606846976->Dc (λq=>gM q i (zN l i) L 0) (sB l i=true):=λL hL hl=>by
  refine(zDp i (zN l i).place L (zN l i) rfl hl L 0 rfl).iff ?_;unfold sB zNx;rw[hA,<-hL];simp only[Bool.true_and,Bool.and_eq_true,decide_eq_true_eq,beq_iff_eq];constructor
  ·rintro⟨k,-,hk,h1,h2⟩;rw[h2];refine⟨⟨by omega,by omega⟩,?_⟩;rw[Int.toNat_natCast,List.getElem?_eq_getElem hk];exact h1
  ·rintro⟨⟨g0,g1⟩,g2⟩;have hk:(zN l i).place.toNat<L.length:=by omega
   refine⟨(zN l i).place.toNat,Nat.zero_le _,hk,?_,by omega⟩;rw[List.getElem?_eq_getElem hk]at g2;exact g2
 refine Dc.ite (λk=>?_) λk=>?_
 ·have k':(zN l i).kind=4:=by simpa using k
  exact hB _ (by unfold H3;rw[if_pos k']) hf.2.2.2
 ·have k':(zN l i).kind≠4:=by simpa using k
  exact hB _ (by unfold H3;rw[if_neg k']) hf.2.2.1
def Q0:Nat->yD->(List ByteArray)->Int->Option (List ByteArray)|0,_,_,_=>none|b+1,a,d,c=>if decide (c<(a.length:Int))then zL a c>>=λx2=>yR 16 d [x2.name]>>=λl4=>Q0 b a l4 (yB (c+1))else some d
def e44(b:Nat)(a:yD):Option (List ByteArray):=Q0 b a [] 0
theorem zZB:∀b:Nat,∀a d c,Lz (Q0 b a d c) 0 f44 (pt 4021 f44) (λj=>sp j 21 0 [(0,zC zV a .no),(3,zC xC d (.st 0 1)),(4,ai c)]) ⟨[],0,[0],1,[]⟩ (λr=>.sl (zH xC r) r.length .no) (λ_=>[]) 0 [.blk 0,.seq (pt 63 f44)]:=yS (λ_ _ _=>lN) λb ih=>λa d c=>lw λ_=>rB 1 (rA 0 (xA (o:=.no)) λ_=>rW (λh5=>oP 2 (S5 h5 (by simp))) λ_=>lH 1 [] [] [1] [0,3,4] (ih _ _ _))<|lE 0
theorem c44{b a}:Cz (e44 b a) 44 [] [zC zV a .no] (λr=>.sl (zH xC r) r.length .no) (λ_=>[]) 0:=fw func44<|fH 1 [(none,3,1)] [] [0] [0,3,4] (zZB _ _ _ _)
end Go.Proofs.YthncchbcdpbgaaaGreat
