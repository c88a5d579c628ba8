/- Parts of the proof that the law returns true: walks of the functions, plain laws. -/
import Derived.Test.YthncchbcdpbgaaaGreatAbB3
set_option linter.unusedVariables false
set_option linter.unusedSimpArgs false
set_option linter.unusedSectionVars false
namespace Go.Proofs.YthncchbcdpbgaaaGreat
open Go Go.Ab
def zNK(qq:Nat)(p0:Int):Option (Bool):=
 if p0==40 then
 some true
 else
 if p0==41 then
 some true
 else
 if p0==123 then
 some true
 else
 if p0==125 then
 some true
 else
 if p0==58 then
 some true
 else
 if p0==61 then
 some true
 else
 if p0==46 then
 some true
 else
 if p0==44 then
 some true
 else
 if p0==59 then
 some true
 else
 if p0==124 then
 some true
 else
 if p0==92 then
 some true
 else
 if p0==45 then
 some true
 else
 if p0==62 then
 some true
 else
 if p0==955 then
 some true
 else
 if p0==8594 then
 some true
 else
 some false
theorem zUV{qq p0}:Cz (zNK qq p0) 240 [] [ai p0] (fun r=>ab r) (fun _=>[]) 0:=fw Tryz.func240<|rB 0 (fE 0)<|rB 0 (fE 0)<|rB 0 (fE 0)<|rB 0 (fE 0)<|rB 0 (fE 0)<|rB 0 (fE 0)<|rB 0 (fE 0)<|rB 0 (fE 0)<|rB 0 (fE 0)<|rB 0 (fE 0)<|rB 0 (fE 0)<|rB 0 (fE 0)<|rB 0 (fE 0)<|rB 0 (fE 0)<|rB 0 (fE 0)<|fE 0
def zER(qq:Nat)(p0:Int):Option (Bool):=
 if decide (p0<128)then
 if decide (p0≥97)then
 if decide (p0≤122)then
 some true
 else
 if decide (p0≥65)then
 some (decide (p0≤90))
 else
 some false
 else
 if decide (p0≥65)then
 some (decide (p0≤90))
 else
 some false
 else
 zEP qq p0>>=fun r6=>
 if r6 then
 zNK qq p0>>=fun r9=>
 if r9 then
 some false
 else
 if p0 != 160 then
 if decide (p0<8192)then
 some true
 else
 some (decide (p0>8303))
 else
 some false
 else
 some false
theorem zNL{qq p0}:Cz (zER qq p0) 180 [] [ai p0] (fun r=>ab r) (fun _=>[]) 0:=fw Tryz.func180<|rB 0 (rB 0 (rB 0 (fE 0)<|rB 0 (fE 1)<|fE 0)<|rB 0 (fE 1)<|fE 0)<|rK 0 [] zNF (fun _=>rK 0 [] zUV (fun _=>fE 1) fun _=>rB 1 (rB 0 (fE 0)<|fE 1)<|fE 0) fun _=>fE 0
def zCE(qq:Nat)(p0:Int):Option (Bool):=
 if decide (p0≥48)then
 some (decide (p0≤57))
 else
 some false
theorem zLw{qq p0}:Cz (zCE qq p0) 231 [] [ai p0] (fun r=>ab r) (fun _=>[]) 0:=fw Tryz.func231<|rB 0 (fE 1)<|fE 0
def zNM(qq:Nat)(p0:Int):Option (Bool):=
 zER qq p0>>=fun r1=>
 if r1 then
 some true
 else
 zCE qq p0>>=fun r4=>
 if r4 then
 some true
 else
 if p0==95 then
 some true
 else
 some (p0==39)
theorem zUW{qq p0}:Cz (zNM qq p0) 179 [] [ai p0] (fun r=>ab r) (fun _=>[]) 0:=fw Tryz.func179<|rK 0 [] zNL (fun _=>fE 0) fun _=>rK 0 [] zLw (fun _=>fE 0) fun _=>rB 0 (fE 0)<|fE 1
def gI:Nat->(List Int×Int×Int)->Int->Option (Bool)
 |0,_,_=>none
 |qq+1,r1,v32=>
 if decide (v32<(List.length r1.1:Int))then
 zL r1.1 v32>>=fun x10=>
 zNM qq x10>>=fun r12=>
 if r12 then
 gI qq r1 (w64 (v32+1))
 else
 some false
 else
 zL r1.1 0>>=fun x15=>
 zER qq x15>>=fun r17=>
 if r17 then
 some true
 else
 if x15==95 then
 some (decide ((List.length r1.1:Int)>1))
 else
 some false
def iC(qq:Nat)(p0:ByteArray):Option (Bool):=
 zLx qq p0>>=fun r1=>
 if r1.2.2 != 0 then
 some false
 else
 if (List.length r1.1:Int)==0 then
 some false
 else
 if decide ((p0.size:Int)>40)then
 some false
 else
 zIk qq p0>>=fun r6=>
 if r6 then
 some false
 else
 gI qq r1 0
theorem zNN:∀qq:Nat,∀r1 v32,Lz (gI qq r1 v32) 0 Tryz.f116 (inn (inn (rgt (lft (rgt (rgt (rgt (bod Tryz.f116)))))))) (fun j=>sp j 55 0 [(3,slv zM r1.1 .no),(30,slv zM r1.1 .no),(31,ai (List.length r1.1:Int)),(32,ai v32)]) ⟨[],0,[],0,[]⟩ (fun r=>ab r) (fun _=>[]) 0 [.blk 0,.seq (rgt (rgt (rgt (rgt (bod Tryz.f116)))))]:=yW (fun _ _=>lN) fun qq ih=>fun r1 v32=>lw fun _=>rB 0 (rA 0 (pL (o:=.no)) fun _=>rK 1 [] zUW (fun _=>lH 2 [] [] [] [3,30,31,32] (ih _ _)) fun _=>lE 1)<|rH fun _ h16=>rS (oA 0 (pL (o:=.no) h16))<|rK 1 [] zNL (fun _=>lE 0) fun _=>rS (oA 0 (pL (o:=.no) h16))<|rB 1 (lE 2)<|lE 0
theorem aM{qq p0}:Cz (iC qq p0) 116 [] [at' p0] (fun r=>ab r) (fun _=>[]) 0:=fw Tryz.func116<|rC 0 [] zTh fun _=>rB 3 (fE 0)<|rB 1 (fE 0)<|rB 1 (fE 0)<|rK 0 [] zRs (fun _=>fE 0) fun _=>fH 1 [] [] [] [3,30,31,32] (zNN _ _ _)
def aN:Nat->(List ByteArray)->Int->(List (ByteArray×Int))->Option (Bool)
 |0,_,_,_=>none
 |qq+1,p0,v9,zR=>
 if decide (v9<(List.length p0:Int))then
 zL p0 v9>>=fun x2=>
 if decide ((N7 zR x2)>0)then
 some false
 else
 aN qq p0 (w64 (v9+1)) (E7 zR x2 (w64 ((N7 zR x2)+1)))
 else
 some true
def e87(qq:Nat)(p0:List ByteArray):Option (Bool):=
 aN qq p0 0 ([]:List (ByteArray×Int))
theorem zRr:∀qq:Nat,∀p0 v9 zR,Lz (aN qq p0 v9 zR) 0 Tryz.f87 (inn (inn (rgt (lft (rgt (rgt (bod Tryz.f87))))))) (fun j=>sp j 22 0 [(3,.obj 0),(7,slv yU p0 .no),(8,ai (List.length p0:Int)),(9,ai v9)]) ⟨[(0,N6 zR)],1,[],0,[]⟩ (fun r=>ab r) (fun _=>[]) 0 [.blk 0,.seq (rgt (rgt (rgt (bod Tryz.f87))))]:=yW (fun _ _ _=>lN) fun qq ih=>fun p0 v9 zR=>lw fun _=>rB 0 (rA 0 (zKc (o:=.no)) fun x2=>rS (oL 1 (zGb zR x2))<|rB 0 (lE 0)<|rS (oL 0 (zGb zR x2))<|rS (oU 1 (zQb zR x2 (w64 ((N7 zR x2)+1))))<|lH 1 [] [0] [] [3,7,8,9] (ih _ _ _))<|lE 0
theorem c87{qq p0}:Cz (e87 qq p0) 87 [] [slv yU p0 .no] (fun r=>ab r) (fun _=>[]) 0:=fw Tryz.func87<|fH 1 [] [0] [] [3,7,8,9] (zRr _ _ _ _)
theorem zLv(c:Int):Tot (fun q=>zNG q c) fun r=>0≤r.1∧r.1≤4:=by
 simp only[zNG]
 repeat' (first|exact Tot.ret ⟨by simp,by simp⟩|refine Tot.ite (fun _=>?_) (fun _=>?_))
theorem zIj(n:Int):Tot (fun q=>zEQ q n) fun _=>True:=by
 simp only[zEQ]
 repeat' (first|exact Tot.ret trivial|refine Tot.ite (fun _=>?_) (fun _=>?_))
theorem lZ(n:Int):Tot (fun q=>zEP q n) fun _=>True:=by
 simp only[zEP]
 repeat' (first|exact Tot.ret trivial|refine Tot.ite (fun _=>?_) (fun _=>?_))
theorem P4{s:ByteArray}{i:Int}(h0:0≤i)(h1:i<s.size):∃c,B8 s i=some c:=by
 unfold B8
 simp[h0,h1]
theorem zIi(s:ByteArray)(a:Int)(w:Int×Int)(ha:0≤a)(hs:s.size≤65535)(hw:a+w.1≤s.size)(hw1:1≤w.1):∀(m:Nat) (i n:Int),1≤i->i+m=w.1->Tot (fun q=>gG q s a w n i) fun r=>r.2.2=0->r.2.1=w.1:=by
 intro m
 induction m with
 |zero=>
  intro i n hi hm
  refine Tot.succ ?_
  simp only[gG]
  refine Tot.ite (fun h=>absurd (of_decide_eq_true h) (by omega)) fun _=>(lZ n).bind fun b _=>?_
  refine Tot.ite (fun _=>(zIj n).bind fun c _=>Tot.ite (fun _=>Tot.ret (by simp)) fun _=>Tot.ret (by simp)) fun _=>Tot.ret (by simp)
 |succ m ih=>
  intro i n hi hm
  refine Tot.succ ?_
  simp only[gG]
  obtain⟨c,hc⟩:=P4 (s:=s) (i:=a+i) (by omega) (by omega)
  refine Tot.ite (fun _=>Tot.pure (a:=c) (by rw[zV (by omega) (by omega)];exact hc) (Tot.ite (fun _=>Tot.ret (by simp)) fun _=>?_)) fun h=>absurd (of_decide_eq_false h) (by omega)
  rw[zV (x:=i+1) (by omega) (by omega)]
  exact ih (i+1) _ (by omega) (by omega)
theorem zLu(s:ByteArray)(a:Int)(ha:0≤a)(hs:s.size≤65535):Tot (fun q=>zNH q s a) fun r=>r.2.2=0->1≤r.2.1∧a+r.2.1≤s.size:=by
 simp only[zNH]
 refine Tot.ite (fun _=>Tot.ret (by simp)) fun _=>Tot.ite (fun _=>Tot.ret (by simp)) fun h=>?_
 have h1:=of_decide_eq_false h
 obtain⟨c,hc⟩:=P4 (s:=s) (i:=a) ha (by omega)
 refine Tot.pure hc ((zLv c).bind fun w hw=>Tot.ite (fun _=>Tot.ret (by simp)) fun h2=>Tot.ite (fun _=>Tot.ret (by simp)) fun h3=>?_)
 have h4:=of_decide_eq_false h3
 rw[zV (by omega) (by omega)]at h4
 have h5:w.1≠0:=by simpa using h2
 refine(zIi s a w ha hs (by omega) (by omega) (w.1-1).toNat 1 w.2 (by omega) (by omega)).mono fun r hr h6=>?_
 have:=hr h6
 omega
theorem zLt(s:ByteArray)(hs:s.size≤65535):∀(m:Nat) (a:Int) (acc:List Int),0≤a->a≤s.size->(s.size:Int)-a≤m->(acc.length:Int)≤a->Tot (fun q=>gH q s acc a) fun r=>r.1.length≤65535:=by
 intro m
 induction m with
 |zero=>
  intro a acc h0 h1 hm hl
  refine Tot.succ ?_
  simp only[gH]
  refine Tot.ite (fun h=>absurd (of_decide_eq_true h) (by omega)) fun _=>Tot.ret (by show acc.length≤65535;omega)
 |succ m ih=>
  intro a acc h0 h1 hm hl
  refine Tot.succ ?_
  simp only[gH]
  refine Tot.ite (fun _=>(zLu s a h0 hs).bind fun r hr=>Tot.ite (fun _=>Tot.ret (by simp)) fun h=>Tot.pure (zZ (by simp<;>omega)) ?_) fun _=>Tot.ret (by show acc.length≤65535;omega)
  have:=hr (by simpa using h)
  rw[zV (by omega) (by omega)]
  exact ih (a+r.2.1) _ (by omega) (by omega) (by omega) (by simp;omega)
theorem zGO(s:ByteArray):Tot (fun q=>zLx q s) fun r=>r.1.length≤65535:=by
 simp only[zLx]
 refine Tot.ite (fun _=>Tot.ret (by simp)) fun h=>?_
 have:=of_decide_eq_false h
 exact zLt s (by omega) s.size 0 [] (by omega) (by omega) (by omega) (by simp)
theorem zLs(n:Int):Tot (fun q=>zNK q n) fun _=>True:=by
 simp only[zNK]
 repeat' (first|exact Tot.ret trivial|refine Tot.ite (fun _=>?_) (fun _=>?_))
theorem kA(n:Int):Tot (fun q=>zER q n) fun _=>True:=by
 simp only[zER]
 repeat' (first|exact Tot.ret trivial|refine Tot.ite (fun _=>?_) (fun _=>?_)|refine Tot.bind (lZ n) (fun _ _=>?_)|refine Tot.bind (zLs n) (fun _ _=>?_))
theorem mW(n:Int):Tot (fun q=>zCE q n) fun _=>True:=by
 simp only[zCE]
 repeat' (first|exact Tot.ret trivial|refine Tot.ite (fun _=>?_) (fun _=>?_))
theorem zIh(n:Int):Tot (fun q=>zNM q n) fun _=>True:=by
 simp only[zNM]
 repeat' (first|exact Tot.ret trivial|refine Tot.ite (fun _=>?_) (fun _=>?_)|refine Tot.bind (kA n) (fun _ _=>?_)|refine Tot.bind (mW n) (fun _ _=>?_))
theorem iD(s:ByteArray):Tot (fun q=>zIk q s) fun _=>True:=by
 simp only[zIk]
 repeat' (first|exact Tot.ret trivial|refine Tot.ite (fun _=>?_) (fun _=>?_))
theorem C8(r1:List Int×Int×Int)(h0:0<r1.1.length)(h1:r1.1.length≤65535):∀(l:List Int) (v:Nat),r1.1.drop v=l->Tot (fun q=>gI q r1 (v:Int)) fun _=>True
 | [],v,hd=>by
  refine Tot.succ ?_
  simp only[gI]
  obtain⟨y,hy⟩:∃y,zL r1.1 0=some y:=⟨_,by unfold zL;rw[if_pos (by omega)];exact List.getElem?_eq_getElem h0⟩
  refine Tot.ite (fun h=>?_) fun _=>Tot.pure hy ?_
  ·rw[zX hd]at h;cases h
  ·repeat' (first|exact Tot.ret trivial|refine Tot.ite (fun _=>?_) (fun _=>?_)|refine Tot.bind (kA y) (fun _ _=>?_))
 |x::l,v,hd=>by
  have hlt:=yC hd
  refine Tot.succ ?_
  simp only[gI]
  refine Tot.ite (fun _=>Tot.pure (zS hd) ((zIh x).bind fun b _=>Tot.ite (fun _=>?_) fun _=>Tot.ret trivial)) fun h=>?_
  ·rw[zU v (by omega)]
   exact C8 r1 h0 h1 l (v+1) (zQ hd)
  ·rw[zW hd]at h;cases h
theorem uY(s:ByteArray):Tot (fun q=>iC q s) fun _=>True:=by
 simp only[iC]
 refine(zGO s).bind fun r hr=>Tot.ite (fun _=>Tot.ret trivial) fun _=>Tot.ite (fun _=>Tot.ret trivial) fun h=>Tot.ite (fun _=>Tot.ret trivial) fun _=>(iD s).bind fun _ _=>Tot.ite (fun _=>Tot.ret trivial) fun _=>?_
 exact C8 r (by simp at h;exact List.length_pos_iff.2 h) hr r.1 0 rfl
theorem eO:∀(r l:List ByteArray) (v:Nat) (m:List (ByteArray×Int)),l.drop v=r->l.length≤65535->Tot (fun q=>aN q l (v:Int) m) fun _=>True
 | [],l,v,m,hd,hl=>by
  refine Tot.succ ?_
  simp only[aN]
  refine Tot.ite (fun h=>?_) fun _=>Tot.ret trivial
  rw[zX hd]at h;cases h
 |x::r,l,v,m,hd,hl=>by
  have hlt:=yC hd
  refine Tot.succ ?_
  simp only[aN]
  refine Tot.ite (fun _=>Tot.pure (zS hd) (Tot.ite (fun _=>Tot.ret trivial) fun _=>?_)) fun h=>?_
  ·rw[zU v (by omega)]
   exact eO r l (v+1) _ (zQ hd) hl
  ·rw[zW hd]at h;cases h
theorem zAe(l:List ByteArray)(hl:l.length≤65535):Tot (fun q=>e87 q l) fun _=>True:=by
 simp only[e87]
 exact eO l l 0 _ rfl hl
def gJ:Nat->Int->(List U8)->Int->Int->(List U8)->Option (ByteArray×Int)
 |0,_,_,_,_,_=>none
 |qq+1,r4,x7,v0,v6,zR=>
 if decide (v6>0)then
 X0 (List.length x7) v6>>=fun x10=>
 X1 zR x10 (IntKind.u8.wrap ((BitVec.ofInt (IntKind.bits .u8) 128 ||| BitVec.ofInt (IntKind.bits .u8) (IntKind.u8.wrap ((IntKind.i64.wrap ((BitVec.ofInt (IntKind.bits .i64) v0 &&& BitVec.ofInt (IntKind.bits .i64) 63).toNat:Nat))))).toNat:Nat))>>=fun x12=>
 gJ qq r4 x7 (Int.fdiv v0 (2 ^ (min (Int.toNat 6) (IntKind.bits .i64)))) (w64 (v6-1)) x12
 else
 zNl 3840 r4>>=fun x14=>
 X0 (List.length x7) 0>>=fun x16=>
 X1 zR x16 (IntKind.u8.wrap ((IntKind.i64.wrap ((BitVec.ofInt (IntKind.bits .i64) (IntKind.i64.wrap ((BitVec.ofInt (IntKind.bits .i64) x14 &&& BitVec.ofInt (IntKind.bits .i64) 255).toNat:Nat)) ||| BitVec.ofInt (IntKind.bits .i64) v0).toNat:Nat))))>>=fun x18=>
 gtx (List.length x7) x18>>=fun x20=>
 some (x20,0)
def zLr(qq:Nat)(p0:Int):Option (ByteArray×Int):=
 zEP qq p0>>=fun r1=>
 if r1 then
 zEQ qq p0>>=fun r4=>
 if r4==1 then
 some ((sZ [(IntKind.u8.wrap (p0))]),0)
 else
 gmk 1 (default:U8) r4>>=fun x7=>
 gJ qq r4 x7 p0 (w64 (r4-1)) x7
 else
 some ((⟨#[]⟩:ByteArray),16)
theorem zNO:∀qq:Nat,∀r4 x7 v0 v6 zR,Lz (gJ qq r4 x7 v0 v6 zR) 0 Tryz.f223 (inn (inn (rgt (lft (rgt (rgt (rgt (rgt (rgt (bod Tryz.f223)))))))))) (fun j=>sp j 47 0 [(0,ai v0),(4,ai r4),(5,.ms 0 0 (List.length x7) (List.length x7) 1),(6,ai v6)]) ⟨[(0,.row (zD u8C zR))],1,[],0,[]⟩ (fun r=>.tup [at' r.1,ai r.2]) (fun _=>[]) 0 [.blk 0,.seq (rgt (rgt (rgt (rgt (rgt (rgt (bod Tryz.f223)))))))]:=yW (fun _ _ _ _ _=>lN) fun qq ih=>fun r4 x7 v0 v6 zR=>lw fun _=>rB 0 (rA 3 (zKa (b:=0) (c:=List.length x7) (z:=1)) fun _=>rW (fun h13=>oW 0 (zKt (x:=(IntKind.u8.wrap ((BitVec.ofInt (IntKind.bits .u8) 128 ||| BitVec.ofInt (IntKind.bits .u8) (IntKind.u8.wrap ((IntKind.i64.wrap ((BitVec.ofInt (IntKind.bits .i64) v0 &&& BitVec.ofInt (IntKind.bits .i64) 63).toNat:Nat))))).toNat:Nat))) (a:=(fun z=>.val (.int .u8 z))) M5 (fun _=>rfl) (fun _=>⟨rfl,rfl⟩) h13)) fun _=>lH 2 [] [0] [] [0,4,5,6] (ih _ _ _ _ _))<|rA 0 (zQT (P:=Tryz.prog) (t:=3)) fun x14=>rA 3 (zKa (b:=0) (c:=List.length x7) (z:=1)) fun _=>rW (fun h19=>oW 0 (zKt (x:=(IntKind.u8.wrap ((IntKind.i64.wrap ((BitVec.ofInt (IntKind.bits .i64) (IntKind.i64.wrap ((BitVec.ofInt (IntKind.bits .i64) x14 &&& BitVec.ofInt (IntKind.bits .i64) 255).toNat:Nat)) ||| BitVec.ofInt (IntKind.bits .i64) v0).toNat:Nat))))) (a:=(fun z=>.val (.int .u8 z))) M5 (fun _=>rfl) (fun _=>⟨rfl,rfl⟩) h19)) fun _=>rW (fun h21=>oCv 0 (zKd h21)) fun _=>lE 0
theorem zTg{qq p0}:Cz (zLr qq p0) 223 [] [ai p0] (fun r=>.tup [at' r.1,ai r.2]) (fun _=>[]) 0:=fw Tryz.func223<|rK 0 [] zNF (fun _=>rC 1 [] zTi fun _=>rB 0 (rS (oA 2 (tM [(IntKind.u8.wrap (p0))] (o:=.full)))<|fE 0)<|rW (fun h8=>oM 0 (zQZ h8)) fun _=>fH 1 [] [0] [] [0,4,5,6] (zNO _ _ _ _ _ _)) fun _=>fE 1
def gK:Nat->(List Int)->Int->(List Int)->Int->Option (List Int)
 |0,_,_,_,_=>none
 |qq+1,p0,v11,v3,v4=>
 if decide (v11<(List.length p0:Int))then
 zL p0 v11>>=fun x2=>
 yR 8 v3 [v4]>>=fun l4=>
 zLr qq x2>>=fun r6=>
 gK qq p0 (w64 (v11+1)) l4 (w64 (v4+(r6.1.size:Int)))
 else
 some v3
def zNP(qq:Nat)(p0:List Int):Option (List Int):=
 gK qq p0 0 [] 0
theorem zNQ:∀qq:Nat,∀p0 v11 v3 v4,Lz (gK qq p0 v11 v3 v4) 0 Tryz.f169 (inn (inn (rgt (lft (rgt (rgt (rgt (bod Tryz.f169)))))))) (fun j=>sp j 30 0 [(3,slv zM v3 (.st 0 1)),(4,ai v4),(9,slv zM p0 .no),(10,ai (List.length p0:Int)),(11,ai v11)]) ⟨[],0,[0],1,[]⟩ (fun r=>.sl (zD zM r) (List.length r) .no) (fun _=>[]) 0 [.blk 0,.seq (rgt (rgt (rgt (rgt (bod Tryz.f169)))))]:=yW (fun _ _ _ _=>lN) fun qq ih=>fun p0 v11 v3 v4=>lw fun _=>rB 0 (rA 0 (pL (o:=.no)) fun _=>rW (fun h5=>oP 2 (nO h5 (by simp))) fun _=>rC 0 [] zTg fun _=>lH 5 [] [] [1] [3,4,9,10,11] (ih _ _ _ _))<|lE 0
theorem zUX{qq p0}:Cz (zNP qq p0) 169 [] [slv zM p0 .no] (fun r=>.sl (zD zM r) (List.length r) .no) (fun _=>[]) 0:=fw Tryz.func169<|fH 1 [(none,3,1)] [] [0] [3,4,9,10,11] (zNQ _ _ _ _ _)
def zNR(qq:Nat)(p0:Int):Option (Bool):=
 if p0==9 then
 some true
 else
 if p0==10 then
 some true
 else
 if p0==13 then
 some true
 else
 some (p0==32)
theorem zUY{qq p0}:Cz (zNR qq p0) 224 [] [ai p0] (fun r=>ab r) (fun _=>[]) 0:=fw Tryz.func224<|rB 0 (fE 0)<|rB 0 (fE 0)<|rB 0 (fE 0)<|fE 1
def E9(qq:Nat)(q0_signs q0_at:List Int)(q0_i p1:Int):Option (Int):=
 if decide ((w64 (q0_i+p1))≥(List.length q0_signs:Int))then
 some (-1)
 else
 zL q0_signs (w64 (q0_i+p1))>>=fun x2=>
 some x2
theorem zAd{qq q0_signs q0_at q0_i p1}:Cz (E9 qq q0_signs q0_at q0_i p1) 225 [.cells [slv zM q0_signs .no,slv zM q0_at .no,ai q0_i]] [.mp 0 0,ai p1] (fun r=>ai r) (fun _=>[.cells [slv zM q0_signs .no,slv zM q0_at .no,ai q0_i]]) 0:=fw Tryz.func225<|rB 4 (fE 0)<|rA 3 (pL (o:=.no)) fun _=>fE 1
def zCF(qq:Nat)(q0_signs q0_at:List Int)(q0_i p1 p2:Int):Option (Bool):=
 E9 qq q0_signs q0_at q0_i 0>>=fun r1=>
 if r1==p1 then
 E9 qq q0_signs q0_at q0_i 1>>=fun r4=>
 some (r4==p2)
 else
 some false
theorem zLq{qq q0_signs q0_at q0_i p1 p2}:Cz (zCF qq q0_signs q0_at q0_i p1 p2) 226 [.cells [slv zM q0_signs .no,slv zM q0_at .no,ai q0_i]] [.mp 0 0,ai p1,ai p2] (fun r=>ab r) (fun _=>[.cells [slv zM q0_signs .no,slv zM q0_at .no,ai q0_i]]) 0:=fw Tryz.func226<|rC 0 [0] zAd fun _=>rB 0 (rC 0 [0] zAd fun _=>fE 1)<|fE 0
def cV:Nat->(List Int)->(List Int)->Int->Option (Int)
 |0,_,_,_=>none
 |qq+1,q0_signs,q0_at,zN=>
 if decide (zN<(List.length q0_signs:Int))then
 E9 qq q0_signs q0_at zN 0>>=fun r2=>
 if r2 != 10 then
 cV qq q0_signs q0_at (w64 (zN+1))
 else
 some zN
 else
 some zN
def zRq(qq:Nat)(q0_signs q0_at:List Int)(q0_i:Int):Option (Int):=
 cV qq q0_signs q0_at q0_i
theorem zNS:∀qq:Nat,∀q0_signs q0_at zN,Lz (cV qq q0_signs q0_at zN) 1 Tryz.f227 (inn (inn (bod Tryz.f227))) (fun j=>sp j 24 0 [(0,.mp 0 0)]) ⟨[(0,.cells [slv zM q0_signs .no,slv zM q0_at .no,ai zN])],1,[],0,[]⟩ (fun _=>.tup []) (fun r=>[.cells [slv zM q0_signs .no,slv zM q0_at .no,ai r]]) 0 [.blk 0]:=yW (fun _ _ _=>lN) fun qq ih=>fun q0_signs q0_at zN=>lw fun _=>rB 3 (rC 0 [0] zAd fun _=>rB 0 (lH 3 [] [0] [] [0] (ih _ _ _))<|lE 0)<|lE 0
theorem zUZ{qq q0_signs q0_at q0_i}:Cz (zRq qq q0_signs q0_at q0_i) 227 [.cells [slv zM q0_signs .no,slv zM q0_at .no,ai q0_i]] [.mp 0 0] (fun _=>.tup []) (fun r=>[.cells [slv zM q0_signs .no,slv zM q0_at .no,ai r]]) 0:=fw Tryz.func227<|fH 0 [] [0] [] [0] (zNS _ _ _ _)
def nQ:Nat->(List Int)->(List Int)->Int->Int->Option (Bool×Int)
 |0,_,_,_,_=>none
 |qq+1,q0_signs,q0_at,v3,zN=>
 if decide (zN<(List.length q0_signs:Int))then
 zCF qq q0_signs q0_at zN 123 45>>=fun r2=>
 if r2 then
 nQ qq q0_signs q0_at (w64 (v3+1)) (w64 (zN+2))
 else
 zCF qq q0_signs q0_at zN 45 125>>=fun r5=>
 if r5 then
 if (w64 (v3-1))==0 then
 some (((w64 (v3-1))==0),(w64 (zN+2)))
 else
 nQ qq q0_signs q0_at (w64 (v3-1)) (w64 (zN+2))
 else
 nQ qq q0_signs q0_at v3 (w64 (zN+1))
 else
 some ((v3==0),zN)
def zRp(qq:Nat)(q0_signs q0_at:List Int)(q0_i:Int):Option (Bool×Int):=
 nQ qq q0_signs q0_at 0 q0_i
theorem zNT:∀qq:Nat,∀q0_signs q0_at v3 zN,Lz (nQ qq q0_signs q0_at v3 zN) 1 Tryz.f228 (inn (inn (lft (rgt (rgt (inn (rgt (bod Tryz.f228)))))))) (fun j=>sp j 49 0 [(0,.mp 0 0),(3,ai v3)]) ⟨[(0,.cells [slv zM q0_signs .no,slv zM q0_at .no,ai zN])],1,[],0,[]⟩ (fun r=>ab r.1) (fun r=>[.cells [slv zM q0_signs .no,slv zM q0_at .no,ai r.2]]) 0 [.blk 0,.seq (rgt (rgt (rgt (inn (rgt (bod Tryz.f228))))))]:=yW (fun _ _ _ _=>lN) fun qq ih=>fun q0_signs q0_at v3 zN=>lw fun _=>rB 3 (rK 0 [0] zLq (fun _=>lH 4 [] [0] [] [0,3] (ih _ _ _ _)) fun _=>rK 0 [0] zLq (fun _=>rB 4 (lE 1)<|lH 0 [] [0] [] [0,3] (ih _ _ _ _)) fun _=>lH 3 [] [0] [] [0,3] (ih _ _ _ _))<|lE 1
theorem zVz{qq q0_signs q0_at q0_i}:Cz (zRp qq q0_signs q0_at q0_i) 228 [.cells [slv zM q0_signs .no,slv zM q0_at .no,ai q0_i]] [.mp 0 0] (fun r=>ab r.1) (fun r=>[.cells [slv zM q0_signs .no,slv zM q0_at .no,ai r.2]]) 0:=fw Tryz.func228<|fH 0 [] [0] [] [0,3] (zNT _ _ _ _ _)
def nR:Nat->(List Int)->(List Int)->Int->Option (Int×Bool×Int)
 |0,_,_,_=>none
 |qq+1,q0_signs,q0_at,zN=>
 if decide (zN<(List.length q0_signs:Int))then
 E9 qq q0_signs q0_at zN 0>>=fun r2=>
 zNR qq r2>>=fun r4=>
 if r4 then
 nR qq q0_signs q0_at (w64 (zN+1))
 else
 zCF qq q0_signs q0_at zN 45 45>>=fun r7=>
 if r7 then
 zRq qq q0_signs q0_at zN>>=fun r10=>
 nR qq q0_signs q0_at r10
 else
 zCF qq q0_signs q0_at zN 123 45>>=fun r12=>
 if r12 then
 zRp qq q0_signs q0_at zN>>=fun r15=>
 if r15.1 then
 nR qq q0_signs q0_at r15.2
 else
 zL q0_at zN>>=fun x18=>
 some (x18,false,r15.2)
 else
 some (0,true,zN)
 else
 some (0,true,zN)
def zRo(qq:Nat)(q0_signs q0_at:List Int)(q0_i:Int):Option (Int×Bool×Int):=
 nR qq q0_signs q0_at q0_i
theorem zNU:∀qq:Nat,∀q0_signs q0_at zN,Lz (nR qq q0_signs q0_at zN) 1 Tryz.f170 (inn (inn (lft (rgt (bod Tryz.f170))))) (fun j=>sp j 48 0 [(0,.mp 0 0)]) ⟨[(0,.cells [slv zM q0_signs .no,slv zM q0_at .no,ai zN])],1,[],0,[]⟩ (fun r=>.tup [ai r.1,ab r.2.1]) (fun r=>[.cells [slv zM q0_signs .no,slv zM q0_at .no,ai r.2.2]]) 0 [.blk 0,.seq (rgt (rgt (bod Tryz.f170)))]:=yW (fun _ _ _=>lN) fun qq ih=>fun q0_signs q0_at zN=>lw fun _=>rB 3 (rC 0 [0] zAd fun _=>rK 0 [] zUY (fun _=>lH 3 [] [0] [] [0] (ih _ _ _)) fun _=>rK 0 [0] zLq (fun _=>rC 0 [0] zUZ fun _=>lH 0 [] [0] [] [0] (ih _ _ _)) fun _=>rK 0 [0] zLq (fun _=>rK 1 [0] zVz (fun _=>lH 1 [] [0] [] [0] (ih _ _ _)) fun _=>rA 2 (pL (o:=.no)) fun _=>lE 1) fun _=>lE 0)<|lE 0
theorem zVy{qq q0_signs q0_at q0_i}:Cz (zRo qq q0_signs q0_at q0_i) 170 [.cells [slv zM q0_signs .no,slv zM q0_at .no,ai q0_i]] [.mp 0 0] (fun r=>.tup [ai r.1,ab r.2.1]) (fun r=>[.cells [slv zM q0_signs .no,slv zM q0_at .no,ai r.2.2]]) 0:=fw Tryz.func170<|fH 0 [] [0] [] [0] (zNU _ _ _ _)
def gL:Nat->(List Int)->Int->(List U8)->Option (ByteArray×Int)
 |0,_,_,_=>none
 |qq+1,p0,v23,v6=>
 if decide (v23<(List.length p0:Int))then
 zL p0 v23>>=fun x8=>
 zLr qq x8>>=fun r10=>
 if decide ((w64 ((List.length v6:Int)+(r10.1.size:Int)))>65535)then
 some ((⟨#[]⟩:ByteArray),2)
 else
 yR 1 v6 (gbs r10.1)>>=fun l13=>
 gL qq p0 (w64 (v23+1)) l13
 else
 some ((sZ v6),0)
def gM:Nat->(List Int)->Int->Option (ByteArray×Int)
 |0,_,_=>none
 |qq+1,p0,v13=>
 if decide (v13<(List.length p0:Int))then
 zL p0 v13>>=fun x2=>
 zEP qq x2>>=fun r4=>
 if r4 then
 gM qq p0 (w64 (v13+1))
 else
 some ((⟨#[]⟩:ByteArray),16)
 else
 gL qq p0 0 []
def zAc(qq:Nat)(p0:List Int):Option (ByteArray×Int):=
 gM qq p0 0
theorem zNV:∀qq:Nat,∀p0 v23 v6,Lz (gL qq p0 v23 v6) 0 Tryz.f275 (inn (inn (rgt (lft (rgt (rgt (rgt (bod Tryz.f275)))))))) (fun j=>sp j 44 0 [(6,slv u8C v6 (.st 0 1)),(21,slv zM p0 .no),(22,ai (List.length p0:Int)),(23,ai v23)]) ⟨[],0,[0],1,[]⟩ (fun r=>.tup [at' r.1,ai r.2]) (fun _=>[]) 0 [.blk 2,.seq (rgt (rgt (rgt (rgt (bod Tryz.f275)))))]:=yW (fun _ _ _=>lN) fun qq ih=>fun p0 v23 v6=>lw fun _=>rB 0 (rA 0 (pL (o:=.no)) fun _=>rC 1 [] zTg fun r10=>rB 5 (lE 0)<|rH fun _ h14=>rZ (List.length (gbs r10.1)=0) (fun h15=>rS (oPs 0 (zIx h14 h15))<|lH 1 [] [] [0] [6,21,22,23] (ih _ _ _)) fun h15=>rS (oPs 0 (zKe h14 h15))<|lH 1 [] [] [1] [6,21,22,23] (ih _ _ _))<|rS (oA 0 (tM v6 (o:=(.st 0 1))))<|lE 0
theorem zNW:∀qq:Nat,∀p0 v13,Lz (gM qq p0 v13) 0 Tryz.f275 (inn (inn (rgt (lft (rgt (bod Tryz.f275)))))) (fun j=>sp j 44 0 [(0,slv zM p0 .no),(11,slv zM p0 .no),(12,ai (List.length p0:Int)),(13,ai v13)]) ⟨[],0,[],0,[]⟩ (fun r=>.tup [at' r.1,ai r.2]) (fun _=>[]) 0 [.blk 0,.seq (rgt (rgt (bod Tryz.f275)))]:=yW (fun _ _=>lN) fun qq ih=>fun p0 v13=>lw fun _=>rB 0 (rA 0 (pL (o:=.no)) fun _=>rK 1 [] zNF (fun _=>lH 2 [] [] [] [0,11,12,13] (ih _ _)) fun _=>lE 1)<|lH 1 [(none,6,1)] [] [0] [6,21,22,23] (zNV _ _ _ _)
theorem zNX{qq p0}:Cz (zAc qq p0) 275 [] [slv zM p0 .no] (fun r=>.tup [at' r.1,ai r.2]) (fun _=>[]) 0:=fw Tryz.func275<|fH 1 [] [] [] [0,11,12,13] (zNW _ _ _)
def pE:Nat->(List Int)->(List Int)->Int->Int->Option (ByteArray×Int)
 |0,_,_,_,_=>none
 |qq+1,q0,q1,q2,zN=>
 if decide (zN<(List.length q0:Int))then
 E9 qq q0 q1 zN 0>>=fun r2=>
 zCE qq r2>>=fun r4=>
 if r4 then
 pE qq q0 q1 q2 (w64 (zN+1))
 else
 gsl q0 q2 zN>>=fun x7=>
 zAc qq x7>>=fun r9=>
 some (r9.1,zN)
 else
 gsl q0 q2 zN>>=fun x11=>
 zAc qq x11>>=fun r13=>
 some (r13.1,zN)
def P5(qq:Nat)(q0 q1:List Int)(q2:Int):Option (ByteArray×Int):=
 pE qq q0 q1 q2 q2
theorem zCG:∀qq:Nat,∀q0 q1 q2 zN,Lz (pE qq q0 q1 q2 zN) 1 Tryz.f229 (inn (inn (lft (rgt (rgt (bod Tryz.f229)))))) (fun j=>sp j 50 0 [(0,.mp 0 0),(1,.clo 231 [] []),(5,ai q2)]) ⟨[(0,.cells [slv zM q0 .no,slv zM q1 .no,ai zN])],1,[],0,[]⟩ (fun r=>at' r.1) (fun r=>[.cells [slv zM q0 .no,slv zM q1 .no,ai r.2]]) 0 [.blk 0,.seq (rgt (rgt (rgt (bod Tryz.f229))))]:=yW (fun _ _ _ _=>lN) fun qq ih=>fun q0 q1 q2 zN=>lw fun _=>rB 3 (rC 0 [0] zAd fun _=>rK 0 [] zLw (fun _=>lH 3 [] [0] [] [0,1,5] (ih _ _ _ _)) fun _=>rA 2 zNi fun _=>rC 0 [] zNX fun _=>lE 2)<|rA 2 zNi fun _=>rC 0 [] zNX fun _=>lE 2
theorem zLp{qq q0 q1 q2}:Cz (P5 qq q0 q1 q2) 229 [.cells [slv zM q0 .no,slv zM q1 .no,ai q2]] [.mp 0 0,.clo 231 [] []] (fun r=>at' r.1) (fun r=>[.cells [slv zM q0 .no,slv zM q1 .no,ai r.2]]) 0:=fw Tryz.func229<|fH 1 [] [0] [] [0,1,5] (zCG _ _ _ _ _)
def zLo(qq:Nat)(p0:Int):Option (Bool):=
 zER qq p0>>=fun r1=>
 if r1 then
 some true
 else
 zCE qq p0>>=fun r4=>
 if r4 then
 some true
 else
 if p0==95 then
 some true
 else
 some (p0==39)
theorem zTf{qq p0}:Cz (zLo qq p0) 230 [] [ai p0] (fun r=>ab r) (fun _=>[]) 0:=fw Tryz.func230<|rK 0 [] zNL (fun _=>fE 0) fun _=>rK 0 [] zLw (fun _=>fE 0) fun _=>rB 0 (fE 0)<|fE 1
def pF:Nat->(List Int)->(List Int)->Int->Int->Option (ByteArray×Int)
 |0,_,_,_,_=>none
 |qq+1,q0,q1,q2,zN=>
 if decide (zN<(List.length q0:Int))then
 E9 qq q0 q1 zN 0>>=fun r2=>
 zLo qq r2>>=fun r4=>
 if r4 then
 pF qq q0 q1 q2 (w64 (zN+1))
 else
 gsl q0 q2 zN>>=fun x7=>
 zAc qq x7>>=fun r9=>
 some (r9.1,zN)
 else
 gsl q0 q2 zN>>=fun x11=>
 zAc qq x11>>=fun r13=>
 some (r13.1,zN)
def cW(qq:Nat)(q0 q1:List Int)(q2:Int):Option (ByteArray×Int):=
 pF qq q0 q1 q2 q2
theorem zCH:∀qq:Nat,∀q0 q1 q2 zN,Lz (pF qq q0 q1 q2 zN) 1 Tryz.f229 (inn (inn (lft (rgt (rgt (bod Tryz.f229)))))) (fun j=>sp j 50 0 [(0,.mp 0 0),(1,.clo 230 [] []),(5,ai q2)]) ⟨[(0,.cells [slv zM q0 .no,slv zM q1 .no,ai zN])],1,[],0,[]⟩ (fun r=>at' r.1) (fun r=>[.cells [slv zM q0 .no,slv zM q1 .no,ai r.2]]) 0 [.blk 0,.seq (rgt (rgt (rgt (bod Tryz.f229))))]:=yW (fun _ _ _ _=>lN) fun qq ih=>fun q0 q1 q2 zN=>lw fun _=>rB 3 (rC 0 [0] zAd fun _=>rK 0 [] zTf (fun _=>lH 3 [] [0] [] [0,1,5] (ih _ _ _ _)) fun _=>rA 2 zNi fun _=>rC 0 [] zNX fun _=>lE 2)<|rA 2 zNi fun _=>rC 0 [] zNX fun _=>lE 2
theorem zCI{qq q0 q1 q2}:Cz (cW qq q0 q1 q2) 229 [.cells [slv zM q0 .no,slv zM q1 .no,ai q2]] [.mp 0 0,.clo 230 [] []] (fun r=>at' r.1) (fun r=>[.cells [slv zM q0 .no,slv zM q1 .no,ai r.2]]) 0:=fw Tryz.func229<|fH 1 [] [0] [] [0,1,5] (zCH _ _ _ _ _)
def gN:Nat->ByteArray->Int->Nat->Option (Int×Bool)
 |0,_,_,_=>none
 |qq+1,p0,v4,zR=>
 if decide (zR<ByteArray.size p0)then
 zCE qq (w64 (((Utf8.decode p0 zR).1:Int)))>>=fun r8=>
 if r8 then
 gN qq p0 (w64 ((w64 (10*v4))+(w64 ((IntKind.i32.wrap (((Utf8.decode p0 zR).1:Int)-48)))))) (zR+(Utf8.decode p0 zR).2)
 else
 some (0,false)
 else
 some (v4,true)
def zLn(qq:Nat)(p0:ByteArray):Option (Int×Bool):=
 if p0.toList==(⟨#[]⟩:ByteArray).toList then
 some (0,false)
 else
 if decide ((p0.size:Int)>3)then
 some (0,false)
 else
 B8 p0 0>>=fun x3=>
 if x3==48 then
 if decide ((p0.size:Int)>1)then
 some (0,false)
 else
 gN qq p0 0 0
 else
 gN qq p0 0 0
theorem zGP:∀qq:Nat,∀p0 v4 zR,Lz (gN qq p0 v4 zR) 0 Tryz.f232 (inn (inn (rgt (lft (rgt (rgt (rgt (bod Tryz.f232)))))))) (fun j=>sp j 40 0 [(4,ai v4),(25,.mp 0 0)]) ⟨[(0,.obj (.stringIter p0 zR))],1,[],0,[]⟩ (fun r=>.tup [ai r.1,ab r.2]) (fun _=>[]) 0 [.blk 0,.seq (rgt (rgt (rgt (rgt (bod Tryz.f232)))))]:=yW (fun _ _ _=>lN) fun qq ih=>fun p0 v4 zR=>lw fun _=>rI (fun h7=>rS (oX 0 (zNk (of_decide_eq_true h7)))<|rK 3 [] zLw (fun _=>lH 5 [] [0] [] [4,25] (ih _ _ _)) fun _=>lE 1) fun h7=>rS (oX 0 (zNj (of_decide_eq_false h7)))<|lE 1
theorem zTe{qq p0}:Cz (zLn qq p0) 232 [] [at' p0] (fun r=>.tup [ai r.1,ab r.2]) (fun _=>[]) 0:=fw Tryz.func232<|rB 0 (fE 0)<|rB 1 (fE 0)<|rA 0 zEF fun _=>rB 0 (rB 1 (fE 0)<|fH 0 [] [0] [] [4,25] (zGP _ _ _ _))<|fH 0 [] [0] [] [4,25] (zGP _ _ _ _)
def zNY(qq:Nat)(q0_signs q0_at:List Int)(q0_i:Int):Option (ByteArray×Int):=
 E9 qq q0_signs q0_at q0_i 0>>=fun r1=>
 if r1==40 then
 some ((sZ [(IntKind.u8.wrap (r1))]),1)
 else
 if r1==41 then
 some ((sZ [(IntKind.u8.wrap (r1))]),1)
 else
 if r1==123 then
 some ((sZ [(IntKind.u8.wrap (r1))]),1)
 else
 if r1==125 then
 some ((sZ [(IntKind.u8.wrap (r1))]),1)
 else
 if r1==58 then
 some ((sZ [(IntKind.u8.wrap (r1))]),1)
 else
 if r1==61 then
 some ((sZ [(IntKind.u8.wrap (r1))]),1)
 else
 if r1==46 then
 some ((sZ [(IntKind.u8.wrap (r1))]),1)
 else
 if r1==44 then
 some ((sZ [(IntKind.u8.wrap (r1))]),1)
 else
 if r1==59 then
 some ((sZ [(IntKind.u8.wrap (r1))]),1)
 else
 if r1==124 then
 some ((sZ [(IntKind.u8.wrap (r1))]),1)
 else
 if r1==92 then
 some ((sZ [(IntKind.u8.wrap (r1))]),1)
 else
 if r1==955 then
 some ((⟨#[92]⟩:ByteArray),1)
 else
 if r1==8594 then
 some ((⟨#[45,62]⟩:ByteArray),1)
 else
 zCF qq q0_signs q0_at q0_i 45 62>>=fun r16=>
 if r16 then
 some ((⟨#[45,62]⟩:ByteArray),2)
 else
 some ((⟨#[]⟩:ByteArray),0)
theorem zVx{qq q0_signs q0_at q0_i}:Cz (zNY qq q0_signs q0_at q0_i) 233 [.cells [slv zM q0_signs .no,slv zM q0_at .no,ai q0_i]] [.mp 0 0] (fun r=>.tup [at' r.1,ai r.2]) (fun _=>[.cells [slv zM q0_signs .no,slv zM q0_at .no,ai q0_i]]) 0:=fw Tryz.func233<|rC 0 [0] zAd fun r1=>rB 0 (rS (oA 2 (tM [(IntKind.u8.wrap (r1))] (o:=.full)))<|fE 0)<|rB 0 (rS (oA 2 (tM [(IntKind.u8.wrap (r1))] (o:=.full)))<|fE 0)<|rB 0 (rS (oA 2 (tM [(IntKind.u8.wrap (r1))] (o:=.full)))<|fE 0)<|rB 0 (rS (oA 2 (tM [(IntKind.u8.wrap (r1))] (o:=.full)))<|fE 0)<|rB 0 (rS (oA 2 (tM [(IntKind.u8.wrap (r1))] (o:=.full)))<|fE 0)<|rB 0 (rS (oA 2 (tM [(IntKind.u8.wrap (r1))] (o:=.full)))<|fE 0)<|rB 0 (rS (oA 2 (tM [(IntKind.u8.wrap (r1))] (o:=.full)))<|fE 0)<|rB 0 (rS (oA 2 (tM [(IntKind.u8.wrap (r1))] (o:=.full)))<|fE 0)<|rB 0 (rS (oA 2 (tM [(IntKind.u8.wrap (r1))] (o:=.full)))<|fE 0)<|rB 0 (rS (oA 2 (tM [(IntKind.u8.wrap (r1))] (o:=.full)))<|fE 0)<|rB 0 (rS (oA 2 (tM [(IntKind.u8.wrap (r1))] (o:=.full)))<|fE 0)<|rB 0 (fE 0)<|rB 0 (fE 0)<|rK 0 [0] zLq (fun _=>fE 0) fun _=>fE 0
def zNZ(qq:Nat)(q0_signs q0_at:List Int)(q0_i:Int):Option (zJ×Bool×Int):=
 zL q0_at q0_i>>=fun x1=>
 E9 qq q0_signs q0_at q0_i 0>>=fun r3=>
 zER qq r3>>=fun r5=>
 if r5 then
 cW qq q0_signs q0_at q0_i>>=fun r8=>
 zIk qq r8.1>>=fun r10=>
 if r10 then
 some ((zJ.mk 2 r8.1 x1),true,r8.2)
 else
 if r8.1.toList==(⟨#[95]⟩:ByteArray).toList then
 some ((zJ.mk 1 r8.1 x1),true,r8.2)
 else
 iC qq r8.1>>=fun r14=>
 some ((zJ.mk 1 r8.1 x1),r14,r8.2)
 else
 if r3==95 then
 cW qq q0_signs q0_at q0_i>>=fun r17=>
 zIk qq r17.1>>=fun r19=>
 if r19 then
 some ((zJ.mk 2 r17.1 x1),true,r17.2)
 else
 if r17.1.toList==(⟨#[95]⟩:ByteArray).toList then
 some ((zJ.mk 1 r17.1 x1),true,r17.2)
 else
 iC qq r17.1>>=fun r23=>
 some ((zJ.mk 1 r17.1 x1),r23,r17.2)
 else
 zCE qq r3>>=fun r25=>
 if r25 then
 P5 qq q0_signs q0_at q0_i>>=fun r28=>
 zLn qq r28.1>>=fun r30=>
 if r30.2 then
 E9 qq q0_signs q0_at r28.2 0>>=fun r33=>
 zLo qq r33>>=fun r35=>
 some ((zJ.mk 3 r28.1 x1),!r35,r28.2)
 else
 some ((zJ.mk 3 r28.1 x1),false,r28.2)
 else
 zNY qq q0_signs q0_at q0_i>>=fun r37=>
 some ((zJ.mk 4 r37.1 x1),decide (r37.2>0),(w64 (q0_i+r37.2)))
theorem zVw{qq q0_signs q0_at q0_i}:Cz (zNZ qq q0_signs q0_at q0_i) 171 [.cells [slv zM q0_signs .no,slv zM q0_at .no,ai q0_i]] [.mp 0 0] (fun r=>.tup [C3 r.1,ab r.2.1]) (fun r=>[.cells [slv zM q0_signs .no,slv zM q0_at .no,ai r.2.2]]) 0:=fw Tryz.func171<|rA 2 (pL (o:=.no)) fun _=>rC 2 [0] zAd fun _=>rK 0 [] zNL (fun _=>rC 0 [0] zCI fun _=>rK 3 [] zRs (fun _=>fE 5) fun _=>rB 4 (fE 1)<|rC 1 [] aM fun _=>fE 1) fun _=>rB 0 (rC 0 [0] zCI fun _=>rK 3 [] zRs (fun _=>fE 5) fun _=>rB 4 (fE 1)<|rC 1 [] aM fun _=>fE 1)<|rK 0 [] zLw (fun _=>rC 0 [0] zLp fun _=>rC 3 [] zTe fun _=>rB 1 (rC 1 [0] zAd fun _=>rC 0 [] zTf fun _=>fE 2)<|fE 2) fun _=>rC 0 [0] zVx fun _=>fE 10
def cX:Nat->ByteArray->(List Int×Int×Int)->(List Int)->(List zJ)->Int->Option (List zJ×Int×Int)
 |0,_,_,_,_,_=>none
 |qq+1,p0,r1,r4,v9,zN=>
 zRo qq r1.1 r4 zN>>=fun r6=>
 if r6.2.1 then
 if decide (r6.2.2≥(List.length r1.1:Int))then
 yR 32 v9 [(zJ.mk 5 (⟨#[]⟩:ByteArray) (p0.size:Int))]>>=fun l10=>
 some (l10,(p0.size:Int),0)
 else
 if decide ((List.length v9:Int)≥8192)then
 zL r4 r6.2.2>>=fun x13=>
 some ([],x13,2)
 else
 zNZ qq r1.1 r4 r6.2.2>>=fun r15=>
 if r15.2.1 then
 yR 32 v9 [r15.1]>>=fun l18=>
 cX qq p0 r1 r4 l18 r15.2.2
 else
 some ([],r15.1.at_,1)
 else
 some ([],r6.1,1)
def zOz(qq:Nat)(p0:ByteArray):Option (List zJ×Int×Int):=
 zLx qq p0>>=fun r1=>
 if r1.2.2 != 0 then
 some ([],r1.2.1,r1.2.2)
 else
 zNP qq r1.1>>=fun r4=>
 cX qq p0 r1 r4 [] 0
theorem zOy:∀qq:Nat,∀p0 r1 r4 v9 zN,Lz (cX qq p0 r1 r4 v9 zN) 0 Tryz.f104 (inn (inn (lft (rgt (rgt (rgt (rgt (rgt (bod Tryz.f104))))))))) (fun j=>sp j 81 0 [(0,at' p0),(8,.mp 0 0),(9,slv zF v9 (.st 0 3))]) ⟨[(0,.cells [slv zM r1.1 .no,slv zM r4 .no,ai zN])],1,[0],1,[]⟩ (fun r=>.tup [.sl (zD zF r.1) (List.length r.1) .no,ai r.2.1,ai r.2.2]) (fun _=>[]) 0 [.blk 0,.seq (rgt (rgt (rgt (rgt (rgt (rgt (bod Tryz.f104)))))))]:=yW (fun _ _ _ _ _=>lN) fun qq ih=>fun p0 r1 r4 v9 zN=>lw fun _=>rC 0 [0] zVy fun _=>rB 1 (rB 4 (rW (fun h11=>oP 2 (zKi h11 (by simp))) fun _=>lE 1)<|rB 1 (rA 2 (pL (o:=.no)) fun _=>lE 1)<|rC 0 [0] zVw fun _=>rB 1 (rW (fun h19=>oP 4 (zKi h19 (by simp))) fun _=>lH 0 [] [0] [1] [0,8,9] (ih _ _ _ _ _))<|lE 3)<|lE 1
theorem zVv{qq p0}:Cz (zOz qq p0) 104 [] [at' p0] (fun r=>.tup [.sl (zD zF r.1) (List.length r.1) .no,ai r.2.1,ai r.2.2]) (fun _=>[]) 0:=fw Tryz.func104<|rC 0 [] zTh fun _=>rB 3 (fE 0)<|rC 0 [] zUX fun _=>fH 0 [(none,9,3)] [0] [0] [0,8,9] (zOy _ _ _ _ _ _)
theorem w7:∀(l:List Int) (b:ByteArray),(l.foldl (fun r n=>r.push (UInt8.ofNat n.toNat)) b).size=b.size+l.length
 | [],b=>rfl
 |x::l,b=>by rw[List.foldl_cons,w7 l,ByteArray.size_push,List.length_cons];omega
theorem aO(l:List Int):(sZ l).size=l.length:=by
 unfold sZ;rw[w7];show 0+_=_;omega
theorem w8{α:Type}{l:List α}{k:Nat}(x:α)(h:k<l.length):X1 l k x=some (l.set k x):=by unfold X1;rw[if_pos h]
theorem w9{n v:Nat}(h:v<n):X0 n (v:Int)=some v:=by unfold X0;rw[if_pos (by omega)];simp
theorem sM{α:Type}{l:List α}{i:Int}(h0:0≤i)(h1:i<l.length):∃x,zL l i=some x∧x∈l:=by
 unfold zL
 rw[if_pos h0]
 have h:i.toNat<l.length:=by omega
 exact⟨_,List.getElem?_eq_getElem h,List.getElem_mem h⟩
theorem zES(n:Int):Tot (fun q=>zEQ q n) fun r=>1≤r∧r≤4:=by
 simp only[zEQ]
 repeat' (first|exact Tot.ret (by simp)|refine Tot.ite (fun _=>?_) (fun _=>?_))
theorem zCJ(w:Int)(x:List U8)(hw:0≤w)(hx:x.length≤4):∀(m:Nat) (n:Int) (b:List U8),m<x.length->b.length=x.length->Tot (fun q=>gJ q w x n (m:Int) b) fun r=>r.1.size≤4
 |0,n,b,hm,hb=>by
  refine Tot.succ ?_
  simp only[gJ]
  refine Tot.ite (fun h=>absurd (of_decide_eq_true h) (by simp)) fun _=>Tot.pure (by unfold zNl;rw[if_neg (by omega)]) (Tot.pure (w9 hm) (Tot.pure (w8 _ (by rw[hb];exact hm)) (Tot.pure (by unfold gtx;rw[if_pos (by rw[List.length_set];exact hb)]) (Tot.ret ?_))))
  show (sZ _).size≤4
  rw[aO,List.length_set];omega
 |m+1,n,b,hm,hb=>by
  refine Tot.succ ?_
  simp only[gJ]
  refine Tot.ite (fun _=>Tot.pure (w9 hm) (Tot.pure (w8 _ (by omega)) ?_)) fun h=>absurd (of_decide_eq_false h) (by omega)
  rw[show w64 (((m+1:Nat):Int)-1)=(m:Int) by rw[zV (by omega) (by omega)];omega]
  exact zCJ w x hw hx m _ _ (by omega) (by rw[List.length_set];exact hb)
theorem zGQ(n:Int):Tot (fun q=>zLr q n) fun r=>r.1.size≤4:=by
 simp only[zLr]
 refine(lZ n).bind fun _ _=>Tot.ite (fun _=>(zES n).bind fun w hw=>Tot.ite (fun _=>Tot.ret (by show (sZ _).size≤4;rw[aO];simp)) fun h=>?_) fun _=>Tot.ret (by decide)
 have h1:w≠1:=by simpa using h
 refine Tot.pure (by unfold gmk;rw[if_pos ⟨by omega,by omega⟩]) ?_
 obtain⟨k,rfl⟩:∃k:Nat,w=(k+1:Nat):=⟨(w-1).toNat,by omega⟩
 rw[show w64 (((k+1:Nat):Int)-1)=(k:Int) by rw[zV (by omega) (by omega)];omega]
 exact zCJ _ _ (by omega) (by simp;omega) k n _ (by simp) (by simp)
theorem u4:∀(r l:List Int) (v:Nat) (acc:List U8),l.drop v=r->l.length≤65535->acc.length≤65535->Tot (fun q=>gL q l (v:Int) acc) fun r=>r.1.size≤65535
 | [],l,v,acc,hd,hl,ha=>by
  refine Tot.succ ?_
  simp only[gL]
  refine Tot.ite (fun h=>?_) fun _=>Tot.ret (by show (sZ _).size≤65535;rw[aO];exact ha)
  rw[zX hd]at h;cases h
 |x::r,l,v,acc,hd,hl,ha=>by
  have hlt:=yC hd
  refine Tot.succ ?_
  simp only[gL]
  refine Tot.ite (fun _=>Tot.pure (zS hd) ((zGQ x).bind fun b hb=>Tot.ite (fun _=>Tot.ret (by decide)) fun h=>?_)) fun h=>by rw[zW hd]at h;cases h
  have h1:=of_decide_eq_false h
  rw[zV (by omega) (by omega)]at h1
  refine Tot.pure (zZ (by rw[lV];omega)) ?_
  rw[zU v (by omega)]
  exact u4 r l (v+1) _ (zQ hd) hl (by rw[List.length_append,lV];omega)
theorem u5:∀(r l:List Int) (v:Nat),l.drop v=r->l.length≤65535->Tot (fun q=>gM q l (v:Int)) fun r=>r.1.size≤65535
 | [],l,v,hd,hl=>by
  refine Tot.succ ?_
  simp only[gM]
  refine Tot.ite (fun h=>?_) fun _=>u4 l l 0 [] rfl hl (by simp)
  rw[zX hd]at h;cases h
 |x::r,l,v,hd,hl=>by
  have hlt:=yC hd
  refine Tot.succ ?_
  simp only[gM]
  refine Tot.ite (fun _=>Tot.pure (zS hd) ((lZ x).bind fun b _=>Tot.ite (fun _=>?_) fun _=>Tot.ret (by decide))) fun h=>by rw[zW hd]at h;cases h
  rw[zU v (by omega)]
  exact u5 r l (v+1) (zQ hd) hl
theorem zCK(l:List Int)(hl:l.length≤65535):Tot (fun q=>zAc q l) fun r=>r.1.size≤65535:=by
 simp only[zAc]
 exact u5 l l 0 rfl hl
theorem cY:∀(r l:List Int) (v:Nat) (acc:List Int) (at0:Int),l.drop v=r->l.length≤65535->v≤l.length->acc.length=v->Tot (fun q=>gK q l (v:Int) acc at0) fun r=>r.length=l.length
 | [],l,v,acc,a,hd,hl,hv,ha=>by
  refine Tot.succ ?_
  simp only[gK]
  refine Tot.ite (fun h=>?_) fun h=>Tot.ret ?_
  ·rw[zX hd]at h;cases h
  ·have:=List.drop_eq_nil_iff.1 hd
   omega
 |x::r,l,v,acc,a,hd,hl,hv,ha=>by
  have hlt:=yC hd
  refine Tot.succ ?_
  simp only[gK]
  refine Tot.ite (fun _=>Tot.pure (zS hd) (Tot.pure (zZ (by simp;omega)) ((zGQ x).bind fun b hb=>?_))) fun h=>by rw[zW hd]at h;cases h
  rw[zU v (by omega)]
  exact cY r l (v+1) _ _ (zQ hd) hl hlt (by simp[ha])
theorem zCL(l:List Int)(hl:l.length≤65535):Tot (fun q=>zNP q l) fun r=>r.length=l.length:=by
 simp only[zNP]
 exact cY l l 0 [] 0 rfl hl (by omega) rfl
def sgT(S:List Int)(i:Int):Int:=if i≥S.length then -1 else(S[i.toNat]?).getD 0
theorem zIg(n:Int):Tot (fun q=>zNR q n) fun _=>True:=by
 simp only[zNR]
 repeat' (first|exact Tot.ret trivial|refine Tot.ite (fun _=>?_) (fun _=>?_))
theorem P6(n:Int):Tot (fun q=>zLo q n) fun _=>True:=by
 simp only[zLo]
 repeat' (first|exact Tot.ret trivial|refine Tot.ite (fun _=>?_) (fun _=>?_)|refine Tot.bind (kA n) (fun _ _=>?_)|refine Tot.bind (mW n) (fun _ _=>?_))
theorem zET(s:ByteArray)(pos:Nat):1≤(Utf8.decode s pos).2:=by
 unfold Utf8.decode
 dsimp only
 repeat' split
 all_goals simp
theorem C9(s:ByteArray):∀(m:Nat) (n:Int) (p:Nat),s.size-p≤m->Tot (fun q=>gN q s n p) fun _=>True
 |m,n,p,hm=>by
  refine Tot.succ ?_
  simp only[gN]
  refine Tot.ite (fun h=>(mW _).bind fun _ _=>Tot.ite (fun _=>?_) fun _=>Tot.ret trivial) fun _=>Tot.ret trivial
  have h1:=of_decide_eq_true h
  have:=zET s p
  cases m with
  |zero=>omega
  |succ m=>exact C9 s m _ _ (by omega)
theorem P7(s:ByteArray):Tot (fun q=>zLn q s) fun _=>True:=by
 simp only[zLn]
 refine Tot.ite (fun _=>Tot.ret trivial) fun h=>Tot.ite (fun _=>Tot.ret trivial) fun _=>?_
 have hp:0<s.size:=by
  rcases Nat.eq_zero_or_pos s.size with e|e
  ·have:s=⟨#[]⟩:=by
    cases s with
    |mk d=>simp only[ByteArray.size]at e;rw[Array.eq_empty_of_size_eq_zero e]
   rw[this]at h;simp at h
  ·exact e
 obtain⟨c,hc⟩:=P4 (s:=s) (i:=0) (by omega) (by omega)
 refine Tot.pure hc (Tot.ite (fun _=>Tot.ite (fun _=>Tot.ret trivial) fun _=>?_) fun _=>?_)<;>exact C9 s _ 0 0 (Nat.le_refl _)
section
variable {S A:List Int} (hS:S.length≤65535)
include hS
theorem pX(i k:Int)(h0:0≤i)(h1:i≤100000)(hk:0≤k∧k≤1):Evt (fun q=>E9 q S A i k) (sgT S (i+k)):=by
 simp only[E9]
 rw[zV (by omega) (by omega)]
 unfold sgT
 by_cases h:i+k≥S.length
 ·rw[if_pos h];exact Evt.ifT (decide_eq_true h) Evt.ret
 ·rw[if_neg h]
  refine Evt.ifF (decide_eq_false h) (Evt.pure (a:=(S[(i+k).toNat]?).getD 0) ?_ Evt.ret)
  unfold zL
  rw[if_pos (by omega),List.getElem?_eq_getElem (show (i+k).toNat<S.length by omega)];rfl
theorem P8(i a b:Int)(h0:0≤i)(h1:i≤100000):Evt (fun q=>zCF q S A i a b) (sgT S i==a&&sgT S (i+1)==b):=by
 simp only[zCF]
 have e:=pX (A:=A) hS i 0 h0 h1 (by omega)
 rw[Int.add_zero]at e
 refine e.bind ?_
 by_cases h:sgT S i=a
 ·rw[show (sgT S i==a)=true by simpa using h,Bool.true_and]
  exact Evt.ifT rfl ((pX hS i 1 h0 h1 (by omega)).bind Evt.ret)
 ·rw[show (sgT S i==a)=false by simpa using h,Bool.false_and]
  exact Evt.ifF rfl Evt.ret
theorem zCM:∀(m:Nat) (i:Int),0≤i->i≤100000->(S.length:Int)-i≤m->Tot (fun q=>cV q S A i) fun r=>i≤r∧(r≤i∨r≤S.length)∧(i<S.length->sgT S i≠10->i<r)
 |m,i,h0,h1,hm=>by
  refine Tot.succ ?_
  simp only[cV]
  refine Tot.ite (fun h=>?_) fun h=>Tot.ret ⟨by omega,by omega,fun h2=>absurd h2 (of_decide_eq_false h)⟩
  have h2:=of_decide_eq_true h
  have e:=pX (A:=A) hS i 0 h0 h1 (by omega)
  rw[Int.add_zero]at e
  refine Tot.bind (e.tot rfl) fun x hx=>?_
  subst hx
  cases m with
  |zero=>omega
  |succ m=>
   refine Tot.ite (fun h3=>?_) fun h3=>Tot.ret ⟨by omega,by omega,fun _ h4=>absurd h4 (by simpa using h3)⟩
   rw[zV (by omega) (by omega)]
   refine(zCM m (i+1) (by omega) (by omega) (by omega)).mono fun r hr=>⟨by omega,by omega,fun _ _=>by omega⟩
theorem P9:∀(m:Nat) (d i:Int),0≤i->i≤100000->(S.length:Int)-i≤m->Tot (fun q=>nQ q S A d i) fun r=>i≤r.2∧(r.2≤i∨r.2≤S.length+1)∧(i<S.length->i<r.2)
 |m,d,i,h0,h1,hm=>by
  refine Tot.succ ?_
  simp only[nQ]
  refine Tot.ite (fun h=>?_) fun h=>Tot.ret ⟨by show i≤i;omega,.inl (by show i≤i;omega),fun h2=>absurd h2 (of_decide_eq_false h)⟩
  have h2:=of_decide_eq_true h
  cases m with
  |zero=>omega
  |succ m=>
   have go:∀(d j:Int),i<j->j≤i+2->Tot (fun q=>nQ q S A d j) fun r=>i≤r.2∧(r.2≤i∨r.2≤S.length+1)∧(i<S.length->i<r.2):=fun d j hj hk=>
    (P9 m d j (by omega) (by omega) (by omega)).mono fun r hr=>⟨by omega,by omega,fun _=>by omega⟩
   refine Tot.bind ((P8 hS i 123 45 h0 h1).tot (P:=fun _=>True) trivial) fun x _=>?_
   rw[zV (x:=i+2) (by omega) (by omega),zV (x:=i+1) (by omega) (by omega)]
   refine Tot.ite (fun _=>go _ _ (by omega) (by omega)) fun _=>Tot.bind ((P8 hS i 45 125 h0 h1).tot (P:=fun _=>True) trivial) fun y _=>?_
   refine Tot.ite (fun _=>Tot.ite (fun _=>Tot.ret ⟨by show i≤i+2;omega,.inr (by show i+2≤_;omega),fun _=>by show i<i+2;omega⟩) fun _=>go _ _ (by omega) (by omega)) fun _=>go _ _ (by omega) (by omega)
theorem zCN(hA:A.length=S.length):∀(m:Nat) (i:Int),0≤i->i≤70000->(S.length:Int)-i≤m->Tot (fun q=>nR q S A i) fun r=>i≤r.2.2∧(r.2.2≤i∨r.2.2≤S.length+1)
 |m,i,h0,h1,hm=>by
  refine Tot.succ ?_
  simp only[nR,zRq,zRp]
  refine Tot.ite (fun h=>?_) fun h=>Tot.ret ⟨by show i≤i;omega,.inl (by show i≤i;omega)⟩
  have h2:=of_decide_eq_true h
  cases m with
  |zero=>omega
  |succ m=>
   have go:∀(j:Int),i<j->j≤S.length+2->(j≤i∨j≤S.length+1)->Tot (fun q=>nR q S A j) fun r=>i≤r.2.2∧(r.2.2≤i∨r.2.2≤S.length+1):=fun j hj hk hl=>
    (zCN hA m j (by omega) (by omega) (by omega)).mono fun r hr=>⟨by omega,by omega⟩
   have ret:∀z:Int×Bool×Int,z.2.2=i->i≤z.2.2∧(z.2.2≤i∨z.2.2≤S.length+1):=fun z hz=>⟨by omega,by omega⟩
   refine Tot.bind ((pX hS i 0 h0 (by omega) (by omega)).tot (P:=fun _=>True) trivial) fun x _=>(zIg x).bind fun _ _=>?_
   rw[zV (x:=i+1) (by omega) (by omega)]
   refine Tot.ite (fun _=>go _ (by omega) (by omega) (by omega)) fun _=>Tot.bind ((P8 hS i 45 45 h0 (by omega)).tot rfl) fun y hy=>Tot.ite (fun h3=>?_) fun _=>?_
   ·subst hy
    simp only[Bool.and_eq_true,beq_iff_eq]at h3
    exact(zCM hS (m+1) i h0 (by omega) hm).bind fun r hr=>go r (hr.2.2 h2 (by rw[h3.1];decide)) (by omega) (by omega)
   ·refine Tot.bind ((P8 hS i 123 45 h0 (by omega)).tot (P:=fun _=>True) trivial) fun y _=>Tot.ite (fun _=>?_) fun _=>Tot.ret (ret _ rfl)
    refine(P9 hS (m+1) 0 i h0 (by omega) hm).bind fun r hr=>Tot.ite (fun _=>go _ (hr.2.2 h2) (by omega) (by omega)) fun _=>?_
    obtain⟨z,hz,_⟩:=sM (l:=A) h0 (by omega)
    exact Tot.pure hz (Tot.ret ⟨by show i≤r.2;omega,by show r.2≤i∨r.2≤S.length+1;omega⟩)
theorem zLm(i:Int)(h0:0≤i)(h1:i≤70000):Tot (fun q=>zNY q S A i) fun r=>0≤r.2∧r.2≤2:=by
 simp only[zNY]
 refine Tot.bind ((pX hS i 0 h0 (by omega) (by omega)).tot (P:=fun _=>True) trivial) fun x _=>?_
 repeat' (first|exact Tot.ret (by simp)|refine Tot.ite (fun _=>?_) (fun _=>?_)|refine Tot.bind ((P8 hS i 45 62 h0 (by omega)).tot (P:=fun _=>True) trivial) (fun _ _=>?_))
theorem zCO(f:Int):∀(m:Nat) (i:Int),0≤f->f≤i->i≤S.length->(S.length:Int)-i≤m->Tot (fun q=>pF q S A f i) fun r=>i≤r.2∧r.2≤S.length
 |m,i,hf,h0,h1,hm=>by
  refine Tot.succ ?_
  simp only[pF]
  have fin:Tot (fun q=>gsl S f i>>=fun x=>zAc q x>>=fun r=>some (r.1,i)) fun r=>i≤r.2∧r.2≤S.length:=
   Tot.pure (by unfold gsl;rw[if_pos ⟨hf,h0,by omega⟩]) ((zCK _ (by rw[List.length_take,List.length_drop];omega)).bind fun _ _=>Tot.ret ⟨by show i≤i;omega,h1⟩)
  refine Tot.ite (fun h=>?_) fun h=>fin
  have h2:=of_decide_eq_true h
  cases m with
  |zero=>omega
  |succ m=>
   refine Tot.bind ((pX hS i 0 (by omega) (by omega) (by omega)).tot (P:=fun _=>True) trivial) fun x _=>(P6 x).bind fun _ _=>Tot.ite (fun _=>?_) fun _=>fin
   rw[zV (x:=i+1) (by omega) (by omega)]
   exact(zCO f m (i+1) hf (by omega) (by omega) (by omega)).mono fun r hr=>⟨by omega,by omega⟩
theorem zCP(f:Int):∀(m:Nat) (i:Int),0≤f->f≤i->i≤S.length->(S.length:Int)-i≤m->Tot (fun q=>pE q S A f i) fun r=>i≤r.2∧r.2≤S.length
 |m,i,hf,h0,h1,hm=>by
  refine Tot.succ ?_
  simp only[pE]
  have fin:Tot (fun q=>gsl S f i>>=fun x=>zAc q x>>=fun r=>some (r.1,i)) fun r=>i≤r.2∧r.2≤S.length:=
   Tot.pure (by unfold gsl;rw[if_pos ⟨hf,h0,by omega⟩]) ((zCK _ (by rw[List.length_take,List.length_drop];omega)).bind fun _ _=>Tot.ret ⟨by show i≤i;omega,h1⟩)
  refine Tot.ite (fun h=>?_) fun h=>fin
  have h2:=of_decide_eq_true h
  cases m with
  |zero=>omega
  |succ m=>
   refine Tot.bind ((pX hS i 0 (by omega) (by omega) (by omega)).tot (P:=fun _=>True) trivial) fun x _=>(mW x).bind fun _ _=>Tot.ite (fun _=>?_) fun _=>fin
   rw[zV (x:=i+1) (by omega) (by omega)]
   exact(zCP f m (i+1) hf (by omega) (by omega) (by omega)).mono fun r hr=>⟨by omega,by omega⟩
theorem zIf(hA:A.length=S.length)(i:Int)(h0:0≤i)(h1:i<S.length):Tot (fun q=>zNZ q S A i) fun r=>i≤r.2.2∧r.2.2≤S.length+1:=by
 simp only[zNZ,cW,P5]
 obtain⟨z,hz,_⟩:=sM (l:=A) h0 (by omega)
 have I:=zCO (A:=A) hS i (S.length-i.toNat) i h0 (by omega) (by omega) (by omega)
 have D:=zCP (A:=A) hS i (S.length-i.toNat) i h0 (by omega) (by omega) (by omega)
 have rt:∀(t:zJ) (b:Bool) (j:Int),i≤j∧j≤S.length->Tot (fun _=>some (t,b,j)) fun r:zJ×Bool×Int=>i≤r.2.2∧r.2.2≤S.length+1:=fun t b j hj=>Tot.ret ⟨hj.1,by show j≤_;omega⟩
 refine Tot.pure hz (Tot.bind ((pX hS i 0 h0 (by omega) (by omega)).tot (P:=fun _=>True) trivial) fun x _=>(kA x).bind fun _ _=>?_)
 refine Tot.ite (fun _=>I.bind fun r hr=>(iD _).bind fun _ _=>Tot.ite (fun _=>rt _ _ _ hr) fun _=>Tot.ite (fun _=>rt _ _ _ hr) fun _=>(uY _).bind fun _ _=>rt _ _ _ hr) fun _=>?_
 refine Tot.ite (fun _=>I.bind fun r hr=>(iD _).bind fun _ _=>Tot.ite (fun _=>rt _ _ _ hr) fun _=>Tot.ite (fun _=>rt _ _ _ hr) fun _=>(uY _).bind fun _ _=>rt _ _ _ hr) fun _=>(mW x).bind fun _ _=>?_
 refine Tot.ite (fun _=>D.bind fun r hr=>(P7 _).bind fun _ _=>Tot.ite (fun _=>?_) fun _=>rt _ _ _ hr) fun _=>(zLm hS i h0 (by omega)).bind fun r hr=>?_
 ·exact Tot.bind ((pX hS r.2 0 (by omega) (by omega) (by omega)).tot (P:=fun _=>True) trivial) fun x _=>(P6 x).bind fun _ _=>rt _ _ _ hr
 ·rw[zV (by omega) (by omega)]
  exact Tot.ret ⟨by show i≤i+r.2;omega,by show i+r.2≤_;omega⟩
end
def zIe(l:List zJ):Prop:=1≤l.length∧l.length≤8193∧((l[l.length-1]?).getD default).kind_=5
theorem u6(s:ByteArray)(r1:List Int×Int×Int)(A:List Int)(hS:r1.1.length≤65535)(hA:A.length=r1.1.length):∀(m:Nat) (acc:List zJ) (i:Int),acc.length≤8192->8192-acc.length≤m->0≤i->i≤r1.1.length+1->Tot (fun q=>cX q s r1 A acc i) fun r=>r.2.2=0->zIe r.1
 |m,acc,i,ha,hm,h0,h1=>by
  refine Tot.succ ?_
  simp only[cX,zRo]
  refine(zCN hS hA r1.1.length i h0 (by omega) (by omega)).bind fun r hr=>Tot.ite (fun _=>?_) fun _=>Tot.ret (by simp)
  refine Tot.ite (fun _=>Tot.pure (zZ (by simp;omega)) (Tot.ret fun _=>⟨by simp,by simp;omega,by simp⟩)) fun h=>?_
  have h2:=of_decide_eq_false h
  refine Tot.ite (fun _=>?_) fun h=>?_
  ·obtain⟨z,hz,_⟩:=sM (l:=A) (i:=r.2.2) (by omega) (by omega)
   exact Tot.pure hz (Tot.ret (by simp))
  ·have h3:=of_decide_eq_false h
   cases m with
   |zero=>omega
   |succ m=>
    refine(zIf hS hA r.2.2 (by omega) (by omega)).bind fun t ht=>Tot.ite (fun _=>Tot.pure (zZ (by simp;omega)) ?_) fun _=>Tot.ret (by simp)
    exact u6 s r1 A hS hA m _ _ (by simp;omega) (by simp;omega) (by omega) (by omega)
theorem zLl(s:ByteArray):Tot (fun q=>zOz q s) fun r=>r.2.2=0->zIe r.1:=by
 simp only[zOz]
 refine(zGO s).bind fun r hr=>Tot.ite (fun h=>Tot.ret fun h2=>?_) fun _=>(zCL r.1 hr).bind fun A hA=>u6 s r A hr hA 8192 [] 0 (by simp) (by simp) (by omega) (by omega)
 have h2:r.2.2=0:=h2
 rw[h2]at h;cases h
mutual
def zId:Nat->zC->Int->Option (Int)
 |0,_,_=>none
 |qq+1,p0,p1=>
 gO qq p0 (w64 (p1+1)) 0
def gO:Nat->zC->Int->Int->Option (Int)
 |0,_,_,_=>none
 |qq+1,p0,v1,v12=>
 if decide (v12<(List.length p0.sub_:Int))then
 zL p0.sub_ v12>>=fun x2=>
 if decide (v1>8192)then
 some v1
 else
 zId qq x2 v1>>=fun r5=>
 gO qq p0 r5 (w64 (v12+1))
 else
 some v1
end
theorem zCQ:∀qq:Nat,(∀p0 p1,Cz (zId qq p0 p1) 312 [] [yQ p0,ai p1] (fun r=>ai r) (fun _=>[]) 0)∧(∀p0 v1 v12,Lz (gO qq p0 v1 v12) 0 Tryz.f312 (inn (inn (rgt (lft (rgt (rgt (bod Tryz.f312))))))) (fun j=>sp j 23 0 [(1,ai v1),(10,slv zH p0.sub_ .no),(11,ai (List.length p0.sub_:Int)),(12,ai v12)]) ⟨[],0,[],0,[]⟩ (fun r=>ai r) (fun _=>[]) 0 [.blk 0,.seq (rgt (rgt (rgt (bod Tryz.f312))))]):=yW ⟨fun _ _=>cN,fun _ _ _=>lN⟩ fun qq ih=>⟨fun p0 p1=>fw Tryz.func312<|fH 3 [] [] [] [1,10,11,12] (ih.2 _ _ _),
 fun p0 v1 v12=>lw fun _=>rB 0 (rA 0 (zCx (o:=.no)) fun _=>rB 2 (lE 0)<|rC 1 [] (ih.1 _ _) fun _=>lH 1 [] [] [] [1,10,11,12] (ih.2 _ _ _))<|lE 0⟩
theorem zVu{qq p0 p1}:Cz (zId qq p0 p1) 312 [] [yQ p0,ai p1] (fun r=>ai r) (fun _=>[]) 0:=(zCQ _).1 _ _
def zRn(qq:Nat)(p0:zC):Option (Int):=
 zId qq p0 0>>=fun r1=>
 some r1
theorem zVt{qq p0}:Cz (zRn qq p0) 276 [] [yQ p0] (fun r=>ai r) (fun _=>[]) 0:=fw Tryz.func276<|rC 1 [] zVu fun _=>fE 0
mutual
def zIc:Nat->zC->Int->Option (Int)
 |0,_,_=>none
 |qq+1,p0,p1=>
 if decide (p1>128)then
 some p1
 else
 gP qq p0 p1 0 p1
def gP:Nat->zC->Int->Int->Int->Option (Int)
 |0,_,_,_,_=>none
 |qq+1,p0,p1,v15,v5=>
 if decide (v15<(List.length p0.sub_:Int))then
 zL p0.sub_ v15>>=fun x3=>
 zIc qq x3 (w64 (p1+1))>>=fun r5=>
 gP qq p0 p1 (w64 (v15+1)) (mA v5 r5)
 else
 some v5
end
theorem zCR:∀qq:Nat,(∀p0 p1,Cz (zIc qq p0 p1) 277 [] [yQ p0,ai p1] (fun r=>ai r) (fun _=>[]) 0)∧(∀p0 p1 v15 v5,Lz (gP qq p0 p1 v15 v5) 0 Tryz.f277 (inn (inn (rgt (lft (rgt (rgt (rgt (bod Tryz.f277)))))))) (fun j=>sp j 27 0 [(1,ai p1),(5,ai v5),(13,slv zH p0.sub_ .no),(14,ai (List.length p0.sub_:Int)),(15,ai v15)]) ⟨[],0,[],0,[]⟩ (fun r=>ai r) (fun _=>[]) 0 [.blk 0,.seq (rgt (rgt (rgt (rgt (bod Tryz.f277)))))]):=yW ⟨fun _ _=>cN,fun _ _ _ _=>lN⟩ fun qq ih=>⟨fun p0 p1=>fw Tryz.func277<|rB 0 (fE 0)<|fH 2 [] [] [] [1,5,13,14,15] (ih.2 _ _ _ _),
 fun p0 p1 v15 v5=>lw fun _=>rB 0 (rA 0 (zCx (o:=.no)) fun _=>rC 4 [] (ih.1 _ _) fun _=>lH 2 [] [] [] [1,5,13,14,15] (ih.2 _ _ _ _))<|lE 0⟩
theorem zVs{qq p0 p1}:Cz (zIc qq p0 p1) 277 [] [yQ p0,ai p1] (fun r=>ai r) (fun _=>[]) 0:=(zCR _).1 _ _
def zLk(qq:Nat)(p0:zC):Option (Int):=
 zRn qq p0>>=fun r1=>
 if decide (r1>8192)then
 some 129
 else
 zIc qq p0 1>>=fun r4=>
 some r4
theorem zTd{qq p0}:Cz (zLk qq p0) 234 [] [yQ p0] (fun r=>ai r) (fun _=>[]) 0:=fw Tryz.func234<|rC 1 [] zVt fun _=>rB 0 (fE 0)<|rC 1 [] zVs fun _=>fE 0
def zLj(qq:Nat)(p0:zC):Option (Bool):=
 zLk qq p0>>=fun r1=>
 some (decide (r1≤128))
theorem zTc{qq p0}:Cz (zLj qq p0) 181 [] [yQ p0] (fun r=>ab r) (fun _=>[]) 0:=fw Tryz.func181<|rC 1 [] zTd fun _=>fE 1
def zOx(qq:Nat)(p0:Int):Option (Int):=
 if decide (p0<1)then
 some (-2)
 else
 if decide (p0>10)then
 some (-2)
 else
 zL ([0,0,0,2,2,2,0,0,(-1),0,1]:List Int) p0>>=fun x3=>
 some x3
theorem zVr{qq p0}:Cz (zOx qq p0) 283 [] [ai p0] (fun r=>ai r) (fun _=>[]) 0:=fw Tryz.func283<|rB 0 (fE 0)<|rB 0 (fE 0)<|rW (fun h4=>oA 0 (zKb h4 rfl)) fun _=>fE 0
def zEU(qq:Nat)(p0:zC):Option (Bool):=
 if p0.kind_==1 then
 iC qq p0.name_>>=fun r2=>
 some r2
 else
 if p0.kind_==6 then
 iC qq p0.name_>>=fun r5=>
 some r5
 else
 if p0.kind_==8 then
 iC qq p0.name_>>=fun r8=>
 some r8
 else
 if p0.kind_==3 then
 if p0.name_.toList==(⟨#[95]⟩:ByteArray).toList then
 some true
 else
 iC qq p0.name_>>=fun r12=>
 some r12
 else
 if p0.kind_==4 then
 if p0.name_.toList==(⟨#[95]⟩:ByteArray).toList then
 some true
 else
 iC qq p0.name_>>=fun r16=>
 some r16
 else
 some (p0.name_.toList==(⟨#[]⟩:ByteArray).toList)
theorem zOw{qq p0}:Cz (zEU qq p0) 284 [] [yQ p0] (fun r=>ab r) (fun _=>[]) 0:=fw Tryz.func284<|rB 1 (rC 1 [] aM fun _=>fE 0)<|rB 0 (rC 1 [] aM fun _=>fE 0)<|rB 0 (rC 1 [] aM fun _=>fE 0)<|rB 0 (rB 1 (fE 0)<|rC 1 [] aM fun _=>fE 0)<|rB 0 (rB 1 (fE 0)<|rC 1 [] aM fun _=>fE 0)<|fE 2
def zLi(qq:Nat)(p0:zC):Option (Bool):=
 zOx qq p0.kind_>>=fun r1=>
 if r1==(-2)then
 some false
 else
 if decide (r1≥0)then
 if (List.length p0.sub_:Int) != r1 then
 some false
 else
 if r1==(-1)then
 if (List.length p0.sub_:Int)==0 then
 some false
 else
 zEU qq p0>>=fun r8=>
 if r8 then
 if p0.kind_==2 then
 if decide (p0.n_≥0)then
 some (decide (p0.n_≤7))
 else
 some false
 else
 some (p0.n_==0)
 else
 some false
 else
 zEU qq p0>>=fun r13=>
 if r13 then
 if p0.kind_==2 then
 if decide (p0.n_≥0)then
 some (decide (p0.n_≤7))
 else
 some false
 else
 some (p0.n_==0)
 else
 some false
 else
 if r1==(-1)then
 if (List.length p0.sub_:Int)==0 then
 some false
 else
 zEU qq p0>>=fun r20=>
 if r20 then
 if p0.kind_==2 then
 if decide (p0.n_≥0)then
 some (decide (p0.n_≤7))
 else
 some false
 else
 some (p0.n_==0)
 else
 some false
 else
 zEU qq p0>>=fun r25=>
 if r25 then
 if p0.kind_==2 then
 if decide (p0.n_≥0)then
 some (decide (p0.n_≤7))
 else
 some false
 else
 some (p0.n_==0)
 else
 some false
theorem zTb{qq p0}:Cz (zLi qq p0) 241 [] [yQ p0] (fun r=>ab r) (fun _=>[]) 0:=fw Tryz.func241<|rC 1 [] zVr fun _=>rB 0 (fE 0)<|rB 0 (rB 2 (fE 0)<|rB 0 (rB 2 (fE 0)<|rK 1 [] zOw (fun _=>rB 2 (rB 1 (fE 2)<|fE 0)<|fE 2) fun _=>fE 1)<|rK 1 [] zOw (fun _=>rB 2 (rB 1 (fE 2)<|fE 0)<|fE 2) fun _=>fE 1)<|rB 0 (rB 2 (fE 0)<|rK 1 [] zOw (fun _=>rB 2 (rB 1 (fE 2)<|fE 0)<|fE 2) fun _=>fE 1)<|rK 1 [] zOw (fun _=>rB 2 (rB 1 (fE 2)<|fE 0)<|fE 2) fun _=>fE 1
mutual
def zCS:Nat->zC->Bool->Option (Bool)
 |0,_,_=>none
 |qq+1,p0,p1=>
 if p1 then
 zLi qq p0>>=fun r1=>
 if r1 then
 if !(decide (p0.kind_≥6)==true)then
 some false
 else
 nS qq p0 true 0
 else
 some false
 else
 zLi qq p0>>=fun r5=>
 if r5 then
 if !(decide (p0.kind_≥6)==false)then
 some false
 else
 nS qq p0 false 0
 else
 some false
def nS:Nat->zC->Bool->Int->Option (Bool)
 |0,_,_,_=>none
 |qq+1,p0,v1,v20=>
 if v1 then
 if decide (v20<(List.length p0.sub_:Int))then
 zL p0.sub_ v20>>=fun x6=>
 zCS qq x6 (p0.kind_ != 10)>>=fun r8=>
 if r8 then
 nS qq p0 true (w64 (v20+1))
 else
 some false
 else
 some true
 else
 if decide (v20<(List.length p0.sub_:Int))then
 zL p0.sub_ v20>>=fun x12=>
 zCS qq x12 false>>=fun r14=>
 if r14 then
 nS qq p0 false (w64 (v20+1))
 else
 some false
 else
 some true
end
theorem zCT:∀qq:Nat,(∀p0 p1,Cz (zCS qq p0 p1) 182 [] [yQ p0,ab p1] (fun r=>ab r) (fun _=>[]) 0)∧(∀p0 v1 v20,Lz (nS qq p0 v1 v20) 0 Tryz.f182 (inn (inn (rgt (lft (rgt (rgt (bod Tryz.f182))))))) (fun j=>sp j 34 0 [(1,ab v1),(2,.mp 0 0),(18,slv zH p0.sub_ .no),(19,ai (List.length p0.sub_:Int)),(20,ai v20)]) ⟨[(0,.cells [ai p0.kind_,ai p0.at_,at' p0.name_,ai p0.n_,slv zH p0.sub_ .no])],1,[],0,[]⟩ (fun r=>ab r) (fun _=>[]) 0 [.blk 0,.seq (rgt (rgt (rgt (bod Tryz.f182))))]):=yW ⟨fun _ _=>cN,fun _ _ _=>lN⟩ fun qq ih=>⟨fun p0 p1=>fw Tryz.func182<|rI (fun hb=>by subst hb;exact rK 1 [] zTb (fun _=>rB 3 (fE 0)<|fH 2 [] [0] [] [1,2,18,19,20] (ih.2 _ _ _)) fun _=>fE 1) fun hb=>by subst hb;exact rK 1 [] zTb (fun _=>rB 3 (fE 0)<|fH 2 [] [0] [] [1,2,18,19,20] (ih.2 _ _ _)) fun _=>fE 1,
 fun p0 v1 v20=>lw fun _=>rI (fun hb=>by subst hb;exact rB 0 (rA 0 (zCx (o:=.no)) fun _=>rK 5 [] (ih.1 _ _) (fun _=>lH 2 [] [0] [] [1,2,18,19,20] (ih.2 _ _ _)) fun _=>lE 1)<|lE 0) fun hb=>by subst hb;exact rB 0 (rA 0 (zCx (o:=.no)) fun _=>rK 3 [] (ih.1 _ _) (fun _=>lH 2 [] [0] [] [1,2,18,19,20] (ih.2 _ _ _)) fun _=>lE 1)<|lE 0⟩
theorem zTa{qq p0 p1}:Cz (zCS qq p0 p1) 182 [] [yQ p0,ab p1] (fun r=>ab r) (fun _=>[]) 0:=(zCT _).1 _ _
def zEV(qq:Nat)(p0:zC):Option (Bool):=
 zLj qq p0>>=fun r1=>
 if r1 then
 zCS qq p0 false>>=fun r4=>
 some r4
 else
 some false
theorem zOv{qq p0}:Cz (zEV qq p0) 117 [] [yQ p0] (fun r=>ab r) (fun _=>[]) 0:=fw Tryz.func117<|rK 1 [] zTc (fun _=>rC 1 [] zTa fun _=>fE 0) fun _=>fE 0
def gQ:Nat->(List zP)->Int->Int->Option (Bool)
 |0,_,_,_=>none
 |qq+1,p0,p1,v9=>
 if decide (v9<(List.length p0:Int))then
 zL p0 v9>>=fun x2=>
 if decide ((List.length p0:Int)>p1)then
 some false
 else
 iC qq x2.name_>>=fun r5=>
 if r5 then
 zEV qq x2.type_>>=fun r8=>
 if r8 then
 gQ qq p0 p1 (w64 (v9+1))
 else
 some false
 else
 some false
 else
 some true
def zLh(qq:Nat)(p0:List zP)(p1:Int):Option (Bool):=
 gQ qq p0 p1 0
theorem zOu:∀qq:Nat,∀p0 p1 v9,Lz (gQ qq p0 p1 v9) 0 Tryz.f118 (inn (inn (rgt (lft (rgt (bod Tryz.f118)))))) (fun j=>sp j 30 0 [(0,slv zB p0 .no),(1,ai p1),(7,slv zB p0 .no),(8,ai (List.length p0:Int)),(9,ai v9)]) ⟨[],0,[],0,[]⟩ (fun r=>ab r) (fun _=>[]) 0 [.blk 0,.seq (rgt (rgt (bod Tryz.f118)))]:=yW (fun _ _ _=>lN) fun qq ih=>fun p0 p1 v9=>lw fun _=>rB 0 (rA 0 (zCy (o:=.no)) fun _=>rB 3 (lE 0)<|rK 1 [] aM (fun _=>rK 2 [] zOv (fun _=>lH 2 [] [] [] [0,1,7,8,9] (ih _ _ _)) fun _=>lE 1) fun _=>lE 1)<|lE 0
theorem zTA{qq p0 p1}:Cz (zLh qq p0 p1) 118 [] [slv zB p0 .no,ai p1] (fun r=>ab r) (fun _=>[]) 0:=fw Tryz.func118<|fH 1 [] [] [] [0,1,7,8,9] (zOu _ _ _ _)
def zOt(qq:Nat)(p0:zC):Option (Bool):=
 zLj qq p0>>=fun r1=>
 if r1 then
 zCS qq p0 true>>=fun r4=>
 some r4
 else
 some false
theorem zVq{qq p0}:Cz (zOt qq p0) 183 [] [yQ p0] (fun r=>ab r) (fun _=>[]) 0:=fw Tryz.func183<|rK 1 [] zTc (fun _=>rC 1 [] zTa fun _=>fE 0) fun _=>fE 0
def gR:Nat->yT->Int->Option (Bool)
 |0,_,_=>none
 |qq+1,p0,v13=>
 if decide (v13<(List.length p0.pats_:Int))then
 zL p0.pats_ v13>>=fun x3=>
 zOt qq x3>>=fun r5=>
 if r5 then
 gR qq p0 (w64 (v13+1))
 else
 some false
 else
 if p0.has_ then
 zEV qq p0.body_>>=fun r9=>
 some r9
 else
 if p0.body_.kind_==0 then
 if p0.body_.at_==0 then
 if p0.body_.name_.toList==(⟨#[]⟩:ByteArray).toList then
 if p0.body_.n_==0 then
 some ((List.length p0.body_.sub_:Int)==0)
 else
 some false
 else
 some false
 else
 some false
 else
 some false
def zRm(qq:Nat)(p0:yT):Option (Bool):=
 if decide ((List.length p0.pats_:Int)>24)then
 some false
 else
 gR qq p0 0
theorem zOs:∀qq:Nat,∀p0 v13,Lz (gR qq p0 v13) 0 Tryz.f119 (inn (inn (rgt (lft (rgt (rgt (bod Tryz.f119))))))) (fun j=>sp j 52 0 [(1,.mp 0 0),(11,slv zH p0.pats_ .no),(12,ai (List.length p0.pats_:Int)),(13,ai v13)]) ⟨[(0,.cells [ai p0.at_,slv zH p0.pats_ .no,ab p0.has_,ai p0.body_.kind_,ai p0.body_.at_,at' p0.body_.name_,ai p0.body_.n_,slv zH p0.body_.sub_ .no])],1,[],0,[]⟩ (fun r=>ab r) (fun _=>[]) 0 [.blk 0,.seq (rgt (rgt (rgt (bod Tryz.f119))))]:=yW (fun _ _=>lN) fun qq ih=>fun p0 v13=>lw fun _=>rB 0 (rA 0 (zCx (o:=.no)) fun _=>rK 3 [] zVq (fun _=>lH 2 [] [0] [] [1,11,12,13] (ih _ _)) fun _=>lE 1)<|rB 0 (rC 1 [] zOv fun _=>lE 0)<|rB 3 (rB 1 (rB 1 (rB 1 (lE 3)<|lE 0)<|lE 0)<|lE 0)<|lE 0
theorem zVp{qq p0}:Cz (zRm qq p0) 119 [] [zBX p0] (fun r=>ab r) (fun _=>[]) 0:=fw Tryz.func119<|rB 2 (fE 0)<|fH 2 [] [0] [] [1,11,12,13] (zOs _ _ _)
def mE:Nat->yJ->Int->Option (Bool)
 |0,_,_=>none
 |qq+1,p0,v70=>
 if decide (v70<(List.length p0.rows_:Int))then
 zL p0.rows_ v70>>=fun x21=>
 zRm qq x21>>=fun r23=>
 if r23 then
 mE qq p0 (w64 (v70+1))
 else
 some false
 else
 some true
def e56(qq:Nat)(p0:yJ):Option (Bool):=
 if decide (p0.kind_<1)then
 some false
 else
 if decide (p0.kind_>3)then
 some false
 else
 iC qq p0.name_>>=fun r3=>
 if r3 then
 zEV qq p0.type_>>=fun r6=>
 if r6 then
 zLh qq p0.tele_ 24>>=fun r9=>
 if r9 then
 zLh qq p0.cons_ 16>>=fun r12=>
 if r12 then
 if p0.kind_==3 then
 if decide ((w64 ((List.length p0.tele_:Int)+(List.length p0.cons_:Int)))>0)then
 some false
 else
 if p0.kind_ != 3 then
 if decide ((List.length p0.rows_:Int)>0)then
 some false
 else
 if decide ((List.length p0.rows_:Int)>32)then
 some false
 else
 mE qq p0 0
 else
 if decide ((List.length p0.rows_:Int)>32)then
 some false
 else
 mE qq p0 0
 else
 if p0.kind_ != 3 then
 if decide ((List.length p0.rows_:Int)>0)then
 some false
 else
 if decide ((List.length p0.rows_:Int)>32)then
 some false
 else
 mE qq p0 0
 else
 if decide ((List.length p0.rows_:Int)>32)then
 some false
 else
 mE qq p0 0
 else
 some false
 else
 some false
 else
 some false
 else
 some false
theorem zAb:∀qq:Nat,∀p0 v70,Lz (mE qq p0 v70) 0 Tryz.f56 (inn (inn (rgt (lft (rgt (rgt (rgt (bod Tryz.f56)))))))) (fun j=>sp j 78 0 [(68,slv zO p0.rows_ .no),(69,ai (List.length p0.rows_:Int)),(70,ai v70)]) ⟨[],0,[],0,[]⟩ (fun r=>ab r) (fun _=>[]) 0 [.blk 0,.seq (rgt (rgt (rgt (rgt (bod Tryz.f56)))))]:=yW (fun _ _=>lN) fun qq ih=>fun p0 v70=>lw fun _=>rB 0 (rA 0 (zUb (o:=.no)) fun _=>rK 3 [] zVp (fun _=>lH 2 [] [] [] [68,69,70] (ih _ _)) fun _=>lE 1)<|lE 0
theorem c56{qq p0}:Cz (e56 qq p0) 56 [] [aI p0] (fun r=>ab r) (fun _=>[]) 0:=fw Tryz.func56<|rB 1 (fE 0)<|rB 1 (fE 0)<|rK 1 [] aM (fun _=>rK 2 [] zOv (fun _=>rK 2 [] zTA (fun _=>rK 2 [] zTA (fun _=>rB 2 (rB 5 (fE 0)<|rB 1 (rB 2 (fE 0)<|rB 2 (fE 0)<|fH 2 [] [] [] [68,69,70] (zAb _ _ _))<|rB 2 (fE 0)<|fH 2 [] [] [] [68,69,70] (zAb _ _ _))<|rB 1 (rB 2 (fE 0)<|rB 2 (fE 0)<|fH 2 [] [] [] [68,69,70] (zAb _ _ _))<|rB 2 (fE 0)<|fH 2 [] [] [] [68,69,70] (zAb _ _ _)) fun _=>fE 1) fun _=>fE 1) fun _=>fE 1) fun _=>fE 1
mutual
def nOk:zC->Prop
 | .mk _ _ _ _ l=>l.length≤1099511627776∧X2 l
def X2:List zC->Prop
 | []=>True
 |t::l=>nOk t∧X2 l
end
mutual
def ndN:zC->Nat
 | .mk _ _ _ _ l=>1+ndL l
def ndL:List zC->Nat
 | []=>0
 |t::l=>ndN t+ndL l
end
inductive XOk:zC->Prop where
 |leaf {k a n m l} (h:k=1∨k=2):XOk (.mk k a n m l)
 |two {k a n m x y} (h:k=3∨k=4∨k=5) (hx:XOk x) (hy:XOk y):XOk (.mk k a n m [x,y])
def xL:List zC->Prop
 | []=>True
 |x::l=>XOk x∧xL l
mutual
theorem u7:∀(t:zC) (h:Int),nOk t->0≤h->h≤8192->Tot (fun q=>zId q t h) fun r=>h<r∧r≤8193∧(r≤8192->h+ndN t≤r)
 | .mk k a n m l,h,ho,h0,h1=>by
  refine Tot.succ ?_
  simp only[zId]
  rw[zV (by omega) (by omega)]
  refine(Q0 l (.mk k a n m l) 0 (h+1) rfl ho.1 ho.2 (by omega) (by omega)).mono fun r hr=>⟨by omega,hr.2.1,fun h2=>?_⟩
  have:=hr.2.2 h2
  rw[ndN];omega
theorem Q0:∀(l:List zC) (p:zC) (v:Nat) (h:Int),p.sub_.drop v=l->p.sub_.length≤1099511627776->X2 l->0≤h->h≤8193->Tot (fun q=>gO q p h (v:Int)) fun r=>h≤r∧r≤8193∧(r≤8192->h+ndL l≤r)
 | [],p,v,h,hd,hl,ho,h0,h1=>by
  refine Tot.succ ?_
  simp only[gO]
  refine Tot.ite (fun h=>?_) fun _=>Tot.ret ⟨by omega,h1,fun _=>by rw[ndL];omega⟩
  rw[zX hd]at h;cases h
 |t::l,p,v,h,hd,hl,ho,h0,h1=>by
  have:=yC hd
  refine Tot.succ ?_
  simp only[gO]
  refine Tot.ite (fun _=>Tot.pure (zS hd) (Tot.ite (fun h2=>Tot.ret ⟨by omega,h1,fun h3=>absurd h3 (by have:=of_decide_eq_true h2;omega)⟩) fun h2=>?_)) fun h=>by rw[zW hd]at h;cases h
  have h3:=of_decide_eq_false h2
  refine(u7 t h ho.1 h0 (by omega)).bind fun r hr=>?_
  rw[zU v (by omega)]
  refine(Q0 l p (v+1) r (zQ hd) hl ho.2 (by omega) hr.2.1).mono fun s hs=>⟨by omega,hs.2.1,fun h4=>?_⟩
  have:=hs.2.2 h4
  have:=hr.2.2 (by omega)
  rw[ndL];omega
end
mutual
theorem u9:∀(t:zC) (a:Int),nOk t->Tot (fun q=>zIc q t a) fun _=>True
 | .mk k b n m l,a,ho=>by
  refine Tot.succ ?_
  simp only[zIc]
  exact Tot.ite (fun _=>Tot.ret trivial) fun _=>Q1 l (.mk k b n m l) 0 a a rfl ho.1 ho.2
theorem Q1:∀(l:List zC) (p:zC) (v:Nat) (a m:Int),p.sub_.drop v=l->p.sub_.length≤1099511627776->X2 l->Tot (fun q=>gP q p a (v:Int) m) fun _=>True
 | [],p,v,a,m,hd,hl,ho=>by
  refine Tot.succ ?_
  simp only[gP]
  refine Tot.ite (fun h=>?_) fun _=>Tot.ret trivial
  rw[zX hd]at h;cases h
 |t::l,p,v,a,m,hd,hl,ho=>by
  have:=yC hd
  refine Tot.succ ?_
  simp only[gP]
  refine Tot.ite (fun _=>Tot.pure (zS hd) ((u9 t _ ho.1).bind fun r _=>?_)) fun h=>by rw[zW hd]at h;cases h
  rw[zU v (by omega)]
  exact Q1 l p (v+1) a _ (zQ hd) hl ho.2
end
theorem Q3(t:zC)(ho:nOk t):Tot (fun q=>zLk q t) fun r=>r≤128->ndN t≤8192:=by
 simp only[zLk,zRn]
 refine((u7 t 0 ho (by omega) (by omega)).bind (Q:=fun r:Int=>r≤8192->ndN t≤8192) fun r hr=>Tot.ret fun h=>by have:=hr.2.2 h;omega).bind fun r hr=>Tot.ite (fun _=>Tot.ret fun h=>absurd h (by decide)) fun h=>?_
 have h2:=of_decide_eq_false h
 exact(u9 t 1 ho).bind fun s _=>Tot.ret fun _=>hr (by omega)
theorem t6(t:zC)(ho:nOk t):Tot (fun q=>zLj q t) fun b=>b=true->ndN t≤8192:=by
 simp only[zLj]
 exact(Q3 t ho).bind fun r hr=>Tot.ret fun h=>hr (of_decide_eq_true h)
theorem zIb(k:Int):Tot (fun q=>zOx q k) fun r=>(k=3∨k=4∨k=5->r=2)∧(k<1∨10<k->r = -2):=by
 simp only[zOx]
 refine Tot.ite (fun h=>Tot.ret ⟨fun h2=>absurd (of_decide_eq_true h) (by omega),fun _=>rfl⟩) fun h=>Tot.ite (fun h=>Tot.ret ⟨fun h2=>absurd (of_decide_eq_true h) (by omega),fun _=>rfl⟩) fun h2=>?_
 have h3:=of_decide_eq_false h
 have h4:=of_decide_eq_false h2
 have:k=1∨k=2∨k=3∨k=4∨k=5∨k=6∨k=7∨k=8∨k=9∨k=10:=by omega
 rcases this with rfl|rfl|rfl|rfl|rfl|rfl|rfl|rfl|rfl|rfl<;>exact Tot.pure rfl (Tot.ret (by decide))
theorem t7(t:zC):Tot (fun q=>zEU q t) fun _=>True:=by
 simp only[zEU]
 repeat' (first|exact Tot.ret trivial|refine Tot.ite (fun _=>?_) (fun _=>?_)|refine Tot.bind (uY _) (fun _ _=>?_))
theorem t8(t:zC):Tot (fun q=>zLi q t) fun b=>b=true->(1≤t.kind_∧t.kind_≤10)∧(t.kind_=3∨t.kind_=4∨t.kind_=5->t.sub_.length=2):=by
 simp only[zLi]
 refine(zIb t.kind_).bind fun r hr=>Tot.ite (fun _=>Tot.ret (by simp)) fun h=>?_
 have h1:r≠-2:=by simpa using h
 have k1:1≤t.kind_∧t.kind_≤10:=⟨Int.not_lt.1 fun h=>h1 (hr.2 (.inl h)),Int.not_lt.1 fun h=>h1 (hr.2 (.inr h))⟩
 have go:((t.kind_=3∨t.kind_=4∨t.kind_=5)->t.sub_.length=2)->∀b:Bool,Tot (fun _=>some b) fun b=>b=true->(1≤t.kind_∧t.kind_≤10)∧(t.kind_=3∨t.kind_=4∨t.kind_=5->t.sub_.length=2):=fun h b=>Tot.ret fun _=>⟨k1,h⟩
 refine Tot.ite (fun h2=>Tot.ite (fun _=>Tot.ret (by simp)) fun h3=>?_) fun h2=>?_
 ·have h4:(t.sub_.length:Int)=r:=by simpa using h3
  have e:(t.kind_=3∨t.kind_=4∨t.kind_=5)->t.sub_.length=2:=fun h=>by have:=hr.1 h;omega
  repeat' (first|exact go e _|refine Tot.ite (fun _=>?_) (fun _=>?_)|refine Tot.bind (t7 _) (fun _ _=>?_))
 ·have e:(t.kind_=3∨t.kind_=4∨t.kind_=5)->t.sub_.length=2:=fun h=>by have:=hr.1 h;have:=of_decide_eq_false h2;omega
  repeat' (first|exact go e _|refine Tot.ite (fun _=>?_) (fun _=>?_)|refine Tot.bind (t7 _) (fun _ _=>?_))
mutual
theorem gS:∀(t:zC) (p:Bool),nOk t->Tot (fun q=>zCS q t p) fun b=>b=true->p=false->XOk t
 | .mk k a n m l,p,ho=>by
  refine Tot.succ ?_
  simp only[zCS]
  cases p with
  |true=>
   refine Tot.ite (fun _=>(t8 _).bind fun _ _=>Tot.ite (fun _=>Tot.ite (fun _=>Tot.ret (by simp)) fun _=>?_) fun _=>Tot.ret (by simp)) fun h=>nomatch h
   exact(kB l (.mk k a n m l) 0 true rfl ho.1 ho.2).mono fun _ _ _ h=>nomatch h
  |false=>
   refine Tot.ite (fun h=>nomatch h) fun _=>(t8 _).bind fun b hb=>Tot.ite (fun h1=>Tot.ite (fun _=>Tot.ret (by simp)) fun h2=>?_) fun _=>Tot.ret (by simp)
   refine(kB l (.mk k a n m l) 0 false rfl ho.1 ho.2).mono fun c hc h3 _=>?_
   have hk:=hb h1
   have hx:=hc h3 rfl
   simp only[zC.kind_,zC.sub_]at hk h2
   have h4:k<6:=by simpa using h2
   have:(k=1∨k=2)∨(k=3∨k=4∨k=5):=by omega
   rcases this with h5|h5
   ·exact .leaf h5
   ·have hl:=hk.2 h5
    match l,hl,hx with
    | [x,y],_,hx=>exact .two h5 hx.1 hx.2.1
theorem kB:∀(l:List zC) (t:zC) (v:Nat) (p:Bool),t.sub_.drop v=l->t.sub_.length≤1099511627776->X2 l->Tot (fun q=>nS q t p (v:Int)) fun b=>b=true->p=false->xL l
 | [],t,v,p,hd,hl,ho=>by
  refine Tot.succ ?_
  simp only[nS]
  cases p<;>refine Tot.ite (fun h=>Tot.ite (fun h=>?_) fun _=>Tot.ret fun _ _=>trivial) fun h=>Tot.ite (fun h=>?_) fun _=>Tot.ret fun _ _=>trivial<;>first | (rw[zX hd]at h;cases h)|cases h
 |x::l,t,v,p,hd,hl,ho=>by
  have:=yC hd
  refine Tot.succ ?_
  simp only[nS]
  rw[zU v (by omega)]
  cases p with
  |true=>
   refine Tot.ite (fun _=>Tot.ite (fun _=>Tot.pure (zS hd) ((gS x _ ho.1).bind fun _ _=>Tot.ite (fun _=>?_) fun _=>Tot.ret (by simp))) fun h=>by rw[zW hd]at h;cases h) fun h=>nomatch h
   exact(kB l t (v+1) true (zQ hd) hl ho.2).mono fun _ _ _ h=>nomatch h
  |false=>
   refine Tot.ite (fun h=>nomatch h) fun _=>Tot.ite (fun _=>Tot.pure (zS hd) ((gS x _ ho.1).bind fun b hb=>Tot.ite (fun h1=>?_) fun _=>Tot.ret (by simp))) fun h=>by rw[zW hd]at h;cases h
   exact(kB l t (v+1) false (zQ hd) hl ho.2).mono fun c hc h2 h3=>⟨hb h1 rfl,hc h2 h3⟩
end
theorem cZ(t:zC)(ho:nOk t):Tot (fun q=>zEV q t) fun b=>b=true->XOk t∧ndN t≤8192:=by
 simp only[zEV]
 exact(t6 t ho).bind fun b hb=>Tot.ite (fun h=>(gS t false ho).bind fun c hc=>Tot.ret fun h2=>⟨hc h2 rfl,hb h⟩) fun _=>Tot.ret (by simp)
theorem zCU(t:zC)(ho:nOk t):Tot (fun q=>zOt q t) fun _=>True:=by
 simp only[zOt]
 exact(t6 t ho).bind fun b hb=>Tot.ite (fun h=>(gS t true ho).bind fun c hc=>Tot.ret trivial) fun _=>Tot.ret trivial
def bOk(l:List zP):Prop:=∀b∈l,nOk b.type_
theorem Q4(most:Int):∀(r l:List zP) (v:Nat),l.drop v=r->l.length≤1099511627776->bOk l->Tot (fun q=>gQ q l most (v:Int)) fun b=>b=true->r≠[]->l.length≤most
 | [],l,v,hd,hl,ho=>by
  refine Tot.succ ?_
  simp only[gQ]
  refine Tot.ite (fun h=>?_) fun _=>Tot.ret fun _ h=>absurd rfl h
  rw[zX hd]at h;cases h
 |x::r,l,v,hd,hl,ho=>by
  have:=yC hd
  have hm:x∈l:=List.mem_of_mem_drop (hd▸List.mem_cons_self ..)
  refine Tot.succ ?_
  simp only[gQ]
  refine Tot.ite (fun _=>Tot.pure (zS hd) (Tot.ite (fun _=>Tot.ret (by simp)) fun h=>(uY _).bind fun _ _=>Tot.ite (fun _=>(cZ _ (ho x hm)).bind fun _ _=>Tot.ite (fun _=>?_) fun _=>Tot.ret (by simp)) fun _=>Tot.ret (by simp))) fun h=>by rw[zW hd]at h;cases h
  rw[zU v (by omega)]
  have h2:=of_decide_eq_false h
  exact(Q4 most r l (v+1) (zQ hd) hl ho).mono fun _ _ _ _=>by omega
theorem s4(l:List zP)(most:Int)(hm:0≤most)(hl:l.length≤1099511627776)(ho:bOk l):Tot (fun q=>zLh q l most) fun b=>b=true->l.length≤most:=by
 simp only[zLh]
 refine(Q4 most l l 0 rfl hl ho).mono fun b hb h=>?_
 cases l with
 |nil=>exact hm
 |cons x l=>exact hb h (by simp)
def bA(r:yT):Prop:=r.pats_.length≤1099511627776∧(∀p∈r.pats_,nOk p)∧nOk r.body_
theorem s5(x:yT)(ho:bA x):∀(r:List zC) (v:Nat),x.pats_.drop v=r->Tot (fun q=>gR q x (v:Int)) fun _=>True
 | [],v,hd=>by
  refine Tot.succ ?_
  simp only[gR]
  refine Tot.ite (fun h=>?_) fun _=>?_
  ·rw[zX hd]at h;cases h
  ·repeat' (first|exact Tot.ret trivial|refine Tot.ite (fun _=>?_) (fun _=>?_)|refine Tot.bind (cZ _ ho.2.2) (fun _ _=>?_))
 |y::r,v,hd=>by
  have:=yC hd
  have:=ho.1
  have hm:y∈x.pats_:=List.mem_of_mem_drop (hd▸List.mem_cons_self ..)
  refine Tot.succ ?_
  simp only[gR]
  refine Tot.ite (fun _=>Tot.pure (zS hd) ((zCU _ (ho.2.1 y hm)).bind fun _ _=>Tot.ite (fun _=>?_) fun _=>Tot.ret trivial)) fun h=>by rw[zW hd]at h;cases h
  rw[zU v (by omega)]
  exact s5 x ho r (v+1) (zQ hd)
def dOk(d:yJ):Prop:=nOk d.type_∧(d.tele_.length≤100000∧bOk d.tele_)∧(d.cons_.length≤100000∧bOk d.cons_)∧d.rows_.length≤100000∧∀r∈d.rows_,bA r
theorem Q5(d:yJ)(ho:dOk d):∀(r:List yT) (v:Nat),d.rows_.drop v=r->Tot (fun q=>mE q d (v:Int)) fun _=>True
 | [],v,hd=>by
  refine Tot.succ ?_
  simp only[mE]
  refine Tot.ite (fun h=>?_) fun _=>Tot.ret trivial
  rw[zX hd]at h;cases h
 |y::r,v,hd=>by
  have:=yC hd
  have:=ho.2.2.2.1
  have hm:y∈d.rows_:=List.mem_of_mem_drop (hd▸List.mem_cons_self ..)
  refine Tot.succ ?_
  simp only[mE,zRm]
  refine Tot.ite (fun _=>Tot.pure (zS hd) (Tot.bind (P:=fun _=>True) (Tot.ite (fun _=>Tot.ret trivial) fun _=>s5 y (ho.2.2.2.2 y hm) y.pats_ 0 rfl) fun _ _=>Tot.ite (fun _=>?_) fun _=>Tot.ret trivial)) fun h=>by rw[zW hd]at h;cases h
  rw[zU v (by omega)]
  exact Q5 d ho r (v+1) (zQ hd)
theorem zIa(d:yJ)(ho:dOk d):Tot (fun q=>e56 q d) fun b=>b=true->d.tele_.length≤24∧d.cons_.length≤16:=by
 simp only[e56]
 have F:Tot (fun _=>some false) fun b=>b=true->d.tele_.length≤24∧d.cons_.length≤16:=Tot.ret (by simp)
 refine Tot.ite (fun _=>F) fun _=>Tot.ite (fun _=>F) fun _=>(uY _).bind fun _ _=>Tot.ite (fun _=>(cZ _ ho.1).bind fun _ _=>Tot.ite (fun _=>(s4 _ 24 (by omega) (by have:=ho.2.1.1;omega) ho.2.1.2).bind fun a ha=>Tot.ite (fun h1=>(s4 _ 16 (by omega) (by have:=ho.2.2.1.1;omega) ho.2.2.1.2).bind fun b hb=>Tot.ite (fun h2=>?_) fun _=>F) fun _=>F) fun _=>F) fun _=>F
 have L:Tot (fun q=>mE q d 0) fun b=>b=true->d.tele_.length≤24∧d.cons_.length≤16:=(Q5 d ho d.rows_ 0 rfl).mono fun _ _ _=>⟨by have:=ha h1;omega,by have:=hb h2;omega⟩
 repeat' (first|exact F|exact L|refine Tot.ite (fun _=>?_) (fun _=>?_))
def F1(qq:Nat)(q0_l:List zJ)(q0_i q0_at q0_bad p1 p2:Int):Option (Int×Int):=
 if q0_bad==0 then
 some (p2,p1)
 else
 some (q0_at,q0_bad)
theorem zAa{qq q0_l q0_i q0_at q0_bad p1 p2}:Cz (F1 qq q0_l q0_i q0_at q0_bad p1 p2) 106 [.cells [slv zF q0_l .no,ai q0_i,ai q0_at,ai q0_bad]] [.mp 0 0,ai p1,ai p2] (fun _=>.tup []) (fun r=>[.cells [slv zF q0_l .no,ai q0_i,ai r.1,ai r.2]]) 0:=fw Tryz.func106<|rB 1 (fE 2)<|fE 0
def e54(qq:Nat)(q0_l:List zJ)(q0_i q0_at q0_bad p1:Int):Option (zJ):=
 if decide ((w64 (q0_i+p1))≥(List.length q0_l:Int))then
 zL q0_l (w64 ((List.length q0_l:Int)-1))>>=fun x2=>
 some x2
 else
 zL q0_l (w64 (q0_i+p1))>>=fun x4=>
 some x4
theorem c54{qq q0_l q0_i q0_at q0_bad p1}:Cz (e54 qq q0_l q0_i q0_at q0_bad p1) 54 [.cells [slv zF q0_l .no,ai q0_i,ai q0_at,ai q0_bad]] [.mp 0 0,ai p1] (fun r=>C3 r) (fun _=>[.cells [slv zF q0_l .no,ai q0_i,ai q0_at,ai q0_bad]]) 0:=fw Tryz.func54<|rB 4 (rA 4 (zQe (o:=.no)) fun _=>fE 2)<|rA 3 (zQe (o:=.no)) fun _=>fE 2
def zIA(qq:Nat)(q0_l:List zJ)(q0_i q0_at q0_bad p1:Int):Option (Bool):=
 e54 qq q0_l q0_i q0_at q0_bad p1>>=fun r1=>
 if r1.kind_==1 then
 e54 qq q0_l q0_i q0_at q0_bad p1>>=fun r4=>
 some (!(r4.text_.toList==(⟨#[95]⟩:ByteArray).toList))
 else
 some false
theorem zRl{qq q0_l q0_i q0_at q0_bad p1}:Cz (zIA qq q0_l q0_i q0_at q0_bad p1) 173 [.cells [slv zF q0_l .no,ai q0_i,ai q0_at,ai q0_bad]] [.mp 0 0,ai p1] (fun r=>ab r) (fun _=>[.cells [slv zF q0_l .no,ai q0_i,ai q0_at,ai q0_bad]]) 0:=fw Tryz.func173<|rC 0 [0] c54 fun _=>rB 0 (rC 0 [0] c54 fun _=>fE 1)<|fE 0
def Q6(qq:Nat)(q0_l:List zJ)(q0_i q0_at q0_bad:Int):Option (ByteArray×Int×Int×Int):=
 zIA qq q0_l q0_i q0_at q0_bad 0>>=fun r1=>
 if r1 then
 if q0_bad != 0 then
 some ((⟨#[]⟩:ByteArray),q0_i,q0_at,q0_bad)
 else
 e54 qq q0_l (w64 (q0_i+1)) q0_at q0_bad (-1)>>=fun r5=>
 some (r5.text_,(w64 (q0_i+1)),q0_at,q0_bad)
 else
 e54 qq q0_l q0_i q0_at q0_bad 0>>=fun r7=>
 F1 qq q0_l q0_i q0_at q0_bad 1 r7.at_>>=fun r9=>
 if r9.2 != 0 then
 some ((⟨#[]⟩:ByteArray),q0_i,r9.1,r9.2)
 else
 e54 qq q0_l (w64 (q0_i+1)) r9.1 r9.2 (-1)>>=fun r12=>
 some (r12.text_,(w64 (q0_i+1)),r9.1,r9.2)
theorem zCV{qq q0_l q0_i q0_at q0_bad}:Cz (Q6 qq q0_l q0_i q0_at q0_bad) 107 [.cells [slv zF q0_l .no,ai q0_i,ai q0_at,ai q0_bad]] [.mp 0 0] (fun r=>at' r.1) (fun r=>[.cells [slv zF q0_l .no,ai r.2.1,ai r.2.2.1,ai r.2.2.2]]) 0:=fw Tryz.func107<|rK 0 [0] zRl (fun _=>rB 2 (fE 0)<|rC 3 [0] c54 fun _=>fE 0) fun _=>rC 1 [0] c54 fun _=>rC 0 [0] zAa fun _=>rB 1 (fE 0)<|rC 3 [0] c54 fun _=>fE 0
def nB(qq:Nat)(q0_l:List zJ)(q0_i q0_at q0_bad p1:Int)(p2:ByteArray):Option (Bool):=
 e54 qq q0_l q0_i q0_at q0_bad p1>>=fun r1=>
 if r1.kind_==4 then
 some (r1.text_.toList==p2.toList)
 else
 if r1.kind_==2 then
 some (r1.text_.toList==p2.toList)
 else
 some false
theorem mX{qq q0_l q0_i q0_at q0_bad p1 p2}:Cz (nB qq q0_l q0_i q0_at q0_bad p1 p2) 172 [.cells [slv zF q0_l .no,ai q0_i,ai q0_at,ai q0_bad]] [.mp 0 0,ai p1,at' p2] (fun r=>ab r) (fun _=>[.cells [slv zF q0_l .no,ai q0_i,ai q0_at,ai q0_bad]]) 0:=fw Tryz.func172<|rC 0 [0] c54 fun _=>rB 2 (fE 2)<|rB 1 (fE 2)<|fE 0
def sX(qq:Nat)(q0_l:List zJ)(q0_i q0_at q0_bad:Int)(p1:ByteArray):Option (Int×Int×Int):=
 nB qq q0_l q0_i q0_at q0_bad 0 p1>>=fun r1=>
 if r1 then
 if q0_bad==0 then
 some ((w64 (q0_i+1)),q0_at,q0_bad)
 else
 some (q0_i,q0_at,q0_bad)
 else
 e54 qq q0_l q0_i q0_at q0_bad 0>>=fun r5=>
 F1 qq q0_l q0_i q0_at q0_bad 1 r5.at_>>=fun r7=>
 if r7.2==0 then
 some ((w64 (q0_i+1)),r7.1,r7.2)
 else
 some (q0_i,r7.1,r7.2)
theorem nC{qq q0_l q0_i q0_at q0_bad p1}:Cz (sX qq q0_l q0_i q0_at q0_bad p1) 111 [.cells [slv zF q0_l .no,ai q0_i,ai q0_at,ai q0_bad]] [.mp 0 0,at' p1] (fun _=>.tup []) (fun r=>[.cells [slv zF q0_l .no,ai r.1,ai r.2.1,ai r.2.2]]) 0:=fw Tryz.func111<|rK 0 [0] mX (fun _=>rB 2 (fE 3)<|fE 0) fun _=>rC 1 [0] c54 fun _=>rC 0 [0] zAa fun _=>rB 1 (fE 3)<|fE 0
def zLg(qq:Nat)(q0_l:List zJ)(q0_i q0_at q0_bad:Int):Option (Bool):=
 nB qq q0_l q0_i q0_at q0_bad 0 (⟨#[40]⟩:ByteArray)>>=fun r1=>
 if r1 then
 e54 qq q0_l q0_i q0_at q0_bad 1>>=fun r4=>
 if r4.kind_==1 then
 nB qq q0_l q0_i q0_at q0_bad 2 (⟨#[58]⟩:ByteArray)>>=fun r7=>
 some r7
 else
 some false
 else
 some false
theorem zTB{qq q0_l q0_i q0_at q0_bad}:Cz (zLg qq q0_l q0_i q0_at q0_bad) 236 [.cells [slv zF q0_l .no,ai q0_i,ai q0_at,ai q0_bad]] [.mp 0 0] (fun r=>ab r) (fun _=>[.cells [slv zF q0_l .no,ai q0_i,ai q0_at,ai q0_bad]]) 0:=fw Tryz.func236<|rK 0 [0] mX (fun _=>rC 0 [0] c54 fun _=>rB 0 (rC 0 [0] mX fun _=>fE 0)<|fE 0) fun _=>fE 0
def zOr(qq:Nat)(q0_l:List zJ)(q0_i q0_at q0_bad:Int):Option (ByteArray×Int×Int×Int):=
 e54 qq q0_l q0_i q0_at q0_bad 0>>=fun r1=>
 if r1.kind_==1 then
 if q0_bad==0 then
 e54 qq q0_l (w64 (q0_i+1)) q0_at q0_bad (-1)>>=fun r5=>
 some (r5.text_,(w64 (q0_i+1)),q0_at,q0_bad)
 else
 Q6 qq q0_l q0_i q0_at q0_bad>>=fun r7=>
 some (r7.1,r7.2.1,r7.2.2.1,r7.2.2.2)
 else
 Q6 qq q0_l q0_i q0_at q0_bad>>=fun r9=>
 some (r9.1,r9.2.1,r9.2.2.1,r9.2.2.2)
theorem zVo{qq q0_l q0_i q0_at q0_bad}:Cz (zOr qq q0_l q0_i q0_at q0_bad) 278 [.cells [slv zF q0_l .no,ai q0_i,ai q0_at,ai q0_bad]] [.mp 0 0] (fun r=>at' r.1) (fun r=>[.cells [slv zF q0_l .no,ai r.2.1,ai r.2.2.1,ai r.2.2.2]]) 0:=fw Tryz.func278<|rC 0 [0] c54 fun _=>rB 0 (rB 1 (rC 3 [0] c54 fun _=>fE 0)<|rC 0 [0] zCV fun _=>fE 0)<|rC 0 [0] zCV fun _=>fE 0
def zOq(qq:Nat)(q0_l:List zJ)(q0_i q0_at q0_bad:Int):Option (Bool):=
 zIA qq q0_l q0_i q0_at q0_bad 0>>=fun r1=>
 if r1 then
 some true
 else
 nB qq q0_l q0_i q0_at q0_bad 0 (⟨#[83,101,116]⟩:ByteArray)>>=fun r4=>
 if r4 then
 some true
 else
 nB qq q0_l q0_i q0_at q0_bad 0 (⟨#[40]⟩:ByteArray)>>=fun r7=>
 if r7 then
 zLg qq q0_l q0_i q0_at q0_bad>>=fun r10=>
 some (!r10)
 else
 some false
theorem zTC{qq q0_l q0_i q0_at q0_bad}:Cz (zOq qq q0_l q0_i q0_at q0_bad) 280 [.cells [slv zF q0_l .no,ai q0_i,ai q0_at,ai q0_bad]] [.mp 0 0] (fun r=>ab r) (fun _=>[.cells [slv zF q0_l .no,ai q0_i,ai q0_at,ai q0_bad]]) 0:=fw Tryz.func280<|rK 0 [0] zRl (fun _=>fE 0) fun _=>rK 0 [0] mX (fun _=>fE 0) fun _=>rK 0 [0] mX (fun _=>rC 0 [0] zTB fun _=>fE 1) fun _=>fE 0
def zOp(qq:Nat)(q0_l:List zJ)(q0_i q0_at q0_bad:Int):Option (zC×Int×Int×Int):=
 e54 qq q0_l q0_i q0_at q0_bad 0>>=fun r1=>
 e54 qq q0_l (w64 (q0_i+1)) q0_at q0_bad 0>>=fun r3=>
 if r3.kind_==3 then
 e54 qq q0_l (w64 (q0_i+1)) q0_at q0_bad 0>>=fun r6=>
 zLn qq r6.text_>>=fun r8=>
 if decide (r8.1>7)then
 e54 qq q0_l (w64 (q0_i+1)) q0_at q0_bad 0>>=fun r11=>
 F1 qq q0_l (w64 (q0_i+1)) q0_at q0_bad 1 r11.at_>>=fun r13=>
 some ((zC.mk 2 r1.at_ (⟨#[]⟩:ByteArray) r8.1 []),(w64 ((w64 (q0_i+1))+1)),r13.1,r13.2)
 else
 some ((zC.mk 2 r1.at_ (⟨#[]⟩:ByteArray) r8.1 []),(w64 ((w64 (q0_i+1))+1)),q0_at,q0_bad)
 else
 some ((zC.mk 2 r1.at_ (⟨#[]⟩:ByteArray) 0 []),(w64 (q0_i+1)),q0_at,q0_bad)
theorem zVn{qq q0_l q0_i q0_at q0_bad}:Cz (zOp qq q0_l q0_i q0_at q0_bad) 313 [.cells [slv zF q0_l .no,ai q0_i,ai q0_at,ai q0_bad]] [.mp 0 0] (fun r=>yQ r.1) (fun r=>[.cells [slv zF q0_l .no,ai r.2.1,ai r.2.2.1,ai r.2.2.2]]) 0:=fw Tryz.func313<|rC 0 [0] c54 fun _=>rC 4 [0] c54 fun _=>rB 0 (rC 0 [0] c54 fun _=>rC 0 [] zTe fun _=>rB 2 (rC 0 [0] c54 fun _=>rC 0 [0] zAa fun _=>fE 6)<|fE 6)<|fE 2
mutual
def X3:Nat->(List zJ)->Int->Int->Int->Option (zC×Int×Int×Int)
 |0,_,_,_,_=>none
 |qq+1,q0_l,q0_i,q0_at,q0_bad=>
 e54 qq q0_l q0_i q0_at q0_bad 0>>=fun r1=>
 if q0_bad != 0 then
 some ((zC.mk 0 0 (⟨#[]⟩:ByteArray) 0 []),q0_i,q0_at,q0_bad)
 else
 nB qq q0_l q0_i q0_at q0_bad 0 (⟨#[92]⟩:ByteArray)>>=fun r4=>
 if r4 then
 zLf qq q0_l (w64 (q0_i+1)) q0_at q0_bad 4 r1.at_>>=fun r7=>
 some (r7.1,r7.2.1,r7.2.2.1,r7.2.2.2)
 else
 zLg qq q0_l q0_i q0_at q0_bad>>=fun r9=>
 if r9 then
 zLf qq q0_l q0_i q0_at q0_bad 3 r1.at_>>=fun r12=>
 some (r12.1,r12.2.1,r12.2.2.1,r12.2.2.2)
 else
 zOo qq q0_l q0_i q0_at q0_bad>>=fun r14=>
 if r14.2.2.2==0 then
 nB qq q0_l r14.2.1 r14.2.2.1 r14.2.2.2 0 (⟨#[45,62]⟩:ByteArray)>>=fun r17=>
 if r17 then
 X3 qq q0_l (w64 (r14.2.1+1)) r14.2.2.1 r14.2.2.2>>=fun r20=>
 some ((zC.mk 3 r14.1.at_ (⟨#[95]⟩:ByteArray) 0 [r14.1,r20.1]),r20.2.1,r20.2.2.1,r20.2.2.2)
 else
 some (r14.1,r14.2.1,r14.2.2.1,r14.2.2.2)
 else
 some (r14.1,r14.2.1,r14.2.2.1,r14.2.2.2)
def zLf:Nat->(List zJ)->Int->Int->Int->Int->Int->Option (zC×Int×Int×Int)
 |0,_,_,_,_,_,_=>none
 |qq+1,q0_l,q0_i,q0_at,q0_bad,p1,p2=>
 sX qq q0_l q0_i q0_at q0_bad (⟨#[40]⟩:ByteArray)>>=fun r1=>
 zOr qq q0_l r1.1 r1.2.1 r1.2.2>>=fun r3=>
 sX qq q0_l r3.2.1 r3.2.2.1 r3.2.2.2 (⟨#[58]⟩:ByteArray)>>=fun r5=>
 X3 qq q0_l r5.1 r5.2.1 r5.2.2>>=fun r7=>
 sX qq q0_l r7.2.1 r7.2.2.1 r7.2.2.2 (⟨#[41]⟩:ByteArray)>>=fun r9=>
 sX qq q0_l r9.1 r9.2.1 r9.2.2 (⟨#[45,62]⟩:ByteArray)>>=fun r11=>
 X3 qq q0_l r11.1 r11.2.1 r11.2.2>>=fun r13=>
 some ((zC.mk p1 p2 r3.1 0 [r7.1,r13.1]),r13.2.1,r13.2.2.1,r13.2.2.2)
def zOo:Nat->(List zJ)->Int->Int->Int->Option (zC×Int×Int×Int)
 |0,_,_,_,_=>none
 |qq+1,q0_l,q0_i,q0_at,q0_bad=>
 zEW qq q0_l q0_i q0_at q0_bad>>=fun r1=>
 gU qq q0_l r1 r1.2.1 r1.2.2.1 r1.2.2.2 r1.1.kind_ r1.1.name_ r1.1.n_ r1.1.sub_
def gU:Nat->(List zJ)->(zC×Int×Int×Int)->Int->Int->Int->Int->ByteArray->Int->(List zC)->Option (zC×Int×Int×Int)
 |0,_,_,_,_,_,_,_,_,_=>none
 |qq+1,q0_l,r1,yA,zN,yE,xA,xK,iE,rM=>
 if yE==0 then
 zOq qq q0_l yA zN yE>>=fun r4=>
 if r4 then
 zEW qq q0_l yA zN yE>>=fun r7=>
 gU qq q0_l r1 r7.2.1 r7.2.2.1 r7.2.2.2 5 (⟨#[]⟩:ByteArray) 0 [(zC.mk xA r1.1.at_ xK iE rM),r7.1]
 else
 some ((zC.mk xA r1.1.at_ xK iE rM),yA,zN,yE)
 else
 some ((zC.mk xA r1.1.at_ xK iE rM),yA,zN,yE)
def zEW:Nat->(List zJ)->Int->Int->Int->Option (zC×Int×Int×Int)
 |0,_,_,_,_=>none
 |qq+1,q0_l,q0_i,q0_at,q0_bad=>
 if q0_bad != 0 then
 some ((zC.mk 0 0 (⟨#[]⟩:ByteArray) 0 []),q0_i,q0_at,q0_bad)
 else
 nB qq q0_l q0_i q0_at q0_bad 0 (⟨#[83,101,116]⟩:ByteArray)>>=fun r2=>
 if r2 then
 zOp qq q0_l q0_i q0_at q0_bad>>=fun r5=>
 some (r5.1,r5.2.1,r5.2.2.1,r5.2.2.2)
 else
 nB qq q0_l q0_i q0_at q0_bad 0 (⟨#[40]⟩:ByteArray)>>=fun r7=>
 if r7 then
 X3 qq q0_l (w64 (q0_i+1)) q0_at q0_bad>>=fun r10=>
 sX qq q0_l r10.2.1 r10.2.2.1 r10.2.2.2 (⟨#[41]⟩:ByteArray)>>=fun r12=>
 some (r10.1,r12.1,r12.2.1,r12.2.2)
 else
 e54 qq q0_l q0_i q0_at q0_bad 0>>=fun r14=>
 Q6 qq q0_l q0_i q0_at q0_bad>>=fun r16=>
 some ((zC.mk 1 r14.at_ r16.1 0 []),r16.2.1,r16.2.2.1,r16.2.2.2)
end
theorem sN:∀qq:Nat,(∀q0_l q0_i q0_at q0_bad,Cz (X3 qq q0_l q0_i q0_at q0_bad) 176 [.cells [slv zF q0_l .no,ai q0_i,ai q0_at,ai q0_bad]] [.mp 0 0] (fun r=>yQ r.1) (fun r=>[.cells [slv zF q0_l .no,ai r.2.1,ai r.2.2.1,ai r.2.2.2]]) 0)∧(∀q0_l q0_i q0_at q0_bad p1 p2,Cz (zLf qq q0_l q0_i q0_at q0_bad p1 p2) 235 [.cells [slv zF q0_l .no,ai q0_i,ai q0_at,ai q0_bad]] [.mp 0 0,ai p1,ai p2] (fun r=>yQ r.1) (fun r=>[.cells [slv zF q0_l .no,ai r.2.1,ai r.2.2.1,ai r.2.2.2]]) 0)∧(∀q0_l q0_i q0_at q0_bad,Cz (zOo qq q0_l q0_i q0_at q0_bad) 237 [.cells [slv zF q0_l .no,ai q0_i,ai q0_at,ai q0_bad]] [.mp 0 0] (fun r=>yQ r.1) (fun r=>[.cells [slv zF q0_l .no,ai r.2.1,ai r.2.2.1,ai r.2.2.2]]) 0)∧(∀q0_l r1 yA zN yE xA xK iE rM,Lz (gU qq q0_l r1 yA zN yE xA xK iE rM) 1 Tryz.f237 (inn (inn (lft (rgt (rgt (bod Tryz.f237)))))) (fun j=>sp j 23 0 [(0,.mp 0 0),(2,.mp 1 0),(3,.mp 2 0)]) ⟨[(0,.cells [slv zF q0_l .no,ai yA,ai zN,ai yE]),(1,.cells [ai 0,ai 0,at' (⟨#[]⟩:ByteArray),ai 0,slv zH ([]:List zC) .nl]),(2,.cells [ai xA,ai r1.1.at_,at' xK,ai iE,slv zH rM .no])],3,[],0,[]⟩ (fun r=>yQ r.1) (fun r=>[.cells [slv zF q0_l .no,ai r.2.1,ai r.2.2.1,ai r.2.2.2]]) 0 [.blk 0,.seq (rgt (rgt (rgt (bod Tryz.f237))))]∧Lz (gU qq q0_l r1 yA zN yE xA xK iE rM) 1 Tryz.f237 (inn (inn (lft (rgt (rgt (bod Tryz.f237)))))) (fun j=>sp j 23 0 [(0,.mp 0 0),(2,.mp 1 0),(3,.mp 2 0)]) ⟨[(0,.cells [slv zF q0_l .no,ai yA,ai zN,ai yE]),(1,.cells [ai 0,ai 0,at' (⟨#[]⟩:ByteArray),ai 0,slv zH ([]:List zC) .nl]),(2,.cells [ai xA,ai r1.1.at_,at' xK,ai iE,slv zH rM .full])],3,[],0,[]⟩ (fun r=>yQ r.1) (fun r=>[.cells [slv zF q0_l .no,ai r.2.1,ai r.2.2.1,ai r.2.2.2]]) 0 [.blk 0,.seq (rgt (rgt (rgt (bod Tryz.f237))))])∧(∀q0_l q0_i q0_at q0_bad,Cz (zEW qq q0_l q0_i q0_at q0_bad) 279 [.cells [slv zF q0_l .no,ai q0_i,ai q0_at,ai q0_bad]] [.mp 0 0] (fun r=>yQ r.1) (fun r=>[.cells [slv zF q0_l .no,ai r.2.1,ai r.2.2.1,ai r.2.2.2]]) 0):=yW ⟨fun _ _ _ _=>cN,fun _ _ _ _ _ _=>cN,fun _ _ _ _=>cN,fun _ _ _ _ _ _ _ _ _=>⟨lN,lN⟩,fun _ _ _ _=>cN⟩ fun qq ih=>⟨fun q0_l q0_i q0_at q0_bad=>fw Tryz.func176<|rC 0 [0] c54 fun _=>rB 1 (fE 1)<|rK 0 [0] mX (fun _=>rC 3 [0] (ih.2.1 _ _ _ _ _ _) fun _=>fE 1) fun _=>rK 0 [0] zTB (fun _=>rC 0 [0] (ih.2.1 _ _ _ _ _ _) fun _=>fE 1) fun _=>rC 0 [0] (ih.2.2.1 _ _ _ _) fun r14=>rB 2 (rK 0 [0] mX (fun _=>rS (oCl 3)<|rC 1 [0] (ih.1 _ _ _ _) fun r20=>rS (oS 0 (yV vD [r14.1,r20.1]))<|fE 1) fun _=>fE 2)<|fE 2,
 fun q0_l q0_i q0_at q0_bad p1 p2=>fw Tryz.func235<|rC 1 [0] nC fun _=>rC 0 [0] zVo fun _=>rC 1 [0] nC fun _=>rC 0 [0] (ih.1 _ _ _ _) fun r7=>rC 1 [0] nC fun _=>rC 0 [0] nC fun _=>rC 1 [0] (ih.1 _ _ _ _) fun r13=>rS (oS 0 (yV vD [r7.1,r13.1]))<|fE 3,
 fun q0_l q0_i q0_at q0_bad=>fw Tryz.func237<|rC 0 [0] (ih.2.2.2.2 _ _ _ _) fun _=>fH 1 [] [0,1,2] [] [0,2,3] ((ih.2.2.2.1 _ _ _ _ _ _ _ _ _).1),
 fun q0_l r1 yA zN yE xA xK iE rM=>⟨lw fun _=>rB 1 (rK 0 [0] zTC (fun _=>rS (oCl 0)<|rC 1 [0] (ih.2.2.2.2 _ _ _ _) fun r7=>rS (oS 0 (yV vD [(zC.mk xA r1.1.at_ xK iE rM),r7.1]))<|lH 1 [] [0,1,2] [] [0,2,3] ((ih.2.2.2.1 _ _ _ _ _ _ _ _ _).2)) fun _=>lE 2)<|lE 2,lw fun _=>rB 1 (rK 0 [0] zTC (fun _=>rS (oCl 0)<|rC 1 [0] (ih.2.2.2.2 _ _ _ _) fun r7=>rS (oS 0 (yV vD [(zC.mk xA r1.1.at_ xK iE rM),r7.1]))<|lH 1 [] [0,1,2] [] [0,2,3] ((ih.2.2.2.1 _ _ _ _ _ _ _ _ _).2)) fun _=>lE 2)<|lE 2⟩,
 fun q0_l q0_i q0_at q0_bad=>fw Tryz.func279<|rB 1 (fE 1)<|rK 0 [0] mX (fun _=>rC 0 [0] zVn fun _=>fE 1) fun _=>rK 0 [0] mX (fun _=>rC 3 [0] (ih.1 _ _ _ _) fun _=>rC 1 [0] nC fun _=>fE 2) fun _=>rC 0 [0] c54 fun _=>rC 0 [0] zCV fun _=>fE 1⟩
theorem zVm{qq q0_l q0_i q0_at q0_bad}:Cz (X3 qq q0_l q0_i q0_at q0_bad) 176 [.cells [slv zF q0_l .no,ai q0_i,ai q0_at,ai q0_bad]] [.mp 0 0] (fun r=>yQ r.1) (fun r=>[.cells [slv zF q0_l .no,ai r.2.1,ai r.2.2.1,ai r.2.2.2]]) 0:=(sN _).1 _ _ _ _
theorem zVl{qq q0_l q0_i q0_at q0_bad}:Cz (zEW qq q0_l q0_i q0_at q0_bad) 279 [.cells [slv zF q0_l .no,ai q0_i,ai q0_at,ai q0_bad]] [.mp 0 0] (fun r=>yQ r.1) (fun r=>[.cells [slv zF q0_l .no,ai r.2.1,ai r.2.2.1,ai r.2.2.2]]) 0:=(sN _).2.2.2.2 _ _ _ _
def tk(l:List zJ)(i:Int):zJ:=(l[if i≥l.length then l.length-1 else i.toNat]?).getD default
section
variable {l:List zJ} (hl:zIe l)
include hl
theorem wS(i a b k:Int)(h0:0≤i+k)(h1:i+k≤100000):Evt (fun q=>e54 q l i a b k) (tk l (i+k)):=by
 have:=hl.1
 have:=hl.2.1
 simp only[e54]
 rw[zV (by omega) (by omega)]
 unfold tk
 by_cases h:i+k≥l.length
 ·rw[if_pos h,zV (by omega) (by omega)]
  refine Evt.ifT (decide_eq_true h) (Evt.pure ?_ Evt.ret)
  unfold zL
  rw[if_pos (by omega),show ((l.length:Int)-1).toNat=l.length-1 by omega,List.getElem?_eq_getElem (by omega)];rfl
 ·rw[if_neg h]
  refine Evt.ifF (decide_eq_false h) (Evt.pure ?_ Evt.ret)
  unfold zL
  rw[if_pos (by omega),List.getElem?_eq_getElem (by omega)];rfl
theorem aP{i:Int}(h0:0≤i)(h:(tk l i).kind_≠5):i+1<l.length:=by
 have:=hl.1
 by_cases h1:i+1<l.length
 ·exact h1
 ·refine absurd ?_ h
  rw[←hl.2.2]
  unfold tk
  by_cases h2:i≥l.length
  ·rw[if_pos h2]
  ·rw[if_neg h2,show i.toNat=l.length-1 by omega]
theorem uA(i a b k:Int)(s:ByteArray)(h0:0≤i+k)(h1:i+k≤100000):Tot (fun q=>nB q l i a b k s) fun r=>r=true->i+k+1<l.length:=by
 simp only[nB]
 refine Tot.bind ((wS hl i a b k h0 h1).tot rfl) fun t ht=>?_
 subst ht
 refine Tot.ite (fun h=>Tot.ret fun _=>aP hl h0 ?_) fun _=>Tot.ite (fun h=>Tot.ret fun _=>aP hl h0 ?_) fun _=>Tot.ret (by simp) <;>
 ·have:=eq_of_beq h
  omega
theorem dN(i a b k:Int)(h0:0≤i+k)(h1:i+k≤100000):Tot (fun q=>zIA q l i a b k) fun r=>r=true->i+k+1<l.length:=by
 simp only[zIA]
 have e:=wS hl i a b k h0 h1
 refine Tot.bind (e.tot rfl) fun t ht=>?_
 subst ht
 refine Tot.ite (fun h=>Tot.bind (e.tot (P:=fun _=>True) trivial) fun _ _=>Tot.ret fun _=>aP hl h0 ?_) fun _=>Tot.ret (by simp)
 have:=eq_of_beq h
 omega
omit hl in
theorem rO(i a b e p:Int)(he:e≠0):Tot (fun q=>F1 q l i a b e p) fun r=>r.2≠0:=by
 simp only[F1]
 exact Tot.ite (fun _=>Tot.ret he) fun h=>Tot.ret (by simpa using h)
theorem mY(i a b:Int)(h0:0≤i)(h1:i<l.length):Tot (fun q=>Q6 q l i a b) fun r=>i≤r.2.1∧r.2.1<l.length∧(r.2.2.2=0->b=0∧i<r.2.1):=by
 have:=hl.2.1
 simp only[Q6]
 rw[zV (x:=i+1) (by omega) (by omega)]
 refine(dN hl i a b 0 (by omega) (by omega)).bind fun c hc=>Tot.ite (fun h=>Tot.ite (fun h2=>Tot.ret ⟨by show i≤i;omega,h1,fun h3=>?_⟩) fun h2=>?_) fun _=>?_
 ·exact absurd h3 (by simpa using h2)
 ·have:=hc h
  refine Tot.bind ((wS hl (i+1) a b (-1) (by omega) (by omega)).tot (P:=fun _=>True) trivial) fun _ _=>Tot.ret ⟨by show i≤i+1;omega,by show i+1<_;omega,fun _=>⟨by simpa using h2,by show i<i+1;omega⟩⟩
 ·refine Tot.bind ((wS hl i a b 0 (by omega) (by omega)).tot (P:=fun _=>True) trivial) fun t _=>(rO i a b 1 _ (by decide)).bind fun r hr=>Tot.ite (fun _=>Tot.ret ⟨by show i≤i;omega,h1,fun h3=>absurd h3 hr⟩) fun h=>?_
  exact absurd (by simpa using h) hr
theorem wT(i a b:Int)(s:ByteArray)(h0:0≤i)(h1:i<l.length):Tot (fun q=>sX q l i a b s) fun r=>i≤r.1∧r.1<l.length∧(r.2.2=0->b=0∧i<r.1):=by
 have:=hl.2.1
 simp only[sX]
 rw[zV (x:=i+1) (by omega) (by omega)]
 refine(uA hl i a b 0 s (by omega) (by omega)).bind fun c hc=>Tot.ite (fun h=>Tot.ite (fun h2=>?_) fun h2=>Tot.ret ⟨by show i≤i;omega,h1,fun h3=>?_⟩) fun _=>?_
 ·have:=hc h
  exact Tot.ret ⟨by show i≤i+1;omega,by show i+1<_;omega,fun _=>⟨by simpa using h2,by show i<i+1;omega⟩⟩
 ·exact absurd h3 (by simpa using h2)
 ·refine Tot.bind ((wS hl i a b 0 (by omega) (by omega)).tot (P:=fun _=>True) trivial) fun t _=>(rO i a b 1 _ (by decide)).bind fun r hr=>Tot.ite (fun h=>?_) fun _=>Tot.ret ⟨by show i≤i;omega,h1,fun h3=>absurd h3 hr⟩
  exact absurd (by simpa using h) hr
theorem X4(i a b:Int)(h0:0≤i)(h1:i<l.length):Tot (fun q=>zOr q l i a b) fun r=>i≤r.2.1∧r.2.1<l.length∧(r.2.2.2=0->b=0∧i<r.2.1):=by
 have:=hl.2.1
 simp only[zOr]
 rw[zV (x:=i+1) (by omega) (by omega)]
 have N:=(mY hl i a b h0 h1).bind (k:=fun _ r9=>some (r9.1,r9.2.1,r9.2.2.1,r9.2.2.2)) (Q:=fun r:ByteArray×Int×Int×Int=>i≤r.2.1∧r.2.1<(l.length:Int)∧(r.2.2.2=0->b=0∧i<r.2.1)) fun r hr=>⟨_,Evt.ret,hr⟩
 refine Tot.bind ((wS hl i a b 0 (by omega) (by omega)).tot rfl) fun t ht=>Tot.ite (fun h=>Tot.ite (fun h2=>?_) fun _=>N) fun _=>N
 subst ht
 have:=aP hl (i:=i+0) (by omega) (by have:=eq_of_beq h;omega)
 exact Tot.bind ((wS hl (i+1) a b (-1) (by omega) (by omega)).tot (P:=fun _=>True) trivial) fun _ _=>Tot.ret ⟨by show i≤i+1;omega,by show i+1<_;omega,fun _=>⟨by simpa using h2,by show i<i+1;omega⟩⟩
theorem Q7(i a b:Int)(h0:0≤i)(h1:i<l.length):Tot (fun q=>zLg q l i a b) fun _=>True:=by
 have:=hl.2.1
 simp only[zLg]
 exact(uA hl i a b 0 _ (by omega) (by omega)).bind fun _ _=>Tot.ite (fun _=>Tot.bind ((wS hl i a b 1 (by omega) (by omega)).tot (P:=fun _=>True) trivial) fun _ _=>Tot.ite (fun _=>(uA hl i a b 2 _ (by omega) (by omega)).bind fun _ _=>Tot.ret trivial) fun _=>Tot.ret trivial) fun _=>Tot.ret trivial
theorem zLe(i a b:Int)(h0:0≤i)(h1:i+1<l.length):Tot (fun q=>zOp q l i a b) fun r=>nOk r.1∧i<r.2.1∧r.2.1<l.length:=by
 have:=hl.2.1
 simp only[zOp]
 rw[zV (x:=i+1) (by omega) (by omega),zV (x:=i+1+1) (by omega) (by omega)]
 have e:=wS hl (i+1) a b 0 (by omega) (by omega)
 have z:∀k a n m,nOk (.mk k a n m []):=fun _ _ _ _=>⟨by simp,trivial⟩
 refine Tot.bind ((wS hl i a b 0 (by omega) (by omega)).tot (P:=fun _=>True) trivial) fun _ _=>Tot.bind (e.tot rfl) fun t ht=>Tot.ite (fun h=>?_) fun _=>Tot.ret ⟨z _ _ _ _,by show i<i+1;omega,h1⟩
 subst ht
 have:=aP hl (i:=i+1+0) (by omega) (by have:=eq_of_beq h;omega)
 refine Tot.bind (e.tot (P:=fun _=>True) trivial) fun _ _=>(P7 _).bind fun _ _=>Tot.ite (fun _=>Tot.bind (e.tot (P:=fun _=>True) trivial) fun _ _=>(rO _ a b 1 _ (by decide)).bind fun _ _=>Tot.ret ⟨z _ _ _ _,?_,?_⟩) fun _=>Tot.ret ⟨z _ _ _ _,?_,?_⟩<;>first | (show i<i+1+1;omega) | (show i+1+1<_;omega)
theorem zEX(i a b:Int)(h0:0≤i)(h1:i<l.length):Tot (fun q=>zOq q l i a b) fun _=>True:=by
 have:=hl.2.1
 simp only[zOq]
 exact(dN hl i a b 0 (by omega) (by omega)).bind fun _ _=>Tot.ite (fun _=>Tot.ret trivial) fun _=>(uA hl i a b 0 _ (by omega) (by omega)).bind fun _ _=>Tot.ite (fun _=>Tot.ret trivial) fun _=>(uA hl i a b 0 _ (by omega) (by omega)).bind fun _ _=>Tot.ite (fun _=>(Q7 hl i a b h0 h1).bind fun _ _=>Tot.ret trivial) fun _=>Tot.ret trivial
omit hl in
def NR(l:List zJ)(i b:Int)(r:zC×Int×Int×Int):Prop:=nOk r.1∧i≤r.2.1∧r.2.1<l.length∧(r.2.2.2=0->b=0∧i<r.2.1)
omit hl in
def Q8(l:List zJ)(m:Nat):Prop:=∀i a b:Int,0≤i->i<l.length->(b=0->(l.length:Int)-i≤m)->Tot (fun q=>X3 q l i a b) (NR l i b)
omit hl in
theorem zRk{x y:zC}(hx:nOk x)(hy:nOk y)(k a:Int)(n:ByteArray)(m:Int):nOk (.mk k a n m [x,y]):=⟨by simp,hx,hy,trivial⟩
omit hl in
theorem X5(k a:Int)(n:ByteArray)(m:Int):nOk (.mk k a n m []):=⟨by simp,trivial⟩
theorem s6(m:Nat)(IH:Q8 l m)(i a b k p:Int)(h0:0≤i)(h1:i<l.length)(hb:b=0->(l.length:Int)-i≤m+1):Tot (fun q=>zLf q l i a b k p) (NR l i b):=by
 refine Tot.succ ?_
 simp only[zLf]
 refine(wT hl i a b _ h0 h1).bind fun r1 g1=>(X4 hl _ _ _ (by omega) g1.2.1).bind fun r3 g3=>(wT hl _ _ _ _ (by omega) g3.2.1).bind fun r5 g5=>(IH _ _ _ (by omega) g5.2.1 (by omega)).bind fun r7 g7=>?_
 obtain⟨o7,g7⟩:=g7
 refine(wT hl _ _ _ _ (by omega) g7.2.1).bind fun r9 g9=>(wT hl _ _ _ _ (by omega) g9.2.1).bind fun r11 g11=>(IH _ _ _ (by omega) g11.2.1 (by omega)).bind fun r13 g13=>?_
 obtain⟨o13,g13⟩:=g13
 exact Tot.ret ⟨zRk o7 o13 _ _ _ _,by show i≤r13.2.1;omega,g13.2.1,fun h=>by have:r13.2.2.2=0:=h;show b=0∧i<r13.2.1;omega⟩
theorem Q9(m:Nat)(IH:Q8 l m)(i a b:Int)(h0:0≤i)(h1:i<l.length)(hb:b=0->(l.length:Int)-i≤m+1):Tot (fun q=>zEW q l i a b) (NR l i b):=by
 have:=hl.2.1
 refine Tot.succ ?_
 simp only[zEW]
 rw[zV (x:=i+1) (by omega) (by omega)]
 refine Tot.ite (fun h=>Tot.ret ⟨X5 _ _ _ _,by show i≤i;omega,h1,fun h2=>absurd h2 (by simpa using h)⟩) fun h=>?_
 have hb0:b=0:=by simpa using h
 refine(uA hl i a b 0 _ (by omega) (by omega)).bind fun c hc=>Tot.ite (fun h2=>(zLe hl i a b h0 (by have:=hc h2;omega)).bind fun r hr=>Tot.ret ⟨hr.1,by show i≤r.2.1;omega,hr.2.2,fun _=>⟨hb0,hr.2.1⟩⟩) fun _=>?_
 refine(uA hl i a b 0 _ (by omega) (by omega)).bind fun c hc=>Tot.ite (fun h2=>?_) fun _=>?_
 ·have:=hc h2
  refine(IH (i+1) a b (by omega) (by omega) (by omega)).bind fun r hr=>(wT hl _ _ _ _ (by have:=hr.2.1;omega) hr.2.2.1).bind fun s hs=>?_
  obtain⟨o,hr⟩:=hr
  exact Tot.ret ⟨o,by show i≤s.1;omega,hs.2.1,fun _=>⟨hb0,by show i<s.1;omega⟩⟩
 ·refine Tot.bind ((wS hl i a b 0 (by omega) (by omega)).tot (P:=fun _=>True) trivial) fun t _=>(mY hl i a b h0 h1).bind fun r hr=>Tot.ret ⟨X5 _ _ _ _,hr.1,hr.2.1,hr.2.2⟩
theorem zCW(m:Nat)(IH:Q8 l m)(r1:zC×Int×Int×Int):∀(k:Nat) (i a b kd:Int) (nm:ByteArray) (n:Int) (sub:List zC),0≤i->i<l.length->(b=0->(l.length:Int)-i≤k)->(b=0->(l.length:Int)-i≤m+1)->nOk (.mk kd r1.1.at_ nm n sub) ->
  Tot (fun q=>gU q l r1 i a b kd nm n sub) fun r=>nOk r.1∧i≤r.2.1∧r.2.1<l.length∧(r.2.2.2=0->b=0)
 |k,i,a,b,kd,nm,n,sub,h0,h1,hk,hb,ho=>by
  refine Tot.succ ?_
  simp only[gU]
  have fin:Tot (fun _=>some (zC.mk kd r1.1.at_ nm n sub,i,a,b)) fun r:zC×Int×Int×Int=>nOk r.1∧i≤r.2.1∧r.2.1<l.length∧(r.2.2.2=0->b=0):=Tot.ret ⟨ho,by show i≤i;omega,h1,id⟩
  refine Tot.ite (fun h=>(zEX hl i a b h0 h1).bind fun _ _=>Tot.ite (fun _=>(Q9 hl m IH i a b h0 h1 hb).bind fun r hr=>?_) fun _=>fin) fun _=>fin
  have hb0:b=0:=by simpa using h
  obtain⟨o,hr⟩:=hr
  cases k with
  |zero=>have:=hk hb0;omega
  |succ k=>exact(zCW m IH r1 k r.2.1 _ _ 5 _ 0 _ (by omega) hr.2.1 (by omega) (by omega) (zRk ho o _ _ _ _)).mono fun s hs=>⟨hs.1,by omega,hs.2.2.1,fun _=>hb0⟩
theorem zOn(m:Nat)(IH:Q8 l m)(i a b:Int)(h0:0≤i)(h1:i<l.length)(hb:b=0->(l.length:Int)-i≤m+1):Tot (fun q=>zOo q l i a b) (NR l i b):=by
 refine Tot.succ ?_
 simp only[zOo]
 refine(Q9 hl m IH i a b h0 h1 hb).bind fun r hr=>?_
 have ho:=hr.1
 have g:=hr.2
 refine(zCW hl m IH r (m+1) r.2.1 _ _ _ _ _ _ (by omega) g.2.1 (by omega) (by omega) (by cases h:r.1;rw[h]at ho;exact ho)).mono fun s hs=>⟨hs.1,by omega,hs.2.2.1,fun h=>?_⟩
 have:=g.2.2 (hs.2.2.2 h)
 omega
theorem R0:∀m:Nat,Q8 l m
 |0,i,a,b,h0,h1,hb=>by
  have:=hl.2.1
  refine Tot.succ ?_
  simp only[X3]
  refine Tot.bind ((wS hl i a b 0 (by omega) (by omega)).tot (P:=fun _=>True) trivial) fun t _=>Tot.ite (fun h=>Tot.ret ⟨X5 _ _ _ _,by show i≤i;omega,h1,fun h2=>absurd h2 (by simpa using h)⟩) fun h=>?_
  have hb0:b=0:=by simpa using h
  have:=hb hb0
  omega
 |m+1,i,a,b,h0,h1,hb=>by
  have:=hl.2.1
  have IH:=R0 m
  refine Tot.succ ?_
  simp only[X3]
  rw[zV (x:=i+1) (by omega) (by omega)]
  refine Tot.bind ((wS hl i a b 0 (by omega) (by omega)).tot (P:=fun _=>True) trivial) fun t _=>Tot.ite (fun h=>Tot.ret ⟨X5 _ _ _ _,by show i≤i;omega,h1,fun h2=>absurd h2 (by simpa using h)⟩) fun h=>?_
  have hb0:b=0:=by simpa using h
  refine(uA hl i a b 0 _ (by omega) (by omega)).bind fun c hc=>Tot.ite (fun h2=>(s6 hl m IH (i+1) a b 4 _ (by omega) (by have:=hc h2;omega) (by omega)).bind fun r hr=>Tot.ret ⟨hr.1,by have:=hr.2.1;show i≤r.2.1;omega,hr.2.2.1,fun h=>⟨hb0,by have:=hr.2.1;show i<r.2.1;omega⟩⟩) fun _=>?_
  refine(Q7 hl i a b h0 h1).bind fun c hc=>Tot.ite (fun h2=>(s6 hl m IH i a b 3 _ (by omega) h1 (by omega)).bind fun r hr=>Tot.ret hr) fun _=>?_
  refine(zOn hl m IH i a b h0 h1 (by omega)).bind fun r hr=>Tot.ite (fun h2=>?_) fun _=>Tot.ret hr
  have ho:=hr.1
  have g:=hr.2
  have hr0:r.2.2.2=0:=by simpa using h2
  rw[zV (x:=r.2.1+1) (by omega) (by omega)]
  refine(uA hl _ _ _ 0 _ (by omega) (by omega)).bind fun c hc=>Tot.ite (fun h3=>?_) fun _=>Tot.ret ⟨ho,g⟩
  have:=hc h3
  refine(IH (r.2.1+1) _ _ (by omega) (by omega) (by omega)).bind fun s hs=>?_
  have gs:=hs.2
  exact Tot.ret ⟨zRk ho hs.1 _ _ _ _,by show i≤s.2.1;omega,gs.2.1,fun _=>⟨hb0,by show i<s.2.1;omega⟩⟩
end
def zOm(qq:Nat)(q0_l:List zJ)(q0_i q0_at q0_bad:Int):Option (Int):=
 nB qq q0_l q0_i q0_at q0_bad 0 (⟨#[100,97,116,97]⟩:ByteArray)>>=fun r1=>
 if r1 then
 some 1
 else
 nB qq q0_l q0_i q0_at q0_bad 0 (⟨#[114,101,99,111,114,100]⟩:ByteArray)>>=fun r4=>
 if r4 then
 some 2
 else
 nB qq q0_l q0_i q0_at q0_bad 0 (⟨#[100,101,102]⟩:ByteArray)>>=fun r7=>
 if r7 then
 some 3
 else
 some 0
theorem zVk{qq q0_l q0_i q0_at q0_bad}:Cz (zOm qq q0_l q0_i q0_at q0_bad) 105 [.cells [slv zF q0_l .no,ai q0_i,ai q0_at,ai q0_bad]] [.mp 0 0] (fun r=>ai r) (fun _=>[.cells [slv zF q0_l .no,ai q0_i,ai q0_at,ai q0_bad]]) 0:=fw Tryz.func105<|rK 0 [0] mX (fun _=>fE 0) fun _=>rK 0 [0] mX (fun _=>fE 0) fun _=>rK 0 [0] mX (fun _=>fE 0) fun _=>fE 0
def zLd(qq:Nat)(q0_l:List zJ)(q0_i q0_at q0_bad:Int):Option (Bool):=
 nB qq q0_l q0_i q0_at q0_bad 0 (⟨#[125]⟩:ByteArray)>>=fun r1=>
 some (!r1)
theorem zTD{qq q0_l q0_i q0_at q0_bad}:Cz (zLd qq q0_l q0_i q0_at q0_bad) 114 [.cells [slv zF q0_l .no,ai q0_i,ai q0_at,ai q0_bad]] [.mp 0 0] (fun r=>ab r) (fun _=>[.cells [slv zF q0_l .no,ai q0_i,ai q0_at,ai q0_bad]]) 0:=fw Tryz.func114<|rC 0 [0] mX fun _=>fE 1
def zLc(qq:Nat)(q0_l:List zJ)(q0_i q0_at q0_bad:Int)(p1:zC)(p2:Int):Option (zC×Int×Int):=
 if q0_bad==0 then
 zLk qq p1>>=fun r2=>
 if decide (r2>128)then
 F1 qq q0_l q0_i q0_at q0_bad 2 p2>>=fun r5=>
 some (p1,r5.1,r5.2)
 else
 some (p1,q0_at,q0_bad)
 else
 some (p1,q0_at,q0_bad)
theorem zTE{qq q0_l q0_i q0_at q0_bad p1 p2}:Cz (zLc qq q0_l q0_i q0_at q0_bad p1 p2) 175 [.cells [slv zF q0_l .no,ai q0_i,ai q0_at,ai q0_bad]] [.mp 0 0,yQ p1,ai p2] (fun r=>yQ r.1) (fun r=>[.cells [slv zF q0_l .no,ai q0_i,ai r.2.1,ai r.2.2]]) 0:=fw Tryz.func175<|rB 1 (rC 1 [] zTd fun _=>rB 0 (rC 0 [0] zAa fun _=>fE 2)<|fE 2)<|fE 2
def zCX(qq:Nat)(q0_l:List zJ)(q0_i q0_at q0_bad:Int):Option (zC×Int×Int×Int):=
 e54 qq q0_l q0_i q0_at q0_bad 0>>=fun r1=>
 X3 qq q0_l q0_i q0_at q0_bad>>=fun r3=>
 zLc qq q0_l r3.2.1 r3.2.2.1 r3.2.2.2 r3.1 r1.at_>>=fun r5=>
 some (r5.1,r3.2.1,r5.2.1,r5.2.2)
theorem zOl{qq q0_l q0_i q0_at q0_bad}:Cz (zCX qq q0_l q0_i q0_at q0_bad) 112 [.cells [slv zF q0_l .no,ai q0_i,ai q0_at,ai q0_bad]] [.mp 0 0] (fun r=>yQ r.1) (fun r=>[.cells [slv zF q0_l .no,ai r.2.1,ai r.2.2.1,ai r.2.2.2]]) 0:=fw Tryz.func112<|rC 0 [0] c54 fun _=>rC 0 [0] zVm fun _=>rC 0 [0] zTE fun _=>fE 1
def zLb(qq:Nat)(q0_l:List zJ)(q0_i q0_at q0_bad:Int):Option (zP×Int×Int×Int):=
 e54 qq q0_l q0_i q0_at q0_bad 0>>=fun r1=>
 Q6 qq q0_l q0_i q0_at q0_bad>>=fun r3=>
 sX qq q0_l r3.2.1 r3.2.2.1 r3.2.2.2 (⟨#[58]⟩:ByteArray)>>=fun r5=>
 zCX qq q0_l r5.1 r5.2.1 r5.2.2>>=fun r7=>
 some ((zP.mk r3.1 r1.at_ r7.1),r7.2.1,r7.2.2.1,r7.2.2.2)
theorem zTF{qq q0_l q0_i q0_at q0_bad}:Cz (zLb qq q0_l q0_i q0_at q0_bad) 174 [.cells [slv zF q0_l .no,ai q0_i,ai q0_at,ai q0_bad]] [.mp 0 0] (fun r=>aH r.1) (fun r=>[.cells [slv zF q0_l .no,ai r.2.1,ai r.2.2.1,ai r.2.2.2]]) 0:=fw Tryz.func174<|rC 0 [0] c54 fun _=>rC 0 [0] zCV fun _=>rC 1 [0] nC fun _=>rC 0 [0] zOl fun _=>fE 3
def zOk(qq:Nat)(q0_l:List zJ)(q0_i q0_at q0_bad:Int):Option (zP×Int×Int×Int):=
 zLb qq q0_l q0_i q0_at q0_bad>>=fun r1=>
 sX qq q0_l r1.2.1 r1.2.2.1 r1.2.2.2 (⟨#[59]⟩:ByteArray)>>=fun r3=>
 some (r1.1,r3.1,r3.2.1,r3.2.2)
theorem zVj{qq q0_l q0_i q0_at q0_bad}:Cz (zOk qq q0_l q0_i q0_at q0_bad) 115 [.cells [slv zF q0_l .no,ai q0_i,ai q0_at,ai q0_bad]] [.mp 0 0] (fun r=>aH r.1) (fun r=>[.cells [slv zF q0_l .no,ai r.2.1,ai r.2.2.1,ai r.2.2.2]]) 0:=fw Tryz.func115<|rC 0 [0] zTF fun _=>rC 1 [0] nC fun _=>fE 2
def sO:Nat->(List zJ)->Int->(List zP)->Int->Int->Int->Option (List zP×Int×Int×Int)
 |0,_,_,_,_,_,_=>none
 |qq+1,q0,p1,v9,yA,zN,yE=>
 if yE==0 then
 zLd qq q0 yA zN yE>>=fun r2=>
 if r2 then
 if decide ((List.length v9:Int)≥p1)then
 e54 qq q0 yA zN yE 0>>=fun r6=>
 F1 qq q0 yA zN yE 2 r6.at_>>=fun r8=>
 some (v9,yA,r8.1,r8.2)
 else
 zOk qq q0 yA zN yE>>=fun r10=>
 yR 88 v9 [r10.1]>>=fun l12=>
 sO qq q0 p1 l12 r10.2.1 r10.2.2.1 r10.2.2.2
 else
 some (v9,yA,zN,yE)
 else
 some (v9,yA,zN,yE)
def bB(qq:Nat)(q0:List zJ)(q1 q2 q3 p1:Int):Option (List zP×Int×Int×Int):=
 sO qq q0 p1 [] q1 q2 q3
theorem zCY:∀qq:Nat,∀q0 p1 v9 yA zN yE,Lz (sO qq q0 p1 v9 yA zN yE) 1 Tryz.f108 (inn (inn (lft (rgt (rgt (bod Tryz.f108)))))) (fun j=>sp j 34 0 [(0,.mp 0 0),(1,ai p1),(2,.clo 114 [.mp 0 0] []),(3,.clo 115 [.mp 0 0] []),(9,slv zB v9 (.st 0 7))]) ⟨[(0,.cells [slv zF q0 .no,ai yA,ai zN,ai yE])],1,[0],1,[]⟩ (fun r=>.sl (zD zB r.1) (List.length r.1) .no) (fun r=>[.cells [slv zF q0 .no,ai r.2.1,ai r.2.2.1,ai r.2.2.2]]) 0 [.blk 0,.seq (rgt (rgt (rgt (bod Tryz.f108))))]:=yW (fun _ _ _ _ _ _=>lN) fun qq ih=>fun q0 p1 v9 yA zN yE=>lw fun _=>rB 1 (rK 0 [0] zTD (fun _=>rB 1 (rC 0 [0] c54 fun _=>rC 0 [0] zAa fun _=>lE 0)<|rC 0 [0] zVj fun _=>rW (fun h13=>oP 1 (zKg h13 (by simp))) fun _=>lH 0 [] [0] [1] [0,1,2,3,9] (ih _ _ _ _ _ _)) fun _=>lE 0)<|lE 0
theorem zCZ{qq q0 q1 q2 q3 p1}:Cz (bB qq q0 q1 q2 q3 p1) 108 [.cells [slv zF q0 .no,ai q1,ai q2,ai q3]] [.mp 0 0,ai p1,.clo 114 [.mp 0 0] [],.clo 115 [.mp 0 0] []] (fun r=>.sl (zD zB r.1) (List.length r.1) .no) (fun r=>[.cells [slv zF q0 .no,ai r.2.1,ai r.2.2.1,ai r.2.2.2]]) 0:=fw Tryz.func108<|fH 0 [(none,9,7)] [0] [0] [0,1,2,3,9] (zCY _ _ _ _ _ _ _)
def zOj(qq:Nat)(q0_l:List zJ)(q0_i q0_at q0_bad:Int):Option (Bool):=
 nB qq q0_l q0_i q0_at q0_bad 0 (⟨#[40]⟩:ByteArray)>>=fun r1=>
 some r1
theorem zVi{qq q0_l q0_i q0_at q0_bad}:Cz (zOj qq q0_l q0_i q0_at q0_bad) 109 [.cells [slv zF q0_l .no,ai q0_i,ai q0_at,ai q0_bad]] [.mp 0 0] (fun r=>ab r) (fun _=>[.cells [slv zF q0_l .no,ai q0_i,ai q0_at,ai q0_bad]]) 0:=fw Tryz.func109<|rC 0 [0] mX fun _=>fE 0
def zOi(qq:Nat)(q0_l:List zJ)(q0_i q0_at q0_bad:Int):Option (zP×Int×Int×Int):=
 sX qq q0_l q0_i q0_at q0_bad (⟨#[40]⟩:ByteArray)>>=fun r1=>
 zLb qq q0_l r1.1 r1.2.1 r1.2.2>>=fun r3=>
 sX qq q0_l r3.2.1 r3.2.2.1 r3.2.2.2 (⟨#[41]⟩:ByteArray)>>=fun r5=>
 some (r3.1,r5.1,r5.2.1,r5.2.2)
theorem zVh{qq q0_l q0_i q0_at q0_bad}:Cz (zOi qq q0_l q0_i q0_at q0_bad) 110 [.cells [slv zF q0_l .no,ai q0_i,ai q0_at,ai q0_bad]] [.mp 0 0] (fun r=>aH r.1) (fun r=>[.cells [slv zF q0_l .no,ai r.2.1,ai r.2.2.1,ai r.2.2.2]]) 0:=fw Tryz.func110<|rC 0 [0] nC fun _=>rC 0 [0] zTF fun _=>rC 1 [0] nC fun _=>fE 2
def pG:Nat->(List zJ)->Int->(List zP)->Int->Int->Int->Option (List zP×Int×Int×Int)
 |0,_,_,_,_,_,_=>none
 |qq+1,q0,p1,v9,yA,zN,yE=>
 if yE==0 then
 zOj qq q0 yA zN yE>>=fun r2=>
 if r2 then
 if decide ((List.length v9:Int)≥p1)then
 e54 qq q0 yA zN yE 0>>=fun r6=>
 F1 qq q0 yA zN yE 2 r6.at_>>=fun r8=>
 some (v9,yA,r8.1,r8.2)
 else
 zOi qq q0 yA zN yE>>=fun r10=>
 yR 88 v9 [r10.1]>>=fun l12=>
 pG qq q0 p1 l12 r10.2.1 r10.2.2.1 r10.2.2.2
 else
 some (v9,yA,zN,yE)
 else
 some (v9,yA,zN,yE)
def R1(qq:Nat)(q0:List zJ)(q1 q2 q3 p1:Int):Option (List zP×Int×Int×Int):=
 pG qq q0 p1 [] q1 q2 q3
theorem zDz:∀qq:Nat,∀q0 p1 v9 yA zN yE,Lz (pG qq q0 p1 v9 yA zN yE) 1 Tryz.f108 (inn (inn (lft (rgt (rgt (bod Tryz.f108)))))) (fun j=>sp j 34 0 [(0,.mp 0 0),(1,ai p1),(2,.clo 109 [.mp 0 0] []),(3,.clo 110 [.mp 0 0] []),(9,slv zB v9 (.st 0 7))]) ⟨[(0,.cells [slv zF q0 .no,ai yA,ai zN,ai yE])],1,[0],1,[]⟩ (fun r=>.sl (zD zB r.1) (List.length r.1) .no) (fun r=>[.cells [slv zF q0 .no,ai r.2.1,ai r.2.2.1,ai r.2.2.2]]) 0 [.blk 0,.seq (rgt (rgt (rgt (bod Tryz.f108))))]:=yW (fun _ _ _ _ _ _=>lN) fun qq ih=>fun q0 p1 v9 yA zN yE=>lw fun _=>rB 1 (rK 0 [0] zVi (fun _=>rB 1 (rC 0 [0] c54 fun _=>rC 0 [0] zAa fun _=>lE 0)<|rC 0 [0] zVh fun _=>rW (fun h13=>oP 1 (zKg h13 (by simp))) fun _=>lH 0 [] [0] [1] [0,1,2,3,9] (ih _ _ _ _ _ _)) fun _=>lE 0)<|lE 0
theorem zLa{qq q0 q1 q2 q3 p1}:Cz (R1 qq q0 q1 q2 q3 p1) 108 [.cells [slv zF q0 .no,ai q1,ai q2,ai q3]] [.mp 0 0,ai p1,.clo 109 [.mp 0 0] [],.clo 110 [.mp 0 0] []] (fun r=>.sl (zD zB r.1) (List.length r.1) .no) (fun r=>[.cells [slv zF q0 .no,ai r.2.1,ai r.2.2.1,ai r.2.2.2]]) 0:=fw Tryz.func108<|fH 0 [(none,9,7)] [0] [0] [0,1,2,3,9] (zDz _ _ _ _ _ _ _)
def zLA(qq:Nat)(q0_l:List zJ)(q0_i q0_at q0_bad:Int):Option (Bool):=
 e54 qq q0_l q0_i q0_at q0_bad 0>>=fun r1=>
 if r1.kind_==1 then
 some true
 else
 nB qq q0_l q0_i q0_at q0_bad 0 (⟨#[46]⟩:ByteArray)>>=fun r4=>
 if r4 then
 some true
 else
 nB qq q0_l q0_i q0_at q0_bad 0 (⟨#[40]⟩:ByteArray)>>=fun r7=>
 some r7
theorem zTG{qq q0_l q0_i q0_at q0_bad}:Cz (zLA qq q0_l q0_i q0_at q0_bad) 281 [.cells [slv zF q0_l .no,ai q0_i,ai q0_at,ai q0_bad]] [.mp 0 0] (fun r=>ab r) (fun _=>[.cells [slv zF q0_l .no,ai q0_i,ai q0_at,ai q0_bad]]) 0:=fw Tryz.func281<|rC 0 [0] c54 fun _=>rB 0 (fE 0)<|rK 0 [0] mX (fun _=>fE 0) fun _=>rC 0 [0] mX fun _=>fE 0
mutual
def zEY:Nat->(List zJ)->Int->Int->Int->Option (zC×Int×Int×Int)
 |0,_,_,_,_=>none
 |qq+1,q0_l,q0_i,q0_at,q0_bad=>
 e54 qq q0_l q0_i q0_at q0_bad 0>>=fun r1=>
 if q0_bad != 0 then
 some ((zC.mk 0 0 (⟨#[]⟩:ByteArray) 0 []),q0_i,q0_at,q0_bad)
 else
 nB qq q0_l q0_i q0_at q0_bad 0 (⟨#[40]⟩:ByteArray)>>=fun r4=>
 if r4 then
 zOh qq q0_l q0_i q0_at q0_bad>>=fun r7=>
 some (r7.1,r7.2.1,r7.2.2.1,r7.2.2.2)
 else
 nB qq q0_l q0_i q0_at q0_bad 0 (⟨#[46]⟩:ByteArray)>>=fun r9=>
 if r9 then
 zEW qq q0_l (w64 (q0_i+1)) q0_at q0_bad>>=fun r12=>
 some ((zC.mk 10 r1.at_ (⟨#[]⟩:ByteArray) 0 [r12.1]),r12.2.1,r12.2.2.1,r12.2.2.2)
 else
 e54 qq q0_l q0_i q0_at q0_bad 0>>=fun r14=>
 if r14.kind_==1 then
 e54 qq q0_l q0_i q0_at q0_bad 0>>=fun r17=>
 if r17.text_.toList==(⟨#[95]⟩:ByteArray).toList then
 some ((zC.mk 7 r1.at_ (⟨#[]⟩:ByteArray) 0 []),(w64 (q0_i+1)),q0_at,q0_bad)
 else
 Q6 qq q0_l q0_i q0_at q0_bad>>=fun r20=>
 some ((zC.mk 6 r1.at_ r20.1 0 []),r20.2.1,r20.2.2.1,r20.2.2.2)
 else
 Q6 qq q0_l q0_i q0_at q0_bad>>=fun r22=>
 some ((zC.mk 6 r1.at_ r22.1 0 []),r22.2.1,r22.2.2.1,r22.2.2.2)
def zOh:Nat->(List zJ)->Int->Int->Int->Option (zC×Int×Int×Int)
 |0,_,_,_,_=>none
 |qq+1,q0_l,q0_i,q0_at,q0_bad=>
 e54 qq q0_l q0_i q0_at q0_bad 0>>=fun r1=>
 nB qq q0_l (w64 (q0_i+1)) q0_at q0_bad 0 (⟨#[41]⟩:ByteArray)>>=fun r3=>
 if r3 then
 some ((zC.mk 9 r1.at_ (⟨#[]⟩:ByteArray) 0 []),(w64 ((w64 (q0_i+1))+1)),q0_at,q0_bad)
 else
 zIA qq q0_l (w64 (q0_i+1)) q0_at q0_bad 0>>=fun r6=>
 if r6 then
 e54 qq q0_l (w64 (q0_i+1)) q0_at q0_bad 0>>=fun r9=>
 Q6 qq q0_l (w64 (q0_i+1)) q0_at q0_bad>>=fun r11=>
 bC qq q0_l r1 r11 r11.2.1 r11.2.2.1 r11.2.2.2 6 r9.at_ []
 else
 zEY qq q0_l (w64 (q0_i+1)) q0_at q0_bad>>=fun r13=>
 sX qq q0_l r13.2.1 r13.2.2.1 r13.2.2.2 (⟨#[41]⟩:ByteArray)>>=fun r15=>
 some (r13.1,r15.1,r15.2.1,r15.2.2)
def bC:Nat->(List zJ)->zJ->(ByteArray×Int×Int×Int)->Int->Int->Int->Int->Int->(List zC)->Option (zC×Int×Int×Int)
 |0,_,_,_,_,_,_,_,_,_=>none
 |qq+1,q0_l,r1,r11,yA,zN,yE,xA,xY,rM=>
 if yE==0 then
 zLA qq q0_l yA zN yE>>=fun r14=>
 if r14 then
 zEY qq q0_l yA zN yE>>=fun r17=>
 yR 64 rM [r17.1]>>=fun l19=>
 bC qq q0_l r1 r11 r17.2.1 r17.2.2.1 r17.2.2.2 8 r1.at_ l19
 else
 sX qq q0_l yA zN yE (⟨#[41]⟩:ByteArray)>>=fun r21=>
 some ((zC.mk xA xY r11.1 0 rM),r21.1,r21.2.1,r21.2.2)
 else
 sX qq q0_l yA zN yE (⟨#[41]⟩:ByteArray)>>=fun r23=>
 some ((zC.mk xA xY r11.1 0 rM),r23.1,r23.2.1,r23.2.2)
end
theorem F2:∀qq:Nat,(∀q0_l q0_i q0_at q0_bad,Cz (zEY qq q0_l q0_i q0_at q0_bad) 282 [.cells [slv zF q0_l .no,ai q0_i,ai q0_at,ai q0_bad]] [.mp 0 0] (fun r=>yQ r.1) (fun r=>[.cells [slv zF q0_l .no,ai r.2.1,ai r.2.2.1,ai r.2.2.2]]) 0)∧(∀q0_l q0_i q0_at q0_bad,Cz (zOh qq q0_l q0_i q0_at q0_bad) 314 [.cells [slv zF q0_l .no,ai q0_i,ai q0_at,ai q0_bad]] [.mp 0 0] (fun r=>yQ r.1) (fun r=>[.cells [slv zF q0_l .no,ai r.2.1,ai r.2.2.1,ai r.2.2.2]]) 0)∧(∀q0_l r1 r11 yA zN yE xA xY rM,Lz (bC qq q0_l r1 r11 yA zN yE xA xY rM) 1 Tryz.f314 (inn (inn (lft (rgt (rgt (rgt (rgt (rgt (rgt (bod Tryz.f314)))))))))) (fun j=>sp j 63 0 [(0,.mp 0 0),(2,.mp 1 0),(3,ai r1.at_),(5,.mp 2 0)]) ⟨[(0,.cells [slv zF q0_l .no,ai yA,ai zN,ai yE]),(1,.cells [ai 0,ai 0,at' (⟨#[]⟩:ByteArray),ai 0,slv zH ([]:List zC) .nl]),(2,.cells [ai xA,ai xY,at' r11.1,ai 0,slv zH rM (.st 0 5)])],3,[0],1,[]⟩ (fun r=>yQ r.1) (fun r=>[.cells [slv zF q0_l .no,ai r.2.1,ai r.2.2.1,ai r.2.2.2]]) 0 [.blk 0,.seq (rgt (rgt (rgt (rgt (rgt (rgt (rgt (bod Tryz.f314))))))))]):=yW ⟨fun _ _ _ _=>cN,fun _ _ _ _=>cN,fun _ _ _ _ _ _ _ _ _=>lN⟩ fun qq ih=>⟨fun q0_l q0_i q0_at q0_bad=>fw Tryz.func282<|rC 0 [0] c54 fun _=>rB 1 (fE 1)<|rK 0 [0] mX (fun _=>rC 0 [0] (ih.2.1 _ _ _ _) fun _=>fE 1) fun _=>rK 0 [0] mX (fun _=>rC 3 [0] zVl fun r12=>rS (oS 0 (yV vD [r12.1]))<|fE 1) fun _=>rC 0 [0] c54 fun _=>rB 0 (rC 0 [0] c54 fun _=>rB 0 (fE 4)<|rC 0 [0] zCV fun _=>fE 1)<|rC 0 [0] zCV fun _=>fE 1,
 fun q0_l q0_i q0_at q0_bad=>fw Tryz.func314<|rC 0 [0] c54 fun _=>rK 3 [0] mX (fun _=>fE 4) fun _=>rK 0 [0] zRl (fun _=>rC 1 [0] c54 fun _=>rC 0 [0] zCV fun _=>fH 1 [(some 2,4,5)] [0,1,2] [0] [0,2,3,5] (ih.2.2 _ _ _ _ _ _ _ _ _)) fun _=>rC 1 [0] (ih.1 _ _ _ _) fun _=>rC 1 [0] nC fun _=>fE 2,
 fun q0_l r1 r11 yA zN yE xA xY rM=>lw fun _=>rB 1 (rK 0 [0] zTG (fun _=>rS (oCl 2)<|rC 0 [0] (ih.1 _ _ _ _) fun r17=>rS (oS 0 (yV vD [r17.1]))<|rW (fun h20=>oP 0 (zQf h20 (by simp))) fun _=>lH 1 [] [0,1,2] [1] [0,2,3,5] (ih.2.2 _ _ _ _ _ _ _ _ _)) fun _=>rC 0 [0] nC fun _=>lE 2)<|rC 0 [0] nC fun _=>lE 2⟩
theorem zVg{qq q0_l q0_i q0_at q0_bad}:Cz (zEY qq q0_l q0_i q0_at q0_bad) 282 [.cells [slv zF q0_l .no,ai q0_i,ai q0_at,ai q0_bad]] [.mp 0 0] (fun r=>yQ r.1) (fun r=>[.cells [slv zF q0_l .no,ai r.2.1,ai r.2.2.1,ai r.2.2.2]]) 0:=(F2 _).1 _ _ _ _
def bD:Nat->(List zJ)->(List zC)->Int->Int->Int->Option (List zC×Int×Int×Int)
 |0,_,_,_,_,_=>none
 |qq+1,q0_l,v3,yA,zN,yE=>
 if yE==0 then
 zLA qq q0_l yA zN yE>>=fun r2=>
 if r2 then
 e54 qq q0_l yA zN yE 0>>=fun r5=>
 if decide ((List.length v3:Int)≥24)then
 F1 qq q0_l yA zN yE 2 r5.at_>>=fun r8=>
 some (v3,yA,r8.1,r8.2)
 else
 zEY qq q0_l yA zN yE>>=fun r10=>
 zLc qq q0_l r10.2.1 r10.2.2.1 r10.2.2.2 r10.1 r5.at_>>=fun r12=>
 yR 64 v3 [r12.1]>>=fun l14=>
 bD qq q0_l l14 r10.2.1 r12.2.1 r12.2.2
 else
 some (v3,yA,zN,yE)
 else
 some (v3,yA,zN,yE)
def zRj(qq:Nat)(q0_l:List zJ)(q0_i q0_at q0_bad:Int):Option (List zC×Int×Int×Int):=
 bD qq q0_l [] q0_i q0_at q0_bad
theorem zOg:∀qq:Nat,∀q0_l v3 yA zN yE,Lz (bD qq q0_l v3 yA zN yE) 1 Tryz.f238 (inn (inn (lft (rgt (rgt (bod Tryz.f238)))))) (fun j=>sp j 32 0 [(0,.mp 0 0),(3,slv zH v3 (.st 0 5))]) ⟨[(0,.cells [slv zF q0_l .no,ai yA,ai zN,ai yE])],1,[0],1,[]⟩ (fun r=>.sl (zD zH r.1) (List.length r.1) .no) (fun r=>[.cells [slv zF q0_l .no,ai r.2.1,ai r.2.2.1,ai r.2.2.2]]) 0 [.blk 0,.seq (rgt (rgt (rgt (bod Tryz.f238))))]:=yW (fun _ _ _ _ _=>lN) fun qq ih=>fun q0_l v3 yA zN yE=>lw fun _=>rB 1 (rK 0 [0] zTG (fun _=>rC 0 [0] c54 fun _=>rB 1 (rC 0 [0] zAa fun _=>lE 0)<|rC 0 [0] zVg fun _=>rC 0 [0] zTE fun r12=>rS (oS 0 (yV vD [r12.1]))<|rW (fun h15=>oP 0 (zQf h15 (by simp))) fun _=>lH 0 [] [0] [1] [0,3] (ih _ _ _ _ _)) fun _=>lE 0)<|lE 0
theorem zVf{qq q0_l q0_i q0_at q0_bad}:Cz (zRj qq q0_l q0_i q0_at q0_bad) 238 [.cells [slv zF q0_l .no,ai q0_i,ai q0_at,ai q0_bad]] [.mp 0 0] (fun r=>.sl (zD zH r.1) (List.length r.1) .no) (fun r=>[.cells [slv zF q0_l .no,ai r.2.1,ai r.2.2.1,ai r.2.2.2]]) 0:=fw Tryz.func238<|fH 0 [(none,3,5)] [0] [0] [0,3] (zOg _ _ _ _ _ _)
def zOf(qq:Nat)(q0_l:List zJ)(q0_i q0_at q0_bad:Int):Option (yT×Int×Int×Int):=
 e54 qq q0_l q0_i q0_at q0_bad 0>>=fun r1=>
 zRj qq q0_l q0_i q0_at q0_bad>>=fun r3=>
 if r3.2.2.2==0 then
 nB qq q0_l r3.2.1 r3.2.2.1 r3.2.2.2 0 (⟨#[61]⟩:ByteArray)>>=fun r6=>
 if r6 then
 zCX qq q0_l (w64 (r3.2.1+1)) r3.2.2.1 r3.2.2.2>>=fun r9=>
 sX qq q0_l r9.2.1 r9.2.2.1 r9.2.2.2 (⟨#[59]⟩:ByteArray)>>=fun r11=>
 some ((yT.mk r1.at_ r3.1 true r9.1),r11.1,r11.2.1,r11.2.2)
 else
 sX qq q0_l r3.2.1 r3.2.2.1 r3.2.2.2 (⟨#[59]⟩:ByteArray)>>=fun r13=>
 some ((yT.mk r1.at_ r3.1 false (zC.mk 0 0 (⟨#[]⟩:ByteArray) 0 [])),r13.1,r13.2.1,r13.2.2)
 else
 sX qq q0_l r3.2.1 r3.2.2.1 r3.2.2.2 (⟨#[59]⟩:ByteArray)>>=fun r15=>
 some ((yT.mk r1.at_ r3.1 false (zC.mk 0 0 (⟨#[]⟩:ByteArray) 0 [])),r15.1,r15.2.1,r15.2.2)
theorem zVe{qq q0_l q0_i q0_at q0_bad}:Cz (zOf qq q0_l q0_i q0_at q0_bad) 177 [.cells [slv zF q0_l .no,ai q0_i,ai q0_at,ai q0_bad]] [.mp 0 0] (fun r=>zBX r.1) (fun r=>[.cells [slv zF q0_l .no,ai r.2.1,ai r.2.2.1,ai r.2.2.2]]) 0:=fw Tryz.func177<|rC 0 [0] c54 fun _=>rC 0 [0] zVf fun _=>rB 2 (rK 0 [0] mX (fun _=>rC 3 [0] zOl fun _=>rC 2 [0] nC fun _=>fE 2) fun _=>rC 0 [0] nC fun _=>fE 2)<|rC 0 [0] nC fun _=>fE 2
def gV:Nat->(List zJ)->(List yT)->Int->Int->Int->Option (List yT×Int×Int×Int)
 |0,_,_,_,_,_=>none
 |qq+1,q0_l,v3,yA,zN,yE=>
 if yE==0 then
 zLd qq q0_l yA zN yE>>=fun r2=>
 if r2 then
 if decide ((List.length v3:Int)≥32)then
 e54 qq q0_l yA zN yE 0>>=fun r6=>
 F1 qq q0_l yA zN yE 2 r6.at_>>=fun r8=>
 some (v3,yA,r8.1,r8.2)
 else
 zOf qq q0_l yA zN yE>>=fun r10=>
 yR 104 v3 [r10.1]>>=fun l12=>
 gV qq q0_l l12 r10.2.1 r10.2.2.1 r10.2.2.2
 else
 some (v3,yA,zN,yE)
 else
 some (v3,yA,zN,yE)
def zOe(qq:Nat)(q0_l:List zJ)(q0_i q0_at q0_bad:Int):Option (List yT×Int×Int×Int):=
 gV qq q0_l [] q0_i q0_at q0_bad
theorem zOd:∀qq:Nat,∀q0_l v3 yA zN yE,Lz (gV qq q0_l v3 yA zN yE) 1 Tryz.f113 (inn (inn (lft (rgt (rgt (bod Tryz.f113)))))) (fun j=>sp j 27 0 [(0,.mp 0 0),(3,slv zO v3 (.st 0 8))]) ⟨[(0,.cells [slv zF q0_l .no,ai yA,ai zN,ai yE])],1,[0],1,[]⟩ (fun r=>.sl (zD zO r.1) (List.length r.1) .no) (fun r=>[.cells [slv zF q0_l .no,ai r.2.1,ai r.2.2.1,ai r.2.2.2]]) 0 [.blk 0,.seq (rgt (rgt (rgt (bod Tryz.f113))))]:=yW (fun _ _ _ _ _=>lN) fun qq ih=>fun q0_l v3 yA zN yE=>lw fun _=>rB 1 (rK 0 [0] zTD (fun _=>rB 1 (rC 0 [0] c54 fun _=>rC 0 [0] zAa fun _=>lE 0)<|rC 0 [0] zVe fun _=>rW (fun h13=>oP 1 (zSZ h13 (by simp))) fun _=>lH 0 [] [0] [1] [0,3] (ih _ _ _ _ _)) fun _=>lE 0)<|lE 0
theorem zTH{qq q0_l q0_i q0_at q0_bad}:Cz (zOe qq q0_l q0_i q0_at q0_bad) 113 [.cells [slv zF q0_l .no,ai q0_i,ai q0_at,ai q0_bad]] [.mp 0 0] (fun r=>.sl (zD zO r.1) (List.length r.1) .no) (fun r=>[.cells [slv zF q0_l .no,ai r.2.1,ai r.2.2.1,ai r.2.2.2]]) 0:=fw Tryz.func113<|fH 0 [(none,3,8)] [0] [0] [0,3] (zOd _ _ _ _ _ _)
def e53(qq:Nat)(p0:ByteArray):Option (List zJ×Int×Int×Int):=
 zOz qq p0>>=fun r1=>
 if r1.2.2 != 0 then
 some ([(zJ.mk 5 (⟨#[]⟩:ByteArray) 0)],0,r1.2.1,r1.2.2)
 else
 some (r1.1,0,0,0)
theorem c53{qq p0}:Cz (e53 qq p0) 53 [] [at' p0] (fun _=>.mp 0 0) (fun r=>[.cells [slv zF r.1 .no,ai r.2.1,ai r.2.2.1,ai r.2.2.2]]) 0:=fw Tryz.func53<|rC 0 [] zVv fun _=>rB 3 (fF 1 [0])<|fF 0 [0]
def e55(qq:Nat)(q0_l:List zJ)(q0_i q0_at q0_bad:Int):Option (yJ×Int×Int×Int):=
 zOm qq q0_l q0_i q0_at q0_bad>>=fun r1=>
 e54 qq q0_l q0_i q0_at q0_bad 0>>=fun r3=>
 if r1==0 then
 F1 qq q0_l q0_i q0_at q0_bad 1 r3.at_>>=fun r6=>
 some ((yJ.mk r1 r3.at_ (⟨#[]⟩:ByteArray) [] (zC.mk 0 0 (⟨#[]⟩:ByteArray) 0 []) [] []),q0_i,r6.1,r6.2)
 else
 Q6 qq q0_l (w64 (q0_i+1)) q0_at q0_bad>>=fun r8=>
 if r1 != 3 then
 R1 qq q0_l r8.2.1 r8.2.2.1 r8.2.2.2 24>>=fun r11=>
 sX qq q0_l r11.2.1 r11.2.2.1 r11.2.2.2 (⟨#[58]⟩:ByteArray)>>=fun r13=>
 zCX qq q0_l r13.1 r13.2.1 r13.2.2>>=fun r15=>
 sX qq q0_l r15.2.1 r15.2.2.1 r15.2.2.2 (⟨#[123]⟩:ByteArray)>>=fun r17=>
 if r1==3 then
 zOe qq q0_l r17.1 r17.2.1 r17.2.2>>=fun r20=>
 sX qq q0_l r20.2.1 r20.2.2.1 r20.2.2.2 (⟨#[125]⟩:ByteArray)>>=fun r22=>
 some ((yJ.mk r1 r3.at_ r8.1 r11.1 r15.1 [] r20.1),r22.1,r22.2.1,r22.2.2)
 else
 bB qq q0_l r17.1 r17.2.1 r17.2.2 16>>=fun r24=>
 sX qq q0_l r24.2.1 r24.2.2.1 r24.2.2.2 (⟨#[125]⟩:ByteArray)>>=fun r26=>
 some ((yJ.mk r1 r3.at_ r8.1 r11.1 r15.1 r24.1 []),r26.1,r26.2.1,r26.2.2)
 else
 sX qq q0_l r8.2.1 r8.2.2.1 r8.2.2.2 (⟨#[58]⟩:ByteArray)>>=fun r28=>
 zCX qq q0_l r28.1 r28.2.1 r28.2.2>>=fun r30=>
 sX qq q0_l r30.2.1 r30.2.2.1 r30.2.2.2 (⟨#[123]⟩:ByteArray)>>=fun r32=>
 if r1==3 then
 zOe qq q0_l r32.1 r32.2.1 r32.2.2>>=fun r35=>
 sX qq q0_l r35.2.1 r35.2.2.1 r35.2.2.2 (⟨#[125]⟩:ByteArray)>>=fun r37=>
 some ((yJ.mk r1 r3.at_ r8.1 [] r30.1 [] r35.1),r37.1,r37.2.1,r37.2.2)
 else
 bB qq q0_l r32.1 r32.2.1 r32.2.2 16>>=fun r39=>
 sX qq q0_l r39.2.1 r39.2.2.1 r39.2.2.2 (⟨#[125]⟩:ByteArray)>>=fun r41=>
 some ((yJ.mk r1 r3.at_ r8.1 [] r30.1 r39.1 []),r41.1,r41.2.1,r41.2.2)
theorem c55{qq q0_l q0_i q0_at q0_bad}:Cz (e55 qq q0_l q0_i q0_at q0_bad) 55 [.cells [slv zF q0_l .no,ai q0_i,ai q0_at,ai q0_bad]] [.mp 0 0] (fun r=>aI r.1) (fun r=>[.cells [slv zF q0_l .no,ai r.2.1,ai r.2.2.1,ai r.2.2.2]]) 0:=fw Tryz.func55<|rC 0 [0] zVk fun _=>rC 0 [0] c54 fun _=>rB 2 (rC 1 [0] zAa fun _=>fE 2)<|rC 3 [0] zCV fun _=>rB 2 (rC 0 [0] zLa fun _=>rC 1 [0] nC fun _=>rC 0 [0] zOl fun _=>rC 1 [0] nC fun _=>rB 1 (rC 0 [0] zTH fun _=>rC 1 [0] nC fun _=>fE 2)<|rC 0 [0] zCZ fun _=>rC 1 [0] nC fun _=>fE 2)<|rC 0 [0] nC fun _=>rC 0 [0] zOl fun _=>rC 1 [0] nC fun _=>rB 1 (rC 0 [0] zTH fun _=>rC 1 [0] nC fun _=>fE 2)<|rC 0 [0] zCZ fun _=>rC 1 [0] nC fun _=>fE 2
def aQ:Nat->ByteArray->(List zJ×Int×Int×Int)->(List yJ)->Int->Int->Int->Option (List yJ×Int×Int)
 |0,_,_,_,_,_,_=>none
 |qq+1,p0,r1,v6,yA,zN,yE=>
 if yE==0 then
 e54 qq r1.1 yA zN yE 0>>=fun r4=>
 if r4.kind_ != 5 then
 e55 qq r1.1 yA zN yE>>=fun r7=>
 yR 168 v6 [r7.1]>>=fun l9=>
 aQ qq p0 r1 l9 r7.2.1 r7.2.2.1 r7.2.2.2
 else
 if yE != 0 then
 some ([],zN,yE)
 else
 some (v6,(p0.size:Int),0)
 else
 if yE != 0 then
 some ([],zN,yE)
 else
 some (v6,(p0.size:Int),0)
def e22(qq:Nat)(p0:ByteArray):Option (List yJ×Int×Int):=
 e53 qq p0>>=fun r1=>
 aQ qq p0 r1 [] r1.2.1 r1.2.2.1 r1.2.2.2
theorem zRi:∀qq:Nat,∀p0 r1 v6 yA zN yE,Lz (aQ qq p0 r1 v6 yA zN yE) 0 Tryz.f22 (inn (inn (lft (rgt (rgt (rgt (bod Tryz.f22))))))) (fun j=>sp j 41 0 [(0,at' p0),(5,.mp 0 0),(6,slv vQ v6 (.st 0 11))]) ⟨[(0,.cells [slv zF r1.1 .no,ai yA,ai zN,ai yE])],1,[0],1,[]⟩ (fun r=>.tup [.sl (zD vQ r.1) (List.length r.1) .no,ai r.2.1,ai r.2.2]) (fun _=>[]) 0 [.blk 0,.seq (rgt (rgt (rgt (rgt (bod Tryz.f22)))))]:=yW (fun _ _ _ _ _ _=>lN) fun qq ih=>fun p0 r1 v6 yA zN yE=>lw fun _=>rB 1 (rC 0 [0] c54 fun _=>rB 0 (rC 0 [0] c55 fun _=>rW (fun h10=>oP 1 (zSY h10 (by simp))) fun _=>lH 0 [] [0] [1] [0,5,6] (ih _ _ _ _ _ _))<|rB 1 (lE 2)<|lE 1)<|rB 1 (lE 2)<|lE 1
theorem c22{qq p0}:Cz (e22 qq p0) 22 [] [at' p0] (fun r=>.tup [.sl (zD vQ r.1) (List.length r.1) .no,ai r.2.1,ai r.2.2]) (fun _=>[]) 0:=fw Tryz.func22<|rC 0 [] c53 fun _=>fH 0 [(none,6,11)] [0] [0] [0,5,6] (zRi _ _ _ _ _ _ _)
section
variable {l:List zJ} (hl:zIe l)
theorem D0(i a b:Int)(t:zC)(p:Int)(ho:nOk t):Tot (fun q=>zLc q l i a b t p) fun r=>r.1=t∧(r.2.2=0->b=0):=by
 simp only[zLc]
 refine Tot.ite (fun h=>(Q3 t ho).bind fun _ _=>Tot.ite (fun _=>(rO i a b 2 _ (by decide)).bind fun r hr=>Tot.ret ⟨rfl,fun h=>absurd h hr⟩) fun _=>Tot.ret ⟨rfl,id⟩) fun _=>Tot.ret ⟨rfl,id⟩
include hl
theorem R2(i a b:Int)(h0:0≤i)(h1:i<l.length):Tot (fun q=>zCX q l i a b) (NR l i b):=by
 have:=hl.2.1
 simp only[zCX]
 refine Tot.bind ((wS hl i a b 0 (by omega) (by omega)).tot (P:=fun _=>True) trivial) fun t _=>(R0 hl l.length i a b h0 h1 (by omega)).bind fun r hr=>(D0 _ _ _ _ _ hr.1).bind fun s hs=>Tot.ret ⟨by show nOk s.1;rw[hs.1];exact hr.1,hr.2.1,hr.2.2.1,fun h=>hr.2.2.2 (hs.2 h)⟩
omit hl in
def BR(l:List zJ)(i b:Int)(r:zP×Int×Int×Int):Prop:=nOk r.1.type_∧i≤r.2.1∧r.2.1<l.length∧(r.2.2.2=0->b=0∧i<r.2.1)
theorem zGR(i a b:Int)(h0:0≤i)(h1:i<l.length):Tot (fun q=>zLb q l i a b) (BR l i b):=by
 have:=hl.2.1
 simp only[zLb]
 refine Tot.bind ((wS hl i a b 0 (by omega) (by omega)).tot (P:=fun _=>True) trivial) fun t _=>(mY hl i a b h0 h1).bind fun r hr=>(wT hl _ _ _ _ (by omega) hr.2.1).bind fun s hs=>(R2 hl _ _ _ (by omega) hs.2.1).bind fun u hu=>?_
 obtain⟨o,hu⟩:=hu
 exact Tot.ret ⟨o,by show i≤u.2.1;omega,hu.2.1,fun h=>by have:u.2.2.2=0:=h;show b=0∧i<u.2.1;omega⟩
theorem zLB(i a b:Int)(h0:0≤i)(h1:i<l.length):Tot (fun q=>zOi q l i a b) (BR l i b):=by
 simp only[zOi]
 refine(wT hl i a b _ h0 h1).bind fun r hr=>(zGR hl _ _ _ (by omega) hr.2.1).bind fun s hs=>?_
 obtain⟨o,hs⟩:=hs
 exact(wT hl _ _ _ _ (by omega) hs.2.1).bind fun u hu=>Tot.ret ⟨o,by show i≤u.1;omega,hu.2.1,fun h=>by have:u.2.2=0:=h;show b=0∧i<u.1;omega⟩
theorem zIB(i a b:Int)(h0:0≤i)(h1:i<l.length):Tot (fun q=>zOk q l i a b) (BR l i b):=by
 simp only[zOk]
 refine(zGR hl i a b h0 h1).bind fun s hs=>?_
 obtain⟨o,hs⟩:=hs
 exact(wT hl _ _ _ _ (by omega) hs.2.1).bind fun u hu=>Tot.ret ⟨o,by show i≤u.1;omega,hu.2.1,fun h=>by have:u.2.2=0:=h;show b=0∧i<u.1;omega⟩
theorem D1(i a b:Int)(h0:0≤i)(h1:i<l.length):Tot (fun q=>zLA q l i a b) fun _=>True:=by
 have:=hl.2.1
 simp only[zLA]
 exact Tot.bind ((wS hl i a b 0 (by omega) (by omega)).tot (P:=fun _=>True) trivial) fun t _=>Tot.ite (fun _=>Tot.ret trivial) fun _=>(uA hl i a b 0 _ (by omega) (by omega)).bind fun _ _=>Tot.ite (fun _=>Tot.ret trivial) fun _=>(uA hl i a b 0 _ (by omega) (by omega)).bind fun _ _=>Tot.ret trivial
omit hl in
def zLC(l:List zJ)(m:Nat):Prop:=∀i a b:Int,0≤i->i<l.length->(b=0->(l.length:Int)-i≤m)->Tot (fun q=>zEY q l i a b) (NR l i b)
omit hl in
theorem zDy:∀ {x y:List zC},X2 x->X2 y->X2 (x++y)
 | [],_,_,h=>h
 |_::_,_,h,k=>⟨h.1,zDy h.2 k⟩
theorem R3(m:Nat)(IH:zLC l m)(t:zJ)(nm:ByteArray×Int×Int×Int):∀(k:Nat) (i a b kd p:Int) (sub:List zC),0≤i->i<l.length->(b=0->(l.length:Int)-i≤k)->(b=0->(l.length:Int)-i≤m)->(sub.length≤i+1∧(b=0->sub.length≤i))->X2 sub ->
  Tot (fun q=>bC q l t nm i a b kd p sub) (NR l i b)
 |k,i,a,b,kd,p,sub,h0,h1,hk,hb,hs,ho=>by
  have:=hl.2.1
  refine Tot.succ ?_
  simp only[bC]
  have oo:nOk (zC.mk kd p nm.1 0 sub):=⟨by omega,ho⟩
  have fin:=(wT hl i a b (⟨#[41]⟩:ByteArray) h0 h1).bind (k:=fun _ r=>some (zC.mk kd p nm.1 0 sub,r.1,r.2.1,r.2.2)) (Q:=NR l i b) fun r hr=>⟨_,Evt.ret,oo,hr⟩
  refine Tot.ite (fun h=>(D1 hl i a b h0 h1).bind fun _ _=>Tot.ite (fun _=>(IH i a b h0 h1 hb).bind fun r hr=>Tot.pure (zZ (by simp;omega)) ?_) fun _=>fin) fun _=>fin
  have hb0:b=0:=by simpa using h
  obtain⟨o,hr⟩:=hr
  cases k with
  |zero=>have:=hk hb0;omega
  |succ k=>
   refine(R3 m IH t nm k r.2.1 _ _ 8 _ _ (by omega) hr.2.1 (by omega) (by omega) ⟨by simp;omega,by simp;omega⟩ (zDy ho (show X2 [r.1]from⟨o,trivial⟩))).mono fun s hs=>?_
   obtain⟨o2,hs⟩:=hs
   exact⟨o2,by omega,hs.2.1,fun h=>⟨hb0,by omega⟩⟩
theorem zIC(m:Nat)(IH:zLC l m)(i a b:Int)(h0:0≤i)(h1:i+1<l.length)(hb:(l.length:Int)-i≤m+1)(hb0:b=0):Tot (fun q=>zOh q l i a b) (NR l i b):=by
 have:=hl.2.1
 refine Tot.succ ?_
 simp only[zOh]
 rw[zV (x:=i+1) (by omega) (by omega),zV (x:=i+1+1) (by omega) (by omega)]
 refine Tot.bind ((wS hl i a b 0 (by omega) (by omega)).tot (P:=fun _=>True) trivial) fun t _=>(uA hl (i+1) a b 0 _ (by omega) (by omega)).bind fun c hc=>Tot.ite (fun h=>?_) fun _=>?_
 ·have:=hc h
  exact Tot.ret ⟨X5 _ _ _ _,by show i≤i+1+1;omega,by show i+1+1<_;omega,fun _=>⟨hb0,by show i<i+1+1;omega⟩⟩
 ·refine(dN hl (i+1) a b 0 (by omega) (by omega)).bind fun c hc=>Tot.ite (fun _=>Tot.bind ((wS hl (i+1) a b 0 (by omega) (by omega)).tot (P:=fun _=>True) trivial) fun u _=>(mY hl (i+1) a b (by omega) h1).bind fun r hr=>?_) fun _=>?_
  ·refine(R3 hl m IH t r l.length r.2.1 _ _ 6 _ [] (by omega) hr.2.1 (by omega) (by omega) ⟨by simp;omega,by simp;omega⟩ trivial).mono fun s hs=>?_
   obtain⟨o2,hs⟩:=hs
   exact⟨o2,by omega,hs.2.1,fun h=>⟨hb0,by omega⟩⟩
  ·refine(IH (i+1) a b (by omega) h1 (by omega)).bind fun r hr=>?_
   obtain⟨o,hr⟩:=hr
   exact(wT hl _ _ _ _ (by omega) hr.2.1).bind fun s hs=>Tot.ret ⟨o,by show i≤s.1;omega,hs.2.1,fun _=>⟨hb0,by show i<s.1;omega⟩⟩
theorem zGS:∀m:Nat,zLC l m
 |m,i,a,b,h0,h1,hb=>by
  have:=hl.2.1
  refine Tot.succ ?_
  simp only[zEY]
  rw[zV (x:=i+1) (by omega) (by omega)]
  have e:=wS hl i a b 0 (by omega) (by omega)
  refine Tot.bind (e.tot (P:=fun _=>True) trivial) fun t _=>Tot.ite (fun h=>Tot.ret ⟨X5 _ _ _ _,by show i≤i;omega,h1,fun h2=>absurd h2 (by simpa using h)⟩) fun h=>?_
  have hb0:b=0:=by simpa using h
  cases m with
  |zero=>have:=hb hb0;omega
  |succ m=>
   have nm:=(mY hl i a b h0 h1).bind (k:=fun _ r=>some (zC.mk 6 t.at_ r.1 0 [],r.2.1,r.2.2.1,r.2.2.2)) (Q:=NR l i b) fun r hr=>⟨_,Evt.ret,X5 _ _ _ _,hr⟩
   refine(uA hl i a b 0 _ (by omega) (by omega)).bind fun c hc=>Tot.ite (fun h2=>(zIC hl m (zGS m) i a b h0 (by have:=hc h2;omega) (by omega) hb0).bind fun r hr=>⟨_,Evt.ret,hr⟩) fun _=>?_
   refine(uA hl i a b 0 _ (by omega) (by omega)).bind fun c hc=>Tot.ite (fun h2=>(Q9 hl l.length (R0 hl l.length) (i+1) a b (by omega) (by have:=hc h2;omega) (by omega)).bind fun r hr=>Tot.ret ?_) fun _=>?_
   ·obtain⟨o,hr⟩:=hr
    exact⟨⟨by simp,o,trivial⟩,by show i≤r.2.1;omega,hr.2.1,fun _=>⟨hb0,by show i<r.2.1;omega⟩⟩
   ·refine Tot.bind (e.tot rfl) fun u hu=>Tot.ite (fun h2=>Tot.bind (e.tot (P:=fun _=>True) trivial) fun _ _=>Tot.ite (fun _=>Tot.ret ⟨X5 _ _ _ _,?_⟩) fun _=>nm) fun _=>nm
    subst hu
    have:=aP hl (i:=i+0) (by omega) (by have:=eq_of_beq h2;omega)
    exact⟨by show i≤i+1;omega,by show i+1<_;omega,fun _=>⟨hb0,by show i<i+1;omega⟩⟩
theorem s7:∀(k:Nat) (acc:List zC) (i a b:Int),0≤i->i<l.length->24-acc.length≤k->acc.length≤24->(∀p∈acc,nOk p)->Tot (fun q=>bD q l acc i a b) fun r=>(r.1.length≤24∧∀p∈r.1,nOk p)∧i≤r.2.1∧r.2.1<l.length∧(r.2.2.2=0->b=0)
 |k,acc,i,a,b,h0,h1,hk,hn,ho=>by
  have:=hl.2.1
  refine Tot.succ ?_
  simp only[bD]
  have fin:Tot (fun _=>some (acc,i,a,b)) fun r:List zC×Int×Int×Int=>(r.1.length≤24∧∀p∈r.1,nOk p)∧i≤r.2.1∧r.2.1<l.length∧(r.2.2.2=0->b=0):=Tot.ret ⟨⟨hn,ho⟩,by show i≤i;omega,h1,id⟩
  refine Tot.ite (fun h=>(D1 hl i a b h0 h1).bind fun _ _=>Tot.ite (fun _=>Tot.bind ((wS hl i a b 0 (by omega) (by omega)).tot (P:=fun _=>True) trivial) fun t _=>Tot.ite (fun _=>(rO _ _ _ 2 _ (by decide)).bind fun r hr=>Tot.ret ⟨⟨hn,ho⟩,by show i≤i;omega,h1,fun h=>absurd h hr⟩) fun h2=>?_) fun _=>fin) fun _=>fin
  have hb0:b=0:=by simpa using h
  have h3:=of_decide_eq_false h2
  refine(zGS hl l.length i a b h0 h1 (by omega)).bind fun r hr=>(D0 _ _ _ _ _ hr.1).bind fun s hs=>Tot.pure (zZ (by simp;omega)) ?_
  obtain⟨o,hr⟩:=hr
  cases k with
  |zero=>omega
  |succ k=>exact(s7 k _ r.2.1 _ _ (by omega) hr.2.1 (by simp;omega) (by simp;omega) (fun p hp=>by rcases List.mem_append.1 hp with hp|hp;exact ho p hp;rw[List.mem_singleton.1 hp,hs.1];exact o)).mono fun u hu=>⟨hu.1,by omega,hu.2.2.1,fun _=>hb0⟩
omit hl in
theorem zTI{x:yT}(h:x.pats_.length≤24)(k:∀p∈x.pats_,nOk p)(o:nOk x.body_):bA x:=⟨Nat.le_trans h (by decide),k,o⟩
omit hl in
theorem dI'{d:yJ}(h:nOk d.type_)(h1:d.tele_.length≤24∧bOk d.tele_)(h2:d.cons_.length≤16∧bOk d.cons_)(h3:d.rows_.length≤32∧∀r∈d.rows_,bA r):dOk d:=⟨h,⟨Nat.le_trans h1.1 (by decide),h1.2⟩,⟨Nat.le_trans h2.1 (by decide),h2.2⟩,Nat.le_trans h3.1 (by decide),h3.2⟩
theorem zOc(i a b:Int)(h0:0≤i)(h1:i<l.length):Tot (fun q=>zOf q l i a b) fun r=>bA r.1∧i≤r.2.1∧r.2.1<l.length:=by
 have:=hl.2.1
 simp only[zOf,zRj]
 refine Tot.bind ((wS hl i a b 0 (by omega) (by omega)).tot (P:=fun _=>True) trivial) fun t _=>(s7 hl 24 [] i a b h0 h1 (by simp) (by simp) (by simp)).bind fun r hr=>?_
 obtain⟨⟨o1,o2⟩,hr⟩:=hr
 have fin:=(wT hl r.2.1 r.2.2.1 r.2.2.2 (⟨#[59]⟩:ByteArray) (by omega) hr.2.1).bind (k:=fun _ s=>some (yT.mk t.at_ r.1 false (zC.mk 0 0 (⟨#[]⟩:ByteArray) 0 []),s.1,s.2.1,s.2.2)) (Q:=fun r=>bA r.1∧i≤r.2.1∧r.2.1<(l.length:Int)) fun s hs=>⟨_,Evt.ret,zTI o1 o2 (X5 _ _ _ _),by show i≤s.1;omega,hs.2.1⟩
 refine Tot.ite (fun _=>(uA hl _ _ _ 0 _ (by omega) (by omega)).bind fun c hc=>Tot.ite (fun h2=>?_) fun _=>fin) fun _=>fin
 have:=hc h2
 rw[zV (x:=r.2.1+1) (by omega) (by omega)]
 refine(R2 hl _ _ _ (by omega) (by omega)).bind fun s hs=>?_
 obtain⟨o,hs⟩:=hs
 exact(wT hl _ _ _ _ (by omega) hs.2.1).bind fun u hu=>Tot.ret ⟨zTI o1 o2 o,by show i≤u.1;omega,hu.2.1⟩
theorem zDx(i a b:Int)(h0:0≤i)(h1:i<l.length):Tot (fun q=>zLd q l i a b) fun _=>True:=by
 have:=hl.2.1
 simp only[zLd]
 exact(uA hl i a b 0 _ (by omega) (by omega)).bind fun _ _=>Tot.ret trivial
theorem zEZ(i a b:Int)(h0:0≤i)(h1:i<l.length):Tot (fun q=>zOj q l i a b) fun _=>True:=by
 have:=hl.2.1
 simp only[zOj]
 exact(uA hl i a b 0 _ (by omega) (by omega)).bind fun _ _=>Tot.ret trivial
theorem s8:∀(k:Nat) (acc:List yT) (i a b:Int),0≤i->i<l.length->32-acc.length≤k->acc.length≤32->(∀p∈acc,bA p)->Tot (fun q=>gV q l acc i a b) fun r=>(r.1.length≤32∧∀p∈r.1,bA p)∧i≤r.2.1∧r.2.1<l.length∧(r.2.2.2=0->b=0)
 |k,acc,i,a,b,h0,h1,hk,hn,ho=>by
  have:=hl.2.1
  refine Tot.succ ?_
  simp only[gV]
  have fin:Tot (fun _=>some (acc,i,a,b)) fun r:List yT×Int×Int×Int=>(r.1.length≤32∧∀p∈r.1,bA p)∧i≤r.2.1∧r.2.1<l.length∧(r.2.2.2=0->b=0):=Tot.ret ⟨⟨hn,ho⟩,by show i≤i;omega,h1,id⟩
  refine Tot.ite (fun h=>(zDx hl i a b h0 h1).bind fun _ _=>Tot.ite (fun _=>Tot.ite (fun _=>Tot.bind ((wS hl i a b 0 (by omega) (by omega)).tot (P:=fun _=>True) trivial) fun t _=>(rO _ _ _ 2 _ (by decide)).bind fun r hr=>Tot.ret ⟨⟨hn,ho⟩,by show i≤i;omega,h1,fun h=>absurd h hr⟩) fun h2=>?_) fun _=>fin) fun _=>fin
  have hb0:b=0:=by simpa using h
  have h3:=of_decide_eq_false h2
  refine(zOc hl i a b h0 h1).bind fun r hr=>Tot.pure (zZ (by simp;omega)) ?_
  obtain⟨o,hr⟩:=hr
  cases k with
  |zero=>omega
  |succ k=>exact(s8 k _ r.2.1 _ _ (by omega) hr.2 (by simp;omega) (by simp;omega) (fun p hp=>by rcases List.mem_append.1 hp with hp|hp;exact ho p hp;rw[List.mem_singleton.1 hp];exact o)).mono fun u hu=>⟨hu.1,by omega,hu.2.2.1,fun _=>hb0⟩
omit hl in
def LR(l:List zJ)(i b most:Int)(r:List zP×Int×Int×Int):Prop:=(r.1.length≤most∧bOk r.1)∧i≤r.2.1∧r.2.1<l.length∧(r.2.2.2=0->b=0)
theorem s9(most:Int)(hm:0≤most∧most≤24):∀(k:Nat) (acc:List zP) (i a b:Int),0≤i->i<l.length->most-acc.length≤k->acc.length≤most->bOk acc->Tot (fun q=>pG q l most acc i a b) (LR l i b most)
 |k,acc,i,a,b,h0,h1,hk,hn,ho=>by
  have:=hl.2.1
  refine Tot.succ ?_
  simp only[pG]
  have fin:Tot (fun _=>some (acc,i,a,b)) (LR l i b most):=Tot.ret ⟨⟨hn,ho⟩,by show i≤i;omega,h1,id⟩
  refine Tot.ite (fun h=>(zEZ hl i a b h0 h1).bind fun _ _=>Tot.ite (fun _=>Tot.ite (fun _=>Tot.bind ((wS hl i a b 0 (by omega) (by omega)).tot (P:=fun _=>True) trivial) fun t _=>(rO _ _ _ 2 _ (by decide)).bind fun r hr=>Tot.ret ⟨⟨hn,ho⟩,by show i≤i;omega,h1,fun h=>absurd h hr⟩) fun h2=>?_) fun _=>fin) fun _=>fin
  have hb0:b=0:=by simpa using h
  have h3:=of_decide_eq_false h2
  refine(zLB hl i a b h0 h1).bind fun r hr=>Tot.pure (zZ (by simp;omega)) ?_
  obtain⟨o,hr⟩:=hr
  cases k with
  |zero=>omega
  |succ k=>exact(s9 most hm k _ r.2.1 _ _ (by omega) hr.2.1 (by simp;omega) (by simp;omega) (fun p hp=>by rcases List.mem_append.1 hp with hp|hp;exact ho p hp;rw[List.mem_singleton.1 hp];exact o)).mono fun u hu=>⟨hu.1,by have:=hu.2.1;omega,hu.2.2.1,fun _=>hb0⟩
theorem p7(most:Int)(hm:0≤most∧most≤24):∀(k:Nat) (acc:List zP) (i a b:Int),0≤i->i<l.length->most-acc.length≤k->acc.length≤most->bOk acc->Tot (fun q=>sO q l most acc i a b) (LR l i b most)
 |k,acc,i,a,b,h0,h1,hk,hn,ho=>by
  have:=hl.2.1
  refine Tot.succ ?_
  simp only[sO]
  have fin:Tot (fun _=>some (acc,i,a,b)) (LR l i b most):=Tot.ret ⟨⟨hn,ho⟩,by show i≤i;omega,h1,id⟩
  refine Tot.ite (fun h=>(zDx hl i a b h0 h1).bind fun _ _=>Tot.ite (fun _=>Tot.ite (fun _=>Tot.bind ((wS hl i a b 0 (by omega) (by omega)).tot (P:=fun _=>True) trivial) fun t _=>(rO _ _ _ 2 _ (by decide)).bind fun r hr=>Tot.ret ⟨⟨hn,ho⟩,by show i≤i;omega,h1,fun h=>absurd h hr⟩) fun h2=>?_) fun _=>fin) fun _=>fin
  have hb0:b=0:=by simpa using h
  have h3:=of_decide_eq_false h2
  refine(zIB hl i a b h0 h1).bind fun r hr=>Tot.pure (zZ (by simp;omega)) ?_
  obtain⟨o,hr⟩:=hr
  cases k with
  |zero=>omega
  |succ k=>exact(p7 most hm k _ r.2.1 _ _ (by omega) hr.2.1 (by simp;omega) (by simp;omega) (fun p hp=>by rcases List.mem_append.1 hp with hp|hp;exact ho p hp;rw[List.mem_singleton.1 hp];exact o)).mono fun u hu=>⟨hu.1,by have:=hu.2.1;omega,hu.2.2.1,fun _=>hb0⟩
theorem zLD(i a b:Int)(h0:0≤i)(h1:i<l.length):Tot (fun q=>zOm q l i a b) fun r=>r≠0->i+1<l.length:=by
 have:=hl.2.1
 simp only[zOm]
 refine(uA hl i a b 0 _ (by omega) (by omega)).bind fun c hc=>Tot.ite (fun h=>Tot.ret fun _=>by have:=hc h;omega) fun _=>?_
 refine(uA hl i a b 0 _ (by omega) (by omega)).bind fun c hc=>Tot.ite (fun h=>Tot.ret fun _=>by have:=hc h;omega) fun _=>?_
 exact(uA hl i a b 0 _ (by omega) (by omega)).bind fun c hc=>Tot.ite (fun h=>Tot.ret fun _=>by have:=hc h;omega) fun _=>Tot.ret fun h=>absurd rfl h
omit hl in
def DR(l:List zJ)(i:Int)(r:yJ×Int×Int×Int):Prop:=dOk r.1∧i≤r.2.1∧r.2.1<l.length∧(r.2.2.2=0->i<r.2.1)
theorem zLE(i a b:Int)(h0:0≤i)(h1:i<l.length):Tot (fun q=>e55 q l i a b) (DR l i):=by
 have:=hl.2.1
 have z:bOk []:=fun _ h=>nomatch h
 simp only[e55,R1,bB,zOe]
 refine(zLD hl i a b h0 h1).bind fun c hc=>Tot.bind ((wS hl i a b 0 (by omega) (by omega)).tot (P:=fun _=>True) trivial) fun t _=>Tot.ite (fun h=>(rO _ _ _ 1 _ (by decide)).bind fun r hr=>Tot.ret ⟨⟨X5 _ _ _ _,⟨by simp,z⟩,⟨by simp,z⟩,by simp,fun _ h=>nomatch h⟩,by show i≤i;omega,h1,fun h=>absurd h hr⟩) fun h=>?_
 have:=hc (by simpa using h)
 rw[zV (x:=i+1) (by omega) (by omega)]
 refine(mY hl _ _ _ (by omega) (by omega)).bind fun r hr=>?_
 have rest:∀(T:List zP) (j e f:Int),i<j->j<l.length->(T.length≤24∧bOk T)->Tot (fun q=>sX q l j e f (⟨#[58]⟩:ByteArray)>>=fun r13=>zCX q l r13.1 r13.2.1 r13.2.2>>=fun r15=>sX q l r15.2.1 r15.2.2.1 r15.2.2.2 (⟨#[123]⟩:ByteArray)>>=fun r17=>
   if (c==3)=true then gV q l [] r17.1 r17.2.1 r17.2.2>>=fun r20=>sX q l r20.2.1 r20.2.2.1 r20.2.2.2 (⟨#[125]⟩:ByteArray)>>=fun r22=>some ((yJ.mk c t.at_ r.1 T r15.1 [] r20.1),r22.1,r22.2.1,r22.2.2)
   else sO q l 16 [] r17.1 r17.2.1 r17.2.2>>=fun r24=>sX q l r24.2.1 r24.2.2.1 r24.2.2.2 (⟨#[125]⟩:ByteArray)>>=fun r26=>some ((yJ.mk c t.at_ r.1 T r15.1 r24.1 []),r26.1,r26.2.1,r26.2.2)) (DR l i):=by
  intro T j e f g0 g1 gT
  refine(wT hl _ _ _ _ (by omega) g1).bind fun u hu=>(R2 hl _ _ _ (by omega) hu.2.1).bind fun v hv=>?_
  obtain⟨ov,hv⟩:=hv
  refine(wT hl _ _ _ _ (by omega) hv.2.1).bind fun w hw=>Tot.ite (fun _=>(s8 hl 32 [] _ _ _ (by omega) hw.2.1 (by simp) (by simp) (by simp)).bind fun x hx=>?_) fun _=>(p7 hl 16 (by omega) 16 [] _ _ _ (by omega) hw.2.1 (by simp) (by simp) z).bind fun x hx=>?_
  ·obtain⟨⟨x1,x2⟩,hx⟩:=hx
   exact(wT hl _ _ _ _ (by omega) hx.2.1).bind fun y hy=>Tot.ret ⟨dI' ov gT ⟨by simp,z⟩ ⟨x1,x2⟩,by show i≤y.1;omega,hy.2.1,fun _=>by show i<y.1;omega⟩
  ·obtain⟨⟨x1,x2⟩,hx⟩:=hx
   exact(wT hl _ _ _ _ (by omega) hx.2.1).bind fun y hy=>Tot.ret ⟨dI' ov gT ⟨Int.ofNat_le.1 x1,x2⟩ ⟨by simp,fun _ h=>nomatch h⟩,by show i≤y.1;omega,hy.2.1,fun _=>by show i<y.1;omega⟩
 refine Tot.ite (fun _=>(s9 hl 24 (by omega) 24 [] _ _ _ (by omega) hr.2.1 (by simp) (by simp) z).bind fun x hx=>?_) fun _=>rest [] _ _ _ (by omega) hr.2.1 ⟨by simp,z⟩
 obtain⟨⟨x1,x2⟩,hx⟩:=hx
 exact rest x.1 _ _ _ (by omega) hx.2.1 ⟨by omega,x2⟩
end
theorem zID(s:ByteArray):Tot (fun q=>e53 q s) fun r=>zIe r.1∧r.2.1=0:=by
 simp only[e53]
 exact(zLl s).bind fun r hr=>Tot.ite (fun _=>Tot.ret ⟨⟨by simp,by simp,by simp⟩,rfl⟩) fun h=>Tot.ret ⟨hr (by simpa using h),rfl⟩
theorem p8(s:ByteArray)(r1:List zJ×Int×Int×Int)(hl:zIe r1.1):∀(k:Nat) (acc:List yJ) (i a b:Int),0≤i->i<r1.1.length->(r1.1.length:Int)-i≤k->acc.length≤i+1∧(b=0->acc.length≤i)->(∀d∈acc,dOk d)->Tot (fun q=>aQ q s r1 acc i a b) fun r=>(∀d∈r.1,dOk d)∧r.1.length≤8194
 |k,acc,i,a,b,h0,h1,hk,hn,ho=>by
  have:=hl.2.1
  refine Tot.succ ?_
  simp only[aQ]
  have fin:Tot (fun _:Nat=>if (b != 0)=true then some ([],a,b)else some (acc,(s.size:Int),0)) fun r:List yJ×Int×Int=>(∀d∈r.1,dOk d)∧r.1.length≤8194:=Tot.ite (fun _=>Tot.ret ⟨(fun _ h=>nomatch h),by simp⟩) fun _=>Tot.ret ⟨ho,by show acc.length≤_;omega⟩
  refine Tot.ite (fun h=>Tot.bind ((wS hl i a b 0 (by omega) (by omega)).tot (P:=fun _=>True) trivial) fun t _=>Tot.ite (fun _=>(zLE hl i a b h0 h1).bind fun r hr=>Tot.pure (zZ (by simp;omega)) ?_) fun _=>fin) fun _=>fin
  have hb0:b=0:=by simpa using h
  obtain⟨o,hr⟩:=hr
  have ho2:∀d∈acc++[r.1],dOk d:=fun p hp=>by rcases List.mem_append.1 hp with hp|hp;exact ho p hp;rw[List.mem_singleton.1 hp];exact o
  by_cases e:r.2.2.2=0
  ·cases k with
   |zero=>omega
   |succ k=>exact p8 s r1 hl k _ r.2.1 _ _ (by omega) hr.2.1 (by omega) ⟨by simp;omega,by simp;omega⟩ ho2
  ·refine Tot.succ ?_
   simp only[aQ]
   exact Tot.ite (fun h=>absurd (by simpa using h) e) fun _=>Tot.ite (fun _=>Tot.ret ⟨(fun _ h=>nomatch h),by simp⟩) fun h=>absurd (by simpa using h) e
theorem zLF(s:ByteArray):Tot (fun q=>e22 q s) fun r=>(∀d∈r.1,dOk d)∧r.1.length≤8194:=by
 simp only[e22]
 refine(zID s).bind fun r hr=>?_
 have:=hr.1.1
 exact p8 s r hr.1 r.1.length [] _ _ _ (by omega) (by omega) (by omega) ⟨by simp;omega,by simp;omega⟩ (fun _ h=>nomatch h)
def zLG(qq:Nat)(p0:Tm)(p1:Int):Option (Bool):=
 O8 qq p0 0 p1>>=fun r1=>
 if r1 then
 zIr qq p0>>=fun r4=>
 some ((List.length r4:Int)==0)
 else
 some false
theorem zTJ{qq p0 p1}:Cz (zLG qq p0 p1) 153 [] [tmA p0,ai p1] (fun r=>ab r) (fun _=>[]) 0:=fw Tryz.func153<|rK 1 [] zEH (fun _=>rC 1 [] zUG fun _=>fE 2) fun _=>fE 0
def zLH(qq:Nat)(p0:Tm):Option (Bool):=
 if p0.k==0 then
 if p0.n==0 then
 some ((List.length p0.sub:Int)==0)
 else
 some false
 else
 some false
theorem zTK{qq p0}:Cz (zLH qq p0) 205 [] [tmA p0] (fun r=>ab r) (fun _=>[]) 0:=fw Tryz.func205<|rB 1 (rB 1 (fE 3)<|fE 0)<|fE 0
def gW:Nat->(List Int)->Int->Int->Option (Bool)
 |0,_,_,_=>none
 |qq+1,p0,p1,v9=>
 if decide (v9<(List.length p0:Int))then
 zL p0 v9>>=fun x2=>
 if x2 != (w64 (p1+v9))then
 some false
 else
 gW qq p0 p1 (w64 (v9+1))
 else
 some true
def zLI(qq:Nat)(p0:List Int)(p1:Int):Option (Bool):=
 gW qq p0 p1 0
theorem zOb:∀qq:Nat,∀p0 p1 v9,Lz (gW qq p0 p1 v9) 0 Tryz.f206 (inn (inn (rgt (lft (rgt (bod Tryz.f206)))))) (fun j=>sp j 20 0 [(1,ai p1),(7,slv zM p0 .no),(8,ai (List.length p0:Int)),(9,ai v9)]) ⟨[],0,[],0,[]⟩ (fun r=>ab r) (fun _=>[]) 0 [.blk 0,.seq (rgt (rgt (bod Tryz.f206)))]:=yW (fun _ _ _=>lN) fun qq ih=>fun p0 p1 v9=>lw fun _=>rB 0 (rA 0 (pL (o:=.no)) fun _=>rB 2 (lE 0)<|lH 1 [] [] [] [1,7,8,9] (ih _ _ _))<|lE 0
theorem zTL{qq p0 p1}:Cz (zLI qq p0 p1) 206 [] [slv zM p0 .no,ai p1] (fun r=>ab r) (fun _=>[]) 0:=fw Tryz.func206<|fH 1 [] [] [] [1,7,8,9] (zOb _ _ _ _)
def e90(qq:Nat)(p0:List Ent)(p1 p2:Int):Option (Bool):=
 if decide (p1≥0)then
 if decide (p1<(List.length p0:Int))then
 zL p0 p1>>=fun x3=>
 some (x3.kind==p2)
 else
 some false
 else
 some false
theorem c90{qq p0 p1 p2}:Cz (e90 qq p0 p1 p2) 90 [] [slv zI p0 .no,ai p1,ai p2] (fun r=>ab r) (fun _=>[]) 0:=fw Tryz.func90<|rB 0 (rB 1 (rA 0 (yY (o:=.no)) fun _=>fE 2)<|fE 0)<|fE 0
def gX:Nat->(List Ent)->Int->(List Int)->Int->Int->Option (Bool)
 |0,_,_,_,_,_=>none
 |qq+1,p0,p1,p2,p3,v13=>
 if decide (v13<(List.length p2:Int))then
 zL p2 v13>>=fun x2=>
 e90 qq p0 x2 p3>>=fun r4=>
 if r4 then
 zL p0 x2>>=fun x7=>
 if x7.fam != p1 then
 some false
 else
 if x7.place != v13 then
 some false
 else
 gX qq p0 p1 p2 p3 (w64 (v13+1))
 else
 some false
 else
 some true
def zLJ(qq:Nat)(p0:List Ent)(p1:Int)(p2:List Int)(p3:Int):Option (Bool):=
 gX qq p0 p1 p2 p3 0
theorem zOa:∀qq:Nat,∀p0 p1 p2 p3 v13,Lz (gX qq p0 p1 p2 p3 v13) 0 Tryz.f207 (inn (inn (rgt (lft (rgt (bod Tryz.f207)))))) (fun j=>sp j 42 0 [(0,slv zI p0 .no),(1,ai p1),(3,ai p3),(11,slv zM p2 .no),(12,ai (List.length p2:Int)),(13,ai v13)]) ⟨[],0,[],0,[]⟩ (fun r=>ab r) (fun _=>[]) 0 [.blk 0,.seq (rgt (rgt (bod Tryz.f207)))]:=yW (fun _ _ _ _ _=>lN) fun qq ih=>fun p0 p1 p2 p3 v13=>lw fun _=>rB 0 (rA 0 (pL (o:=.no)) fun _=>rK 1 [] c90 (fun _=>rH fun _ h8=>rS (oA 1 (yY (o:=.no) h8))<|rB 1 (lE 0)<|rS (oA 0 (yY (o:=.no) h8))<|rB 1 (lE 0)<|lH 1 [] [] [] [0,1,3,11,12,13] (ih _ _ _ _ _)) fun _=>lE 1)<|lE 0
theorem zTM{qq p0 p1 p2 p3}:Cz (zLJ qq p0 p1 p2 p3) 207 [] [slv zI p0 .no,ai p1,slv zM p2 .no,ai p3] (fun r=>ab r) (fun _=>[]) 0:=fw Tryz.func207<|fH 1 [] [] [] [0,1,3,11,12,13] (zOa _ _ _ _ _ _)
def zOA(qq:Nat)(p0:List Ent)(p1:Int):Option (Bool):=
 zL p0 p1>>=fun x1=>
 if decide (x1.pars<0)then
 some false
 else
 if decide (x1.inds<0)then
 some false
 else
 if decide (x1.pars>24)then
 some false
 else
 if decide (x1.inds>(w64 (24-x1.pars)))then
 some false
 else
 if x1.fam != 0 then
 some false
 else
 if x1.place != 0 then
 some false
 else
 zLH qq x1.body>>=fun r9=>
 if r9 then
 e91 qq x1.type (w64 (x1.pars+x1.inds))>>=fun r12=>
 if r12.2.2 != 0 then
 some false
 else
 if r12.2.1.k != 2 then
 some false
 else
 if r12.2.1.n != x1.level then
 some false
 else
 if decide ((List.length x1.cons:Int)>16)then
 some false
 else
 zLI qq x1.cons (w64 (p1+1))>>=fun r18=>
 if r18 then
 zLJ qq p0 p1 x1.cons 2>>=fun r21=>
 if r21 then
 if (List.length x1.fields:Int)==0 then
 some true
 else
 if x1.inds != 0 then
 some false
 else
 if (List.length x1.cons:Int) != 1 then
 some false
 else
 zLI qq x1.fields (w64 (p1+2))>>=fun r27=>
 if r27 then
 zLJ qq p0 p1 x1.fields 4>>=fun r30=>
 if r30 then
 zL p0 (w64 (p1+1))>>=fun x33=>
 e99 qq x33.type>>=fun r35=>
 if r35.2.2==0 then
 some ((List.length r35.1:Int)==(w64 (x1.pars+(List.length x1.fields:Int))))
 else
 some false
 else
 some false
 else
 some false
 else
 some false
 else
 some false
 else
 some false
theorem zVd{qq p0 p1}:Cz (zOA qq p0 p1) 154 [] [slv zI p0 .no,ai p1] (fun r=>ab r) (fun _=>[]) 0:=fw Tryz.func154<|rA 0 (yY (o:=.no)) fun _=>rB 3 (fE 0)<|rB 1 (fE 0)<|rB 1 (fE 0)<|rB 3 (fE 0)<|rB 1 (fE 0)<|rB 1 (fE 0)<|rK 1 [] zTK (fun _=>rC 5 [] c91 fun _=>rB 4 (fE 0)<|rB 1 (fE 0)<|rB 2 (fE 0)<|rB 2 (fE 0)<|rK 2 [] zTL (fun _=>rK 2 [] zTM (fun _=>rB 3 (fE 0)<|rB 1 (fE 0)<|rB 2 (fE 0)<|rK 2 [] zTL (fun _=>rK 2 [] zTM (fun _=>rA 2 (yY (o:=.no)) fun _=>rC 1 [] c99 fun _=>rB 4 (fE 6)<|fE 0) fun _=>fE 1) fun _=>fE 1) fun _=>fE 1) fun _=>fE 1) fun _=>fE 1
def EOk(e:Ent):Prop:=e.type.Ok∧e.body.Ok∧e.cons.length≤1152921504606846976∧e.fields.length≤1152921504606846976
def zE:Ent:=Ent.mk 0 ⟨#[]⟩ zT zT 0 0 0 0 0 [] []
def ent(l:List Ent)(n:Int):Ent:=(l[n.toNat]?).getD zE
theorem yF{l:List Ent}{n:Int}(h0:0≤n)(h1:n<l.length):zL l n=some (ent l n):=by
 unfold zL ent
 rw[if_pos h0]
 have:n.toNat<l.length:=by omega
 rw[List.getElem?_eq_getElem this];rfl
theorem tY{l:List Ent}{n:Int}(h0:0≤n)(h1:n<l.length):ent l n∈l:=by
 unfold ent
 have:n.toNat<l.length:=by omega
 rw[List.getElem?_eq_getElem this]
 exact List.getElem_mem this
def isT(l:List Ent)(n kind:Int):Bool:=decide (0≤n)&&decide (n<l.length)&&(ent l n).kind==kind
theorem wU{l:List Ent}{n kind:Int}(h:isT l n kind=true):0≤n∧n<l.length∧(ent l n).kind=kind:=by
 unfold isT at h
 simp only[Bool.and_eq_true,decide_eq_true_eq,beq_iff_eq]at h
 exact⟨h.1.1,h.1.2,h.2⟩
theorem zGT(l:List Ent)(n kind:Int):Evt (fun q=>e90 q l n kind) (isT l n kind):=by
 simp only[e90]
 unfold isT
 by_cases h0:n≥0
 ·refine Evt.ifT (decide_eq_true h0) ?_
  by_cases h1:n<l.length
  ·exact Evt.ifT (decide_eq_true h1) (Evt.pure (yF h0 h1) (Evt.ret.eq (by simp[show 0≤n from h0,h1])))
  ·exact Evt.ifF (decide_eq_false h1) (Evt.ret.eq (by simp[h1]))
 ·exact Evt.ifF (decide_eq_false h0) (Evt.ret.eq (by simp[show ¬0≤n from h0]))
def eP(t:Tm):Bool:=t.k==0&&t.n==0&&(t.sub.length:Int)==0
theorem zAA(t:Tm):Evt (fun q=>zLH q t) (eP t):=by
 refine Evt.mk fun q=>?_
 unfold zLH eP
 by_cases h1:t.k=0<;>by_cases h2:t.n=0<;>by_cases h3:t.sub.length=0<;>simp[h1,h2,h3]
def rP(t:Tm)(n:Int):Bool:=oT t 0 n&&(jR t 8 8).isEmpty
theorem R4(t:Tm)(n:Int)(ho:t.Ok):Evt (fun q=>zLG q t n) (rP t n):=by
 simp only[zLG]
 refine(oV t 0 n ho).bind ?_
 unfold rP
 by_cases h:oT t 0 n=true
 ·refine Evt.ifT h ((zKG t ho).bind (Evt.ret.eq ?_))
  have hs:zG t=true:=by
   unfold oT at h;simp at h;exact h.1.1
  unfold z8
  rw[if_pos hs,h,Bool.true_and,Bool.eq_iff_iff]
  simp only[beq_iff_eq,List.isEmpty_iff]
  constructor
  ·intro h6
   have h6':wO (jR t 8 8)=[]:=List.length_eq_zero_iff.1 (by omega)
   refine List.eq_nil_iff_forall_not_mem.2 fun x hx=>?_
   rw[←cQ,h6']at hx;cases hx
  ·intro h6
   rw[h6];rfl
 ·exact Evt.ifF (by simpa using h) (Evt.ret.eq (by simp[h]))
def X6:List Int->Int->Bool
 | [],_=>true
 |n::r,m=>n==m&&X6 r (m+1)
theorem zDw(l:List Int)(f:Int)(hf:0≤f∧f≤1048576)(hl:l.length≤1152921504606846976):∀(r:List Int) (v:Nat),l.drop v=r->Evt (fun q=>gW q l f (v:Int)) (X6 r (f+v))
 | [],v,hd=>by
  refine Evt.succ ?_
  simp only[gW]
  exact Evt.ifF (zX hd) Evt.ret
 |n::r,v,hd=>by
  have hlt:=yC hd
  refine Evt.succ ?_
  simp only[gW]
  refine Evt.ifT (zW hd) (Evt.pure (zS hd) ?_)
  rw[zV (x:=f+v) (by omega) (by omega),X6]
  by_cases h:n=f+v
  ·refine Evt.ifF (by simp[h]) ?_
   rw[zU v (by omega)]
   exact(zDw l f hf hl r (v+1) (zQ hd)).eq (by rw[show f+((v+1:Nat):Int)=f+v+1 by omega];simp[h])
  ·exact Evt.ifT (by simp[h]) (Evt.ret.eq (by simp[h]))
theorem zGU(l:List Int)(f:Int)(hf:0≤f∧f≤1048576)(hl:l.length≤1152921504606846976):Evt (fun q=>zLI q l f) (X6 l f):=by
 simp only[zLI]
 exact(zDw l f hf hl l 0 rfl).eq (by simp)
def aR(l:List Ent)(of kind:Int):List Int->Int->Bool
 | [],_=>true
 |n::r,k=>isT l n kind&&(ent l n).fam==of&&(ent l n).place==k&&aR l of kind r (k+1)
theorem D2(l:List Ent)(of kind:Int)(p:List Int)(hp:p.length≤1152921504606846976):∀(r:List Int) (v:Nat),p.drop v=r->Evt (fun q=>gX q l of p kind (v:Int)) (aR l of kind r v)
 | [],v,hd=>by
  refine Evt.succ ?_
  simp only[gX]
  exact Evt.ifF (zX hd) Evt.ret
 |n::r,v,hd=>by
  have hlt:=yC hd
  refine Evt.succ ?_
  simp only[gX]
  refine Evt.ifT (zW hd) (Evt.pure (zS hd) ((zGT l n kind).bind ?_))
  rw[aR]
  by_cases h:isT l n kind=true
  ·have hs:=wU h
   refine Evt.ifT h (Evt.pure (yF hs.1 hs.2.1) ?_)
   by_cases h2:(ent l n).fam=of
   ·refine Evt.ifF (by simp[h2]) ?_
    by_cases h3:(ent l n).place=v
    ·refine Evt.ifF (by simp[h3]) ?_
     rw[zU v (by omega)]
     exact(D2 l of kind p hp r (v+1) (zQ hd)).eq (by simp[h,h2,h3])
    ·exact Evt.ifT (by simp[h3]) (Evt.ret.eq (by simp[h3]))
   ·exact Evt.ifT (by simp[h2]) (Evt.ret.eq (by simp[h2]))
  ·exact Evt.ifF (by simpa using h) (Evt.ret.eq (by simp[h]))
theorem R5(l:List Ent)(of kind:Int)(p:List Int)(hp:p.length≤1152921504606846976):Evt (fun q=>zLJ q l of p kind) (aR l of kind p 0):=by
 simp only[zLJ]
 exact(D2 l of kind p hp p 0 rfl).eq (by simp)
def zFz(x:Ent):Bool:=
 decide (0≤x.pars)&&decide (0≤x.inds)&&decide (x.pars≤24)&&decide (x.inds≤24-x.pars)&&x.fam==0&&x.place==0&&eP x.body
def zFy(x:Ent):Bool:=
 (wG x.type (x.pars+x.inds)).2.2==0&&(wG x.type (x.pars+x.inds)).2.1.k==2&&(wG x.type (x.pars+x.inds)).2.1.n==x.level
def zAB(l:List Ent)(i:Int)(x:Ent):Bool:=
 decide (x.cons.length≤16)&&X6 x.cons (i+1)&&aR l i 2 x.cons 0
def zRh(l:List Ent)(i:Int)(x:Ent):Bool:=
 x.inds==0&&decide (x.cons.length=1)&&X6 x.fields (i+2)&&aR l i 4 x.fields 0&&(xC (ent l (i+1)).type).2.2==0&&((xC (ent l (i+1)).type).1.length:Int)==x.pars+x.fields.length
def qU(l:List Ent)(i:Int):Bool:=
 zFz (ent l i)&&zFy (ent l i)&&zAB l i (ent l i)&&(decide ((ent l i).fields.length=0)||zRh l i (ent l i))
theorem zIE(l:List Ent)(i:Int)(h0:0≤i)(h1:i<l.length)(hl:l.length≤65535)(he:∀e∈l,EOk e):Evt (fun q=>zOA q l i) (qU l i):=by
 simp only[zOA]
 refine Evt.pure (yF h0 h1) ?_
 have hx:=he _ (tY h0 h1)
 have hfl:(ent l i).fields.length≤1152921504606846976:=hx.2.2.2
 unfold qU
 by_cases hA:zFz (ent l i)=true
 ·have hA':=hA
  unfold zFz at hA'
  simp only[Bool.and_eq_true,decide_eq_true_eq,beq_iff_eq]at hA'
  obtain⟨⟨⟨⟨⟨⟨a1,a2⟩,a3⟩,a4⟩,a5⟩,a6⟩,a7⟩:=hA'
  refine Evt.ifF (decide_eq_false (by omega)) (Evt.ifF (decide_eq_false (by omega)) (Evt.ifF (decide_eq_false (by omega)) (Evt.ifF (decide_eq_false (by rw[zV (by omega) (by omega)];omega)) (Evt.ifF (by simp[a5]) (Evt.ifF (by simp[a6]) (((zAA _).eq a7).bind (Evt.ifT rfl ?_)))))))
  rw[zV (by omega) (by omega)]
  refine(iB (ent l i).type _ hx.1).bind ?_
  rw[hA]
  by_cases b1:(wG (ent l i).type ((ent l i).pars+(ent l i).inds)).2.2=0
  ·refine Evt.ifF (by simp[b1]) ?_
   by_cases b2:(wG (ent l i).type ((ent l i).pars+(ent l i).inds)).2.1.k=2
   ·refine Evt.ifF (by simp[b2]) ?_
    by_cases b3:(wG (ent l i).type ((ent l i).pars+(ent l i).inds)).2.1.n=(ent l i).level
    ·refine Evt.ifF (by simp[b3]) ?_
     have hB:zFy (ent l i)=true:=by unfold zFy;simp[b1,b2,b3]
     rw[hB]
     by_cases c1:(ent l i).cons.length≤16
     ·refine Evt.ifF (decide_eq_false (by omega)) ?_
      rw[zV (x:=i+1) (by omega) (by omega)]
      refine(zGU (ent l i).cons (i+1) (by omega) (by omega)).bind ?_
      by_cases c2:X6 (ent l i).cons (i+1)=true
      ·refine Evt.ifT c2 ((R5 l i 2 (ent l i).cons (by omega)).bind ?_)
       by_cases c3:aR l i 2 (ent l i).cons 0=true
       ·refine Evt.ifT c3 ?_
        have hC:zAB l i (ent l i)=true:=by unfold zAB;simp[c1,c2,c3]
        rw[hC]
        by_cases d0:(ent l i).fields.length=0
        ·exact Evt.ifT (by simp[d0]) (Evt.ret.eq (by simp[d0]))
        ·refine Evt.ifF (by have h:((ent l i).fields.length:Int)≠0:=(by omega);simpa using h) ?_
         rw[show decide ((ent l i).fields.length=0)=false by simp[d0]]
         simp only[Bool.true_and,Bool.false_or]
         unfold zRh
         by_cases d1:(ent l i).inds=0
         ·refine Evt.ifF (by simp[d1]) ?_
          by_cases d2:(ent l i).cons.length=1
          ·refine Evt.ifF (by simp[d2]) ?_
           rw[zV (x:=i+2) (by omega) (by omega)]
           refine(zGU (ent l i).fields (i+2) (by omega) hx.2.2.2).bind ?_
           by_cases d3:X6 (ent l i).fields (i+2)=true
           ·refine Evt.ifT d3 ((R5 l i 4 (ent l i).fields hx.2.2.2).bind ?_)
            by_cases d4:aR l i 4 (ent l i).fields 0=true
            ·have hi:i+1<l.length:=by
              obtain⟨y,hy⟩:∃y,(ent l i).cons=[y]:=by
               rcases hc:(ent l i).cons with _|⟨y,_|⟨z,r⟩⟩<;>rw[hc]at d2<;>simp at d2
               exact⟨y,rfl⟩
              rw[hy]at c2 c3
              rw[X6]at c2
              rw[aR]at c3
              simp only[Bool.and_eq_true,beq_iff_eq]at c2 c3
              have:=wU c3.1.1.1
              omega
             refine Evt.ifT d4 (Evt.pure (yF (by omega) hi) ((mV _ (he _ (tY (by omega) hi)).1).bind ?_))
             by_cases d5:(xC (ent l (i+1)).type).2.2=0
             ·refine Evt.ifT (by simp[d5]) (Evt.ret.eq ?_)
              rw[zV (x:=(ent l i).pars+((ent l i).fields.length:Int)) (by omega) (by omega)]
              simp[d1,d2,d3,d4,d5]
             ·exact Evt.ifF (by simp[d5]) (Evt.ret.eq (by simp[d5]))
            ·exact Evt.ifF (by simpa using d4) (Evt.ret.eq (by simp[d4]))
           ·exact Evt.ifF (by simpa using d3) (Evt.ret.eq (by simp[d3]))
          ·exact Evt.ifT (by simp<;>omega) (Evt.ret.eq (by simp[d2]))
         ·exact Evt.ifT (by simp[d1]) (Evt.ret.eq (by simp[d1]))
       ·refine Evt.ifF (by simpa using c3) (Evt.ret.eq ?_)
        unfold zAB;simp[c3]
      ·refine Evt.ifF (by simpa using c2) (Evt.ret.eq ?_)
       unfold zAB;simp[c2]
     ·refine Evt.ifT (decide_eq_true (by omega)) (Evt.ret.eq ?_)
      unfold zAB;simp[c1]
    ·refine Evt.ifT (by simp[b3]) (Evt.ret.eq ?_)
     unfold zFy;simp[b3]
   ·refine Evt.ifT (by simp[b2]) (Evt.ret.eq ?_)
    unfold zFy;simp[b2]
  ·refine Evt.ifT (by simp[b1]) (Evt.ret.eq ?_)
   unfold zFy;simp[b1]
 ·rw[show zFz (ent l i)=false by simpa using hA]
  unfold zFz at hA
  simp only[Bool.and_eq_true,decide_eq_true_eq,beq_iff_eq]at hA
  by_cases a1:(ent l i).pars<0
  ·exact Evt.ifT (decide_eq_true a1) Evt.ret
  refine Evt.ifF (decide_eq_false a1) ?_
  by_cases a2:(ent l i).inds<0
  ·exact Evt.ifT (decide_eq_true a2) Evt.ret
  refine Evt.ifF (decide_eq_false a2) ?_
  by_cases a3:(ent l i).pars>24
  ·exact Evt.ifT (decide_eq_true a3) Evt.ret
  refine Evt.ifF (decide_eq_false a3) ?_
  rw[zV (x:=24-(ent l i).pars) (by omega) (by omega)]
  by_cases a4:(ent l i).inds>24-(ent l i).pars
  ·exact Evt.ifT (decide_eq_true a4) Evt.ret
  refine Evt.ifF (decide_eq_false a4) ?_
  by_cases a5:(ent l i).fam=0
  ·refine Evt.ifF (by simp[a5]) ?_
   by_cases a6:(ent l i).place=0
   ·refine Evt.ifF (by simp[a6]) ((zAA _).bind ?_)
    by_cases a7:eP (ent l i).body=true
    ·exact absurd ⟨⟨⟨⟨⟨⟨by omega,by omega⟩,by omega⟩,by omega⟩,a5⟩,a6⟩,a7⟩ hA
    ·exact Evt.ifF (by simpa using a7) Evt.ret
   ·exact Evt.ifT (by simp[a6]) Evt.ret
  ·exact Evt.ifT (by simp[a5]) Evt.ret
def zLK(qq:Nat)(p0:List Ent)(p1:Int):Option (Bool):=
 zL p0 p1>>=fun x1=>
 e90 qq p0 x1.fam 1>>=fun r3=>
 if r3 then
 if decide (x1.fam≥p1)then
 some false
 else
 zL p0 x1.fam>>=fun x7=>
 if x1.pars != x7.pars then
 some false
 else
 zLH qq x1.body>>=fun r10=>
 if r10 then
 if x1.inds != 0 then
 some false
 else
 if x1.level != 0 then
 some false
 else
 if decide ((w64 ((List.length x1.cons:Int)+(List.length x1.fields:Int)))>0)then
 some false
 else
 if x1.kind==4 then
 if decide (x1.place≥0)then
 if decide (x1.place<(List.length x7.fields:Int))then
 zL x7.fields x1.place>>=fun x19=>
 some (x19==p1)
 else
 some false
 else
 some false
 else
 if decide (x1.place≥0)then
 if decide (x1.place<(List.length x7.cons:Int))then
 zL x7.cons x1.place>>=fun x23=>
 some (x23==p1)
 else
 some false
 else
 some false
 else
 some false
 else
 some false
theorem zTN{qq p0 p1}:Cz (zLK qq p0 p1) 208 [] [slv zI p0 .no,ai p1] (fun r=>ab r) (fun _=>[]) 0:=fw Tryz.func208<|rA 0 (yY (o:=.no)) fun _=>rK 3 [] c90 (fun _=>rB 2 (fE 0)<|rH fun _ h8=>rS (oA 2 (yY (o:=.no) h8))<|rB 1 (fE 0)<|rK 1 [] zTK (fun _=>rB 2 (fE 0)<|rB 1 (fE 0)<|rB 5 (fE 0)<|rS (oA 1 (yY (o:=.no) h8))<|rB 2 (rS (oA 1 (yY (o:=.no) h8))<|rB 2 (rB 2 (rA 1 (pL (o:=.no)) fun _=>fE 2)<|fE 0)<|fE 0)<|rB 1 (rB 2 (rA 1 (pL (o:=.no)) fun _=>fE 2)<|fE 0)<|fE 0) fun _=>fE 1) fun _=>fE 1
def zOB(qq:Nat)(p0:List Ent)(p1:Int):Option (Bool):=
 zL p0 p1>>=fun x1=>
 e99 qq x1.type>>=fun r3=>
 zLK qq p0 p1>>=fun r5=>
 if r5 then
 if r3.2.2==0 then
 if decide ((List.length r3.1:Int)≥x1.pars)then
 zL p0 x1.fam>>=fun x10=>
 zIn qq r3.2.1 x1.fam x1.pars x10.inds (List.length r3.1:Int)>>=fun r12=>
 some r12
 else
 some false
 else
 some false
 else
 some false
theorem zVc{qq p0 p1}:Cz (zOB qq p0 p1) 155 [] [slv zI p0 .no,ai p1] (fun r=>ab r) (fun _=>[]) 0:=fw Tryz.func155<|rH fun _ h2=>rS (oA 0 (yY (o:=.no) h2))<|rC 1 [] c99 fun _=>rK 4 [] zTN (fun _=>rB 0 (rS (oA 1 (yY (o:=.no) h2))<|rB 1 (rS (oA 1 (yY (o:=.no) h2))<|rS (oA 1 (yY (o:=.no) h2))<|rS (oA 1 (yY (o:=.no) h2))<|rA 1 (yY (o:=.no)) fun _=>rC 2 [] zRv fun _=>fE 0)<|fE 0)<|fE 0) fun _=>fE 0
def zOC(qq:Nat)(p0:List Ent)(p1:Int):Option (Bool):=
 zLK qq p0 p1>>=fun r1=>
 if r1 then
 zL p0 p1>>=fun x4=>
 e91 qq x4.type (w64 (x4.pars+1))>>=fun r6=>
 if r6.2.2==0 then
 zL r6.1 x4.pars>>=fun x9=>
 zIn qq x9 x4.fam x4.pars 0 x4.pars>>=fun r11=>
 some r11
 else
 some false
 else
 some false
theorem zVb{qq p0 p1}:Cz (zOC qq p0 p1) 156 [] [slv zI p0 .no,ai p1] (fun r=>ab r) (fun _=>[]) 0:=fw Tryz.func156<|rK 0 [] zTN (fun _=>rH fun _ h5=>rS (oA 1 (yY (o:=.no) h5))<|rS (oA 1 (yY (o:=.no) h5))<|rC 2 [] c91 fun _=>rB 4 (rS (oA 0 (yY (o:=.no) h5))<|rA 1 (yM (o:=.no)) fun _=>rS (oA 1 (yY (o:=.no) h5))<|rS (oA 1 (yY (o:=.no) h5))<|rS (oA 1 (yY (o:=.no) h5))<|rC 1 [] zRv fun _=>fE 0)<|fE 0) fun _=>fE 1
def zOD(qq:Nat)(p0:List Ent)(p1:Int):Option (Bool):=
 zL p0 p1>>=fun x1=>
 zLG qq x1.body p1>>=fun r3=>
 if r3 then
 if x1.fam==0 then
 if x1.place==0 then
 if x1.pars==0 then
 if x1.inds==0 then
 if x1.level==0 then
 some ((w64 ((List.length x1.cons:Int)+(List.length x1.fields:Int)))==0)
 else
 some false
 else
 some false
 else
 some false
 else
 some false
 else
 some false
 else
 some false
theorem zVa{qq p0 p1}:Cz (zOD qq p0 p1) 157 [] [slv zI p0 .no,ai p1] (fun r=>ab r) (fun _=>[]) 0:=fw Tryz.func157<|rA 0 (yY (o:=.no)) fun _=>rK 3 [] zTJ (fun _=>rB 1 (rB 1 (rB 1 (rB 1 (rB 1 (fE 6)<|fE 0)<|fE 0)<|fE 0)<|fE 0)<|fE 0) fun _=>fE 0
def R6(l:List Ent)(x:Ent):List Int:=if x.kind=4 then(ent l x.fam).fields else(ent l x.fam).cons
def zOE(l:List Ent)(i:Int)(x:Ent):Bool:=
 isT l x.fam 1&&decide (x.fam<i)&&x.pars==(ent l x.fam).pars&&eP x.body&&x.inds==0&&x.level==0&&decide (x.cons.length=0)&&decide (x.fields.length=0)
def zLL(l:List Ent)(i:Int)(x:Ent):Bool:=
 decide (0≤x.place)&&decide (x.place<(R6 l x).length)&&((R6 l x)[x.place.toNat]?).getD (-1)==i
def nD(l:List Ent)(i:Int):Bool:=zOE l i (ent l i)&&zLL l i (ent l i)
theorem zIF{L:List Int}{n:Int}(h0:0≤n)(h1:n<L.length):zL L n=some ((L[n.toNat]?).getD (-1)):=by
 unfold zL
 rw[if_pos h0]
 have:n.toNat<L.length:=by omega
 rw[List.getElem?_eq_getElem this];rfl
theorem zDv(l:List Ent)(i:Int)(h0:0≤i)(h1:i<l.length)(he:∀e∈l,EOk e):Evt (fun q=>zLK q l i) (nD l i):=by
 simp only[zLK]
 refine Evt.pure (yF h0 h1) ((zGT l _ 1).bind ?_)
 have hx:=he _ (tY h0 h1)
 have hc:(ent l i).cons.length≤1152921504606846976:=hx.2.2.1
 have hf:(ent l i).fields.length≤1152921504606846976:=hx.2.2.2
 unfold nD zOE
 by_cases a1:isT l (ent l i).fam 1=true
 ·have hs:=wU a1
  refine Evt.ifT a1 ?_
  by_cases a2:(ent l i).fam≥i
  ·exact Evt.ifT (decide_eq_true a2) (Evt.ret.eq (by simp[show ¬(ent l i).fam<i by omega]))
  refine Evt.ifF (decide_eq_false a2) (Evt.pure (yF hs.1 hs.2.1) ?_)
  by_cases a3:(ent l i).pars=(ent l (ent l i).fam).pars
  ·refine Evt.ifF (by simp[a3]) ((zAA _).bind ?_)
   by_cases a4:eP (ent l i).body=true
   ·refine Evt.ifT a4 ?_
    by_cases a5:(ent l i).inds=0
    ·refine Evt.ifF (by simp[a5]) ?_
     by_cases a6:(ent l i).level=0
     ·refine Evt.ifF (by simp[a6]) ?_
      rw[zV (x:=((ent l i).cons.length:Int)+((ent l i).fields.length:Int)) (by omega) (by omega)]
      by_cases a7:(ent l i).cons.length=0∧(ent l i).fields.length=0
      ·refine Evt.ifF (decide_eq_false (by omega)) ?_
       have last:∀L:List Int,R6 l (ent l i)=L->Evt (fun _=>if decide ((ent l i).place≥0)=true then if decide ((ent l i).place<(List.length L:Int))=true then(zL L (ent l i).place)>>=fun x19=>some (x19==i)else some false else some false) (zLL l i (ent l i)):=fun L hL=>by
        unfold zLL
        rw[hL]
        by_cases b1:(ent l i).place≥0
        ·refine Evt.ifT (decide_eq_true b1) ?_
         by_cases b2:(ent l i).place<(L.length:Int)
         ·exact Evt.ifT (decide_eq_true b2) (Evt.pure (zIF b1 b2) (Evt.ret.eq (by simp[show 0≤(ent l i).place from b1,b2])))
         ·exact Evt.ifF (decide_eq_false b2) (Evt.ret.eq (by simp[b2]))
        ·exact Evt.ifF (decide_eq_false b1) (Evt.ret.eq (by simp[show ¬0≤(ent l i).place from b1]))
       have e:(isT l (ent l i).fam 1&&decide ((ent l i).fam<i)&&(ent l i).pars==(ent l (ent l i).fam).pars&&eP (ent l i).body&&(ent l i).inds==0&&(ent l i).level==0&&decide ((ent l i).cons.length=0)&&decide ((ent l i).fields.length=0))=true:=by
        simp[a1,show (ent l i).fam<i by omega,a3,a4,a5,a6,a7.1,a7.2]
       rw[e,Bool.true_and]
       by_cases a8:(ent l i).kind=4
       ·exact Evt.ifT (by simp[a8]) (last _ (by unfold R6;rw[if_pos a8]))
       ·exact Evt.ifF (by simp[a8]) (last _ (by unfold R6;rw[if_neg a8]))
      ·refine Evt.ifT (decide_eq_true (by omega)) (Evt.ret.eq ?_)
       have:decide ((ent l i).cons.length=0)=false∨decide ((ent l i).fields.length=0)=false:=by
        by_cases h:(ent l i).cons.length=0
        ·exact .inr (decide_eq_false fun h'=>a7 ⟨h,h'⟩)
        ·exact .inl (decide_eq_false h)
       rcases this with h|h<;>rw[h]<;>simp
     ·exact Evt.ifT (by simp[a6]) (Evt.ret.eq (by simp[a6]))
    ·exact Evt.ifT (by simp[a5]) (Evt.ret.eq (by simp[a5]))
   ·exact Evt.ifF (by simpa using a4) (Evt.ret.eq (by simp[a4]))
  ·exact Evt.ifT (by simp[a3]) (Evt.ret.eq (by simp[a3]))
 ·exact Evt.ifF (by simpa using a1) (Evt.ret.eq (by simp[a1]))
theorem wI{l:List Ent}{i:Int}(h:qU l i=true):0≤(ent l i).pars∧0≤(ent l i).inds∧(ent l i).pars+(ent l i).inds≤24∧(ent l i).cons.length≤16:=by
 unfold qU zFz zAB at h
 simp only[Bool.and_eq_true,decide_eq_true_eq]at h
 exact⟨by omega,by omega,by omega,by omega⟩
theorem sP{l:List Ent}{i:Int}(h:nD l i=true):0≤(ent l i).fam∧(ent l i).fam<i∧(ent l (ent l i).fam).kind=1∧(ent l i).pars=(ent l (ent l i).fam).pars∧0≤(ent l i).place∧(ent l i).place<(R6 l (ent l i)).length:=by
 unfold nD zOE zLL at h
 simp only[Bool.and_eq_true,decide_eq_true_eq,beq_iff_eq]at h
 have hs:=wU h.1.1.1.1.1.1.1.1
 exact⟨hs.1,h.1.1.1.1.1.1.1.2,hs.2.2,h.1.1.1.1.1.1.2,h.2.1.1,h.2.1.2⟩
def zAC(l:List Ent)(i:Int):Prop:=∀j,0≤j->j<i->(ent l j).kind=1->qU l j=true
def zFx(l:List Ent)(i:Int):Bool:=
 nD l i&&((xC (ent l i).type).2.2==0&&(decide ((ent l i).pars≤(xC (ent l i).type).1.length)&&rL (xC (ent l i).type).2.1 (ent l i).fam (ent l i).pars (ent l (ent l i).fam).inds (xC (ent l i).type).1.length))
theorem zRg(l:List Ent)(i:Int)(h0:0≤i)(h1:i<l.length)(he:∀e∈l,EOk e)(hF:zAC l i):Evt (fun q=>zOB q l i) (zFx l i):=by
 simp only[zOB]
 have hx:=he _ (tY h0 h1)
 refine Evt.pure (yF h0 h1) ((mV _ hx.1).bind ((zDv l i h0 h1 he).bind ?_))
 unfold zFx
 by_cases a1:nD l i=true
 ·have hs:=sP a1
  have hf:=wI (hF _ hs.1 hs.2.1 hs.2.2.1)
  refine Evt.ifT a1 ?_
  rw[a1,Bool.true_and]
  by_cases a2:(xC (ent l i).type).2.2=0
  ·refine Evt.ifT (by simp[a2]) ?_
   have hw:=oH (t:=(ent l i).type) (l:=(xC (ent l i).type).1) (y:=(xC (ent l i).type).2.1) (by rw[←a2])
   by_cases a3:(ent l i).pars≤(xC (ent l i).type).1.length
   ·refine Evt.ifT (decide_eq_true a3) (Evt.pure (yF hs.1 (by omega)) ((dM _ _ _ _ _ hw.2.2.2.2.1 (by omega) (by omega) (by have:=hw.2.2.1;omega)).bind (Evt.ret.eq (by simp[a2,a3]))))
   ·exact Evt.ifF (decide_eq_false a3) (Evt.ret.eq (by simp[a3]))
  ·exact Evt.ifF (by simp[a2]) (Evt.ret.eq (by simp[a2]))
 ·exact Evt.ifF (by simpa using a1) (Evt.ret.eq (by simp[a1]))
def nth(l:List Tm)(n:Int):Tm:=(l[n.toNat]?).getD zT
theorem uB{l:List Tm}{n:Int}(h0:0≤n)(h1:n<l.length):zL l n=some (nth l n):=by
 unfold zL nth
 rw[if_pos h0]
 have:n.toNat<l.length:=by omega
 rw[List.getElem?_eq_getElem this];rfl
theorem rQ{l:List Tm}{n:Int}(h0:0≤n)(h1:n<l.length):nth l n∈l:=by
 unfold nth
 have:n.toNat<l.length:=by omega
 rw[List.getElem?_eq_getElem this]
 exact List.getElem_mem this
def D3(l:List Ent)(i:Int):Bool:=
 nD l i&&((wG (ent l i).type ((ent l i).pars+1)).2.2==0&&rL (nth (wG (ent l i).type ((ent l i).pars+1)).1 (ent l i).pars) (ent l i).fam (ent l i).pars 0 (ent l i).pars)
theorem zOF(l:List Ent)(i:Int)(h0:0≤i)(h1:i<l.length)(he:∀e∈l,EOk e)(hF:zAC l i):Evt (fun q=>zOC q l i) (D3 l i):=by
 simp only[zOC]
 have hx:=he _ (tY h0 h1)
 refine(zDv l i h0 h1 he).bind ?_
 unfold D3
 by_cases a1:nD l i=true
 ·have hs:=sP a1
  have hf:=wI (hF _ hs.1 hs.2.1 hs.2.2.1)
  refine Evt.ifT a1 (Evt.pure (yF h0 h1) ?_)
  rw[a1,Bool.true_and,zV (x:=(ent l i).pars+1) (by omega) (by omega)]
  refine(iB _ _ hx.1).bind ?_
  by_cases a2:(wG (ent l i).type ((ent l i).pars+1)).2.2=0
  ·have hw:=aL (t:=(ent l i).type) (n:=(ent l i).pars+1) (l:=(wG (ent l i).type ((ent l i).pars+1)).1) (y:=(wG (ent l i).type ((ent l i).pars+1)).2.1) (by rw[←a2])
   refine Evt.ifT (by simp[a2]) (Evt.pure (uB (by omega) (by omega)) ((dM _ _ _ _ _ (hw.2.2.2.2.2.2 _ (rQ (by omega) (by omega))) (by omega) (by omega) (by omega)).bind (Evt.ret.eq (by simp[a2]))))
  ·exact Evt.ifF (by simp[a2]) (Evt.ret.eq (by simp[a2]))
 ·exact Evt.ifF (by simpa using a1) (Evt.ret.eq (by simp[a1]))
def zLM(l:List Ent)(i:Int):Bool:=
 rP (ent l i).body i&&((ent l i).fam==0&&((ent l i).place==0&&((ent l i).pars==0&&((ent l i).inds==0&&((ent l i).level==0&&(decide ((ent l i).cons.length=0)&&decide ((ent l i).fields.length=0)))))))
theorem zRf(l:List Ent)(i:Int)(h0:0≤i)(h1:i<l.length)(he:∀e∈l,EOk e):Evt (fun q=>zOD q l i) (zLM l i):=by
 simp only[zOD]
 have hx:=he _ (tY h0 h1)
 have hc:(ent l i).cons.length≤1152921504606846976:=hx.2.2.1
 have hf:(ent l i).fields.length≤1152921504606846976:=hx.2.2.2
 refine Evt.pure (yF h0 h1) ((R4 _ i hx.2.1).bind ?_)
 unfold zLM
 by_cases a1:rP (ent l i).body i=true
 ·refine Evt.ifT a1 ?_
  rw[a1,Bool.true_and,zV (x:=((ent l i).cons.length:Int)+((ent l i).fields.length:Int)) (by omega) (by omega)]
  have e:(((ent l i).cons.length:Int)+((ent l i).fields.length:Int)==0)=(decide ((ent l i).cons.length=0)&&decide ((ent l i).fields.length=0)):=by
   rw[Bool.eq_iff_iff]
   simp only[beq_iff_eq,Bool.and_eq_true,decide_eq_true_eq]
   omega
  rw[e]
  refine Evt.mk fun q=>?_
  generalize (decide ((ent l i).cons.length=0)&&decide ((ent l i).fields.length=0))=z
  by_cases b1:(ent l i).fam=0<;>by_cases b2:(ent l i).place=0<;>by_cases b3:(ent l i).pars=0<;>by_cases b4:(ent l i).inds=0<;>by_cases b5:(ent l i).level=0<;>simp[b1,b2,b3,b4,b5]
 ·exact Evt.ifF (by simpa using a1) (Evt.ret.eq (by simp[a1]))
def kC:Nat->(List Ent)->(List ByteArray)->Int->Option (List ByteArray)
 |0,_,_,_=>none
 |qq+1,p0,v3,v8=>
 if decide (v8<(List.length p0:Int))then
 zL p0 v8>>=fun x2=>
 yR 16 v3 [x2.name]>>=fun l4=>
 kC qq p0 l4 (w64 (v8+1))
 else
 some v3
def e88(qq:Nat)(p0:List Ent):Option (List ByteArray):=
 kC qq p0 [] 0
theorem zRe:∀qq:Nat,∀p0 v3 v8,Lz (kC qq p0 v3 v8) 0 Tryz.f88 (inn (inn (rgt (lft (rgt (rgt (bod Tryz.f88))))))) (fun j=>sp j 19 0 [(3,slv yU v3 (.st 0 1)),(6,slv zI p0 .no),(7,ai (List.length p0:Int)),(8,ai v8)]) ⟨[],0,[0],1,[]⟩ (fun r=>slv yU r (.st 0 1)) (fun _=>[]) 1 [.blk 0,.seq (rgt (rgt (rgt (bod Tryz.f88))))]:=yW (fun _ _ _=>lN) fun qq ih=>fun p0 v3 v8=>lw fun _=>rB 0 (rA 0 (yY (o:=.no)) fun _=>rW (fun h5=>oP 4 (O7 h5 (by simp))) fun _=>lH 1 [] [] [1] [3,6,7,8] (ih _ _ _))<|lG 0 [] [] [0] true
theorem c88{qq p0}:Cz (e88 qq p0) 88 [] [slv zI p0 .no] (fun r=>slv yU r (.st 0 1)) (fun _=>[]) 1:=fw Tryz.func88<|fH 1 [(none,3,1)] [] [0] [3,6,7,8] (zRe _ _ _ _)
def e89(qq:Nat)(p0:List Ent)(p1:Int):Option (Bool):=
 zL p0 p1>>=fun x1=>
 iC qq x1.name>>=fun r3=>
 if r3 then
 zLG qq x1.type p1>>=fun r6=>
 if r6 then
 if x1.kind==1 then
 zOA qq p0 p1>>=fun r10=>
 some r10
 else
 if x1.kind==2 then
 zOB qq p0 p1>>=fun r13=>
 some r13
 else
 if x1.kind==4 then
 zOC qq p0 p1>>=fun r16=>
 some r16
 else
 if x1.kind==3 then
 zOD qq p0 p1>>=fun r19=>
 some r19
 else
 some false
 else
 some false
 else
 some false
theorem c89{qq p0 p1}:Cz (e89 qq p0 p1) 89 [] [slv zI p0 .no,ai p1] (fun r=>ab r) (fun _=>[]) 0:=fw Tryz.func89<|rH fun _ h2=>rS (oA 0 (yY (o:=.no) h2))<|rK 1 [] aM (fun _=>rS (oA 1 (yY (o:=.no) h2))<|rK 1 [] zTJ (fun _=>rS (oA 1 (yY (o:=.no) h2))<|rB 1 (rC 0 [] zVd fun _=>fE 0)<|rB 0 (rC 0 [] zVc fun _=>fE 0)<|rB 0 (rC 0 [] zVb fun _=>fE 0)<|rB 0 (rC 0 [] zVa fun _=>fE 0)<|fE 0) fun _=>fE 1) fun _=>fE 1
def aS:Nat->(List Ent)->Int->Option (Bool)
 |0,_,_=>none
 |qq+1,p0,v15=>
 if decide (v15<(List.length p0:Int))then
 e89 qq p0 v15>>=fun r8=>
 if r8 then
 aS qq p0 (w64 (v15+1))
 else
 some false
 else
 some true
def e47(qq:Nat)(p0:List Ent):Option (Bool):=
 if decide ((List.length p0:Int)>256)then
 some false
 else
 e88 qq p0>>=fun r2=>
 e87 qq r2>>=fun r4=>
 if r4 then
 aS qq p0 0
 else
 some false
theorem zRd:∀qq:Nat,∀p0 v15,Lz (aS qq p0 v15) 0 Tryz.f47 (inn (inn (rgt (lft (rgt (rgt (bod Tryz.f47))))))) (fun j=>sp j 23 0 [(0,slv zI p0 .no),(14,ai (List.length p0:Int)),(15,ai v15)]) ⟨[],0,[],0,[]⟩ (fun r=>ab r) (fun _=>[]) 0 [.blk 0,.seq (rgt (rgt (rgt (bod Tryz.f47))))]:=yW (fun _ _=>lN) fun qq ih=>fun p0 v15=>lw fun _=>rB 0 (rK 0 [] c89 (fun _=>lH 2 [] [] [] [0,14,15] (ih _ _)) fun _=>lE 1)<|lE 0
theorem c47{qq p0}:Cz (e47 qq p0) 47 [] [slv zI p0 .no] (fun r=>ab r) (fun _=>[]) 0:=fw Tryz.func47<|rB 1 (fE 0)<|rC 0 [] c88 fun _=>rK 0 [] c87 (fun _=>fH 2 [] [] [] [0,14,15] (zRd _ _ _)) fun _=>fE 1
def zTO(qq:Nat)(p0:List Int):Option (List Int):=
 some []
theorem zTP{qq p0}:Cz (zTO qq p0) 97 [] [slv zM p0 .nl] (fun r=>.sl (zD zM r) (List.length r) .no) (fun _=>[]) 0:=fw Tryz.func97<|fE 1
def zLN(qq:Nat)(p0:List Int):Option (List Int):=
 yR 8 ([]:List Int) p0>>=fun l1=>
 some l1
theorem zTQ{qq p0}:Cz (zLN qq p0) 97 [] [slv zM p0 .nn] (fun r=>.sl (zD zM r) (List.length r) .no) (fun _=>[]) 0:=fw Tryz.func97<|rH fun _ h2=>rZ (List.length p0=0) (fun h3=>rS (oP 2 (zKj h2 h3))<|fE 0) fun h3=>rS (oP 2 (nO h2 h3))<|fE 0
def zRc(qq:Nat)(p0:List Int):Option (Unit):=
 some ()
theorem zRb{qq p0}:Cz (zRc qq p0) 97 [] [slv zM p0 .nl] (fun _=>slv zM ([]:List Int) .full) (fun _=>[]) 0:=fw Tryz.func97<|fG 1 [] [] [] true
def zLO(qq:Nat)(p0:List Int):Option ((Unit) ⊕ (List Int)):=
 if decide (List.length p0=0)then
 some (Sum.inl ())
 else
 yR 8 ([]:List Int) p0>>=fun l2=>
 some (Sum.inr l2)
theorem zLP{qq p0}:Cz (zLO qq p0) 97 [] [slv zM p0 .nn] (Sum.elim (fun _=>slv zM ([]:List Int) .full) (fun x=>.ms 0 0 (List.length x) (List.length x) 1)) (Sum.elim (fun _=>[]) (fun x=>[.row (zD zM x)])) 0:=fw Tryz.func97<|rI (fun h1=>rS (oQ 2 (zSX (of_decide_eq_true h1)))<|fG 0 [] [] [] true) fun h1=>rW (fun h3=>oM 2 (zTz h3 (of_decide_eq_false h1))) fun _=>fF 0 [0]
def e97(_qq:Nat)(p0:List Int):Option (List Int):=yR 8 [] p0
theorem zTR{qq:Nat}{p0:List Int}{r:List Int}(h:e97 qq p0=some r):CT Tryz.prog 97 [] [.sl (zD zM p0) (List.length p0) .no] (.sl (zD zM r) (List.length r) .no) [] 0:=by
 have hr:r=p0:=by have:=(tL h).2;simpa using this
 have h1:zLN qq p0=some r:=by unfold zLN;rw[show yR 8 ([]:List Int) p0=some r from h];rfl
 have k1:=zTQ _ h1
 refine⟨vV.nilcase (fun hn=>?_) k1.tri,⟨⟨trivial,dI _⟩,trivial⟩,(fun _ h=>nomatch h),dI _,(fun _ h=>nomatch h)⟩
 have hp:p0=[]:=N0 mC (by decide) hn
 subst hr
 subst hp
 exact(zTP (qq:=qq) _ rfl).tri
def zQa(qq:Nat)(p0:List Int):Option (Unit ⊕ List Int):=if decide (List.length p0=0)=true then some (.inl ())else(yR 8 [] p0)>>=fun r=>some (.inr r)
theorem zRa{qq:Nat}{p0:List Int}{r:Unit ⊕ List Int}(h:zQa qq p0=some r):(match (generalizing:=false) r with | .inl _=>CT Tryz.prog 97 [] [.sl (zD zM p0) (List.length p0) .no] (.sl (zD zM ([]:List Int)) (List.length ([]:List Int)) .full) [] 0 | .inr x=>CT Tryz.prog 97 [] [.sl (zD zM p0) (List.length p0) .no] (.ms 0 0 (List.length x) (List.length x) 1) [.row (zD zM x)] 0):=by
 unfold zQa at h
 rcases spl h with⟨h1,h⟩|⟨h1,h⟩
 ·obtain rfl:=sj h
  have hp:p0=[]:=List.length_eq_zero_iff.1 (of_decide_eq_true h1)
  subst hp
  have k0:=zRb (qq:=qq) (p0:=[]) (()) rfl
  have k1:=zLP (qq:=qq) (p0:=[]) (.inl ()) rfl
  exact⟨vV.nilcase (fun _=>k0.tri) k1.tri,⟨⟨trivial,dI _⟩,trivial⟩,(fun _ h=>nomatch h),dI _,(fun _ h=>nomatch h)⟩
 ·obtain⟨x,h2,h⟩:=oO h
  obtain rfl:=sj h
  have k1:=zLP (qq:=qq) (p0:=p0) (r:=.inr x) (by unfold zLO;rw[if_neg (by rw[h1];decide),h2];rfl)
  refine⟨vV.nilcase (fun hn=>?_) k1.tri,⟨⟨trivial,dI _⟩,trivial⟩,(fun _ h=>nomatch h),(show 0<1 by decide),uE (dI _) wX⟩
  have hp:p0=[]:=N0 mC (by decide) hn
  subst hp
  cases h1
def zGV(_qq:Nat)(p0:List Int):Option (List Int):=yR 8 [] p0
theorem zRA{qq:Nat}{p0:List Int}{r:List Int}(h:zGV qq p0=some r):CT Tryz.prog 97 [] [.sl (zD zM p0) (List.length p0) .no] (.sl (zD zM r) (List.length r) .z) [] 0:=by
 have hr:r=p0:=by have:=(tL h).2;simpa using this
 subst hr
 cases r with
 |nil=>exact CT.zfull (zRa (qq:=qq) (p0:=[]) (r:=.inl ()) rfl)
 |cons x l=>exact CT.zno (by simp) (dI _) (zTR (qq:=qq) h)
theorem c97{qq:Nat}{p0:List Int}:Cz (e97 qq p0) 97 [] [.sl (zD zM p0) (List.length p0) .no] (fun r=>.sl (zD zM r) (List.length r) .no) (fun _=>[]) 0:=fun _ h=>zTR h
theorem zQA{qq:Nat}{p0:List Int}:Cz (zGV qq p0) 97 [] [.sl (zD zM p0) (List.length p0) .no] (fun r=>.sl (zD zM r) (List.length r) .z) (fun _=>[]) 0:=fun _ h=>zRA h
def aT:Nat->(List Ent)->(List Ent)->Int->Option (List Ent)
 |0,_,_,_=>none
 |qq+1,p0,v3,v8=>
 if decide (v8<(List.length p0:Int))then
 zL p0 v8>>=fun x2=>
 e96 qq x2.type>>=fun r4=>
 e96 qq x2.body>>=fun r6=>
 e97 qq x2.cons>>=fun r8=>
 e97 qq x2.fields>>=fun r10=>
 yR 192 v3 [(Ent.mk x2.kind x2.name r4 r6 x2.fam x2.place x2.pars x2.inds x2.level r8 r10)]>>=fun l12=>
 aT qq p0 l12 (w64 (v8+1))
 else
 some v3
def e51(qq:Nat)(p0:List Ent):Option (List Ent):=
 aT qq p0 [] 0
theorem zRB:∀qq:Nat,∀p0 v3 v8,Lz (aT qq p0 v3 v8) 0 Tryz.f51 (inn (inn (rgt (lft (rgt (rgt (bod Tryz.f51))))))) (fun j=>sp j 34 0 [(3,slv zI v3 (.st 0 15)),(6,slv zI p0 .no),(7,ai (List.length p0:Int)),(8,ai v8)]) ⟨[],0,[0],1,[]⟩ (fun r=>.sl (zD zI r) (List.length r) .no) (fun _=>[]) 0 [.blk 0,.seq (rgt (rgt (rgt (bod Tryz.f51))))]:=yW (fun _ _ _=>lN) fun qq ih=>fun p0 v3 v8=>lw fun _=>rB 0 (rA 0 (yY (o:=.no)) fun _=>rC 3 [] c96 fun _=>rC 1 [] c96 fun _=>rC 3 [] c97 fun _=>rS (oCl 0)<|rC 0 [] c97 fun _=>rW (fun h13=>oP 4 (C4 h13 (by simp))) fun _=>lH 1 [] [] [1] [3,6,7,8] (ih _ _ _))<|lE 0
theorem c51{qq p0}:Cz (e51 qq p0) 51 [] [slv zI p0 .no] (fun r=>.sl (zD zI r) (List.length r) .no) (fun _=>[]) 0:=fw Tryz.func51<|fH 1 [(none,3,15)] [] [0] [3,6,7,8] (zRB _ _ _ _)
def mF(N:ByteArray->Bool)(l:List Ent)(i:Int):Bool:=
 N (ent l i).name&&(rP (ent l i).type i &&
  (if (ent l i).kind=1 then qU l i else if (ent l i).kind=2 then zFx l i else if (ent l i).kind=4 then D3 l i else if (ent l i).kind=3 then zLM l i else false))
def zIG(N:ByteArray->Bool)(l:List Ent):Nat->Nat->Bool
 |0,_=>true
 |m+1,v=>mF N l v&&zIG N l m (v+1)
def gY(N:ByteArray->Bool):Prop:=∀s,Evt (fun q=>iC q s) (N s)
theorem R7:∃N,gY N:=by
 have h:∀s,∃b,Evt (fun q=>iC q s) b:=fun s=>by
  obtain⟨b,hb,_⟩:=uY s
  exact⟨b,hb⟩
 exact⟨fun s=>Classical.choose (h s),fun s=>Classical.choose_spec (h s)⟩
theorem zLQ(N:ByteArray->Bool)(hN:gY N)(l:List Ent)(i:Int)(h0:0≤i)(h1:i<l.length)(hl:l.length≤65535)(he:∀e∈l,EOk e)(hF:zAC l i):Evt (fun q=>e89 q l i) (mF N l i):=by
 simp only[e89]
 have hx:=he _ (tY h0 h1)
 refine Evt.pure (yF h0 h1) ((hN _).bind ?_)
 unfold mF
 by_cases a1:N (ent l i).name=true
 ·refine Evt.ifT a1 ((R4 _ i hx.1).bind ?_)
  rw[a1,Bool.true_and]
  by_cases a2:rP (ent l i).type i=true
  ·refine Evt.ifT a2 ?_
   rw[a2,Bool.true_and]
   by_cases k1:(ent l i).kind=1
   ·rw[if_pos k1];exact Evt.ifT (by simp[k1]) ((zIE l i h0 h1 hl he).bind Evt.ret)
   rw[if_neg k1]
   refine Evt.ifF (by simp[k1]) ?_
   by_cases k2:(ent l i).kind=2
   ·rw[if_pos k2];exact Evt.ifT (by simp[k2]) ((zRg l i h0 h1 he hF).bind Evt.ret)
   rw[if_neg k2]
   refine Evt.ifF (by simp[k2]) ?_
   by_cases k4:(ent l i).kind=4
   ·rw[if_pos k4];exact Evt.ifT (by simp[k4]) ((zOF l i h0 h1 he hF).bind Evt.ret)
   rw[if_neg k4]
   refine Evt.ifF (by simp[k4]) ?_
   by_cases k3:(ent l i).kind=3
   ·rw[if_pos k3];exact Evt.ifT (by simp[k3]) ((zRf l i h0 h1 he).bind Evt.ret)
   ·rw[if_neg k3];exact Evt.ifF (by simp[k3]) Evt.ret
  ·exact Evt.ifF (by simpa using a2) (Evt.ret.eq (by simp[a2]))
 ·exact Evt.ifF (by simpa using a1) (Evt.ret.eq (by simp[a1]))
theorem p9:∀(r l:List Ent) (v:Nat) (acc:List ByteArray),l.drop v=r->l.length≤65535->acc.length≤v->Evt (fun q=>kC q l acc (v:Int)) (acc++r.map Ent.name)
 | [],l,v,acc,hd,hl,ha=>by
  refine Evt.succ ?_
  simp only[kC]
  exact Evt.ifF (zX hd) (Evt.ret.eq (by simp))
 |x::r,l,v,acc,hd,hl,ha=>by
  have hlt:=yC hd
  refine Evt.succ ?_
  simp only[kC]
  refine Evt.ifT (zW hd) (Evt.pure (zS hd) (Evt.pure (zZ (by simp<;>omega)) ?_))
  rw[zU v (by omega)]
  exact(p9 r l (v+1) _ (zQ hd) hl (by simp<;>omega)).eq (by simp)
theorem zLR(l:List Ent)(hl:l.length≤65535):Evt (fun q=>e88 q l) (l.map Ent.name):=by
 simp only[e88]
 exact(p9 l l 0 [] rfl hl (by simp)).eq (by simp)
theorem zFw(N:ByteArray->Bool)(hN:gY N)(l:List Ent)(hl:l.length≤65535)(he:∀e∈l,EOk e):∀(m v:Nat),v+m=l.length->zAC l v->Evt (fun q=>aS q l (v:Int)) (zIG N l m v):=by
 intro m
 induction m with
 |zero=>
  intro v hm hF
  refine Evt.succ ?_
  simp only[aS]
  exact Evt.ifF (decide_eq_false (by omega)) Evt.ret
 |succ m ih=>
  intro v hm hF
  refine Evt.succ ?_
  simp only[aS]
  refine Evt.ifT (decide_eq_true (by omega)) ((zLQ N hN l v (by omega) (by omega) hl he hF).bind ?_)
  rw[zIG]
  by_cases h:mF N l v=true
  ·refine Evt.ifT h ?_
   rw[zU v (by omega),h,Bool.true_and]
   refine ih (v+1) (by omega) fun j hj0 hj1 hk=>?_
   by_cases e:j=v
   ·subst e
    unfold mF at h
    simp only[Bool.and_eq_true]at h
    have:=h.2.2
    rwa[if_pos hk]at this
   ·exact hF j hj0 (by omega) hk
  ·exact Evt.ifF (by simpa using h) (Evt.ret.eq (by simp[h]))
def gZ(N:ByteArray->Bool)(d:Bool)(l:List Ent):Bool:=decide (l.length≤256)&&(d&&zIG N l l.length 0)
theorem aU(N:ByteArray->Bool)(hN:gY N)(l:List Ent)(hl:l.length≤65535)(he:∀e∈l,EOk e):∃d,Evt (fun q=>e87 q (l.map Ent.name)) d∧Evt (fun q=>e47 q l) (gZ N d l):=by
 obtain⟨d,hd,_⟩:=zAe (l.map Ent.name) (by simpa using hl)
 refine⟨d,hd,?_⟩
 simp only[e47]
 unfold gZ
 by_cases h:l.length≤256
 ·refine Evt.ifF (decide_eq_false (by omega)) ((zLR l hl).bind (hd.bind ?_))
  cases d with
  |false=>exact Evt.ifF rfl (Evt.ret.eq (by simp))
  |true=>exact Evt.ifT rfl ((zFw N hN l hl he l.length 0 (by omega) (fun j h0 h1=>by omega)).eq (by simp[h]))
 ·exact Evt.ifT (decide_eq_true (by omega)) (Evt.ret.eq (by simp[h]))
theorem o5{N:ByteArray->Bool}{l:List Ent}:∀ {m v:Nat},zIG N l m v=true->∀j,v≤j->j<v+m->mF N l (j:Int)=true
 |0,v,_,j,h0,h1=>by omega
 |m+1,v,h,j,h0,h1=>by
  rw[zIG]at h
  simp only[Bool.and_eq_true]at h
  by_cases e:j=v
  ·subst e;exact h.1
  ·exact o5 h.2 j (by omega) (by omega)
def vK(N:ByteArray->Bool)(l:List Ent):Prop:=l.length≤256∧∀i:Int,0≤i->i<l.length->mF N l i=true
theorem kD{N:ByteArray->Bool}{d:Bool}{l:List Ent}(h:gZ N d l=true):vK N l:=by
 unfold gZ at h
 simp only[Bool.and_eq_true,decide_eq_true_eq]at h
 refine⟨h.1,fun i h0 h1=>?_⟩
 have:=o5 h.2.2 i.toNat (by omega) (by omega)
 rwa[show ((i.toNat:Nat):Int)=i by omega]at this
theorem xQ{N:ByteArray->Bool}{l:List Ent}{i:Int}(h:mF N l i=true):rP (ent l i).type i=true ∧
  ((ent l i).kind=1->qU l i=true)∧((ent l i).kind=2->zFx l i=true)∧((ent l i).kind=4->D3 l i=true)∧((ent l i).kind=3->zLM l i=true)∧((ent l i).kind=1∨(ent l i).kind=2∨(ent l i).kind=3∨(ent l i).kind=4):=by
 unfold mF at h
 simp only[Bool.and_eq_true]at h
 obtain⟨_,h2,h3⟩:=h
 refine⟨h2,fun k=>by rwa[if_pos k]at h3,fun k=>?_,fun k=>?_,fun k=>?_,?_⟩
 ·rwa[if_neg (by omega),if_pos k]at h3
 ·rwa[if_neg (by omega),if_neg (by omega),if_pos k]at h3
 ·rwa[if_neg (by omega),if_neg (by omega),if_neg (by omega),if_pos k]at h3
 ·split at h3
  ·exact .inl (by assumption)
  ·split at h3
   ·exact .inr (.inl (by assumption))
   ·split at h3
    ·exact .inr (.inr (.inr (by assumption)))
    ·split at h3
     ·exact .inr (.inr (.inl (by assumption)))
     ·cases h3
def zDu(e:Ent):Ent:=Ent.mk e.kind e.name (mT e.type) (mT e.body) e.fam e.place e.pars e.inds e.level e.cons e.fields
def ECl(e:Ent):Prop:=e.cons.length≤17592186044416∧e.fields.length≤17592186044416
theorem zDt:∀(r l acc:List Ent) (v:Nat),l.drop v=r->l.length≤65535->(∀e∈l,EOk e)->(∀e∈l,ECl e)->acc.length≤v->Evt (fun q=>aT q l acc (v:Int)) (acc++r.map zDu)
 | [],l,acc,v,hd,hl,he,hc,ha=>by
  refine Evt.succ ?_
  simp only[aT]
  exact Evt.ifF (zX hd) (Evt.ret.eq (by simp))
 |x::r,l,acc,v,hd,hl,he,hc,ha=>by
  have hlt:=yC hd
  have hx:x∈l:=by
   have:x∈l.drop v:=by rw[hd];simp
   exact List.mem_of_mem_drop this
  have hE:=he x hx
  have hC:=hc x hx
  refine Evt.succ ?_
  simp only[aT]
  refine Evt.ifT (zW hd) (Evt.pure (zS hd) ((pW _ hE.1).bind ((pW _ hE.2.1).bind ?_)))
  refine Evt.bind (a:=x.cons) (Evt.mk fun q=>(zZ (by have:=hC.1;simp<;>omega)).trans (by simp)) (Evt.bind (a:=x.fields) (Evt.mk fun q=>(zZ (by have:=hC.2;simp<;>omega)).trans (by simp)) (Evt.pure (zZ (by simp<;>omega)) ?_))
  rw[zU v (by omega)]
  exact(zDt r l _ (v+1) (zQ hd) hl he hc (by simp<;>omega)).eq (by simp[zDu])
theorem bE(l:List Ent)(hl:l.length≤65535)(he:∀e∈l,EOk e)(hc:∀e∈l,ECl e):Evt (fun q=>e51 q l) (l.map zDu):=by
 simp only[e51]
 exact(zDt l l [] 0 rfl hl he hc (by simp)).eq (by simp)
theorem mG{t:Tm}{n:Int}(h:rP t n=true):zG t=true:=by
 unfold rP oT at h
 simp only[Bool.and_eq_true]at h
 exact h.1.1.1
theorem zFv{t:Tm}(h:eP t=true):t=zT:=by
 unfold eP at h
 simp only[Bool.and_eq_true,beq_iff_eq]at h
 obtain⟨k,n,l⟩:=t
 have h1:k=0:=h.1.1
 have h2:n=0:=h.1.2
 have h3:l=[]:=List.length_eq_zero_iff.1 (by have:(l.length:Int)=0:=h.2;omega)
 subst h1;subst h2;subst h3;rfl
theorem o6{t:Tm}(h:eP t=true):mT t=t:=by
 rw[zFv h]
 unfold mT
 split
 ·rfl
 ·rfl
theorem zIH{N:ByteArray->Bool}{l:List Ent}{i:Int}(h:mF N l i=true):zDu (ent l i)=ent l i:=by
 have hs:=xQ h
 have h1:mT (ent l i).type=(ent l i).type:=by unfold mT;rw[if_pos (mG hs.1)]
 have own:nD l i=true->mT (ent l i).body=(ent l i).body:=fun ho=>by
  unfold nD zOE at ho
  simp only[Bool.and_eq_true]at ho
  exact o6 ho.1.1.1.1.1.2
 have h2:mT (ent l i).body=(ent l i).body:=by
  rcases hs.2.2.2.2.2 with k|k|k|k
  ·have:=hs.2.1 k
   unfold qU zFz at this
   simp only[Bool.and_eq_true]at this
   exact o6 this.1.1.1.2
  ·have:=hs.2.2.1 k
   unfold zFx at this
   simp only[Bool.and_eq_true]at this
   exact own this.1
  ·have:=hs.2.2.2.2.1 k
   unfold zLM at this
   simp only[Bool.and_eq_true]at this
   unfold mT;rw[if_pos (mG this.1)]
  ·have:=hs.2.2.2.1 k
   unfold D3 at this
   simp only[Bool.and_eq_true]at this
   exact own this.1
 unfold zDu
 rw[h1,h2]
theorem mZ{N:ByteArray->Bool}{l:List Ent}(h:vK N l):l.map zDu=l:=by
 refine List.ext_getElem (by simp) fun i h1 h2=>?_
 simp only[List.getElem_map]
 have:=zIH (h.2 (i:Int) (by omega) (by omega))
 have e:ent l (i:Int)=l[i]:=by
  unfold ent
  rw[show (i:Int).toNat=i by omega,List.getElem?_eq_getElem h2];rfl
 rwa[e]at this
def zRC(qq:Nat)(p0:List Tm):Option (List Tm):=
 some []
theorem zRD{qq p0}:Cz (zRC qq p0) 247 [] [slv zA p0 .nl] (fun r=>.sl (zD zA r) (List.length r) .no) (fun _=>[]) 0:=fw Tryz.func247<|fE 1
def zFu(qq:Nat)(p0:List Tm):Option (List Tm):=
 yR 40 ([]:List Tm) p0>>=fun l1=>
 some l1
theorem zRE{qq p0}:Cz (zFu qq p0) 247 [] [slv zA p0 .nn] (fun r=>.sl (zD zA r) (List.length r) .no) (fun _=>[]) 0:=fw Tryz.func247<|rH fun _ h2=>rZ (List.length p0=0) (fun h3=>rS (oP 2 (sJ h2 h3))<|fE 0) fun h3=>rS (oP 2 (xU h2 h3))<|fE 0
def zOG(_qq:Nat)(p0:List Tm):Option (List Tm):=yR 40 [] p0
theorem zTS{qq:Nat}{p0:List Tm}{r:List Tm}(h:zOG qq p0=some r):CT Tryz.prog 247 [] [.sl (zD zA p0) (List.length p0) .no] (.sl (zD zA r) (List.length r) .no) [] 0:=by
 have hr:r=p0:=by have:=(tL h).2;simpa using this
 have h1:zFu qq p0=some r:=by unfold zFu;rw[show yR 40 ([]:List Tm) p0=some r from h];rfl
 have k1:=zRE _ h1
 refine⟨vV.nilcase (fun hn=>?_) k1.tri,⟨⟨trivial,dT _⟩,trivial⟩,(fun _ h=>nomatch h),dT _,(fun _ h=>nomatch h)⟩
 have hp:p0=[]:=N0 qH (by decide) hn
 subst hr
 subst hp
 exact(zRD (qq:=qq) _ rfl).tri
theorem zTT{qq:Nat}{p0:List Tm}:Cz (zOG qq p0) 247 [] [.sl (zD zA p0) (List.length p0) .no] (fun r=>.sl (zD zA r) (List.length r) .no) (fun _=>[]) 0:=fun _ h=>zTS h
def zOH(qq:Nat)(p0:List Ent)(p1:Tm)(p2 p3:Int):Option (uS):=
 e99 qq p1>>=fun r1=>
 jX qq r1.2.1>>=fun r3=>
 if r1.2.2 != 0 then
 some (uS.mk false [] [])
 else
 if r3.1.k != 6 then
 some (uS.mk false [] [])
 else
 if r3.1.n != p2 then
 some (uS.mk false [] [])
 else
 zL p0 p2>>=fun x8=>
 zIn qq r1.2.1 p2 x8.pars x8.inds (w64 (p3+(List.length r1.1:Int)))>>=fun r10=>
 if r10 then
 gsl r3.2 x8.pars (List.length r3.2:Int)>>=fun x13=>
 zOG qq x13>>=fun r15=>
 some (uS.mk true r1.1 r15)
 else
 some (uS.mk false [] [])
theorem zVA{qq p0 p1 p2 p3}:Cz (zOH qq p0 p1 p2 p3) 248 [] [slv zI p0 .no,tmA p1,ai p2,ai p3] (fun r=>zQQ r) (fun _=>[]) 0:=fw Tryz.func248<|rC 1 [] c99 fun _=>rC 5 [] E8 fun _=>rB 3 (fE 1)<|rB 1 (fE 1)<|rB 1 (fE 1)<|rH fun _ h9=>rS (oA 1 (yY (o:=.no) h9))<|rS (oA 1 (yY (o:=.no) h9))<|rK 3 [] zRv (fun _=>rS (oA 1 (yY (o:=.no) h9))<|rA 1 uX fun _=>rC 0 [] zTT fun _=>fE 1) fun _=>fE 2
def fA:Nat->(List Ent)->Ent->(List Tm)->(List Tm)->Int->(List uS)->Option (xN)
 |0,_,_,_,_,_,_=>none
 |qq+1,p0,x1,x7,r11,v43,xK=>
 if decide (v43<(List.length x7:Int))then
 zL x7 v43>>=fun x14=>
 zOH qq p0 x14 x1.fam (w64 (x1.pars+v43))>>=fun r16=>
 yR 56 xK [r16]>>=fun l18=>
 fA qq p0 x1 x7 r11 (w64 (v43+1)) l18
 else
 some (xN.mk x7 r11 xK)
def zLS(qq:Nat)(p0:List Ent)(p1:Int):Option (xN):=
 zL p0 p1>>=fun x1=>
 e99 qq x1.type>>=fun r3=>
 jX qq r3.2.1>>=fun r5=>
 gsl r3.1 x1.pars (List.length r3.1:Int)>>=fun x7=>
 gsl r5.2 x1.pars (List.length r5.2:Int)>>=fun x9=>
 zOG qq x9>>=fun r11=>
 fA qq p0 x1 x7 r11 0 []
theorem zOI:∀qq:Nat,∀p0 x1 x7 r11 v43 xK,Lz (fA qq p0 x1 x7 r11 v43 xK) 0 Tryz.f193 (inn (inn (rgt (lft (rgt (rgt (rgt (rgt (rgt (bod Tryz.f193)))))))))) (fun j=>sp j 64 0 [(0,slv zI p0 .no),(4,.mp 0 0),(5,.mp 1 0),(11,.mp 2 0),(41,slv zA x7 .no),(42,ai (List.length x7:Int)),(43,ai v43)]) ⟨[(0,.cells [slv zA ([]:List Tm) .nl,slv zA ([]:List Tm) .nl,slv kX ([]:List uS) .nl]),(1,.cells [ai x1.kind,at' x1.name,ai x1.type.k,ai x1.type.n,slv zA x1.type.sub .no,ai x1.body.k,ai x1.body.n,slv zA x1.body.sub .no,ai x1.fam,ai x1.place,ai x1.pars,ai x1.inds,ai x1.level,slv zM x1.cons .no,slv zM x1.fields .no]),(2,.cells [slv zA x7 .no,slv zA r11 .no,slv kX xK (.st 0 3)])],3,[0],1,[]⟩ (fun r=>zQR r) (fun _=>[]) 0 [.blk 0,.seq (rgt (rgt (rgt (rgt (rgt (rgt (bod Tryz.f193)))))))]:=yW (fun _ _ _ _ _ _=>lN) fun qq ih=>fun p0 x1 x7 r11 v43 xK=>lw fun _=>rB 0 (rA 0 (yM (o:=.no)) fun _=>rS (oCl 2)<|rC 4 [] zVA fun _=>rW (fun h19=>oP 1 (zQV h19 (by simp))) fun _=>lH 2 [] [0,1,2] [1] [0,4,5,11,41,42,43] (ih _ _ _ _ _ _))<|lE 2
theorem zTU{qq p0 p1}:Cz (zLS qq p0 p1) 193 [] [slv zI p0 .no,ai p1] (fun r=>zQR r) (fun _=>[]) 0:=fw Tryz.func193<|rA 0 (yY (o:=.no)) fun _=>rC 3 [] c99 fun _=>rC 5 [] E8 fun _=>rS (oCl 3)<|rA 0 uX fun _=>rA 1 uX fun _=>rC 0 [] zTT fun _=>fH 3 [(some 4,2,3)] [0,1,4] [0] [0,4,5,11,41,42,43] (zOI _ _ _ _ _ _ _)
def nT:Nat->(List Ent)->(List xN)->Int->(List xN)->Option ((List xN × Int) ⊕ (List xN × Int))
 |0,_,_,_,_=>none
 |qq+1,p0,x4,v14,zR=>
 if decide (v14<(List.length p0:Int))then
 zL p0 v14>>=fun x7=>
 if x7.kind==2 then
 zLS qq p0 v14>>=fun r10=>
 X0 (List.length x4) v14>>=fun x12=>
 X1 zR x12 r10>>=fun x14=>
 nT qq p0 x4 (w64 (v14+1)) x14
 else
 nT qq p0 x4 (w64 (v14+1)) zR
 else
 gfz (List.length x4) zR>>=fun l16=>
 some (Sum.inr (l16,0))
def zFt(qq:Nat)(p0:List Ent):Option ((List xN × Int) ⊕ (List xN × Int)):=
 e47 qq p0>>=fun r1=>
 if r1 then
 gmk 72 (default:xN) (List.length p0:Int)>>=fun x4=>
 nT qq p0 x4 0 x4
 else
 some (Sum.inl ([],5))
def zII(j:Nat->Value)(p0:List Ent)(x4:List xN)(v14:Int)(zR:List xN):=sp j 31 0 [(0,slv zI p0 .no),(4,.ms 0 0 (List.length x4) (List.length x4) 3),(13,ai (List.length p0:Int)),(14,ai v14)]
def zIJ(p0:List Ent)(x4:List xN)(v14:Int)(zR:List xN):LSt:=⟨[(0,.row (zD xX zR))],1,[],0,[]⟩
abbrev zFs (p0:List Ent) (r:List xN × Int) (C:Cf):Prop:=C 135 [] [slv zI p0 .no] (.tup [.sl (zD xX r.1) (List.length r.1) .no,ai r.2]) [] 0
abbrev zFr (p0:List Ent) (r:List xN × Int) (C:Cf):Prop:=C 135 [] [slv zI p0 .no] (.tup [.ms 0 0 (List.length r.1) (List.length r.1) 3,ai r.2]) [.row (zD xX r.1)] 0
theorem zRF:Qf 135 Tryz.f135:=⟨Tryz.func135,by kernel_rfl⟩
theorem zLT{p0 r}(h:zFs p0 r Ci):zFs p0 r Ct:=⟨h,⟨⟨tv,dE _⟩,tv⟩,wX,⟨dC _,tv,tv⟩,wX⟩
theorem zRG{p0 r}(h:zFr p0 r Ci):zFr p0 r Ct:=⟨h,⟨⟨tv,dE _⟩,tv⟩,wX,⟨(lz rfl),tv,tv⟩,(uE (dC _) wX)⟩
theorem zGW:∀qq:Nat,(∀p0 x4 v14 zR r,nT qq p0 x4 v14 zR=some r->(∀j,Dl Tryz.prog 0 (inn (inn (rgt (lft (rgt (rgt (rgt (bod Tryz.f135)))))))) (zII j p0 x4 v14 zR) (zIJ p0 x4 v14 zR) (wD Tryz.prog 0 ((match (generalizing:=false) r with|Sum.inl x=>lP Tryz.prog 0 Tryz.f135 (.tup [.sl (zD xX x.1) (List.length x.1) .no,ai x.2]) [] 0|Sum.inr x=>lP Tryz.prog 0 Tryz.f135 (.tup [.ms 0 0 (List.length x.1) (List.length x.1) 3,ai x.2]) [.row (zD xX x.1)] 0)) [.blk 0,.seq (rgt (rgt (rgt (rgt (bod Tryz.f135)))))]))):=by
 intro qq
 induction qq with
 |zero=>
  exact fun _ _ _ _ _ h=>nn h
 |succ qq ih=>
  intro p0 x4 v14 zR r h
  rw[nT]at h
  rcases spl h with⟨h6,h⟩|⟨h6,h⟩
  obtain⟨x7,h8,h⟩:=oO h
  have k:=oA 0 (yY (o:=.no) h8)<|oB 0 h6 o0
  rcases spl h with⟨h9,h⟩|⟨h9,h⟩
  obtain⟨r10,h11,h⟩:=oO h
  obtain⟨x12,h13,h⟩:=oO h
  obtain⟨x14,h15,h⟩:=oO h
  exact fun j=>olH 1 [] [0] [] [0,4,13,14] (oD (dE p0)<|oD (dC x14)<|oW 0 (wtE (x:=r10) (cs:=[slv zA r10.args .no,slv zA r10.inds .no,slv kX r10.recs .no]) zAs rfl h15)<|oA 0 (zQY (b:=0) (c:=List.length x4) (z:=3) h13)<|oC 0 [] (zTU _ h11)<|oB 1 h9 k) (ih _ _ _ _ _ h)
  exact fun j=>olH 1 [] [0] [] [0,4,13,14] (oD (dE p0)<|oD (dC zR)<|oB 1 h9 k) (ih _ _ _ _ _ h)
  obtain⟨l16,h17,h⟩:=oO h
  obtain⟨h17a,h17b⟩:=zKw h17
  obtain rfl:=sj h
  obtain rfl:=h17a.symm
  try dsimp only
  rw[←h17b]
  exact fun j=>olF 0 [0] (oD (dC zR)<|oB 0 h6 o0)
theorem zTV{qq p0 r}(h:zFt qq p0=some r):(match (generalizing:=false) r with|Sum.inl x=>zFs p0 x Ct|Sum.inr x=>zFr p0 x Ct):=by
 unfold zFt at h
 obtain⟨r1,h2,h⟩:=oO h
 rcases spl h with⟨h3,h⟩|⟨h3,h⟩
 obtain⟨x4,h5,h⟩:=oO h
 rcases r with y0|y1
 exact zLT (tH zRF 1 [] [0] [] [0,4,13,14] (oD (dE p0)<|oD (dC x4)<|oM 2 (zKA h5)<|oK 0 [] h3 (c47 _ h2) o0) (zGW _ _ _ _ _ _ h))
 exact zRG (tH zRF 1 [] [0] [] [0,4,13,14] (oD (dE p0)<|oD (dC x4)<|oM 2 (zKA h5)<|oK 0 [] h3 (c47 _ h2) o0) (zGW _ _ _ _ _ _ h))
 obtain rfl:=sj h
 exact zLT (tF zRF 1 [] (oD (dC ([]:List xN))<|oK 0 [] h3 (c47 _ h2) o0))
theorem zTW{qq p0 r}(h:zFt qq p0=some r):(match (generalizing:=false) r with|Sum.inl x=>CT Tryz.prog 135 [] [slv zI p0 .no] (.tup [.sl (zD xX x.1) (List.length x.1) .no,ai x.2]) [] 0|Sum.inr x=>CT Tryz.prog 135 [] [slv zI p0 .no] (.tup [.sl (zD xX x.1) (List.length x.1) .no,ai x.2]) [] 0):=by
 have k:=zTV h
 rcases r with y0|y1
 ·exact k
 ·exact CT.freeze (H1:=[]) (cs:=zD xX y1.1) (res':=(.tup [.sl (zD xX y1.1) (List.length y1.1) .no,ai y1.2])) k (Nat.le_of_ble_eq_true rfl) wX (dC _) ⟨(.inl ⟨rfl,rfl⟩),trivial,tv⟩ (by rfl) rfl
theorem zVB{qq p0}:Cz (zFt qq p0) 135 [] [slv zI p0 .no] (Sum.elim (fun x=>.tup [.sl (zD xX x.1) (List.length x.1) .no,ai x.2]) (fun x=>.tup [.sl (zD xX x.1) (List.length x.1) .no,ai x.2])) (Sum.elim (fun _=>[]) (fun _=>[])) 0:=fun r h=>by have k:=zTW h;rcases r with _|_<;>exact k
theorem zFq{t:Tm}{n:Int}(h:(wG t n).2.2≠0):(wG t n).2.1=zT∧(wG t n).1=[]:=by
 unfold wG at h ⊢
 split
 ·split
  ·exact⟨rfl,rfl⟩
  ·split
   ·exact⟨rfl,rfl⟩
   ·rename_i h1 h2 h3
    rw[if_pos h1,if_neg h2,if_neg h3]at h
    cases hr:cT n.toNat t with
    |none=>exact⟨rfl,rfl⟩
    |some r=>rw[hr]at h;exact absurd rfl h
 ·exact⟨rfl,rfl⟩
theorem zOJ:Evt (fun q=>jX q zT) (hdT zT,arT zT):=by
 refine Evt.mk fun q=>?_
 show qK zT zT []=_
 unfold zT qK hdT arT
 simp
theorem o8(t:Tm):Evt (fun q=>jX q (xC t).2.1) (hdT (xC t).2.1,arT (xC t).2.1):=by
 by_cases h:(xC t).2.2=0
 ·have hw:=oH (t:=t) (l:=(xC t).1) (y:=(xC t).2.1) (by rw[←h])
  exact rJ _ hw.2.2.2.2.1
 ·have:=(zFq (t:=t) (n:=((min (uD t) 25:Nat):Int)) h).1
  have e:(xC t).2.1=zT:=this
  rw[e];exact zOJ
def zLU(l:List Ent)(t:Tm)(of b:Int):uS:=
 if (xC t).2.2=0∧rL (xC t).2.1 of (ent l of).pars (ent l of).inds (b+(xC t).1.length)=true then uS.mk true (xC t).1 ((arT (xC t).2.1).drop (ent l of).pars.toNat)else uS.mk false [] []
theorem uZ{α:Type}{L:List α}{n:Int}(h0:0≤n)(h1:n≤L.length):gsl L n (L.length:Int)=some (L.drop n.toNat):=by
 unfold gsl
 rw[if_pos ⟨h0,h1,by omega⟩]
 congr 1
 exact List.take_of_length_le (by simp;omega)
theorem eQ{t:Tm}{of pars more b:Int}(h:rL t of pars more b=true):(hdT t).k=6∧(hdT t).n=of∧((arT t).length:Int)=pars+more:=by
 unfold rL at h
 simp only[Bool.and_eq_true,beq_iff_eq]at h
 exact⟨h.1.1.1,h.1.1.2,h.1.2⟩
theorem zRH(l:List Ent)(t:Tm)(of b:Int)(ho:t.Ok)(h0:0≤of)(h1:of<l.length)(hp:0≤(ent l of).pars∧0≤(ent l of).inds∧(ent l of).pars+(ent l of).inds≤24)(hb:0≤b∧b≤1048576) :
  Evt (fun q=>zOH q l t of b) (zLU l t of b):=by
 simp only[zOH]
 refine(mV t ho).bind ((o8 t).bind ?_)
 unfold zLU
 by_cases a1:(xC t).2.2=0
 ·have hw:=oH (t:=t) (l:=(xC t).1) (y:=(xC t).2.1) (by rw[←a1])
  refine Evt.ifF (by simp[a1]) ?_
  have hlen:=hw.2.2.1
  rw[zV (x:=b+((xC t).1.length:Int)) (by omega) (by omega)]
  have ha:=dM (xC t).2.1 of (ent l of).pars (ent l of).inds (b+(xC t).1.length) hw.2.2.2.2.1 (by omega) (by omega) (by omega)
  by_cases a2:rL (xC t).2.1 of (ent l of).pars (ent l of).inds (b+(xC t).1.length)=true
  ·have hs:=eQ a2
   rw[if_pos ⟨a1,a2⟩]
   refine Evt.ifF (by simp[hs.1]) (Evt.ifF (by simp[hs.2.1]) (Evt.pure (yF h0 h1) (ha.bind (Evt.ifT a2 (Evt.pure (uZ hp.1 (by show _≤((arT (xC t).2.1).length:Int);omega)) ?_)))))
   have hal:=sA _ (zK hw.2.2.2.2.1).2.2
   have hn:=(zK hw.2.2.2.2.1).1
   refine Evt.bind (a:=(arT (xC t).2.1).drop (ent l of).pars.toNat) (Evt.mk fun q=>(zZ (by simp<;>omega)).trans (by simp)) Evt.ret
  ·rw[if_neg (fun h=>a2 h.2)]
   refine Evt.iff (fun _=>Evt.ret) fun _=>Evt.iff (fun _=>Evt.ret) fun _=>Evt.pure (yF h0 h1) (ha.bind (Evt.ifF (by simpa using a2) Evt.ret))
 ·rw[if_neg (fun h=>a1 h.1)]
  exact Evt.ifT (by simp[a1]) Evt.ret
def D4(l:List Ent)(of:Int):List Tm->Int->List uS
 | [],_=>[]
 |a::r,b=>zLU l a of b::D4 l of r (b+1)
theorem aV(l:List Ent)(of:Int):∀(r:List Tm) (b:Int),(D4 l of r b).length=r.length
 | [],_=>rfl
 |a::r,b=>congrArg (· + 1) (aV l of r (b+1))
def vO(l:List Ent)(i:Int):xN:=
 xN.mk ((xC (ent l i).type).1.drop (ent l i).pars.toNat) ((arT (xC (ent l i).type).2.1).drop (ent l i).pars.toNat) (D4 l (ent l i).fam ((xC (ent l i).type).1.drop (ent l i).pars.toNat) (ent l i).pars)
theorem o9(l:List Ent)(x:Ent)(A I:List Tm)(hA:∀t∈A,t.Ok)(hl:A.length≤24)(h0:0≤x.fam)(h1:x.fam<l.length)(hp:0≤(ent l x.fam).pars∧0≤(ent l x.fam).inds∧(ent l x.fam).pars+(ent l x.fam).inds≤24)(hb:0≤x.pars∧x.pars≤24) :
  ∀(r:List Tm) (v:Nat) (acc:List uS),A.drop v=r->acc.length≤v->Evt (fun q=>fA q l x A I (v:Int) acc) (xN.mk A I (acc++D4 l x.fam r (x.pars+v)))
 | [],v,acc,hd,ha=>by
  refine Evt.succ ?_
  simp only[fA]
  exact Evt.ifF (zX hd) (Evt.ret.eq (by simp[D4]))
 |t::r,v,acc,hd,ha=>by
  have hlt:=yC hd
  have ht:t∈A:=by
   have:t∈A.drop v:=by rw[hd];simp
   exact List.mem_of_mem_drop this
  refine Evt.succ ?_
  simp only[fA]
  rw[zV (x:=x.pars+v) (by omega) (by omega)]
  refine Evt.ifT (zW hd) (Evt.pure (zS hd) ((zRH l t x.fam (x.pars+v) (hA t ht) h0 h1 hp (by omega)).bind (Evt.pure (zZ (by simp<;>omega)) ?_)))
  rw[zU v (by omega)]
  refine(o9 l x A I hA hl h0 h1 hp hb r (v+1) _ (zQ hd) (by simp<;>omega)).eq ?_
  rw[D4,show x.pars+((v+1:Nat):Int)=x.pars+v+1 by omega];simp
theorem tN{N:ByteArray->Bool}{l:List Ent}{i:Int}(hE:vK N l)(h0:0≤i)(h1:i<l.length)(hk:(ent l i).kind=2) :
  ∃(A:List Tm) (y:Tm),xC (ent l i).type=(A,y,0)∧zG y=true∧(∀t∈A,zG t=true)∧A.length=uD (ent l i).type∧A.length≤24∧0≤(ent l i).pars∧(ent l i).pars≤A.length ∧
   0≤(ent l i).fam∧(ent l i).fam<i∧(ent l (ent l i).fam).kind=1∧(ent l i).pars=(ent l (ent l i).fam).pars∧0≤(ent l (ent l i).fam).inds∧(ent l (ent l i).fam).pars+(ent l (ent l i).fam).inds≤24 ∧
   rL y (ent l i).fam (ent l i).pars (ent l (ent l i).fam).inds A.length=true∧0≤(ent l i).place∧(ent l i).place<(ent l (ent l i).fam).cons.length:=by
 have hc:=(xQ (hE.2 i h0 h1)).2.2.1 hk
 unfold zFx at hc
 simp only[Bool.and_eq_true,beq_iff_eq,decide_eq_true_eq]at hc
 obtain⟨a1,a2,a3,a4⟩:=hc
 have ho:=sP a1
 have hf:=wI ((xQ (hE.2 _ ho.1 (by omega))).2.1 ho.2.2.1)
 have hw:=oH (t:=(ent l i).type) (l:=(xC (ent l i).type).1) (y:=(xC (ent l i).type).2.1) (by rw[←a2])
 have hown:R6 l (ent l i)=(ent l (ent l i).fam).cons:=by unfold R6;rw[if_neg (by omega)]
 have h6:=ho.2.2.2.2.2
 rw[hown]at h6
 exact⟨_,_,by rw[←a2],hw.2.2.2.2.1,hw.2.2.2.2.2,hw.2.1,hw.2.2.1,by omega,a3,ho.1,ho.2.1,ho.2.2.1,ho.2.2.2.1,hf.2.1,hf.2.2.1,a4,ho.2.2.2.2.1,h6⟩
theorem yG{t:Tm}(h:zG t=true):t.Ok:=wF t (zK h).2.2
theorem zDs{N:ByteArray->Bool}(l:List Ent)(i:Int)(hE:vK N l)(h0:0≤i)(h1:i<l.length)(hk:(ent l i).kind=2)(he:∀e∈l,EOk e):Evt (fun q=>zLS q l i) (vO l i):=by
 simp only[zLS]
 obtain⟨A,y,hw,hy,hA,hAp,hA24,p0,p1,f0,f1,fk,fp,fi,fs,hap,-,-⟩:=tN hE h0 h1 hk
 have hsp:=eQ hap
 refine Evt.pure (yF h0 h1) ((mV _ (he _ (tY h0 h1)).1).bind ((o8 _).bind ?_))
 unfold vO
 rw[hw]
 have hal:=sA _ (zK hy).2.2
 have hn:=(zK hy).1
 refine Evt.pure (uZ p0 p1) (Evt.pure (uZ p0 (by show _≤((arT y).length:Int);omega)) (Evt.bind (a:=(arT y).drop (ent l i).pars.toNat) (Evt.mk fun q=>(zZ (by simp<;>omega)).trans (by simp)) ?_))
 refine(o9 l (ent l i) (A.drop (ent l i).pars.toNat) ((arT y).drop (ent l i).pars.toNat) (fun t ht=>yG (hA t (List.mem_of_mem_drop ht))) (by simp;omega) f0 (by omega) (by omega) (by omega) _ 0 [] rfl (by simp)).eq ?_
 simp
def evA(l:List Ent):Nat->Nat->List xN
 |0,_=>[]
 |m+1,v=>(if (ent l v).kind=2 then vO l v else default)::evA l m (v+1)
theorem zGX(l:List Ent):∀(m v j:Nat),j<m->(evA l m v)[j]? = some (if (ent l ((v+j:Nat):Int)).kind=2 then vO l ((v+j:Nat):Int)else default)
 |m+1,v,0,_=>by simp[evA]
 |m+1,v,j+1,h=>by
  rw[evA,List.getElem?_cons_succ,zGX l m (v+1) j (by omega),show v+1+j=v+(j+1) by omega]
theorem zIK{N:ByteArray->Bool}(l:List Ent)(x4:List xN)(hx:x4.length=l.length)(hE:vK N l)(he:∀e∈l,EOk e):∀(m v:Nat) (acc:List xN),v+m=l.length->acc.length=v ->
  Evt (fun q=>nT q l x4 (v:Int) (acc++List.replicate m default)) (.inr (acc++evA l m v,0)):=by
 intro m
 induction m with
 |zero=>
  intro v acc hm ha
  refine Evt.succ ?_
  simp only[nT]
  refine Evt.ifF (decide_eq_false (by omega)) (Evt.pure (a:=acc++List.replicate 0 default) (by unfold gfz;rw[if_pos (by simp;omega)]) (Evt.ret.eq (by simp[evA])))
 |succ m ih=>
  intro v acc hm ha
  refine Evt.succ ?_
  simp only[nT]
  refine Evt.ifT (decide_eq_true (by omega)) (Evt.pure (yF (by omega) (by omega)) ?_)
  have hl:=hE.1
  rw[zU v (by omega),evA]
  by_cases k:(ent l v).kind=2
  ·rw[if_pos k]
   refine Evt.ifT (by simp[k]) ((zDs l v hE (by omega) (by omega) k he).bind ?_)
   refine Evt.pure (a:=v) (by unfold X0;rw[if_pos (by omega)];simp) ?_
   refine Evt.pure (a:=acc++vO l v::List.replicate m default) ?_ ?_
   ·unfold X1
    rw[if_pos (by simp;omega),List.set_append_right _ _ (by omega),show v-acc.length=0 by omega,List.replicate_succ];rfl
   ·have:=ih (v+1) (acc++[vO l v]) (by omega) (by simp;omega)
    simpa using this
  ·rw[if_neg k]
   refine Evt.ifF (by simp[k]) ?_
   have:=ih (v+1) (acc++[default]) (by omega) (by simp;omega)
   rw[List.replicate_succ]
   simpa using this
def e68(qq:Nat)(p0:List Ent):Option ((Int) ⊕ (Int×List Ent×List xN)):=
 e51 qq p0>>=fun r1=>
 e47 qq p0>>=fun r3=>
 if r3 then
 zFt qq r1>>=fun r6=>
 match r6 with
 |Sum.inl y8=>
  if y8.2 != 0 then
  some (Sum.inl y8.2)
  else
  some (Sum.inr (0,r1,y8.1))
 |Sum.inr y10=>
  if y10.2 != 0 then
  some (Sum.inl y10.2)
  else
  some (Sum.inr (0,r1,y10.1))
 else
 some (Sum.inl 5)
theorem c68{qq p0}:Cz (e68 qq p0) 68 [] [slv zI p0 .no] (Sum.elim (fun x=>.tup [.val (.pointer none),ai x]) (fun x=>.tup [.mp 0 0,ai x.1])) (Sum.elim (fun _=>[]) (fun x=>[.cells [slv zI x.2.1 .no,slv xX x.2.2 .no]])) 0:=fw Tryz.func68<|rC 0 [] c51 fun _=>rK 0 [] c47 (fun _=>rC 1 [] zVB<|oR (fun _=>rB 2 (fE 0)<|fF 0 [0]) fun _=>rB 2 (fE 0)<|fF 0 [0]) fun _=>fE 1
mutual
def kE:Nat->(List Ent)->(Int×List Ent×List xN)->Int->(List Ent)->(List Int)->(List Int)->Option ((Int) ⊕ (Int×List Ent×List Int×List Int×List Ent×List xN))
 |0,_,_,_,_,_,_=>none
 |qq+1,p0,y3,v27,zR,zN,yE=>
 if decide (v27<(List.length p0:Int))then
 zL p0 v27>>=fun x8=>
 if x8.kind==1 then
 yR 8 zN [(w64 ((w64 ((w64 (x8.pars+2))+(List.length x8.cons:Int)))+x8.inds))]>>=fun l11=>
 yR 8 yE [0]>>=fun l13=>
 kE qq p0 y3 (w64 (v27+1)) zR l11 l13
 else
 if x8.kind==2 then
 aW qq p0 y3 v27 zR zN yE 0 x8.type.k x8.type.n x8.type.sub
 else
 yR 8 zN [0]>>=fun l16=>
 yR 8 yE [0]>>=fun l18=>
 kE qq p0 y3 (w64 (v27+1)) zR l16 l18
 else
 some (Sum.inr (0,zR,zN,yE,y3.2.1,y3.2.2))
def aW:Nat->(List Ent)->(Int×List Ent×List xN)->Int->(List Ent)->(List Int)->(List Int)->Int->Int->Int->(List Tm)->Option ((Int) ⊕ (Int×List Ent×List Int×List Int×List Ent×List xN))
 |0,_,_,_,_,_,_,_,_,_,_=>none
 |qq+1,p0,y3,v27,zR,zN,yE,v10,yL,yP,sK=>
 if yL==3 then
 zL sK 1>>=fun x17=>
 aW qq p0 y3 v27 zR zN yE (w64 (v10+1)) x17.k x17.n x17.sub
 else
 yR 8 zN [0]>>=fun l19=>
 yR 8 yE [v10]>>=fun l21=>
 kE qq p0 y3 (w64 (v27+1)) zR l19 l21
end
def e39(qq:Nat)(p0:List Ent):Option ((Int) ⊕ (Int×List Ent×List Int×List Int×List Ent×List xN)):=
 e68 qq p0>>=fun r1=>
 match r1 with
 |Sum.inl y7=>
  if y7 != 0 then
  some (Sum.inl y7)
  else
  none
 |Sum.inr y3=>
  if y3.1 != 0 then
  some (Sum.inl y3.1)
  else
  e51 qq p0>>=fun r5=>
  kE qq p0 y3 0 r5 [] []
theorem zAD:∀qq:Nat,(∀p0 y3 v27 zR zN yE,Lz (kE qq p0 y3 v27 zR zN yE) 0 Tryz.f39 (inn (inn (rgt (lft (rgt (rgt (rgt (rgt (bod Tryz.f39))))))))) (fun j=>sp j 81 0 [(6,.mp 0 0),(25,slv zI p0 .no),(26,ai (List.length p0:Int)),(27,ai v27)]) ⟨[(0,.cells [slv zI zR .no,.mp 1 0,slv zM zN (.st 0 1),slv zM yE (.st 1 1)]),(1,.cells [slv zI y3.2.1 .no,slv xX y3.2.2 .no])],2,[0,1],2,[]⟩ (Sum.elim (fun x=>.tup [.val (.pointer none),ai x]) (fun x=>.tup [.mp 0 0,ai x.1])) (Sum.elim (fun _=>[]) (fun x=>[.cells [slv zI x.2.1 .no,.mp 1 0,slv zM x.2.2.1 .no,slv zM x.2.2.2.1 .no],.cells [slv zI x.2.2.2.2.1 .no,slv xX x.2.2.2.2.2 .no]])) 0 [.blk 0,.seq (rgt (rgt (rgt (rgt (rgt (bod Tryz.f39))))))])∧(∀p0 y3 v27 zR zN yE v10 yL yP sK,Lz (aW qq p0 y3 v27 zR zN yE v10 yL yP sK) 0 Tryz.f39 (inn (inn (rgt (lft (rgt (rgt (rgt (inn (rgt (lft (rgt (rgt (inn (lft (rgt (rgt (inn (inn (rgt (lft (rgt (rgt (rgt (rgt (bod Tryz.f39))))))))))))))))))))))))) (fun j=>sp j 81 0 [(6,.mp 0 0),(9,ai 0),(10,ai v10),(11,.mp 1 0),(25,slv zI p0 .no),(26,ai (List.length p0:Int)),(27,ai v27)]) ⟨[(0,.cells [slv zI zR .no,.mp 2 0,slv zM zN (.st 0 1),slv zM yE (.st 1 1)]),(1,.cells [ai yL,ai yP,slv zA sK .no]),(2,.cells [slv zI y3.2.1 .no,slv xX y3.2.2 .no])],3,[0,1],2,[]⟩ (Sum.elim (fun x=>.tup [.val (.pointer none),ai x]) (fun x=>.tup [.mp 0 0,ai x.1])) (Sum.elim (fun _=>[]) (fun x=>[.cells [slv zI x.2.1 .no,.mp 1 0,slv zM x.2.2.1 .no,slv zM x.2.2.2.1 .no],.cells [slv zI x.2.2.2.2.1 .no,slv xX x.2.2.2.2.2 .no]])) 0 [.blk 3,.blk 2,.seq (rgt (rgt (rgt (inn (lft (rgt (rgt (inn (inn (rgt (lft (rgt (rgt (rgt (rgt (bod Tryz.f39)))))))))))))))),.blk 1,.seq (rgt (rgt (rgt (inn (inn (rgt (lft (rgt (rgt (rgt (rgt (bod Tryz.f39)))))))))))),.loop (inn (inn (rgt (lft (rgt (rgt (rgt (rgt (bod Tryz.f39))))))))),.blk 0,.seq (rgt (rgt (rgt (rgt (rgt (bod Tryz.f39))))))]):=yW ⟨fun _ _ _ _ _ _=>lN,fun _ _ _ _ _ _ _ _ _ _=>lN⟩ fun qq ih=>⟨fun p0 y3 v27 zR zN yE=>lw fun _=>rB 0 (rA 0 (yY (o:=.no)) fun _=>rB 3 (rW (fun h12=>oP 9 (nO h12 (by simp))) fun _=>rW (fun h14=>oP 2 (nO h14 (by simp))) fun _=>lH 3 [] [0,1] [2,3] [6,25,26,27] (ih.1 _ _ _ _ _ _))<|rB 0 (lH 2 [] [0,3,1] [0,1] [6,9,10,11,25,26,27] (ih.2 _ _ _ _ _ _ _ _ _ _))<|rW (fun h17=>oP 2 (nO h17 (by simp))) fun _=>rW (fun h19=>oP 2 (nO h19 (by simp))) fun _=>lH 3 [] [0,1] [2,3] [6,25,26,27] (ih.1 _ _ _ _ _ _))<|lF 0 [0,1],
 fun p0 y3 v27 zR zN yE v10 yL yP sK=>lw fun _=>rB 1 (rA 4 (yM (o:=.no)) fun _=>lH 2 [] [0,3,2] [0,1] [6,9,10,11,25,26,27] (ih.2 _ _ _ _ _ _ _ _ _ _))<|rW (fun h20=>oP 2 (nO h20 (by simp))) fun _=>rW (fun h22=>oP 2 (nO h22 (by simp))) fun _=>lH 3 [] [0,2] [2,3] [6,25,26,27] (ih.1 _ _ _ _ _ _)⟩
theorem c39{qq p0}:Cz (e39 qq p0) 39 [] [slv zI p0 .no] (Sum.elim (fun x=>.tup [.val (.pointer none),ai x]) (fun x=>.tup [.mp 0 0,ai x.1])) (Sum.elim (fun _=>[]) (fun x=>[.cells [slv zI x.2.1 .no,.mp 1 0,slv zM x.2.2.1 .no,slv zM x.2.2.2.1 .no],.cells [slv zI x.2.2.2.2.1 .no,slv xX x.2.2.2.2.2 .no]])) 0:=fw Tryz.func39<|rC 0 [] c68<|oR (fun _=>rB 2 (fE 0) rN) fun _=>rB 2 (fE 0)<|rC 0 [] c51 fun _=>fH 1 [(some 1,2,1),(some 1,3,1)] [1,0] [0,1] [6,25,26,27] (((zAD _).1) _ _ _ _ _ _)
theorem zLV{N:ByteArray->Bool}(l:List Ent)(hf:Evt (fun q=>e47 q l) true)(hE:vK N l)(he:∀e∈l,EOk e):Evt (fun q=>zFt q l) (.inr (evA l l.length 0,0)):=by
 simp only[zFt]
 have hl:=hE.1
 refine hf.bind (Evt.ifT rfl (Evt.pure (a:=List.replicate l.length default) ?_ ?_))
 ·unfold gmk;rw[if_pos (by omega)];rfl
 ·exact(zIK l (List.replicate l.length default) (by simp) hE he l.length 0 [] (by omega) rfl).eq (by simp)
def zFp(l:List Ent)(b:Bool):(Int) ⊕ (Int×List Ent×List xN):=if b=true then .inr (0,l,evA l l.length 0)else .inl 5
theorem zOK(N:ByteArray->Bool)(hN:gY N)(l:List Ent)(hl:l.length≤65535)(he:∀e∈l,EOk e)(hc:∀e∈l,ECl e):∃b,Evt (fun q=>e47 q l) b∧(b=true->vK N l)∧Evt (fun q=>e68 q l) (zFp l b):=by
 obtain⟨d,-,hd⟩:=aU N hN l hl he
 refine⟨_,hd,kD,?_⟩
 simp only[e68]
 refine(bE l hl he hc).bind (hd.bind ?_)
 unfold zFp
 by_cases h:gZ N d l=true
 ·rw[if_pos h]
  have hA:=kD h
  rw[mZ hA]
  refine Evt.ifT h ((zLV l (hd.eq h) hA he).bind ?_)
  exact Evt.ifF (by simp) Evt.ret
 ·rw[if_neg h]
  exact Evt.ifF (by simpa using h) Evt.ret
theorem zIL(t:Tm)(hg:xS t=true):uD t≤t.nodes:=by
 have key:∀(m:Nat) (t:Tm),t.nodes≤m->xS t=true->uD t≤t.nodes:=by
  intro m
  induction m with
  |zero=>intro t h;have:=xZ t;omega
  |succ m ih=>
   intro t hm hg
   by_cases k:t.k=3
   ·obtain⟨x,y,e,hx,hy⟩:=cU hg k
    rw[e]at hm ⊢
    rw[J0]
    rw[Tm.nodes,yN,yN,yN]at hm ⊢
    have:=xZ x
    have:=ih y (by omega) hy
    omega
   ·rw[zEO k];omega
 exact key t.nodes t (Nat.le_refl _) hg
def xR(e:Ent):Int:=if e.kind=1 then e.pars+2+e.cons.length+e.inds else 0
def uJ(e:Ent):Int:=if e.kind=2 then(uD e.type:Int)else 0
theorem zOL(l:List Ent)(y3:Int×List Ent×List xN)(v27:Int)(vb:List Ent)(a o:List Int)(r:(Int) ⊕ (Int×List Ent×List Int×List Int×List Ent×List xN))(ha:a.length≤65535)(ho:o.length≤65535)(tot:Int)(ht:tot≤4611686018427387904)
  (hk:Evt (fun q=>kE q l y3 (w64 (v27+1)) vb (a++[0]) (o++[tot])) r) :
  ∀(t:Tm) (v:Int),xS t=true->0≤v->v+uD t=tot->Evt (fun q=>aW q l y3 v27 vb a o v t.k t.n t.sub) r:=by
 have key:∀(m:Nat) (t:Tm) (v:Int),t.nodes≤m->xS t=true->0≤v->v+uD t=tot->Evt (fun q=>aW q l y3 v27 vb a o v t.k t.n t.sub) r:=by
  intro m
  induction m with
  |zero=>intro t v h;have:=xZ t;omega
  |succ m ih=>
   intro t v hm hg h0 hv
   refine Evt.succ ?_
   simp only[aW]
   by_cases k:t.k=3
   ·obtain⟨x,y,e,hx,hy⟩:=cU hg k
    rw[e]at hv hm ⊢
    rw[J0]at hv
    refine Evt.ifT (by simp[Tm.k]) (Evt.pure (a:=y) (by simp[zL,Tm.sub]) ?_)
    rw[zV (x:=v+1) (by omega) (by omega)]
    refine ih y (v+1) ?_ hy (by omega) (by omega)
    rw[Tm.nodes,yN,yN,yN]at hm
    have:=xZ x
    omega
   ·rw[zEO k]at hv
    refine Evt.ifF (by simp[k]) (Evt.pure (zZ (by simp<;>omega)) (Evt.pure (zZ (by simp<;>omega)) ?_))
    rw[show v=tot by omega];exact hk
 exact fun t v=>key t.nodes t v (Nat.le_refl _)
theorem bF{N:ByteArray->Bool}(l vb:List Ent)(y3:Int×List Ent×List xN)(hE:vK N l):∀(r:List Ent) (v:Nat) (a o:List Int),l.drop v=r->a.length≤v->o.length≤v ->
  Evt (fun q=>kE q l y3 (v:Int) vb a o) (.inr (0,vb,a++r.map xR,o++r.map uJ,y3.2.1,y3.2.2))
 | [],v,a,o,hd,ha,ho=>by
  refine Evt.succ ?_
  simp only[kE]
  exact Evt.ifF (zX hd) (Evt.ret.eq (by simp))
 |x::r,v,a,o,hd,ha,ho=>by
  have hlt:=yC hd
  have hl:=hE.1
  have hx:ent l v=x:=by
   have h1:=zS hd
   rw[yF (by omega) (by omega)]at h1
   exact Option.some.inj h1
  have hs:=xQ (hE.2 v (by omega) (by omega))
  rw[hx]at hs
  refine Evt.succ ?_
  simp only[kE]
  refine Evt.ifT (zW hd) (Evt.pure (zS hd) ?_)
  by_cases k1:x.kind=1
  ·have hf:=wI (hs.2.1 k1)
   rw[hx]at hf
   rw[zV (x:=x.pars+2) (by omega) (by omega),zV (x:=x.pars+2+x.cons.length) (by omega) (by omega),zV (x:=x.pars+2+x.cons.length+x.inds) (by omega) (by omega),zU v (by omega)]
   refine Evt.ifT (by simp[k1]) (Evt.pure (zZ (by simp<;>omega)) (Evt.pure (zZ (by simp<;>omega)) ?_))
   refine(bF l vb y3 hE r (v+1) _ _ (zQ hd) (by simp<;>omega) (by simp<;>omega)).eq ?_
   simp[xR,uJ,k1]
  ·refine Evt.ifF (by simp[k1]) ?_
   by_cases k2:x.kind=2
   ·refine Evt.ifT (by simp[k2]) ?_
    have hsh:=(zK (mG hs.1))
    have hp:uD x.type≤8192:=Nat.le_trans (zIL x.type hsh.2.2) hsh.1
    refine zOL l y3 v vb a o _ (by omega) (by omega) (uD x.type) (by omega) ?_ x.type 0 hsh.2.2 (by omega) (by omega)
    rw[zU v (by omega)]
    refine(bF l vb y3 hE r (v+1) _ _ (zQ hd) (by simp<;>omega) (by simp<;>omega)).eq ?_
    simp[xR,uJ,k2]
   ·refine Evt.ifF (by simp[k2]) (Evt.pure (zZ (by simp<;>omega)) (Evt.pure (zZ (by simp<;>omega)) ?_))
    rw[zU v (by omega)]
    refine(bF l vb y3 hE r (v+1) _ _ (zQ hd) (by simp<;>omega) (by simp<;>omega)).eq ?_
    simp[xR,uJ,k1,k2]
def xV(l:List Ent):xO:=xO.mk l l (evA l l.length 0) (l.map xR) (l.map uJ)
def zRI(l:List Ent)(b:Bool):(Int) ⊕ (Int×List Ent×List Int×List Int×List Ent×List xN):=if b=true then .inr (0,l,l.map xR,l.map uJ,l,evA l l.length 0)else .inl 5
theorem zOM(N:ByteArray->Bool)(hN:gY N)(l:List Ent)(hl:l.length≤65535)(he:∀e∈l,EOk e)(hc:∀e∈l,ECl e):∃b,Evt (fun q=>e47 q l) b∧(b=true->vK N l)∧Evt (fun q=>e39 q l) (zRI l b):=by
 obtain⟨b,h1,h2,h3⟩:=zOK N hN l hl he hc
 refine⟨b,h1,h2,?_⟩
 simp only[e39]
 refine h3.bind ?_
 unfold zFp zRI
 cases b with
 |false=>exact Evt.ifT (by decide) Evt.ret
 |true=>
  refine Evt.ifF (by simp) ((bE l hl he hc).bind ?_)
  rw[mZ (h2 rfl)]
  exact(bF l l _ (h2 rfl) l 0 [] [] rfl (by simp) (by simp)).eq (by simp)
theorem bG{t:Tm}{k c:Int}(h:(vE t k c).2=0):zG t=true∧0≤k∧0≤c∧zG (lfT t 0 c k)=true∧(vE t k c).1=lfT t 0 c k:=by
 unfold vE at h ⊢
 by_cases a:zG t=true∧eN k=true∧eN c=true
 ·rw[if_pos a]at h ⊢
  by_cases b:zG (lfT t 0 c k)=true
  ·rw[if_pos b]
   have a2:=a.2.1
   have a3:=a.2.2
   unfold eN at a2 a3
   simp only[Bool.and_eq_true,decide_eq_true_eq]at a2 a3
   exact⟨a.1,a2.1,a3.1,b,rfl⟩
  ·rw[if_neg b]at h;simp at h
 ·rw[if_neg a]at h;simp at h
theorem R8(t:Tm)(k c:Int):(vE t k c).2≠8:=by
 unfold vE
 split
 ·split<;>simp
 ·simp
mutual
def siT(ls:List Tm):Tm->Int->Tm
 | .mk kd n l,b=>if kd=1∧b≤n then(if h:(n-b).toNat<ls.length then lfT (ls[(n-b).toNat]) 0 0 b else .mk 1 (n-ls.length) [])else .mk kd n (siL ls l kd 0 b)
def siL(ls:List Tm):List Tm->Int->Nat->Int->List Tm
 | [],_,_,_=>[]
 |t::l,kd,i,b=>siT ls t (tO kd i b)::siL ls l kd (i+1) b
end
theorem zRJ{a:Tm}{b left:Int}{long:Bool}(h:(raT a b left long).2.2=false):long=false∧(raT a b left long).1=lfT a 0 0 b:=by
 unfold raT at h ⊢
 by_cases h1:left-szT a 0<0
 ·rw[if_pos h1]at h;simp at h
 ·rw[if_neg h1]at h ⊢
  by_cases h2:(vE a b 0).2≠0
  ·rw[if_pos h2]at h;simp at h
  ·rw[if_neg h2]at h ⊢
   exact⟨h,(bG (by simpa using h2)).2.2.2.2⟩
theorem zLW(ls:List Tm):∀(t:Tm) (b left:Int),(sbT ls t b left true).2.2=true
 | .mk kd n l,b,left=>by rw[sbT,if_pos rfl]
mutual
theorem zLX(ls:List Tm):∀(t:Tm) (b left:Int) (long:Bool),(sbT ls t b left long).2.2=false->long=false∧(sbT ls t b left long).1=siT ls t b
 | .mk kd n l,b,left,long,h=>by
  cases long with
  |true=>rw[zLW]at h;cases h
  |false=>
   refine⟨rfl,?_⟩
   rw[sbT,if_neg (by simp)]at h ⊢
   rw[siT]
   by_cases h1:kd=1∧b≤n
   ·rw[if_pos h1]at h
    rw[if_pos h1,if_pos h1]
    by_cases h2:(n-b).toNat<ls.length
    ·rw[dif_pos h2]at h
     rw[dif_pos h2,dif_pos h2]
     exact(zRJ h).2
    ·rw[dif_neg h2,dif_neg h2]
   ·rw[if_neg h1]at h
    rw[if_neg h1,if_neg h1]
    exact congrArg (Tm.mk kd n) (zLY ls l kd 0 b (left-1) (decide (left-1<0)) h).2
theorem zLY(ls:List Tm):∀(l:List Tm) (kd:Int) (i:Nat) (b left:Int) (long:Bool),(sbL ls l kd i b left long).2.2=false->long=false∧(sbL ls l kd i b left long).1=siL ls l kd i b
 | [],kd,i,b,left,long,h=>by
  rw[sbL]at h ⊢
  rw[siL]
  exact⟨h,rfl⟩
 |t::l,kd,i,b,left,long,h=>by
  rw[sbL]at h ⊢
  have k:=zLY ls l kd (i+1) b (sbT ls t (tO kd i b) left long).2.1 (sbT ls t (tO kd i b) left long).2.2 h
  have k2:=zLX ls t (tO kd i b) left long k.1
  refine⟨k2.1,?_⟩
  show (sbT ls t (tO kd i b) left long).1::(sbL ls l kd (i+1) b (sbT ls t (tO kd i b) left long).2.1 (sbT ls t (tO kd i b) left long).2.2).1=_
  rw[k2.2,k.2,siL]
end
theorem zON{t:Tm}{ls:List Tm}(h:(iA t ls).2=0):zG t=true∧ls.all zG=true∧zG (siT ls t 0)=true∧(iA t ls).1=siT ls t 0:=by
 unfold iA at h ⊢
 by_cases a:zG t=true∧ls.all zG=true
 ·rw[if_pos a]at h ⊢
  by_cases b:(sbT ls t 0 8192 false).2.2=true
  ·rw[if_pos b]at h;simp at h
  ·rw[if_neg b]at h ⊢
   have e:=(zLX ls t 0 8192 false (by simpa using b)).2
   rw[e]at h ⊢
   by_cases c:zG (siT ls t 0)=true
   ·rw[if_pos c];exact⟨a.1,a.2,c,rfl⟩
   ·rw[if_neg c]at h;simp at h
 ·rw[if_neg a]at h;simp at h
theorem zAE(t:Tm)(ls:List Tm):(iA t ls).2≠8:=by
 unfold iA
 split
 ·split
  ·simp
  ·split<;>simp
 ·simp
mutual
def zFo(P:Int->Int->Prop):Tm->Prop
 | .mk k n l=>(k=1∨P k n)∧D5 P l
def D5(P:Int->Int->Prop):List Tm->Prop
 | []=>True
 |t::l=>zFo P t∧D5 P l
end
section
variable {P:Int->Int->Prop}
theorem n6:∀ {l:List Tm},D5 P l ↔ ∀t∈l,zFo P t
 | []=>by rw[D5];simp
 |t::l=>by rw[D5,n6];simp
end
mutual
theorem zDr{a b:Int}{Q:Int->Prop}(ha:a≠1)(hb:b≠1):∀t:Tm,(∀x∈jR t a b,Q x)↔zFo (fun k n=>k=a∨k=b->Q n) t
 | .mk k n l=>by
  have ih:=n7 (Q:=Q) ha hb l
  rw[jR,zFo,←ih]
  constructor
  ·intro h
   refine⟨?_,fun x hx=>h x (List.mem_append_right _ hx)⟩
   by_cases h1:k=a∨k=b
   ·exact .inr fun _=>h n (by rw[if_pos h1];simp)
   ·exact .inr fun h2=>absurd h2 h1
  ·rintro ⟨h1,h2⟩ x hx
   rcases List.mem_append.1 hx with hx|hx
   ·by_cases h3:k=a∨k=b
    ·rw[if_pos h3,List.mem_singleton]at hx
     rcases h1 with h1|h1
     ·omega
     ·rw[hx];exact h1 h3
    ·rw[if_neg h3]at hx;cases hx
   ·exact h2 x hx
theorem n7{a b:Int}{Q:Int->Prop}(ha:a≠1)(hb:b≠1):∀l:List Tm,(∀x∈M9 l a b,Q x)↔D5 (fun k n=>k=a∨k=b->Q n) l
 | []=>by rw[M9,D5];simp
 |t::l=>by
  rw[M9,D5,←zDr ha hb t,←n7 ha hb l]
  constructor
  ·intro h
   exact⟨fun x hx=>h x (List.mem_append_left _ hx),fun x hx=>h x (List.mem_append_right _ hx)⟩
  ·rintro ⟨h1,h2⟩ x hx
   rcases List.mem_append.1 hx with hx|hx
   ·exact h1 x hx
   ·exact h2 x hx
end
def zIM(qq:Nat)(p0 p1:Tm):Option (Tm):=
 zCh qq 4 0 [p0,p1]>>=fun r1=>
 some r1
theorem zRK{qq p0 p1}:Cz (zIM qq p0 p1) 244 [] [tmA p0,tmA p1] (fun r=>tmA r) (fun _=>[]) 0:=fw Tryz.func244<|rS (oS 2 (yV xH [p0,p1]))<|rC 0 [] zEK fun _=>fE 1
def sQ:Nat->(List Tm)->Int->Int->Int->(List Tm)->Option (Tm×Int)
 |0,_,_,_,_,_=>none
 |qq+1,p0,v32,zR,yA,zN=>
 if decide (v32<(List.length p0:Int))then
 zL p0 (w64 ((w64 ((List.length p0:Int)-1))-v32))>>=fun x12=>
 zIM qq x12 (Tm.mk zR yA zN)>>=fun r14=>
 sQ qq p0 (w64 (v32+1)) r14.k r14.n r14.sub
 else
 tV qq (Tm.mk zR yA zN)>>=fun r16=>
 if r16 then
 e96 qq (Tm.mk zR yA zN)>>=fun r19=>
 some (r19,0)
 else
 some ((Tm.mk 0 0 []),2)
def sR:Nat->(List Tm)->Tm->Int->Option (Tm×Int)
 |0,_,_,_=>none
 |qq+1,p0,p1,v17=>
 if decide (v17<(List.length p0:Int))then
 zL p0 v17>>=fun x3=>
 tV qq x3>>=fun r5=>
 if r5 then
 sR qq p0 p1 (w64 (v17+1))
 else
 some ((Tm.mk 0 0 []),5)
 else
 tV qq p1>>=fun r8=>
 if r8 then
 sQ qq p0 0 p1.k p1.n p1.sub
 else
 some ((Tm.mk 0 0 []),5)
def R9(qq:Nat)(p0:List Tm)(p1:Tm):Option (Tm×Int):=
 if decide ((List.length p0:Int)>24)then
 some ((Tm.mk 0 0 []),2)
 else
 sR qq p0 p1 0
theorem zDq:∀qq:Nat,∀p0 v32 zR yA zN,Lz (sQ qq p0 v32 zR yA zN) 0 Tryz.f186 (inn (inn (rgt (lft (rgt (rgt (rgt (rgt (bod Tryz.f186))))))))) (fun j=>sp j 53 0 [(0,slv zA p0 .no),(2,.clo 244 [] []),(4,.mp 0 0),(6,.mp 1 0),(31,ai (List.length p0:Int)),(32,ai v32)]) ⟨[(0,.cells [ai zR,ai yA,slv zA zN .no]),(1,.cells [ai 0,ai 0,slv zA ([]:List Tm) .nl])],2,[],0,[]⟩ (fun r=>.tup [tmA r.1,ai r.2]) (fun _=>[]) 0 [.blk 2,.seq (rgt (rgt (rgt (rgt (rgt (bod Tryz.f186))))))]:=yW (fun _ _ _ _ _=>lN) fun qq ih=>fun p0 v32 zR yA zN=>lw fun _=>rB 0 (rA 3 (yM (o:=.no)) fun _=>rC 2 [] zRK fun _=>lH 2 [] [0,1] [] [0,2,4,6,31,32] (ih _ _ _ _ _))<|rK 1 [] sW (fun _=>rC 2 [] c96 fun _=>lE 1) fun _=>lE 2
theorem zDp:∀qq:Nat,∀p0 p1 v17,Lz (sR qq p0 p1 v17) 0 Tryz.f186 (inn (inn (rgt (lft (rgt (rgt (bod Tryz.f186))))))) (fun j=>sp j 53 0 [(0,slv zA p0 .no),(2,.clo 244 [] []),(4,.mp 0 0),(6,.mp 1 0),(15,slv zA p0 .no),(16,ai (List.length p0:Int)),(17,ai v17)]) ⟨[(0,.cells [ai p1.k,ai p1.n,slv zA p1.sub .no]),(1,.cells [ai 0,ai 0,slv zA ([]:List Tm) .nl])],2,[],0,[]⟩ (fun r=>.tup [tmA r.1,ai r.2]) (fun _=>[]) 0 [.blk 0,.seq (rgt (rgt (rgt (bod Tryz.f186))))]:=yW (fun _ _ _=>lN) fun qq ih=>fun p0 p1 v17=>lw fun _=>rB 0 (rA 0 (yM (o:=.no)) fun _=>rK 3 [] sW (fun _=>lH 2 [] [0,1] [] [0,2,4,6,15,16,17] (ih _ _ _)) fun _=>lE 2)<|rK 1 [] sW (fun _=>lH 2 [] [0,1] [] [0,2,4,6,31,32] (zDq _ _ _ _ _ _)) fun _=>lE 2
theorem zLZ{qq p0 p1}:Cz (R9 qq p0 p1) 186 [] [slv zA p0 .no,tmA p1,.clo 244 [] []] (fun r=>.tup [tmA r.1,ai r.2]) (fun _=>[]) 0:=fw Tryz.func186<|rB 1 (fE 1)<|fH 1 [] [0,1] [] [0,2,4,6,15,16,17] (zDp _ _ _ _)
def fB:Nat->(List Tm)->Int->Option (List Tm)
 |0,_,_=>none
 |qq+1,v3,v4=>
 if decide (v4≥0)then
 dL qq v4>>=fun r4=>
 yR 40 v3 [r4]>>=fun l6=>
 fB qq l6 (w64 (v4-1))
 else
 some v3
def X7(qq:Nat)(p0:Int):Option (List Tm):=
 if decide (p0<0)then
 some []
 else
 if decide (p0>1048576)then
 some []
 else
 fB qq [] (w64 (p0-1))
theorem zOO:∀qq:Nat,∀v3 v4,Lz (fB qq v3 v4) 0 Tryz.f190 (inn (inn (rgt (lft (rgt (rgt (rgt (bod Tryz.f190)))))))) (fun j=>sp j 23 0 [(3,slv zA v3 (.st 0 3)),(4,ai v4)]) ⟨[],0,[0],1,[]⟩ (fun r=>.sl (zD zA r) (List.length r) .no) (fun _=>[]) 0 [.blk 0,.seq (rgt (rgt (rgt (rgt (bod Tryz.f190)))))]:=yW (fun _ _=>lN) fun qq ih=>fun v3 v4=>lw fun _=>rB 0 (rC 0 [] jY fun r4=>rS (oS 0 (yV xH [r4]))<|rW (fun h7=>oP 0 (xU h7 (by simp))) fun _=>lH 1 [] [] [1] [3,4] (ih _ _))<|lE 0
theorem bH{qq p0}:Cz (X7 qq p0) 190 [] [ai p0] (fun r=>.sl (zD zA r) (List.length r) .no) (fun _=>[]) 0:=fw Tryz.func190<|rB 0 (fE 0)<|rB 0 (fE 0)<|fH 1 [(none,3,3)] [] [0] [3,4] (zOO _ _ _)
def zOP(qq:Nat)(q0_e:Int)(p1:List Tm)(p2:Int):Option (List Tm×Int):=
 if q0_e==0 then
 some (p1,p2)
 else
 some (p1,q0_e)
theorem zVC{qq q0_e p1 p2}:Cz (zOP qq q0_e p1 p2) 303 [.cells [ai q0_e]] [.mp 0 0,slv zA p1 .no,ai p2] (fun r=>.sl (zD zA r.1) (List.length r.1) .no) (fun r=>[.cells [ai r.2]]) 0:=fw Tryz.func303<|rB 1 (fE 1)<|fE 0
def fC:Nat->(List Tm)->Int->Int->Int->(List Tm)->Option (List Tm×Int)
 |0,_,_,_,_,_=>none
 |qq+1,p0,p1,p2,v15,v8=>
 if decide (v15<(List.length p0:Int))then
 zL p0 v15>>=fun x2=>
 zKN qq x2 p1 p2>>=fun r4=>
 if r4.2 != 0 then
 some ([],r4.2)
 else
 yR 40 v8 [r4.1]>>=fun l7=>
 fC qq p0 p1 p2 (w64 (v15+1)) l7
 else
 some (v8,0)
def zOQ(qq:Nat)(p0:List Tm)(p1 p2:Int):Option (List Tm×Int):=
 fC qq p0 p1 p2 0 []
theorem zOR:∀qq:Nat,∀p0 p1 p2 v15 v8,Lz (fC qq p0 p1 p2 v15 v8) 0 Tryz.f304 (inn (inn (rgt (lft (rgt (rgt (bod Tryz.f304))))))) (fun j=>sp j 35 0 [(1,ai p1),(2,ai p2),(8,slv zA v8 (.st 0 3)),(13,slv zA p0 .no),(14,ai (List.length p0:Int)),(15,ai v15)]) ⟨[],0,[0],1,[]⟩ (fun r=>.tup [.sl (zD zA r.1) (List.length r.1) .no,ai r.2]) (fun _=>[]) 0 [.blk 0,.seq (rgt (rgt (rgt (bod Tryz.f304))))]:=yW (fun _ _ _ _ _=>lN) fun qq ih=>fun p0 p1 p2 v15 v8=>lw fun _=>rB 0 (rA 0 (yM (o:=.no)) fun _=>rC 3 [] zTl fun r4=>rB 3 (lE 0)<|rS (oS 1 (yV xH [r4.1]))<|rW (fun h8=>oP 0 (xU h8 (by simp))) fun _=>lH 1 [] [] [1] [1,2,8,13,14,15] (ih _ _ _ _ _))<|lE 0
theorem zVD{qq p0 p1 p2}:Cz (zOQ qq p0 p1 p2) 304 [] [slv zA p0 .no,ai p1,ai p2] (fun r=>.tup [.sl (zD zA r.1) (List.length r.1) .no,ai r.2]) (fun _=>[]) 0:=fw Tryz.func304<|fH 1 [(none,8,3)] [] [0] [1,2,8,13,14,15] (zOR _ _ _ _ _ _)
def F3(qq:Nat)(q0_e:Int)(p1:List Tm)(p2:Int):Option (List Tm×Int):=
 zOQ qq p1 p2 0>>=fun r1=>
 zOP qq q0_e r1.1 r1.2>>=fun r3=>
 some (r3.1,r3.2)
theorem S0{qq q0_e p1 p2}:Cz (F3 qq q0_e p1 p2) 263 [.cells [ai q0_e]] [.mp 0 0,slv zA p1 .no,ai p2] (fun r=>.sl (zD zA r.1) (List.length r.1) .no) (fun r=>[.cells [ai r.2]]) 0:=fw Tryz.func263<|rC 0 [] zVD fun _=>rC 2 [0] zVC fun _=>fE 0
def S1(qq:Nat)(q0_e:Int)(p1:Tm)(p2:Int):Option (Tm×Int):=
 if q0_e==0 then
 some (p1,p2)
 else
 some (p1,q0_e)
theorem X8{qq q0_e p1 p2}:Cz (S1 qq q0_e p1 p2) 266 [.cells [ai q0_e]] [.mp 0 0,tmA p1,ai p2] (fun r=>tmA r.1) (fun r=>[.cells [ai r.2]]) 0:=fw Tryz.func266<|rB 1 (fE 3)<|fE 2
def fD:Nat->Tm->(List Tm×Int)->Int->(List Tm)->Option (Tm×Int)
 |0,_,_,_,_=>none
 |qq+1,p1,r6,v12,v9=>
 if decide (v12≥0)then
 zL r6.1 v12>>=fun x9=>
 yR 40 v9 [x9]>>=fun l11=>
 fD qq p1 r6 (w64 (v12-1)) l11
 else
 zKW qq p1 v9>>=fun r13=>
 S1 qq r6.2 r13.1 r13.2>>=fun r15=>
 some (r15.1,r15.2)
def fI:Nat->Int->Tm->Int->(List Tm)->Int->(List Tm)->Option (Tm×Int)
 |0,_,_,_,_,_,_=>none
 |qq+1,q0_e,p1,p2,p3,v14,v9=>
 if decide (v14<p2)then
 dL qq v14>>=fun r2=>
 yR 40 v9 [r2]>>=fun l4=>
 fI qq q0_e p1 p2 p3 (w64 (v14+1)) l4
 else
 F3 qq q0_e p3 p2>>=fun r6=>
 fD qq p1 r6 (w64 ((List.length r6.1:Int)-1)) v9
def zFn(qq:Nat)(q0_e:Int)(p1:Tm)(p2:Int)(p3:List Tm):Option (Tm×Int):=
 fI qq q0_e p1 p2 p3 0 []
theorem zOS:∀qq:Nat,∀p1 r6 v12 v9,Lz (fD qq p1 r6 v12 v9) 1 Tryz.f302 (inn (inn (rgt (lft (rgt (rgt (rgt (rgt (bod Tryz.f302))))))))) (fun j=>sp j 48 0 [(0,.mp 0 0),(5,.mp 1 0),(8,.mp 2 0),(9,slv zA v9 (.st 0 3)),(11,slv zA r6.1 .no),(12,ai v12)]) ⟨[(0,.cells [ai r6.2]),(1,.cells [ai p1.k,ai p1.n,slv zA p1.sub .no]),(2,.cells [ai 0,ai 0,slv zA ([]:List Tm) .nl])],3,[0],1,[]⟩ (fun r=>tmA r.1) (fun r=>[.cells [ai r.2]]) 0 [.blk 2,.seq (rgt (rgt (rgt (rgt (rgt (bod Tryz.f302))))))]:=yW (fun _ _ _ _=>lN) fun qq ih=>fun p1 r6 v12 v9=>lw fun _=>rB 0 (rA 0 (yM (o:=.no)) fun x9=>rS (oS 1 (yV xH [x9]))<|rW (fun h12=>oP 0 (xU h12 (by simp))) fun _=>lH 1 [] [0,1,2] [1] [0,5,8,9,11,12] (ih _ _ _ _))<|rC 1 [] zTk fun _=>rC 2 [0] X8 fun _=>lE 1
theorem zOT:∀qq:Nat,∀q0_e p1 p2 p3 v14 v9,Lz (fI qq q0_e p1 p2 p3 v14 v9) 1 Tryz.f302 (inn (inn (rgt (lft (rgt (rgt (bod Tryz.f302))))))) (fun j=>sp j 48 0 [(0,.mp 0 0),(2,ai p2),(3,slv zA p3 .no),(5,.mp 1 0),(8,.mp 2 0),(9,slv zA v9 (.st 0 3)),(13,ai p2),(14,ai v14)]) ⟨[(0,.cells [ai q0_e]),(1,.cells [ai p1.k,ai p1.n,slv zA p1.sub .no]),(2,.cells [ai 0,ai 0,slv zA ([]:List Tm) .nl])],3,[0],1,[]⟩ (fun r=>tmA r.1) (fun r=>[.cells [ai r.2]]) 0 [.blk 0,.seq (rgt (rgt (rgt (bod Tryz.f302))))]:=yW (fun _ _ _ _ _ _=>lN) fun qq ih=>fun q0_e p1 p2 p3 v14 v9=>lw fun _=>rB 0 (rC 0 [] jY fun r2=>rS (oS 0 (yV xH [r2]))<|rW (fun h5=>oP 0 (xU h5 (by simp))) fun _=>lH 1 [] [0,1,2] [1] [0,2,3,5,8,9,13,14] (ih _ _ _ _ _ _))<|rC 0 [0] S0 fun _=>lH 2 [] [0,1,2] [0] [0,5,8,9,11,12] (zOS _ _ _ _ _)
theorem zIN{qq q0_e p1 p2 p3}:Cz (zFn qq q0_e p1 p2 p3) 302 [.cells [ai q0_e]] [.mp 0 0,tmA p1,ai p2,slv zA p3 .no] (fun r=>tmA r.1) (fun r=>[.cells [ai r.2]]) 0:=fw Tryz.func302<|fH 0 [(none,9,3)] [0,1,2] [0] [0,2,3,5,8,9,13,14] (zOT _ _ _ _ _ _ _)
def fJ:Nat->(List Tm)->(List Tm)->Int->(List Tm)->Int->Option (List Tm×Int)
 |0,_,_,_,_,_=>none
 |qq+1,p1,p2,v12,v7,zR=>
 if decide (v12<(List.length p1:Int))then
 zL p1 v12>>=fun x2=>
 zFn qq zR x2 v12 p2>>=fun r4=>
 yR 40 v7 [r4.1]>>=fun l6=>
 fJ qq p1 p2 (w64 (v12+1)) l6 r4.2
 else
 some (v7,zR)
def zDo(qq:Nat)(q0_e:Int)(p1 p2:List Tm):Option (List Tm×Int):=
 fJ qq p1 p2 0 [] q0_e
theorem zOU:∀qq:Nat,∀p1 p2 v12 v7 zR,Lz (fJ qq p1 p2 v12 v7 zR) 1 Tryz.f264 (inn (inn (rgt (lft (rgt (rgt (bod Tryz.f264))))))) (fun j=>sp j 27 0 [(0,.mp 0 0),(2,slv zA p2 .no),(7,slv zA v7 (.st 0 3)),(10,slv zA p1 .no),(11,ai (List.length p1:Int)),(12,ai v12)]) ⟨[(0,.cells [ai zR])],1,[0],1,[]⟩ (fun r=>slv zA r.1 (.st 0 3)) (fun r=>[.cells [ai r.2]]) 1 [.blk 0,.seq (rgt (rgt (rgt (bod Tryz.f264))))]:=yW (fun _ _ _ _ _=>lN) fun qq ih=>fun p1 p2 v12 v7 zR=>lw fun _=>rB 0 (rA 0 (yM (o:=.no)) fun _=>rC 3 [0] zIN fun r4=>rS (oS 0 (yV xH [r4.1]))<|rW (fun h7=>oP 0 (xU h7 (by simp))) fun _=>lH 1 [] [0] [1] [0,2,7,10,11,12] (ih _ _ _ _ _))<|lG 0 [] [0] [0] true
theorem zIO{qq q0_e p1 p2}:Cz (zDo qq q0_e p1 p2) 264 [.cells [ai q0_e]] [.mp 0 0,slv zA p1 .no,slv zA p2 .no] (fun r=>slv zA r.1 (.st 0 3)) (fun r=>[.cells [ai r.2]]) 1:=fw Tryz.func264<|fH 1 [(none,7,3)] [0] [0] [0,2,7,10,11,12] (zOU _ _ _ _ _ _)
def zMz(qq:Nat)(q0_e:Int)(p1:Tm):Option (Tm×Int×Int):=
 if q0_e==0 then
 tV qq p1>>=fun r2=>
 if r2 then
 if q0_e != 0 then
 some ((Tm.mk 0 0 []),q0_e,q0_e)
 else
 some (p1,0,q0_e)
 else
 some ((Tm.mk 0 0 []),2,2)
 else
 if q0_e != 0 then
 some ((Tm.mk 0 0 []),q0_e,q0_e)
 else
 some (p1,0,q0_e)
theorem zRL{qq q0_e p1}:Cz (zMz qq q0_e p1) 265 [.cells [ai q0_e]] [.mp 0 0,tmA p1] (fun r=>.tup [tmA r.1,ai r.2.1]) (fun r=>[.cells [ai r.2.2]]) 0:=fw Tryz.func265<|rB 1 (rK 1 [] sW (fun _=>rB 2 (fE 2)<|fE 2) fun _=>fE 6)<|rB 1 (fE 2)<|fE 2
def zFm(qq:Nat)(p0:List Ent)(p1 p2:Int):Option (Bool):=
 if decide (p1≥0)then
 if decide (p1<(List.length p0:Int))then
 zL p0 p1>>=fun x3=>
 some (x3.kind==p2)
 else
 some false
 else
 some false
theorem zOV{qq p0 p1 p2}:Cz (zFm qq p0 p1 p2) 298 [] [slv zI p0 .no,ai p1,ai p2] (fun r=>ab r) (fun _=>[]) 0:=fw Tryz.func298<|rB 0 (rB 1 (rA 0 (yY (o:=.no)) fun _=>fE 2)<|fE 0)<|fE 0
def zIP(qq:Nat)(q0_e:Int)(p1:Tm)(p2:Int):Option (Tm×Int):=
 zCe qq p1 p2>>=fun r1=>
 S1 qq q0_e r1.1 r1.2>>=fun r3=>
 some (r3.1,r3.2)
theorem zFl{qq q0_e p1 p2}:Cz (zIP qq q0_e p1 p2) 301 [.cells [ai q0_e]] [.mp 0 0,tmA p1,ai p2] (fun r=>tmA r.1) (fun r=>[.cells [ai r.2]]) 0:=fw Tryz.func301<|rC 1 [] zKO fun _=>rC 2 [0] X8 fun _=>fE 1
def fK:Nat->(List Tm)->Int->Option (Bool)
 |0,_,_=>none
 |qq+1,p0,v7=>
 if decide (v7<(List.length p0:Int))then
 zL p0 v7>>=fun x2=>
 tV qq x2>>=fun r4=>
 if r4 then
 fK qq p0 (w64 (v7+1))
 else
 some false
 else
 some true
def zIQ(qq:Nat)(p0:List Tm):Option (Bool):=
 fK qq p0 0
theorem zOW:∀qq:Nat,∀p0 v7,Lz (fK qq p0 v7) 0 Tryz.f340 (inn (inn (rgt (lft (rgt (bod Tryz.f340)))))) (fun j=>sp j 15 0 [(5,slv zA p0 .no),(6,ai (List.length p0:Int)),(7,ai v7)]) ⟨[],0,[],0,[]⟩ (fun r=>ab r) (fun _=>[]) 0 [.blk 0,.seq (rgt (rgt (bod Tryz.f340)))]:=yW (fun _ _=>lN) fun qq ih=>fun p0 v7=>lw fun _=>rB 0 (rA 0 (yM (o:=.no)) fun _=>rK 3 [] sW (fun _=>lH 2 [] [] [] [5,6,7] (ih _ _)) fun _=>lE 1)<|lE 0
theorem zRM{qq p0}:Cz (zIQ qq p0) 340 [] [slv zA p0 .no] (fun r=>ab r) (fun _=>[]) 0:=fw Tryz.func340<|fH 1 [] [] [] [5,6,7] (zOW _ _ _)
def zOX(qq:Nat)(p0:List Tm)(p1:Tm):Option (Tm×Int):=
 R9 qq p0 p1>>=fun r1=>
 some (r1.1,r1.2)
theorem zVE{qq p0 p1}:Cz (zOX qq p0 p1) 349 [] [slv zA p0 .no,tmA p1] (fun r=>.tup [tmA r.1,ai r.2]) (fun _=>[]) 0:=fw Tryz.func349<|rC 1 [] zLZ fun _=>fE 3
def fL:Nat->(List Tm)->uS->Tm->Int->Int->Int->Int->(List Tm)->Option (Tm×Int)
 |0,_,_,_,_,_,_,_,_=>none
 |qq+1,p3,p4,p5,v29,zR,n8,n9,oZ=>
 if decide (v29<(List.length p4.at':Int))then
 zL p4.at' v29>>=fun x6=>
 zFn qq zR x6 (List.length p4.around:Int) p3>>=fun r8=>
 kY qq (Tm.mk n8 n9 oZ) r8.1>>=fun r10=>
 fL qq p3 p4 p5 (w64 (v29+1)) r8.2 r10.k r10.n r10.sub
 else
 zIP qq zR p5 (List.length p4.around:Int)>>=fun r12=>
 X7 qq (List.length p4.around:Int)>>=fun r14=>
 nI qq r12.1 r14>>=fun r16=>
 kY qq (Tm.mk n8 n9 oZ) r16>>=fun r18=>
 zDo qq r12.2 p4.around p3>>=fun r20=>
 zOX qq r20.1 r18>>=fun r22=>
 S1 qq r20.2 r22.1 r22.2>>=fun r24=>
 some (r24.1,r24.2)
def zOY(qq:Nat)(q0_e:Int)(p1:Tm)(p2 p3:List Tm)(p4:uS)(p5:Tm):Option (Tm×Int):=
 F3 qq q0_e p2 (List.length p4.around:Int)>>=fun r1=>
 nI qq p1 r1.1>>=fun r3=>
 fL qq p3 p4 p5 0 r1.2 r3.k r3.n r3.sub
theorem zOZ:∀qq:Nat,∀p3 p4 p5 v29 zR n8 n9 oZ,Lz (fL qq p3 p4 p5 v29 zR n8 n9 oZ) 1 Tryz.f341 (inn (inn (rgt (lft (rgt (rgt (rgt (bod Tryz.f341)))))))) (fun j=>sp j 61 0 [(0,.mp 0 0),(3,slv zA p3 .no),(10,.mp 1 0),(11,.mp 2 0),(12,.mp 3 0),(13,ai (List.length p4.around:Int)),(14,.mp 4 0),(27,slv zA p4.at' .no),(28,ai (List.length p4.at':Int)),(29,ai v29)]) ⟨[(0,.cells [ai zR]),(1,.cells [ab p4.is,slv zA p4.around .no,slv zA p4.at' .no]),(2,.cells [ai p5.k,ai p5.n,slv zA p5.sub .no]),(3,.cells [ai 0,ai 0,slv zA ([]:List Tm) .nl]),(4,.cells [ai n8,ai n9,slv zA oZ .no])],5,[],0,[]⟩ (fun r=>tmA r.1) (fun r=>[.cells [ai r.2]]) 0 [.blk 0,.seq (rgt (rgt (rgt (rgt (bod Tryz.f341)))))]:=yW (fun _ _ _ _ _ _ _ _=>lN) fun qq ih=>fun p3 p4 p5 v29 zR n8 n9 oZ=>lw fun _=>rB 0 (rA 0 (yM (o:=.no)) fun _=>rC 4 [0] zIN fun _=>rC 0 [] nH fun _=>lH 2 [] [0,1,2,3,4] [] [0,3,10,11,12,13,14,27,28,29] (ih _ _ _ _ _ _ _ _))<|rC 2 [0] zFl fun _=>rC 0 [] bH fun _=>rC 0 [] pV fun _=>rC 0 [] nH fun _=>rC 2 [0] zIO fun _=>rC 1 [] zVE fun _=>rC 2 [0] X8 fun _=>lE 1
theorem zPz{qq q0_e p1 p2 p3 p4 p5}:Cz (zOY qq q0_e p1 p2 p3 p4 p5) 341 [.cells [ai q0_e]] [.mp 0 0,tmA p1,slv zA p2 .no,slv zA p3 .no,zQQ p4,tmA p5] (fun r=>tmA r.1) (fun r=>[.cells [ai r.2]]) 0:=fw Tryz.func341<|rC 3 [0] S0 fun _=>rC 0 [] pV fun _=>fH 3 [] [0,2,3,4,5] [] [0,3,10,11,12,13,14,27,28,29] (zOZ _ _ _ _ _ _ _ _ _)
def OkA(l:List Tm):Prop:=∀x∈l,x.Ok
theorem OkA.nil:OkA []:=fun _ h=>nomatch h
theorem OkA.app{l m:List Tm}(h:OkA l)(k:OkA m):OkA (l++m):=fun x hx=>(List.mem_append.1 hx).elim (h x) (k x)
theorem OkA.one{t:Tm}(h:t.Ok):OkA [t]:=fun x hx=>by
 rw[List.mem_singleton.1 hx];exact h
theorem OkA.drop{l:List Tm}(h:OkA l)(n:Nat):OkA (l.drop n):=fun x hx=>h x (List.mem_of_mem_drop hx)
theorem OkA.take{l:List Tm}(h:OkA l)(n:Nat):OkA (l.take n):=fun x hx=>h x (List.mem_of_mem_take hx)
theorem OkA.at{l r:List Tm}{v:Nat}{x:Tm}(h:OkA l)(hd:l.drop v=x::r):x.Ok:=h x (by
 have:x∈l.drop v:=by rw[hd];simp
 exact List.mem_of_mem_drop this)
theorem zRN{k n:Int}{a:Tm}(h:a.Ok):(Tm.mk k n [a]).Ok:=by
 rw[Tm.Ok,OkL,OkL];exact⟨by simp,h,trivial⟩
theorem sB{k n:Int}{a b:Tm}(h:a.Ok)(i:b.Ok):(Tm.mk k n [a,b]).Ok:=by
 rw[Tm.Ok,OkL,OkL,OkL];exact⟨by simp,h,i,trivial⟩
theorem zAF{α:Type}{l:List α}{i:Int}(h0:0≤i)(h1:i<l.length):∃x,zL l i=some x∧x∈l:=by
 have:i.toNat<l.length:=by omega
 exact⟨l[i.toNat],by unfold zL;rw[if_pos h0,List.getElem?_eq_getElem this],List.getElem_mem this⟩
theorem fM{α:Type}{l:List α}{a b:Int}(h0:0≤a)(h1:a≤b)(h2:b≤l.length):gsl l a b=some ((l.drop a.toNat).take (b-a).toNat):=by
 unfold gsl;rw[if_pos ⟨h0,h1,h2⟩]
def MT(e:Int)(v:Tm)(x:Tm×Int):Prop:=x.1.Ok∧(e≠8->x.2≠8)∧(x.2=0->e=0∧x.1=v)
def ML(e:Int)(v:List Tm)(x:List Tm×Int):Prop:=OkA x.1∧(e≠8->x.2≠8)∧(x.2=0->e=0∧x.1=v)
def upI(k:Int)(l:List Tm):List Tm:=l.map fun t=>lfT t 0 0 k
theorem m3(p1 p2:Int):∀(r l acc:List Tm) (v:Nat),l.drop v=r->l.length≤1073741824->OkA l->OkA acc->acc.length+r.length≤l.length->Tot (fun q=>fC q l p1 p2 (v:Int) acc) (fun x=>ML 0 (acc++r.map fun t=>lfT t 0 p2 p1) x∧x.1.length≤l.length)
 | [],l,acc,v,hd,hl,ho,ha,hv=>by
  refine Tot.succ ?_
  simp only[fC]
  refine Tot.ite (fun h=>?_) fun _=>Tot.ret ⟨⟨ha,by simp,by simp⟩,by simpa using hv⟩
  rw[zX hd]at h;cases h
 |t::r,l,acc,v,hd,hl,ho,ha,hv=>by
  have hlt:=yC hd
  refine Tot.succ ?_
  simp only[fC]
  refine Tot.ite (fun _=>?_) fun h=>?_
  ·refine Tot.pure (zS hd) (Tot.bind (P:=fun r=>r=vE t p1 p2) ((zGJ t p1 p2 (ho.at hd)).tot rfl) fun r4 h4=>?_)
   subst h4
   refine Tot.ite (fun h=>?_) fun h=>?_
   ·have hne:(vE t p1 p2).2≠0:=by simpa using h
    exact Tot.ret ⟨⟨OkA.nil,fun _=>R8 t p1 p2,fun h0=>absurd h0 hne⟩,by simp⟩
   ·have he:(vE t p1 p2).2=0:=by simpa using h
    rw[List.length_cons]at hv
    refine Tot.pure (zZ (by simp<;>omega)) ?_
    rw[zU v (by omega)]
    refine(m3 p1 p2 r l _ (v+1) (zQ hd) hl ho (ha.app (OkA.one (jZ t p1 p2 (ho.at hd)))) (by simp<;>omega)).mono fun x hx=>?_
    rw[(bG he).2.2.2.2]at hx
    simpa using hx
  ·rw[zW hd]at h;cases h
theorem zMy(l:List Tm)(p1 p2:Int)(hl:l.length≤1073741824)(ho:OkA l):Tot (fun q=>zOQ q l p1 p2) (fun x=>ML 0 (l.map fun t=>lfT t 0 p2 p1) x∧x.1.length≤l.length):=by
 simp only[zOQ]
 exact m3 p1 p2 l l [] 0 rfl hl ho OkA.nil (by simp)
theorem J1(e:Int)(t:Tm)(p:Int):Tot (fun q=>S1 q e t p) (fun x=>x.1=t∧x.2=if e=0 then p else e):=by
 simp only[S1]
 refine Tot.ite (fun h=>Tot.ret ⟨rfl,?_⟩) fun h=>Tot.ret ⟨rfl,?_⟩
 ·rw[if_pos (by simpa using h)]
 ·rw[if_neg (by simpa using h)]
theorem zPy(e:Int)(t:List Tm)(p:Int):Tot (fun q=>zOP q e t p) (fun x=>x.1=t∧x.2=if e=0 then p else e):=by
 simp only[zOP]
 refine Tot.ite (fun h=>Tot.ret ⟨rfl,?_⟩) fun h=>Tot.ret ⟨rfl,?_⟩
 ·rw[if_pos (by simpa using h)]
 ·rw[if_neg (by simpa using h)]
theorem zFk{e:Int}{v:Tm}{r x:Tm×Int}(hr:MT 0 v r)(hx:x.1=r.1∧x.2=if e=0 then r.2 else e):MT e v x:=by
 obtain⟨h1,h2⟩:=hx
 refine⟨by rw[h1];exact hr.1,?_,?_⟩
 ·intro he
  rw[h2]
  split
  ·exact hr.2.1 (by decide)
  ·exact he
 ·intro he
  rw[h2]at he
  by_cases h:e=0
  ·rw[if_pos h]at he
   exact⟨h,by rw[h1];exact(hr.2.2 he).2⟩
  ·rw[if_neg h]at he;exact absurd he h
theorem zRO{e:Int}{v:List Tm}{r x:List Tm×Int}(hr:ML 0 v r)(hx:x.1=r.1∧x.2=if e=0 then r.2 else e):ML e v x:=by
 obtain⟨h1,h2⟩:=hx
 refine⟨by rw[h1];exact hr.1,?_,?_⟩
 ·intro he
  rw[h2]
  split
  ·exact hr.2.1 (by decide)
  ·exact he
 ·intro he
  rw[h2]at he
  by_cases h:e=0
  ·rw[if_pos h]at he
   exact⟨h,by rw[h1];exact(hr.2.2 he).2⟩
  ·rw[if_neg h]at he;exact absurd he h
theorem pY(e:Int)(l:List Tm)(p:Int)(hl:l.length≤1073741824)(ho:OkA l):Tot (fun q=>F3 q e l p) (fun x=>ML e (upI p l) x∧x.1.length≤l.length):=by
 simp only[F3]
 exact(zMy l p 0 hl ho).bind fun r h=>(zPy e r.1 r.2).bind fun r3 h3=>Tot.ret ⟨zRO h.1 h3,by rw[h3.1];exact h.2⟩
theorem zAG(t:Tm)(k c:Int)(h:t.Ok):MT 0 (lfT t 0 c k) (vE t k c):=⟨jZ t k c h,fun _=>R8 t k c,fun h=>⟨rfl,(bG h).2.2.2.2⟩⟩
theorem zRP(t:Tm)(ls:List Tm)(h:t.Ok)(ho:OkA ls):MT 0 (siT ls t 0) (iA t ls):=⟨zAf t ls h ho,fun _=>zAE t ls,fun h=>⟨rfl,(zON h).2.2.2⟩⟩
theorem zFj(e:Int)(t:Tm)(p:Int)(h:t.Ok):Tot (fun q=>zIP q e t p) (MT e (lfT t 0 0 p)):=by
 simp only[zIP]
 exact Tot.bind (P:=fun r=>r=vE t p 0) ((zCc t p h).tot rfl) fun r hr=>(J1 e r.1 r.2).bind fun r3 h3=>Tot.ret (by subst hr;exact zFk (zAG t p 0 h) h3)
def kZ:Nat->List Tm
 |0=>[]
 |m+1=>.mk 1 (m:Int) []::kZ m
def vuT:Nat->Nat->List Tm
 |0,_=>[]
 |m+1,v=>.mk 1 (v:Int) []::vuT m (v+1)
theorem qV:∀m,OkA (kZ m)
 |0=>OkA.nil
 |m+1=>fun x hx=>by
  rcases List.mem_cons.1 hx with rfl|hx
  ·exact yS _ _
  ·exact qV m x hx
theorem vS:∀m,(kZ m).length=m
 |0=>rfl
 |m+1=>congrArg (· + 1) (vS m)
theorem zDn:∀(m:Nat) (acc:List Tm),m+acc.length≤1048576->Evt (fun q=>fB q acc ((m:Int)-1)) (acc++kZ m)
 |0,acc,hm=>by
  refine Evt.succ ?_
  simp only[fB]
  exact Evt.ifF (decide_eq_false (by omega)) (Evt.ret.eq (by simp[kZ]))
 |m+1,acc,hm=>by
  refine Evt.succ ?_
  simp only[fB]
  refine Evt.ifT (decide_eq_true (by omega)) ((qL _).bind (Evt.pure (zZ (by simp<;>omega)) ?_))
  rw[zV (by omega) (by omega),show ((m+1:Nat):Int)-1-1=(m:Int)-1 by omega]
  refine(zDn m _ (by simp<;>omega)).eq ?_
  rw[kZ,show ((m+1:Nat):Int)-1=(m:Int) by omega];simp
theorem kF(n:Nat)(hn:n≤1048576):Evt (fun q=>X7 q (n:Int)) (kZ n):=by
 simp only[X7]
 refine Evt.ifF (decide_eq_false (by omega)) (Evt.ifF (decide_eq_false (by omega)) ?_)
 rw[zV (by omega) (by omega)]
 exact(zDn n [] (by simpa using hn)).eq (by simp)
def zPx(t:Tm)(own:Nat)(outer:List Tm):Tm:=siT (vuT own 0++(upI own outer).reverse) t 0
def S2(outer:List Tm):List Tm->Nat->List Tm
 | [],_=>[]
 |t::r,v=>zPx t v outer::S2 outer r (v+1)
theorem zDm(p1:Tm)(r6:List Tm×Int)(h1:p1.Ok)(h6:OkA r6.1):∀(m:Nat) (acc:List Tm),m≤r6.1.length->m+acc.length≤4294967296->OkA acc->Tot (fun q=>fD q p1 r6 ((m:Int)-1) acc) (MT r6.2 (siT (acc++(r6.1.take m).reverse) p1 0))
 |0,acc,hm,hl,ho=>by
  refine Tot.succ ?_
  simp only[fD]
  refine Tot.ite (fun h=>?_) fun _=>?_
  ·have:=of_decide_eq_true h
   omega
  ·refine Tot.bind (P:=fun r=>r=iA p1 acc) ((zGM p1 acc h1 ho (by omega)).tot rfl) fun r h=>(J1 _ r.1 r.2).bind fun x hx=>Tot.ret ?_
   subst h
   have:=zFk (zRP p1 acc h1 ho) hx
   simpa using this
 |m+1,acc,hm,hl,ho=>by
  refine Tot.succ ?_
  simp only[fD]
  refine Tot.ite (fun _=>?_) fun h=>?_
  ·have hlt:m<r6.1.length:=by omega
   have hx:zL r6.1 (((m+1:Nat):Int)-1)=some r6.1[m]:=by
    unfold zL
    rw[if_pos (by omega),show (((m+1:Nat):Int)-1).toNat=m by omega,List.getElem?_eq_getElem hlt]
   refine Tot.pure hx (Tot.pure (zZ (by simp<;>omega)) ?_)
   rw[zV (by omega) (by omega),show ((m+1:Nat):Int)-1-1=(m:Int)-1 by omega]
   refine(zDm p1 r6 h1 h6 m _ (by omega) (by simp<;>omega) (ho.app (OkA.one (h6 _ (List.getElem_mem hlt))))).mono fun x hx=>?_
   have e:r6.1.take (m+1)=r6.1.take m++[r6.1[m]]:=by rw[List.take_add_one,List.getElem?_eq_getElem hlt];rfl
   rw[e,List.reverse_append]
   simpa using hx
  ·have:=of_decide_eq_false h
   omega
theorem zMx(e:Int)(p1:Tm)(own:Nat)(p3:List Tm)(h1:p1.Ok)(h2:own≤1073741824)(h3:OkA p3)(hl:p3.length≤1073741824):∀(m v:Nat) (acc:List Tm),v+m=own->acc.length≤v->OkA acc->Tot (fun q=>fI q e p1 (own:Int) p3 (v:Int) acc) (MT e (siT (acc++vuT m v++(upI own p3).reverse) p1 0)):=by
 intro m
 induction m with
 |zero=>
  intro v acc hm ha ho
  refine Tot.succ ?_
  simp only[fI]
  refine Tot.ite (fun h=>?_) fun _=>(pY e p3 own hl h3).bind fun r6 h6=>?_
  ·have:=of_decide_eq_true h
   omega
  ·rw[zV (by omega) (by omega)]
   refine(zDm p1 r6 h1 h6.1.1 r6.1.length acc (Nat.le_refl _) (by omega) ho).mono fun x hx=>⟨hx.1,fun he=>hx.2.1 (h6.1.2.1 he),fun he=>?_⟩
   have k:=hx.2.2 he
   have k6:=h6.1.2.2 k.1
   refine⟨k6.1,?_⟩
   rw[k.2,List.take_length,k6.2,vuT];simp
 |succ m ih=>
  intro v acc hm ha ho
  refine Tot.succ ?_
  simp only[fI]
  refine Tot.ite (fun _=>?_) fun h=>?_
  ·refine Tot.bind (P:=fun r=>r=Tm.mk 1 (v:Int) []) ((qL v).tot rfl) fun r h=>Tot.pure (zZ (by simp<;>omega)) ?_
   subst h
   rw[zU v (by omega)]
   refine(ih (v+1) _ (by omega) (by simp<;>omega) (ho.app (OkA.one (yS _ _)))).mono fun x hx=>?_
   rw[vuT]
   simpa using hx
  ·have:=of_decide_eq_false h
   omega
theorem nU(e:Int)(p1:Tm)(own:Nat)(p3:List Tm)(h1:p1.Ok)(h2:own≤1073741824)(h3:OkA p3)(hl:p3.length≤1073741824):Tot (fun q=>zFn q e p1 (own:Int) p3) (MT e (zPx p1 own p3)):=by
 simp only[zFn]
 exact zMx e p1 own p3 h1 h2 h3 hl own 0 [] (by omega) (by simp) OkA.nil
theorem eR(p2:List Tm)(h2:OkA p2)(hl2:p2.length≤1073741824):∀(r l acc:List Tm) (v:Nat) (e:Int),l.drop v=r->l.length≤1073741824->OkA l->OkA acc->acc.length≤v->Tot (fun q=>fJ q l p2 (v:Int) acc e) (fun x=>OkA x.1∧x.1.length=acc.length+r.length∧(e≠8->x.2≠8)∧(x.2=0->e=0∧x.1=acc++S2 p2 r v))
 | [],l,acc,v,e,hd,hl,ho,ha,hv=>by
  refine Tot.succ ?_
  simp only[fJ]
  refine Tot.ite (fun h=>?_) fun _=>Tot.ret ⟨ha,by simp,id,fun h=>⟨h,by simp[S2]⟩⟩
  rw[zX hd]at h;cases h
 |t::r,l,acc,v,e,hd,hl,ho,ha,hv=>by
  have hlt:=yC hd
  refine Tot.succ ?_
  simp only[fJ]
  refine Tot.ite (fun _=>?_) fun h=>?_
  ·refine Tot.pure (zS hd) ((nU e t v p2 (ho.at hd) (by omega) h2 hl2).bind fun r4 h4=>?_)
   refine Tot.pure (zZ (by simp<;>omega)) ?_
   rw[zU v (by omega)]
   refine(eR p2 h2 hl2 r l _ (v+1) r4.2 (zQ hd) hl ho (ha.app (OkA.one h4.1)) (by simp<;>omega)).mono fun x hx=>?_
   obtain⟨a1,a2,a3,a4⟩:=hx
   refine⟨a1,by rw[a2];simp<;>omega,fun he=>a3 (h4.2.1 he),fun he=>?_⟩
   have k:=a4 he
   have k4:=h4.2.2 k.1
   refine⟨k4.1,?_⟩
   rw[k.2,k4.2,S2];simp
  ·rw[zW hd]at h;cases h
theorem rR(e:Int)(l p2:List Tm)(h2:OkA p2)(hl2:p2.length≤1073741824)(hl:l.length≤1073741824)(ho:OkA l):Tot (fun q=>zDo q e l p2) (fun x=>ML e (S2 p2 l 0) x∧x.1.length=l.length):=by
 simp only[zDo]
 refine(eR p2 h2 hl2 l l [] 0 e rfl hl ho OkA.nil (by simp)).mono fun x hx=>?_
 obtain⟨a1,a2,a3,a4⟩:=hx
 exact⟨⟨a1,a3,fun he=>by simpa using a4 he⟩,by simpa using a2⟩
def zDl(l:List Tm)(t:Tm):Tm:=l.foldr (fun a x=>.mk 4 0 [a,x]) t
theorem zMw(l:List Tm)(hl:l.length≤24)(ho:OkA l):∀(m v:Nat) (t:Tm),v+m=l.length->t.Ok->Tot (fun q=>sQ q l (v:Int) t.k t.n t.sub) (MT 0 (zDl (l.take m) t)):=by
 intro m
 induction m with
 |zero=>
  intro v t hm ht
  refine Tot.succ ?_
  simp only[sQ,uI]
  refine Tot.ite (fun h=>?_) fun _=>?_
  ·have:=of_decide_eq_true h
   omega
  ·refine Tot.bind (P:=fun b=>b=zG t) ((xB t ht).tot rfl) fun r hr=>Tot.ite (fun h=>?_) fun _=>Tot.ret ⟨yS 0 0,by simp,by simp⟩
   refine Tot.bind (P:=fun x=>x=mT t) ((pW t ht).tot rfl) fun x hx=>Tot.ret ?_
   subst hx
   have e:mT t=t:=by unfold mT;rw[if_pos (by rw[←hr];exact h)]
   rw[e]
   exact⟨ht,by simp,fun _=>⟨rfl,by simp[zDl]⟩⟩
 |succ m ih=>
  intro v t hm ht
  refine Tot.succ ?_
  simp only[sQ,uI]
  refine Tot.ite (fun _=>?_) fun h=>?_
  ·have hlt:m<l.length:=by omega
   rw[zV (x:=(l.length:Int)-1) (by omega) (by omega),zV (x:=(l.length:Int)-1-v) (by omega) (by omega)]
   have hx:zL l ((l.length:Int)-1-v)=some l[m]:=by
    unfold zL
    rw[if_pos (by omega),show ((l.length:Int)-1-v).toNat=m by omega,List.getElem?_eq_getElem hlt]
   refine Tot.pure hx (Tot.bind (P:=fun r=>r=Tm.mk 4 0 [l[m],t]) (Evt.tot (Evt.mk fun _=>rfl) rfl) fun r hr=>?_)
   subst hr
   rw[zU v (by omega)]
   refine(ih (v+1) _ (by omega) (sB (ho _ (List.getElem_mem hlt)) ht)).mono fun x hx=>?_
   have e:l.take (m+1)=l.take m++[l[m]]:=by rw[List.take_add_one,List.getElem?_eq_getElem hlt];rfl
   rw[e]
   unfold zDl at hx ⊢
   rw[List.foldr_append]
   exact hx
  ·have:=of_decide_eq_false h
   omega
theorem zGY(t:Tm)(ht:t.Ok):∀(r l:List Tm) (v:Nat),l.drop v=r->l.length≤24->OkA l->Tot (fun q=>sR q l t (v:Int)) (MT 0 (zDl l t))
 | [],l,v,hd,hl,ho=>by
  refine Tot.succ ?_
  simp only[sR]
  refine Tot.ite (fun h=>?_) fun _=>?_
  ·rw[zX hd]at h;cases h
  ·refine Tot.bind (P:=fun _=>True) ((xB t ht).tot trivial) fun r _=>Tot.ite (fun _=>?_) fun _=>Tot.ret ⟨yS 0 0,by simp,by simp⟩
   have:=zMw l hl ho l.length 0 t (by omega) ht
   rwa[List.take_length]at this
 |x::r,l,v,hd,hl,ho=>by
  have hlt:=yC hd
  refine Tot.succ ?_
  simp only[sR]
  refine Tot.ite (fun _=>?_) fun h=>?_
  ·refine Tot.pure (zS hd) (Tot.bind (P:=fun _=>True) ((xB x (ho.at hd)).tot trivial) fun _ _=>Tot.ite (fun _=>?_) fun _=>Tot.ret ⟨yS 0 0,by simp,by simp⟩)
   rw[zU v (by omega)]
   exact zGY t ht r l (v+1) (zQ hd) hl ho
  ·rw[zW hd]at h;cases h
theorem zMv(l:List Tm)(t:Tm)(ho:OkA l)(ht:t.Ok):Tot (fun q=>zOX q l t) (MT 0 (zDl l t)):=by
 simp only[zOX]
 refine Tot.bind (P:=MT 0 (zDl l t)) ?_ fun x hx=>Tot.ret hx
 simp only[R9]
 refine Tot.ite (fun _=>Tot.ret ⟨yS 0 0,by simp,by simp⟩) fun h=>?_
 have:=of_decide_eq_false h
 exact zGY t ht l l 0 rfl (by omega) ho
def bI(r:uS):Prop:=OkA r.around∧OkA r.at'∧r.around.length≤1048576∧r.at'.length≤1048576
def zTX(head:Tm)(args outer:List Tm)(r:uS)(a:Tm):Tm:=
 zDl (S2 outer r.around 0) (.mk 5 0 [apT (apT head (upI r.around.length args)) (r.at'.map fun t=>zPx t r.around.length outer),apT (lfT a 0 0 r.around.length) (kZ r.around.length)])
theorem zDk(p3:List Tm)(p4:uS)(p5:Tm)(h3:OkA p3)(hl3:p3.length≤1073741824)(h4:bI p4)(h5:p5.Ok):∀(r:List Tm) (v:Nat) (e:Int) (t:Tm),p4.at'.drop v=r->t.Ok->Tot (fun q=>fL q p3 p4 p5 (v:Int) e t.k t.n t.sub)
  (MT e (zDl (S2 p3 p4.around 0) (.mk 5 0 [apT t (r.map fun t=>zPx t p4.around.length p3),apT (lfT p5 0 0 p4.around.length) (kZ p4.around.length)])))
 | [],v,e,t,hd,ht=>by
  refine Tot.succ ?_
  simp only[fL,uI]
  refine Tot.ite (fun h=>?_) fun _=>?_
  ·rw[zX hd]at h;cases h
  ·have:=h4.2.2.1
   refine(zFj e p5 _ h5).bind fun r12 h12=>Tot.bind (P:=fun x=>x=kZ p4.around.length) ((kF _ this).tot rfl) fun r14 h14=>?_
   subst h14
   refine Tot.bind (P:=fun x=>x=apT r12.1 (kZ p4.around.length)) ((vA r12.1 _ (by rw[vS];omega)).tot rfl) fun r16 h16=>?_
   subst h16
   refine Tot.bind (P:=fun x=>x=Tm.mk 5 0 [t,apT r12.1 (kZ p4.around.length)]) ((pM t _).tot rfl) fun r18 h18=>?_
   subst h18
   refine(rR r12.2 p4.around p3 h3 hl3 (by omega) h4.1).bind fun r20 h20=>(zMv r20.1 _ h20.1.1 (sB ht (uQ _ _ h12.1 (qV _)))).bind fun r22 h22=>(J1 r20.2 r22.1 r22.2).bind fun r24 h24=>Tot.ret ?_
   have m:=zFk h22 h24
   refine⟨m.1,fun he=>m.2.1 (h20.1.2.1 (h12.2.1 he)),fun he=>?_⟩
   have k:=m.2.2 he
   have k20:=h20.1.2.2 k.1
   have k12:=h12.2.2 k20.1
   refine⟨k12.1,?_⟩
   rw[k.2,k20.2,k12.2];rfl
 |x::r,v,e,t,hd,ht=>by
  have hlt:=yC hd
  have:=h4.2.2.1
  have:=h4.2.2.2
  refine Tot.succ ?_
  simp only[fL,uI]
  refine Tot.ite (fun _=>?_) fun h=>?_
  ·refine Tot.pure (zS hd) ((nU e x _ p3 (h4.2.1.at hd) (by omega) h3 hl3).bind fun r8 h8=>?_)
   refine Tot.bind (P:=fun x=>x=Tm.mk 5 0 [t,r8.1]) ((pM t r8.1).tot rfl) fun r10 h10=>?_
   subst h10
   rw[zU v (by omega)]
   refine(zDk p3 p4 p5 h3 hl3 h4 h5 r (v+1) r8.2 (.mk 5 0 [t,r8.1]) (zQ hd) (sB ht h8.1)).mono fun y hy=>⟨hy.1,fun he=>hy.2.1 (h8.2.1 he),fun he=>?_⟩
   have k:=hy.2.2 he
   have k8:=h8.2.2 k.1
   refine⟨k8.1,?_⟩
   rw[k.2,k8.2,List.map_cons,apT]
  ·rw[zW hd]at h;cases h
theorem S3(e:Int)(p1:Tm)(p2 p3:List Tm)(p4:uS)(p5:Tm)(h1:p1.Ok)(h2:OkA p2)(hl2:p2.length≤1073741824)(h3:OkA p3)(hl3:p3.length≤1073741824)(h4:bI p4)(h5:p5.Ok):Tot (fun q=>zOY q e p1 p2 p3 p4 p5) (MT e (zTX p1 p2 p3 p4 p5)):=by
 simp only[zOY]
 refine(pY e p2 _ hl2 h2).bind fun r1 hr1=>?_
 refine Tot.bind (P:=fun x=>x=apT p1 r1.1) ((vA p1 r1.1 (by omega)).tot rfl) fun r3 hr3=>?_
 subst hr3
 refine(zDk p3 p4 p5 h3 hl3 h4 h5 p4.at' 0 r1.2 (apT p1 r1.1) rfl (uQ _ _ h1 hr1.1.1)).mono fun y hy=>⟨hy.1,fun he=>hy.2.1 (hr1.1.2.1 he),fun he=>?_⟩
 have k:=hy.2.2 he
 have k1:=hr1.1.2.2 k.1
 refine⟨k1.1,?_⟩
 rw[k.2,k1.2];rfl
theorem zDj(e:Int)(t:Tm)(h:t.Ok):Tot (fun q=>zMz q e t) (fun x=>x.1.Ok∧(e≠8->x.2.1≠8)∧(x.2.1=0->e=0∧x.1=t∧zG t=true)):=by
 simp only[zMz]
 refine Tot.ite (fun he=>?_) fun he=>?_
 ·have he':e=0:=by simpa using he
  refine Tot.bind (P:=fun b=>b=zG t) ((xB t h).tot rfl) fun b hb=>Tot.ite (fun hs=>?_) fun _=>Tot.ret ⟨yS 0 0,by simp,by simp⟩
  refine Tot.ite (fun h2=>absurd he' (by simpa using h2)) fun _=>Tot.ret ⟨h,by simp,fun _=>⟨he',rfl,by rw[←hb];exact hs⟩⟩
 ·have he':e≠0:=by simpa using he
  exact Tot.ite (fun _=>Tot.ret ⟨yS 0 0,id,fun h0=>absurd h0 he'⟩) fun h2=>absurd (by simpa using h2) he'
theorem zAH(l:List Ent)(n kind:Int):Evt (fun q=>zFm q l n kind) (isT l n kind):=by
 simp only[zFm]
 unfold isT
 by_cases h:0≤n
 ·refine Evt.ifT (decide_eq_true h) ?_
  by_cases k:n<l.length
  ·exact Evt.ifT (decide_eq_true k) (Evt.pure (yF h k) (Evt.ret.eq (by simp[h,k])))
  ·exact Evt.ifF (decide_eq_false k) (Evt.ret.eq (by simp[k]))
 ·exact Evt.ifF (decide_eq_false h) (Evt.ret.eq (by simp[h]))
theorem D6:∀(r l:List Tm) (v:Nat),l.drop v=r->l.length≤1073741824->OkA l->Evt (fun q=>fK q l (v:Int)) (r.all zG)
 | [],l,v,hd,hl,ho=>by
  refine Evt.succ ?_
  simp only[fK]
  exact Evt.ifF (zX hd) Evt.ret
 |x::r,l,v,hd,hl,ho=>by
  have hlt:=yC hd
  refine Evt.succ ?_
  simp only[fK]
  refine Evt.ifT (zW hd) (Evt.pure (zS hd) ((xB x (ho.at hd)).bind ?_))
  by_cases h:zG x=true
  ·refine Evt.ifT h ?_
   rw[zU v (by omega)]
   exact(D6 r l (v+1) (zQ hd) hl ho).eq (by simp[h])
  ·exact Evt.ifF (by simpa using h) (Evt.ret.eq (by simp[h]))
theorem dO(l:List Tm)(hl:l.length≤1073741824)(ho:OkA l):Evt (fun q=>zIQ q l) (l.all zG):=by
 simp only[zIQ]
 exact D6 l l 0 rfl hl ho
def zFi(qq:Nat)(rl:List Ent)(parts:List xN)(p1:Int)(p2:List Tm):Option (Tm×Int):=
 zFm qq rl p1 4>>=fun r1=>
 if r1 then
 zL rl p1>>=fun x4=>
 zL rl x4.fam>>=fun x6=>
 if (List.length p2:Int) != (List.length x6.fields:Int)then
 some ((Tm.mk 0 0 []),5)
 else
 zIQ qq p2>>=fun r9=>
 if r9 then
 zL p2 x4.place>>=fun x12=>
 some (x12,0)
 else
 some ((Tm.mk 0 0 []),5)
 else
 some ((Tm.mk 0 0 []),16)
theorem zVF{qq rl parts p1 p2}:Cz (zFi qq rl parts p1 p2) 325 [.cells [slv zI rl .no,slv xX parts .no]] [.mp 0 0,ai p1,slv zA p2 .no] (fun r=>.tup [tmA r.1,ai r.2]) (fun _=>[.cells [slv zI rl .no,slv xX parts .no]]) 0:=fw Tryz.func325<|rK 2 [] zOV (fun _=>rH fun _ h5=>rS (oA 2 (yY (o:=.no) h5))<|rA 1 (yY (o:=.no)) fun _=>rB 2 (fE 1)<|rK 0 [] zRM (fun _=>rS (oA 1 (yY (o:=.no) h5))<|rA 1 (yM (o:=.no)) fun _=>fE 2) fun _=>fE 2) fun _=>fE 2
def zTY(qq:Nat)(p0 p1:Int):Option (Tm):=
 P2 qq p1>>=fun r1=>
 zCh qq 7 p0 [r1]>>=fun r3=>
 some r3
theorem zPw{qq p0 p1}:Cz (zTY qq p0 p1) 342 [] [ai p0,ai p1] (fun r=>tmA r) (fun _=>[]) 0:=fw Tryz.func342<|rC 0 [] zCf fun r1=>rS (oS 0 (yV xH [r1]))<|rC 0 [] zEK fun _=>fE 1
def kG:Nat->(List Ent)->(List xN)->Int->Int->(List Tm)->(List Tm)->xN->Int->Int->Int->Int->(List Tm)->Option (Tm×Int)
 |0,_,_,_,_,_,_,_,_,_,_,_,_=>none
 |qq+1,rl,parts,p1,p2,p4,p5,x12,v120,xA,wJ,wK,tB=>
 if decide (v120<(List.length x12.recs:Int))then
 zL x12.recs v120>>=fun x29=>
 if x29.is then
 zL rl p1>>=fun x32=>
 gsl p4 0 x32.pars>>=fun x34=>
 yR 40 ([]:List Tm) x34>>=fun l36=>
 gsl p5 0 v120>>=fun x39=>
 yR 40 l36 x39>>=fun l41=>
 zTY qq p1 p2>>=fun r44=>
 zL p5 v120>>=fun x46=>
 zOY qq xA r44 p4 l41 x29 x46>>=fun r48=>
 kY qq (Tm.mk wJ wK tB) r48.1>>=fun r50=>
 kG qq rl parts p1 p2 p4 p5 x12 (w64 (v120+1)) r48.2 r50.k r50.n r50.sub
 else
 kG qq rl parts p1 p2 p4 p5 x12 (w64 (v120+1)) xA wJ wK tB
 else
 zMz qq xA (Tm.mk wJ wK tB)>>=fun r52=>
 some (r52.1,r52.2.1)
def zFh(qq:Nat)(rl:List Ent)(parts:List xN)(p1 p2 p3:Int)(p4 p5:List Tm):Option (Tm×Int):=
 zFm qq rl p1 1>>=fun r1=>
 if r1 then
 if decide (p2<0)then
 some ((Tm.mk 0 0 []),16)
 else
 if decide (p2>7)then
 some ((Tm.mk 0 0 []),16)
 else
 zFm qq rl p3 2>>=fun r6=>
 if r6 then
 zL rl p3>>=fun x9=>
 if x9.fam != p1 then
 some ((Tm.mk 0 0 []),16)
 else
 zL parts p3>>=fun x12=>
 zL rl p1>>=fun x14=>
 if (List.length p4:Int) != (w64 ((w64 (x14.pars+1))+(List.length x14.cons:Int)))then
 some ((Tm.mk 0 0 []),5)
 else
 if (List.length p5:Int) != (List.length x12.args:Int)then
 some ((Tm.mk 0 0 []),5)
 else
 zIQ qq p4>>=fun r18=>
 if r18 then
 zIQ qq p5>>=fun r21=>
 if r21 then
 zL p4 (w64 ((w64 (x14.pars+1))+x9.place))>>=fun x24=>
 nI qq x24 p5>>=fun r26=>
 kG qq rl parts p1 p2 p4 p5 x12 0 0 r26.k r26.n r26.sub
 else
 some ((Tm.mk 0 0 []),5)
 else
 some ((Tm.mk 0 0 []),5)
 else
 some ((Tm.mk 0 0 []),16)
 else
 some ((Tm.mk 0 0 []),16)
theorem zPv:∀qq:Nat,∀rl parts p1 p2 p4 p5 x12 v120 xA wJ wK tB,Lz (kG qq rl parts p1 p2 p4 p5 x12 v120 xA wJ wK tB) 1 Tryz.f326 (inn (inn (rgt (lft (rgt (rgt (rgt (rgt (rgt (rgt (rgt (rgt (bod Tryz.f326))))))))))))) (fun j=>sp j 160 0 [(1,ai p1),(2,ai p2),(4,slv zA p4 .no),(5,slv zA p5 .no),(12,.mp 1 0),(14,slv zI rl .no),(16,.mp 2 0),(17,.mp 3 0),(118,slv kX x12.recs .no),(119,ai (List.length x12.recs:Int)),(120,ai v120)]) ⟨[(0,.cells [slv zI rl .no,slv xX parts .no]),(1,.cells [ai 0,ai 0,slv zA ([]:List Tm) .nl]),(2,.cells [ai xA]),(3,.cells [ai wJ,ai wK,slv zA tB .no])],4,[],0,[]⟩ (fun r=>.tup [tmA r.1,ai r.2]) (fun _=>[.cells [slv zI rl .no,slv xX parts .no]]) 0 [.blk 0,.seq (rgt (rgt (rgt (rgt (rgt (rgt (rgt (rgt (rgt (bod Tryz.f326))))))))))]:=yW (fun _ _ _ _ _ _ _ _ _ _ _ _=>lN) fun qq ih=>fun rl parts p1 p2 p4 p5 x12 v120 xA wJ wK tB=>lw fun _=>rB 0 (rA 0 (zQc (o:=.no)) fun _=>rB 2 (rA 1 (yY (o:=.no)) fun _=>rA 1 tR fun x34=>rH fun _ h37=>rZ (List.length x34=0) (fun h38=>rS (oP 0 (sJ h37 h38))<|rA 0 tR fun x39=>rH fun _ h42=>rZ (List.length x39=0) (fun h43=>rS (oP 0 (sJ h42 h43))<|rC 1 [] zPw fun _=>rA 1 (yM (o:=.no)) fun _=>rC 1 [2] zPz fun _=>rC 0 [] nH fun _=>lH 2 [] [0,1,2,3] [] [1,2,4,5,12,14,16,17,118,119,120] (ih _ _ _ _ _ _ _ _ _ _ _ _)) fun h43=>rS (oP 0 (xU h42 h43))<|rC 1 [] zPw fun _=>rA 1 (yM (o:=.no)) fun _=>rC 1 [2] zPz fun _=>rC 0 [] nH fun _=>lH 2 [] [0,1,2,3] [] [1,2,4,5,12,14,16,17,118,119,120] (ih _ _ _ _ _ _ _ _ _ _ _ _)) fun h38=>rS (oP 0 (xU h37 h38))<|rA 0 tR fun x39=>rH fun _ h42=>rZ (List.length x39=0) (fun h43=>rS (oP 0 (sJ h42 h43))<|rC 1 [] zPw fun _=>rA 1 (yM (o:=.no)) fun _=>rC 1 [2] zPz fun _=>rC 0 [] nH fun _=>lH 2 [] [0,1,2,3] [] [1,2,4,5,12,14,16,17,118,119,120] (ih _ _ _ _ _ _ _ _ _ _ _ _)) fun h43=>rS (oP 0 (xU h42 h43))<|rC 1 [] zPw fun _=>rA 1 (yM (o:=.no)) fun _=>rC 1 [2] zPz fun _=>rC 0 [] nH fun _=>lH 2 [] [0,1,2,3] [] [1,2,4,5,12,14,16,17,118,119,120] (ih _ _ _ _ _ _ _ _ _ _ _ _))<|lH 1 [] [0,1,2,3] [] [1,2,4,5,12,14,16,17,118,119,120] (ih _ _ _ _ _ _ _ _ _ _ _ _))<|rC 1 [2] zRL fun _=>lE 3
theorem zVG{qq rl parts p1 p2 p3 p4 p5}:Cz (zFh qq rl parts p1 p2 p3 p4 p5) 326 [.cells [slv zI rl .no,slv xX parts .no]] [.mp 0 0,ai p1,ai p2,ai p3,slv zA p4 .no,slv zA p5 .no] (fun r=>.tup [tmA r.1,ai r.2]) (fun _=>[.cells [slv zI rl .no,slv xX parts .no]]) 0:=fw Tryz.func326<|rK 2 [] zOV (fun _=>rB 1 (fE 1)<|rB 0 (fE 1)<|rK 0 [] zOV (fun _=>rH fun _ h10=>rS (oA 1 (yY (o:=.no) h10))<|rB 1 (fE 1)<|rA 1 (zTy (o:=.no)) fun _=>rH fun _ h15=>rS (oA 3 (yY (o:=.no) h15))<|rS (oA 2 (yY (o:=.no) h15))<|rB 3 (fE 1)<|rB 3 (fE 1)<|rK 0 [] zRM (fun _=>rK 1 [] zRM (fun _=>rS (oA 1 (yY (o:=.no) h15))<|rS (oA 2 (yY (o:=.no) h10))<|rA 2 (yM (o:=.no)) fun _=>rC 1 [] pV fun _=>fH 3 [] [0,1,3,4] [] [1,2,4,5,12,14,16,17,118,119,120] (zPv _ _ _ _ _ _ _ _ _ _ _ _ _)) fun _=>fE 2) fun _=>fE 2) fun _=>fE 2) fun _=>fE 2
end Go.Proofs.YthncchbcdpbgaaaGreat
