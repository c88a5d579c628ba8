/- Texts: AbTn AbF357 AbF330 AbF171 AbF384 AbF360 AbTo AbF359 AbF232_290_331_332_358 AbTp AbF169 AbTq AbF166 AbF35 AbF92 AbF93 AbF40 AbF90 AbTr AbF33 AbF34 AbF36 AbF38 AbF39 AbF38va20783 AbF91va20783 AbF39va20783 AbF7 AbTs AbTt -/
import Derived.KernelRfl
import Derived.Test.YtmfcobjnlabpoaaGreatAbB5
set_option linter.unusedVariables false
set_option linter.unusedSimpArgs false
set_option linter.unusedSectionVars false
namespace Go.Proofs.YtmfcobjnlabpoaaGreat
open Go Go.Ab
theorem tot_Unused(l:List Tm)(m:Int)(hl:l.length≤100)(hA:∀x∈l,Bin x∧x.nodes≤8192)(h0:0≤m)(hm:m≤1000):Tot (fun q=>e393 q l m) fun o=>(o.length:Int)=m:=by
 have L2:∀(v5:List Int),v5.length≤819200->∀(k:Nat) (v8:Nat) (v7 u:List Int),v8+k=v5.length+m.toNat->(v7.length:Int)≤m->u.length+v8=v5.length+v7.length->(∀x∈v5,(v8:Int)≤x->x∈u)->Tot (fun q=>e393Ldq q m v5 v7 (v8:Int)) fun o=>(o.length:Int)=m:=by
  intro v5 h5 k
  induction k with
  |zero=>
   intro v8 v7 u h1 h2 h3 h4
   refine Tot.succ ?_
   simp only[e393Ldq]
   refine Tot.ite (fun h=>?_) fun _=>Tot.ret (by omega)
   have:=of_decide_eq_true h;omega
  |succ k ih=>
   intro v8 v7 u h1 h2 h3 h4
   refine Tot.succ ?_
   simp only[e393Ldq]
   rw[w64_nat v8 (by omega)]
   refine Tot.ite (fun h=>?_) fun h=>Tot.ret (by have:=of_decide_eq_false h;omega)
   have h':=of_decide_eq_true h
   refine Tot.ite (fun _=>(tot_in v5 v8 (by omega)).bind fun b hb=>Tot.ite (fun hbt=>?_) fun _=>Tot.pure (gapp_ok (by simp;omega)) ?_) fun h=>?_
   ·have hmem:=h4 _ (hb hbt) (by omega)
    refine ih (v8+1) v7 (u.erase v8) (by omega) h2 (by rw[List.length_erase_of_mem hmem];have:=List.length_pos_of_mem hmem;omega) fun x hx hge=>?_
    exact(List.mem_erase_of_ne (by omega)).2 (h4 x hx (by omega))
   ·exact ih (v8+1) (v7++[(v8:Int)]) u (by omega) (by simp;omega) (by simp;omega) fun x hx hge=>h4 x hx (by omega)
   ·have:=of_decide_eq_false h;omega
 have L1:∀(r:List Tm) (v:Nat) (acc:List Int),l.drop v=r->acc.length≤8192*v->v≤l.length->Tot (fun q=>e393Ldr q l m acc (v:Int)) fun o=>(o.length:Int)=m:=by
  intro r
  induction r with
  |nil=>
   intro v acc hd ha hv
   refine Tot.succ ?_
   simp only[e393Ldr]
   refine Tot.ite (fun h=>?_) fun _=>L2 acc (by omega) (acc.length+m.toNat) 0 [] acc (by omega) (by simpa using h0) (by simp) fun x hx _=>hx
   rw[drop_nil hd]at h;cases h
  |cons t r ih=>
   intro v acc hd ha hv
   have hlt:=drop_lt hd
   have ht:=hA t (List.mem_of_mem_drop (by rw[hd];simp))
   refine Tot.succ ?_
   simp only[e393Ldr]
   refine Tot.ite (fun _=>Tot.pure (drop_idx hd) ((tot_Numbers t 8 8 (bin_ok _ ht.1) ht.2).bind fun o ho=>Tot.pure (gapp_ok (by have:=ho.1;omega)) ?_)) fun h=>?_
   ·rw[w64_nat v (by omega)]
    exact ih (v+1) _ (drop_next hd) (by rw[List.length_append];have:=ho.1;omega) hlt
   ·rw[drop_dec hd]at h;cases h
 simp only[e393]
 exact L1 l 0 [] rfl (by simp) (by simp)
theorem tot_Close(k:Int)(ns:List Int)(l:List Tm)(t:Tm)(hn:l.length≤ns.length)(hA:∀x∈l,Bin x)(ht:Bin t)(hl:ns.length≤1073741824):Tot (fun q=>e397 q k ns l t) fun r=>Bin r.1:=by
 have L:∀(m:Nat) (v:Int) (t:Tm),v+1=(m:Int)->m≤l.length->Bin t->Tot (fun q=>e397Lds q k ns l v t.k t.n t.sub) fun r=>Bin r.1:=by
  intro m
  induction m with
  |zero=>
   intro v t hv hm ht
   refine Tot.succ ?_
   simp only[e397Lds,tm_eta]
   refine Tot.ite (fun h=>?_) fun _=>Tot.ret ht
   have:=of_decide_eq_true h;omega
  |succ m ih=>
   intro v t hv hm ht
   obtain rfl:v=(m:Int):=by omega
   refine Tot.succ ?_
   simp only[e397Lds,tm_eta]
   refine Tot.ite (fun _=>Tot.pure (drop_idx (x:=ns[m]'(by omega)) (r:=ns.drop (m+1)) (List.drop_eq_getElem_cons (by omega))) ((tot_Bind t _ ht).bind fun r hr=>Tot.ite (fun _=>Tot.ret ht) fun _=>Tot.pure (drop_idx (x:=l[m]'(by omega)) (r:=l.drop (m+1)) (List.drop_eq_getElem_cons (by omega))) ?_)) fun _=>Tot.ret ht
   have hy:Bin (.mk k 0 [l[m]'(by omega),r.1]):=bin_mk2 (hA _ (List.getElem_mem _)) hr.1
   refine Tot.bind (P:=fun y=>y=Tm.mk k 0 [l[m]'(by omega),r.1]) ((ev_rTwo k _ _).tot rfl) fun y e=>?_
   subst e
   refine Tot.bind (P:=fun _=>True) ((ev_rShaped _ (bin_ok _ hy)).tot trivial) fun _ _=>Tot.ite (fun _=>?_) fun _=>Tot.ret hy
   rw[w64_id (x:=(m:Int)-1) (by omega) (by omega)]
   exact ih _ _ (by omega) (by omega) hy
 simp only[e397]
 refine Tot.ite (fun _=>Tot.ret ht) fun _=>?_
 rw[w64_id (x:=(l.length:Int)-1) (by omega) (by omega)]
 exact L l.length _ t (by omega) (by omega) ht
theorem tot_around13(k:Int)(r:Rec')(p2:List Tm)(p3 p4:Tm)(h1:r.around.length≤24)(h2:r.at'.length≤1048576)(hA:∀x∈r.around,Bin x∧x.nodes≤8192)(hB:∀x∈r.at',Bin x)(hp:p2.length≤48)(hC:∀x∈p2,Bin x∧x.nodes≤8192)(h3:Bin p3∧p3.nodes≤8192)(h4:Bin p4∧p4.nodes≤8192) :
  Tot (fun q=>e383 q k r p2 p3 p4) fun r=>Bin r.1:=by
 simp only[e383]
 refine Tot.pure (gapp_ok (by simp;omega)) (Tot.pure (gapp_ok (by simp;omega)) ?_)
 have hall:∀x∈[p3,p4]++p2++r.around,Bin x∧x.nodes≤8192:=fun x hx=>by
  rcases List.mem_append.1 hx with hx|hx
  ·rcases List.mem_append.1 hx with hx|hx
   ·simp at hx;rcases hx with rfl|rfl
    ·exact h3
    ·exact h4
   ·exact hC x hx
  ·exact hA x hx
 refine(tot_Unused _ r.around.length (by simp;omega) hall (by omega) (by omega)).bind fun ns hns=>?_
 refine(tot_Fills r.around p2 ns (by omega) (fun x hx=>(hA x hx).1) (by omega) (fun x hx=>(hC x hx).1) (by omega) (by omega)).bind fun r9 h9=>?_
 have hC':∀x∈([]:List Tm)++p2,Bin x:=fun x hx=>(hC x (by simpa using hx)).1
 refine Tot.ite (fun _=>?_) fun _=>?_
 ·refine Tot.pure (gapp_ok (by simp;omega)) ((tot_Frees13 ns (by omega)).bind fun fs hfs=>Tot.pure (gapp_ok (by simp;omega)) ((tot_each r.at' _ (by omega) hB (by simp;omega) (bin_app hC' hfs.2)).bind fun r20 h20=>Tot.ite (fun _=>?_) fun _=>Tot.ret h3.1))
  have b1:Bin (apT p3 r20.1):=bin_ap _ _ h3.1 h20.2
  have b2:Bin (apT p4 fs):=bin_ap _ _ h4.1 hfs.2
  refine Tot.bind (P:=fun y=>y=apT p3 r20.1) ((ev_rApply _ _ (by have:=h20.1;omega)).tot rfl) fun y e=>?_
  subst e
  refine Tot.bind (P:=fun y=>y=apT p4 fs) ((ev_rApply _ _ (by omega)).tot rfl) fun y e=>?_
  subst e
  refine Tot.bind (P:=fun y=>y=Tm.mk 5 0 [apT p3 r20.1,apT p4 fs]) ((ev_rTwo 5 _ _).tot rfl) fun y e=>?_
  subst e
  exact(tot_Close k ns r9.1 _ (by have:=h9.1;omega) h9.2.2 (bin_mk2 b1 b2) (by omega)).bind fun r hr=>Tot.ret hr
 ·refine Tot.pure (gapp_ok (by simp;omega)) ((tot_Frees13 ns (by omega)).bind fun fs hfs=>Tot.pure (gapp_ok (by simp;omega)) ((tot_each r.at' _ (by omega) hB (by simp;omega) (bin_app hC' hfs.2)).bind fun r20 h20=>Tot.ite (fun _=>Tot.ret h3.1) fun _=>Tot.ret h3.1))
def e357(qq:Nat)(p0 p1:Int):Option (Got):=
 some (Got.mk (Tm.mk 0 0 []) p1 false p0)
abbrev K357 (p0 p1:Int) (r:Got) (C:Cf):Prop:=C 357 [] [ai p0,ai p1] (gotA r) [] 0
theorem q357:Qf 357 Tryz.f357:=⟨Tryz.func357,by kernel_rfl⟩
theorem k357{p0 p1 r}(h:K357 p0 p1 r Ci):K357 p0 p1 r Ct:=⟨h,⟨tv,tv,tv⟩,forall_nil,⟨tv,tv,dT _,tv,tv,tv,tv⟩,forall_nil⟩
theorem c357{qq p0 p1 r}(h:e357 qq p0 p1=some r):K357 p0 p1 r Ct:=by
 unfold e357 at h
 obtain rfl:=sj h
 exact k357 (tF q357 1 [] (oD (dT ([]:List Tm)) o0))
def e330(qq:Nat)(p0:Tm)(p1:Bool)(p2:Int):Option (Got):=
 if p1 then
 e357 qq 2 p2>>=fun r1=>
 some r1
 else
 if decide (p2<1)then
 e357 qq 8 p2>>=fun r4=>
 some r4
 else
 e18 qq p0>>=fun r6=>
 if r6 then
 some (Got.mk p0 (w64 (p2-1)) true 0)
 else
 e357 qq 2 (w64 (p2-1))>>=fun r9=>
 some r9
abbrev K330 (p0:Tm) (p1:Bool) (p2:Int) (r:Got) (C:Cf):Prop:=C 330 [] [tmA p0,ab p1,ai p2] (gotA r) [] 0
theorem q330:Qf 330 Tryz.f330:=⟨Tryz.func330,by kernel_rfl⟩
theorem k330{p0 p1 p2 r}(h:K330 p0 p1 p2 r Ci):K330 p0 p1 p2 r Ct:=⟨h,⟨⟨tv,tv,⟨tv,dT _⟩,tv⟩,tv,tv,tv⟩,forall_nil,⟨tv,tv,dT _,tv,tv,tv,tv⟩,forall_nil⟩
theorem c330{qq p0 p1 p2 r}(h:e330 qq p0 p1 p2=some r):K330 p0 p1 p2 r Ct:=by
 unfold e330 at h
 cases p1
 replace h:=ifF rfl h
 rcases spl h with⟨h3,h⟩|⟨h3,h⟩
 obtain⟨r4,h5,h⟩:=obind h
 obtain rfl:=sj h
 exact k330 (tF q330 1 [] (oD (dT r4.t.sub)<|oC 0 [] (c357 h5)<|oB 0 h3 o0))
 obtain⟨r6,h7,h⟩:=obind h
 have k:=oB 0 h3 o0
 rcases spl h with⟨h8,h⟩|⟨h8,h⟩
 obtain rfl:=sj h
 exact k330 (tF q330 4 [] (oD (dT p0.sub)<|oK 1 [] h8 (c18 h7) k))
 obtain⟨r9,h10,h⟩:=obind h
 obtain rfl:=sj h
 exact k330 (tF q330 1 [] (oD (dT r9.t.sub)<|oC 2 [] (c357 h10)<|oK 1 [] h8 (c18 h7) k))
 replace h:=ifT rfl h
 obtain⟨r1,h2,h⟩:=obind h
 obtain rfl:=sj h
 exact k330 (tF q330 1 [] (oD (dT r1.t.sub)<|oC 0 [] (c357 h2) o0))
def e171(qq:Nat)(p0 p1:Int)(p2:List Tm):Option (Tm):=
 some (Tm.mk p0 p1 p2)
abbrev K171 (p0 p1:Int) (p2:List Tm) (r:Tm) (C:Cf):Prop:=C 171 [] [ai p0,ai p1,slv tmCells p2 .no] (tmA r) [] 0
theorem q171:Qf 171 Tryz.f171:=⟨Tryz.func171,by kernel_rfl⟩
theorem k171{p0 p1 p2 r}(h:K171 p0 p1 p2 r Ci):K171 p0 p1 p2 r Ct:=⟨h,⟨tv,tv,⟨tv,dT _⟩,tv⟩,forall_nil,⟨tv,tv,dT _,tv⟩,forall_nil⟩
theorem c171{qq p0 p1 p2 r}(h:e171 qq p0 p1 p2=some r):K171 p0 p1 p2 r Ct:=by
 unfold e171 at h
 obtain rfl:=sj h
 exact k171 (tF q171 1 [] (oD (dT p2) o0))
def e384(qq:Nat)(p0 p1:Int):Option (Tm):=
 e170 qq 2 p1>>=fun r1=>
 e171 qq 7 p0 [r1]>>=fun r3=>
 some r3
abbrev K384 (p0 p1:Int) (r:Tm) (C:Cf):Prop:=C 384 [] [ai p0,ai p1] (tmA r) [] 0
theorem q384:Qf 384 Tryz.f384:=⟨Tryz.func384,by kernel_rfl⟩
theorem k384{p0 p1 r}(h:K384 p0 p1 r Ci):K384 p0 p1 r Ct:=⟨h,⟨tv,tv,tv⟩,forall_nil,⟨tv,tv,dT _,tv⟩,forall_nil⟩
theorem c384{qq p0 p1 r}(h:e384 qq p0 p1=some r):K384 p0 p1 r Ct:=by
 unfold e384 at h
 obtain⟨r1,h2,h⟩:=obind h
 obtain⟨r3,h4,h⟩:=obind h
 obtain rfl:=sj h
 exact k384 (tF q384 1 [] (oD (dT r3.sub)<|oC 0 [] (c171 h4)<|oS 0 (obLitR tm_eq [r1])<|oC 0 [] (c170 h2) o0))
def e360Ldt:Nat->(List Ent)->Int->Int->(List Tm)->(List Tm)->Con'->Int->Int->Int->(List Tm)->Option (Tm×Bool)
 |0,_,_,_,_,_,_,_,_,_,_=>none
 |qq+1,p0,p1,p2,p4,p5,r1,v16,vb2_0,vb2_1,vb2_2=>
 if decide (v16<(List.length r1.recs:Int))then
 gidx r1.recs v16>>=fun x12=>
 if x12.is then
 gidx p0 p1>>=fun x15=>
 gsl p4 0 x15.pars>>=fun x17=>
 gapp 40 ([]:List Tm) x17>>=fun l19=>
 gsl p5 0 v16>>=fun x22=>
 gapp 40 l19 x22>>=fun l24=>
 e384 qq p1 p2>>=fun r27=>
 e25 qq r27 p4>>=fun r29=>
 gidx p5 v16>>=fun x31=>
 e383 qq 4 x12 l24 r29 x31>>=fun r33=>
 if r33.2 then
 e21 qq 5 (Tm.mk vb2_0 vb2_1 vb2_2) r33.1>>=fun r36=>
 e360Ldt qq p0 p1 p2 p4 p5 r1 (w64 (v16+1)) r36.k r36.n r36.sub
 else
 some ((Tm.mk vb2_0 vb2_1 vb2_2),false)
 else
 e360Ldt qq p0 p1 p2 p4 p5 r1 (w64 (v16+1)) vb2_0 vb2_1 vb2_2
 else
 e18 qq (Tm.mk vb2_0 vb2_1 vb2_2)>>=fun r38=>
 some ((Tm.mk vb2_0 vb2_1 vb2_2),r38)
def e360(qq:Nat)(p0:List Ent)(p1 p2 p3:Int)(p4 p5:List Tm):Option (Tm×Bool):=
 e31 qq p0 p3>>=fun r1=>
 gidx p0 p1>>=fun x3=>
 gidx p0 p3>>=fun x5=>
 gidx p4 (w64 ((w64 (x3.pars+1))+x5.place))>>=fun x7=>
 e25 qq x7 p5>>=fun r9=>
 e360Ldt qq p0 p1 p2 p4 p5 r1 0 r9.k r9.n r9.sub
def g360LdtE0(j:Nat->Value)(p0:List Ent)(p1 p2:Int)(p4 p5:List Tm)(r1:Con')(v16 vb2_0 vb2_1:Int)(vb2_2:List Tm):=sp j 95 0 [(0,slv entL p0 .no),(1,ai p1),(2,ai p2),(4,slv tmCells p4 .no),(5,slv tmCells p5 .no),(12,.mp 0 0),(14,.mp 1 0),(15,.mp 2 0),(16,ai v16)]
def g360LdtS0(p0:List Ent)(p1 p2:Int)(p4 p5:List Tm)(r1:Con')(v16 vb2_0 vb2_1:Int)(vb2_2:List Tm):LSt:=⟨[(0,.cells [ai 0,ai 0,slv tmCells ([]:List Tm) .nl]),(1,.cells [slv tmCells r1.args .no,slv tmCells r1.inds .no,slv recL r1.recs .no]),(2,.cells [ai vb2_0,ai vb2_1,slv tmCells vb2_2 .no])],3,[],0,[]⟩
abbrev K360 (p0:List Ent) (p1 p2 p3:Int) (p4 p5:List Tm) (r:Tm×Bool) (C:Cf):Prop:=C 360 [] [slv entL p0 .no,ai p1,ai p2,ai p3,slv tmCells p4 .no,slv tmCells p5 .no] (.tup [tmA r.1,ab r.2]) [] 0
theorem q360:Qf 360 Tryz.f360:=⟨Tryz.func360,by kernel_rfl⟩
theorem k360{p0 p1 p2 p3 p4 p5 r}(h:K360 p0 p1 p2 p3 p4 p5 r Ci):K360 p0 p1 p2 p3 p4 p5 r Ct:=⟨h,⟨⟨tv,dE _⟩,tv,tv,tv,⟨tv,dT _⟩,⟨tv,dT _⟩,tv⟩,forall_nil,⟨⟨tv,tv,dT _,tv⟩,tv,tv⟩,forall_nil⟩
theorem l360Ldt:∀qq:Nat,(∀p0 p1 p2 p4 p5 r1 v16 vb2_0 vb2_1 vb2_2 r,e360Ldt qq p0 p1 p2 p4 p5 r1 v16 vb2_0 vb2_1 vb2_2=some r->(∀j,Dl Tryz.prog 0 (inn (inn (rgt (lft (rgt (rgt (rgt (bod Tryz.f360)))))))) (g360LdtE0 j p0 p1 p2 p4 p5 r1 v16 vb2_0 vb2_1 vb2_2) (g360LdtS0 p0 p1 p2 p4 p5 r1 v16 vb2_0 vb2_1 vb2_2) (frameQ Tryz.prog 0 (FinQ Tryz.prog 0 Tryz.f360 (.tup [tmA r.1,ab r.2]) [] 0) [.blk 0,.seq (rgt (rgt (rgt (rgt (bod Tryz.f360)))))]))):=by
 intro qq
 induction qq with
 |zero=>
  exact fun _ _ _ _ _ _ _ _ _ _ _ h=>nn h
 |succ qq ih=>
  intro p0 p1 p2 p4 p5 r1 v16 vb2_0 vb2_1 vb2_2 r h
  rw[e360Ldt]at h
  rcases spl h with⟨h11,h⟩|⟨h11,h⟩
  obtain⟨x12,h13,h⟩:=obind h
  have k:=oA 1 (ix55 (o:=.no) h13)<|oB 2 h11 o0
  rcases spl h with⟨h14,h⟩|⟨h14,h⟩
  obtain⟨x15,h16,h⟩:=obind h
  obtain⟨x17,h18,h⟩:=obind h
  obtain⟨l19,h20,h⟩:=obind h
  have k:=oA 1 (slTo23 h18)<|oA 2 (ix22 (o:=.no) h16)<|oB 0 h14 k
  by_cases h21:List.length x17=0
  obtain⟨x22,h23,h⟩:=obind h
  obtain⟨l24,h25,h⟩:=obind h
  have k:=oA 0 (slTo23 h23)<|oP 0 (apN23 h20 h21) k
  by_cases h26:List.length x22=0
  obtain⟨r27,h28,h⟩:=obind h
  obtain⟨r29,h30,h⟩:=obind h
  obtain⟨x31,h32,h⟩:=obind h
  obtain⟨r33,h34,h⟩:=obind h
  have k:=oC 1 [] (c383 h34)<|oA 0 (ix23 (o:=.no) h32)<|oC 0 [] (c25 h30)<|oC 1 [] (c384 h28)<|oA 1 (ix55 (o:=.no) h13)<|oP 0 (apN23 h25 h26) k
  rcases spl h with⟨h35,h⟩|⟨h35,h⟩
  obtain⟨r36,h37,h⟩:=obind h
  exact fun j=>lH 2 [] [0,1,2] [] [0,1,2,4,5,12,14,15,16] (oD (dT p5)<|oD (dT p4)<|oD (dE p0)<|oD (dT r36.sub)<|oD (dR r1.recs)<|oD (dT r1.inds)<|oD (dT r1.args)<|oD (dT ([]:List Tm))<|oC 4 [] (c21 h37)<|oB 1 h35 k) (ih _ _ _ _ _ _ _ _ _ _ _ h)
  obtain rfl:=sj h
  exact fun j=>lF 4 [] (oD (dT vb2_2)<|oB 1 h35 k)
  obtain⟨r27,h28,h⟩:=obind h
  obtain⟨r29,h30,h⟩:=obind h
  obtain⟨x31,h32,h⟩:=obind h
  obtain⟨r33,h34,h⟩:=obind h
  have k:=oC 1 [] (c383 h34)<|oA 0 (ix23 (o:=.no) h32)<|oC 0 [] (c25 h30)<|oC 1 [] (c384 h28)<|oA 1 (ix55 (o:=.no) h13)<|oP 0 (apS23 h25 h26) k
  rcases spl h with⟨h35,h⟩|⟨h35,h⟩
  obtain⟨r36,h37,h⟩:=obind h
  exact fun j=>lH 2 [] [0,1,2] [] [0,1,2,4,5,12,14,15,16] (oD (dT p5)<|oD (dT p4)<|oD (dE p0)<|oD (dT r36.sub)<|oD (dR r1.recs)<|oD (dT r1.inds)<|oD (dT r1.args)<|oD (dT ([]:List Tm))<|oC 4 [] (c21 h37)<|oB 1 h35 k) (ih _ _ _ _ _ _ _ _ _ _ _ h)
  obtain rfl:=sj h
  exact fun j=>lF 4 [] (oD (dT vb2_2)<|oB 1 h35 k)
  obtain⟨x22,h23,h⟩:=obind h
  obtain⟨l24,h25,h⟩:=obind h
  have k:=oA 0 (slTo23 h23)<|oP 0 (apS23 h20 h21) k
  by_cases h26:List.length x22=0
  obtain⟨r27,h28,h⟩:=obind h
  obtain⟨r29,h30,h⟩:=obind h
  obtain⟨x31,h32,h⟩:=obind h
  obtain⟨r33,h34,h⟩:=obind h
  have k:=oC 1 [] (c383 h34)<|oA 0 (ix23 (o:=.no) h32)<|oC 0 [] (c25 h30)<|oC 1 [] (c384 h28)<|oA 1 (ix55 (o:=.no) h13)<|oP 0 (apN23 h25 h26) k
  rcases spl h with⟨h35,h⟩|⟨h35,h⟩
  obtain⟨r36,h37,h⟩:=obind h
  exact fun j=>lH 2 [] [0,1,2] [] [0,1,2,4,5,12,14,15,16] (oD (dT p5)<|oD (dT p4)<|oD (dE p0)<|oD (dT r36.sub)<|oD (dR r1.recs)<|oD (dT r1.inds)<|oD (dT r1.args)<|oD (dT ([]:List Tm))<|oC 4 [] (c21 h37)<|oB 1 h35 k) (ih _ _ _ _ _ _ _ _ _ _ _ h)
  obtain rfl:=sj h
  exact fun j=>lF 4 [] (oD (dT vb2_2)<|oB 1 h35 k)
  obtain⟨r27,h28,h⟩:=obind h
  obtain⟨r29,h30,h⟩:=obind h
  obtain⟨x31,h32,h⟩:=obind h
  obtain⟨r33,h34,h⟩:=obind h
  have k:=oC 1 [] (c383 h34)<|oA 0 (ix23 (o:=.no) h32)<|oC 0 [] (c25 h30)<|oC 1 [] (c384 h28)<|oA 1 (ix55 (o:=.no) h13)<|oP 0 (apS23 h25 h26) k
  rcases spl h with⟨h35,h⟩|⟨h35,h⟩
  obtain⟨r36,h37,h⟩:=obind h
  exact fun j=>lH 2 [] [0,1,2] [] [0,1,2,4,5,12,14,15,16] (oD (dT p5)<|oD (dT p4)<|oD (dE p0)<|oD (dT r36.sub)<|oD (dR r1.recs)<|oD (dT r1.inds)<|oD (dT r1.args)<|oD (dT ([]:List Tm))<|oC 4 [] (c21 h37)<|oB 1 h35 k) (ih _ _ _ _ _ _ _ _ _ _ _ h)
  obtain rfl:=sj h
  exact fun j=>lF 4 [] (oD (dT vb2_2)<|oB 1 h35 k)
  exact fun j=>lH 2 [] [0,1,2] [] [0,1,2,4,5,12,14,15,16] (oD (dT p5)<|oD (dT p4)<|oD (dE p0)<|oD (dT vb2_2)<|oD (dR r1.recs)<|oD (dT r1.inds)<|oD (dT r1.args)<|oD (dT ([]:List Tm))<|oB 0 h14 k) (ih _ _ _ _ _ _ _ _ _ _ _ h)
  obtain⟨r38,h39,h⟩:=obind h
  obtain rfl:=sj h
  exact fun j=>lF 1 [] (oD (dT vb2_2)<|oC 2 [] (c18 h39)<|oB 2 h11 o0)
theorem c360{qq p0 p1 p2 p3 p4 p5 r}(h:e360 qq p0 p1 p2 p3 p4 p5=some r):K360 p0 p1 p2 p3 p4 p5 r Ct:=by
 unfold e360 at h
 obtain⟨r1,h2,h⟩:=obind h
 obtain⟨x3,h4,h⟩:=obind h
 obtain⟨x5,h6,h⟩:=obind h
 obtain⟨x7,h8,h⟩:=obind h
 obtain⟨r9,h10,h⟩:=obind h
 exact k360 (tH q360 1 [] [0,1,2] [] [0,1,2,4,5,12,14,15,16] (oD (dT p5)<|oD (dT p4)<|oD (dE p0)<|oD (dT r9.sub)<|oD (dR r1.recs)<|oD (dT r1.inds)<|oD (dT r1.args)<|oD (dT ([]:List Tm))<|oC 1 [] (c25 h10)<|oA 2 (ix23 (o:=.no) h8)<|oA 2 (ix22 (o:=.no) h6)<|oA 1 (ix22 (o:=.no) h4)<|oC 0 [] (c31 h2) o0) (l360Ldt _ _ _ _ _ _ _ _ _ _ _ _ h))
theorem nodes_ap:∀(l:List Tm) (f:Tm),(apT f l).nodes=f.nodes+nodesL l+l.length
 | [],f=>by rw[apT,nodesL];simp
 |a::l,f=>by
  rw[apT,nodes_ap l,Tm.nodes,nodesL,nodesL,nodesL,nodesL];simp;omega
theorem nodes_spine:∀t:Tm,goodT t=true->t.nodes=(hdT t).nodes+nodesL (arT t)+(arT t).length:=by
 refine app_ind ?_ ?_
 ·intro t hg hk
  rw[hdT_not hk,arT_not hk,nodesL];simp
 ·intro n a b hg ha hb ih
  rw[hdT_app,arT_app,nodesL_app];simp only[Tm.nodes,nodesL,List.length_append,List.length_singleton];omega
theorem nodesL_take(n:Nat)(l:List Tm):nodesL (l.take n)≤nodesL l:=by
 have:=nodesL_app (l.take n) (l.drop n)
 rw[List.take_append_drop]at this;omega
theorem nodesL_mem:∀ {l:List Tm},∀x∈l,x.nodes≤nodesL l
 |t::l,x,h=>by
  rw[nodesL]
  rcases List.mem_cons.1 h with rfl|h
  ·omega
  ·have:=nodesL_mem x h;omega
theorem rec_around{l:List Ent}{t:Tm}{of b:Int}:(recT l t of b).around.length≤24:=by
 unfold recT
 split
 ·rename_i a
  have hw:=wholeT_ok (t:=t) (l:=(wholeT t).1) (y:=(wholeT t).2.1) (by rw[←a.1])
  exact hw.2.2.1
 ·simp
theorem recs_around{l:List Ent}{of:Int}:∀(r:List Tm) (B:Int),∀x∈recsT l of r B,x.around.length≤24
 | [],B,x,h=>nomatch h
 |a::r,B,x,h=>by
  rcases List.mem_cons.1 h with h|h
  ·rw[h];exact rec_around
  ·exact recs_around r (B+1) x h
def Bn(x:Tm):Prop:=Bin x∧x.nodes≤8192
theorem bn_shaped{t:Tm}(h:shapedT t=true):Bn t:=⟨shaped_bin h,(shapedT_spec h).1⟩
theorem tot_StepR{N:ByteArray->Bool}(l:List Ent)(hE:AllE N l)(d lev c:Int)(p4 p5:List Tm)(hd:isT l d 1=true)(hc0:0≤c)(hc1:c<l.length)(hc2:(ent l c).kind=2)(hf:(ent l c).fam=d)
  (h4:(p4.length:Int)=(ent l d).pars+1+(ent l d).cons.length) (h5:p5.length=(partsT l c).recs.length) (hA:∀x∈p4,Bn x) (hB:∀x∈p5,Bn x) (hn:(apT (.mk 7 d [.mk 2 lev []]) p4).nodes≤8192) :
  Tot (fun q=>e360 q l d lev c p4 p5) fun _=>True:=by
 obtain⟨A,y,hw,-,-,-,hA24,q0,q1,f0,f1,fk,fp,fi,fs,-,r0,r1⟩:=con_facts hE hc0 hc1 hc2
 have hi:=isT_spec hd
 have hfam:=familyT_spec ((entryT_spec (hE.2 d hi.1 hi.2.1)).2.1 hi.2.2)
 have hrl:(partsT l c).recs.length≤24:=by
  have:(partsT l c).recs.length=(partsT l c).args.length:=by unfold partsT;exact recsT_len l _ _ _
  have h2:(partsT l c).args=(wholeT (ent l c).type).1.drop (ent l c).pars.toNat:=by unfold partsT;rfl
  rw[this,h2,hw];simp;omega
 rw[hf]at r1 fp
 simp only[e360]
 refine Tot.bind (P:=fun y=>y=partsT l c) ((ev_rParts l c hE hc0 hc1 hc2).tot rfl) fun y e=>?_
 subst e
 refine Tot.pure (gidx_ent hi.1 hi.2.1) (Tot.pure (gidx_ent hc0 hc1) ?_)
 rw[w64_id (x:=(ent l d).pars+1) (by omega) (by omega),w64_id (x:=(ent l d).pars+1+(ent l c).place) (by omega) (by omega)]
 refine Tot.pure (gidx_nth (by omega) (by omega)) ?_
 have hx7:Bin (nth p4 ((ent l d).pars+1+(ent l c).place)):=(hA _ (nth_mem (by omega) (by omega))).1
 refine Tot.bind (P:=fun y=>Bin y) ((ev_rApply _ p5 (by omega)).tot (bin_ap _ _ hx7 fun x hx=>(hB x hx).1)) fun r9 h9=>?_
 have L:∀(r:List Rec') (v:Nat) (t:Tm),(partsT l c).recs.drop v=r->Bin t->Tot (fun q=>e360Ldt q l d lev p4 p5 (partsT l c) (v:Int) t.k t.n t.sub) fun _=>True:=by
  intro r
  induction r with
  |nil=>
   intro v t hdr ht
   refine Tot.succ ?_
   simp only[e360Ldt,tm_eta]
   refine Tot.ite (fun h=>?_) fun _=>Tot.bind (P:=fun _=>True) ((ev_rShaped t (bin_ok _ ht)).tot trivial) fun _ _=>Tot.ret trivial
   rw[drop_nil hdr]at h;cases h
  |cons z r ih=>
   intro v t hdr ht
   have hlt:=drop_lt hdr
   have hz:z∈(partsT l c).recs:=List.mem_of_mem_drop (by rw[hdr];simp)
   have hzs:=parts_s z hz
   have hz24:z.around.length≤24:=by
    have:(partsT l c).recs=recsT l (ent l c).fam ((wholeT (ent l c).type).1.drop (ent l c).pars.toNat) (ent l c).pars:=by unfold partsT;rfl
    rw[this]at hz;exact recs_around _ _ z hz
   refine Tot.succ ?_
   simp only[e360Ldt,tm_eta]
   refine Tot.ite (fun _=>Tot.pure (drop_idx hdr) (Tot.ite (fun _=>?_) fun _=>?_)) fun h=>?_
   ·refine Tot.pure (gidx_ent hi.1 hi.2.1) (Tot.pure (gsl_mid (by omega) (by omega) (by omega)) (Tot.pure (gapp_ok (by simp;omega)) (Tot.pure (gsl_mid (by omega) (by omega) (by omega)) (Tot.pure (gapp_ok (by simp;omega)) ?_))))
    refine Tot.bind (P:=fun y=>y=Tm.mk 7 d [Tm.mk 2 lev []]) (Evt.tot (r:=Tm.mk 7 d [Tm.mk 2 lev []]) (Evt.mk fun _=>rfl) rfl) fun r44 h44=>?_
    subst h44
    refine Tot.bind (P:=fun y=>y=apT (Tm.mk 7 d [Tm.mk 2 lev []]) p4) ((ev_rApply _ p4 (by omega)).tot rfl) fun r29 h29=>?_
    subst h29
    have hnv:(v:Int)<p5.length:=by omega
    refine Tot.pure (gidx_nth (l:=p5) (n:=(v:Int)) (by omega) hnv) ?_
    have h3:Bin (apT (Tm.mk 7 d [Tm.mk 2 lev []]) p4):=bin_ap _ _ (by rw[Bin,BinL,BinL];exact⟨by simp,leaf_bin _ _,trivial⟩) fun x hx=>(hA x hx).1
    refine(tot_around13 4 z _ _ _ hz24 hzs.2.2.2 (fun x hx=>bn_shaped (hzs.1 x hx)) (fun x hx=>shaped_bin (hzs.2.1 x hx)) ?_ ?_ ⟨h3,hn⟩ (hB _ (nth_mem (by omega) hnv))).bind fun r33 h33=>?_
    ·simp;omega
    ·intro x hx
     simp only[List.nil_append,List.mem_append]at hx
     rcases hx with hx|hx
     ·exact hA x (List.mem_of_mem_drop (List.mem_of_mem_take hx))
     ·exact hB x (List.mem_of_mem_drop (List.mem_of_mem_take hx))
    refine Tot.ite (fun _=>?_) fun _=>Tot.ret trivial
    refine Tot.bind (P:=fun y=>y=Tm.mk 5 0 [t,r33.1]) ((ev_rTwo 5 _ _).tot rfl) fun y e=>?_
    subst e
    rw[w64_nat v (by omega)]
    exact ih (v+1) (.mk 5 0 [t,r33.1]) (drop_next hdr) (bin_mk2 ht h33)
   ·rw[w64_nat v (by omega)]
    exact ih (v+1) t (drop_next hdr) ht
   ·rw[drop_dec hdr]at h;cases h
 exact L _ 0 r9 rfl h9
theorem tot_taken0(t:Tm)(b:Bool):Tot (fun q=>e330 q t b 0) fun r=>r.e≠0:=by
 simp only[e330,e357]
 refine Tot.ite (fun _=>Tot.pure rfl (Tot.ret (by decide))) fun _=>Tot.ite (fun _=>Tot.pure rfl (Tot.ret (by decide))) fun h=>?_
 have:=of_decide_eq_false h;omega
def e359(qq:Nat)(p0:Ent):Option (Int):=
 some (w64 ((w64 ((w64 ((w64 (p0.pars+1))+(List.length p0.cons:Int)))+p0.inds))+1))
abbrev K359 (p0:Ent) (r:Int) (C:Cf):Prop:=C 359 [] [entA p0] (ai r) [] 0
theorem q359:Qf 359 Tryz.f359:=⟨Tryz.func359,by kernel_rfl⟩
theorem k359{p0 r}(h:K359 p0 r Ci):K359 p0 r Ct:=⟨h,⟨⟨tv,tv,tv,tv,⟨tv,dT _⟩,tv,tv,⟨tv,dT _⟩,tv,tv,tv,tv,tv,⟨tv,dI _⟩,⟨tv,dI _⟩,tv⟩,tv⟩,forall_nil,tv,forall_nil⟩
theorem c359{qq p0 r}(h:e359 qq p0=some r):K359 p0 r Ct:=by
 unfold e359 at h
 obtain rfl:=sj h
 exact k359 (tF q359 8 [] (o0))
mutual
def e232:Nat->(List Ent)->Tm->Int->Option (Got)
 |0,_,_,_=>none
 |qq+1,p0,p1,p2=>
 e232Ldu qq p0 p2 0 p1.k p1.n p1.sub p2 true 0
def e232Ldu:Nat->(List Ent)->Int->Int->Int->Int->(List Tm)->Int->Bool->Int->Option (Got)
 |0,_,_,_,_,_,_,_,_,_=>none
 |qq+1,p0,p2,v8,vb1_0,vb1_1,vb1_2,vb1_3,vb1_4,vb1_5=>
 if decide (v8≤p2)then
 if vb1_5==0 then
 if vb1_4 then
 e290 qq p0 (Tm.mk vb1_0 vb1_1 vb1_2) vb1_3>>=fun r4=>
 e232Ldu qq p0 p2 (w64 (v8+1)) r4.t.k r4.t.n r4.t.sub r4.left r4.did r4.e
 else
 some (Got.mk (Tm.mk vb1_0 vb1_1 vb1_2) vb1_3 vb1_4 vb1_5)
 else
 some (Got.mk (Tm.mk vb1_0 vb1_1 vb1_2) vb1_3 vb1_4 vb1_5)
 else
 some (Got.mk (Tm.mk vb1_0 vb1_1 vb1_2) vb1_3 vb1_4 vb1_5)
def e290:Nat->(List Ent)->Tm->Int->Option (Got)
 |0,_,_,_=>none
 |qq+1,p0,p1,p2=>
 e76 qq p1>>=fun r1=>
 e78 qq p1>>=fun r3=>
 if r1.k==4 then
 if decide ((List.length r3:Int)>0)then
 gidx r1.sub 1>>=fun x7=>
 gidx r3 0>>=fun x9=>
 e329 qq x7 [x9]>>=fun r11=>
 gsl r3 1 (List.length r3:Int)>>=fun x13=>
 e25 qq r11.1 x13>>=fun r15=>
 e330 qq r15 (r11.2 != 0) p2>>=fun r17=>
 some r17
 else
 if r1.k==6 then
 e77 qq p0 r1.n 3>>=fun r20=>
 if r20 then
 gidx p0 r1.n>>=fun x23=>
 e25 qq x23.body r3>>=fun r25=>
 e330 qq r25 false p2>>=fun r27=>
 some r27
 else
 e77 qq p0 r1.n 4>>=fun r29=>
 if r29 then
 e331 qq p0 p1 p2>>=fun r32=>
 some r32
 else
 if r1.k==7 then
 e332 qq p0 p1 p2>>=fun r35=>
 some r35
 else
 some (Got.mk p1 p2 false 0)
 else
 if r1.k==7 then
 e332 qq p0 p1 p2>>=fun r38=>
 some r38
 else
 some (Got.mk p1 p2 false 0)
 else
 if r1.k==6 then
 e77 qq p0 r1.n 3>>=fun r41=>
 if r41 then
 gidx p0 r1.n>>=fun x44=>
 e25 qq x44.body r3>>=fun r46=>
 e330 qq r46 false p2>>=fun r48=>
 some r48
 else
 e77 qq p0 r1.n 4>>=fun r50=>
 if r50 then
 e331 qq p0 p1 p2>>=fun r53=>
 some r53
 else
 if r1.k==7 then
 e332 qq p0 p1 p2>>=fun r56=>
 some r56
 else
 some (Got.mk p1 p2 false 0)
 else
 if r1.k==7 then
 e332 qq p0 p1 p2>>=fun r59=>
 some r59
 else
 some (Got.mk p1 p2 false 0)
def e331:Nat->(List Ent)->Tm->Int->Option (Got)
 |0,_,_,_=>none
 |qq+1,p0,p1,p2=>
 e76 qq p1>>=fun r1=>
 e78 qq p1>>=fun r3=>
 gidx p0 r1.n>>=fun x5=>
 if decide ((List.length r3:Int)≤x5.pars)then
 some (Got.mk p1 p2 false 0)
 else
 gidx r3 x5.pars>>=fun x8=>
 e358 qq p0 x8 p2>>=fun r10=>
 if r10.2.2.e != 0 then
 some r10.2.2
 else
 if decide (r10.1<0)then
 some (Got.mk p1 r10.2.2.left false 0)
 else
 gidx p0 r10.1>>=fun x14=>
 if x14.fam != x5.fam then
 some (Got.mk p1 r10.2.2.left false 0)
 else
 gidx r10.2.1 (w64 (x5.pars+x5.place))>>=fun x17=>
 gsl r3 (w64 (x5.pars+1)) (List.length r3:Int)>>=fun x19=>
 e25 qq x17 x19>>=fun r21=>
 e330 qq r21 false r10.2.2.left>>=fun r23=>
 some r23
def e332:Nat->(List Ent)->Tm->Int->Option (Got)
 |0,_,_,_=>none
 |qq+1,p0,p1,p2=>
 e76 qq p1>>=fun r1=>
 e78 qq p1>>=fun r3=>
 e77 qq p0 r1.n 1>>=fun r5=>
 if r5 then
 gidx p0 r1.n>>=fun x8=>
 e359 qq x8>>=fun r10=>
 if decide ((List.length r3:Int)<r10)then
 some (Got.mk p1 p2 false 0)
 else
 gidx r3 (w64 (r10-1))>>=fun x13=>
 e358 qq p0 x13 p2>>=fun r15=>
 if r15.2.2.e != 0 then
 some r15.2.2
 else
 if decide (r15.1<0)then
 some (Got.mk p1 r15.2.2.left false 0)
 else
 gidx p0 r15.1>>=fun x19=>
 if x19.fam != r1.n then
 some (Got.mk p1 r15.2.2.left false 0)
 else
 gidx r1.sub 0>>=fun x22=>
 gsl r3 0 (w64 ((w64 (x8.pars+1))+(List.length x8.cons:Int)))>>=fun x24=>
 gsl r15.2.1 x8.pars (List.length r15.2.1:Int)>>=fun x26=>
 e360 qq p0 r1.n x22.n r15.1 x24 x26>>=fun r28=>
 gsl r3 r10 (List.length r3:Int)>>=fun x30=>
 e25 qq r28.1 x30>>=fun r32=>
 e330 qq r32 (!r28.2) r15.2.2.left>>=fun r34=>
 some r34
 else
 some (Got.mk p1 p2 false 0)
def e358:Nat->(List Ent)->Tm->Int->Option (Int×List Tm×Got)
 |0,_,_,_=>none
 |qq+1,p0,p1,p2=>
 e232 qq p0 p1 p2>>=fun r1=>
 if r1.e != 0 then
 some ((-1),[],r1)
 else
 e26 qq p0 r1.t>>=fun r4=>
 if decide (r4<0)then
 some ((-1),[],r1)
 else
 e78 qq r1.t>>=fun r7=>
 some (r4,r7,r1)
end
def g232LduE0(j:Nat->Value)(p0:List Ent)(p2 v8 vb1_0 vb1_1:Int)(vb1_2:List Tm)(vb1_3:Int)(vb1_4:Bool)(vb1_5:Int):=sp j 33 0 [(0,slv entL p0 .no),(2,ai p2),(6,.mp 0 0),(7,.mp 1 0),(8,ai v8)]
def g232LduS0(p0:List Ent)(p2 v8 vb1_0 vb1_1:Int)(vb1_2:List Tm)(vb1_3:Int)(vb1_4:Bool)(vb1_5:Int):LSt:=⟨[(0,.cells [ai 0,ai 0,slv tmCells ([]:List Tm) .nl,ai 0,ab false,ai 0]),(1,.cells [ai vb1_0,ai vb1_1,slv tmCells vb1_2 .no,ai vb1_3,ab vb1_4,ai vb1_5])],2,[],0,[]⟩
abbrev K232 (p0:List Ent) (p1:Tm) (p2:Int) (r:Got) (C:Cf):Prop:=C 232 [] [slv entL p0 .no,tmA p1,ai p2] (gotA r) [] 0
abbrev K290 (p0:List Ent) (p1:Tm) (p2:Int) (r:Got) (C:Cf):Prop:=C 290 [] [slv entL p0 .no,tmA p1,ai p2] (gotA r) [] 0
abbrev K331 (p0:List Ent) (p1:Tm) (p2:Int) (r:Got) (C:Cf):Prop:=C 331 [] [slv entL p0 .no,tmA p1,ai p2] (gotA r) [] 0
abbrev K332 (p0:List Ent) (p1:Tm) (p2:Int) (r:Got) (C:Cf):Prop:=C 332 [] [slv entL p0 .no,tmA p1,ai p2] (gotA r) [] 0
abbrev K358 (p0:List Ent) (p1:Tm) (p2:Int) (r:Int×List Tm×Got) (C:Cf):Prop:=C 358 [] [slv entL p0 .no,tmA p1,ai p2] (.tup [ai r.1,.sl (flat tmCells r.2.1) (List.length r.2.1) .no,gotA r.2.2]) [] 0
theorem q232:Qf 232 Tryz.f232:=⟨Tryz.func232,by kernel_rfl⟩
theorem k232{p0 p1 p2 r}(h:K232 p0 p1 p2 r Ci):K232 p0 p1 p2 r Ct:=⟨h,⟨⟨tv,dE _⟩,⟨tv,tv,⟨tv,dT _⟩,tv⟩,tv,tv⟩,forall_nil,⟨tv,tv,dT _,tv,tv,tv,tv⟩,forall_nil⟩
theorem q290:Qf 290 Tryz.f290:=⟨Tryz.func290,by kernel_rfl⟩
theorem k290{p0 p1 p2 r}(h:K290 p0 p1 p2 r Ci):K290 p0 p1 p2 r Ct:=⟨h,⟨⟨tv,dE _⟩,⟨tv,tv,⟨tv,dT _⟩,tv⟩,tv,tv⟩,forall_nil,⟨tv,tv,dT _,tv,tv,tv,tv⟩,forall_nil⟩
theorem q331:Qf 331 Tryz.f331:=⟨Tryz.func331,by kernel_rfl⟩
theorem k331{p0 p1 p2 r}(h:K331 p0 p1 p2 r Ci):K331 p0 p1 p2 r Ct:=⟨h,⟨⟨tv,dE _⟩,⟨tv,tv,⟨tv,dT _⟩,tv⟩,tv,tv⟩,forall_nil,⟨tv,tv,dT _,tv,tv,tv,tv⟩,forall_nil⟩
theorem q332:Qf 332 Tryz.f332:=⟨Tryz.func332,by kernel_rfl⟩
theorem k332{p0 p1 p2 r}(h:K332 p0 p1 p2 r Ci):K332 p0 p1 p2 r Ct:=⟨h,⟨⟨tv,dE _⟩,⟨tv,tv,⟨tv,dT _⟩,tv⟩,tv,tv⟩,forall_nil,⟨tv,tv,dT _,tv,tv,tv,tv⟩,forall_nil⟩
theorem q358:Qf 358 Tryz.f358:=⟨Tryz.func358,by kernel_rfl⟩
theorem k358{p0 p1 p2 r}(h:K358 p0 p1 p2 r Ci):K358 p0 p1 p2 r Ct:=⟨h,⟨⟨tv,dE _⟩,⟨tv,tv,⟨tv,dT _⟩,tv⟩,tv,tv⟩,forall_nil,⟨tv,dT _,⟨tv,tv,dT _,tv,tv,tv,tv⟩,tv⟩,forall_nil⟩
theorem a232_232Ldu_290_331_332_358:∀qq:Nat,(∀p0 p1 p2 r,e232 qq p0 p1 p2=some r->K232 p0 p1 p2 r Ct)∧(∀p0 p2 v8 vb1_0 vb1_1 vb1_2 vb1_3 vb1_4 vb1_5 r,e232Ldu qq p0 p2 v8 vb1_0 vb1_1 vb1_2 vb1_3 vb1_4 vb1_5=some r->(∀j,Dl Tryz.prog 0 (inn (inn (rgt (lft (rgt (rgt (bod Tryz.f232))))))) (g232LduE0 j p0 p2 v8 vb1_0 vb1_1 vb1_2 vb1_3 vb1_4 vb1_5) (g232LduS0 p0 p2 v8 vb1_0 vb1_1 vb1_2 vb1_3 vb1_4 vb1_5) (frameQ Tryz.prog 0 (FinQ Tryz.prog 0 Tryz.f232 (gotA r) [] 0) [.blk 0,.seq (rgt (rgt (rgt (bod Tryz.f232))))])))∧(∀p0 p1 p2 r,e290 qq p0 p1 p2=some r->K290 p0 p1 p2 r Ct)∧(∀p0 p1 p2 r,e331 qq p0 p1 p2=some r->K331 p0 p1 p2 r Ct)∧(∀p0 p1 p2 r,e332 qq p0 p1 p2=some r->K332 p0 p1 p2 r Ct)∧(∀p0 p1 p2 r,e358 qq p0 p1 p2=some r->K358 p0 p1 p2 r Ct):=by
 intro qq
 induction qq with
 |zero=>
  exact⟨fun _ _ _ _ h=>nn h,fun _ _ _ _ _ _ _ _ _ _ h=>nn h,fun _ _ _ _ h=>nn h,fun _ _ _ _ h=>nn h,fun _ _ _ _ h=>nn h,fun _ _ _ _ h=>nn h⟩
 |succ qq ih=>
  obtain⟨ih232,ih232Ldu,ih290,ih331,ih332,ih358⟩:=ih
  refine⟨?_,?_,?_,?_,?_,?_⟩
  intro p0 p1 p2 r h
  rw[e232]at h
  exact k232 (tH q232 2 [] [1,2] [] [0,2,6,7,8] (oD (dE p0)<|oD (dT p1.sub)<|oD (dT ([]:List Tm)) o0) (ih232Ldu _ _ _ _ _ _ _ _ _ _ h))
  intro p0 p2 v8 vb1_0 vb1_1 vb1_2 vb1_3 vb1_4 vb1_5 r h
  rw[e232Ldu]at h
  rcases spl h with⟨h1,h⟩|⟨h1,h⟩
  have k:=oB 0 h1 o0
  rcases spl h with⟨h2,h⟩|⟨h2,h⟩
  have k:=oB 1 h2 k
  rcases spl h with⟨h3,h⟩|⟨h3,h⟩
  obtain⟨r4,h5,h⟩:=obind h
  exact fun j=>lH 2 [] [0,1] [] [0,2,6,7,8] (oD (dE p0)<|oD (dT r4.t.sub)<|oD (dT ([]:List Tm))<|oC 2 [] (ih290 _ _ _ _ h5)<|oB 0 h3 k) (ih232Ldu _ _ _ _ _ _ _ _ _ _ h)
  obtain rfl:=sj h
  exact fun j=>lF 2 [] (oD (dT vb1_2)<|oB 0 h3 k)
  obtain rfl:=sj h
  exact fun j=>lF 2 [] (oD (dT vb1_2)<|oB 1 h2 k)
  obtain rfl:=sj h
  exact fun j=>lF 2 [] (oD (dT vb1_2)<|oB 0 h1 o0)
  intro p0 p1 p2 r h
  rw[e290]at h
  obtain⟨r1,h2,h⟩:=obind h
  obtain⟨r3,h4,h⟩:=obind h
  have k:=oC 2 [] (c78 h4)<|oC 1 [] (c76 h2) o0
  rcases spl h with⟨h5,h⟩|⟨h5,h⟩
  have k:=oB 1 h5 k
  rcases spl h with⟨h6,h⟩|⟨h6,h⟩
  obtain⟨x7,h8,h⟩:=obind h
  obtain⟨x9,h10,h⟩:=obind h
  obtain⟨r11,h12,h⟩:=obind h
  obtain⟨x13,h14,h⟩:=obind h
  obtain⟨r15,h16,h⟩:=obind h
  obtain⟨r17,h18,h⟩:=obind h
  obtain rfl:=sj h
  exact k290 (tF q290 1 [] (oD (dT r17.t.sub)<|oC 1 [] (c330 h18)<|oC 0 [] (c25 h16)<|oF 4 (slFromO23 (o:=(.st 0 3)) h14)<|oC 0 [] (c329 h12)<|oS 1 (obLitR tm_eq [x9])<|oA 1 (ix23 (o:=(.st 0 3)) h10)<|oA 1 (ix23 (o:=.no) h8)<|oB 1 h6 k))
  have k:=oB 1 h6 k
  rcases spl h with⟨h19,h⟩|⟨h19,h⟩
  obtain⟨r20,h21,h⟩:=obind h
  have k:=oB 1 h19 k
  rcases spl h with⟨h22,h⟩|⟨h22,h⟩
  obtain⟨x23,h24,h⟩:=obind h
  obtain⟨r25,h26,h⟩:=obind h
  obtain⟨r27,h28,h⟩:=obind h
  obtain rfl:=sj h
  exact k290 (tF q290 1 [] (oD (dT r27.t.sub)<|oC 0 [] (c330 h28)<|oC 1 [] (c25 h26)<|oA 1 (ix22 (o:=.no) h24)<|oK 1 [] h22 (c77 h21) k))
  obtain⟨r29,h30,h⟩:=obind h
  have k:=oB 1 h19<|oK 1 [] h22 (c77 h21) k
  rcases spl h with⟨h31,h⟩|⟨h31,h⟩
  obtain⟨r32,h33,h⟩:=obind h
  obtain rfl:=sj h
  exact k290 (tF q290 1 [] (oD (dT r32.t.sub)<|oC 1 [] (ih331 _ _ _ _ h33)<|oK 1 [] h31 (c77 h30) k))
  have k:=oK 1 [] h31 (c77 h30) k
  rcases spl h with⟨h34,h⟩|⟨h34,h⟩
  obtain⟨r35,h36,h⟩:=obind h
  obtain rfl:=sj h
  exact k290 (tF q290 1 [] (oD (dT r35.t.sub)<|oC 1 [] (ih332 _ _ _ _ h36)<|oB 1 h34 k))
  obtain rfl:=sj h
  exact k290 (tF q290 2 [] (oD (dT p1.sub)<|oB 1 h34 k))
  have k:=oB 1 h19<|oB 1 h19 k
  rcases spl h with⟨h37,h⟩|⟨h37,h⟩
  obtain⟨r38,h39,h⟩:=obind h
  obtain rfl:=sj h
  exact k290 (tF q290 1 [] (oD (dT r38.t.sub)<|oC 1 [] (ih332 _ _ _ _ h39)<|oB 1 h37 k))
  obtain rfl:=sj h
  exact k290 (tF q290 2 [] (oD (dT p1.sub)<|oB 1 h37 k))
  have k:=oB 1 h5 k
  rcases spl h with⟨h40,h⟩|⟨h40,h⟩
  obtain⟨r41,h42,h⟩:=obind h
  have k:=oB 1 h40 k
  rcases spl h with⟨h43,h⟩|⟨h43,h⟩
  obtain⟨x44,h45,h⟩:=obind h
  obtain⟨r46,h47,h⟩:=obind h
  obtain⟨r48,h49,h⟩:=obind h
  obtain rfl:=sj h
  exact k290 (tF q290 1 [] (oD (dT r48.t.sub)<|oC 0 [] (c330 h49)<|oC 1 [] (c25 h47)<|oA 1 (ix22 (o:=.no) h45)<|oK 1 [] h43 (c77 h42) k))
  obtain⟨r50,h51,h⟩:=obind h
  have k:=oB 1 h40<|oK 1 [] h43 (c77 h42) k
  rcases spl h with⟨h52,h⟩|⟨h52,h⟩
  obtain⟨r53,h54,h⟩:=obind h
  obtain rfl:=sj h
  exact k290 (tF q290 1 [] (oD (dT r53.t.sub)<|oC 1 [] (ih331 _ _ _ _ h54)<|oK 1 [] h52 (c77 h51) k))
  have k:=oK 1 [] h52 (c77 h51) k
  rcases spl h with⟨h55,h⟩|⟨h55,h⟩
  obtain⟨r56,h57,h⟩:=obind h
  obtain rfl:=sj h
  exact k290 (tF q290 1 [] (oD (dT r56.t.sub)<|oC 1 [] (ih332 _ _ _ _ h57)<|oB 1 h55 k))
  obtain rfl:=sj h
  exact k290 (tF q290 2 [] (oD (dT p1.sub)<|oB 1 h55 k))
  have k:=oB 1 h40<|oB 1 h40 k
  rcases spl h with⟨h58,h⟩|⟨h58,h⟩
  obtain⟨r59,h60,h⟩:=obind h
  obtain rfl:=sj h
  exact k290 (tF q290 1 [] (oD (dT r59.t.sub)<|oC 1 [] (ih332 _ _ _ _ h60)<|oB 1 h58 k))
  obtain rfl:=sj h
  exact k290 (tF q290 2 [] (oD (dT p1.sub)<|oB 1 h58 k))
  intro p0 p1 p2 r h
  rw[e331]at h
  obtain⟨r1,h2,h⟩:=obind h
  obtain⟨r3,h4,h⟩:=obind h
  obtain⟨x5,h6,h⟩:=obind h
  have k:=oA 0 (ix22 (o:=.no) h6)<|oC 1 [] (c78 h4)<|oC 1 [] (c76 h2) o0
  rcases spl h with⟨h7,h⟩|⟨h7,h⟩
  obtain rfl:=sj h
  exact k331 (tF q331 2 [] (oD (dT p1.sub)<|oB 2 h7 k))
  obtain⟨x8,h9,h⟩:=obind h
  obtain⟨r10,h11,h⟩:=obind h
  have k:=oC 1 [] (ih358 _ _ _ _ h11)<|oA 0 (ix23 (o:=(.st 0 3)) h9)<|oB 2 h7 k
  rcases spl h with⟨h12,h⟩|⟨h12,h⟩
  obtain rfl:=sj h
  exact k331 (tF q331 2 [] (oD (dT r10.2.2.t.sub)<|oB 5 h12 k))
  have k:=oB 5 h12 k
  rcases spl h with⟨h13,h⟩|⟨h13,h⟩
  obtain rfl:=sj h
  exact k331 (tF q331 3 [] (oD (dT p1.sub)<|oB 0 h13 k))
  obtain⟨x14,h15,h⟩:=obind h
  have k:=oA 1 (ix22 (o:=.no) h6)<|oA 0 (ix22 (o:=.no) h15)<|oB 0 h13 k
  rcases spl h with⟨h16,h⟩|⟨h16,h⟩
  obtain rfl:=sj h
  exact k331 (tF q331 3 [] (oD (dT p1.sub)<|oB 1 h16 k))
  obtain⟨x17,h18,h⟩:=obind h
  obtain⟨x19,h20,h⟩:=obind h
  obtain⟨r21,h22,h⟩:=obind h
  obtain⟨r23,h24,h⟩:=obind h
  obtain rfl:=sj h
  exact k331 (tF q331 1 [] (oD (dT r23.t.sub)<|oC 1 [] (c330 h24)<|oC 0 [] (c25 h22)<|oF 2 (slFromO23 (o:=(.st 0 3)) h20)<|oA 2 (ix23 (o:=.no) h18)<|oA 0 (ix22 (o:=.no) h6)<|oB 1 h16 k))
  intro p0 p1 p2 r h
  rw[e332]at h
  obtain⟨r1,h2,h⟩:=obind h
  obtain⟨r3,h4,h⟩:=obind h
  obtain⟨r5,h6,h⟩:=obind h
  have k:=oC 2 [] (c78 h4)<|oC 1 [] (c76 h2) o0
  rcases spl h with⟨h7,h⟩|⟨h7,h⟩
  obtain⟨x8,h9,h⟩:=obind h
  obtain⟨r10,h11,h⟩:=obind h
  have k:=oC 1 [] (c359 h11)<|oA 3 (ix22 (o:=.no) h9)<|oK 1 [] h7 (c77 h6) k
  rcases spl h with⟨h12,h⟩|⟨h12,h⟩
  obtain rfl:=sj h
  exact k332 (tF q332 2 [] (oD (dT p1.sub)<|oB 0 h12 k))
  obtain⟨x13,h14,h⟩:=obind h
  obtain⟨r15,h16,h⟩:=obind h
  have k:=oC 1 [] (ih358 _ _ _ _ h16)<|oA 1 (ix23 (o:=(.st 0 3)) h14)<|oC 3 [] (c359 h11)<|oA 1 (ix22 (o:=.no) h9)<|oB 0 h12 k
  rcases spl h with⟨h17,h⟩|⟨h17,h⟩
  obtain rfl:=sj h
  exact k332 (tF q332 2 [] (oD (dT r15.2.2.t.sub)<|oB 5 h17 k))
  have k:=oB 5 h17 k
  rcases spl h with⟨h18,h⟩|⟨h18,h⟩
  obtain rfl:=sj h
  exact k332 (tF q332 3 [] (oD (dT p1.sub)<|oB 0 h18 k))
  obtain⟨x19,h20,h⟩:=obind h
  have k:=oA 0 (ix22 (o:=.no) h20)<|oB 0 h18 k
  rcases spl h with⟨h21,h⟩|⟨h21,h⟩
  obtain rfl:=sj h
  exact k332 (tF q332 3 [] (oD (dT p1.sub)<|oB 2 h21 k))
  obtain⟨x22,h23,h⟩:=obind h
  obtain⟨x24,h25,h⟩:=obind h
  obtain⟨x26,h27,h⟩:=obind h
  obtain⟨r28,h29,h⟩:=obind h
  obtain⟨x30,h31,h⟩:=obind h
  obtain⟨r32,h33,h⟩:=obind h
  obtain⟨r34,h35,h⟩:=obind h
  obtain rfl:=sj h
  exact k332 (tF q332 1 [] (oD (dT r34.t.sub)<|oC 2 [] (c330 h35)<|oC 0 [] (c25 h33)<|oF 4 (slFromO23 (o:=(.st 0 3)) h31)<|oC 0 [] (c360 h29)<|oA 1 (slFrom23 h27)<|oF 6 (slToO23 (o:=(.st 0 3)) h25)<|oA 2 (ix23 (o:=.no) h23)<|oB 2 h21 k))
  obtain rfl:=sj h
  exact k332 (tF q332 3 [] (oD (dT p1.sub)<|oK 1 [] h7 (c77 h6) k))
  intro p0 p1 p2 r h
  rw[e358]at h
  obtain⟨r1,h2,h⟩:=obind h
  have k:=oC 1 [] (ih232 _ _ _ _ h2) o0
  rcases spl h with⟨h3,h⟩|⟨h3,h⟩
  obtain rfl:=sj h
  exact k358 (tF q358 2 [] (oD (dT r1.t.sub)<|oD (dT ([]:List Tm))<|oB 2 h3 k))
  obtain⟨r4,h5,h⟩:=obind h
  have k:=oC 1 [] (c26 h5)<|oB 2 h3 k
  rcases spl h with⟨h6,h⟩|⟨h6,h⟩
  obtain rfl:=sj h
  exact k358 (tF q358 2 [] (oD (dT r1.t.sub)<|oD (dT ([]:List Tm))<|oB 0 h6 k))
  obtain⟨r7,h8,h⟩:=obind h
  obtain rfl:=sj h
  exact k358 (tF q358 2 [] (oD (dT r1.t.sub)<|oD (dT r7)<|oC 1 [] (c78 h8)<|oB 0 h6 k))
theorem c232{qq p0 p1 p2 r}(h:e232 qq p0 p1 p2=some r):K232 p0 p1 p2 r Ct:=(a232_232Ldu_290_331_332_358 _).1 _ _ _ _ h
section
variable {N:ByteArray->Bool} {l:List Ent}
theorem ev_hd0{t:Tm}(hs:shapedT t=true):Evt (fun q=>e76 q t) (hdT t):=by
 simp only[e76];exact ev_rHeadL t.nodes t (shapedT_spec hs).2.2 (Nat.le_refl _)
theorem ev_ar0{t:Tm}(hs:shapedT t=true):Evt (fun q=>e78 q t) (arT t):=ev_rArgs t.nodes t (shapedT_spec hs).2.2 (Nat.le_refl _) (shapedT_spec hs).1
def Q0(l:List Ent)(t:Tm)(r:Got):Prop:=r.e=0->r=Got.mk t 0 false 0∧Br l t t 0 0
theorem q0_bad{t:Tm}{r:Got}(h:r.e≠0):Q0 l t r:=fun h'=>absurd h' h
theorem tot_target0(hE:AllE N l){x:Tm}(hs:shapedT x=true)(H:Tot (fun q=>e232 q l x 0) (Q0 l x)):Tot (fun q=>e358 q l x 0)
  (fun r=>r.2.2.e=0->r.2.2=Got.mk x 0 false 0∧Br l x x 0 0∧((isCon l x∧r.1=(hdT x).n∧r.2.1=arT x)∨(¬isCon l x∧r.1 = -1))):=by
 refine Tot.succ ?_
 simp only[e358]
 refine H.bind fun r1 h1=>Tot.ite (fun he=>Tot.ret fun h0=>?_) fun he=>?_
 ·have:r1.e=0:=h0
  rw[this]at he;cases he
 ·have he':r1.e=0:=by simpa using he
  obtain⟨rfl,hb⟩:=h1 he'
  refine Tot.bind (P:=fun n=>n=if isCon l x then(hdT x).n else -1) ((ev_rCon l hE x hs).tot rfl) fun n hn=>?_
  by_cases hc:isCon l x
  ·rw[if_pos hc]at hn
   have:=isCon_spec hs hc
   refine Tot.ite (fun h=>?_) fun _=>Tot.bind (P:=fun a=>a=arT x) ((ev_ar0 hs).tot rfl) fun a ha=>Tot.ret fun _=>⟨rfl,hb,.inl ⟨hc,hn,ha⟩⟩
   have:=of_decide_eq_true h;omega
  ·rw[if_neg hc]at hn
   refine Tot.ite (fun _=>Tot.ret fun _=>⟨rfl,hb,.inr ⟨hc,rfl⟩⟩) fun h=>?_
   have:=of_decide_eq_false h;omega
theorem tot_field0(hE:AllE N l){t:Tm}(hs:shapedT t=true)(h6:(hdT t).k=6)(h4:isT l (hdT t).n 4=true)(H:∀x∈arT t,Tot (fun q=>e232 q l x 0) (Q0 l x)):Tot (fun q=>e331 q l t 0) (Q0 l t):=by
 have hi:=isT_spec h4
 have hk:kindT l (hdT t)=4:=by unfold kindT;rw[if_pos h6,if_pos hi.2.1];exact hi.2.2
 have hpj:=(entryT_spec (hE.2 _ hi.1 hi.2.1)).2.2.2.1 hi.2.2
 unfold projT at hpj
 simp only[Bool.and_eq_true]at hpj
 have ho:=ownedT_spec hpj.1
 have hf1:isT l (ent l (hdT t).n).fam 1=true:=by unfold isT;simp only[Bool.and_eq_true,decide_eq_true_eq,beq_iff_eq];exact⟨⟨ho.1,by omega⟩,ho.2.2.1⟩
 have hfi:=isT_spec hf1
 have hfam:=familyT_spec ((entryT_spec (hE.2 _ hfi.1 hfi.2.1)).2.1 hfi.2.2)
 have hpl:(ent l (hdT t).n).place<(ent l (ent l (hdT t).n).fam).fields.length:=by
  have:=ho.2.2.2.2.2;unfold ownL at this;rw[if_pos hi.2.2]at this;exact this
 have hne:(ent l (ent l (hdT t).n).fam).fields≠[]:=fun h=>by rw[h]at hpl;have:=ho.2.2.2.2.1;simp at hpl;omega
 have hl:=(shapedT_spec hs).1
 have hal:=ar_len t (shapedT_spec hs).2.2
 have act:actT l t=if ((arT t).length:Int)≤(ent l (hdT t).n).pars then .none else .tgt (nth (arT t) (ent l (hdT t).n).pars):=by
  unfold actT
  rw[if_neg (by rintro ⟨a,_⟩;omega),if_neg (by omega),if_pos hk]
 refine Tot.succ ?_
 simp only[e331]
 refine Tot.bind (P:=fun a=>a=hdT t) ((ev_hd0 hs).tot rfl) fun a e=>?_
 subst e
 refine Tot.bind (P:=fun a=>a=arT t) ((ev_ar0 hs).tot rfl) fun a e=>?_
 subst e
 refine Tot.pure (gidx_ent hi.1 hi.2.1) (Tot.ite (fun h=>Tot.ret fun _=>⟨rfl,.stop (by rw[act,if_pos (of_decide_eq_true h)])⟩) fun h=>?_)
 have h':=of_decide_eq_false h
 rw[if_neg h']at act
 refine Tot.pure (gidx_nth (by omega) (by omega)) ?_
 have hxm:nth (arT t) (ent l (hdT t).n).pars∈arT t:=nth_mem (by omega) (by omega)
 have hxs:=ar_shaped hs hxm
 refine(tot_target0 hE hxs (H _ hxm)).bind fun r hr=>Tot.ite (fun he=>Tot.ret (q0_bad (by simpa using he))) fun he=>?_
 obtain⟨h1,hb,h2⟩:=hr (by simpa using he)
 rcases h2 with⟨hc,h2,h3⟩|⟨hc,h2⟩
 ·have hcs:=isCon_spec hxs hc
  refine Tot.ite (fun h=>?_) fun _=>?_
  ·have:=of_decide_eq_true h;omega
  rw[h2]
  refine Tot.pure (gidx_ent hcs.1 hcs.2.1) (Tot.ite (fun h=>Tot.ret fun _=>?_) fun h=>?_)
  ·rw[h1]
   refine⟨rfl,.tgtN act hb ?_⟩
   unfold reactT
   rw[if_pos hk,if_neg]
   rintro ⟨-,h5⟩
   simp[h5]at h
  ·have hff:(ent l (hdT (nth (arT t) (ent l (hdT t).n).pars)).n).fam=(ent l (hdT t).n).fam:=by simpa using h
   obtain⟨c,-,-,-,-,-,-,hpis,-,huniq⟩:=rec_all hE hf1 hne
   have hcc:=huniq _ hcs.1 hcs.2.1 hcs.2.2.1 hff
   have hx4:=hcs.2.2.2
   rw[hcc]at hx4
   have hxl:=ar_len _ (shapedT_spec hxs).2.2
   have hxn:=(shapedT_spec hxs).1
   have hp0:=ho.2.2.2.1
   have hpl0:=ho.2.2.2.2.1
   rw[w64_id (x:=(ent l (hdT t).n).pars+(ent l (hdT t).n).place) (by omega) (by omega)]
   rw[h3]
   refine Tot.pure (gidx_nth (by omega) (by omega)) ?_
   rw[w64_id (x:=(ent l (hdT t).n).pars+1) (by omega) (by omega)]
   refine Tot.pure (gsl_mid (by omega) (by omega) (by omega)) (Tot.bind (P:=fun _=>True) ((ev_rApply _ _ (by simp;omega)).tot trivial) fun y _=>?_)
   rw[h1]
   exact(tot_taken0 y false).bind fun z hz=>Tot.ret (q0_bad hz)
 ·refine Tot.ite (fun _=>Tot.ret fun _=>?_) fun h=>?_
  ·rw[h1]
   refine⟨rfl,.tgtN act hb ?_⟩
   unfold reactT
   rw[if_pos hk,if_neg fun h=>hc h.1]
  ·have:=of_decide_eq_false h;omega
theorem tot_elim0(hE:AllE N l){t:Tm}(hs:shapedT t=true)(h7:(hdT t).k=7)(H:∀x∈arT t,Tot (fun q=>e232 q l x 0) (Q0 l x)):Tot (fun q=>e332 q l t 0) (Q0 l t):=by
 have hl:=(shapedT_spec hs).1
 have hal:=ar_len t (shapedT_spec hs).2.2
 have hkn:kindT l (hdT t)=0:=by unfold kindT;rw[if_neg (by omega)]
 have act:actT l t=if isT l (hdT t).n 1=true∧argsT (ent l (hdT t).n)≤(arT t).length then .tgt (nth (arT t) (argsT (ent l (hdT t).n)-1))else .none:=by
  unfold actT
  rw[if_neg (by rintro ⟨a,_⟩;omega),if_neg (by omega),if_neg (by omega),if_pos h7]
 refine Tot.succ ?_
 simp only[e332]
 refine Tot.bind (P:=fun a=>a=hdT t) ((ev_hd0 hs).tot rfl) fun a e=>?_
 subst e
 refine Tot.bind (P:=fun a=>a=arT t) ((ev_ar0 hs).tot rfl) fun a e=>?_
 subst e
 refine Tot.bind (P:=fun b=>b=isT l (hdT t).n 1) ((ev_rIs l (hdT t).n 1).tot rfl) fun b hb1=>Tot.ite (fun hT=>?_) fun hT=>Tot.ret fun _=>⟨rfl,.stop (by rw[act,if_neg];rintro ⟨h,-⟩;rw[h,hT]at hb1;cases hb1)⟩
 rw[hT]at hb1
 have hi:=isT_spec hb1.symm
 have hfam:=familyT_spec ((entryT_spec (hE.2 _ hi.1 hi.2.1)).2.1 hi.2.2)
 have hargs:argsT (ent l (hdT t).n)=(ent l (hdT t).n).pars+2+(ent l (hdT t).n).cons.length+(ent l (hdT t).n).inds:=by unfold argsT;rw[if_pos hi.2.2]
 refine Tot.pure (gidx_ent hi.1 hi.2.1) ?_
 refine Tot.bind (P:=fun m=>m=argsT (ent l (hdT t).n)) ?_ fun m hm=>?_
 ·simp only[e359]
  refine Tot.ret ?_
  rw[w64_id (x:=(ent l (hdT t).n).pars+1) (by omega) (by omega),w64_id (x:=(ent l (hdT t).n).pars+1+((ent l (hdT t).n).cons.length:Int)) (by omega) (by omega),w64_id (x:=(ent l (hdT t).n).pars+1+((ent l (hdT t).n).cons.length:Int)+(ent l (hdT t).n).inds) (by omega) (by omega),w64_id (by omega) (by omega),hargs]
  omega
 subst hm
 refine Tot.ite (fun h=>Tot.ret fun _=>⟨rfl,.stop (by rw[act,if_neg];rintro ⟨-,h2⟩;have:=of_decide_eq_true h;omega)⟩) fun h=>?_
 have h':=of_decide_eq_false h
 rw[if_pos ⟨hb1.symm,by omega⟩]at act
 rw[w64_id (x:=argsT (ent l (hdT t).n)-1) (by omega) (by omega)]
 refine Tot.pure (gidx_nth (by omega) (by omega)) ?_
 have hxm:nth (arT t) (argsT (ent l (hdT t).n)-1)∈arT t:=nth_mem (by omega) (by omega)
 have hxs:=ar_shaped hs hxm
 refine(tot_target0 hE hxs (H _ hxm)).bind fun r hr=>Tot.ite (fun he=>Tot.ret (q0_bad (by simpa using he))) fun he=>?_
 obtain⟨h1,hb,h2⟩:=hr (by simpa using he)
 rcases h2 with⟨hc,h2,h3⟩|⟨hc,h2⟩
 ·have hcs:=isCon_spec hxs hc
  refine Tot.ite (fun h=>?_) fun _=>?_
  ·have:=of_decide_eq_true h;omega
  rw[h2]
  refine Tot.pure (gidx_ent hcs.1 hcs.2.1) (Tot.ite (fun h=>Tot.ret fun _=>?_) fun h=>?_)
  ·rw[h1]
   refine⟨rfl,.tgtN act hb ?_⟩
   unfold reactT
   rw[if_neg (by omega),if_neg]
   rintro ⟨-,h5⟩
   simp[h5]at h
  ·have hff:(ent l (hdT (nth (arT t) (argsT (ent l (hdT t).n)-1))).n).fam=(hdT t).n:=by simpa using h
   obtain⟨A,y,hw,-,-,hApis,hA24,q0,q1,f0,f1,fk,fp,-⟩:=con_facts hE hcs.1 hcs.2.1 hcs.2.2.1
   rw[hff]at fp
   have hg:=(shapedT_spec (hd_shaped hs)).2.2
   obtain⟨lv,hsub,hlv⟩:=(head_spec (t:=hdT t) (by revert hg;cases hdT t with|mk k n s=>intro hg;exact(goodT_mk hg).1)).2.2.2.2.2.2.1 h7
   rw[hsub]
   refine Tot.pure (a:=lv) rfl ?_
   rw[w64_id (x:=(ent l (hdT t).n).pars+1) (by omega) (by omega),w64_id (x:=(ent l (hdT t).n).pars+1+((ent l (hdT t).n).cons.length:Int)) (by omega) (by omega)]
   have hxl:=ar_len _ (shapedT_spec hxs).2.2
   have hxn:=(shapedT_spec hxs).1
   have hx4:=hcs.2.2.2
   rw[h3]
   refine Tot.pure (gsl_mid (by omega) (by omega) (by omega)) (Tot.pure (gsl_mid (by omega) (by omega) (by omega)) ?_)
   have hrl:(partsT l (hdT (nth (arT t) (argsT (ent l (hdT t).n)-1))).n).recs.length=A.length-(ent l (hdT t).n).pars.toNat:=by
    have h9:(partsT l (hdT (nth (arT t) (argsT (ent l (hdT t).n)-1))).n).recs.length=(partsT l (hdT (nth (arT t) (argsT (ent l (hdT t).n)-1))).n).args.length:=by unfold partsT;exact recsT_len l _ _ _
    rw[h9];unfold partsT;simp only;rw[hw];simp;rw[fp]
   have hns:=nodes_spine t (shapedT_spec hs).2.2
   have hh2:2≤(hdT t).nodes:=by
    have:=nodes_sub (hdT t)
    rw[hsub,nodesL,nodesL]at this
    have:=nodes_pos lv;omega
   refine(tot_StepR l hE (hdT t).n lv.n _ _ _ hb1.symm hcs.1 hcs.2.1 hcs.2.2.1 hff ?_ ?_ (fun x hx=>bn_shaped (ar_shaped hs (List.mem_of_mem_drop (List.mem_of_mem_take hx)))) (fun x hx=>bn_shaped (ar_shaped hxs (List.mem_of_mem_drop (List.mem_of_mem_take hx)))) ?_).bind fun r28 _=>?_
   ·simp;omega
   ·rw[hrl];simp;omega
   ·rw[nodes_ap]
    have e1:(Tm.mk 7 (hdT t).n [Tm.mk 2 lv.n []]).nodes=2:=by rw[Tm.nodes,nodesL,nodesL,Tm.nodes,nodesL]
    have e2:=nodesL_take ((ent l (hdT t).n).pars+1+((ent l (hdT t).n).cons.length:Int)-0).toNat ((arT t).drop (0:Int).toNat)
    have e3:((arT t).drop (0:Int).toNat)=arT t:=rfl
    rw[e3]at e2 ⊢
    rw[e1];simp only[List.length_take];omega
   refine Tot.pure (gsl_mid (by omega) (by omega) (by omega)) (Tot.bind (P:=fun _=>True) ((ev_rApply _ _ (by simp;omega)).tot trivial) fun y _=>?_)
   rw[h1]
   exact(tot_taken0 y _).bind fun z hz=>Tot.ret (q0_bad hz)
 ·refine Tot.ite (fun _=>Tot.ret fun _=>?_) fun h=>?_
  ·rw[h1]
   refine⟨rfl,.tgtN act hb ?_⟩
   unfold reactT
   rw[if_neg (by omega),if_neg fun h=>hc h.1]
  ·have:=of_decide_eq_false h;omega
end
mutual
def e169:Nat->(List Ent)->Tm->Int->Option (Got)
 |0,_,_,_=>none
 |qq+1,p0,p1,p2=>
 e232 qq p0 p1 p2>>=fun r1=>
 if r1.e != 0 then
 some r1
 else
 e78 qq r1.t>>=fun r4=>
 if r1.t.k==4 then
 e169Ldv qq p0 r1 0 r1.t.sub [] r1.left
 else
 if r1.t.k==3 then
 e169Ldv qq p0 r1 0 r1.t.sub [] r1.left
 else
 e169Ldv qq p0 r1 0 r4 [] r1.left
def e169Ldv:Nat->(List Ent)->Got->Int->(List Tm)->(List Tm)->Int->Option (Got)
 |0,_,_,_,_,_,_=>none
 |qq+1,p0,r1,v10,v8,v9,vb1_3=>
 if decide (v10<(List.length v8:Int))then
 gidx v8 v10>>=fun x8=>
 e169 qq p0 x8 vb1_3>>=fun r10=>
 if r10.e != 0 then
 some r10
 else
 gapp 40 v9 [r10.t]>>=fun l13=>
 e169Ldv qq p0 r1 (w64 (v10+1)) v8 l13 r10.left
 else
 if r1.t.k==4 then
 e171 qq r1.t.k 0 v9>>=fun r16=>
 some (Got.mk r16 vb1_3 r1.did r1.e)
 else
 if r1.t.k==3 then
 e171 qq r1.t.k 0 v9>>=fun r19=>
 some (Got.mk r19 vb1_3 r1.did r1.e)
 else
 e76 qq r1.t>>=fun r21=>
 e25 qq r21 v9>>=fun r23=>
 some (Got.mk r23 vb1_3 r1.did r1.e)
end
def g169LdvE0(j:Nat->Value)(p0:List Ent)(r1:Got)(v10:Int)(v8 v9:List Tm)(vb1_3:Int):=sp j 86 0 [(0,slv entL p0 .no),(6,.mp 0 0),(7,.mp 1 0),(8,slv tmCells v8 .no),(9,slv tmCells v9 (.st 0 3)),(10,ai v10)]
def g169LdvS0(p0:List Ent)(r1:Got)(v10:Int)(v8 v9:List Tm)(vb1_3:Int):LSt:=⟨[(0,.cells [ai 0,ai 0,slv tmCells ([]:List Tm) .nl,ai 0,ab false,ai 0]),(1,.cells [ai r1.t.k,ai r1.t.n,slv tmCells r1.t.sub .no,ai vb1_3,ab r1.did,ai r1.e])],2,[0],1,[]⟩
def g169LdvE1(j:Nat->Value)(p0:List Ent)(r1:Got)(v10:Int)(v8 v9:List Tm)(vb1_3:Int):=sp j 86 0 [(0,slv entL p0 .no),(6,.mp 0 0),(7,.mp 1 0),(8,slv tmCells v8 (.st 0 3)),(9,slv tmCells v9 (.st 1 3)),(10,ai v10)]
def g169LdvS1(p0:List Ent)(r1:Got)(v10:Int)(v8 v9:List Tm)(vb1_3:Int):LSt:=⟨[(0,.cells [ai 0,ai 0,slv tmCells ([]:List Tm) .nl,ai 0,ab false,ai 0]),(1,.cells [ai r1.t.k,ai r1.t.n,slv tmCells r1.t.sub .no,ai vb1_3,ab r1.did,ai r1.e])],2,[0,1],2,[]⟩
abbrev K169 (p0:List Ent) (p1:Tm) (p2:Int) (r:Got) (C:Cf):Prop:=C 169 [] [slv entL p0 .no,tmA p1,ai p2] (gotA r) [] 0
theorem q169:Qf 169 Tryz.f169:=⟨Tryz.func169,by kernel_rfl⟩
theorem k169{p0 p1 p2 r}(h:K169 p0 p1 p2 r Ci):K169 p0 p1 p2 r Ct:=⟨h,⟨⟨tv,dE _⟩,⟨tv,tv,⟨tv,dT _⟩,tv⟩,tv,tv⟩,forall_nil,⟨tv,tv,dT _,tv,tv,tv,tv⟩,forall_nil⟩
theorem a169_169Ldv:∀qq:Nat,(∀p0 p1 p2 r,e169 qq p0 p1 p2=some r->K169 p0 p1 p2 r Ct)∧(∀p0 r1 v10 v8 v9 vb1_3 r,e169Ldv qq p0 r1 v10 v8 v9 vb1_3=some r->(∀j,Dl Tryz.prog 0 (inn (inn (rgt (lft (rgt (rgt (rgt (rgt (rgt (rgt (bod Tryz.f169))))))))))) (g169LdvE0 j p0 r1 v10 v8 v9 vb1_3) (g169LdvS0 p0 r1 v10 v8 v9 vb1_3) (frameQ Tryz.prog 0 (FinQ Tryz.prog 0 Tryz.f169 (gotA r) [] 0) [.blk 0,.seq (rgt (rgt (rgt (rgt (rgt (rgt (rgt (bod Tryz.f169))))))))]))∧(∀j,Dl Tryz.prog 0 (inn (inn (rgt (lft (rgt (rgt (rgt (rgt (rgt (rgt (bod Tryz.f169))))))))))) (g169LdvE1 j p0 r1 v10 v8 v9 vb1_3) (g169LdvS1 p0 r1 v10 v8 v9 vb1_3) (frameQ Tryz.prog 0 (FinQ Tryz.prog 0 Tryz.f169 (gotA r) [] 0) [.blk 0,.seq (rgt (rgt (rgt (rgt (rgt (rgt (rgt (bod Tryz.f169))))))))]))):=by
 intro qq
 induction qq with
 |zero=>
  exact⟨fun _ _ _ _ h=>nn h,fun _ _ _ _ _ _ _ h=>nn h⟩
 |succ qq ih=>
  obtain⟨ih169,ih169Ldv⟩:=ih
  refine⟨?_,?_⟩
  intro p0 p1 p2 r h
  rw[e169]at h
  obtain⟨r1,h2,h⟩:=obind h
  have k:=oC 1 [] (c232 h2) o0
  rcases spl h with⟨h3,h⟩|⟨h3,h⟩
  obtain rfl:=sj h
  exact k169 (tF q169 2 [] (oD (dT r1.t.sub)<|oB 2 h3 k))
  obtain⟨r4,h5,h⟩:=obind h
  have k:=oC 1 [] (c78 h5)<|oB 2 h3 k
  rcases spl h with⟨h6,h⟩|⟨h6,h⟩
  exact k169 (tH q169 2 [(none,9,3)] [1,2] [1] [0,6,7,8,9,10] (oD (dT ([]:List Tm))<|oD (dT r1.t.sub)<|oD (dE p0)<|oD (dT r1.t.sub)<|oD (dT ([]:List Tm))<|oB 1 h6 k) ((ih169Ldv _ _ _ _ _ _ _ h).1))
  have k:=oB 1 h6 k
  rcases spl h with⟨h7,h⟩|⟨h7,h⟩
  exact k169 (tH q169 2 [(none,9,3)] [1,2] [1] [0,6,7,8,9,10] (oD (dT ([]:List Tm))<|oD (dT r1.t.sub)<|oD (dE p0)<|oD (dT r1.t.sub)<|oD (dT ([]:List Tm))<|oB 1 h7 k) ((ih169Ldv _ _ _ _ _ _ _ h).1))
  exact k169 (tH q169 1 [(none,9,3)] [1,2] [0,1] [0,6,7,8,9,10] (oD (dT ([]:List Tm))<|oD (dT r4)<|oD (dE p0)<|oD (dT r1.t.sub)<|oD (dT ([]:List Tm))<|oB 1 h7 k) ((ih169Ldv _ _ _ _ _ _ _ h).2))
  intro p0 r1 v10 v8 v9 vb1_3 r h
  rw[e169Ldv]at h
  refine⟨?_,?_⟩
  rcases spl h with⟨h7,h⟩|⟨h7,h⟩
  obtain⟨x8,h9,h⟩:=obind h
  obtain⟨r10,h11,h⟩:=obind h
  have k:=oC 2 [] (ih169 _ _ _ _ h11)<|oA 0 (ix23 (o:=.no) h9)<|oB 1 h7 o0
  rcases spl h with⟨h12,h⟩|⟨h12,h⟩
  obtain rfl:=sj h
  exact fun j=>lF 2 [] (oD (dT r10.t.sub)<|oB 2 h12 k)
  obtain⟨l13,h14,h⟩:=obind h
  exact fun j=>lH 1 [] [0,1] [1] [0,6,7,8,9,10] (oD (dT l13)<|oD (dT v8)<|oD (dE p0)<|oD (dT r1.t.sub)<|oD (dT ([]:List Tm))<|oP 0 (apS23 h14 (by simp))<|oS 3 (obLitR tm_eq [r10.t])<|oB 2 h12 k) ((ih169Ldv _ _ _ _ _ _ _ h).1)
  have k:=oB 1 h7 o0
  rcases spl h with⟨h15,h⟩|⟨h15,h⟩
  obtain⟨r16,h17,h⟩:=obind h
  obtain rfl:=sj h
  exact fun j=>lF 3 [] (oD (dT r16.sub)<|oC 1 [] (c171 h17)<|oB 1 h15 k)
  have k:=oB 1 h15 k
  rcases spl h with⟨h18,h⟩|⟨h18,h⟩
  obtain⟨r19,h20,h⟩:=obind h
  obtain rfl:=sj h
  exact fun j=>lF 3 [] (oD (dT r19.sub)<|oC 1 [] (c171 h20)<|oB 1 h18 k)
  obtain⟨r21,h22,h⟩:=obind h
  obtain⟨r23,h24,h⟩:=obind h
  obtain rfl:=sj h
  exact fun j=>lF 3 [] (oD (dT r23.sub)<|oC 0 [] (c25 h24)<|oC 1 [] (c76 h22)<|oB 1 h18 k)
  rcases spl h with⟨h7,h⟩|⟨h7,h⟩
  obtain⟨x8,h9,h⟩:=obind h
  obtain⟨r10,h11,h⟩:=obind h
  have k:=oC 2 [] (ih169 _ _ _ _ h11)<|oA 0 (ix23 (o:=(.st 0 3)) h9)<|oB 1 h7 o0
  rcases spl h with⟨h12,h⟩|⟨h12,h⟩
  obtain rfl:=sj h
  exact fun j=>lF 2 [] (oD (dT r10.t.sub)<|oB 2 h12 k)
  obtain⟨l13,h14,h⟩:=obind h
  exact fun j=>lH 1 [] [0,1] [0,2] [0,6,7,8,9,10] (oD (dT l13)<|oD (dT v8)<|oD (dE p0)<|oD (dT r1.t.sub)<|oD (dT ([]:List Tm))<|oP 0 (apS23 h14 (by simp))<|oS 3 (obLitR tm_eq [r10.t])<|oB 2 h12 k) ((ih169Ldv _ _ _ _ _ _ _ h).2)
  have k:=oB 1 h7 o0
  rcases spl h with⟨h15,h⟩|⟨h15,h⟩
  obtain⟨r16,h17,h⟩:=obind h
  obtain rfl:=sj h
  exact fun j=>lF 3 [] (oD (dT r16.sub)<|oC 1 [] (c171 h17)<|oB 1 h15 k)
  have k:=oB 1 h15 k
  rcases spl h with⟨h18,h⟩|⟨h18,h⟩
  obtain⟨r19,h20,h⟩:=obind h
  obtain rfl:=sj h
  exact fun j=>lF 3 [] (oD (dT r19.sub)<|oC 1 [] (c171 h20)<|oB 1 h18 k)
  obtain⟨r21,h22,h⟩:=obind h
  obtain⟨r23,h24,h⟩:=obind h
  obtain rfl:=sj h
  exact fun j=>lF 3 [] (oD (dT r23.sub)<|oC 0 [] (c25 h24)<|oC 1 [] (c76 h22)<|oB 1 h18 k)
theorem c169{qq p0 p1 p2 r}(h:e169 qq p0 p1 p2=some r):K169 p0 p1 p2 r Ct:=(a169_169Ldv _).1 _ _ _ _ h
section
variable {N:ByteArray->Bool} {l:List Ent}
theorem kind_is{t:Tm}{k:Int}(hs:shapedT t=true)(hk:k≠0)(h:kindT l (hdT t)=k):isT l (hdT t).n k=true:=by
 have h1:=kindT_spec h hk
 have hn:=good_n (shapedT_spec (hd_shaped hs)).2.2
 unfold isT;simp only[Bool.and_eq_true,decide_eq_true_eq,beq_iff_eq]
 exact⟨⟨hn,h1.2.1⟩,h1.2.2⟩
theorem tot_Once0(hE:AllE N l){t:Tm}(hs:shapedT t=true)(H:∀x∈arT t,Tot (fun q=>e232 q l x 0) (Q0 l x)):Tot (fun q=>e290 q l t 0) (Q0 l t):=by
 have hl:=(shapedT_spec hs).1
 have hal:=ar_len t (shapedT_spec hs).2.2
 have hhs:=hd_shaped hs
 have hg:=(shapedT_spec hhs).2.2
 have elim:=fun(h7:(hdT t).k=7)=>tot_elim0 hE hs h7 H
 have rest7:¬((hdT t).k=4∧0<(arT t).length)->(hdT t).k≠6->Tot (fun q=>if ((hdT t).k==7)=true then e332 q l t 0>>=fun r=>some r else some (Got.mk t 0 false 0)) (Q0 l t):=fun h4 h6=>by
  refine Tot.ite (fun h7=>(elim (by simpa using h7)).bind fun r hr=>Tot.ret hr) fun h7=>Tot.ret fun _=>⟨rfl,.stop ?_⟩
  have h7':(hdT t).k≠7:=by simpa using h7
  have hk:kindT l (hdT t)=0:=by unfold kindT;rw[if_neg h6]
  unfold actT
  rw[if_neg h4,if_neg (by omega),if_neg (by omega),if_neg h7']
 have body:isT l (hdT t).n 3=true->∀f:Nat->Option Got,f=(fun q=>gidx l (hdT t).n>>=fun x=>e25 q x.body (arT t)>>=fun r=>e330 q r false 0>>=fun r=>some r)->Tot f (Q0 l t):=fun h f e=>by
  subst e
  have hi:=isT_spec h
  exact Tot.pure (gidx_ent hi.1 hi.2.1) (Tot.bind (P:=fun _=>True) ((ev_rApply _ _ (by omega)).tot trivial) fun y _=>(tot_taken0 y false).bind fun z hz=>Tot.ret (q0_bad hz))
 have field:=fun(h6:(hdT t).k=6) (h4:isT l (hdT t).n 4=true)=>tot_field0 hE hs h6 h4 H
 have stop6:¬((hdT t).k=4∧0<(arT t).length)->(hdT t).k=6->isT l (hdT t).n 3=false->isT l (hdT t).n 4=false->actT l t = .none:=fun h4 h6 a3 a4=>by
  unfold actT
  rw[if_neg h4,if_neg fun h=>(by rw[kind_is hs (by decide) h]at a3;cases a3),if_neg fun h=>(by rw[kind_is hs (by decide) h]at a4;cases a4),if_neg (by omega)]
 refine Tot.succ ?_
 simp only[e290]
 refine Tot.bind (P:=fun a=>a=hdT t) ((ev_hd0 hs).tot rfl) fun a e=>?_
 subst e
 refine Tot.bind (P:=fun a=>a=arT t) ((ev_ar0 hs).tot rfl) fun a e=>?_
 subst e
 have rest6:¬((hdT t).k=4∧0<(arT t).length)->(hdT t).k=6->∀g:Nat->Option Got,(Tot g (Q0 l t))->True:=fun _ _ _ _=>trivial
 refine Tot.ite (fun h4=>Tot.ite (fun h0=>?_) fun h0=>?_) fun h4=>?_
 ·have h4':(hdT t).k=4:=by simpa using h4
  obtain⟨a,b,hsub,ga,gb⟩:=nth_sub2 hg (.inr (.inl h4'))
  have h0':=of_decide_eq_true h0
  rw[hsub]
  refine Tot.pure (a:=b) rfl ?_
  have hx:nth (arT t) 0∈arT t:=nth_mem (by omega) (by omega)
  refine Tot.pure (gidx_nth (by omega) (by omega)) ((tot_ManyR b [nth (arT t) 0] (good_bin _ gb) (fun x hx'=>by rw[List.mem_singleton.1 hx'];exact shaped_bin (ar_shaped hs hx)) (by simp)).bind fun r hr=>?_)
  refine Tot.pure (gsl_mid (by omega) (by omega) (by omega)) (Tot.bind (P:=fun _=>True) ((ev_rApply _ _ (by simp;omega)).tot trivial) fun y _=>(tot_taken0 y _).bind fun z hz=>Tot.ret (q0_bad hz))
 all_goals
  have hn4:¬((hdT t).k=4∧0<(arT t).length):=by
   rintro ⟨p,q⟩
   first
    | (have:=of_decide_eq_false h0;omega)
    | (rw[p]at h4;cases h4)
  refine Tot.ite (fun h6=>?_) fun h6=>rest7 hn4 (by simpa using h6)
  have h6':(hdT t).k=6:=by simpa using h6
  refine Tot.bind (P:=fun b=>b=isT l (hdT t).n 3) ((ev_rIs l (hdT t).n 3).tot rfl) fun b3 hb3=>Tot.ite (fun h3=>body (by rw[←hb3];exact h3) _ rfl) fun h3=>?_
  refine Tot.bind (P:=fun b=>b=isT l (hdT t).n 4) ((ev_rIs l (hdT t).n 4).tot rfl) fun b4 hb4=>Tot.ite (fun h4=>(field h6' (by rw[←hb4];exact h4)).bind fun r hr=>Tot.ret hr) fun h4=>?_
  refine Tot.ite (fun h7=>?_) fun _=>Tot.ret fun _=>⟨rfl,.stop (stop6 hn4 h6' (by rw[←hb3];exact h3) (by rw[←hb4];exact h4))⟩
  have h7':(hdT t).k=7:=by simpa using h7
  omega
theorem tot_bring_of{t:Tm}(H:Tot (fun q=>e290 q l t 0) (Q0 l t)):Tot (fun q=>e232 q l t 0) (Q0 l t):=by
 refine Tot.succ ?_
 simp only[e232]
 refine Tot.succ ?_
 simp only[e232Ldu,tm_eta]
 refine Tot.ite (fun _=>Tot.ite (fun _=>?_) fun h=>?_) fun h=>?_
 ·refine H.bind fun r hr=>?_
  refine Tot.succ ?_
  simp only[e232Ldu,tm_eta]
  rw[w64_id (x:=0+1) (by omega) (by omega)]
  refine Tot.ite (fun h=>?_) fun _=>Tot.ret hr
  have:=of_decide_eq_true h;omega
 ·simp at h
 ·have:=of_decide_eq_false h;omega
theorem tot_Bring0(hE:AllE N l):∀(n:Nat) (t:Tm),t.nodes≤n->shapedT t=true->Tot (fun q=>e232 q l t 0) (Q0 l t)
 |0,t,hn,hs=>by have:=nodes_pos t;omega
 |n+1,t,hn,hs=>tot_bring_of (tot_Once0 hE hs fun x hx=>tot_Bring0 hE n x (by have:=((hd_spec t (shapedT_spec hs).2.2).2.2.2.2 x hx).2.1;omega) (ar_shaped hs hx))
def NS(l:List Ent):Nat->Tm->Prop
 |0,_=>False
 |n+1,t=>Br l t t 0 0∧∀p∈partsN t,NS l n p
theorem NS.le:∀ {n m:Nat} {t:Tm},NS l n t->n≤m->NS l m t
 |0,_,_,h,_=>h.elim
 |n+1,0,_,_,h=>absurd h (by omega)
 |n+1,m+1,t,h,hm=>⟨h.1,fun p hp=>(h.2 p hp).le (by omega)⟩
theorem parts_nodes{t:Tm}(hg:goodT t=true){p:Tm}(h:p∈partsN t):p.nodes<t.nodes:=by
 unfold partsN at h
 split at h
 ·have:=nodes_sub t;have:=nodesL_mem p h;omega
 ·split at h
  ·exact((hd_spec t hg).2.2.2.2 p h).2.1
  ·exact nomatch h
theorem tot_Norm0(hE:AllE N l):∀(n:Nat) (t:Tm),t.nodes≤n->shapedT t=true->Tot (fun q=>e169 q l t 0) fun r=>r.e=0->r.left=0∧NS l n t
 |0,t,hn,hs=>by have:=nodes_pos t;omega
 |n+1,t,hn,hs=>by
  have hl:=(shapedT_spec hs).1
  have hg:=(shapedT_spec hs).2.2
  have hal:=ar_len t hg
  have L:Br l t t 0 0->∀(ts:List Tm),ts.length≤8192->∀(r:List Tm) (v:Nat) (acc:List Tm),ts.drop v=r->acc.length=v->v≤ts.length->(∀x∈r,shapedT x=true∧x.nodes≤n) ->
    Tot (fun q=>e169Ldv q l (Got.mk t 0 false 0) (v:Int) ts acc 0) fun g=>g.e=0->g.left=0∧∀p∈r,NS l n p:=by
   intro hb ts hts r
   induction r with
   |nil=>
    intro v acc hd ha hv hr
    refine Tot.succ ?_
    simp only[e169Ldv]
    refine Tot.ite (fun h=>?_) fun _=>Tot.ite (fun _=>?_) fun _=>Tot.ite (fun _=>?_) fun _=>?_
    ·rw[drop_nil hd]at h;cases h
    ·exact Tot.pure rfl (Tot.ret fun _=>⟨rfl,fun p hp=>nomatch hp⟩)
    ·exact Tot.pure rfl (Tot.ret fun _=>⟨rfl,fun p hp=>nomatch hp⟩)
    ·exact Tot.bind (P:=fun _=>True) ((ev_hd0 hs).tot trivial) fun y _=>Tot.bind (P:=fun _=>True) ((ev_rApply _ _ (by omega)).tot trivial) fun z _=>Tot.ret fun _=>⟨rfl,fun p hp=>nomatch hp⟩
   |cons x r ih=>
    intro v acc hd ha hv hr
    have hlt:=drop_lt hd
    have hx:=hr x (by simp)
    refine Tot.succ ?_
    simp only[e169Ldv]
    refine Tot.ite (fun _=>Tot.pure (drop_idx hd) ((tot_Norm0 hE n x hx.2 hx.1).bind fun g hg=>Tot.ite (fun h=>Tot.ret fun h'=>?_) fun h=>Tot.pure (gapp_ok (by simp;omega)) ?_)) fun h=>?_
    ·rw[h']at h;cases h
    ·have:=hg (by simpa using h)
     rw[this.1,w64_nat v (by omega)]
     exact(ih (v+1) _ (drop_next hd) (by simp;omega) hlt fun y hy=>hr y (by simp[hy])).mono fun g h he=>⟨(h he).1,fun p hp=>by
      rcases List.mem_cons.1 hp with rfl|hp
      ·exact this.2
      ·exact(h he).2 p hp⟩
    ·rw[drop_dec hd]at h;cases h
  refine Tot.succ ?_
  simp only[e169]
  refine(tot_Bring0 hE (n+1) t hn hs).bind fun r1 h1=>Tot.ite (fun h=>Tot.ret fun h'=>?_) fun h=>?_
  ·rw[h']at h;cases h
  obtain⟨rfl,hb⟩:=h1 (by simpa using h)
  have hpl:(partsN t).length≤8192:=by
   unfold partsN
   split
   ·have:=nodesL_len t.sub;have:=nodes_sub t;omega
   ·split
    ·omega
    ·simp
  have fin:∀ts:List Tm,ts=partsN t->Tot (fun q=>e169Ldv q l (Got.mk t 0 false 0) 0 ts [] 0) fun r=>r.e=0->r.left=0∧NS l (n+1) t:=fun ts e=>by
   subst e
   exact(L hb _ hpl _ 0 [] rfl rfl (by simp) fun x hx=>⟨partsN_shaped hs hx,by have:=parts_nodes hg hx;omega⟩).mono fun g h he=>⟨(h he).1,hb,(h he).2⟩
  refine Tot.bind (P:=fun a=>a=arT t) ((ev_ar0 hs).tot rfl) fun a e=>?_
  subst e
  refine Tot.ite (fun h4=>fin _ ?_) fun h4=>Tot.ite (fun h3=>fin _ ?_) fun h3=>fin _ ?_
  ·unfold partsN;rw[if_pos (.inr (by simpa using h4))]
  ·unfold partsN;rw[if_pos (.inl (by simpa using h3))]
  ·have h4':t.k≠4:=by simpa using h4
   have h3':t.k≠3:=by simpa using h3
   unfold partsN
   rw[if_neg (by omega)]
   by_cases h5:t.k=5
   ·rw[if_pos h5]
   ·rw[if_neg h5,arT_not h5]
end
def e166(qq:Nat)(M:Mach)(p1:Int):Option (Int):=
 if decide (p1<0)then
 some 0
 else
 if decide (p1≥(List.length M.l:Int))then
 some 0
 else
 gidx M.l p1>>=fun x3=>
 some x3.pars
abbrev K166 (M:Mach) (p1 r:Int) (C:Cf):Prop:=C 166 [mB M 1,mR M] [.mp 0 0,ai p1] (ai r) [mB M 1,mR M] 0
theorem q166:Qf 166 Tryz.f166:=⟨Tryz.func166,by kernel_rfl⟩
theorem k166{M p1 r}(h:K166 M p1 r Ci):K166 M p1 r Ct:=⟨h,⟨(lz rfl),tv,tv⟩,(forall_cons ⟨⟨tv,dE _⟩,(lz rfl),⟨tv,dI _⟩,⟨tv,dI _⟩,tv⟩ (forall_cons ⟨⟨tv,dE _⟩,⟨tv,dC _⟩,tv⟩ forall_nil)),tv,(forall_cons ⟨dE _,(lz rfl),dI _,dI _,tv⟩ (forall_cons ⟨dE _,dC _,tv⟩ forall_nil))⟩
theorem c166{qq M p1 r}(h:e166 qq M p1=some r):K166 M p1 r Ct:=by
 unfold e166 at h
 rcases spl h with⟨h1,h⟩|⟨h1,h⟩
 obtain rfl:=sj h
 exact k166 (tF q166 0 [0,1] (oD (dC M.parts)<|oD (dE M.rl)<|oD (dI M.own)<|oD (dI M.args)<|oD (dE M.l)<|oB 1 h1 o0))
 have k:=oB 1 h1 o0
 rcases spl h with⟨h2,h⟩|⟨h2,h⟩
 obtain rfl:=sj h
 exact k166 (tF q166 0 [0,1] (oD (dC M.parts)<|oD (dE M.rl)<|oD (dI M.own)<|oD (dI M.args)<|oD (dE M.l)<|oB 2 h2 k))
 obtain⟨x3,h4,h⟩:=obind h
 obtain rfl:=sj h
 exact k166 (tF q166 1 [0,1] (oD (dC M.parts)<|oD (dE M.rl)<|oD (dI M.own)<|oD (dI M.args)<|oD (dE M.l)<|oA 1 (ix22 (o:=.no) h4)<|oB 2 h2 k))
mutual
def e35:Nat->(List Ent)->Tm->Option (Bool)
 |0,_,_=>none
 |qq+1,p0,p1=>
 e26 qq p0 p1>>=fun r1=>
 if decide (r1<0)then
 some false
 else
 e78 qq p1>>=fun r4=>
 gidx p0 r1>>=fun x6=>
 e35Ldw qq p0 r4 x6.pars
def e35Ldw:Nat->(List Ent)->(List Tm)->Int->Option (Bool)
 |0,_,_,_=>none
 |qq+1,p0,r4,v7=>
 if decide (v7<(List.length r4:Int))then
 gidx r4 v7>>=fun x9=>
 e35 qq p0 x9>>=fun r11=>
 if r11 then
 e35Ldw qq p0 r4 (w64 (v7+1))
 else
 some false
 else
 some true
end
def g35LdwE0(j:Nat->Value)(p0:List Ent)(r4:List Tm)(v7:Int):=sp j 33 0 [(0,slv entL p0 .no),(6,slv tmCells r4 (.st 0 3)),(7,ai v7)]
def g35LdwS0(p0:List Ent)(r4:List Tm)(v7:Int):LSt:=⟨[],0,[0],1,[]⟩
abbrev K35 (p0:List Ent) (p1:Tm) (r:Bool) (C:Cf):Prop:=C 35 [] [slv entL p0 .no,tmA p1] (ab r) [] 0
theorem q35:Qf 35 Tryz.f35:=⟨Tryz.func35,by kernel_rfl⟩
theorem k35{p0 p1 r}(h:K35 p0 p1 r Ci):K35 p0 p1 r Ct:=⟨h,⟨⟨tv,dE _⟩,⟨tv,tv,⟨tv,dT _⟩,tv⟩,tv⟩,forall_nil,tv,forall_nil⟩
theorem a35_35Ldw:∀qq:Nat,(∀p0 p1 r,e35 qq p0 p1=some r->K35 p0 p1 r Ct)∧(∀p0 r4 v7 r,e35Ldw qq p0 r4 v7=some r->(∀j,Dl Tryz.prog 0 (inn (inn (rgt (lft (rgt (rgt (rgt (rgt (bod Tryz.f35))))))))) (g35LdwE0 j p0 r4 v7) (g35LdwS0 p0 r4 v7) (frameQ Tryz.prog 0 (FinQ Tryz.prog 0 Tryz.f35 (ab r) [] 0) [.blk 0,.seq (rgt (rgt (rgt (rgt (rgt (bod Tryz.f35))))))]))):=by
 intro qq
 induction qq with
 |zero=>
  exact⟨fun _ _ _ h=>nn h,fun _ _ _ _ h=>nn h⟩
 |succ qq ih=>
  obtain⟨ih35,ih35Ldw⟩:=ih
  refine⟨?_,?_⟩
  intro p0 p1 r h
  rw[e35]at h
  obtain⟨r1,h2,h⟩:=obind h
  have k:=oC 1 [] (c26 h2) o0
  rcases spl h with⟨h3,h⟩|⟨h3,h⟩
  obtain rfl:=sj h
  exact k35 (tF q35 0 [] (oB 0 h3 k))
  obtain⟨r4,h5,h⟩:=obind h
  obtain⟨x6,h7,h⟩:=obind h
  exact k35 (tH q35 1 [] [] [0] [0,6,7] (oD (dT r4)<|oD (dE p0)<|oA 0 (ix22 (o:=.no) h7)<|oC 1 [] (c78 h5)<|oB 0 h3 k) (ih35Ldw _ _ _ _ h))
  intro p0 r4 v7 r h
  rw[e35Ldw]at h
  rcases spl h with⟨h8,h⟩|⟨h8,h⟩
  obtain⟨x9,h10,h⟩:=obind h
  obtain⟨r11,h12,h⟩:=obind h
  have k:=oA 0 (ix23 (o:=(.st 0 3)) h10)<|oB 1 h8 o0
  rcases spl h with⟨h13,h⟩|⟨h13,h⟩
  exact fun j=>lH 2 [] [] [0] [0,6,7] (oD (dT r4)<|oD (dE p0)<|oK 1 [] h13 (ih35 _ _ _ h12) k) (ih35Ldw _ _ _ _ h)
  obtain rfl:=sj h
  exact fun j=>lF 1 [] (oK 1 [] h13 (ih35 _ _ _ h12) k)
  obtain rfl:=sj h
  exact fun j=>lF 0 [] (oB 1 h8 o0)
theorem c35{qq p0 p1 r}(h:e35 qq p0 p1=some r):K35 p0 p1 r Ct:=(a35_35Ldw _).1 _ _ _ h
def e92(qq:Nat)(p0:List Ent)(p1:Tm):Option (Bool):=
 e168 qq p1 1048577 (List.length p0:Int)>>=fun r1=>
 some r1
abbrev K92 (p0:List Ent) (p1:Tm) (r:Bool) (C:Cf):Prop:=C 92 [] [slv entL p0 .no,tmA p1] (ab r) [] 0
theorem q92:Qf 92 Tryz.f92:=⟨Tryz.func92,by kernel_rfl⟩
theorem k92{p0 p1 r}(h:K92 p0 p1 r Ci):K92 p0 p1 r Ct:=⟨h,⟨⟨tv,dE _⟩,⟨tv,tv,⟨tv,dT _⟩,tv⟩,tv⟩,forall_nil,tv,forall_nil⟩
theorem c92{qq p0 p1 r}(h:e92 qq p0 p1=some r):K92 p0 p1 r Ct:=by
 unfold e92 at h
 obtain⟨r1,h2,h⟩:=obind h
 obtain rfl:=sj h
 exact k92 (tF q92 0 [] (oC 2 [] (c168 h2) o0))
def e93(qq:Nat)(p0:List Ent)(p1:Tm):Option (Bool):=
 e169 qq p0 p1 0>>=fun r1=>
 some (r1.e==0)
abbrev K93 (p0:List Ent) (p1:Tm) (r:Bool) (C:Cf):Prop:=C 93 [] [slv entL p0 .no,tmA p1] (ab r) [] 0
theorem q93:Qf 93 Tryz.f93:=⟨Tryz.func93,by kernel_rfl⟩
theorem k93{p0 p1 r}(h:K93 p0 p1 r Ci):K93 p0 p1 r Ct:=⟨h,⟨⟨tv,dE _⟩,⟨tv,tv,⟨tv,dT _⟩,tv⟩,tv⟩,forall_nil,tv,forall_nil⟩
theorem c93{qq p0 p1 r}(h:e93 qq p0 p1=some r):K93 p0 p1 r Ct:=by
 unfold e93 at h
 obtain⟨r1,h2,h⟩:=obind h
 obtain rfl:=sj h
 exact k93 (tF q93 3 [] (oC 1 [] (c169 h2) o0))
mutual
def e40:Nat->(List Ent)->Tm->Option (Bool)
 |0,_,_=>none
 |qq+1,p0,p1=>
 e26 qq p0 p1>>=fun r1=>
 e78 qq p1>>=fun r3=>
 e40Ldx qq p0 r1 r3 0
def e40Ldx:Nat->(List Ent)->Int->(List Tm)->Int->Option (Bool)
 |0,_,_,_,_=>none
 |qq+1,p0,r1,r3,v7=>
 if decide (v7<(List.length r3:Int))then
 gidx p0 r1>>=fun x6=>
 if decide (v7<x6.pars)then
 gidx r3 v7>>=fun x9=>
 e92 qq p0 x9>>=fun r11=>
 if r11 then
 e93 qq p0 x9>>=fun r14=>
 if r14 then
 if decide (v7≥x6.pars)then
 e40 qq p0 x9>>=fun r18=>
 if r18 then
 e40Ldx qq p0 r1 r3 (w64 (v7+1))
 else
 some false
 else
 e40Ldx qq p0 r1 r3 (w64 (v7+1))
 else
 some false
 else
 some false
 else
 if decide (v7≥x6.pars)then
 gidx r3 v7>>=fun x22=>
 e40 qq p0 x22>>=fun r24=>
 if r24 then
 e40Ldx qq p0 r1 r3 (w64 (v7+1))
 else
 some false
 else
 e40Ldx qq p0 r1 r3 (w64 (v7+1))
 else
 some true
end
def g40LdxE0(j:Nat->Value)(p0:List Ent)(r1:Int)(r3:List Tm)(v7:Int):=sp j 62 0 [(0,slv entL p0 .no),(5,ai r1),(6,slv tmCells r3 (.st 0 3)),(7,ai v7)]
def g40LdxS0(p0:List Ent)(r1:Int)(r3:List Tm)(v7:Int):LSt:=⟨[],0,[0],1,[]⟩
abbrev K40 (p0:List Ent) (p1:Tm) (r:Bool) (C:Cf):Prop:=C 40 [] [slv entL p0 .no,tmA p1] (ab r) [] 0
theorem q40:Qf 40 Tryz.f40:=⟨Tryz.func40,by kernel_rfl⟩
theorem k40{p0 p1 r}(h:K40 p0 p1 r Ci):K40 p0 p1 r Ct:=⟨h,⟨⟨tv,dE _⟩,⟨tv,tv,⟨tv,dT _⟩,tv⟩,tv⟩,forall_nil,tv,forall_nil⟩
theorem a40_40Ldx:∀qq:Nat,(∀p0 p1 r,e40 qq p0 p1=some r->K40 p0 p1 r Ct)∧(∀p0 r1 r3 v7 r,e40Ldx qq p0 r1 r3 v7=some r->(∀j,Dl Tryz.prog 0 (inn (inn (rgt (lft (rgt (rgt (rgt (bod Tryz.f40)))))))) (g40LdxE0 j p0 r1 r3 v7) (g40LdxS0 p0 r1 r3 v7) (frameQ Tryz.prog 0 (FinQ Tryz.prog 0 Tryz.f40 (ab r) [] 0) [.blk 0,.seq (rgt (rgt (rgt (rgt (bod Tryz.f40)))))]))):=by
 intro qq
 induction qq with
 |zero=>
  exact⟨fun _ _ _ h=>nn h,fun _ _ _ _ _ h=>nn h⟩
 |succ qq ih=>
  obtain⟨ih40,ih40Ldx⟩:=ih
  refine⟨?_,?_⟩
  intro p0 p1 r h
  rw[e40]at h
  obtain⟨r1,h2,h⟩:=obind h
  obtain⟨r3,h4,h⟩:=obind h
  exact k40 (tH q40 0 [] [] [0] [0,5,6,7] (oD (dT r3)<|oD (dE p0)<|oC 1 [] (c78 h4)<|oC 1 [] (c26 h2) o0) (ih40Ldx _ _ _ _ _ h))
  intro p0 r1 r3 v7 r h
  rw[e40Ldx]at h
  rcases spl h with⟨h5,h⟩|⟨h5,h⟩
  obtain⟨x6,h7,h⟩:=obind h
  have k:=oA 0 (ix22 (o:=.no) h7)<|oB 1 h5 o0
  rcases spl h with⟨h8,h⟩|⟨h8,h⟩
  obtain⟨x9,h10,h⟩:=obind h
  obtain⟨r11,h12,h⟩:=obind h
  have k:=oA 0 (ix23 (o:=(.st 0 3)) h10)<|oB 1 h8 k
  rcases spl h with⟨h13,h⟩|⟨h13,h⟩
  obtain⟨r14,h15,h⟩:=obind h
  have k:=oA 1 (ix23 (o:=(.st 0 3)) h10)<|oK 1 [] h13 (c92 h12) k
  rcases spl h with⟨h16,h⟩|⟨h16,h⟩
  have k:=oA 1 (ix22 (o:=.no) h7)<|oK 1 [] h16 (c93 h15) k
  rcases spl h with⟨h17,h⟩|⟨h17,h⟩
  obtain⟨r18,h19,h⟩:=obind h
  have k:=oA 0 (ix23 (o:=(.st 0 3)) h10)<|oB 1 h17 k
  rcases spl h with⟨h20,h⟩|⟨h20,h⟩
  exact fun j=>lH 2 [] [] [0] [0,5,6,7] (oD (dT r3)<|oD (dE p0)<|oK 1 [] h20 (ih40 _ _ _ h19) k) (ih40Ldx _ _ _ _ _ h)
  obtain rfl:=sj h
  exact fun j=>lF 1 [] (oK 1 [] h20 (ih40 _ _ _ h19) k)
  exact fun j=>lH 1 [] [] [0] [0,5,6,7] (oD (dT r3)<|oD (dE p0)<|oB 1 h17 k) (ih40Ldx _ _ _ _ _ h)
  obtain rfl:=sj h
  exact fun j=>lF 1 [] (oK 1 [] h16 (c93 h15) k)
  obtain rfl:=sj h
  exact fun j=>lF 1 [] (oK 1 [] h13 (c92 h12) k)
  have k:=oA 0 (ix22 (o:=.no) h7)<|oB 1 h8 k
  rcases spl h with⟨h21,h⟩|⟨h21,h⟩
  obtain⟨x22,h23,h⟩:=obind h
  obtain⟨r24,h25,h⟩:=obind h
  have k:=oA 0 (ix23 (o:=(.st 0 3)) h23)<|oB 1 h21 k
  rcases spl h with⟨h26,h⟩|⟨h26,h⟩
  exact fun j=>lH 2 [] [] [0] [0,5,6,7] (oD (dT r3)<|oD (dE p0)<|oK 1 [] h26 (ih40 _ _ _ h25) k) (ih40Ldx _ _ _ _ _ h)
  obtain rfl:=sj h
  exact fun j=>lF 1 [] (oK 1 [] h26 (ih40 _ _ _ h25) k)
  exact fun j=>lH 1 [] [] [0] [0,5,6,7] (oD (dT r3)<|oD (dE p0)<|oB 1 h21 k) (ih40Ldx _ _ _ _ _ h)
  obtain rfl:=sj h
  exact fun j=>lF 0 [] (oB 1 h5 o0)
theorem c40{qq p0 p1 r}(h:e40 qq p0 p1=some r):K40 p0 p1 r Ct:=(a40_40Ldx _).1 _ _ _ h
mutual
def e90:Nat->Mach->Tm->Option (Bool)
 |0,_,_=>none
 |qq+1,M,p1=>
 e165 qq M p1>>=fun r1=>
 if r1.2.2 then
 e166 qq M r1.1>>=fun r4=>
 gsl r1.2.1 r4 (List.length r1.2.1:Int)>>=fun x6=>
 e90Ldy qq M x6 0
 else
 some false
def e90Ldy:Nat->Mach->(List Tm)->Int->Option (Bool)
 |0,_,_,_=>none
 |qq+1,M,x6,v25=>
 if decide (v25<(List.length x6:Int))then
 gidx x6 v25>>=fun x9=>
 e90 qq M x9>>=fun r11=>
 if r11 then
 e90Ldy qq M x6 (w64 (v25+1))
 else
 some false
 else
 some true
end
def g90LdyE0(j:Nat->Value)(M:Mach)(x6:List Tm)(v25:Int):=sp j 34 0 [(0,.mp 0 0),(23,slv tmCells x6 .no),(24,ai (List.length x6:Int)),(25,ai v25)]
def g90LdyS0(M:Mach)(x6:List Tm)(v25:Int):LSt:=⟨[(0,mB M 1),(1,mR M)],2,[],0,[]⟩
abbrev K90 (M:Mach) (p1:Tm) (r:Bool) (C:Cf):Prop:=C 90 [mB M 1,mR M] [.mp 0 0,tmA p1] (ab r) [mB M 1,mR M] 0
theorem q90:Qf 90 Tryz.f90:=⟨Tryz.func90,by kernel_rfl⟩
theorem k90{M p1 r}(h:K90 M p1 r Ci):K90 M p1 r Ct:=⟨h,⟨(lz rfl),⟨tv,tv,⟨tv,dT _⟩,tv⟩,tv⟩,(forall_cons ⟨⟨tv,dE _⟩,(lz rfl),⟨tv,dI _⟩,⟨tv,dI _⟩,tv⟩ (forall_cons ⟨⟨tv,dE _⟩,⟨tv,dC _⟩,tv⟩ forall_nil)),tv,(forall_cons ⟨dE _,(lz rfl),dI _,dI _,tv⟩ (forall_cons ⟨dE _,dC _,tv⟩ forall_nil))⟩
theorem a90_90Ldy:∀qq:Nat,(∀M p1 r,e90 qq M p1=some r->K90 M p1 r Ct)∧(∀M x6 v25 r,e90Ldy qq M x6 v25=some r->(∀j,Dl Tryz.prog 2 (inn (inn (rgt (lft (rgt (rgt (rgt (bod Tryz.f90)))))))) (g90LdyE0 j M x6 v25) (g90LdyS0 M x6 v25) (frameQ Tryz.prog 2 (FinQ Tryz.prog 2 Tryz.f90 (ab r) [mB M 1,mR M] 0) [.blk 0,.seq (rgt (rgt (rgt (rgt (bod Tryz.f90)))))]))):=by
 intro qq
 induction qq with
 |zero=>
  exact⟨fun _ _ _ h=>nn h,fun _ _ _ _ h=>nn h⟩
 |succ qq ih=>
  obtain⟨ih90,ih90Ldy⟩:=ih
  refine⟨?_,?_⟩
  intro M p1 r h
  rw[e90]at h
  obtain⟨r1,h2,h⟩:=obind h
  have k:=oC 1 [0,1] (c165 h2) o0
  rcases spl h with⟨h3,h⟩|⟨h3,h⟩
  obtain⟨r4,h5,h⟩:=obind h
  obtain⟨x6,h7,h⟩:=obind h
  exact k90 (tH q90 1 [] [0,1] [] [0,23,24,25] (oD (dT x6)<|oD (dC M.parts)<|oD (dE M.rl)<|oD (dI M.own)<|oD (dI M.args)<|oD (dE M.l)<|oA 0 (slFrom23 h7)<|oC 1 [0,1] (c166 h5)<|oB 2 h3 k) (ih90Ldy _ _ _ _ h))
  obtain rfl:=sj h
  exact k90 (tF q90 1 [0,1] (oD (dC M.parts)<|oD (dE M.rl)<|oD (dI M.own)<|oD (dI M.args)<|oD (dE M.l)<|oB 2 h3 k))
  intro M x6 v25 r h
  rw[e90Ldy]at h
  rcases spl h with⟨h8,h⟩|⟨h8,h⟩
  obtain⟨x9,h10,h⟩:=obind h
  obtain⟨r11,h12,h⟩:=obind h
  have k:=oA 0 (ix23 (o:=.no) h10)<|oB 0 h8 o0
  rcases spl h with⟨h13,h⟩|⟨h13,h⟩
  exact fun j=>lH 2 [] [0,1] [] [0,23,24,25] (oD (dT x6)<|oD (dC M.parts)<|oD (dE M.rl)<|oD (dI M.own)<|oD (dI M.args)<|oD (dE M.l)<|oK 3 [0,1] h13 (ih90 _ _ _ h12) k) (ih90Ldy _ _ _ _ h)
  obtain rfl:=sj h
  exact fun j=>lF 1 [0,1] (oD (dC M.parts)<|oD (dE M.rl)<|oD (dI M.own)<|oD (dI M.args)<|oD (dE M.l)<|oK 3 [0,1] h13 (ih90 _ _ _ h12) k)
  obtain rfl:=sj h
  exact fun j=>lF 0 [0,1] (oD (dC M.parts)<|oD (dE M.rl)<|oD (dI M.own)<|oD (dI M.args)<|oD (dE M.l)<|oB 0 h8 o0)
theorem c90{qq M p1 r}(h:e90 qq M p1=some r):K90 M p1 r Ct:=(a90_90Ldy _).1 _ _ _ h
section
variable {N:ByteArray->Bool} {l:List Ent}
theorem right_parts{t:Tm}(h:RightM l t){p:Tm}(hp:p∈partsN t):RightM l p:=by
 have h':=rightM_iff.1 h
 refine rightM_iff.2 ⟨partsN_shaped h'.1 hp,?_⟩
 have hg:=(shapedT_spec h'.1).2.2
 unfold partsN at hp
 split at hp
 ·rename_i h34
  obtain⟨a,b,hs,-,-⟩:=nth_sub2 hg (by omega)
  obtain⟨k,n,ls⟩:=t
  simp only[Tm.sub]at hs hp
  have h2:=h'.2
  rw[hs]at h2 hp
  rw[AllN,AllNL,AllNL,AllNL]at h2
  simp at hp
  rcases hp with rfl|rfl
  ·exact h2.2.1
  ·exact h2.2.2.1
 ·split at hp
  ·exact(allN_spine t hg h'.2).2 p hp
  ·exact nomatch hp
theorem bring_nil(hE:AllE N l)(he:∀e∈l,EOk e){t:Tm}(hs:shapedT t=true):∃r,Evt (fun q=>e69 q (machT l) t 0 0) r:=by
 rcases out_Bring l hE he t (shaped_ok hs) 0 (by omega)with⟨R,k,k0,k1,-,h3,-⟩|⟨h,-⟩
 ·exact⟨_,h3 0 0 k1 (by omega) (by omega)⟩
 ·obtain⟨r,hr,-⟩:=h 0 (by omega) (by omega)
  exact⟨r,hr⟩
theorem tot_stillL(ts:List Tm)(hl:ts.length≤1073741824):∀(r:List Tm) (v:Nat),ts.drop v=r->(∀p∈r,Tot (fun q=>e91 q (machT l) p) fun _=>True)->Tot (fun q=>e91Lde q (machT l) ts (ts.length:Int) (v:Int)) fun _=>True
 | [],v,hd,hp=>by
  refine Tot.succ ?_
  simp only[e91Lde]
  refine Tot.ite (fun h=>?_) fun _=>Tot.ret trivial
  rw[drop_nil hd]at h;cases h
 |t::r,v,hd,hp=>by
  have hlt:=drop_lt hd
  refine Tot.succ ?_
  simp only[e91Lde]
  refine Tot.ite (fun _=>Tot.pure (drop_idx hd) ((hp t (by simp)).bind fun b _=>Tot.ite (fun _=>?_) fun _=>Tot.ret trivial)) fun h=>?_
  ·rw[w64_nat v (by omega)]
   exact tot_stillL ts hl r (v+1) (drop_next hd) fun p h=>hp p (by simp[h])
  ·rw[drop_dec hd]at h;cases h
theorem subt_shaped{t:Tm}(hs:shapedT t=true){x:Tm}(hx:x∈t.sub):shapedT x=true:=by
 have h:=shapedT_spec hs
 have hn:=nodes_sub t
 have hm:=nodesL_mem x hx
 refine shapedT_of (by omega) ?_ ?_
 ·have h2:=h.2.1
  obtain⟨k,n,ls⟩:=t
  rw[Tm.high]at h2
  have key:∀(L:List Tm),x∈L->x.high≤highL L:=by
   intro L
   induction L with
   |nil=>intro h;exact nomatch h
   |cons a L ih=>
    intro h;rw[highL]
    rcases List.mem_cons.1 h with rfl|h
    ·omega
    ·have:=ih h;omega
  have:=key ls hx;omega
 ·have h2:=h.2.2
  obtain⟨k,n,ls⟩:=t
  have h3:=(goodT_mk h2).2
  have key:∀(L:List Tm),goodL L=true->x∈L->goodT x=true:=by
   intro L
   induction L with
   |nil=>intro _ h;exact nomatch h
   |cons a L ih=>
    intro hg h
    have:=goodL_cons hg
    rcases List.mem_cons.1 h with rfl|h
    ·exact this.1
    ·exact ih this.2 h
  exact key ls h3 hx
theorem tot_still(hE:AllE N l)(he:∀e∈l,EOk e):∀(n:Nat) (t:Tm),t.nodes≤n->shapedT t=true->Tot (fun q=>e91 q (machT l) t) fun _=>True
 |0,t,hn,hs=>by have:=nodes_pos t;omega
 |n+1,t,hn,hs=>by
  have hg:=(shapedT_spec hs).2.2
  have hl:=(shapedT_spec hs).1
  have hal:=ar_len t hg
  obtain⟨r,hr⟩:=bring_nil hE he hs
  refine Tot.succ ?_
  simp only[e91]
  refine Tot.bind (P:=fun y=>y = .inr (0,0,0)) ((ev_mNew 0 (by omega) (by omega)).tot rfl) fun y e=>?_
  subst e
  refine Tot.bind (P:=fun _=>True) (hr.tot trivial) fun r _=>Tot.ite (fun _=>Tot.ret trivial) fun _=>Tot.ite (fun _=>?_) fun _=>Tot.ite (fun _=>Tot.ret trivial) fun _=>?_
  ·refine Tot.bind (P:=fun y=>y=(hdT t,arT t)) ((ev_Spine t hs).tot rfl) fun y e=>?_
   subst e
   exact tot_stillL (arT t) (by omega) (arT t) 0 rfl fun p hp=>tot_still hE he n p (by have:=((hd_spec t hg).2.2.2.2 p hp).2.1;omega) (ar_shaped hs hp)
  ·have hsn:=nodes_sub t
   exact tot_stillL t.sub (by have:=nodesL_len t.sub;omega) t.sub 0 rfl fun p hp=>tot_still hE he n p (by have:=nodesL_mem p hp;omega) (subt_shaped hs hp)
theorem ev_stillN(hE:AllE N l)(he:∀e∈l,EOk e):∀(n:Nat) (t:Tm),RightM l t->NS l n t->Evt (fun q=>e91 q (machT l) t) true
 |0,t,_,h=>h.elim
 |n+1,t,hR,⟨a,b⟩=>by
  have hs:=hR.shaped
  have hg:=(shapedT_spec hs).2.2
  have hp:∀p∈partsN t,Evt (fun q=>e91 q (machT l) p) true:=fun p hp=>ev_stillN hE he n p (right_parts hR hp) (b p hp)
  refine Evt.succ ?_
  simp only[e91]
  refine(ev_mNew 0 (by omega) (by omega)).bind ?_
  obtain⟨R,k,k0,k1,hQ,h3,-⟩:=(out_Bring l hE he t (shaped_ok hs) 0 (by omega)).good (fun h=>by have:=h.2 _ _ _ a;omega)
  have hB:Evt (fun q=>e69 q (machT l) t 0 0) (t,0,0-k,0+k):=by
   have:=h3 0 0 k1 (by omega) (by omega)
   rcases hQ with⟨hR',-,-⟩|⟨-,z,e,hbr,rfl⟩
   ·exact absurd hR hR'
   ·obtain⟨rfl,rfl,-⟩:=a.det hbr
    rwa[if_pos rfl]at this
  refine Evt.bind hB (Evt.ifF rfl (Evt.iff (fun h5=>?_) fun h5=>Evt.iff (fun _=>Evt.ret) fun h7=>?_))
  ·have h5':t.k=5:=by simpa using h5
   have hpy:partsN t=arT t:=by unfold partsN;rw[if_neg (by omega),if_pos h5']
   have:=ar_len t hg
   have:=(shapedT_spec hs).1
   rw[hpy]at hp
   exact(ev_Spine t hs).bind (ev_stillL l (arT t) (by omega) (arT t) 0 rfl hp)
  ·have h5':t.k≠5:=by simpa using h5
   have h7':t.k≠7:=by simpa using h7
   have hl2:t.sub.length≤1073741824:=by
    have:=nodesL_len t.sub;have:=nodes_sub t;have:=(shapedT_spec hs).1;omega
   refine ev_stillL l t.sub hl2 t.sub 0 rfl fun p hp'=>hp p ?_
   unfold partsN
   by_cases h34:t.k=3∨t.k=4
   ·rw[if_pos h34];exact hp'
   ·exfalso
    obtain⟨k,n,ls⟩:=t
    have hh:=head_spec (goodT_mk hg).1
    have:ls=[]:=hh.2.2.2.2.2.2.2.1 (by have:=hh.1;have:=hh.2.1;clear hh;omega)
    subst this
    exact nomatch hp'
def VT(l:List Ent):Nat->Tm->Prop
 |0,_=>False
 |n+1,t=>isCon l t∧∀x∈(arT t).drop (ent l (hdT t).n).pars.toNat,VT l n x
def PT(l:List Ent):Nat->Tm->Prop
 |0,_=>False
 |n+1,t=>(∀x∈(arT t).take (ent l (hdT t).n).pars.toNat,RightM l x∧∃m,NS l m x)∧∀x∈(arT t).drop (ent l (hdT t).n).pars.toNat,PT l n x
theorem con_pars(hE:AllE N l){t:Tm}(hs:shapedT t=true)(hc:isCon l t):∃p:Nat,(ent l (hdT t).n).pars=(p:Int)∧p≤(arT t).length∧0≤(hdT t).n∧(hdT t).n<l.length:=by
 have h:=isCon_spec hs hc
 obtain⟨A,y,hw,-,-,hp,-,q0,q1,-⟩:=con_facts hE h.1 h.2.1 h.2.2.1
 exact⟨(ent l (hdT t).n).pars.toNat,by omega,by rw[h.2.2.2];omega,h.1,h.2.1⟩
theorem tot_rValue(hE:AllE N l):∀(n:Nat) (t:Tm),t.nodes≤n->shapedT t=true->Tot (fun q=>e35 q l t) fun b=>b=true->VT l n t
 |0,t,hn,hs=>by have:=nodes_pos t;omega
 |n+1,t,hn,hs=>by
  have hg:=(shapedT_spec hs).2.2
  have hl:=(shapedT_spec hs).1
  have hal:=ar_len t hg
  refine Tot.succ ?_
  simp only[e35]
  refine Tot.bind (P:=fun n=>n=if isCon l t then(hdT t).n else -1) ((ev_rCon l hE t hs).tot rfl) fun c hc=>?_
  by_cases hcc:isCon l t
  ·rw[if_pos hcc]at hc
   subst hc
   obtain⟨p,hp,hpl,h0,h1⟩:=con_pars hE hs hcc
   refine Tot.ite (fun h=>Tot.ret fun h=>nomatch h) fun _=>?_
   refine Tot.bind (P:=fun a=>a=arT t) ((ev_ar0 hs).tot rfl) fun a e=>?_
   subst e
   refine Tot.pure (gidx_ent h0 h1) ?_
   rw[hp]
   have L:∀(r:List Tm) (v:Nat),(arT t).drop v=r->Tot (fun q=>e35Ldw q l (arT t) (v:Int)) fun b=>b=true->∀x∈r,VT l n x:=by
    intro r
    induction r with
    |nil=>
     intro v hd
     refine Tot.succ ?_
     simp only[e35Ldw]
     refine Tot.ite (fun h=>?_) fun _=>Tot.ret fun _ x hx=>nomatch hx
     rw[drop_nil hd]at h;cases h
    |cons x r ih=>
     intro v hd
     have hlt:=drop_lt hd
     have hx:x∈arT t:=List.mem_of_mem_drop (by rw[hd];simp)
     refine Tot.succ ?_
     simp only[e35Ldw]
     refine Tot.ite (fun _=>Tot.pure (drop_idx hd) ((tot_rValue hE n x (by have:=((hd_spec t hg).2.2.2.2 x hx).2.1;omega) (ar_shaped hs hx)).bind fun b hb=>Tot.ite (fun h=>?_) fun _=>Tot.ret fun h=>nomatch h)) fun h=>?_
     ·rw[w64_nat v (by omega)]
      exact(ih (v+1) (drop_next hd)).mono fun b' h' hb' y hy=>by
       rcases List.mem_cons.1 hy with rfl|hy
       ·exact hb h
       ·exact h' hb' y hy
     ·rw[drop_dec hd]at h;cases h
   exact(L _ p rfl).mono fun b hb h=>⟨hcc,by rw[hp];exact hb h⟩
  ·rw[if_neg hcc]at hc
   subst hc
   exact Tot.ite (fun _=>Tot.ret fun h=>nomatch h) fun h=>absurd (of_decide_eq_false h) (by decide)
theorem ev_nValue(hE:AllE N l):∀(n:Nat) (t:Tm),VT l n t->shapedT t=true->Evt (fun q=>e90 q (machT l) t) true
 |0,t,h,_=>h.elim
 |n+1,t,⟨hc,hv⟩,hs=>by
  have hg:=(shapedT_spec hs).2.2
  have hl:=(shapedT_spec hs).1
  have hal:=ar_len t hg
  obtain⟨p,hp,hpl,h0,h1⟩:=con_pars hE hs hc
  have hcx:conX l t=((hdT t).n,arT t,true):=by unfold conX;rw[if_pos hc]
  have hC:Evt (fun q=>e165 q (machT l) t) ((hdT t).n,arT t,true):=by
   simp only[e165]
   refine(ev_Shaped t (shaped_ok hs)).bind (Evt.ifT hs ((ev_Copy t (shaped_ok hs)).bind ?_))
   have:copT t=t:=by unfold copT;rw[if_pos hs]
   rw[this]
   exact(ev_wcon l t hs).bind (Evt.ret.eq (by rw[hcx]))
  have hP:Evt (fun q=>e166 q (machT l) (hdT t).n) (p:Int):=by
   simp only[e166,machT_l]
   exact Evt.ifF (decide_eq_false (by omega)) (Evt.ifF (decide_eq_false (by omega)) (Evt.pure (gidx_ent h0 h1) (Evt.ret.eq hp)))
  rw[hp]at hv
  have L:∀(r X:List Tm) (v:Nat),X.drop v=r->X.length≤8192->(∀x∈r,Evt (fun q=>e90 q (machT l) x) true)->Evt (fun q=>e90Ldy q (machT l) X (v:Int)) true:=by
   intro r
   induction r with
   |nil=>
    intro X v hd hX hr
    refine Evt.succ ?_
    simp only[e90Ldy]
    exact Evt.ifF (drop_nil hd) Evt.ret
   |cons x r ih=>
    intro X v hd hX hr
    have hlt:=drop_lt hd
    refine Evt.succ ?_
    simp only[e90Ldy]
    refine Evt.ifT (drop_dec hd) (Evt.pure (drop_idx hd) ((hr x (by simp)).bind (Evt.ifT rfl ?_)))
    rw[w64_nat v (by omega)]
    exact ih X (v+1) (drop_next hd) hX fun y hy=>hr y (by simp[hy])
  refine Evt.succ ?_
  simp only[e90]
  refine hC.bind (Evt.ifT rfl (hP.bind (Evt.pure (gsl_ok (a:=p) hpl (Nat.le_refl _)) ?_)))
  have e:((arT t).drop p).take ((arT t).length-p)=(arT t).drop p:=List.take_of_length_le (by simp)
  rw[show ((hdT t).n,arT t,true).2.1=arT t from rfl,e]
  exact L _ _ 0 rfl (by simp;omega) fun x hx=>ev_nValue hE n x (hv x hx) (ar_shaped hs (List.mem_of_mem_drop hx))
theorem tot_pars15(hE:AllE N l):∀(n:Nat) (t:Tm),VT l n t->shapedT t=true->Tot (fun q=>e40 q l t) fun b=>b=true->PT l n t
 |0,t,h,_=>h.elim
 |n+1,t,⟨hc,hv⟩,hs=>by
  have hg:=(shapedT_spec hs).2.2
  have hl:=(shapedT_spec hs).1
  have hal:=ar_len t hg
  obtain⟨p,hp,hpl,h0,h1⟩:=con_pars hE hs hc
  rw[hp]at hv
  refine Tot.succ ?_
  simp only[e40]
  refine Tot.bind (P:=fun n=>n=(hdT t).n) ((ev_rCon l hE t hs).tot (by rw[if_pos hc])) fun c e=>?_
  subst e
  refine Tot.bind (P:=fun a=>a=arT t) ((ev_ar0 hs).tot rfl) fun a e=>?_
  subst e
  have L:∀(r:List Tm) (v:Nat),(arT t).drop v=r->(∀x∈r.drop (p-v),VT l n x)->Tot (fun q=>e40Ldx q l (hdT t).n (arT t) (v:Int)) fun b=>b=true->(∀x∈r.take (p-v),RightM l x∧∃m,NS l m x)∧∀x∈r.drop (p-v),PT l n x:=by
   intro r
   induction r with
   |nil=>
    intro v hd hr
    refine Tot.succ ?_
    simp only[e40Ldx]
    refine Tot.ite (fun h=>?_) fun _=>Tot.ret fun _=>⟨fun x hx=>by simp at hx,fun x hx=>by simp at hx⟩
    rw[drop_nil hd]at h;cases h
   |cons x r ih=>
    intro v hd hr
    have hlt:=drop_lt hd
    have hx:x∈arT t:=List.mem_of_mem_drop (by rw[hd];simp)
    have hxs:=ar_shaped hs hx
    refine Tot.succ ?_
    simp only[e40Ldx]
    refine Tot.ite (fun _=>Tot.pure (gidx_ent h0 h1) ?_) fun h=>?_
    ·rw[hp,w64_nat v (by omega)]
     refine Tot.ite (fun hvp=>Tot.pure (drop_idx hd) ?_) fun hvp=>Tot.ite (fun _=>Tot.pure (drop_idx hd) ?_) fun h=>?_
     ·have hvp':v<p:=by have:=of_decide_eq_true hvp;omega
      obtain⟨d,hd'⟩:∃d,p-v=d+1:=⟨p-v-1,by omega⟩
      have hd2:p-(v+1)=d:=by omega
      rw[hd',List.drop_succ_cons]at hr
      have next:=ih (v+1) (drop_next hd) (by rw[hd2];exact hr)
      rw[hd2]at next
      have hR:Tot (fun q=>e92 q l x) fun b=>b=true->RightM l x:=by
       simp only[e92]
       exact Tot.bind (P:=fun b=>b=rightT x 1048577 l.length) ((ev_rRight x _ _ (shaped_ok hxs)).tot rfl) fun b hb=>Tot.ret fun h=>by show rightT x 1048577 l.length=true;rw[←hb];exact h
      have hN:Tot (fun q=>e93 q l x) fun b=>b=true->∃m,NS l m x:=by
       simp only[e93]
       exact(tot_Norm0 hE x.nodes x (Nat.le_refl _) hxs).bind fun g hg=>Tot.ret fun h=>⟨_,(hg (by simpa using h)).2⟩
      refine hR.bind fun b1 q1=>Tot.ite (fun c1=>hN.bind fun b2 q2=>Tot.ite (fun c2=>Tot.ite (fun h=>?_) fun _=>?_) fun _=>Tot.ret fun h=>nomatch h) fun _=>Tot.ret fun h=>nomatch h
      ·have:=of_decide_eq_true h;omega
      ·refine next.mono fun b hb h=>?_
       rw[hd',List.take_succ_cons,List.drop_succ_cons]
       refine⟨fun y hy=>?_,(hb h).2⟩
       rcases List.mem_cons.1 hy with rfl|hy
       ·exact⟨q1 c1,q2 c2⟩
       ·exact(hb h).1 y hy
     ·have hvp':p≤v:=by have:=of_decide_eq_false hvp;omega
      have hz:p-v=0:=by omega
      have hz2:p-(v+1)=0:=by omega
      rw[hz,List.drop_zero]at hr
      have next:=ih (v+1) (drop_next hd) (by rw[hz2,List.drop_zero];exact fun y hy=>hr y (by simp[hy]))
      rw[hz2]at next
      refine(tot_pars15 hE n x (hr x (by simp)) hxs).bind fun b hb=>Tot.ite (fun hb1=>?_) fun _=>Tot.ret fun h=>nomatch h
      refine next.mono fun b' hb' h=>?_
      rw[hz]
      refine⟨fun y hy=>by simp at hy,fun y hy=>?_⟩
      rcases List.mem_cons.1 hy with rfl|hy
      ·exact hb hb1
      ·exact(hb' h).2 y hy
     ·have h1:=of_decide_eq_false hvp
      have h2:=of_decide_eq_false h
      omega
    ·rw[drop_dec hd]at h;cases h
  exact(L _ 0 rfl (by simpa using hv)).mono fun b hb h=>by
   have:=hb h
   show (∀x∈(arT t).take (ent l (hdT t).n).pars.toNat,_)∧∀x∈(arT t).drop (ent l (hdT t).n).pars.toNat,_
   rw[hp];simpa using this
theorem all_le{P:Nat->Tm->Prop}(hP:∀n m t,P n t->n≤m->P m t):∀L:List Tm,(∀x∈L,∃m,P m x)->∃m,∀x∈L,P m x
 | [],_=>⟨0,fun x hx=>nomatch hx⟩
 |a::L,h=>by
  obtain⟨m1,h1⟩:=h a (by simp)
  obtain⟨m2,h2⟩:=all_le hP L fun x hx=>h x (by simp[hx])
  refine⟨max m1 m2,fun x hx=>?_⟩
  rcases List.mem_cons.1 hx with rfl|hx
  ·exact hP _ _ _ h1 (by omega)
  ·exact hP _ _ _ (h2 x hx) (by omega)
theorem allN_of_spine{P:Int->Int->Prop}(h5:P 5 0):∀t:Tm,goodT t=true->AllN P (hdT t)->(∀a∈arT t,AllN P a)->AllN P t:=by
 refine app_ind ?_ ?_
 ·intro t hg hk h1 _
  rwa[hdT_not hk]at h1
 ·intro n a b hg ha hb ih h1 h2
  rw[hdT_app]at h1
  rw[arT_app]at h2
  have hn:=head_spec (goodT_mk hg).1
  have h0:n=0:=by have:=hn.2.2.1;have:=(hn.2.2.2.2.2.1 (.inr (.inr rfl))).2;simp only[Tm.n]at *;omega
  subst h0
  rw[AllN,AllNL,AllNL,AllNL]
  exact⟨.inr h5,ih h1 fun x hx=>h2 x (by simp[hx]),h2 b (by simp),trivial⟩
theorem value_still:∀(n:Nat) (t:Tm),VT l n t->PT l n t->shapedT t=true->RightM l t∧∃m,NS l m t
 |0,t,h,_,_=>h.elim
 |n+1,t,⟨hc,hv⟩,⟨hp1,hp2⟩,hs=>by
  have hg:=(shapedT_spec hs).2.2
  have hcs:=isCon_spec hs hc
  have hk:=kindT_spec hc.1 (by decide)
  have hall:∀x∈arT t,RightM l x∧∃m,NS l m x:=fun x hx=>by
   rw[←List.take_append_drop (ent l (hdT t).n).pars.toNat (arT t)]at hx
   rcases List.mem_append.1 hx with h|h
   ·exact hp1 x h
   ·exact value_still n x (hv x h) (hp2 x h) (ar_shaped hs (List.mem_of_mem_drop h))
  refine⟨rightM_iff.2 ⟨hs,allN_of_spine (by omega) t hg ?_ fun a ha=>(rightM_iff.1 (hall a ha).1).2⟩,?_⟩
  ·have hgh:=(shapedT_spec (hd_shaped hs)).2.2
   revert hgh hk
   cases hdT t with
   |mk k m ls=>
    intro hk hgh
    have hh:=head_spec (goodT_mk hgh).1
    have h6:k=6:=hk.1
    have:ls=[]:=hh.2.2.2.2.2.2.2.1 (.inr (.inr (.inl h6)))
    subst this
    rw[AllN,AllNL]
    exact⟨.inr fun _=>hk.2.1,trivial⟩
  ·obtain⟨m,hm⟩:=all_le (P:=NS l) (fun _ _ _ h h'=>h.le h') (arT t) fun x hx=>(hall x hx).2
   refine⟨m+1,.stop ?_,fun p hp=>?_⟩
   ·have hk2:=hc.1
    unfold actT
    rw[if_neg (by rintro ⟨a,_⟩;omega),if_neg (by omega),if_neg (by omega),if_neg (by omega)]
   ·unfold partsN at hp
    split at hp
    ·rename_i h34
     have:hdT t=t:=hdT_not (by omega)
     rw[this]at hk;omega
    ·split at hp
     ·exact hm p hp
     ·exact nomatch hp
end
def e33(qq:Nat)(p0:List Ent)(p1:Tm)(p2:Int):Option (Bool):=
 if decide ((List.length p0:Int)≤60)then
 if decide (p2≤400)then
 e66 qq p1>>=fun r3=>
 some (decide (r3≤400))
 else
 some false
 else
 some false
abbrev K33 (p0:List Ent) (p1:Tm) (p2:Int) (r:Bool) (C:Cf):Prop:=C 33 [] [slv entL p0 .no,tmA p1,ai p2] (ab r) [] 0
theorem q33:Qf 33 Tryz.f33:=⟨Tryz.func33,by kernel_rfl⟩
theorem k33{p0 p1 p2 r}(h:K33 p0 p1 p2 r Ci):K33 p0 p1 p2 r Ct:=⟨h,⟨⟨tv,dE _⟩,⟨tv,tv,⟨tv,dT _⟩,tv⟩,tv,tv⟩,forall_nil,tv,forall_nil⟩
theorem c33{qq p0 p1 p2 r}(h:e33 qq p0 p1 p2=some r):K33 p0 p1 p2 r Ct:=by
 unfold e33 at h
 rcases spl h with⟨h1,h⟩|⟨h1,h⟩
 have k:=oB 1 h1 o0
 rcases spl h with⟨h2,h⟩|⟨h2,h⟩
 obtain⟨r3,h4,h⟩:=obind h
 obtain rfl:=sj h
 exact k33 (tF q33 1 [] (oC 1 [] (c66 h4)<|oB 0 h2 k))
 obtain rfl:=sj h
 exact k33 (tF q33 0 [] (oB 0 h2 k))
 obtain rfl:=sj h
 exact k33 (tF q33 0 [] (oB 1 h1 o0))
def e34(qq:Nat)(p0:List Ent):Option (Bool):=
 e23 qq p0>>=fun r1=>
 some r1
abbrev K34 (p0:List Ent) (r:Bool) (C:Cf):Prop:=C 34 [] [slv entL p0 .no] (ab r) [] 0
theorem q34:Qf 34 Tryz.f34:=⟨Tryz.func34,by kernel_rfl⟩
theorem k34{p0 r}(h:K34 p0 r Ci):K34 p0 r Ct:=⟨h,⟨⟨tv,dE _⟩,tv⟩,forall_nil,tv,forall_nil⟩
theorem c34{qq p0 r}(h:e34 qq p0=some r):K34 p0 r Ct:=by
 unfold e34 at h
 obtain⟨r1,h2,h⟩:=obind h
 obtain rfl:=sj h
 exact k34 (tF q34 0 [] (oC 0 [] (c23 h2) o0))
def e36(qq:Nat)  : Option (Bool):=
 e21 qq 4 (Tm.mk 2 2 []) (Tm.mk 1 0 [])>>=fun r1=>
 e21 qq 5 r1 (Tm.mk 2 2 [])>>=fun r3=>
 e21 qq 4 (Tm.mk 2 2 []) r3>>=fun r5=>
 e16 qq [] r5 5>>=fun r7=>
 if r7.2.2==0 then
 if r7.2.1==1 then
 e21 qq 4 (Tm.mk 2 2 []) (Tm.mk 2 2 [])>>=fun r11=>
 e55 qq r7.1 r11>>=fun r13=>
 some r13
 else
 some false
 else
 some false
abbrev K36 (r:Bool) (C:Cf):Prop:=C 36 [] [] (ab r) [] 0
theorem q36:Qf 36 Tryz.f36:=⟨Tryz.func36,by kernel_rfl⟩
theorem k36{r}(h:K36 r Ci):K36 r Ct:=⟨h,tv,forall_nil,tv,forall_nil⟩
theorem c36{qq r}(h:e36 qq  = some r):K36 r Ct:=by
 unfold e36 at h
 obtain⟨r1,h2,h⟩:=obind h
 obtain⟨r3,h4,h⟩:=obind h
 obtain⟨r5,h6,h⟩:=obind h
 obtain⟨r7,h8,h⟩:=obind h
 have k:=oC 0 [] (c16 h8)<|oC 0 [] (c21 h6)<|oC 1 [] (c21 h4)<|oC 3 [] (c21 h2) o0
 rcases spl h with⟨h9,h⟩|⟨h9,h⟩
 have k:=oB 4 h9 k
 rcases spl h with⟨h10,h⟩|⟨h10,h⟩
 obtain⟨r11,h12,h⟩:=obind h
 obtain⟨r13,h14,h⟩:=obind h
 obtain rfl:=sj h
 exact k36 (tF q36 0 [] (oC 0 [] (c55 h14)<|oC 3 [] (c21 h12)<|oB 0 h10 k))
 obtain rfl:=sj h
 exact k36 (tF q36 0 [] (oB 0 h10 k))
 obtain rfl:=sj h
 exact k36 (tF q36 0 [] (oB 4 h9 k))
def e38(qq:Nat)(M:Mach)(p1:Tm):Option (Bool):=
 e89 qq p1>>=fun r1=>
 if r1 then
 e90 qq M p1>>=fun r4=>
 some r4
 else
 some false
abbrev K38 (M:Mach) (p1:Tm) (r:Bool) (C:Cf):Prop:=C 38 [mB M 1,mR M] [.mp 0 0,tmA p1] (ab r) [mB M 1,mR M] 0
theorem q38:Qf 38 Tryz.f38:=⟨Tryz.func38,by kernel_rfl⟩
theorem k38{M p1 r}(h:K38 M p1 r Ci):K38 M p1 r Ct:=⟨h,⟨(lz rfl),⟨tv,tv,⟨tv,dT _⟩,tv⟩,tv⟩,(forall_cons ⟨⟨tv,dE _⟩,(lz rfl),⟨tv,dI _⟩,⟨tv,dI _⟩,tv⟩ (forall_cons ⟨⟨tv,dE _⟩,⟨tv,dC _⟩,tv⟩ forall_nil)),tv,(forall_cons ⟨dE _,(lz rfl),dI _,dI _,tv⟩ (forall_cons ⟨dE _,dC _,tv⟩ forall_nil))⟩
theorem c38{qq M p1 r}(h:e38 qq M p1=some r):K38 M p1 r Ct:=by
 unfold e38 at h
 obtain⟨r1,h2,h⟩:=obind h
 rcases spl h with⟨h3,h⟩|⟨h3,h⟩
 obtain⟨r4,h5,h⟩:=obind h
 obtain rfl:=sj h
 exact k38 (tF q38 0 [0,1] (oD (dC M.parts)<|oD (dE M.rl)<|oD (dI M.own)<|oD (dI M.args)<|oD (dE M.l)<|oC 1 [0,1] (c90 h5)<|oK 2 [] h3 (c89 h2) o0))
 obtain rfl:=sj h
 exact k38 (tF q38 0 [0,1] (oD (dC M.parts)<|oD (dE M.rl)<|oD (dI M.own)<|oD (dI M.args)<|oD (dE M.l)<|oK 2 [] h3 (c89 h2) o0))
def e39(qq:Nat)(M:Mach)(p1:Tm):Option (Bool):=
 e91 qq M p1>>=fun r1=>
 some r1
abbrev K39 (M:Mach) (p1:Tm) (r:Bool) (C:Cf):Prop:=C 39 [mB M 1,mR M] [.mp 0 0,tmA p1] (ab r) [mB M 1,mR M] 0
theorem q39:Qf 39 Tryz.f39:=⟨Tryz.func39,by kernel_rfl⟩
theorem k39{M p1 r}(h:K39 M p1 r Ci):K39 M p1 r Ct:=⟨h,⟨(lz rfl),⟨tv,tv,⟨tv,dT _⟩,tv⟩,tv⟩,(forall_cons ⟨⟨tv,dE _⟩,(lz rfl),⟨tv,dI _⟩,⟨tv,dI _⟩,tv⟩ (forall_cons ⟨⟨tv,dE _⟩,⟨tv,dC _⟩,tv⟩ forall_nil)),tv,(forall_cons ⟨dE _,(lz rfl),dI _,dI _,tv⟩ (forall_cons ⟨dE _,dC _,tv⟩ forall_nil))⟩
theorem c39{qq M p1 r}(h:e39 qq M p1=some r):K39 M p1 r Ct:=by
 unfold e39 at h
 obtain⟨r1,h2,h⟩:=obind h
 obtain rfl:=sj h
 exact k39 (tF q39 0 [0,1] (oD (dC M.parts)<|oD (dE M.rl)<|oD (dI M.own)<|oD (dI M.args)<|oD (dE M.l)<|oC 1 [0,1] (c91 h2) o0))
def e38vadz(qq:Nat)(p1:Tm):Option (Bool):=
 some false
abbrev K38vadz (p1:Tm) (r:Bool) (C:Cf):Prop:=C 38 [] [.val (.pointer none),tmA p1] (ab r) [] 0
theorem q38vadz:Qf 38 Tryz.f38:=⟨Tryz.func38,by kernel_rfl⟩
theorem k38vadz{p1 r}(h:K38vadz p1 r Ci):K38vadz p1 r Ct:=⟨h,⟨tv,⟨tv,tv,⟨tv,dT _⟩,tv⟩,tv⟩,forall_nil,tv,forall_nil⟩
theorem c38vadz{qq p1 r}(h:e38vadz qq p1=some r):K38vadz p1 r Ct:=by
 unfold e38vadz at h
 obtain rfl:=sj h
 exact k38vadz (tF q38vadz 1 [] (o0))
mutual
def e91vadz:Nat->Tm->Option (Bool)
 |0,_=>none
 |qq+1,p1=>
 e45 qq 0>>=fun r1=>
 match r1 with
 |Sum.inl y11=>
  e69vacb qq p1>>=fun r12=>
  if r12.2 != 0 then
  some false
  else
  if p1.k==5 then
  e167 qq p1>>=fun r16=>
  e91vadzLde qq r16.2 (List.length r16.2:Int) 0
  else
  if p1.k==7 then
  some true
  else
  e91vadzLde qq p1.sub (List.length p1.sub:Int) 0
 |Sum.inr y3=>
  e69vacc qq p1 y3.2.1 y3.2.2>>=fun r4=>
  if r4.2 != 0 then
  some false
  else
  if p1.k==5 then
  e167 qq p1>>=fun r8=>
  e91vadzLde qq r8.2 (List.length r8.2:Int) 0
  else
  if p1.k==7 then
  some true
  else
  e91vadzLde qq p1.sub (List.length p1.sub:Int) 0
def e91vadzLde:Nat->(List Tm)->Int->Int->Option (Bool)
 |0,_,_,_=>none
 |qq+1,v38,v39,v40=>
 if decide (v40<v39)then
 gidx v38 v40>>=fun x11=>
 e91vadz qq x11>>=fun r13=>
 if r13 then
 e91vadzLde qq v38 v39 (w64 (v40+1))
 else
 some false
 else
 some true
end
def g91vadzLdeE0(j:Nat->Value)(v38:List Tm)(v39 v40:Int):=sp j 49 0 [(0,.val (.pointer none)),(38,slv tmCells v38 .no),(39,ai v39),(40,ai v40)]
def g91vadzLdeS0(v38:List Tm)(v39 v40:Int):LSt:=⟨[],0,[],0,[]⟩
abbrev K91vadz (p1:Tm) (r:Bool) (C:Cf):Prop:=C 91 [] [.val (.pointer none),tmA p1] (ab r) [] 0
theorem q91vadz:Qf 91 Tryz.f91:=⟨Tryz.func91,by kernel_rfl⟩
theorem k91vadz{p1 r}(h:K91vadz p1 r Ci):K91vadz p1 r Ct:=⟨h,⟨tv,⟨tv,tv,⟨tv,dT _⟩,tv⟩,tv⟩,forall_nil,tv,forall_nil⟩
theorem a91vadz_91vadzLde:∀qq:Nat,(∀p1 r,e91vadz qq p1=some r->K91vadz p1 r Ct)∧(∀v38 v39 v40 r,e91vadzLde qq v38 v39 v40=some r->(∀j,Dl Tryz.prog 0 (inn (inn (rgt (lft (rgt (rgt (rgt (rgt (rgt (bod Tryz.f91)))))))))) (g91vadzLdeE0 j v38 v39 v40) (g91vadzLdeS0 v38 v39 v40) (frameQ Tryz.prog 0 (FinQ Tryz.prog 0 Tryz.f91 (ab r) [] 0) [.blk 1,.seq (rgt (rgt (rgt (rgt (rgt (rgt (bod Tryz.f91)))))))]))):=by
 intro qq
 induction qq with
 |zero=>
  exact⟨fun _ _ h=>nn h,fun _ _ _ _ h=>nn h⟩
 |succ qq ih=>
  obtain⟨ih91vadz,ih91vadzLde⟩:=ih
  refine⟨?_,?_⟩
  intro p1 r h
  rw[e91vadz]at h
  obtain⟨r1,h2,h⟩:=obind h
  rcases r1 with y11|y3
  dsimp only at h
  obtain⟨r12,h13,h⟩:=obind h
  have k:=oC 3 [] (c69vacb h13)<|oC 0 [] (c45 h2) o0
  rcases spl h with⟨h14,h⟩|⟨h14,h⟩
  obtain rfl:=sj h
  exact k91vadz (tF q91vadz 0 [] (oB 3 h14 k))
  have k:=oB 3 h14 k
  rcases spl h with⟨h15,h⟩|⟨h15,h⟩
  obtain⟨r16,h17,h⟩:=obind h
  exact k91vadz (tH q91vadz 3 [] [] [] [0,38,39,40] (oD (dT r16.2)<|oC 1 [] (c167 h17)<|oB 2 h15 k) (ih91vadzLde _ _ _ _ h))
  have k:=oB 2 h15 k
  rcases spl h with⟨h18,h⟩|⟨h18,h⟩
  obtain rfl:=sj h
  exact k91vadz (tF q91vadz 0 [] (oB 0 h18 k))
  exact k91vadz (tH q91vadz 1 [] [] [] [0,38,39,40] (oD (dT p1.sub)<|oB 0 h18 k) (ih91vadzLde _ _ _ _ h))
  dsimp only at h
  obtain⟨r4,h5,h⟩:=obind h
  have k:=oC 3 [1] (c69vacc h5)<|oC 0 [] (c45 h2) o0
  rcases spl h with⟨h6,h⟩|⟨h6,h⟩
  obtain rfl:=sj h
  exact k91vadz (tF q91vadz 0 [] (oB 3 h6 k))
  have k:=oB 3 h6 k
  rcases spl h with⟨h7,h⟩|⟨h7,h⟩
  obtain⟨r8,h9,h⟩:=obind h
  exact k91vadz (tH q91vadz 3 [] [] [] [0,38,39,40] (oD (dT r8.2)<|oC 1 [] (c167 h9)<|oB 2 h7 k) (ih91vadzLde _ _ _ _ h))
  have k:=oB 2 h7 k
  rcases spl h with⟨h10,h⟩|⟨h10,h⟩
  obtain rfl:=sj h
  exact k91vadz (tF q91vadz 0 [] (oB 0 h10 k))
  exact k91vadz (tH q91vadz 1 [] [] [] [0,38,39,40] (oD (dT p1.sub)<|oB 0 h10 k) (ih91vadzLde _ _ _ _ h))
  intro v38 v39 v40 r h
  rw[e91vadzLde]at h
  rcases spl h with⟨h10,h⟩|⟨h10,h⟩
  obtain⟨x11,h12,h⟩:=obind h
  obtain⟨r13,h14,h⟩:=obind h
  have k:=oA 0 (ix23 (o:=.no) h12)<|oB 0 h10 o0
  rcases spl h with⟨h15,h⟩|⟨h15,h⟩
  exact fun j=>lH 2 [] [] [] [0,38,39,40] (oD (dT v38)<|oK 3 [] h15 (ih91vadz _ _ h14) k) (ih91vadzLde _ _ _ _ h)
  obtain rfl:=sj h
  exact fun j=>lF 1 [] (oK 3 [] h15 (ih91vadz _ _ h14) k)
  obtain rfl:=sj h
  exact fun j=>lF 0 [] (oB 0 h10 o0)
theorem c91vadz{qq p1 r}(h:e91vadz qq p1=some r):K91vadz p1 r Ct:=(a91vadz_91vadzLde _).1 _ _ h
def e39vadz(qq:Nat)(p1:Tm):Option (Bool):=
 e91vadz qq p1>>=fun r1=>
 some r1
abbrev K39vadz (p1:Tm) (r:Bool) (C:Cf):Prop:=C 39 [] [.val (.pointer none),tmA p1] (ab r) [] 0
theorem q39vadz:Qf 39 Tryz.f39:=⟨Tryz.func39,by kernel_rfl⟩
theorem k39vadz{p1 r}(h:K39vadz p1 r Ci):K39vadz p1 r Ct:=⟨h,⟨tv,⟨tv,tv,⟨tv,dT _⟩,tv⟩,tv⟩,forall_nil,tv,forall_nil⟩
theorem c39vadz{qq p1 r}(h:e39vadz qq p1=some r):K39vadz p1 r Ct:=by
 unfold e39vadz at h
 obtain⟨r1,h2,h⟩:=obind h
 obtain rfl:=sj h
 exact k39vadz (tF q39vadz 0 [] (oC 1 [] (c91vadz h2) o0))
def e7(qq:Nat)(p0:List Ent)(p1:Tm):Option (Bool):=
 e33 qq p0 p1 0>>=fun r1=>
 if r1 then
 e34 qq p0>>=fun r4=>
 if r4 then
 e18 qq p1>>=fun r7=>
 if r7 then
 e35 qq p0 p1>>=fun r10=>
 if r10 then
 e37 qq p0>>=fun r13=>
 match r13 with
 |Sum.inl y30=>
  if y30==0 then
  e38vadz qq p1>>=fun r32=>
  if r32 then
  e39vadz qq p1>>=fun r35=>
  if r35 then
  e36 qq>>=fun r38=>
  some r38
  else
  e40 qq p0 p1>>=fun r40=>
  if r40 then
  some false
  else
  e36 qq>>=fun r43=>
  some r43
  else
  some false
  else
  some false
 |Sum.inr y15=>
  if y15.1==0 then
  e38 qq (Mach.mk y15.2.1 y15.2.2.2.2.1 y15.2.2.2.2.2 y15.2.2.1 y15.2.2.2.1) p1>>=fun r17=>
  if r17 then
  e39 qq (Mach.mk y15.2.1 y15.2.2.2.2.1 y15.2.2.2.2.2 y15.2.2.1 y15.2.2.2.1) p1>>=fun r20=>
  if r20 then
  e36 qq>>=fun r23=>
  some r23
  else
  e40 qq p0 p1>>=fun r25=>
  if r25 then
  some false
  else
  e36 qq>>=fun r28=>
  some r28
  else
  some false
  else
  some false
 else
 e36 qq>>=fun r45=>
 some r45
 else
 e36 qq>>=fun r47=>
 some r47
 else
 e36 qq>>=fun r49=>
 some r49
 else
 e36 qq>>=fun r51=>
 some r51
abbrev K7 (p0:List Ent) (p1:Tm) (r:Bool) (C:Cf):Prop:=C 7 [] [slv entL p0 .no,tmA p1] (ab r) [] 0
theorem q7:Qf 7 Tryz.f7:=⟨Tryz.func7,by kernel_rfl⟩
theorem k7{p0 p1 r}(h:K7 p0 p1 r Ci):K7 p0 p1 r Ct:=⟨h,⟨⟨tv,dE _⟩,⟨tv,tv,⟨tv,dT _⟩,tv⟩,tv⟩,forall_nil,tv,forall_nil⟩
theorem c7{qq p0 p1 r}(h:e7 qq p0 p1=some r):K7 p0 p1 r Ct:=by
 unfold e7 at h
 obtain⟨r1,h2,h⟩:=obind h
 rcases spl h with⟨h3,h⟩|⟨h3,h⟩
 obtain⟨r4,h5,h⟩:=obind h
 have k:=oK 1 [] h3 (c33 h2) o0
 rcases spl h with⟨h6,h⟩|⟨h6,h⟩
 obtain⟨r7,h8,h⟩:=obind h
 have k:=oK 1 [] h6 (c34 h5) k
 rcases spl h with⟨h9,h⟩|⟨h9,h⟩
 obtain⟨r10,h11,h⟩:=obind h
 have k:=oK 2 [] h9 (c18 h8) k
 rcases spl h with⟨h12,h⟩|⟨h12,h⟩
 obtain⟨r13,h14,h⟩:=obind h
 have k:=oK 2 [] h12 (c35 h11) k
 rcases r13 with y30|y15
 dsimp only at h
 have k:=oC 1 [] (c37 h14) k
 rcases spl h with⟨h31,h⟩|⟨h31,h⟩
 obtain⟨r32,h33,h⟩:=obind h
 have k:=oB 2 h31 k
 rcases spl h with⟨h34,h⟩|⟨h34,h⟩
 obtain⟨r35,h36,h⟩:=obind h
 have k:=oK 1 [] h34 (c38vadz h33) k
 rcases spl h with⟨h37,h⟩|⟨h37,h⟩
 obtain⟨r38,h39,h⟩:=obind h
 obtain rfl:=sj h
 exact k7 (tF q7 0 [] (oC 0 [] (c36 h39)<|oK 1 [] h37 (c39vadz h36) k))
 obtain⟨r40,h41,h⟩:=obind h
 have k:=oK 1 [] h37 (c39vadz h36) k
 rcases spl h with⟨h42,h⟩|⟨h42,h⟩
 obtain rfl:=sj h
 exact k7 (tF q7 1 [] (oK 1 [] h42 (c40 h41) k))
 obtain⟨r43,h44,h⟩:=obind h
 obtain rfl:=sj h
 exact k7 (tF q7 0 [] (oC 1 [] (c36 h44)<|oK 1 [] h42 (c40 h41) k))
 obtain rfl:=sj h
 exact k7 (tF q7 0 [] (oK 1 [] h34 (c38vadz h33) k))
 obtain rfl:=sj h
 exact k7 (tF q7 0 [] (oB 2 h31 k))
 dsimp only at h
 have k:=oC 1 [] (c37 h14) k
 rcases spl h with⟨h16,h⟩|⟨h16,h⟩
 obtain⟨r17,h18,h⟩:=obind h
 have k:=oB 2 h16 k
 rcases spl h with⟨h19,h⟩|⟨h19,h⟩
 obtain⟨r20,h21,h⟩:=obind h
 have k:=oK 1 [1,2] h19 (c38 h18) k
 rcases spl h with⟨h22,h⟩|⟨h22,h⟩
 obtain⟨r23,h24,h⟩:=obind h
 obtain rfl:=sj h
 exact k7 (tF q7 0 [] (oC 0 [] (c36 h24)<|oK 1 [1,2] h22 (c39 h21) k))
 obtain⟨r25,h26,h⟩:=obind h
 have k:=oK 1 [1,2] h22 (c39 h21) k
 rcases spl h with⟨h27,h⟩|⟨h27,h⟩
 obtain rfl:=sj h
 exact k7 (tF q7 1 [] (oK 1 [] h27 (c40 h26) k))
 obtain⟨r28,h29,h⟩:=obind h
 obtain rfl:=sj h
 exact k7 (tF q7 0 [] (oC 1 [] (c36 h29)<|oK 1 [] h27 (c40 h26) k))
 obtain rfl:=sj h
 exact k7 (tF q7 0 [] (oK 1 [1,2] h19 (c38 h18) k))
 obtain rfl:=sj h
 exact k7 (tF q7 0 [] (oB 2 h16 k))
 obtain⟨r45,h46,h⟩:=obind h
 obtain rfl:=sj h
 exact k7 (tF q7 0 [] (oC 1 [] (c36 h46)<|oK 2 [] h12 (c35 h11) k))
 obtain⟨r47,h48,h⟩:=obind h
 obtain rfl:=sj h
 exact k7 (tF q7 0 [] (oC 1 [] (c36 h48)<|oK 2 [] h9 (c18 h8) k))
 obtain⟨r49,h50,h⟩:=obind h
 obtain rfl:=sj h
 exact k7 (tF q7 0 [] (oC 1 [] (c36 h50)<|oK 1 [] h6 (c34 h5) k))
 obtain⟨r51,h52,h⟩:=obind h
 obtain rfl:=sj h
 exact k7 (tF q7 0 [] (oC 1 [] (c36 h52)<|oK 1 [] h3 (c33 h2) o0))
theorem ev_awake15:Evt (fun q=>e36 q) true:=⟨400,fun q hq=>by
 obtain⟨n,rfl⟩:∃n,q=n+400:=⟨q-400,by omega⟩
 kernel_rfl⟩
theorem tot_light15(l:List Ent)(t:Tm)(f:Int):∃g,Evt (fun q=>e33 q l t f) g∧(g=true->l.length≤60):=by
 simp only[e33]
 by_cases h1:l.length≤60
 ·by_cases h2:f≤400
  ·exact⟨_,Evt.ifT (decide_eq_true (by omega)) (Evt.ifT (decide_eq_true (by omega)) ((ev_rSize t).bind Evt.ret)),fun _=>h1⟩
  ·exact⟨false,Evt.ifT (decide_eq_true (by omega)) (Evt.ifF (decide_eq_false (by omega)) Evt.ret),fun h=>nomatch h⟩
 ·exact⟨false,Evt.ifF (decide_eq_false (by omega)) Evt.ret,fun h=>nomatch h⟩
theorem ev_NormValues(l:List Ent)(t:Tm)(he:∀e∈l,EOk e)(hc:∀e∈l,ECl e)(ht:t.Ok):Evt (fun q=>e7 q l t) true:=by
 simp only[e7]
 have aw:Evt (fun q=>e36 q>>=fun r=>some r) true:=ev_awake15.bind Evt.ret
 obtain⟨g,hg,hg'⟩:=tot_light15 l t 0
 refine hg.bind ?_
 cases g with
 |false=>exact Evt.ifF rfl aw
 |true=>
 have hl:=hg' rfl
 refine Evt.ifT rfl ?_
 obtain⟨N,hN⟩:=names_by
 obtain⟨b,hF,hA,hnw⟩:=ev_wNew N hN l (by omega) he hc
 have hFm:Evt (fun q=>e34 q l) b:=by
  simp only[e34]
  exact(ev_refFormed l (by omega) he hF).bind Evt.ret
 refine hFm.bind ?_
 cases b with
 |false=>exact Evt.ifF rfl aw
 |true=>
 have hE:=hA rfl
 refine Evt.ifT rfl ((ev_rShaped t ht).bind ?_)
 by_cases hs:shapedT t=true
 ·refine Evt.ifT hs ?_
  obtain⟨v,hv,hV⟩:=tot_rValue hE t.nodes t (Nat.le_refl _) hs
  refine hv.bind ?_
  cases v with
  |false=>exact Evt.ifF rfl aw
  |true=>
  have hVT:=hV rfl
  refine Evt.ifT rfl (hnw.bind ?_)
  have hVal:Evt (fun q=>e38 q (machT l) t) true:=by
   simp only[e38]
   exact(ev_Shaped t ht).bind (Evt.ifT hs ((ev_nValue hE t.nodes t hVT hs).bind Evt.ret))
  obtain⟨p,hp,hP⟩:=tot_pars15 hE t.nodes t hVT hs
  obtain⟨s,hst,-⟩:=tot_still hE he t.nodes t (Nat.le_refl _) hs
  have hNm:Evt (fun q=>e39 q (machT l) t) s:=by
   simp only[e39]
   exact hst.bind Evt.ret
  refine Evt.ifT rfl (Evt.bind hVal (Evt.ifT rfl (Evt.bind hNm ?_)))
  cases s with
  |true=>exact Evt.ifT rfl aw
  |false=>
   refine Evt.ifF rfl (hp.bind ?_)
   cases p with
   |false=>exact Evt.ifF rfl aw
   |true=>
    exfalso
    obtain⟨hR,m,hm⟩:=value_still t.nodes t hVT (hP rfl) hs
    exact absurd (hst.det (ev_stillN hE he m t hR hm)) (by decide)
 ·exact Evt.ifF (by simpa using hs) aw
theorem rdE_ok{l:List Ent}(h:∀e∈l,RdE e):∀e∈l,EOk e:=fun e he=>⟨(h e he).1,(h e he).2.1,Nat.le_trans (h e he).2.2.1 (by decide),Nat.le_trans (h e he).2.2.2 (by decide)⟩
theorem rdE_cl{l:List Ent}(h:∀e∈l,RdE e):∀e∈l,ECl e:=fun e he=>⟨(h e he).2.2.1,(h e he).2.2.2⟩
theorem normValues_ct(l:List Ent)(t:Tm)(w0:∀e∈l,RdE e)(w1:t.Ok):CT Tryz.prog 7 [] [.sl (flat entL l) l.length .no,tmA t] (ab true) [] 0:=by
 obtain⟨q,hq⟩:=(ev_NormValues l t (rdE_ok w0) (rdE_cl w0) w1).at
 exact c7 hq
end Go.Proofs.YtmfcobjnlabpoaaGreat
