/- Texts: AbPp AbF120v0 AbF120v1 AbF120vr0 AbF120vr1 AbF120 AbF287 AbF225 AbF158 AbPq AbF83 AbF37 AbPr AbQa AbF146 AbF217 AbF218 AbF148 AbF154 AbF216 AbF150 AbF153 AbF159 AbF160 AbF215 AbF288 AbF220va37776 AbF226 AbF161 AbQb AbF314 AbF162 AbF84 AbQc AbQd AbF113va9626 AbF271 AbF230 AbF342va12063 AbF342va37370 AbF303 AbF252 AbF274 AbQe AbF138_202_272_273 AbQf AbRf AbF137 AbF69 AbQg AbQh AbF66 AbF19 AbPd AbRa AbF105va12063 AbF45 AbF55 AbQi AbRd AbF136_201 AbRe AbF372 AbF335 AbF336 AbF298 AbF243_300 AbF241 AbF337 AbF338 AbF339va55261_373va55261_340va62584_299va4465 AbVa AbReadX AbReadA AbF114 AbF184 AbF242 AbF185 AbF119 AbF49 AbVb AbUa AbUb AbUc AbUd AbF165 AbF166 AbUe AbF231 AbF231va47683 AbF188 AbF122 AbF151va6687 -/
import Derived.OpenShut
import Derived.Test.YtmfcobjnlabpoaaGreatAbB3
set_option linter.unusedVariables false
set_option linter.unusedSimpArgs false
set_option linter.unusedSectionVars false
namespace Go.Proofs.YtmfcobjnlabpoaaGreat
open Go Go.Ab
def entryT(N:ByteArray->Bool)(l:List Ent)(i:Int):Bool:=
 N (ent l i).name&&(closedT' (ent l i).type i &&
  (if (ent l i).kind=1 then familyT l i else if (ent l i).kind=2 then conT l i else if (ent l i).kind=4 then projT l i else if (ent l i).kind=3 then defT l i else false))
def allE(N:ByteArray->Bool)(l:List Ent):Nat->Nat->Bool
 |0,_=>true
 |m+1,v=>entryT N l v&&allE N l m (v+1)
def NamesBy(N:ByteArray->Bool):Prop:=∀s,Evt (fun q=>e280 q s) (N s)
theorem names_by:∃N,NamesBy N:=by
 have h:∀s,∃b,Evt (fun q=>e280 q s) b:=fun s=>by
  obtain⟨b,hb,_⟩:=tot_nRight s
  exact⟨b,hb⟩
 exact⟨fun s=>Classical.choose (h s),fun s=>Classical.choose_spec (h s)⟩
theorem ev_entry(N:ByteArray->Bool)(hN:NamesBy N)(l:List Ent)(i:Int)(h0:0≤i)(h1:i<l.length)(hl:l.length≤65535)(he:∀e∈l,EOk e)(hF:FamsOk l i):Evt (fun q=>e224 q l i) (entryT N l i):=by
 simp only[e224]
 have hx:=he _ (ent_mem h0 h1)
 refine Evt.pure (gidx_ent h0 h1) ((hN _).bind ?_)
 unfold entryT
 by_cases a1:N (ent l i).name=true
 ·refine Evt.ifT a1 ((ev_sclosed _ i hx.1).bind ?_)
  rw[a1,Bool.true_and]
  by_cases a2:closedT' (ent l i).type i=true
  ·refine Evt.ifT a2 ?_
   rw[a2,Bool.true_and]
   by_cases k1:(ent l i).kind=1
   ·rw[if_pos k1];exact Evt.ifT (by simp[k1]) ((ev_family l i h0 h1 hl he).bind Evt.ret)
   rw[if_neg k1]
   refine Evt.ifF (by simp[k1]) ?_
   by_cases k2:(ent l i).kind=2
   ·rw[if_pos k2];exact Evt.ifT (by simp[k2]) ((ev_con l i h0 h1 he hF).bind Evt.ret)
   rw[if_neg k2]
   refine Evt.ifF (by simp[k2]) ?_
   by_cases k4:(ent l i).kind=4
   ·rw[if_pos k4];exact Evt.ifT (by simp[k4]) ((ev_proj l i h0 h1 he hF).bind Evt.ret)
   rw[if_neg k4]
   refine Evt.ifF (by simp[k4]) ?_
   by_cases k3:(ent l i).kind=3
   ·rw[if_pos k3];exact Evt.ifT (by simp[k3]) ((ev_def l i h0 h1 he).bind Evt.ret)
   ·rw[if_neg k3];exact Evt.ifF (by simp[k3]) Evt.ret
  ·exact Evt.ifF (by simpa using a2) (Evt.ret.eq (by simp[a2]))
 ·exact Evt.ifF (by simpa using a1) (Evt.ret.eq (by simp[a1]))
theorem ev_NamesL:∀(r l:List Ent) (v:Nat) (acc:List ByteArray),l.drop v=r->l.length≤65535->acc.length≤v->Evt (fun q=>e223Laz q l acc (v:Int)) (acc++r.map Ent.name)
 | [],l,v,acc,hd,hl,ha=>by
  refine Evt.succ ?_
  simp only[e223Laz]
  exact Evt.ifF (drop_nil hd) (Evt.ret.eq (by simp))
 |x::r,l,v,acc,hd,hl,ha=>by
  have hlt:=drop_lt hd
  refine Evt.succ ?_
  simp only[e223Laz]
  refine Evt.ifT (drop_dec hd) (Evt.pure (drop_idx hd) (Evt.pure (gapp_ok (by simp<;>omega)) ?_))
  rw[w64_nat v (by omega)]
  exact(ev_NamesL r l (v+1) _ (drop_next hd) hl (by simp<;>omega)).eq (by simp)
theorem ev_Names(l:List Ent)(hl:l.length≤65535):Evt (fun q=>e223 q l) (l.map Ent.name):=by
 simp only[e223]
 exact(ev_NamesL l l 0 [] rfl hl (by simp)).eq (by simp)
theorem ev_FormedL(N:ByteArray->Bool)(hN:NamesBy N)(l:List Ent)(hl:l.length≤65535)(he:∀e∈l,EOk e):∀(m v:Nat),v+m=l.length->FamsOk l v->Evt (fun q=>e157Lba q l (v:Int)) (allE N l m v):=by
 intro m
 induction m with
 |zero=>
  intro v hm hF
  refine Evt.succ ?_
  simp only[e157Lba]
  exact Evt.ifF (decide_eq_false (by omega)) Evt.ret
 |succ m ih=>
  intro v hm hF
  refine Evt.succ ?_
  simp only[e157Lba]
  refine Evt.ifT (decide_eq_true (by omega)) ((ev_entry N hN l v (by omega) (by omega) hl he hF).bind ?_)
  rw[allE]
  by_cases h:entryT N l v=true
  ·refine Evt.ifT h ?_
   rw[w64_nat v (by omega),h,Bool.true_and]
   refine ih (v+1) (by omega) fun j hj0 hj1 hk=>?_
   by_cases e:j=v
   ·subst e
    unfold entryT at h
    simp only[Bool.and_eq_true]at h
    have:=h.2.2
    rwa[if_pos hk]at this
   ·exact hF j hj0 (by omega) hk
  ·exact Evt.ifF (by simpa using h) (Evt.ret.eq (by simp[h]))
def formedT(N:ByteArray->Bool)(d:Bool)(l:List Ent):Bool:=decide (l.length≤256)&&(d&&allE N l l.length 0)
theorem ev_Formed(N:ByteArray->Bool)(hN:NamesBy N)(l:List Ent)(hl:l.length≤65535)(he:∀e∈l,EOk e):∃d,Evt (fun q=>e222 q (l.map Ent.name)) d∧Evt (fun q=>e157 q l) (formedT N d l):=by
 obtain⟨d,hd,_⟩:=tot_Distinct (l.map Ent.name) (by simpa using hl)
 refine⟨d,hd,?_⟩
 simp only[e157]
 unfold formedT
 by_cases h:l.length≤256
 ·refine Evt.ifF (decide_eq_false (by omega)) ((ev_Names l hl).bind (hd.bind ?_))
  cases d with
  |false=>exact Evt.ifF rfl (Evt.ret.eq (by simp))
  |true=>exact Evt.ifT rfl ((ev_FormedL N hN l hl he l.length 0 (by omega) (fun j h0 h1=>by omega)).eq (by simp[h]))
 ·exact Evt.ifT (decide_eq_true (by omega)) (Evt.ret.eq (by simp[h]))
theorem allE_spec{N:ByteArray->Bool}{l:List Ent}:∀ {m v:Nat},allE N l m v=true->∀j,v≤j->j<v+m->entryT N l (j:Int)=true
 |0,v,_,j,h0,h1=>by omega
 |m+1,v,h,j,h0,h1=>by
  rw[allE]at h
  simp only[Bool.and_eq_true]at h
  by_cases e:j=v
  ·subst e;exact h.1
  ·exact allE_spec h.2 j (by omega) (by omega)
def AllE(N:ByteArray->Bool)(l:List Ent):Prop:=l.length≤256∧∀i:Int,0≤i->i<l.length->entryT N l i=true
theorem formedT_spec{N:ByteArray->Bool}{d:Bool}{l:List Ent}(h:formedT N d l=true):AllE N l:=by
 unfold formedT at h
 simp only[Bool.and_eq_true,decide_eq_true_eq]at h
 refine⟨h.1,fun i h0 h1=>?_⟩
 have:=allE_spec h.2.2 i.toNat (by omega) (by omega)
 rwa[show ((i.toNat:Nat):Int)=i by omega]at this
theorem entryT_spec{N:ByteArray->Bool}{l:List Ent}{i:Int}(h:entryT N l i=true):closedT' (ent l i).type i=true ∧
  ((ent l i).kind=1->familyT l i=true)∧((ent l i).kind=2->conT l i=true)∧((ent l i).kind=4->projT l i=true)∧((ent l i).kind=3->defT l i=true)∧((ent l i).kind=1∨(ent l i).kind=2∨(ent l i).kind=3∨(ent l i).kind=4):=by
 unfold entryT at h
 simp only[Bool.and_eq_true]at h
 obtain⟨_,h2,h3⟩:=h
 refine⟨h2,fun k=>by rwa[if_pos k]at h3,fun k=>?_,fun k=>?_,fun k=>?_,?_⟩
 ·rwa[if_neg (by omega),if_pos k]at h3
 ·rwa[if_neg (by omega),if_neg (by omega),if_pos k]at h3
 ·rwa[if_neg (by omega),if_neg (by omega),if_neg (by omega),if_pos k]at h3
 ·split at h3
  ·exact .inl (by assumption)
  ·split at h3
   ·exact .inr (.inl (by assumption))
   ·split at h3
    ·exact .inr (.inr (.inr (by assumption)))
    ·split at h3
     ·exact .inr (.inr (.inl (by assumption)))
     ·cases h3
def copE(e:Ent):Ent:=Ent.mk e.kind e.name (copT e.type) (copT e.body) e.fam e.place e.pars e.inds e.level e.cons e.fields
def ECl(e:Ent):Prop:=e.cons.length≤17592186044416∧e.fields.length≤17592186044416
theorem ev_CopyL:∀(r l acc:List Ent) (v:Nat),l.drop v=r->l.length≤65535->(∀e∈l,EOk e)->(∀e∈l,ECl e)->acc.length≤v->Evt (fun q=>e88Lbb q l acc (v:Int)) (acc++r.map copE)
 | [],l,acc,v,hd,hl,he,hc,ha=>by
  refine Evt.succ ?_
  simp only[e88Lbb]
  exact Evt.ifF (drop_nil hd) (Evt.ret.eq (by simp))
 |x::r,l,acc,v,hd,hl,he,hc,ha=>by
  have hlt:=drop_lt hd
  have hx:x∈l:=by
   have:x∈l.drop v:=by rw[hd];simp
   exact List.mem_of_mem_drop this
  have hE:=he x hx
  have hC:=hc x hx
  refine Evt.succ ?_
  simp only[e88Lbb]
  refine Evt.ifT (drop_dec hd) (Evt.pure (drop_idx hd) ((ev_Copy _ hE.1).bind ((ev_Copy _ hE.2.1).bind ?_)))
  refine Evt.bind (a:=x.cons) (Evt.mk fun q=>(gapp_ok (by have:=hC.1;simp<;>omega)).trans (by simp)) (Evt.bind (a:=x.fields) (Evt.mk fun q=>(gapp_ok (by have:=hC.2;simp<;>omega)).trans (by simp)) (Evt.pure (gapp_ok (by simp<;>omega)) ?_))
  rw[w64_nat v (by omega)]
  exact(ev_CopyL r l _ (v+1) (drop_next hd) hl he hc (by simp<;>omega)).eq (by simp[copE])
theorem ev_sCopy(l:List Ent)(hl:l.length≤65535)(he:∀e∈l,EOk e)(hc:∀e∈l,ECl e):Evt (fun q=>e88 q l) (l.map copE):=by
 simp only[e88]
 exact(ev_CopyL l l [] 0 rfl hl he hc (by simp)).eq (by simp)
theorem closed_shaped{t:Tm}{n:Int}(h:closedT' t n=true):shapedT t=true:=by
 unfold closedT' rightT at h
 simp only[Bool.and_eq_true]at h
 exact h.1.1.1
theorem noneT_spec{t:Tm}(h:noneT t=true):t=zT:=by
 unfold noneT at h
 simp only[Bool.and_eq_true,beq_iff_eq]at h
 obtain⟨k,n,l⟩:=t
 have h1:k=0:=h.1.1
 have h2:n=0:=h.1.2
 have h3:l=[]:=List.length_eq_zero_iff.1 (by have:(l.length:Int)=0:=h.2;omega)
 subst h1;subst h2;subst h3;rfl
theorem copT_none{t:Tm}(h:noneT t=true):copT t=t:=by
 rw[noneT_spec h]
 unfold copT
 split
 ·rfl
 ·rfl
theorem copE_same{N:ByteArray->Bool}{l:List Ent}{i:Int}(h:entryT N l i=true):copE (ent l i)=ent l i:=by
 have hs:=entryT_spec h
 have h1:copT (ent l i).type=(ent l i).type:=by unfold copT;rw[if_pos (closed_shaped hs.1)]
 have own:ownedT l i=true->copT (ent l i).body=(ent l i).body:=fun ho=>by
  unfold ownedT ownA at ho
  simp only[Bool.and_eq_true]at ho
  exact copT_none ho.1.1.1.1.1.2
 have h2:copT (ent l i).body=(ent l i).body:=by
  rcases hs.2.2.2.2.2 with k|k|k|k
  ·have:=hs.2.1 k
   unfold familyT famA at this
   simp only[Bool.and_eq_true]at this
   exact copT_none this.1.1.1.2
  ·have:=hs.2.2.1 k
   unfold conT at this
   simp only[Bool.and_eq_true]at this
   exact own this.1
  ·have:=hs.2.2.2.2.1 k
   unfold defT at this
   simp only[Bool.and_eq_true]at this
   unfold copT;rw[if_pos (closed_shaped this.1)]
  ·have:=hs.2.2.2.1 k
   unfold projT at this
   simp only[Bool.and_eq_true]at this
   exact own this.1
 unfold copE
 rw[h1,h2]
theorem copy_same{N:ByteArray->Bool}{l:List Ent}(h:AllE N l):l.map copE=l:=by
 refine List.ext_getElem (by simp) fun i h1 h2=>?_
 simp only[List.getElem_map]
 have:=copE_same (h.2 (i:Int) (by omega) (by omega))
 have e:ent l (i:Int)=l[i]:=by
  unfold ent
  rw[show (i:Int).toNat=i by omega,List.getElem?_eq_getElem h2];rfl
 rwa[e]at this
def e120v0(qq:Nat)(p0:List Tm):Option (List Tm):=
 some []
abbrev K120v0 (p0 r:List Tm) (C:Cf):Prop:=C 120 [] [slv tmCells p0 .nl] (.sl (flat tmCells r) (List.length r) .no) [] 0
theorem q120v0:Qf 120 Tryz.f120:=⟨Tryz.func120,by kernel_rfl⟩
theorem k120v0{p0 r}(h:K120v0 p0 r Ci):K120v0 p0 r Ct:=⟨h,⟨⟨tv,dT _⟩,tv⟩,forall_nil,dT _,forall_nil⟩
theorem c120v0{qq p0 r}(h:e120v0 qq p0=some r):K120v0 p0 r Ct:=by
 unfold e120v0 at h
 obtain rfl:=sj h
 exact k120v0 (tF q120v0 1 [] (oD (dT ([]:List Tm)) o0))
def e120v1(qq:Nat)(p0:List Tm):Option (List Tm):=
 gapp 40 ([]:List Tm) p0>>=fun l1=>
 some l1
abbrev K120v1 (p0 r:List Tm) (C:Cf):Prop:=C 120 [] [slv tmCells p0 .nn] (.sl (flat tmCells r) (List.length r) .no) [] 0
theorem q120v1:Qf 120 Tryz.f120:=⟨Tryz.func120,by kernel_rfl⟩
theorem k120v1{p0 r}(h:K120v1 p0 r Ci):K120v1 p0 r Ct:=⟨h,⟨⟨tv,dT _⟩,tv⟩,forall_nil,dT _,forall_nil⟩
theorem c120v1{qq p0 r}(h:e120v1 qq p0=some r):K120v1 p0 r Ct:=by
 unfold e120v1 at h
 obtain⟨l1,h2,h⟩:=obind h
 by_cases h3:List.length p0=0
 obtain rfl:=sj h
 exact k120v1 (tF q120v1 0 [] (oD (dT l1)<|oP 2 (apN23 h2 h3) o0))
 obtain rfl:=sj h
 exact k120v1 (tF q120v1 0 [] (oD (dT l1)<|oP 2 (apS23 h2 h3) o0))
def e120vr0(qq:Nat)(p0:List Tm):Option (Unit):=
 some ()
abbrev K120vr0 (p0:List Tm) (C:Cf):Prop:=C 120 [] [slv tmCells p0 .nl] (slv tmCells ([]:List Tm) .full) [] 0
theorem q120vr0:Qf 120 Tryz.f120:=⟨Tryz.func120,by kernel_rfl⟩
theorem k120vr0{p0}(h:K120vr0 p0 Ci):K120vr0 p0 Ct:=⟨h,⟨⟨tv,dT _⟩,tv⟩,forall_nil,dT _,forall_nil⟩
theorem c120vr0{qq p0 r}(h:e120vr0 qq p0=some r):K120vr0 p0 Ct:=by
 unfold e120vr0 at h
 obtain rfl:=sj h
 exact k120vr0 (tG q120vr0 1 [] [] [] true (oD (dT ([]:List Tm)) o0))
def e120vr1(qq:Nat)(p0:List Tm):Option ((Unit) ⊕ (List Tm)):=
 if decide (List.length p0=0)then
 some (Sum.inl ())
 else
 gapp 40 ([]:List Tm) p0>>=fun l2=>
 some (Sum.inr l2)
abbrev K120vr1s0 (p0:List Tm) (C:Cf):Prop:=C 120 [] [slv tmCells p0 .nn] (slv tmCells ([]:List Tm) .full) [] 0
abbrev K120vr1s1 (p0 r:List Tm) (C:Cf):Prop:=C 120 [] [slv tmCells p0 .nn] (.ms 0 0 (List.length r) (List.length r) 3) [.row (flat tmCells r)] 0
theorem q120vr1:Qf 120 Tryz.f120:=⟨Tryz.func120,by kernel_rfl⟩
theorem k120vr1s0{p0}(h:K120vr1s0 p0 Ci):K120vr1s0 p0 Ct:=⟨h,⟨⟨tv,dT _⟩,tv⟩,forall_nil,dT _,forall_nil⟩
theorem k120vr1s1{p0 r}(h:K120vr1s1 p0 r Ci):K120vr1s1 p0 r Ct:=⟨h,⟨⟨tv,dT _⟩,tv⟩,forall_nil,(lz rfl),(forall_cons (dT _) forall_nil)⟩
theorem c120vr1{qq p0 r}(h:e120vr1 qq p0=some r):(match (generalizing:=false) r with|Sum.inl x=>K120vr1s0 p0 Ct|Sum.inr x=>K120vr1s1 p0 x Ct):=by
 unfold e120vr1 at h
 rcases spl h with⟨h1,h⟩|⟨h1,h⟩
 obtain rfl:=sj h
 exact k120vr1s0 (tG q120vr1 0 [] [] [] true (oD (dT ([]:List Tm))<|oQ 2 (apQ23 (of_decide_eq_true h1)) o0))
 obtain⟨l2,h3,h⟩:=obind h
 obtain rfl:=sj h
 exact k120vr1s1 (tF q120vr1 0 [0] (oD (dT l2)<|oM 2 (apW23 h3 (of_decide_eq_false h1)) o0))
def e120(_qq:Nat)(p0:List Tm):Option (List Tm):=gapp 40 [] p0
theorem c120{qq:Nat}{p0:List Tm}{r:List Tm}(h:e120 qq p0=some r):CT Tryz.prog 120 [] [.sl (flat tmCells p0) (List.length p0) .no] (.sl (flat tmCells r) (List.length r) .no) [] 0:=by
 have hr:r=p0:=by have:=(gapp_spec h).2;simpa using this
 have h1:e120v1 qq p0=some r:=by unfold e120v1;rw[show gapp 40 ([]:List Tm) p0=some r from h];rfl
 have k1:=c120v1 h1
 refine⟨CTri.nilcase (fun hn=>?_) k1.tri,⟨⟨trivial,dT _⟩,trivial⟩,(fun _ h=>nomatch h),dT _,(fun _ h=>nomatch h)⟩
 have hp:p0=[]:=flat_nil codecT (by decide) hn
 subst hr
 subst hp
 exact(c120v0 (qq:=qq) rfl).tri
def e120vr(qq:Nat)(p0:List Tm):Option (Unit ⊕ List Tm):=if decide (List.length p0=0)=true then some (.inl ())else(gapp 40 [] p0)>>=fun r=>some (.inr r)
theorem c120vr{qq:Nat}{p0:List Tm}{r:Unit ⊕ List Tm}(h:e120vr qq p0=some r):(match (generalizing:=false) r with | .inl _=>CT Tryz.prog 120 [] [.sl (flat tmCells p0) (List.length p0) .no] (.sl (flat tmCells ([]:List Tm)) (List.length ([]:List Tm)) .full) [] 0 | .inr x=>CT Tryz.prog 120 [] [.sl (flat tmCells p0) (List.length p0) .no] (.ms 0 0 (List.length x) (List.length x) 3) [.row (flat tmCells x)] 0):=by
 unfold e120vr at h
 rcases spl h with⟨h1,h⟩|⟨h1,h⟩
 ·obtain rfl:=sj h
  have hp:p0=[]:=List.length_eq_zero_iff.1 (of_decide_eq_true h1)
  subst hp
  have k0:=c120vr0 (qq:=qq) (p0:=[]) (r:=()) rfl
  have k1:=c120vr1 (qq:=qq) (p0:=[]) (r:=.inl ()) rfl
  exact⟨CTri.nilcase (fun _=>k0.tri) k1.tri,⟨⟨trivial,dT _⟩,trivial⟩,(fun _ h=>nomatch h),dT _,(fun _ h=>nomatch h)⟩
 ·obtain⟨x,h2,h⟩:=obind h
  obtain rfl:=sj h
  have k1:=c120vr1 (qq:=qq) (p0:=p0) (r:=.inr x) (by unfold e120vr1;rw[if_neg (by rw[h1];decide),h2];rfl)
  refine⟨CTri.nilcase (fun hn=>?_) k1.tri,⟨⟨trivial,dT _⟩,trivial⟩,(fun _ h=>nomatch h),(show 0<1 by decide),forall_cons (dT _) forall_nil⟩
  have hp:p0=[]:=flat_nil codecT (by decide) hn
  subst hp
  cases h1
def e287(qq:Nat)(p0:List Ent)(p1:Tm)(p2 p3:Int):Option (Rec'):=
 e286 qq p1>>=fun r1=>
 e167 qq r1.2.1>>=fun r3=>
 if r1.2.2 != 0 then
 some (Rec'.mk false [] [])
 else
 if r3.1.k != 6 then
 some (Rec'.mk false [] [])
 else
 if r3.1.n != p2 then
 some (Rec'.mk false [] [])
 else
 gidx p0 p2>>=fun x8=>
 e328 qq r1.2.1 p2 x8.pars x8.inds (w64 (p3+(List.length r1.1:Int)))>>=fun r10=>
 if r10 then
 gsl r3.2 x8.pars (List.length r3.2:Int)>>=fun x13=>
 e120 qq x13>>=fun r15=>
 some (Rec'.mk true r1.1 r15)
 else
 some (Rec'.mk false [] [])
abbrev K287 (p0:List Ent) (p1:Tm) (p2 p3:Int) (r:Rec') (C:Cf):Prop:=C 287 [] [slv entL p0 .no,tmA p1,ai p2,ai p3] (recA r) [] 0
theorem q287:Qf 287 Tryz.f287:=⟨Tryz.func287,by kernel_rfl⟩
theorem k287{p0 p1 p2 p3 r}(h:K287 p0 p1 p2 p3 r Ci):K287 p0 p1 p2 p3 r Ct:=⟨h,⟨⟨tv,dE _⟩,⟨tv,tv,⟨tv,dT _⟩,tv⟩,tv,tv,tv⟩,forall_nil,⟨tv,dT _,dT _,tv⟩,forall_nil⟩
theorem c287{qq p0 p1 p2 p3 r}(h:e287 qq p0 p1 p2 p3=some r):K287 p0 p1 p2 p3 r Ct:=by
 unfold e287 at h
 obtain⟨r1,h2,h⟩:=obind h
 obtain⟨r3,h4,h⟩:=obind h
 have k:=oC 5 [] (c167 h4)<|oC 1 [] (c286 h2) o0
 rcases spl h with⟨h5,h⟩|⟨h5,h⟩
 obtain rfl:=sj h
 exact k287 (tF q287 1 [] (oD (dT ([]:List Tm))<|oD (dT ([]:List Tm))<|oB 3 h5 k))
 have k:=oB 3 h5 k
 rcases spl h with⟨h6,h⟩|⟨h6,h⟩
 obtain rfl:=sj h
 exact k287 (tF q287 1 [] (oD (dT ([]:List Tm))<|oD (dT ([]:List Tm))<|oB 1 h6 k))
 have k:=oB 1 h6 k
 rcases spl h with⟨h7,h⟩|⟨h7,h⟩
 obtain rfl:=sj h
 exact k287 (tF q287 1 [] (oD (dT ([]:List Tm))<|oD (dT ([]:List Tm))<|oB 1 h7 k))
 obtain⟨x8,h9,h⟩:=obind h
 obtain⟨r10,h11,h⟩:=obind h
 have k:=oA 1 (ix22 (o:=.no) h9)<|oA 1 (ix22 (o:=.no) h9)<|oB 1 h7 k
 rcases spl h with⟨h12,h⟩|⟨h12,h⟩
 obtain⟨x13,h14,h⟩:=obind h
 obtain⟨r15,h16,h⟩:=obind h
 obtain rfl:=sj h
 exact k287 (tF q287 1 [] (oD (dT r15)<|oD (dT r1.1)<|oC 0 [] (c120 h16)<|oA 1 (slFrom23 h14)<|oA 1 (ix22 (o:=.no) h9)<|oK 3 [] h12 (c328 h11) k))
 obtain rfl:=sj h
 exact k287 (tF q287 2 [] (oD (dT ([]:List Tm))<|oD (dT ([]:List Tm))<|oK 3 [] h12 (c328 h11) k))
def e225Lbc:Nat->(List Ent)->Ent->(List Tm)->(List Tm)->Int->(List Rec')->Option (Con')
 |0,_,_,_,_,_,_=>none
 |qq+1,p0,x1,x7,r11,v43,vb2_2=>
 if decide (v43<(List.length x7:Int))then
 gidx x7 v43>>=fun x14=>
 e287 qq p0 x14 x1.fam (w64 (x1.pars+v43))>>=fun r16=>
 gapp 56 vb2_2 [r16]>>=fun l18=>
 e225Lbc qq p0 x1 x7 r11 (w64 (v43+1)) l18
 else
 some (Con'.mk x7 r11 vb2_2)
def e225(qq:Nat)(p0:List Ent)(p1:Int):Option (Con'):=
 gidx p0 p1>>=fun x1=>
 e286 qq x1.type>>=fun r3=>
 e167 qq r3.2.1>>=fun r5=>
 gsl r3.1 x1.pars (List.length r3.1:Int)>>=fun x7=>
 gsl r5.2 x1.pars (List.length r5.2:Int)>>=fun x9=>
 e120 qq x9>>=fun r11=>
 e225Lbc qq p0 x1 x7 r11 0 []
def g225LbcE0(j:Nat->Value)(p0:List Ent)(x1:Ent)(x7 r11:List Tm)(v43:Int)(vb2_2:List Rec'):=sp j 64 0 [(0,slv entL p0 .no),(4,.mp 0 0),(5,.mp 1 0),(11,.mp 2 0),(41,slv tmCells x7 .no),(42,ai (List.length x7:Int)),(43,ai v43)]
def g225LbcS0(p0:List Ent)(x1:Ent)(x7 r11:List Tm)(v43:Int)(vb2_2:List Rec'):LSt:=⟨[(0,.cells [slv tmCells ([]:List Tm) .nl,slv tmCells ([]:List Tm) .nl,slv recL ([]:List Rec') .nl]),(1,.cells [ai x1.kind,at' x1.name,ai x1.type.k,ai x1.type.n,slv tmCells x1.type.sub .no,ai x1.body.k,ai x1.body.n,slv tmCells x1.body.sub .no,ai x1.fam,ai x1.place,ai x1.pars,ai x1.inds,ai x1.level,slv intC x1.cons .no,slv intC x1.fields .no]),(2,.cells [slv tmCells x7 .no,slv tmCells r11 .no,slv recL vb2_2 (.st 0 3)])],3,[0],1,[]⟩
abbrev K225 (p0:List Ent) (p1:Int) (r:Con') (C:Cf):Prop:=C 225 [] [slv entL p0 .no,ai p1] (conA r) [] 0
theorem q225:Qf 225 Tryz.f225:=⟨Tryz.func225,by kernel_rfl⟩
theorem k225{p0 p1 r}(h:K225 p0 p1 r Ci):K225 p0 p1 r Ct:=⟨h,⟨⟨tv,dE _⟩,tv,tv⟩,forall_nil,⟨dT _,dT _,dR _,tv⟩,forall_nil⟩
theorem l225Lbc:∀qq:Nat,(∀p0 x1 x7 r11 v43 vb2_2 r,e225Lbc qq p0 x1 x7 r11 v43 vb2_2=some r->(∀j,Dl Tryz.prog 0 (inn (inn (rgt (lft (rgt (rgt (rgt (rgt (rgt (bod Tryz.f225)))))))))) (g225LbcE0 j p0 x1 x7 r11 v43 vb2_2) (g225LbcS0 p0 x1 x7 r11 v43 vb2_2) (frameQ Tryz.prog 0 (FinQ Tryz.prog 0 Tryz.f225 (conA r) [] 0) [.blk 0,.seq (rgt (rgt (rgt (rgt (rgt (rgt (bod Tryz.f225)))))))]))):=by
 intro qq
 induction qq with
 |zero=>
  exact fun _ _ _ _ _ _ _ h=>nn h
 |succ qq ih=>
  intro p0 x1 x7 r11 v43 vb2_2 r h
  rw[e225Lbc]at h
  rcases spl h with⟨h13,h⟩|⟨h13,h⟩
  obtain⟨x14,h15,h⟩:=obind h
  obtain⟨r16,h17,h⟩:=obind h
  obtain⟨l18,h19,h⟩:=obind h
  exact fun j=>lH 2 [] [0,1,2] [1] [0,4,5,11,41,42,43] (oD (dT x7)<|oD (dE p0)<|oD (dR l18)<|oD (dT r11)<|oD (dT x7)<|oD (dI x1.fields)<|oD (dI x1.cons)<|oD (dT x1.body.sub)<|oD (dT x1.type.sub)<|oD (dR ([]:List Rec'))<|oD (dT ([]:List Tm))<|oD (dT ([]:List Tm))<|oP 1 (apS250 h19 (by simp))<|oC 7 [] (c287 h17)<|oA 0 (ix23 (o:=.no) h15)<|oB 0 h13 o0) (ih _ _ _ _ _ _ _ h)
  obtain rfl:=sj h
  exact fun j=>lF 2 [] (oD (dR vb2_2)<|oD (dT r11)<|oD (dT x7)<|oB 0 h13 o0)
theorem c225{qq p0 p1 r}(h:e225 qq p0 p1=some r):K225 p0 p1 r Ct:=by
 unfold e225 at h
 obtain⟨x1,h2,h⟩:=obind h
 obtain⟨r3,h4,h⟩:=obind h
 obtain⟨r5,h6,h⟩:=obind h
 obtain⟨x7,h8,h⟩:=obind h
 obtain⟨x9,h10,h⟩:=obind h
 obtain⟨r11,h12,h⟩:=obind h
 exact k225 (tH q225 3 [(some 4,2,3)] [0,1,4] [0] [0,4,5,11,41,42,43] (oD (dT x7)<|oD (dE p0)<|oD (dR ([]:List Rec'))<|oD (dT r11)<|oD (dT x7)<|oD (dI x1.fields)<|oD (dI x1.cons)<|oD (dT x1.body.sub)<|oD (dT x1.type.sub)<|oD (dR ([]:List Rec'))<|oD (dT ([]:List Tm))<|oD (dT ([]:List Tm))<|oC 0 [] (c120 h12)<|oA 1 (slFrom23 h10)<|oA 4 (slFrom23 h8)<|oC 5 [] (c167 h6)<|oC 3 [] (c286 h4)<|oA 0 (ix22 (o:=.no) h2) o0) (l225Lbc _ _ _ _ _ _ _ _ h))
def e158Lbd:Nat->(List Ent)->(List Con')->Int->(List Con')->Option ((List Con' × Int) ⊕ (List Con' × Int))
 |0,_,_,_,_=>none
 |qq+1,p0,x4,v14,vb0_0=>
 if decide (v14<(List.length p0:Int))then
 gidx p0 v14>>=fun x7=>
 if x7.kind==2 then
 e225 qq p0 v14>>=fun r10=>
 gchk (List.length x4) v14>>=fun x12=>
 gset vb0_0 x12 r10>>=fun x14=>
 e158Lbd qq p0 x4 (w64 (v14+1)) x14
 else
 e158Lbd qq p0 x4 (w64 (v14+1)) vb0_0
 else
 gfz (List.length x4) vb0_0>>=fun l16=>
 some (Sum.inr (l16,0))
def e158(qq:Nat)(p0:List Ent):Option ((List Con' × Int) ⊕ (List Con' × Int)):=
 e157 qq p0>>=fun r1=>
 if r1 then
 gmk 72 (default:Con') (List.length p0:Int)>>=fun x4=>
 e158Lbd qq p0 x4 0 x4
 else
 some (Sum.inl ([],5))
def g158LbdE0(j:Nat->Value)(p0:List Ent)(x4:List Con')(v14:Int)(vb0_0:List Con'):=sp j 31 0 [(0,slv entL p0 .no),(4,.ms 0 0 (List.length x4) (List.length x4) 3),(13,ai (List.length p0:Int)),(14,ai v14)]
def g158LbdS0(p0:List Ent)(x4:List Con')(v14:Int)(vb0_0:List Con'):LSt:=⟨[(0,.row (flat conL vb0_0))],1,[],0,[]⟩
abbrev K158s0 (p0:List Ent) (r:List Con' × Int) (C:Cf):Prop:=C 158 [] [slv entL p0 .no] (.tup [.sl (flat conL r.1) (List.length r.1) .no,ai r.2]) [] 0
abbrev K158s1 (p0:List Ent) (r:List Con' × Int) (C:Cf):Prop:=C 158 [] [slv entL p0 .no] (.tup [.ms 0 0 (List.length r.1) (List.length r.1) 3,ai r.2]) [.row (flat conL r.1)] 0
theorem q158:Qf 158 Tryz.f158:=⟨Tryz.func158,by kernel_rfl⟩
theorem k158s0{p0 r}(h:K158s0 p0 r Ci):K158s0 p0 r Ct:=⟨h,⟨⟨tv,dE _⟩,tv⟩,forall_nil,⟨dC _,tv,tv⟩,forall_nil⟩
theorem k158s1{p0 r}(h:K158s1 p0 r Ci):K158s1 p0 r Ct:=⟨h,⟨⟨tv,dE _⟩,tv⟩,forall_nil,⟨(lz rfl),tv,tv⟩,(forall_cons (dC _) forall_nil)⟩
theorem l158Lbd:∀qq:Nat,(∀p0 x4 v14 vb0_0 r,e158Lbd qq p0 x4 v14 vb0_0=some r->(∀j,Dl Tryz.prog 0 (inn (inn (rgt (lft (rgt (rgt (rgt (bod Tryz.f158)))))))) (g158LbdE0 j p0 x4 v14 vb0_0) (g158LbdS0 p0 x4 v14 vb0_0) (frameQ Tryz.prog 0 ((match (generalizing:=false) r with|Sum.inl x=>FinQ Tryz.prog 0 Tryz.f158 (.tup [.sl (flat conL x.1) (List.length x.1) .no,ai x.2]) [] 0|Sum.inr x=>FinQ Tryz.prog 0 Tryz.f158 (.tup [.ms 0 0 (List.length x.1) (List.length x.1) 3,ai x.2]) [.row (flat conL x.1)] 0)) [.blk 0,.seq (rgt (rgt (rgt (rgt (bod Tryz.f158)))))]))):=by
 intro qq
 induction qq with
 |zero=>
  exact fun _ _ _ _ _ h=>nn h
 |succ qq ih=>
  intro p0 x4 v14 vb0_0 r h
  rw[e158Lbd]at h
  rcases spl h with⟨h6,h⟩|⟨h6,h⟩
  obtain⟨x7,h8,h⟩:=obind h
  have k:=oA 0 (ix22 (o:=.no) h8)<|oB 0 h6 o0
  rcases spl h with⟨h9,h⟩|⟨h9,h⟩
  obtain⟨r10,h11,h⟩:=obind h
  obtain⟨x12,h13,h⟩:=obind h
  obtain⟨x14,h15,h⟩:=obind h
  exact fun j=>lH 1 [] [0] [] [0,4,13,14] (oD (dE p0)<|oD (dC x14)<|oW 0 (wtE (x:=r10) (cs:=[slv tmCells r10.args .no,slv tmCells r10.inds .no,slv recL r10.recs .no]) codecC rfl h15)<|oA 0 (ixM245 (b:=0) (c:=List.length x4) (z:=3) h13)<|oC 0 [] (c225 h11)<|oB 1 h9 k) (ih _ _ _ _ _ h)
  exact fun j=>lH 1 [] [0] [] [0,4,13,14] (oD (dE p0)<|oD (dC vb0_0)<|oB 1 h9 k) (ih _ _ _ _ _ h)
  obtain⟨l16,h17,h⟩:=obind h
  obtain⟨h17a,h17b⟩:=gfz_spec h17
  obtain rfl:=sj h
  obtain rfl:=h17a.symm
  dsimp only
  rw[←h17b]
  exact fun j=>lF 0 [0] (oD (dC vb0_0)<|oB 0 h6 o0)
theorem c158r{qq p0 r}(h:e158 qq p0=some r):(match (generalizing:=false) r with|Sum.inl x=>K158s0 p0 x Ct|Sum.inr x=>K158s1 p0 x Ct):=by
 unfold e158 at h
 obtain⟨r1,h2,h⟩:=obind h
 rcases spl h with⟨h3,h⟩|⟨h3,h⟩
 obtain⟨x4,h5,h⟩:=obind h
 rcases r with y0|y1
 exact k158s0 (tH q158 1 [] [0] [] [0,4,13,14] (oD (dE p0)<|oD (dC x4)<|oM 2 (mkM245 h5)<|oK 0 [] h3 (c157 h2) o0) (l158Lbd _ _ _ _ _ _ h))
 exact k158s1 (tH q158 1 [] [0] [] [0,4,13,14] (oD (dE p0)<|oD (dC x4)<|oM 2 (mkM245 h5)<|oK 0 [] h3 (c157 h2) o0) (l158Lbd _ _ _ _ _ _ h))
 obtain rfl:=sj h
 exact k158s0 (tF q158 1 [] (oD (dC ([]:List Con'))<|oK 0 [] h3 (c157 h2) o0))
theorem c158{qq p0 r}(h:e158 qq p0=some r):(match (generalizing:=false) r with|Sum.inl x=>CT Tryz.prog 158 [] [slv entL p0 .no] (.tup [.sl (flat conL x.1) (List.length x.1) .no,ai x.2]) [] 0|Sum.inr x=>CT Tryz.prog 158 [] [slv entL p0 .no] (.tup [.sl (flat conL x.1) (List.length x.1) .no,ai x.2]) [] 0):=by
 have k:=c158r h
 rcases r with y0|y1
 ·exact k
 ·exact CT.freeze (H1:=[]) (cs:=flat conL y1.1) (res':=(.tup [.sl (flat conL y1.1) (List.length y1.1) .no,ai y1.2])) k (Nat.le_of_ble_eq_true rfl) forall_nil (dC _) ⟨(.inl ⟨rfl,rfl⟩),trivial,tv⟩ (by rfl) rfl
theorem splitT_err{t:Tm}{n:Int}(h:(splitT t n).2.2≠0):(splitT t n).2.1=zT∧(splitT t n).1=[]:=by
 unfold splitT at h ⊢
 split
 ·split
  ·exact⟨rfl,rfl⟩
  ·split
   ·exact⟨rfl,rfl⟩
   ·rename_i h1 h2 h3
    rw[if_pos h1,if_neg h2,if_neg h3]at h
    cases hr:splT n.toNat t with
    |none=>exact⟨rfl,rfl⟩
    |some r=>rw[hr]at h;exact absurd rfl h
 ·exact⟨rfl,rfl⟩
theorem spine_z:Evt (fun q=>e167 q zT) (hdT zT,arT zT):=by
 refine Evt.mk fun q=>?_
 show g167L0 zT zT []=_
 unfold zT g167L0 hdT arT
 simp
theorem ev_SpineW(t:Tm):Evt (fun q=>e167 q (wholeT t).2.1) (hdT (wholeT t).2.1,arT (wholeT t).2.1):=by
 by_cases h:(wholeT t).2.2=0
 ·have hw:=wholeT_ok (t:=t) (l:=(wholeT t).1) (y:=(wholeT t).2.1) (by rw[←h])
  exact ev_Spine _ hw.2.2.2.2.1
 ·have:=(splitT_err (t:=t) (n:=((min (pisT t) 25:Nat):Int)) h).1
  have e:(wholeT t).2.1=zT:=this
  rw[e];exact spine_z
def recT(l:List Ent)(t:Tm)(of b:Int):Rec':=
 if (wholeT t).2.2=0∧appliedT (wholeT t).2.1 of (ent l of).pars (ent l of).inds (b+(wholeT t).1.length)=true then Rec'.mk true (wholeT t).1 ((arT (wholeT t).2.1).drop (ent l of).pars.toNat)else Rec'.mk false [] []
theorem gsl_from{α:Type}{L:List α}{n:Int}(h0:0≤n)(h1:n≤L.length):gsl L n (L.length:Int)=some (L.drop n.toNat):=by
 unfold gsl
 rw[if_pos ⟨h0,h1,by omega⟩]
 congr 1
 exact List.take_of_length_le (by simp;omega)
theorem appliedT_spec{t:Tm}{of pars more b:Int}(h:appliedT t of pars more b=true):(hdT t).k=6∧(hdT t).n=of∧((arT t).length:Int)=pars+more:=by
 unfold appliedT at h
 simp only[Bool.and_eq_true,beq_iff_eq]at h
 exact⟨h.1.1.1,h.1.1.2,h.1.2⟩
theorem ev_rec(l:List Ent)(t:Tm)(of b:Int)(ho:t.Ok)(h0:0≤of)(h1:of<l.length)(hp:0≤(ent l of).pars∧0≤(ent l of).inds∧(ent l of).pars+(ent l of).inds≤24)(hb:0≤b∧b≤1048576) :
  Evt (fun q=>e287 q l t of b) (recT l t of b):=by
 simp only[e287]
 refine(ev_Whole t ho).bind ((ev_SpineW t).bind ?_)
 unfold recT
 by_cases a1:(wholeT t).2.2=0
 ·have hw:=wholeT_ok (t:=t) (l:=(wholeT t).1) (y:=(wholeT t).2.1) (by rw[←a1])
  refine Evt.ifF (by simp[a1]) ?_
  have hlen:=hw.2.2.1
  rw[w64_id (x:=b+((wholeT t).1.length:Int)) (by omega) (by omega)]
  have ha:=ev_applied (wholeT t).2.1 of (ent l of).pars (ent l of).inds (b+(wholeT t).1.length) hw.2.2.2.2.1 (by omega) (by omega) (by omega)
  by_cases a2:appliedT (wholeT t).2.1 of (ent l of).pars (ent l of).inds (b+(wholeT t).1.length)=true
  ·have hs:=appliedT_spec a2
   rw[if_pos ⟨a1,a2⟩]
   refine Evt.ifF (by simp[hs.1]) (Evt.ifF (by simp[hs.2.1]) (Evt.pure (gidx_ent h0 h1) (ha.bind (Evt.ifT a2 (Evt.pure (gsl_from hp.1 (by show _≤((arT (wholeT t).2.1).length:Int);omega)) ?_)))))
   have hal:=ar_len _ (shapedT_spec hw.2.2.2.2.1).2.2
   have hn:=(shapedT_spec hw.2.2.2.2.1).1
   refine Evt.bind (a:=(arT (wholeT t).2.1).drop (ent l of).pars.toNat) (Evt.mk fun q=>(gapp_ok (by simp<;>omega)).trans (by simp)) Evt.ret
  ·rw[if_neg (fun h=>a2 h.2)]
   refine Evt.iff (fun _=>Evt.ret) fun _=>Evt.iff (fun _=>Evt.ret) fun _=>Evt.pure (gidx_ent h0 h1) (ha.bind (Evt.ifF (by simpa using a2) Evt.ret))
 ·rw[if_neg (fun h=>a1 h.1)]
  exact Evt.ifT (by simp[a1]) Evt.ret
def recsT(l:List Ent)(of:Int):List Tm->Int->List Rec'
 | [],_=>[]
 |a::r,b=>recT l a of b::recsT l of r (b+1)
def partsT(l:List Ent)(i:Int):Con':=
 Con'.mk ((wholeT (ent l i).type).1.drop (ent l i).pars.toNat) ((arT (wholeT (ent l i).type).2.1).drop (ent l i).pars.toNat) (recsT l (ent l i).fam ((wholeT (ent l i).type).1.drop (ent l i).pars.toNat) (ent l i).pars)
theorem ev_partsL(l:List Ent)(x:Ent)(A I:List Tm)(hA:∀t∈A,t.Ok)(hl:A.length≤24)(h0:0≤x.fam)(h1:x.fam<l.length)(hp:0≤(ent l x.fam).pars∧0≤(ent l x.fam).inds∧(ent l x.fam).pars+(ent l x.fam).inds≤24)(hb:0≤x.pars∧x.pars≤24) :
  ∀(r:List Tm) (v:Nat) (acc:List Rec'),A.drop v=r->acc.length≤v->Evt (fun q=>e225Lbc q l x A I (v:Int) acc) (Con'.mk A I (acc++recsT l x.fam r (x.pars+v)))
 | [],v,acc,hd,ha=>by
  refine Evt.succ ?_
  simp only[e225Lbc]
  exact Evt.ifF (drop_nil hd) (Evt.ret.eq (by simp[recsT]))
 |t::r,v,acc,hd,ha=>by
  have hlt:=drop_lt hd
  have ht:t∈A:=by
   have:t∈A.drop v:=by rw[hd];simp
   exact List.mem_of_mem_drop this
  refine Evt.succ ?_
  simp only[e225Lbc]
  rw[w64_id (x:=x.pars+v) (by omega) (by omega)]
  refine Evt.ifT (drop_dec hd) (Evt.pure (drop_idx hd) ((ev_rec l t x.fam (x.pars+v) (hA t ht) h0 h1 hp (by omega)).bind (Evt.pure (gapp_ok (by simp<;>omega)) ?_)))
  rw[w64_nat v (by omega)]
  refine(ev_partsL l x A I hA hl h0 h1 hp hb r (v+1) _ (drop_next hd) (by simp<;>omega)).eq ?_
  rw[recsT,show x.pars+((v+1:Nat):Int)=x.pars+v+1 by omega];simp
theorem con_facts{N:ByteArray->Bool}{l:List Ent}{i:Int}(hE:AllE N l)(h0:0≤i)(h1:i<l.length)(hk:(ent l i).kind=2) :
  ∃(A:List Tm) (y:Tm),wholeT (ent l i).type=(A,y,0)∧shapedT y=true∧(∀t∈A,shapedT t=true)∧A.length=pisT (ent l i).type∧A.length≤24∧0≤(ent l i).pars∧(ent l i).pars≤A.length ∧
   0≤(ent l i).fam∧(ent l i).fam<i∧(ent l (ent l i).fam).kind=1∧(ent l i).pars=(ent l (ent l i).fam).pars∧0≤(ent l (ent l i).fam).inds∧(ent l (ent l i).fam).pars+(ent l (ent l i).fam).inds≤24 ∧
   appliedT y (ent l i).fam (ent l i).pars (ent l (ent l i).fam).inds A.length=true∧0≤(ent l i).place∧(ent l i).place<(ent l (ent l i).fam).cons.length:=by
 have hc:=(entryT_spec (hE.2 i h0 h1)).2.2.1 hk
 unfold conT at hc
 simp only[Bool.and_eq_true,beq_iff_eq,decide_eq_true_eq]at hc
 obtain⟨a1,a2,a3,a4⟩:=hc
 have ho:=ownedT_spec a1
 have hf:=familyT_spec ((entryT_spec (hE.2 _ ho.1 (by omega))).2.1 ho.2.2.1)
 have hw:=wholeT_ok (t:=(ent l i).type) (l:=(wholeT (ent l i).type).1) (y:=(wholeT (ent l i).type).2.1) (by rw[←a2])
 have hown:ownL l (ent l i)=(ent l (ent l i).fam).cons:=by unfold ownL;rw[if_neg (by omega)]
 have h6:=ho.2.2.2.2.2
 rw[hown]at h6
 exact⟨_,_,by rw[←a2],hw.2.2.2.2.1,hw.2.2.2.2.2,hw.2.1,hw.2.2.1,by omega,a3,ho.1,ho.2.1,ho.2.2.1,ho.2.2.2.1,hf.2.1,hf.2.2.1,a4,ho.2.2.2.2.1,h6⟩
theorem shaped_ok{t:Tm}(h:shapedT t=true):t.Ok:=good_ok t (shapedT_spec h).2.2
theorem ev_parts{N:ByteArray->Bool}(l:List Ent)(i:Int)(hE:AllE N l)(h0:0≤i)(h1:i<l.length)(hk:(ent l i).kind=2)(he:∀e∈l,EOk e):Evt (fun q=>e225 q l i) (partsT l i):=by
 simp only[e225]
 obtain⟨A,y,hw,hy,hA,hAp,hA24,p0,p1,f0,f1,fk,fp,fi,fs,hap,-,-⟩:=con_facts hE h0 h1 hk
 have hsp:=appliedT_spec hap
 refine Evt.pure (gidx_ent h0 h1) ((ev_Whole _ (he _ (ent_mem h0 h1)).1).bind ((ev_SpineW _).bind ?_))
 unfold partsT
 rw[hw]
 have hal:=ar_len _ (shapedT_spec hy).2.2
 have hn:=(shapedT_spec hy).1
 refine Evt.pure (gsl_from p0 p1) (Evt.pure (gsl_from p0 (by show _≤((arT y).length:Int);omega)) (Evt.bind (a:=(arT y).drop (ent l i).pars.toNat) (Evt.mk fun q=>(gapp_ok (by simp<;>omega)).trans (by simp)) ?_))
 refine(ev_partsL l (ent l i) (A.drop (ent l i).pars.toNat) ((arT y).drop (ent l i).pars.toNat) (fun t ht=>shaped_ok (hA t (List.mem_of_mem_drop ht))) (by simp;omega) f0 (by omega) (by omega) (by omega) _ 0 [] rfl (by simp)).eq ?_
 simp
def evA(l:List Ent):Nat->Nat->List Con'
 |0,_=>[]
 |m+1,v=>(if (ent l v).kind=2 then partsT l v else default)::evA l m (v+1)
theorem ev_EveryL{N:ByteArray->Bool}(l:List Ent)(x4:List Con')(hx:x4.length=l.length)(hE:AllE N l)(he:∀e∈l,EOk e):∀(m v:Nat) (acc:List Con'),v+m=l.length->acc.length=v ->
  Evt (fun q=>e158Lbd q l x4 (v:Int) (acc++List.replicate m default)) (.inr (acc++evA l m v,0)):=by
 intro m
 induction m with
 |zero=>
  intro v acc hm ha
  refine Evt.succ ?_
  simp only[e158Lbd]
  refine Evt.ifF (decide_eq_false (by omega)) (Evt.pure (a:=acc++List.replicate 0 default) (by unfold gfz;rw[if_pos (by simp;omega)]) (Evt.ret.eq (by simp[evA])))
 |succ m ih=>
  intro v acc hm ha
  refine Evt.succ ?_
  simp only[e158Lbd]
  refine Evt.ifT (decide_eq_true (by omega)) (Evt.pure (gidx_ent (by omega) (by omega)) ?_)
  have hl:=hE.1
  rw[w64_nat v (by omega),evA]
  by_cases k:(ent l v).kind=2
  ·rw[if_pos k]
   refine Evt.ifT (by simp[k]) ((ev_parts l v hE (by omega) (by omega) k he).bind ?_)
   refine Evt.pure (a:=v) (by unfold gchk;rw[if_pos (by omega)];simp) ?_
   refine Evt.pure (a:=acc++partsT l v::List.replicate m default) ?_ ?_
   ·unfold gset
    rw[if_pos (by simp;omega),List.set_append_right _ _ (by omega),show v-acc.length=0 by omega,List.replicate_succ];rfl
   ·have:=ih (v+1) (acc++[partsT l v]) (by omega) (by simp;omega)
    simpa using this
  ·rw[if_neg k]
   refine Evt.ifF (by simp[k]) ?_
   have:=ih (v+1) (acc++[default]) (by omega) (by simp;omega)
   rw[List.replicate_succ]
   simpa using this
def e83(qq:Nat)(p0:List Ent):Option ((Int) ⊕ (Int×List Ent×List Con')):=
 e88 qq p0>>=fun r1=>
 e157 qq p0>>=fun r3=>
 if r3 then
 e158 qq r1>>=fun r6=>
 match r6 with
 |Sum.inl y8=>
  if y8.2 != 0 then
  some (Sum.inl y8.2)
  else
  some (Sum.inr (0,r1,y8.1))
 |Sum.inr y10=>
  if y10.2 != 0 then
  some (Sum.inl y10.2)
  else
  some (Sum.inr (0,r1,y10.1))
 else
 some (Sum.inl 5)
abbrev K83s0 (p0:List Ent) (r:Int) (C:Cf):Prop:=C 83 [] [slv entL p0 .no] (.tup [.val (.pointer none),ai r]) [] 0
abbrev K83s1 (p0:List Ent) (r:Int×List Ent×List Con') (C:Cf):Prop:=C 83 [] [slv entL p0 .no] (.tup [.mp 0 0,ai r.1]) [.cells [slv entL r.2.1 .no,slv conL r.2.2 .no]] 0
theorem q83:Qf 83 Tryz.f83:=⟨Tryz.func83,by kernel_rfl⟩
theorem k83s0{p0 r}(h:K83s0 p0 r Ci):K83s0 p0 r Ct:=⟨h,⟨⟨tv,dE _⟩,tv⟩,forall_nil,⟨tv,tv,tv⟩,forall_nil⟩
theorem k83s1{p0 r}(h:K83s1 p0 r Ci):K83s1 p0 r Ct:=⟨h,⟨⟨tv,dE _⟩,tv⟩,forall_nil,⟨(lz rfl),tv,tv⟩,(forall_cons ⟨dE _,dC _,tv⟩ forall_nil)⟩
theorem c83{qq p0 r}(h:e83 qq p0=some r):(match (generalizing:=false) r with|Sum.inl x=>K83s0 p0 x Ct|Sum.inr x=>K83s1 p0 x Ct):=by
 unfold e83 at h
 obtain⟨r1,h2,h⟩:=obind h
 obtain⟨r3,h4,h⟩:=obind h
 have k:=oC 0 [] (c88 h2) o0
 rcases spl h with⟨h5,h⟩|⟨h5,h⟩
 obtain⟨r6,h7,h⟩:=obind h
 have k:=oK 0 [] h5 (c157 h4) k
 rcases r6 with y8|y10
 dsimp only at h
 have k:=oC 1 [] (c158 h7) k
 rcases spl h with⟨h9,h⟩|⟨h9,h⟩
 obtain rfl:=sj h
 exact k83s0 (tF q83 0 [] (oB 2 h9 k))
 obtain rfl:=sj h
 exact k83s1 (tF q83 0 [0] (oD (dC y8.1)<|oD (dE r1)<|oB 2 h9 k))
 dsimp only at h
 have k:=oC 1 [] (c158 h7) k
 rcases spl h with⟨h11,h⟩|⟨h11,h⟩
 obtain rfl:=sj h
 exact k83s0 (tF q83 0 [] (oB 2 h11 k))
 obtain rfl:=sj h
 exact k83s1 (tF q83 0 [0] (oD (dC y10.1)<|oD (dE r1)<|oB 2 h11 k))
 obtain rfl:=sj h
 exact k83s0 (tF q83 1 [] (oK 0 [] h5 (c157 h4) k))
mutual
def e37Lbe:Nat->(List Ent)->(Int×List Ent×List Con')->Int->(List Ent)->(List Int)->(List Int)->Option ((Int) ⊕ (Int×List Ent×List Int×List Int×List Ent×List Con'))
 |0,_,_,_,_,_,_=>none
 |qq+1,p0,y3,v27,vb0_0,vb0_2,vb0_3=>
 if decide (v27<(List.length p0:Int))then
 gidx p0 v27>>=fun x8=>
 if x8.kind==1 then
 gapp 8 vb0_2 [(w64 ((w64 ((w64 (x8.pars+2))+(List.length x8.cons:Int)))+x8.inds))]>>=fun l11=>
 gapp 8 vb0_3 [0]>>=fun l13=>
 e37Lbe qq p0 y3 (w64 (v27+1)) vb0_0 l11 l13
 else
 if x8.kind==2 then
 e37Lbf qq p0 y3 v27 vb0_0 vb0_2 vb0_3 0 x8.type.k x8.type.n x8.type.sub
 else
 gapp 8 vb0_2 [0]>>=fun l16=>
 gapp 8 vb0_3 [0]>>=fun l18=>
 e37Lbe qq p0 y3 (w64 (v27+1)) vb0_0 l16 l18
 else
 some (Sum.inr (0,vb0_0,vb0_2,vb0_3,y3.2.1,y3.2.2))
def e37Lbf:Nat->(List Ent)->(Int×List Ent×List Con')->Int->(List Ent)->(List Int)->(List Int)->Int->Int->Int->(List Tm)->Option ((Int) ⊕ (Int×List Ent×List Int×List Int×List Ent×List Con'))
 |0,_,_,_,_,_,_,_,_,_,_=>none
 |qq+1,p0,y3,v27,vb0_0,vb0_2,vb0_3,v10,vb1_0,vb1_1,vb1_2=>
 if vb1_0==3 then
 gidx vb1_2 1>>=fun x17=>
 e37Lbf qq p0 y3 v27 vb0_0 vb0_2 vb0_3 (w64 (v10+1)) x17.k x17.n x17.sub
 else
 gapp 8 vb0_2 [0]>>=fun l19=>
 gapp 8 vb0_3 [v10]>>=fun l21=>
 e37Lbe qq p0 y3 (w64 (v27+1)) vb0_0 l19 l21
end
def e37(qq:Nat)(p0:List Ent):Option ((Int) ⊕ (Int×List Ent×List Int×List Int×List Ent×List Con')):=
 e83 qq p0>>=fun r1=>
 match r1 with
 |Sum.inl y7=>
  if y7 != 0 then
  some (Sum.inl y7)
  else
  none
 |Sum.inr y3=>
  if y3.1 != 0 then
  some (Sum.inl y3.1)
  else
  e88 qq p0>>=fun r5=>
  e37Lbe qq p0 y3 0 r5 [] []
def g37LbeE0(j:Nat->Value)(p0:List Ent)(y3:Int×List Ent×List Con')(v27:Int)(vb0_0:List Ent)(vb0_2 vb0_3:List Int):=sp j 81 0 [(6,.mp 0 0),(25,slv entL p0 .no),(26,ai (List.length p0:Int)),(27,ai v27)]
def g37LbeS0(p0:List Ent)(y3:Int×List Ent×List Con')(v27:Int)(vb0_0:List Ent)(vb0_2 vb0_3:List Int):LSt:=⟨[(0,.cells [slv entL vb0_0 .no,.mp 1 0,slv intC vb0_2 (.st 0 1),slv intC vb0_3 (.st 1 1)]),(1,.cells [slv entL y3.2.1 .no,slv conL y3.2.2 .no])],2,[0,1],2,[]⟩
def g37LbfE0(j:Nat->Value)(p0:List Ent)(y3:Int×List Ent×List Con')(v27:Int)(vb0_0:List Ent)(vb0_2 vb0_3:List Int)(v10 vb1_0 vb1_1:Int)(vb1_2:List Tm):=sp j 81 0 [(6,.mp 0 0),(9,ai 0),(10,ai v10),(11,.mp 1 0),(25,slv entL p0 .no),(26,ai (List.length p0:Int)),(27,ai v27)]
def g37LbfS0(p0:List Ent)(y3:Int×List Ent×List Con')(v27:Int)(vb0_0:List Ent)(vb0_2 vb0_3:List Int)(v10 vb1_0 vb1_1:Int)(vb1_2:List Tm):LSt:=⟨[(0,.cells [slv entL vb0_0 .no,.mp 2 0,slv intC vb0_2 (.st 0 1),slv intC vb0_3 (.st 1 1)]),(1,.cells [ai vb1_0,ai vb1_1,slv tmCells vb1_2 .no]),(2,.cells [slv entL y3.2.1 .no,slv conL y3.2.2 .no])],3,[0,1],2,[]⟩
abbrev K37s0 (p0:List Ent) (r:Int) (C:Cf):Prop:=C 37 [] [slv entL p0 .no] (.tup [.val (.pointer none),ai r]) [] 0
abbrev K37s1 (p0:List Ent) (r:Int×List Ent×List Int×List Int×List Ent×List Con') (C:Cf):Prop:=C 37 [] [slv entL p0 .no] (.tup [.mp 0 0,ai r.1]) [.cells [slv entL r.2.1 .no,.mp 1 0,slv intC r.2.2.1 .no,slv intC r.2.2.2.1 .no],.cells [slv entL r.2.2.2.2.1 .no,slv conL r.2.2.2.2.2 .no]] 0
theorem q37:Qf 37 Tryz.f37:=⟨Tryz.func37,by kernel_rfl⟩
theorem k37s0{p0 r}(h:K37s0 p0 r Ci):K37s0 p0 r Ct:=⟨h,⟨⟨tv,dE _⟩,tv⟩,forall_nil,⟨tv,tv,tv⟩,forall_nil⟩
theorem k37s1{p0 r}(h:K37s1 p0 r Ci):K37s1 p0 r Ct:=⟨h,⟨⟨tv,dE _⟩,tv⟩,forall_nil,⟨(lz rfl),tv,tv⟩,(forall_cons ⟨dE _,(lz rfl),dI _,dI _,tv⟩ (forall_cons ⟨dE _,dC _,tv⟩ forall_nil))⟩
theorem a37Lbe_37Lbf:∀qq:Nat,(∀p0 y3 v27 vb0_0 vb0_2 vb0_3 r,e37Lbe qq p0 y3 v27 vb0_0 vb0_2 vb0_3=some r->(∀j,Dl Tryz.prog 0 (inn (inn (rgt (lft (rgt (rgt (rgt (rgt (bod Tryz.f37))))))))) (g37LbeE0 j p0 y3 v27 vb0_0 vb0_2 vb0_3) (g37LbeS0 p0 y3 v27 vb0_0 vb0_2 vb0_3) (frameQ Tryz.prog 0 ((match (generalizing:=false) r with|Sum.inl x=>FinQ Tryz.prog 0 Tryz.f37 (.tup [.val (.pointer none),ai x]) [] 0|Sum.inr x=>FinQ Tryz.prog 0 Tryz.f37 (.tup [.mp 0 0,ai x.1]) [.cells [slv entL x.2.1 .no,.mp 1 0,slv intC x.2.2.1 .no,slv intC x.2.2.2.1 .no],.cells [slv entL x.2.2.2.2.1 .no,slv conL x.2.2.2.2.2 .no]] 0)) [.blk 0,.seq (rgt (rgt (rgt (rgt (rgt (bod Tryz.f37))))))])))∧(∀p0 y3 v27 vb0_0 vb0_2 vb0_3 v10 vb1_0 vb1_1 vb1_2 r,e37Lbf qq p0 y3 v27 vb0_0 vb0_2 vb0_3 v10 vb1_0 vb1_1 vb1_2=some r->(∀j,Dl Tryz.prog 0 (inn (inn (rgt (lft (rgt (rgt (rgt (inn (rgt (lft (rgt (rgt (inn (lft (rgt (rgt (inn (inn (rgt (lft (rgt (rgt (rgt (rgt (bod Tryz.f37))))))))))))))))))))))))) (g37LbfE0 j p0 y3 v27 vb0_0 vb0_2 vb0_3 v10 vb1_0 vb1_1 vb1_2) (g37LbfS0 p0 y3 v27 vb0_0 vb0_2 vb0_3 v10 vb1_0 vb1_1 vb1_2) (frameQ Tryz.prog 0 ((match (generalizing:=false) r with|Sum.inl x=>FinQ Tryz.prog 0 Tryz.f37 (.tup [.val (.pointer none),ai x]) [] 0|Sum.inr x=>FinQ Tryz.prog 0 Tryz.f37 (.tup [.mp 0 0,ai x.1]) [.cells [slv entL x.2.1 .no,.mp 1 0,slv intC x.2.2.1 .no,slv intC x.2.2.2.1 .no],.cells [slv entL x.2.2.2.2.1 .no,slv conL x.2.2.2.2.2 .no]] 0)) [.blk 3,.blk 2,.seq (rgt (rgt (rgt (inn (lft (rgt (rgt (inn (inn (rgt (lft (rgt (rgt (rgt (rgt (bod Tryz.f37)))))))))))))))),.blk 1,.seq (rgt (rgt (rgt (inn (inn (rgt (lft (rgt (rgt (rgt (rgt (bod Tryz.f37)))))))))))),.loop (inn (inn (rgt (lft (rgt (rgt (rgt (rgt (bod Tryz.f37))))))))),.blk 0,.seq (rgt (rgt (rgt (rgt (rgt (bod Tryz.f37))))))]))):=by
 intro qq
 induction qq with
 |zero=>
  exact⟨fun _ _ _ _ _ _ _ h=>nn h,fun _ _ _ _ _ _ _ _ _ _ _ h=>nn h⟩
 |succ qq ih=>
  obtain⟨ih37Lbe,ih37Lbf⟩:=ih
  refine⟨?_,?_⟩
  intro p0 y3 v27 vb0_0 vb0_2 vb0_3 r h
  rw[e37Lbe]at h
  rcases spl h with⟨h7,h⟩|⟨h7,h⟩
  obtain⟨x8,h9,h⟩:=obind h
  have k:=oA 0 (ix22 (o:=.no) h9)<|oB 0 h7 o0
  rcases spl h with⟨h10,h⟩|⟨h10,h⟩
  obtain⟨l11,h12,h⟩:=obind h
  obtain⟨l13,h14,h⟩:=obind h
  exact fun j=>lH 3 [] [0,1] [2,3] [6,25,26,27] (oD (dE p0)<|oD (dC y3.2.2)<|oD (dE y3.2.1)<|oD (dI l13)<|oD (dI l11)<|oD (dE vb0_0)<|oP 2 (apS41 h14 (by simp))<|oP 9 (apS41 h12 (by simp))<|oB 3 h10 k) (ih37Lbe _ _ _ _ _ _ _ h)
  have k:=oB 3 h10 k
  rcases spl h with⟨h15,h⟩|⟨h15,h⟩
  exact fun j=>lH 2 [] [0,3,1] [0,1] [6,9,10,11,25,26,27] (oD (dE p0)<|oD (dC y3.2.2)<|oD (dE y3.2.1)<|oD (dT x8.type.sub)<|oD (dI vb0_3)<|oD (dI vb0_2)<|oD (dE vb0_0)<|oB 0 h15 k) (ih37Lbf _ _ _ _ _ _ _ _ _ _ _ h)
  obtain⟨l16,h17,h⟩:=obind h
  obtain⟨l18,h19,h⟩:=obind h
  exact fun j=>lH 3 [] [0,1] [2,3] [6,25,26,27] (oD (dE p0)<|oD (dC y3.2.2)<|oD (dE y3.2.1)<|oD (dI l18)<|oD (dI l16)<|oD (dE vb0_0)<|oP 2 (apS41 h19 (by simp))<|oP 2 (apS41 h17 (by simp))<|oB 0 h15 k) (ih37Lbe _ _ _ _ _ _ _ h)
  obtain rfl:=sj h
  exact fun j=>lF 0 [0,1] (oD (dC y3.2.2)<|oD (dE y3.2.1)<|oD (dI vb0_3)<|oD (dI vb0_2)<|oD (dE vb0_0)<|oB 0 h7 o0)
  intro p0 y3 v27 vb0_0 vb0_2 vb0_3 v10 vb1_0 vb1_1 vb1_2 r h
  rw[e37Lbf]at h
  rcases spl h with⟨h16,h⟩|⟨h16,h⟩
  obtain⟨x17,h18,h⟩:=obind h
  exact fun j=>lH 2 [] [0,3,2] [0,1] [6,9,10,11,25,26,27] (oD (dE p0)<|oD (dC y3.2.2)<|oD (dE y3.2.1)<|oD (dT x17.sub)<|oD (dI vb0_3)<|oD (dI vb0_2)<|oD (dE vb0_0)<|oA 4 (ix23 (o:=.no) h18)<|oB 1 h16 o0) (ih37Lbf _ _ _ _ _ _ _ _ _ _ _ h)
  obtain⟨l19,h20,h⟩:=obind h
  obtain⟨l21,h22,h⟩:=obind h
  exact fun j=>lH 3 [] [0,2] [2,3] [6,25,26,27] (oD (dE p0)<|oD (dC y3.2.2)<|oD (dE y3.2.1)<|oD (dI l21)<|oD (dI l19)<|oD (dE vb0_0)<|oP 2 (apS41 h22 (by simp))<|oP 2 (apS41 h20 (by simp))<|oB 1 h16 o0) (ih37Lbe _ _ _ _ _ _ _ h)
theorem c37{qq p0 r}(h:e37 qq p0=some r):(match (generalizing:=false) r with|Sum.inl x=>K37s0 p0 x Ct|Sum.inr x=>K37s1 p0 x Ct):=by
 unfold e37 at h
 obtain⟨r1,h2,h⟩:=obind h
 rcases r1 with y7|y3
 dsimp only at h
 have k:=oC 0 [] (c83 h2) o0
 obtain⟨h8,h⟩:=spT h
 obtain rfl:=sj h
 exact k37s0 (tF q37 0 [] (oB 2 h8 k))
 dsimp only at h
 have k:=oC 0 [] (c83 h2) o0
 rcases spl h with⟨h4,h⟩|⟨h4,h⟩
 obtain rfl:=sj h
 exact k37s0 (tF q37 0 [] (oB 2 h4 k))
 obtain⟨r5,h6,h⟩:=obind h
 rcases r with y0|y1
 exact k37s0 (tH q37 1 [(some 1,2,1),(some 1,3,1)] [1,0] [0,1] [6,25,26,27] (oD (dE p0)<|oD (dC y3.2.2)<|oD (dE y3.2.1)<|oD (dI ([]:List Int))<|oD (dI ([]:List Int))<|oD (dE r5)<|oC 0 [] (c88 h6)<|oB 2 h4 k) (((a37Lbe_37Lbf _).1) _ _ _ _ _ _ _ h))
 exact k37s1 (tH q37 1 [(some 1,2,1),(some 1,3,1)] [1,0] [0,1] [6,25,26,27] (oD (dE p0)<|oD (dC y3.2.2)<|oD (dE y3.2.1)<|oD (dI ([]:List Int))<|oD (dI ([]:List Int))<|oD (dE r5)<|oC 0 [] (c88 h6)<|oB 2 h4 k) (((a37Lbe_37Lbf _).1) _ _ _ _ _ _ _ h))
theorem ev_Every{N:ByteArray->Bool}(l:List Ent)(hf:Evt (fun q=>e157 q l) true)(hE:AllE N l)(he:∀e∈l,EOk e):Evt (fun q=>e158 q l) (.inr (evA l l.length 0,0)):=by
 simp only[e158]
 have hl:=hE.1
 refine hf.bind (Evt.ifT rfl (Evt.pure (a:=List.replicate l.length default) ?_ ?_))
 ·unfold gmk;rw[if_pos (by omega)];rfl
 ·exact(ev_EveryL l (List.replicate l.length default) (by simp) hE he l.length 0 [] (by omega) rfl).eq (by simp)
def rulesT(l:List Ent)(b:Bool):(Int) ⊕ (Int×List Ent×List Con'):=if b=true then .inr (0,l,evA l l.length 0)else .inl 5
theorem ev_iNew(N:ByteArray->Bool)(hN:NamesBy N)(l:List Ent)(hl:l.length≤65535)(he:∀e∈l,EOk e)(hc:∀e∈l,ECl e):∃b,Evt (fun q=>e157 q l) b∧(b=true->AllE N l)∧Evt (fun q=>e83 q l) (rulesT l b):=by
 obtain⟨d,-,hd⟩:=ev_Formed N hN l hl he
 refine⟨_,hd,formedT_spec,?_⟩
 simp only[e83]
 refine(ev_sCopy l hl he hc).bind (hd.bind ?_)
 unfold rulesT
 by_cases h:formedT N d l=true
 ·rw[if_pos h]
  have hA:=formedT_spec h
  rw[copy_same hA]
  refine Evt.ifT h ((ev_Every l (hd.eq h) hA he).bind ?_)
  exact Evt.ifF (by simp) Evt.ret
 ·rw[if_neg h]
  exact Evt.ifF (by simpa using h) Evt.ret
theorem pis_nodes(t:Tm)(hg:goodT t=true):pisT t≤t.nodes:=by
 have key:∀(m:Nat) (t:Tm),t.nodes≤m->goodT t=true->pisT t≤t.nodes:=by
  intro m
  induction m with
  |zero=>intro t h;have:=nodes_pos t;omega
  |succ m ih=>
   intro t hm hg
   by_cases k:t.k=3
   ·obtain⟨x,y,e,hx,hy⟩:=pi_form hg k
    rw[e]at hm ⊢
    rw[pisT_pi]
    rw[Tm.nodes,nodesL,nodesL,nodesL]at hm ⊢
    have:=nodes_pos x
    have:=ih y (by omega) hy
    omega
   ·rw[pisT_k k];omega
 exact key t.nodes t (Nat.le_refl _) hg
def argsT(e:Ent):Int:=if e.kind=1 then e.pars+2+e.cons.length+e.inds else 0
def ownT(e:Ent):Int:=if e.kind=2 then(pisT e.type:Int)else 0
theorem ev_wPis(l:List Ent)(y3:Int×List Ent×List Con')(v27:Int)(vb:List Ent)(a o:List Int)(r:(Int) ⊕ (Int×List Ent×List Int×List Int×List Ent×List Con'))(ha:a.length≤65535)(ho:o.length≤65535)(tot:Int)(ht:tot≤4611686018427387904)
  (hk:Evt (fun q=>e37Lbe q l y3 (w64 (v27+1)) vb (a++[0]) (o++[tot])) r) :
  ∀(t:Tm) (v:Int),goodT t=true->0≤v->v+pisT t=tot->Evt (fun q=>e37Lbf q l y3 v27 vb a o v t.k t.n t.sub) r:=by
 have key:∀(m:Nat) (t:Tm) (v:Int),t.nodes≤m->goodT t=true->0≤v->v+pisT t=tot->Evt (fun q=>e37Lbf q l y3 v27 vb a o v t.k t.n t.sub) r:=by
  intro m
  induction m with
  |zero=>intro t v h;have:=nodes_pos t;omega
  |succ m ih=>
   intro t v hm hg h0 hv
   refine Evt.succ ?_
   simp only[e37Lbf]
   by_cases k:t.k=3
   ·obtain⟨x,y,e,hx,hy⟩:=pi_form hg k
    rw[e]at hv hm ⊢
    rw[pisT_pi]at hv
    refine Evt.ifT (by simp[Tm.k]) (Evt.pure (a:=y) (by simp[gidx,Tm.sub]) ?_)
    rw[w64_id (x:=v+1) (by omega) (by omega)]
    refine ih y (v+1) ?_ hy (by omega) (by omega)
    rw[Tm.nodes,nodesL,nodesL,nodesL]at hm
    have:=nodes_pos x
    omega
   ·rw[pisT_k k]at hv
    refine Evt.ifF (by simp[k]) (Evt.pure (gapp_ok (by simp<;>omega)) (Evt.pure (gapp_ok (by simp<;>omega)) ?_))
    rw[show v=tot by omega];exact hk
 exact fun t v=>key t.nodes t v (Nat.le_refl _)
theorem ev_wNewL{N:ByteArray->Bool}(l vb:List Ent)(y3:Int×List Ent×List Con')(hE:AllE N l):∀(r:List Ent) (v:Nat) (a o:List Int),l.drop v=r->a.length≤v->o.length≤v ->
  Evt (fun q=>e37Lbe q l y3 (v:Int) vb a o) (.inr (0,vb,a++r.map argsT,o++r.map ownT,y3.2.1,y3.2.2))
 | [],v,a,o,hd,ha,ho=>by
  refine Evt.succ ?_
  simp only[e37Lbe]
  exact Evt.ifF (drop_nil hd) (Evt.ret.eq (by simp))
 |x::r,v,a,o,hd,ha,ho=>by
  have hlt:=drop_lt hd
  have hl:=hE.1
  have hx:ent l v=x:=by
   have h1:=drop_idx hd
   rw[gidx_ent (by omega) (by omega)]at h1
   exact Option.some.inj h1
  have hs:=entryT_spec (hE.2 v (by omega) (by omega))
  rw[hx]at hs
  refine Evt.succ ?_
  simp only[e37Lbe]
  refine Evt.ifT (drop_dec hd) (Evt.pure (drop_idx hd) ?_)
  by_cases k1:x.kind=1
  ·have hf:=familyT_spec (hs.2.1 k1)
   rw[hx]at hf
   rw[w64_id (x:=x.pars+2) (by omega) (by omega),w64_id (x:=x.pars+2+x.cons.length) (by omega) (by omega),w64_id (x:=x.pars+2+x.cons.length+x.inds) (by omega) (by omega),w64_nat v (by omega)]
   refine Evt.ifT (by simp[k1]) (Evt.pure (gapp_ok (by simp<;>omega)) (Evt.pure (gapp_ok (by simp<;>omega)) ?_))
   refine(ev_wNewL l vb y3 hE r (v+1) _ _ (drop_next hd) (by simp<;>omega) (by simp<;>omega)).eq ?_
   simp[argsT,ownT,k1]
  ·refine Evt.ifF (by simp[k1]) ?_
   by_cases k2:x.kind=2
   ·refine Evt.ifT (by simp[k2]) ?_
    have hsh:=(shapedT_spec (closed_shaped hs.1))
    have hp:pisT x.type≤8192:=Nat.le_trans (pis_nodes x.type hsh.2.2) hsh.1
    refine ev_wPis l y3 v vb a o _ (by omega) (by omega) (pisT x.type) (by omega) ?_ x.type 0 hsh.2.2 (by omega) (by omega)
    rw[w64_nat v (by omega)]
    refine(ev_wNewL l vb y3 hE r (v+1) _ _ (drop_next hd) (by simp<;>omega) (by simp<;>omega)).eq ?_
    simp[argsT,ownT,k2]
   ·refine Evt.ifF (by simp[k2]) (Evt.pure (gapp_ok (by simp<;>omega)) (Evt.pure (gapp_ok (by simp<;>omega)) ?_))
    rw[w64_nat v (by omega)]
    refine(ev_wNewL l vb y3 hE r (v+1) _ _ (drop_next hd) (by simp<;>omega) (by simp<;>omega)).eq ?_
    simp[argsT,ownT,k1,k2]
def machT(l:List Ent):Mach:=Mach.mk l l (evA l l.length 0) (l.map argsT) (l.map ownT)
def newT(l:List Ent)(b:Bool):(Int) ⊕ (Int×List Ent×List Int×List Int×List Ent×List Con'):=if b=true then .inr (0,l,l.map argsT,l.map ownT,l,evA l l.length 0)else .inl 5
theorem ev_wNew(N:ByteArray->Bool)(hN:NamesBy N)(l:List Ent)(hl:l.length≤65535)(he:∀e∈l,EOk e)(hc:∀e∈l,ECl e):∃b,Evt (fun q=>e157 q l) b∧(b=true->AllE N l)∧Evt (fun q=>e37 q l) (newT l b):=by
 obtain⟨b,h1,h2,h3⟩:=ev_iNew N hN l hl he hc
 refine⟨b,h1,h2,?_⟩
 simp only[e37]
 refine h3.bind ?_
 unfold rulesT newT
 cases b with
 |false=>exact Evt.ifT (by decide) Evt.ret
 |true=>
  refine Evt.ifF (by simp) ((ev_sCopy l hl he hc).bind ?_)
  rw[copy_same (h2 rfl)]
  exact(ev_wNewL l l _ (h2 rfl) l 0 [] [] rfl (by simp) (by simp)).eq (by simp)
def e146Lbg:Nat->(List Tm)->Int->Option (List Tm)
 |0,_,_=>none
 |qq+1,v3,v4=>
 if decide (v4≥0)then
 e149 qq v4>>=fun r4=>
 gapp 40 v3 [r4]>>=fun l6=>
 e146Lbg qq l6 (w64 (v4-1))
 else
 some v3
def e146(qq:Nat)(p0:Int):Option (List Tm):=
 if decide (p0<0)then
 some []
 else
 if decide (p0>1048576)then
 some []
 else
 e146Lbg qq [] (w64 (p0-1))
def g146LbgE0(j:Nat->Value)(v3:List Tm)(v4:Int):=sp j 23 0 [(3,slv tmCells v3 (.st 0 3)),(4,ai v4)]
def g146LbgS0(v3:List Tm)(v4:Int):LSt:=⟨[],0,[0],1,[]⟩
abbrev K146 (p0:Int) (r:List Tm) (C:Cf):Prop:=C 146 [] [ai p0] (.sl (flat tmCells r) (List.length r) .no) [] 0
theorem q146:Qf 146 Tryz.f146:=⟨Tryz.func146,by kernel_rfl⟩
theorem k146{p0 r}(h:K146 p0 r Ci):K146 p0 r Ct:=⟨h,⟨tv,tv⟩,forall_nil,dT _,forall_nil⟩
theorem l146Lbg:∀qq:Nat,(∀v3 v4 r,e146Lbg qq v3 v4=some r->(∀j,Dl Tryz.prog 0 (inn (inn (rgt (lft (rgt (rgt (rgt (bod Tryz.f146)))))))) (g146LbgE0 j v3 v4) (g146LbgS0 v3 v4) (frameQ Tryz.prog 0 (FinQ Tryz.prog 0 Tryz.f146 (.sl (flat tmCells r) (List.length r) .no) [] 0) [.blk 0,.seq (rgt (rgt (rgt (rgt (bod Tryz.f146)))))]))):=by
 intro qq
 induction qq with
 |zero=>
  exact fun _ _ _ h=>nn h
 |succ qq ih=>
  intro v3 v4 r h
  rw[e146Lbg]at h
  rcases spl h with⟨h3,h⟩|⟨h3,h⟩
  obtain⟨r4,h5,h⟩:=obind h
  obtain⟨l6,h7,h⟩:=obind h
  exact fun j=>lH 1 [] [] [1] [3,4] (oD (dT l6)<|oP 0 (apS23 h7 (by simp))<|oS 0 (obLitR tm_eq [r4])<|oC 0 [] (c149 h5)<|oB 0 h3 o0) (ih _ _ _ h)
  obtain rfl:=sj h
  exact fun j=>lF 0 [] (oD (dT v3)<|oB 0 h3 o0)
theorem c146{qq p0 r}(h:e146 qq p0=some r):K146 p0 r Ct:=by
 unfold e146 at h
 rcases spl h with⟨h1,h⟩|⟨h1,h⟩
 obtain rfl:=sj h
 exact k146 (tF q146 0 [] (oD (dT ([]:List Tm))<|oB 0 h1 o0))
 have k:=oB 0 h1 o0
 rcases spl h with⟨h2,h⟩|⟨h2,h⟩
 obtain rfl:=sj h
 exact k146 (tF q146 0 [] (oD (dT ([]:List Tm))<|oB 0 h2 k))
 exact k146 (tH q146 1 [(none,3,3)] [] [0] [3,4] (oD (dT ([]:List Tm))<|oB 0 h2 k) (l146Lbg _ _ _ _ h))
def e217(qq:Nat)(q0_e:Int)(p1:List Tm)(p2:Int):Option (List Tm×Int):=
 if q0_e==0 then
 some (p1,p2)
 else
 some (p1,q0_e)
abbrev K217 (q0_e:Int) (p1:List Tm) (p2:Int) (r:List Tm×Int) (C:Cf):Prop:=C 217 [.cells [ai q0_e]] [.mp 0 0,slv tmCells p1 .no,ai p2] (.sl (flat tmCells r.1) (List.length r.1) .no) [.cells [ai r.2]] 0
theorem q217:Qf 217 Tryz.f217:=⟨Tryz.func217,by kernel_rfl⟩
theorem k217{q0_e p1 p2 r}(h:K217 q0_e p1 p2 r Ci):K217 q0_e p1 p2 r Ct:=⟨h,⟨(lz rfl),⟨tv,dT _⟩,tv,tv⟩,(forall_cons ⟨tv,tv⟩ forall_nil),dT _,(forall_cons ⟨tv,tv⟩ forall_nil)⟩
theorem c217{qq q0_e p1 p2 r}(h:e217 qq q0_e p1 p2=some r):K217 q0_e p1 p2 r Ct:=by
 unfold e217 at h
 rcases spl h with⟨h1,h⟩|⟨h1,h⟩
 obtain rfl:=sj h
 exact k217 (tF q217 1 [0] (oD (dT p1)<|oB 1 h1 o0))
 obtain rfl:=sj h
 exact k217 (tF q217 0 [0] (oD (dT p1)<|oB 1 h1 o0))
def e218Lbh:Nat->(List Tm)->Int->Int->Int->(List Tm)->Option (List Tm×Int)
 |0,_,_,_,_,_=>none
 |qq+1,p0,p1,p2,v15,v8=>
 if decide (v15<(List.length p0:Int))then
 gidx p0 v15>>=fun x2=>
 e279 qq x2 p1 p2>>=fun r4=>
 if r4.2 != 0 then
 some ([],r4.2)
 else
 gapp 40 v8 [r4.1]>>=fun l7=>
 e218Lbh qq p0 p1 p2 (w64 (v15+1)) l7
 else
 some (v8,0)
def e218(qq:Nat)(p0:List Tm)(p1 p2:Int):Option (List Tm×Int):=
 e218Lbh qq p0 p1 p2 0 []
def g218LbhE0(j:Nat->Value)(p0:List Tm)(p1 p2 v15:Int)(v8:List Tm):=sp j 35 0 [(1,ai p1),(2,ai p2),(8,slv tmCells v8 (.st 0 3)),(13,slv tmCells p0 .no),(14,ai (List.length p0:Int)),(15,ai v15)]
def g218LbhS0(p0:List Tm)(p1 p2 v15:Int)(v8:List Tm):LSt:=⟨[],0,[0],1,[]⟩
abbrev K218 (p0:List Tm) (p1 p2:Int) (r:List Tm×Int) (C:Cf):Prop:=C 218 [] [slv tmCells p0 .no,ai p1,ai p2] (.tup [.sl (flat tmCells r.1) (List.length r.1) .no,ai r.2]) [] 0
theorem q218:Qf 218 Tryz.f218:=⟨Tryz.func218,by kernel_rfl⟩
theorem k218{p0 p1 p2 r}(h:K218 p0 p1 p2 r Ci):K218 p0 p1 p2 r Ct:=⟨h,⟨⟨tv,dT _⟩,tv,tv,tv⟩,forall_nil,⟨dT _,tv,tv⟩,forall_nil⟩
theorem l218Lbh:∀qq:Nat,(∀p0 p1 p2 v15 v8 r,e218Lbh qq p0 p1 p2 v15 v8=some r->(∀j,Dl Tryz.prog 0 (inn (inn (rgt (lft (rgt (rgt (bod Tryz.f218))))))) (g218LbhE0 j p0 p1 p2 v15 v8) (g218LbhS0 p0 p1 p2 v15 v8) (frameQ Tryz.prog 0 (FinQ Tryz.prog 0 Tryz.f218 (.tup [.sl (flat tmCells r.1) (List.length r.1) .no,ai r.2]) [] 0) [.blk 0,.seq (rgt (rgt (rgt (bod Tryz.f218))))]))):=by
 intro qq
 induction qq with
 |zero=>
  exact fun _ _ _ _ _ _ h=>nn h
 |succ qq ih=>
  intro p0 p1 p2 v15 v8 r h
  rw[e218Lbh]at h
  rcases spl h with⟨h1,h⟩|⟨h1,h⟩
  obtain⟨x2,h3,h⟩:=obind h
  obtain⟨r4,h5,h⟩:=obind h
  have k:=oC 3 [] (c279 h5)<|oA 0 (ix23 (o:=.no) h3)<|oB 0 h1 o0
  rcases spl h with⟨h6,h⟩|⟨h6,h⟩
  obtain rfl:=sj h
  exact fun j=>lF 0 [] (oD (dT ([]:List Tm))<|oB 3 h6 k)
  obtain⟨l7,h8,h⟩:=obind h
  exact fun j=>lH 1 [] [] [1] [1,2,8,13,14,15] (oD (dT p0)<|oD (dT l7)<|oP 0 (apS23 h8 (by simp))<|oS 1 (obLitR tm_eq [r4.1])<|oB 3 h6 k) (ih _ _ _ _ _ _ h)
  obtain rfl:=sj h
  exact fun j=>lF 0 [] (oD (dT v8)<|oB 0 h1 o0)
theorem c218{qq p0 p1 p2 r}(h:e218 qq p0 p1 p2=some r):K218 p0 p1 p2 r Ct:=by
 unfold e218 at h
 exact k218 (tH q218 1 [(none,8,3)] [] [0] [1,2,8,13,14,15] (oD (dT p0)<|oD (dT ([]:List Tm)) o0) (l218Lbh _ _ _ _ _ _ _ h))
def e148(qq:Nat)(q0_e:Int)(p1:List Tm)(p2:Int):Option (List Tm×Int):=
 e218 qq p1 p2 0>>=fun r1=>
 e217 qq q0_e r1.1 r1.2>>=fun r3=>
 some (r3.1,r3.2)
abbrev K148 (q0_e:Int) (p1:List Tm) (p2:Int) (r:List Tm×Int) (C:Cf):Prop:=C 148 [.cells [ai q0_e]] [.mp 0 0,slv tmCells p1 .no,ai p2] (.sl (flat tmCells r.1) (List.length r.1) .no) [.cells [ai r.2]] 0
theorem q148:Qf 148 Tryz.f148:=⟨Tryz.func148,by kernel_rfl⟩
theorem k148{q0_e p1 p2 r}(h:K148 q0_e p1 p2 r Ci):K148 q0_e p1 p2 r Ct:=⟨h,⟨(lz rfl),⟨tv,dT _⟩,tv,tv⟩,(forall_cons ⟨tv,tv⟩ forall_nil),dT _,(forall_cons ⟨tv,tv⟩ forall_nil)⟩
theorem c148{qq q0_e p1 p2 r}(h:e148 qq q0_e p1 p2=some r):K148 q0_e p1 p2 r Ct:=by
 unfold e148 at h
 obtain⟨r1,h2,h⟩:=obind h
 obtain⟨r3,h4,h⟩:=obind h
 obtain rfl:=sj h
 exact k148 (tF q148 0 [0] (oD (dT r3.1)<|oC 2 [0] (c217 h4)<|oC 0 [] (c218 h2) o0))
def e154(qq:Nat)(q0_e:Int)(p1:Tm)(p2:Int):Option (Tm×Int):=
 if q0_e==0 then
 some (p1,p2)
 else
 some (p1,q0_e)
abbrev K154 (q0_e:Int) (p1:Tm) (p2:Int) (r:Tm×Int) (C:Cf):Prop:=C 154 [.cells [ai q0_e]] [.mp 0 0,tmA p1,ai p2] (tmA r.1) [.cells [ai r.2]] 0
theorem q154:Qf 154 Tryz.f154:=⟨Tryz.func154,by kernel_rfl⟩
theorem k154{q0_e p1 p2 r}(h:K154 q0_e p1 p2 r Ci):K154 q0_e p1 p2 r Ct:=⟨h,⟨(lz rfl),⟨tv,tv,⟨tv,dT _⟩,tv⟩,tv,tv⟩,(forall_cons ⟨tv,tv⟩ forall_nil),⟨tv,tv,dT _,tv⟩,(forall_cons ⟨tv,tv⟩ forall_nil)⟩
theorem c154{qq q0_e p1 p2 r}(h:e154 qq q0_e p1 p2=some r):K154 q0_e p1 p2 r Ct:=by
 unfold e154 at h
 rcases spl h with⟨h1,h⟩|⟨h1,h⟩
 obtain rfl:=sj h
 exact k154 (tF q154 3 [0] (oD (dT p1.sub)<|oB 1 h1 o0))
 obtain rfl:=sj h
 exact k154 (tF q154 2 [0] (oD (dT p1.sub)<|oB 1 h1 o0))
def e216Lbi:Nat->Tm->(List Tm×Int)->Int->(List Tm)->Option (Tm×Int)
 |0,_,_,_,_=>none
 |qq+1,p1,r6,v12,v9=>
 if decide (v12≥0)then
 gidx r6.1 v12>>=fun x9=>
 gapp 40 v9 [x9]>>=fun l11=>
 e216Lbi qq p1 r6 (w64 (v12-1)) l11
 else
 e187 qq p1 v9>>=fun r13=>
 e154 qq r6.2 r13.1 r13.2>>=fun r15=>
 some (r15.1,r15.2)
def e216Lbj:Nat->Int->Tm->Int->(List Tm)->Int->(List Tm)->Option (Tm×Int)
 |0,_,_,_,_,_,_=>none
 |qq+1,q0_e,p1,p2,p3,v14,v9=>
 if decide (v14<p2)then
 e149 qq v14>>=fun r2=>
 gapp 40 v9 [r2]>>=fun l4=>
 e216Lbj qq q0_e p1 p2 p3 (w64 (v14+1)) l4
 else
 e148 qq q0_e p3 p2>>=fun r6=>
 e216Lbi qq p1 r6 (w64 ((List.length r6.1:Int)-1)) v9
def e216(qq:Nat)(q0_e:Int)(p1:Tm)(p2:Int)(p3:List Tm):Option (Tm×Int):=
 e216Lbj qq q0_e p1 p2 p3 0 []
def g216LbjE0(j:Nat->Value)(q0_e:Int)(p1:Tm)(p2:Int)(p3:List Tm)(v14:Int)(v9:List Tm):=sp j 48 0 [(0,.mp 0 0),(2,ai p2),(3,slv tmCells p3 .no),(5,.mp 1 0),(8,.mp 2 0),(9,slv tmCells v9 (.st 0 3)),(13,ai p2),(14,ai v14)]
def g216LbjS0(q0_e:Int)(p1:Tm)(p2:Int)(p3:List Tm)(v14:Int)(v9:List Tm):LSt:=⟨[(0,.cells [ai q0_e]),(1,.cells [ai p1.k,ai p1.n,slv tmCells p1.sub .no]),(2,.cells [ai 0,ai 0,slv tmCells ([]:List Tm) .nl])],3,[0],1,[]⟩
def g216LbiE0(j:Nat->Value)(p1:Tm)(r6:List Tm×Int)(v12:Int)(v9:List Tm):=sp j 48 0 [(0,.mp 0 0),(5,.mp 1 0),(8,.mp 2 0),(9,slv tmCells v9 (.st 0 3)),(11,slv tmCells r6.1 .no),(12,ai v12)]
def g216LbiS0(p1:Tm)(r6:List Tm×Int)(v12:Int)(v9:List Tm):LSt:=⟨[(0,.cells [ai r6.2]),(1,.cells [ai p1.k,ai p1.n,slv tmCells p1.sub .no]),(2,.cells [ai 0,ai 0,slv tmCells ([]:List Tm) .nl])],3,[0],1,[]⟩
abbrev K216 (q0_e:Int) (p1:Tm) (p2:Int) (p3:List Tm) (r:Tm×Int) (C:Cf):Prop:=C 216 [.cells [ai q0_e]] [.mp 0 0,tmA p1,ai p2,slv tmCells p3 .no] (tmA r.1) [.cells [ai r.2]] 0
theorem q216:Qf 216 Tryz.f216:=⟨Tryz.func216,by kernel_rfl⟩
theorem k216{q0_e p1 p2 p3 r}(h:K216 q0_e p1 p2 p3 r Ci):K216 q0_e p1 p2 p3 r Ct:=⟨h,⟨(lz rfl),⟨tv,tv,⟨tv,dT _⟩,tv⟩,tv,⟨tv,dT _⟩,tv⟩,(forall_cons ⟨tv,tv⟩ forall_nil),⟨tv,tv,dT _,tv⟩,(forall_cons ⟨tv,tv⟩ forall_nil)⟩
theorem l216Lbi:∀qq:Nat,(∀p1 r6 v12 v9 r,e216Lbi qq p1 r6 v12 v9=some r->(∀j,Dl Tryz.prog 1 (inn (inn (rgt (lft (rgt (rgt (rgt (rgt (bod Tryz.f216))))))))) (g216LbiE0 j p1 r6 v12 v9) (g216LbiS0 p1 r6 v12 v9) (frameQ Tryz.prog 1 (FinQ Tryz.prog 1 Tryz.f216 (tmA r.1) [.cells [ai r.2]] 0) [.blk 2,.seq (rgt (rgt (rgt (rgt (rgt (bod Tryz.f216))))))]))):=by
 intro qq
 induction qq with
 |zero=>
  exact fun _ _ _ _ _ h=>nn h
 |succ qq ih=>
  intro p1 r6 v12 v9 r h
  rw[e216Lbi]at h
  rcases spl h with⟨h8,h⟩|⟨h8,h⟩
  obtain⟨x9,h10,h⟩:=obind h
  obtain⟨l11,h12,h⟩:=obind h
  exact fun j=>lH 1 [] [0,1,2] [1] [0,5,8,9,11,12] (oD (dT r6.1)<|oD (dT l11)<|oD (dT ([]:List Tm))<|oD (dT p1.sub)<|oP 0 (apS23 h12 (by simp))<|oS 1 (obLitR tm_eq [x9])<|oA 0 (ix23 (o:=.no) h10)<|oB 0 h8 o0) (ih _ _ _ _ _ h)
  obtain⟨r13,h14,h⟩:=obind h
  obtain⟨r15,h16,h⟩:=obind h
  obtain rfl:=sj h
  exact fun j=>lF 1 [0] (oD (dT r15.1.sub)<|oC 2 [0] (c154 h16)<|oC 1 [] (c187 h14)<|oB 0 h8 o0)
theorem l216Lbj:∀qq:Nat,(∀q0_e p1 p2 p3 v14 v9 r,e216Lbj qq q0_e p1 p2 p3 v14 v9=some r->(∀j,Dl Tryz.prog 1 (inn (inn (rgt (lft (rgt (rgt (bod Tryz.f216))))))) (g216LbjE0 j q0_e p1 p2 p3 v14 v9) (g216LbjS0 q0_e p1 p2 p3 v14 v9) (frameQ Tryz.prog 1 (FinQ Tryz.prog 1 Tryz.f216 (tmA r.1) [.cells [ai r.2]] 0) [.blk 0,.seq (rgt (rgt (rgt (bod Tryz.f216))))]))):=by
 intro qq
 induction qq with
 |zero=>
  exact fun _ _ _ _ _ _ _ h=>nn h
 |succ qq ih=>
  intro q0_e p1 p2 p3 v14 v9 r h
  rw[e216Lbj]at h
  rcases spl h with⟨h1,h⟩|⟨h1,h⟩
  obtain⟨r2,h3,h⟩:=obind h
  obtain⟨l4,h5,h⟩:=obind h
  exact fun j=>lH 1 [] [0,1,2] [1] [0,2,3,5,8,9,13,14] (oD (dT l4)<|oD (dT p3)<|oD (dT ([]:List Tm))<|oD (dT p1.sub)<|oP 0 (apS23 h5 (by simp))<|oS 0 (obLitR tm_eq [r2])<|oC 0 [] (c149 h3)<|oB 0 h1 o0) (ih _ _ _ _ _ _ _ h)
  obtain⟨r6,h7,h⟩:=obind h
  exact fun j=>lH 2 [] [0,1,2] [0] [0,5,8,9,11,12] (oD (dT r6.1)<|oD (dT v9)<|oD (dT ([]:List Tm))<|oD (dT p1.sub)<|oC 0 [0] (c148 h7)<|oB 0 h1 o0) (l216Lbi _ _ _ _ _ _ h)
theorem c216{qq q0_e p1 p2 p3 r}(h:e216 qq q0_e p1 p2 p3=some r):K216 q0_e p1 p2 p3 r Ct:=by
 unfold e216 at h
 exact k216 (tH q216 0 [(none,9,3)] [0,1,2] [0] [0,2,3,5,8,9,13,14] (oD (dT ([]:List Tm))<|oD (dT p3)<|oD (dT ([]:List Tm))<|oD (dT p1.sub) o0) (l216Lbj _ _ _ _ _ _ _ _ h))
def e150Lbk:Nat->(List Tm)->(List Tm)->Int->(List Tm)->Int->Option (List Tm×Int)
 |0,_,_,_,_,_=>none
 |qq+1,p1,p2,v12,v7,vb0_0=>
 if decide (v12<(List.length p1:Int))then
 gidx p1 v12>>=fun x2=>
 e216 qq vb0_0 x2 v12 p2>>=fun r4=>
 gapp 40 v7 [r4.1]>>=fun l6=>
 e150Lbk qq p1 p2 (w64 (v12+1)) l6 r4.2
 else
 some (v7,vb0_0)
def e150(qq:Nat)(q0_e:Int)(p1 p2:List Tm):Option (List Tm×Int):=
 e150Lbk qq p1 p2 0 [] q0_e
def g150LbkE0(j:Nat->Value)(p1 p2:List Tm)(v12:Int)(v7:List Tm)(vb0_0:Int):=sp j 27 0 [(0,.mp 0 0),(2,slv tmCells p2 .no),(7,slv tmCells v7 (.st 0 3)),(10,slv tmCells p1 .no),(11,ai (List.length p1:Int)),(12,ai v12)]
def g150LbkS0(p1 p2:List Tm)(v12:Int)(v7:List Tm)(vb0_0:Int):LSt:=⟨[(0,.cells [ai vb0_0])],1,[0],1,[]⟩
abbrev K150 (q0_e:Int) (p1 p2:List Tm) (r:List Tm×Int) (C:Cf):Prop:=C 150 [.cells [ai q0_e]] [.mp 0 0,slv tmCells p1 .no,slv tmCells p2 .no] (.sl (flat tmCells r.1) (List.length r.1) .no) [.cells [ai r.2]] 0
theorem q150:Qf 150 Tryz.f150:=⟨Tryz.func150,by kernel_rfl⟩
theorem k150{q0_e p1 p2 r}(h:K150 q0_e p1 p2 r Ci):K150 q0_e p1 p2 r Ct:=⟨h,⟨(lz rfl),⟨tv,dT _⟩,⟨tv,dT _⟩,tv⟩,(forall_cons ⟨tv,tv⟩ forall_nil),dT _,(forall_cons ⟨tv,tv⟩ forall_nil)⟩
theorem l150Lbk:∀qq:Nat,(∀p1 p2 v12 v7 vb0_0 r,e150Lbk qq p1 p2 v12 v7 vb0_0=some r->(∀j,Dl Tryz.prog 1 (inn (inn (rgt (lft (rgt (rgt (bod Tryz.f150))))))) (g150LbkE0 j p1 p2 v12 v7 vb0_0) (g150LbkS0 p1 p2 v12 v7 vb0_0) (frameQ Tryz.prog 1 (FinQ Tryz.prog 1 Tryz.f150 (.sl (flat tmCells r.1) (List.length r.1) .no) [.cells [ai r.2]] 0) [.blk 0,.seq (rgt (rgt (rgt (bod Tryz.f150))))]))):=by
 intro qq
 induction qq with
 |zero=>
  exact fun _ _ _ _ _ _ h=>nn h
 |succ qq ih=>
  intro p1 p2 v12 v7 vb0_0 r h
  rw[e150Lbk]at h
  rcases spl h with⟨h1,h⟩|⟨h1,h⟩
  obtain⟨x2,h3,h⟩:=obind h
  obtain⟨r4,h5,h⟩:=obind h
  obtain⟨l6,h7,h⟩:=obind h
  exact fun j=>lH 1 [] [0] [1] [0,2,7,10,11,12] (oD (dT p1)<|oD (dT l6)<|oD (dT p2)<|oP 0 (apS23 h7 (by simp))<|oS 0 (obLitR tm_eq [r4.1])<|oC 3 [0] (c216 h5)<|oA 0 (ix23 (o:=.no) h3)<|oB 0 h1 o0) (ih _ _ _ _ _ _ h)
  obtain rfl:=sj h
  exact fun j=>lF 0 [0] (oD (dT v7)<|oB 0 h1 o0)
theorem c150{qq q0_e p1 p2 r}(h:e150 qq q0_e p1 p2=some r):K150 q0_e p1 p2 r Ct:=by
 unfold e150 at h
 exact k150 (tH q150 1 [(none,7,3)] [0] [0] [0,2,7,10,11,12] (oD (dT p1)<|oD (dT ([]:List Tm))<|oD (dT p2) o0) (l150Lbk _ _ _ _ _ _ _ h))
def e153(qq:Nat)(q0_e:Int)(p1:Tm):Option (Tm×Int×Int):=
 if q0_e==0 then
 e89 qq p1>>=fun r2=>
 if r2 then
 if q0_e != 0 then
 some ((Tm.mk 0 0 []),q0_e,q0_e)
 else
 some (p1,0,q0_e)
 else
 some ((Tm.mk 0 0 []),2,2)
 else
 if q0_e != 0 then
 some ((Tm.mk 0 0 []),q0_e,q0_e)
 else
 some (p1,0,q0_e)
abbrev K153 (q0_e:Int) (p1:Tm) (r:Tm×Int×Int) (C:Cf):Prop:=C 153 [.cells [ai q0_e]] [.mp 0 0,tmA p1] (.tup [tmA r.1,ai r.2.1]) [.cells [ai r.2.2]] 0
theorem q153:Qf 153 Tryz.f153:=⟨Tryz.func153,by kernel_rfl⟩
theorem k153{q0_e p1 r}(h:K153 q0_e p1 r Ci):K153 q0_e p1 r Ct:=⟨h,⟨(lz rfl),⟨tv,tv,⟨tv,dT _⟩,tv⟩,tv⟩,(forall_cons ⟨tv,tv⟩ forall_nil),⟨⟨tv,tv,dT _,tv⟩,tv,tv⟩,(forall_cons ⟨tv,tv⟩ forall_nil)⟩
theorem c153{qq q0_e p1 r}(h:e153 qq q0_e p1=some r):K153 q0_e p1 r Ct:=by
 unfold e153 at h
 rcases spl h with⟨h1,h⟩|⟨h1,h⟩
 obtain⟨r2,h3,h⟩:=obind h
 have k:=oB 1 h1 o0
 rcases spl h with⟨h4,h⟩|⟨h4,h⟩
 have k:=oK 1 [] h4 (c89 h3) k
 rcases spl h with⟨h5,h⟩|⟨h5,h⟩
 obtain rfl:=sj h
 exact k153 (tF q153 2 [0] (oD (dT ([]:List Tm))<|oB 2 h5 k))
 obtain rfl:=sj h
 exact k153 (tF q153 2 [0] (oD (dT p1.sub)<|oB 2 h5 k))
 obtain rfl:=sj h
 exact k153 (tF q153 6 [0] (oD (dT ([]:List Tm))<|oK 1 [] h4 (c89 h3) k))
 have k:=oB 1 h1 o0
 rcases spl h with⟨h6,h⟩|⟨h6,h⟩
 obtain rfl:=sj h
 exact k153 (tF q153 2 [0] (oD (dT ([]:List Tm))<|oB 1 h6 k))
 obtain rfl:=sj h
 exact k153 (tF q153 2 [0] (oD (dT p1.sub)<|oB 1 h6 k))
def e159(qq:Nat)(p0:List Ent)(p1 p2:Int):Option (Bool):=
 if decide (p1≥0)then
 if decide (p1<(List.length p0:Int))then
 gidx p0 p1>>=fun x3=>
 some (x3.kind==p2)
 else
 some false
 else
 some false
abbrev K159 (p0:List Ent) (p1 p2:Int) (r:Bool) (C:Cf):Prop:=C 159 [] [slv entL p0 .no,ai p1,ai p2] (ab r) [] 0
theorem q159:Qf 159 Tryz.f159:=⟨Tryz.func159,by kernel_rfl⟩
theorem k159{p0 p1 p2 r}(h:K159 p0 p1 p2 r Ci):K159 p0 p1 p2 r Ct:=⟨h,⟨⟨tv,dE _⟩,tv,tv,tv⟩,forall_nil,tv,forall_nil⟩
theorem c159{qq p0 p1 p2 r}(h:e159 qq p0 p1 p2=some r):K159 p0 p1 p2 r Ct:=by
 unfold e159 at h
 rcases spl h with⟨h1,h⟩|⟨h1,h⟩
 have k:=oB 0 h1 o0
 rcases spl h with⟨h2,h⟩|⟨h2,h⟩
 obtain⟨x3,h4,h⟩:=obind h
 obtain rfl:=sj h
 exact k159 (tF q159 2 [] (oA 0 (ix22 (o:=.no) h4)<|oB 1 h2 k))
 obtain rfl:=sj h
 exact k159 (tF q159 0 [] (oB 1 h2 k))
 obtain rfl:=sj h
 exact k159 (tF q159 0 [] (oB 0 h1 o0))
def e160Lbl:Nat->(List Tm)->Int->Option (Bool)
 |0,_,_=>none
 |qq+1,p0,v7=>
 if decide (v7<(List.length p0:Int))then
 gidx p0 v7>>=fun x2=>
 e89 qq x2>>=fun r4=>
 if r4 then
 e160Lbl qq p0 (w64 (v7+1))
 else
 some false
 else
 some true
def e160(qq:Nat)(p0:List Tm):Option (Bool):=
 e160Lbl qq p0 0
def g160LblE0(j:Nat->Value)(p0:List Tm)(v7:Int):=sp j 15 0 [(5,slv tmCells p0 .no),(6,ai (List.length p0:Int)),(7,ai v7)]
def g160LblS0(p0:List Tm)(v7:Int):LSt:=⟨[],0,[],0,[]⟩
abbrev K160 (p0:List Tm) (r:Bool) (C:Cf):Prop:=C 160 [] [slv tmCells p0 .no] (ab r) [] 0
theorem q160:Qf 160 Tryz.f160:=⟨Tryz.func160,by kernel_rfl⟩
theorem k160{p0 r}(h:K160 p0 r Ci):K160 p0 r Ct:=⟨h,⟨⟨tv,dT _⟩,tv⟩,forall_nil,tv,forall_nil⟩
theorem l160Lbl:∀qq:Nat,(∀p0 v7 r,e160Lbl qq p0 v7=some r->(∀j,Dl Tryz.prog 0 (inn (inn (rgt (lft (rgt (bod Tryz.f160)))))) (g160LblE0 j p0 v7) (g160LblS0 p0 v7) (frameQ Tryz.prog 0 (FinQ Tryz.prog 0 Tryz.f160 (ab r) [] 0) [.blk 0,.seq (rgt (rgt (bod Tryz.f160)))]))):=by
 intro qq
 induction qq with
 |zero=>
  exact fun _ _ _ h=>nn h
 |succ qq ih=>
  intro p0 v7 r h
  rw[e160Lbl]at h
  rcases spl h with⟨h1,h⟩|⟨h1,h⟩
  obtain⟨x2,h3,h⟩:=obind h
  obtain⟨r4,h5,h⟩:=obind h
  have k:=oA 0 (ix23 (o:=.no) h3)<|oB 0 h1 o0
  rcases spl h with⟨h6,h⟩|⟨h6,h⟩
  exact fun j=>lH 2 [] [] [] [5,6,7] (oD (dT p0)<|oK 3 [] h6 (c89 h5) k) (ih _ _ _ h)
  obtain rfl:=sj h
  exact fun j=>lF 1 [] (oK 3 [] h6 (c89 h5) k)
  obtain rfl:=sj h
  exact fun j=>lF 0 [] (oB 0 h1 o0)
theorem c160{qq p0 r}(h:e160 qq p0=some r):K160 p0 r Ct:=by
 unfold e160 at h
 exact k160 (tH q160 1 [] [] [] [5,6,7] (oD (dT p0) o0) (l160Lbl _ _ _ _ h))
def e215(qq:Nat)(q0_e:Int)(p1:Tm)(p2:Int):Option (Tm×Int):=
 e278 qq p1 p2>>=fun r1=>
 e154 qq q0_e r1.1 r1.2>>=fun r3=>
 some (r3.1,r3.2)
abbrev K215 (q0_e:Int) (p1:Tm) (p2:Int) (r:Tm×Int) (C:Cf):Prop:=C 215 [.cells [ai q0_e]] [.mp 0 0,tmA p1,ai p2] (tmA r.1) [.cells [ai r.2]] 0
theorem q215:Qf 215 Tryz.f215:=⟨Tryz.func215,by kernel_rfl⟩
theorem k215{q0_e p1 p2 r}(h:K215 q0_e p1 p2 r Ci):K215 q0_e p1 p2 r Ct:=⟨h,⟨(lz rfl),⟨tv,tv,⟨tv,dT _⟩,tv⟩,tv,tv⟩,(forall_cons ⟨tv,tv⟩ forall_nil),⟨tv,tv,dT _,tv⟩,(forall_cons ⟨tv,tv⟩ forall_nil)⟩
theorem c215{qq q0_e p1 p2 r}(h:e215 qq q0_e p1 p2=some r):K215 q0_e p1 p2 r Ct:=by
 unfold e215 at h
 obtain⟨r1,h2,h⟩:=obind h
 obtain⟨r3,h4,h⟩:=obind h
 obtain rfl:=sj h
 exact k215 (tF q215 1 [0] (oD (dT r3.1.sub)<|oC 2 [0] (c154 h4)<|oC 1 [] (c278 h2) o0))
def e288(qq:Nat)(p0 p1:Tm):Option (Tm):=
 e219 qq 4 0 [p0,p1]>>=fun r1=>
 some r1
abbrev K288 (p0 p1 r:Tm) (C:Cf):Prop:=C 288 [] [tmA p0,tmA p1] (tmA r) [] 0
theorem q288:Qf 288 Tryz.f288:=⟨Tryz.func288,by kernel_rfl⟩
theorem k288{p0 p1 r}(h:K288 p0 p1 r Ci):K288 p0 p1 r Ct:=⟨h,⟨⟨tv,tv,⟨tv,dT _⟩,tv⟩,⟨tv,tv,⟨tv,dT _⟩,tv⟩,tv⟩,forall_nil,⟨tv,tv,dT _,tv⟩,forall_nil⟩
theorem c288{qq p0 p1 r}(h:e288 qq p0 p1=some r):K288 p0 p1 r Ct:=by
 unfold e288 at h
 obtain⟨r1,h2,h⟩:=obind h
 obtain rfl:=sj h
 exact k288 (tF q288 1 [] (oD (dT r1.sub)<|oC 0 [] (c219 h2)<|oS 2 (obLitR tm_eq [p0,p1]) o0))
def e220vabmLbn:Nat->(List Tm)->Int->Int->Int->(List Tm)->Option (Tm×Int)
 |0,_,_,_,_,_=>none
 |qq+1,p0,v32,vb0_0,vb0_1,vb0_2=>
 if decide (v32<(List.length p0:Int))then
 gidx p0 (w64 ((w64 ((List.length p0:Int)-1))-v32))>>=fun x12=>
 e288 qq x12 (Tm.mk vb0_0 vb0_1 vb0_2)>>=fun r14=>
 e220vabmLbn qq p0 (w64 (v32+1)) r14.k r14.n r14.sub
 else
 e89 qq (Tm.mk vb0_0 vb0_1 vb0_2)>>=fun r16=>
 if r16 then
 e123 qq (Tm.mk vb0_0 vb0_1 vb0_2)>>=fun r19=>
 some (r19,0)
 else
 some ((Tm.mk 0 0 []),2)
def e220vabmLbo:Nat->(List Tm)->Tm->Int->Option (Tm×Int)
 |0,_,_,_=>none
 |qq+1,p0,p1,v17=>
 if decide (v17<(List.length p0:Int))then
 gidx p0 v17>>=fun x3=>
 e89 qq x3>>=fun r5=>
 if r5 then
 e220vabmLbo qq p0 p1 (w64 (v17+1))
 else
 some ((Tm.mk 0 0 []),5)
 else
 e89 qq p1>>=fun r8=>
 if r8 then
 e220vabmLbn qq p0 0 p1.k p1.n p1.sub
 else
 some ((Tm.mk 0 0 []),5)
def e220vabm(qq:Nat)(p0:List Tm)(p1:Tm):Option (Tm×Int):=
 if decide ((List.length p0:Int)>24)then
 some ((Tm.mk 0 0 []),2)
 else
 e220vabmLbo qq p0 p1 0
def g220vabmLboE0(j:Nat->Value)(p0:List Tm)(p1:Tm)(v17:Int):=sp j 53 0 [(0,slv tmCells p0 .no),(2,.clo 288 [] []),(4,.mp 0 0),(6,.mp 1 0),(15,slv tmCells p0 .no),(16,ai (List.length p0:Int)),(17,ai v17)]
def g220vabmLboS0(p0:List Tm)(p1:Tm)(v17:Int):LSt:=⟨[(0,.cells [ai p1.k,ai p1.n,slv tmCells p1.sub .no]),(1,.cells [ai 0,ai 0,slv tmCells ([]:List Tm) .nl])],2,[],0,[]⟩
def g220vabmLbnE0(j:Nat->Value)(p0:List Tm)(v32 vb0_0 vb0_1:Int)(vb0_2:List Tm):=sp j 53 0 [(0,slv tmCells p0 .no),(2,.clo 288 [] []),(4,.mp 0 0),(6,.mp 1 0),(31,ai (List.length p0:Int)),(32,ai v32)]
def g220vabmLbnS0(p0:List Tm)(v32 vb0_0 vb0_1:Int)(vb0_2:List Tm):LSt:=⟨[(0,.cells [ai vb0_0,ai vb0_1,slv tmCells vb0_2 .no]),(1,.cells [ai 0,ai 0,slv tmCells ([]:List Tm) .nl])],2,[],0,[]⟩
abbrev K220vabm (p0:List Tm) (p1:Tm) (r:Tm×Int) (C:Cf):Prop:=C 220 [] [slv tmCells p0 .no,tmA p1,.clo 288 [] []] (.tup [tmA r.1,ai r.2]) [] 0
theorem q220vabm:Qf 220 Tryz.f220:=⟨Tryz.func220,by kernel_rfl⟩
theorem k220vabm{p0 p1 r}(h:K220vabm p0 p1 r Ci):K220vabm p0 p1 r Ct:=⟨h,⟨⟨tv,dT _⟩,⟨tv,tv,⟨tv,dT _⟩,tv⟩,⟨tv,tv⟩,tv⟩,forall_nil,⟨⟨tv,tv,dT _,tv⟩,tv,tv⟩,forall_nil⟩
theorem l220vabmLbn:∀qq:Nat,(∀p0 v32 vb0_0 vb0_1 vb0_2 r,e220vabmLbn qq p0 v32 vb0_0 vb0_1 vb0_2=some r->(∀j,Dl Tryz.prog 0 (inn (inn (rgt (lft (rgt (rgt (rgt (rgt (bod Tryz.f220))))))))) (g220vabmLbnE0 j p0 v32 vb0_0 vb0_1 vb0_2) (g220vabmLbnS0 p0 v32 vb0_0 vb0_1 vb0_2) (frameQ Tryz.prog 0 (FinQ Tryz.prog 0 Tryz.f220 (.tup [tmA r.1,ai r.2]) [] 0) [.blk 2,.seq (rgt (rgt (rgt (rgt (rgt (bod Tryz.f220))))))]))):=by
 intro qq
 induction qq with
 |zero=>
  exact fun _ _ _ _ _ _ h=>nn h
 |succ qq ih=>
  intro p0 v32 vb0_0 vb0_1 vb0_2 r h
  rw[e220vabmLbn]at h
  rcases spl h with⟨h11,h⟩|⟨h11,h⟩
  obtain⟨x12,h13,h⟩:=obind h
  obtain⟨r14,h15,h⟩:=obind h
  exact fun j=>lH 2 [] [0,1] [] [0,2,4,6,31,32] (oD (dT p0)<|oD (dT ([]:List Tm))<|oD (dT r14.sub)<|oC 2 [] (c288 h15)<|oA 3 (ix23 (o:=.no) h13)<|oB 0 h11 o0) (ih _ _ _ _ _ _ h)
  obtain⟨r16,h17,h⟩:=obind h
  have k:=oB 0 h11 o0
  rcases spl h with⟨h18,h⟩|⟨h18,h⟩
  obtain⟨r19,h20,h⟩:=obind h
  obtain rfl:=sj h
  exact fun j=>lF 1 [] (oD (dT r19.sub)<|oC 2 [] (c123 h20)<|oK 1 [] h18 (c89 h17) k)
  obtain rfl:=sj h
  exact fun j=>lF 2 [] (oD (dT ([]:List Tm))<|oK 1 [] h18 (c89 h17) k)
theorem l220vabmLbo:∀qq:Nat,(∀p0 p1 v17 r,e220vabmLbo qq p0 p1 v17=some r->(∀j,Dl Tryz.prog 0 (inn (inn (rgt (lft (rgt (rgt (bod Tryz.f220))))))) (g220vabmLboE0 j p0 p1 v17) (g220vabmLboS0 p0 p1 v17) (frameQ Tryz.prog 0 (FinQ Tryz.prog 0 Tryz.f220 (.tup [tmA r.1,ai r.2]) [] 0) [.blk 0,.seq (rgt (rgt (rgt (bod Tryz.f220))))]))):=by
 intro qq
 induction qq with
 |zero=>
  exact fun _ _ _ _ h=>nn h
 |succ qq ih=>
  intro p0 p1 v17 r h
  rw[e220vabmLbo]at h
  rcases spl h with⟨h2,h⟩|⟨h2,h⟩
  obtain⟨x3,h4,h⟩:=obind h
  obtain⟨r5,h6,h⟩:=obind h
  have k:=oA 0 (ix23 (o:=.no) h4)<|oB 0 h2 o0
  rcases spl h with⟨h7,h⟩|⟨h7,h⟩
  exact fun j=>lH 2 [] [0,1] [] [0,2,4,6,15,16,17] (oD (dT p0)<|oD (dT p0)<|oD (dT ([]:List Tm))<|oD (dT p1.sub)<|oK 3 [] h7 (c89 h6) k) (ih _ _ _ _ h)
  obtain rfl:=sj h
  exact fun j=>lF 2 [] (oD (dT ([]:List Tm))<|oK 3 [] h7 (c89 h6) k)
  obtain⟨r8,h9,h⟩:=obind h
  have k:=oB 0 h2 o0
  rcases spl h with⟨h10,h⟩|⟨h10,h⟩
  exact fun j=>lH 2 [] [0,1] [] [0,2,4,6,31,32] (oD (dT p0)<|oD (dT ([]:List Tm))<|oD (dT p1.sub)<|oK 1 [] h10 (c89 h9) k) (l220vabmLbn _ _ _ _ _ _ _ h)
  obtain rfl:=sj h
  exact fun j=>lF 2 [] (oD (dT ([]:List Tm))<|oK 1 [] h10 (c89 h9) k)
theorem c220vabm{qq p0 p1 r}(h:e220vabm qq p0 p1=some r):K220vabm p0 p1 r Ct:=by
 unfold e220vabm at h
 rcases spl h with⟨h1,h⟩|⟨h1,h⟩
 obtain rfl:=sj h
 exact k220vabm (tF q220vabm 1 [] (oD (dT ([]:List Tm))<|oB 1 h1 o0))
 exact k220vabm (tH q220vabm 1 [] [0,1] [] [0,2,4,6,15,16,17] (oD (dT p0)<|oD (dT p0)<|oD (dT ([]:List Tm))<|oD (dT p1.sub)<|oB 1 h1 o0) (l220vabmLbo _ _ _ _ _ h))
def e226(qq:Nat)(p0:List Tm)(p1:Tm):Option (Tm×Int):=
 e220vabm qq p0 p1>>=fun r1=>
 some (r1.1,r1.2)
abbrev K226 (p0:List Tm) (p1:Tm) (r:Tm×Int) (C:Cf):Prop:=C 226 [] [slv tmCells p0 .no,tmA p1] (.tup [tmA r.1,ai r.2]) [] 0
theorem q226:Qf 226 Tryz.f226:=⟨Tryz.func226,by kernel_rfl⟩
theorem k226{p0 p1 r}(h:K226 p0 p1 r Ci):K226 p0 p1 r Ct:=⟨h,⟨⟨tv,dT _⟩,⟨tv,tv,⟨tv,dT _⟩,tv⟩,tv⟩,forall_nil,⟨⟨tv,tv,dT _,tv⟩,tv,tv⟩,forall_nil⟩
theorem c226{qq p0 p1 r}(h:e226 qq p0 p1=some r):K226 p0 p1 r Ct:=by
 unfold e226 at h
 obtain⟨r1,h2,h⟩:=obind h
 obtain rfl:=sj h
 exact k226 (tF q226 3 [] (oD (dT r1.1.sub)<|oC 1 [] (c220vabm h2) o0))
def e161Lbp:Nat->(List Tm)->Rec'->Tm->Int->Int->Int->Int->(List Tm)->Option (Tm×Int)
 |0,_,_,_,_,_,_,_,_=>none
 |qq+1,p3,p4,p5,v29,vb0_0,vb4_0,vb4_1,vb4_2=>
 if decide (v29<(List.length p4.at':Int))then
 gidx p4.at' v29>>=fun x6=>
 e216 qq vb0_0 x6 (List.length p4.around:Int) p3>>=fun r8=>
 e156 qq (Tm.mk vb4_0 vb4_1 vb4_2) r8.1>>=fun r10=>
 e161Lbp qq p3 p4 p5 (w64 (v29+1)) r8.2 r10.k r10.n r10.sub
 else
 e215 qq vb0_0 p5 (List.length p4.around:Int)>>=fun r12=>
 e146 qq (List.length p4.around:Int)>>=fun r14=>
 e151 qq r12.1 r14>>=fun r16=>
 e156 qq (Tm.mk vb4_0 vb4_1 vb4_2) r16>>=fun r18=>
 e150 qq r12.2 p4.around p3>>=fun r20=>
 e226 qq r20.1 r18>>=fun r22=>
 e154 qq r20.2 r22.1 r22.2>>=fun r24=>
 some (r24.1,r24.2)
def e161(qq:Nat)(q0_e:Int)(p1:Tm)(p2 p3:List Tm)(p4:Rec')(p5:Tm):Option (Tm×Int):=
 e148 qq q0_e p2 (List.length p4.around:Int)>>=fun r1=>
 e151 qq p1 r1.1>>=fun r3=>
 e161Lbp qq p3 p4 p5 0 r1.2 r3.k r3.n r3.sub
def g161LbpE0(j:Nat->Value)(p3:List Tm)(p4:Rec')(p5:Tm)(v29 vb0_0 vb4_0 vb4_1:Int)(vb4_2:List Tm):=sp j 61 0 [(0,.mp 0 0),(3,slv tmCells p3 .no),(10,.mp 1 0),(11,.mp 2 0),(12,.mp 3 0),(13,ai (List.length p4.around:Int)),(14,.mp 4 0),(27,slv tmCells p4.at' .no),(28,ai (List.length p4.at':Int)),(29,ai v29)]
def g161LbpS0(p3:List Tm)(p4:Rec')(p5:Tm)(v29 vb0_0 vb4_0 vb4_1:Int)(vb4_2:List Tm):LSt:=⟨[(0,.cells [ai vb0_0]),(1,.cells [ab p4.is,slv tmCells p4.around .no,slv tmCells p4.at' .no]),(2,.cells [ai p5.k,ai p5.n,slv tmCells p5.sub .no]),(3,.cells [ai 0,ai 0,slv tmCells ([]:List Tm) .nl]),(4,.cells [ai vb4_0,ai vb4_1,slv tmCells vb4_2 .no])],5,[],0,[]⟩
abbrev K161 (q0_e:Int) (p1:Tm) (p2 p3:List Tm) (p4:Rec') (p5:Tm) (r:Tm×Int) (C:Cf):Prop:=C 161 [.cells [ai q0_e]] [.mp 0 0,tmA p1,slv tmCells p2 .no,slv tmCells p3 .no,recA p4,tmA p5] (tmA r.1) [.cells [ai r.2]] 0
theorem q161:Qf 161 Tryz.f161:=⟨Tryz.func161,by kernel_rfl⟩
theorem k161{q0_e p1 p2 p3 p4 p5 r}(h:K161 q0_e p1 p2 p3 p4 p5 r Ci):K161 q0_e p1 p2 p3 p4 p5 r Ct:=⟨h,⟨(lz rfl),⟨tv,tv,⟨tv,dT _⟩,tv⟩,⟨tv,dT _⟩,⟨tv,dT _⟩,⟨tv,⟨tv,dT _⟩,⟨tv,dT _⟩,tv⟩,⟨tv,tv,⟨tv,dT _⟩,tv⟩,tv⟩,(forall_cons ⟨tv,tv⟩ forall_nil),⟨tv,tv,dT _,tv⟩,(forall_cons ⟨tv,tv⟩ forall_nil)⟩
theorem l161Lbp:∀qq:Nat,(∀p3 p4 p5 v29 vb0_0 vb4_0 vb4_1 vb4_2 r,e161Lbp qq p3 p4 p5 v29 vb0_0 vb4_0 vb4_1 vb4_2=some r->(∀j,Dl Tryz.prog 1 (inn (inn (rgt (lft (rgt (rgt (rgt (bod Tryz.f161)))))))) (g161LbpE0 j p3 p4 p5 v29 vb0_0 vb4_0 vb4_1 vb4_2) (g161LbpS0 p3 p4 p5 v29 vb0_0 vb4_0 vb4_1 vb4_2) (frameQ Tryz.prog 1 (FinQ Tryz.prog 1 Tryz.f161 (tmA r.1) [.cells [ai r.2]] 0) [.blk 0,.seq (rgt (rgt (rgt (rgt (bod Tryz.f161)))))]))):=by
 intro qq
 induction qq with
 |zero=>
  exact fun _ _ _ _ _ _ _ _ _ h=>nn h
 |succ qq ih=>
  intro p3 p4 p5 v29 vb0_0 vb4_0 vb4_1 vb4_2 r h
  rw[e161Lbp]at h
  rcases spl h with⟨h5,h⟩|⟨h5,h⟩
  obtain⟨x6,h7,h⟩:=obind h
  obtain⟨r8,h9,h⟩:=obind h
  obtain⟨r10,h11,h⟩:=obind h
  exact fun j=>lH 2 [] [0,1,2,3,4] [] [0,3,10,11,12,13,14,27,28,29] (oD (dT p4.at')<|oD (dT p3)<|oD (dT r10.sub)<|oD (dT ([]:List Tm))<|oD (dT p5.sub)<|oD (dT p4.at')<|oD (dT p4.around)<|oC 0 [] (c156 h11)<|oC 4 [0] (c216 h9)<|oA 0 (ix23 (o:=.no) h7)<|oB 0 h5 o0) (ih _ _ _ _ _ _ _ _ _ h)
  obtain⟨r12,h13,h⟩:=obind h
  obtain⟨r14,h15,h⟩:=obind h
  obtain⟨r16,h17,h⟩:=obind h
  obtain⟨r18,h19,h⟩:=obind h
  obtain⟨r20,h21,h⟩:=obind h
  obtain⟨r22,h23,h⟩:=obind h
  obtain⟨r24,h25,h⟩:=obind h
  obtain rfl:=sj h
  exact fun j=>lF 1 [0] (oD (dT r24.1.sub)<|oC 2 [0] (c154 h25)<|oC 1 [] (c226 h23)<|oC 2 [0] (c150 h21)<|oC 0 [] (c156 h19)<|oC 0 [] (c151 h17)<|oC 0 [] (c146 h15)<|oC 2 [0] (c215 h13)<|oB 0 h5 o0)
theorem c161{qq q0_e p1 p2 p3 p4 p5 r}(h:e161 qq q0_e p1 p2 p3 p4 p5=some r):K161 q0_e p1 p2 p3 p4 p5 r Ct:=by
 unfold e161 at h
 obtain⟨r1,h2,h⟩:=obind h
 obtain⟨r3,h4,h⟩:=obind h
 exact k161 (tH q161 3 [] [0,2,3,4,5] [] [0,3,10,11,12,13,14,27,28,29] (oD (dT p4.at')<|oD (dT p3)<|oD (dT r3.sub)<|oD (dT ([]:List Tm))<|oD (dT p5.sub)<|oD (dT p4.at')<|oD (dT p4.around)<|oC 0 [] (c151 h4)<|oC 3 [0] (c148 h2) o0) (l161Lbp _ _ _ _ _ _ _ _ _ _ h))
def OkA(l:List Tm):Prop:=∀x∈l,x.Ok
def e314(qq:Nat)(rl:List Ent)(parts:List Con')(p1:Int)(p2:List Tm):Option (Tm×Int):=
 e159 qq rl p1 4>>=fun r1=>
 if r1 then
 gidx rl p1>>=fun x4=>
 gidx rl x4.fam>>=fun x6=>
 if (List.length p2:Int) != (List.length x6.fields:Int)then
 some ((Tm.mk 0 0 []),5)
 else
 e160 qq p2>>=fun r9=>
 if r9 then
 gidx p2 x4.place>>=fun x12=>
 some (x12,0)
 else
 some ((Tm.mk 0 0 []),5)
 else
 some ((Tm.mk 0 0 []),16)
abbrev K314 (rl:List Ent) (parts:List Con') (p1:Int) (p2:List Tm) (r:Tm×Int) (C:Cf):Prop:=C 314 [.cells [slv entL rl .no,slv conL parts .no]] [.mp 0 0,ai p1,slv tmCells p2 .no] (.tup [tmA r.1,ai r.2]) [.cells [slv entL rl .no,slv conL parts .no]] 0
theorem q314:Qf 314 Tryz.f314:=⟨Tryz.func314,by kernel_rfl⟩
theorem k314{rl parts p1 p2 r}(h:K314 rl parts p1 p2 r Ci):K314 rl parts p1 p2 r Ct:=⟨h,⟨(lz rfl),tv,⟨tv,dT _⟩,tv⟩,(forall_cons ⟨⟨tv,dE _⟩,⟨tv,dC _⟩,tv⟩ forall_nil),⟨⟨tv,tv,dT _,tv⟩,tv,tv⟩,(forall_cons ⟨dE _,dC _,tv⟩ forall_nil)⟩
theorem c314{qq rl parts p1 p2 r}(h:e314 qq rl parts p1 p2=some r):K314 rl parts p1 p2 r Ct:=by
 unfold e314 at h
 obtain⟨r1,h2,h⟩:=obind h
 rcases spl h with⟨h3,h⟩|⟨h3,h⟩
 obtain⟨x4,h5,h⟩:=obind h
 obtain⟨x6,h7,h⟩:=obind h
 have k:=oA 1 (ix22 (o:=.no) h7)<|oA 2 (ix22 (o:=.no) h5)<|oK 2 [] h3 (c159 h2) o0
 rcases spl h with⟨h8,h⟩|⟨h8,h⟩
 obtain rfl:=sj h
 exact k314 (tF q314 1 [0] (oD (dT ([]:List Tm))<|oD (dC parts)<|oD (dE rl)<|oB 2 h8 k))
 obtain⟨r9,h10,h⟩:=obind h
 have k:=oB 2 h8 k
 rcases spl h with⟨h11,h⟩|⟨h11,h⟩
 obtain⟨x12,h13,h⟩:=obind h
 obtain rfl:=sj h
 exact k314 (tF q314 2 [0] (oD (dT x12.sub)<|oD (dC parts)<|oD (dE rl)<|oA 1 (ix23 (o:=.no) h13)<|oA 1 (ix22 (o:=.no) h5)<|oK 0 [] h11 (c160 h10) k))
 obtain rfl:=sj h
 exact k314 (tF q314 2 [0] (oD (dT ([]:List Tm))<|oD (dC parts)<|oD (dE rl)<|oK 0 [] h11 (c160 h10) k))
 obtain rfl:=sj h
 exact k314 (tF q314 2 [0] (oD (dT ([]:List Tm))<|oD (dC parts)<|oD (dE rl)<|oK 2 [] h3 (c159 h2) o0))
def e162(qq:Nat)(p0 p1:Int):Option (Tm):=
 e212 qq p1>>=fun r1=>
 e219 qq 7 p0 [r1]>>=fun r3=>
 some r3
abbrev K162 (p0 p1:Int) (r:Tm) (C:Cf):Prop:=C 162 [] [ai p0,ai p1] (tmA r) [] 0
theorem q162:Qf 162 Tryz.f162:=⟨Tryz.func162,by kernel_rfl⟩
theorem k162{p0 p1 r}(h:K162 p0 p1 r Ci):K162 p0 p1 r Ct:=⟨h,⟨tv,tv,tv⟩,forall_nil,⟨tv,tv,dT _,tv⟩,forall_nil⟩
theorem c162{qq p0 p1 r}(h:e162 qq p0 p1=some r):K162 p0 p1 r Ct:=by
 unfold e162 at h
 obtain⟨r1,h2,h⟩:=obind h
 obtain⟨r3,h4,h⟩:=obind h
 obtain rfl:=sj h
 exact k162 (tF q162 1 [] (oD (dT r3.sub)<|oC 0 [] (c219 h4)<|oS 0 (obLitR tm_eq [r1])<|oC 0 [] (c212 h2) o0))
def e84Lbq:Nat->(List Ent)->(List Con')->Int->Int->(List Tm)->(List Tm)->Con'->Int->Int->Int->Int->(List Tm)->Option (Tm×Int)
 |0,_,_,_,_,_,_,_,_,_,_,_,_=>none
 |qq+1,rl,parts,p1,p2,p4,p5,x12,v120,vb2_0,vb3_0,vb3_1,vb3_2=>
 if decide (v120<(List.length x12.recs:Int))then
 gidx x12.recs v120>>=fun x29=>
 if x29.is then
 gidx rl p1>>=fun x32=>
 gsl p4 0 x32.pars>>=fun x34=>
 gapp 40 ([]:List Tm) x34>>=fun l36=>
 gsl p5 0 v120>>=fun x39=>
 gapp 40 l36 x39>>=fun l41=>
 e162 qq p1 p2>>=fun r44=>
 gidx p5 v120>>=fun x46=>
 e161 qq vb2_0 r44 p4 l41 x29 x46>>=fun r48=>
 e156 qq (Tm.mk vb3_0 vb3_1 vb3_2) r48.1>>=fun r50=>
 e84Lbq qq rl parts p1 p2 p4 p5 x12 (w64 (v120+1)) r48.2 r50.k r50.n r50.sub
 else
 e84Lbq qq rl parts p1 p2 p4 p5 x12 (w64 (v120+1)) vb2_0 vb3_0 vb3_1 vb3_2
 else
 e153 qq vb2_0 (Tm.mk vb3_0 vb3_1 vb3_2)>>=fun r52=>
 some (r52.1,r52.2.1)
def e84(qq:Nat)(rl:List Ent)(parts:List Con')(p1 p2 p3:Int)(p4 p5:List Tm):Option (Tm×Int):=
 e159 qq rl p1 1>>=fun r1=>
 if r1 then
 if decide (p2<0)then
 some ((Tm.mk 0 0 []),16)
 else
 if decide (p2>7)then
 some ((Tm.mk 0 0 []),16)
 else
 e159 qq rl p3 2>>=fun r6=>
 if r6 then
 gidx rl p3>>=fun x9=>
 if x9.fam != p1 then
 some ((Tm.mk 0 0 []),16)
 else
 gidx parts p3>>=fun x12=>
 gidx rl p1>>=fun x14=>
 if (List.length p4:Int) != (w64 ((w64 (x14.pars+1))+(List.length x14.cons:Int)))then
 some ((Tm.mk 0 0 []),5)
 else
 if (List.length p5:Int) != (List.length x12.args:Int)then
 some ((Tm.mk 0 0 []),5)
 else
 e160 qq p4>>=fun r18=>
 if r18 then
 e160 qq p5>>=fun r21=>
 if r21 then
 gidx p4 (w64 ((w64 (x14.pars+1))+x9.place))>>=fun x24=>
 e151 qq x24 p5>>=fun r26=>
 e84Lbq qq rl parts p1 p2 p4 p5 x12 0 0 r26.k r26.n r26.sub
 else
 some ((Tm.mk 0 0 []),5)
 else
 some ((Tm.mk 0 0 []),5)
 else
 some ((Tm.mk 0 0 []),16)
 else
 some ((Tm.mk 0 0 []),16)
def g84LbqE0(j:Nat->Value)(rl:List Ent)(parts:List Con')(p1 p2:Int)(p4 p5:List Tm)(x12:Con')(v120 vb2_0 vb3_0 vb3_1:Int)(vb3_2:List Tm):=sp j 160 0 [(1,ai p1),(2,ai p2),(4,slv tmCells p4 .no),(5,slv tmCells p5 .no),(12,.mp 1 0),(14,slv entL rl .no),(16,.mp 2 0),(17,.mp 3 0),(118,slv recL x12.recs .no),(119,ai (List.length x12.recs:Int)),(120,ai v120)]
def g84LbqS0(rl:List Ent)(parts:List Con')(p1 p2:Int)(p4 p5:List Tm)(x12:Con')(v120 vb2_0 vb3_0 vb3_1:Int)(vb3_2:List Tm):LSt:=⟨[(0,.cells [slv entL rl .no,slv conL parts .no]),(1,.cells [ai 0,ai 0,slv tmCells ([]:List Tm) .nl]),(2,.cells [ai vb2_0]),(3,.cells [ai vb3_0,ai vb3_1,slv tmCells vb3_2 .no])],4,[],0,[]⟩
abbrev K84 (rl:List Ent) (parts:List Con') (p1 p2 p3:Int) (p4 p5:List Tm) (r:Tm×Int) (C:Cf):Prop:=C 84 [.cells [slv entL rl .no,slv conL parts .no]] [.mp 0 0,ai p1,ai p2,ai p3,slv tmCells p4 .no,slv tmCells p5 .no] (.tup [tmA r.1,ai r.2]) [.cells [slv entL rl .no,slv conL parts .no]] 0
theorem q84:Qf 84 Tryz.f84:=⟨Tryz.func84,by kernel_rfl⟩
theorem k84{rl parts p1 p2 p3 p4 p5 r}(h:K84 rl parts p1 p2 p3 p4 p5 r Ci):K84 rl parts p1 p2 p3 p4 p5 r Ct:=⟨h,⟨(lz rfl),tv,tv,tv,⟨tv,dT _⟩,⟨tv,dT _⟩,tv⟩,(forall_cons ⟨⟨tv,dE _⟩,⟨tv,dC _⟩,tv⟩ forall_nil),⟨⟨tv,tv,dT _,tv⟩,tv,tv⟩,(forall_cons ⟨dE _,dC _,tv⟩ forall_nil)⟩
theorem l84Lbq:∀qq:Nat,(∀rl parts p1 p2 p4 p5 x12 v120 vb2_0 vb3_0 vb3_1 vb3_2 r,e84Lbq qq rl parts p1 p2 p4 p5 x12 v120 vb2_0 vb3_0 vb3_1 vb3_2=some r->(∀j,Dl Tryz.prog 1 (inn (inn (rgt (lft (rgt (rgt (rgt (rgt (rgt (rgt (rgt (rgt (bod Tryz.f84))))))))))))) (g84LbqE0 j rl parts p1 p2 p4 p5 x12 v120 vb2_0 vb3_0 vb3_1 vb3_2) (g84LbqS0 rl parts p1 p2 p4 p5 x12 v120 vb2_0 vb3_0 vb3_1 vb3_2) (frameQ Tryz.prog 1 (FinQ Tryz.prog 1 Tryz.f84 (.tup [tmA r.1,ai r.2]) [.cells [slv entL rl .no,slv conL parts .no]] 0) [.blk 0,.seq (rgt (rgt (rgt (rgt (rgt (rgt (rgt (rgt (rgt (bod Tryz.f84))))))))))]))):=by
 intro qq
 induction qq with
 |zero=>
  exact fun _ _ _ _ _ _ _ _ _ _ _ _ _ h=>nn h
 |succ qq ih=>
  intro rl parts p1 p2 p4 p5 x12 v120 vb2_0 vb3_0 vb3_1 vb3_2 r h
  rw[e84Lbq]at h
  rcases spl h with⟨h28,h⟩|⟨h28,h⟩
  obtain⟨x29,h30,h⟩:=obind h
  have k:=oA 0 (ix250 (o:=.no) h30)<|oB 0 h28 o0
  rcases spl h with⟨h31,h⟩|⟨h31,h⟩
  obtain⟨x32,h33,h⟩:=obind h
  obtain⟨x34,h35,h⟩:=obind h
  obtain⟨l36,h37,h⟩:=obind h
  have k:=oA 1 (slTo23 h35)<|oA 1 (ix22 (o:=.no) h33)<|oB 2 h31 k
  by_cases h38:List.length x34=0
  obtain⟨x39,h40,h⟩:=obind h
  obtain⟨l41,h42,h⟩:=obind h
  have k:=oA 0 (slTo23 h40)<|oP 0 (apN23 h37 h38) k
  by_cases h43:List.length x39=0
  obtain⟨r44,h45,h⟩:=obind h
  obtain⟨x46,h47,h⟩:=obind h
  obtain⟨r48,h49,h⟩:=obind h
  obtain⟨r50,h51,h⟩:=obind h
  exact fun j=>lH 2 [] [0,1,2,3] [] [1,2,4,5,12,14,16,17,118,119,120] (oD (dR x12.recs)<|oD (dE rl)<|oD (dT p5)<|oD (dT p4)<|oD (dT r50.sub)<|oD (dT ([]:List Tm))<|oD (dC parts)<|oD (dE rl)<|oC 0 [] (c156 h51)<|oC 1 [2] (c161 h49)<|oA 1 (ix23 (o:=.no) h47)<|oC 1 [] (c162 h45)<|oP 0 (apN23 h42 h43) k) (ih _ _ _ _ _ _ _ _ _ _ _ _ _ h)
  obtain⟨r44,h45,h⟩:=obind h
  obtain⟨x46,h47,h⟩:=obind h
  obtain⟨r48,h49,h⟩:=obind h
  obtain⟨r50,h51,h⟩:=obind h
  exact fun j=>lH 2 [] [0,1,2,3] [] [1,2,4,5,12,14,16,17,118,119,120] (oD (dR x12.recs)<|oD (dE rl)<|oD (dT p5)<|oD (dT p4)<|oD (dT r50.sub)<|oD (dT ([]:List Tm))<|oD (dC parts)<|oD (dE rl)<|oC 0 [] (c156 h51)<|oC 1 [2] (c161 h49)<|oA 1 (ix23 (o:=.no) h47)<|oC 1 [] (c162 h45)<|oP 0 (apS23 h42 h43) k) (ih _ _ _ _ _ _ _ _ _ _ _ _ _ h)
  obtain⟨x39,h40,h⟩:=obind h
  obtain⟨l41,h42,h⟩:=obind h
  have k:=oA 0 (slTo23 h40)<|oP 0 (apS23 h37 h38) k
  by_cases h43:List.length x39=0
  obtain⟨r44,h45,h⟩:=obind h
  obtain⟨x46,h47,h⟩:=obind h
  obtain⟨r48,h49,h⟩:=obind h
  obtain⟨r50,h51,h⟩:=obind h
  exact fun j=>lH 2 [] [0,1,2,3] [] [1,2,4,5,12,14,16,17,118,119,120] (oD (dR x12.recs)<|oD (dE rl)<|oD (dT p5)<|oD (dT p4)<|oD (dT r50.sub)<|oD (dT ([]:List Tm))<|oD (dC parts)<|oD (dE rl)<|oC 0 [] (c156 h51)<|oC 1 [2] (c161 h49)<|oA 1 (ix23 (o:=.no) h47)<|oC 1 [] (c162 h45)<|oP 0 (apN23 h42 h43) k) (ih _ _ _ _ _ _ _ _ _ _ _ _ _ h)
  obtain⟨r44,h45,h⟩:=obind h
  obtain⟨x46,h47,h⟩:=obind h
  obtain⟨r48,h49,h⟩:=obind h
  obtain⟨r50,h51,h⟩:=obind h
  exact fun j=>lH 2 [] [0,1,2,3] [] [1,2,4,5,12,14,16,17,118,119,120] (oD (dR x12.recs)<|oD (dE rl)<|oD (dT p5)<|oD (dT p4)<|oD (dT r50.sub)<|oD (dT ([]:List Tm))<|oD (dC parts)<|oD (dE rl)<|oC 0 [] (c156 h51)<|oC 1 [2] (c161 h49)<|oA 1 (ix23 (o:=.no) h47)<|oC 1 [] (c162 h45)<|oP 0 (apS23 h42 h43) k) (ih _ _ _ _ _ _ _ _ _ _ _ _ _ h)
  exact fun j=>lH 1 [] [0,1,2,3] [] [1,2,4,5,12,14,16,17,118,119,120] (oD (dR x12.recs)<|oD (dE rl)<|oD (dT p5)<|oD (dT p4)<|oD (dT vb3_2)<|oD (dT ([]:List Tm))<|oD (dC parts)<|oD (dE rl)<|oB 2 h31 k) (ih _ _ _ _ _ _ _ _ _ _ _ _ _ h)
  obtain⟨r52,h53,h⟩:=obind h
  obtain rfl:=sj h
  exact fun j=>lF 3 [0] (oD (dT r52.1.sub)<|oD (dC parts)<|oD (dE rl)<|oC 1 [2] (c153 h53)<|oB 0 h28 o0)
theorem c84{qq rl parts p1 p2 p3 p4 p5 r}(h:e84 qq rl parts p1 p2 p3 p4 p5=some r):K84 rl parts p1 p2 p3 p4 p5 r Ct:=by
 unfold e84 at h
 obtain⟨r1,h2,h⟩:=obind h
 rcases spl h with⟨h3,h⟩|⟨h3,h⟩
 have k:=oK 2 [] h3 (c159 h2) o0
 rcases spl h with⟨h4,h⟩|⟨h4,h⟩
 obtain rfl:=sj h
 exact k84 (tF q84 1 [0] (oD (dT ([]:List Tm))<|oD (dC parts)<|oD (dE rl)<|oB 1 h4 k))
 have k:=oB 1 h4 k
 rcases spl h with⟨h5,h⟩|⟨h5,h⟩
 obtain rfl:=sj h
 exact k84 (tF q84 1 [0] (oD (dT ([]:List Tm))<|oD (dC parts)<|oD (dE rl)<|oB 0 h5 k))
 obtain⟨r6,h7,h⟩:=obind h
 have k:=oB 0 h5 k
 rcases spl h with⟨h8,h⟩|⟨h8,h⟩
 obtain⟨x9,h10,h⟩:=obind h
 have k:=oA 1 (ix22 (o:=.no) h10)<|oK 0 [] h8 (c159 h7) k
 rcases spl h with⟨h11,h⟩|⟨h11,h⟩
 obtain rfl:=sj h
 exact k84 (tF q84 1 [0] (oD (dT ([]:List Tm))<|oD (dC parts)<|oD (dE rl)<|oB 1 h11 k))
 obtain⟨x12,h13,h⟩:=obind h
 obtain⟨x14,h15,h⟩:=obind h
 have k:=oA 2 (ix22 (o:=.no) h15)<|oA 3 (ix22 (o:=.no) h15)<|oA 1 (ix245 (o:=.no) h13)<|oB 1 h11 k
 rcases spl h with⟨h16,h⟩|⟨h16,h⟩
 obtain rfl:=sj h
 exact k84 (tF q84 1 [0] (oD (dT ([]:List Tm))<|oD (dC parts)<|oD (dE rl)<|oB 3 h16 k))
 have k:=oB 3 h16 k
 rcases spl h with⟨h17,h⟩|⟨h17,h⟩
 obtain rfl:=sj h
 exact k84 (tF q84 1 [0] (oD (dT ([]:List Tm))<|oD (dC parts)<|oD (dE rl)<|oB 3 h17 k))
 obtain⟨r18,h19,h⟩:=obind h
 have k:=oB 3 h17 k
 rcases spl h with⟨h20,h⟩|⟨h20,h⟩
 obtain⟨r21,h22,h⟩:=obind h
 have k:=oK 0 [] h20 (c160 h19) k
 rcases spl h with⟨h23,h⟩|⟨h23,h⟩
 obtain⟨x24,h25,h⟩:=obind h
 obtain⟨r26,h27,h⟩:=obind h
 exact k84 (tH q84 3 [] [0,1,3,4] [] [1,2,4,5,12,14,16,17,118,119,120] (oD (dR x12.recs)<|oD (dE rl)<|oD (dT p5)<|oD (dT p4)<|oD (dT r26.sub)<|oD (dT ([]:List Tm))<|oD (dC parts)<|oD (dE rl)<|oC 1 [] (c151 h27)<|oA 2 (ix23 (o:=.no) h25)<|oA 2 (ix22 (o:=.no) h10)<|oA 1 (ix22 (o:=.no) h15)<|oK 1 [] h23 (c160 h22) k) (l84Lbq _ _ _ _ _ _ _ _ _ _ _ _ _ _ h))
 obtain rfl:=sj h
 exact k84 (tF q84 2 [0] (oD (dT ([]:List Tm))<|oD (dC parts)<|oD (dE rl)<|oK 1 [] h23 (c160 h22) k))
 obtain rfl:=sj h
 exact k84 (tF q84 2 [0] (oD (dT ([]:List Tm))<|oD (dC parts)<|oD (dE rl)<|oK 0 [] h20 (c160 h19) k))
 obtain rfl:=sj h
 exact k84 (tF q84 2 [0] (oD (dT ([]:List Tm))<|oD (dC parts)<|oD (dE rl)<|oK 0 [] h8 (c159 h7) k))
 obtain rfl:=sj h
 exact k84 (tF q84 2 [0] (oD (dT ([]:List Tm))<|oD (dC parts)<|oD (dE rl)<|oK 2 [] h3 (c159 h2) o0))
def e113vabr(qq:Nat)(q0 q1:Int):Option (Int):=
 some q0
abbrev K113vabr (q0 q1 r:Int) (C:Cf):Prop:=C 113 [.cells [ai q0,ai q1]] [.mp 0 0] (ai r) [.cells [ai q0,ai q1]] 0
theorem q113vabr:Qf 113 Tryz.f113:=⟨Tryz.func113,by kernel_rfl⟩
theorem k113vabr{q0 q1 r}(h:K113vabr q0 q1 r Ci):K113vabr q0 q1 r Ct:=⟨h,⟨(lz rfl),tv⟩,(forall_cons ⟨tv,tv,tv⟩ forall_nil),tv,(forall_cons ⟨tv,tv,tv⟩ forall_nil)⟩
theorem c113vabr{qq q0 q1 r}(h:e113vabr qq q0 q1=some r):K113vabr q0 q1 r Ct:=by
 unfold e113vabr at h
 obtain rfl:=sj h
 exact k113vabr (tF q113vabr 1 [0] (o0))
def e271(qq:Nat)(M:Mach)(p1:Tm):Option (Int):=
 if p1.k != 6 then
 some 0
 else
 if decide (p1.n≥(List.length M.l:Int))then
 some 0
 else
 gidx M.l p1.n>>=fun x3=>
 some x3.kind
abbrev K271 (M:Mach) (p1:Tm) (r:Int) (C:Cf):Prop:=C 271 [mB M 1,mR M] [.mp 0 0,tmA p1] (ai r) [mB M 1,mR M] 0
theorem q271:Qf 271 Tryz.f271:=⟨Tryz.func271,by kernel_rfl⟩
theorem k271{M p1 r}(h:K271 M p1 r Ci):K271 M p1 r Ct:=⟨h,⟨(lz rfl),⟨tv,tv,⟨tv,dT _⟩,tv⟩,tv⟩,(forall_cons ⟨⟨tv,dE _⟩,(lz rfl),⟨tv,dI _⟩,⟨tv,dI _⟩,tv⟩ (forall_cons ⟨⟨tv,dE _⟩,⟨tv,dC _⟩,tv⟩ forall_nil)),tv,(forall_cons ⟨dE _,(lz rfl),dI _,dI _,tv⟩ (forall_cons ⟨dE _,dC _,tv⟩ forall_nil))⟩
theorem c271{qq M p1 r}(h:e271 qq M p1=some r):K271 M p1 r Ct:=by
 unfold e271 at h
 rcases spl h with⟨h1,h⟩|⟨h1,h⟩
 obtain rfl:=sj h
 exact k271 (tF q271 0 [0,1] (oD (dC M.parts)<|oD (dE M.rl)<|oD (dI M.own)<|oD (dI M.args)<|oD (dE M.l)<|oB 1 h1 o0))
 have k:=oB 1 h1 o0
 rcases spl h with⟨h2,h⟩|⟨h2,h⟩
 obtain rfl:=sj h
 exact k271 (tF q271 0 [0,1] (oD (dC M.parts)<|oD (dE M.rl)<|oD (dI M.own)<|oD (dI M.args)<|oD (dE M.l)<|oB 3 h2 k))
 obtain⟨x3,h4,h⟩:=obind h
 obtain rfl:=sj h
 exact k271 (tF q271 1 [0,1] (oD (dC M.parts)<|oD (dE M.rl)<|oD (dI M.own)<|oD (dI M.args)<|oD (dE M.l)<|oA 2 (ix22 (o:=.no) h4)<|oB 3 h2 k))
def e230(qq:Nat)(M:Mach)(p1:Tm):Option (Int×List Tm×Bool):=
 e167 qq p1>>=fun r1=>
 e271 qq M r1.1>>=fun r3=>
 if r3 != 2 then
 some (0,[],false)
 else
 gidx M.own r1.1.n>>=fun x6=>
 if (List.length r1.2:Int) != x6 then
 some (0,[],false)
 else
 some (r1.1.n,r1.2,true)
abbrev K230 (M:Mach) (p1:Tm) (r:Int×List Tm×Bool) (C:Cf):Prop:=C 230 [mB M 1,mR M] [.mp 0 0,tmA p1] (.tup [ai r.1,.sl (flat tmCells r.2.1) (List.length r.2.1) .no,ab r.2.2]) [mB M 1,mR M] 0
theorem q230:Qf 230 Tryz.f230:=⟨Tryz.func230,by kernel_rfl⟩
theorem k230{M p1 r}(h:K230 M p1 r Ci):K230 M p1 r Ct:=⟨h,⟨(lz rfl),⟨tv,tv,⟨tv,dT _⟩,tv⟩,tv⟩,(forall_cons ⟨⟨tv,dE _⟩,(lz rfl),⟨tv,dI _⟩,⟨tv,dI _⟩,tv⟩ (forall_cons ⟨⟨tv,dE _⟩,⟨tv,dC _⟩,tv⟩ forall_nil)),⟨tv,dT _,tv,tv⟩,(forall_cons ⟨dE _,(lz rfl),dI _,dI _,tv⟩ (forall_cons ⟨dE _,dC _,tv⟩ forall_nil))⟩
theorem c230{qq M p1 r}(h:e230 qq M p1=some r):K230 M p1 r Ct:=by
 unfold e230 at h
 obtain⟨r1,h2,h⟩:=obind h
 obtain⟨r3,h4,h⟩:=obind h
 have k:=oC 4 [0,1] (c271 h4)<|oC 1 [] (c167 h2) o0
 rcases spl h with⟨h5,h⟩|⟨h5,h⟩
 obtain rfl:=sj h
 exact k230 (tF q230 0 [0,1] (oD (dT ([]:List Tm))<|oD (dC M.parts)<|oD (dE M.rl)<|oD (dI M.own)<|oD (dI M.args)<|oD (dE M.l)<|oB 0 h5 k))
 obtain⟨x6,h7,h⟩:=obind h
 have k:=oA 3 (ix41 (o:=.no) h7)<|oB 0 h5 k
 rcases spl h with⟨h8,h⟩|⟨h8,h⟩
 obtain rfl:=sj h
 exact k230 (tF q230 0 [0,1] (oD (dT ([]:List Tm))<|oD (dC M.parts)<|oD (dE M.rl)<|oD (dI M.own)<|oD (dI M.args)<|oD (dE M.l)<|oB 1 h8 k))
 obtain rfl:=sj h
 exact k230 (tF q230 1 [0,1] (oD (dT r1.2)<|oD (dC M.parts)<|oD (dE M.rl)<|oD (dI M.own)<|oD (dI M.args)<|oD (dE M.l)<|oB 1 h8 k))
def e342vabs(qq:Nat)(q0 q1 p1:Int):Option (Int×Int):=
 some ((w64 (q0+p1)),(w64 (q0+p1)))
abbrev K342vabs (q0 q1 p1:Int) (r:Int×Int) (C:Cf):Prop:=C 342 [.cells [ai q0,ai q1]] [.mp 0 0,ai p1] (ai r.1) [.cells [ai r.2,ai q1]] 0
theorem q342vabs:Qf 342 Tryz.f342:=⟨Tryz.func342,by kernel_rfl⟩
theorem k342vabs{q0 q1 p1 r}(h:K342vabs q0 q1 p1 r Ci):K342vabs q0 q1 p1 r Ct:=⟨h,⟨(lz rfl),tv,tv⟩,(forall_cons ⟨tv,tv,tv⟩ forall_nil),tv,(forall_cons ⟨tv,tv,tv⟩ forall_nil)⟩
theorem c342vabs{qq q0 q1 p1 r}(h:e342vabs qq q0 q1 p1=some r):K342vabs q0 q1 p1 r Ct:=by
 unfold e342vabs at h
 obtain rfl:=sj h
 exact k342vabs (tF q342vabs 1 [0] (o0))
def e342vabt(qq:Nat)(q0 q1 p1:Int):Option (Int×Int):=
 some ((w64 (q1+p1)),(w64 (q1+p1)))
abbrev K342vabt (q0 q1 p1:Int) (r:Int×Int) (C:Cf):Prop:=C 342 [.cells [ai q0,ai q1]] [.mp 0 1,ai p1] (ai r.1) [.cells [ai q0,ai r.2]] 0
theorem q342vabt:Qf 342 Tryz.f342:=⟨Tryz.func342,by kernel_rfl⟩
theorem k342vabt{q0 q1 p1 r}(h:K342vabt q0 q1 p1 r Ci):K342vabt q0 q1 p1 r Ct:=⟨h,⟨(lz rfl),tv,tv⟩,(forall_cons ⟨tv,tv,tv⟩ forall_nil),tv,(forall_cons ⟨tv,tv,tv⟩ forall_nil)⟩
theorem c342vabt{qq q0 q1 p1 r}(h:e342vabt qq q0 q1 p1=some r):K342vabt q0 q1 p1 r Ct:=by
 unfold e342vabt at h
 obtain rfl:=sj h
 exact k342vabt (tF q342vabt 1 [0] (o0))
def e303(qq:Nat)(fl fu p1:Int):Option (Int×Int×Int):=
 if decide (p1<0)then
 some (8,fl,fu)
 else
 e113vabr qq fl fu>>=fun r2=>
 if decide (p1>r2)then
 some (8,fl,fu)
 else
 e342vabs qq fl fu (w64 (0-p1))>>=fun r5=>
 e342vabt qq r5.2 fu p1>>=fun r7=>
 some (0,r5.2,r7.2)
abbrev K303 (fl fu p1:Int) (r:Int×Int×Int) (C:Cf):Prop:=C 303 [.cells [ai fl,ai fu]] [.mp 0 0,ai p1] (ai r.1) [.cells [ai r.2.1,ai r.2.2]] 0
theorem q303:Qf 303 Tryz.f303:=⟨Tryz.func303,by kernel_rfl⟩
theorem k303{fl fu p1 r}(h:K303 fl fu p1 r Ci):K303 fl fu p1 r Ct:=⟨h,⟨(lz rfl),tv,tv⟩,(forall_cons ⟨tv,tv,tv⟩ forall_nil),tv,(forall_cons ⟨tv,tv,tv⟩ forall_nil)⟩
theorem c303{qq fl fu p1 r}(h:e303 qq fl fu p1=some r):K303 fl fu p1 r Ct:=by
 unfold e303 at h
 rcases spl h with⟨h1,h⟩|⟨h1,h⟩
 obtain rfl:=sj h
 exact k303 (tF q303 0 [0] (oB 1 h1 o0))
 obtain⟨r2,h3,h⟩:=obind h
 have k:=oC 0 [0] (c113vabr h3)<|oB 1 h1 o0
 rcases spl h with⟨h4,h⟩|⟨h4,h⟩
 obtain rfl:=sj h
 exact k303 (tF q303 0 [0] (oB 0 h4 k))
 obtain⟨r5,h6,h⟩:=obind h
 obtain⟨r7,h8,h⟩:=obind h
 obtain rfl:=sj h
 exact k303 (tF q303 0 [0] (oC 0 [0] (c342vabt h8)<|oC 1 [0] (c342vabs h6)<|oB 0 h4 k))
def e252(qq:Nat)(fl fu:Int):Option (Int×Int×Int):=
 e303 qq fl fu 1>>=fun r1=>
 some (r1.1,r1.2.1,r1.2.2)
abbrev K252 (fl fu:Int) (r:Int×Int×Int) (C:Cf):Prop:=C 252 [.cells [ai fl,ai fu]] [.mp 0 0] (ai r.1) [.cells [ai r.2.1,ai r.2.2]] 0
theorem q252:Qf 252 Tryz.f252:=⟨Tryz.func252,by kernel_rfl⟩
theorem k252{fl fu r}(h:K252 fl fu r Ci):K252 fl fu r Ct:=⟨h,⟨(lz rfl),tv⟩,(forall_cons ⟨tv,tv,tv⟩ forall_nil),tv,(forall_cons ⟨tv,tv,tv⟩ forall_nil)⟩
theorem c252{qq fl fu r}(h:e252 qq fl fu=some r):K252 fl fu r Ct:=by
 unfold e252 at h
 obtain⟨r1,h2,h⟩:=obind h
 obtain rfl:=sj h
 exact k252 (tF q252 0 [0] (oC 0 [0] (c303 h2) o0))
def e274(qq:Nat)(p0:Tm):Option (Tm×Int):=
 e89 qq p0>>=fun r1=>
 if r1 then
 some (p0,0)
 else
 some ((Tm.mk 0 0 []),2)
abbrev K274 (p0:Tm) (r:Tm×Int) (C:Cf):Prop:=C 274 [] [tmA p0] (.tup [tmA r.1,ai r.2]) [] 0
theorem q274:Qf 274 Tryz.f274:=⟨Tryz.func274,by kernel_rfl⟩
theorem k274{p0 r}(h:K274 p0 r Ci):K274 p0 r Ct:=⟨h,⟨⟨tv,tv,⟨tv,dT _⟩,tv⟩,tv⟩,forall_nil,⟨⟨tv,tv,dT _,tv⟩,tv,tv⟩,forall_nil⟩
theorem c274{qq p0 r}(h:e274 qq p0=some r):K274 p0 r Ct:=by
 unfold e274 at h
 obtain⟨r1,h2,h⟩:=obind h
 rcases spl h with⟨h3,h⟩|⟨h3,h⟩
 obtain rfl:=sj h
 exact k274 (tF q274 3 [] (oD (dT p0.sub)<|oK 1 [] h3 (c89 h2) o0))
 obtain rfl:=sj h
 exact k274 (tF q274 2 [] (oD (dT ([]:List Tm))<|oK 1 [] h3 (c89 h2) o0))
def kindT(l:List Ent)(t:Tm):Int:=if t.k=6 then(if t.n<l.length then(ent l t.n).kind else 0)else 0
theorem ev_wkind(l:List Ent)(t:Tm)(h:0≤t.n):Evt (fun q=>e271 q (machT l) t) (kindT l t):=by
 simp only[e271,machT]
 unfold kindT
 by_cases k:t.k=6
 ·rw[if_pos k]
  refine Evt.ifF (by simp[k]) ?_
  by_cases n:t.n<l.length
  ·rw[if_pos n];exact Evt.ifF (decide_eq_false (by omega)) (Evt.pure (gidx_ent h n) Evt.ret)
  ·rw[if_neg n];exact Evt.ifT (decide_eq_true (by omega)) Evt.ret
 ·rw[if_neg k];exact Evt.ifT (by simp[k]) Evt.ret
theorem kindT_spec{l:List Ent}{t:Tm}{k:Int}(h:kindT l t=k)(hk:k≠0):t.k=6∧t.n<l.length∧(ent l t.n).kind=k:=by
 unfold kindT at h
 split at h
 ·rename_i a
  split at h
  ·rename_i b;exact⟨a,b,h⟩
  ·exact absurd h.symm hk
 ·exact absurd h.symm hk
theorem good_n{t:Tm}(h:goodT t=true):0≤t.n:=by
 obtain⟨k,n,l⟩:=t
 exact(head_n (goodT_mk h).1).1
theorem own_idx{l:List Ent}{i:Int}(h0:0≤i)(h1:i<l.length):gidx (machT l).own i=some (ownT (ent l i)):=by
 have h:=gidx_ent (l:=l) h0 h1
 unfold gidx at h ⊢
 rw[if_pos h0]at h ⊢
 show (l.map ownT)[i.toNat]? = _
 rw[List.getElem?_map,h];rfl
def isCon(l:List Ent)(t:Tm):Prop:=kindT l (hdT t)=2∧(arT t).length=pisT (ent l (hdT t).n).type
instance (l:List Ent) (t:Tm):Decidable (isCon l t):=inferInstanceAs (Decidable (_∧_))
def conX(l:List Ent)(t:Tm):Int×List Tm×Bool:=if isCon l t then((hdT t).n,arT t,true)else(0,[],false)
theorem ev_wcon(l:List Ent)(t:Tm)(hs:shapedT t=true):Evt (fun q=>e230 q (machT l) t) (conX l t):=by
 simp only[e230]
 have hn:=good_n (shapedT_spec (hd_shaped hs)).2.2
 refine(ev_Spine t hs).bind ((ev_wkind l _ hn).bind ?_)
 by_cases h:kindT l (hdT t)=2
 ·have hk:=kindT_spec h (by decide)
  refine Evt.ifF (by simp[h]) (Evt.pure (own_idx hn hk.2.1) ?_)
  have e:ownT (ent l (hdT t).n)=pisT (ent l (hdT t).n).type:=by unfold ownT;rw[if_pos hk.2.2]
  by_cases h2:(arT t).length=pisT (ent l (hdT t).n).type
  ·have c:conX l t=((hdT t).n,arT t,true):=if_pos ⟨h,h2⟩
   rw[c]
   exact Evt.ifF (by rw[e];simp[h2]) Evt.ret
  ·have c:conX l t=(0,[],false):=if_neg (fun h'=>h2 h'.2)
   rw[c]
   exact Evt.ifT (by rw[e];simp;omega) Evt.ret
 ·have c:conX l t=(0,[],false):=if_neg (fun h'=>h h'.1)
  rw[c]
  exact Evt.ifT (by simp[h]) Evt.ret
theorem isCon_spec{l:List Ent}{t:Tm}(hs:shapedT t=true)(h:isCon l t):0≤(hdT t).n∧(hdT t).n<l.length∧(ent l (hdT t).n).kind=2∧(arT t).length=pisT (ent l (hdT t).n).type:=by
 have hk:=kindT_spec h.1 (by decide)
 exact⟨good_n (shapedT_spec (hd_shaped hs)).2.2,hk.2.1,hk.2.2,h.2⟩
mutual
def e138:Nat->Mach->Tm->Int->Int->Option (Tm×Int×Int×Int)
 |0,_,_,_,_=>none
 |qq+1,M,p1,fl,fu=>
 e138Lbu qq M fl fu p1.k p1.n p1.sub
def e138Lbu:Nat->Mach->Int->Int->Int->Int->(List Tm)->Option (Tm×Int×Int×Int)
 |0,_,_,_,_,_,_=>none
 |qq+1,M,vb2_0,vb2_1,vb3_0,vb3_1,vb3_2=>
 e202 qq M (Tm.mk vb3_0 vb3_1 vb3_2) vb2_0 vb2_1>>=fun r1=>
 if r1.2.1 then
 if r1.2.2.1 != 0 then
 some ((Tm.mk 0 0 []),r1.2.2.1,r1.2.2.2.1,r1.2.2.2.2)
 else
 e138Lbu qq M r1.2.2.2.1 r1.2.2.2.2 r1.1.k r1.1.n r1.1.sub
 else
 if r1.2.2.1 != 0 then
 some ((Tm.mk 0 0 []),r1.2.2.1,r1.2.2.2.1,r1.2.2.2.2)
 else
 some ((Tm.mk vb3_0 vb3_1 vb3_2),0,r1.2.2.2.1,r1.2.2.2.2)
def e202:Nat->Mach->Tm->Int->Int->Option (Tm×Bool×Int×Int×Int)
 |0,_,_,_,_=>none
 |qq+1,M,p1,fl,fu=>
 e167 qq p1>>=fun r1=>
 if r1.1.k==4 then
 if decide ((List.length r1.2:Int)>0)then
 gidx r1.1.sub 1>>=fun x5=>
 gidx r1.2 0>>=fun x7=>
 e270 qq x5 x7>>=fun r9=>
 gsl r1.2 1 (List.length r1.2:Int)>>=fun x11=>
 e151 qq r9.1 x11>>=fun r13=>
 if r9.2 != 0 then
 some (p1,false,r9.2,fl,fu)
 else
 e252 qq fl fu>>=fun r16=>
 if r16.1 != 0 then
 some (p1,false,r16.1,r16.2.1,r16.2.2)
 else
 e274 qq r13>>=fun r19=>
 some (r19.1,true,r19.2,r16.2.1,r16.2.2)
 else
 e271 qq M r1.1>>=fun r21=>
 if r21==3 then
 gidx M.l r1.1.n>>=fun x24=>
 e151 qq x24.body r1.2>>=fun r26=>
 e252 qq fl fu>>=fun r28=>
 if r28.1 != 0 then
 some (p1,false,r28.1,r28.2.1,r28.2.2)
 else
 e274 qq r26>>=fun r31=>
 some (r31.1,true,r31.2,r28.2.1,r28.2.2)
 else
 e271 qq M r1.1>>=fun r33=>
 if r33==4 then
 e272 qq M r1.1 r1.2 fl fu>>=fun r36=>
 if r36.2.1 then
 if r36.2.2.1 != 0 then
 some (p1,false,r36.2.2.1,r36.2.2.2.1,r36.2.2.2.2)
 else
 e252 qq r36.2.2.2.1 r36.2.2.2.2>>=fun r40=>
 if r40.1 != 0 then
 some (p1,false,r40.1,r40.2.1,r40.2.2)
 else
 e274 qq r36.1>>=fun r43=>
 some (r43.1,true,r43.2,r40.2.1,r40.2.2)
 else
 if r36.2.2.1 != 0 then
 some (p1,false,r36.2.2.1,r36.2.2.2.1,r36.2.2.2.2)
 else
 some (p1,false,r36.2.2.1,r36.2.2.2.1,r36.2.2.2.2)
 else
 if r1.1.k==7 then
 e273 qq M r1.1 r1.2 fl fu>>=fun r47=>
 if r47.2.1 then
 if r47.2.2.1 != 0 then
 some (p1,false,r47.2.2.1,r47.2.2.2.1,r47.2.2.2.2)
 else
 e252 qq r47.2.2.2.1 r47.2.2.2.2>>=fun r51=>
 if r51.1 != 0 then
 some (p1,false,r51.1,r51.2.1,r51.2.2)
 else
 e274 qq r47.1>>=fun r54=>
 some (r54.1,true,r54.2,r51.2.1,r51.2.2)
 else
 if r47.2.2.1 != 0 then
 some (p1,false,r47.2.2.1,r47.2.2.2.1,r47.2.2.2.2)
 else
 some (p1,false,r47.2.2.1,r47.2.2.2.1,r47.2.2.2.2)
 else
 some (p1,false,0,fl,fu)
 else
 e271 qq M r1.1>>=fun r57=>
 if r57==3 then
 gidx M.l r1.1.n>>=fun x60=>
 e151 qq x60.body r1.2>>=fun r62=>
 e252 qq fl fu>>=fun r64=>
 if r64.1 != 0 then
 some (p1,false,r64.1,r64.2.1,r64.2.2)
 else
 e274 qq r62>>=fun r67=>
 some (r67.1,true,r67.2,r64.2.1,r64.2.2)
 else
 e271 qq M r1.1>>=fun r69=>
 if r69==4 then
 e272 qq M r1.1 r1.2 fl fu>>=fun r72=>
 if r72.2.1 then
 if r72.2.2.1 != 0 then
 some (p1,false,r72.2.2.1,r72.2.2.2.1,r72.2.2.2.2)
 else
 e252 qq r72.2.2.2.1 r72.2.2.2.2>>=fun r76=>
 if r76.1 != 0 then
 some (p1,false,r76.1,r76.2.1,r76.2.2)
 else
 e274 qq r72.1>>=fun r79=>
 some (r79.1,true,r79.2,r76.2.1,r76.2.2)
 else
 if r72.2.2.1 != 0 then
 some (p1,false,r72.2.2.1,r72.2.2.2.1,r72.2.2.2.2)
 else
 some (p1,false,r72.2.2.1,r72.2.2.2.1,r72.2.2.2.2)
 else
 if r1.1.k==7 then
 e273 qq M r1.1 r1.2 fl fu>>=fun r83=>
 if r83.2.1 then
 if r83.2.2.1 != 0 then
 some (p1,false,r83.2.2.1,r83.2.2.2.1,r83.2.2.2.2)
 else
 e252 qq r83.2.2.2.1 r83.2.2.2.2>>=fun r87=>
 if r87.1 != 0 then
 some (p1,false,r87.1,r87.2.1,r87.2.2)
 else
 e274 qq r83.1>>=fun r90=>
 some (r90.1,true,r90.2,r87.2.1,r87.2.2)
 else
 if r83.2.2.1 != 0 then
 some (p1,false,r83.2.2.1,r83.2.2.2.1,r83.2.2.2.2)
 else
 some (p1,false,r83.2.2.1,r83.2.2.2.1,r83.2.2.2.2)
 else
 some (p1,false,0,fl,fu)
def e272:Nat->Mach->Tm->(List Tm)->Int->Int->Option (Tm×Bool×Int×Int×Int)
 |0,_,_,_,_,_=>none
 |qq+1,M,p1,p2,fl,fu=>
 gidx M.l p1.n>>=fun x1=>
 if decide ((List.length p2:Int)≤x1.pars)then
 some ((Tm.mk 0 0 []),false,0,fl,fu)
 else
 gidx p2 x1.pars>>=fun x4=>
 e138 qq M x4 fl fu>>=fun r6=>
 if r6.2.1 != 0 then
 some ((Tm.mk 0 0 []),false,r6.2.1,r6.2.2.1,r6.2.2.2)
 else
 e230 qq M r6.1>>=fun r9=>
 if r9.2.2 then
 gidx M.l r9.1>>=fun x12=>
 if x12.fam != x1.fam then
 some ((Tm.mk 0 0 []),false,0,r6.2.2.1,r6.2.2.2)
 else
 gsl r9.2.1 x12.pars (List.length r9.2.1:Int)>>=fun x15=>
 e314 qq M.rl M.parts p1.n x15>>=fun r17=>
 gsl p2 (w64 (x1.pars+1)) (List.length p2:Int)>>=fun x19=>
 e151 qq r17.1 x19>>=fun r21=>
 some (r21,true,r17.2,r6.2.2.1,r6.2.2.2)
 else
 some ((Tm.mk 0 0 []),false,0,r6.2.2.1,r6.2.2.2)
def e273:Nat->Mach->Tm->(List Tm)->Int->Int->Option (Tm×Bool×Int×Int×Int)
 |0,_,_,_,_,_=>none
 |qq+1,M,p1,p2,fl,fu=>
 if decide (p1.n≥(List.length M.l:Int))then
 some ((Tm.mk 0 0 []),false,0,fl,fu)
 else
 gidx M.l p1.n>>=fun x2=>
 if x2.kind != 1 then
 some ((Tm.mk 0 0 []),false,0,fl,fu)
 else
 gidx M.args p1.n>>=fun x5=>
 if decide ((List.length p2:Int)<x5)then
 some ((Tm.mk 0 0 []),false,0,fl,fu)
 else
 gidx p2 (w64 (x5-1))>>=fun x8=>
 e138 qq M x8 fl fu>>=fun r10=>
 if r10.2.1 != 0 then
 some ((Tm.mk 0 0 []),false,r10.2.1,r10.2.2.1,r10.2.2.2)
 else
 e230 qq M r10.1>>=fun r13=>
 if r13.2.2 then
 gidx M.l r13.1>>=fun x16=>
 if x16.fam != p1.n then
 some ((Tm.mk 0 0 []),false,0,r10.2.2.1,r10.2.2.2)
 else
 gidx p1.sub 0>>=fun x19=>
 gsl p2 0 (w64 ((w64 (x2.pars+1))+(List.length x2.cons:Int)))>>=fun x21=>
 gsl r13.2.1 x2.pars (List.length r13.2.1:Int)>>=fun x23=>
 e84 qq M.rl M.parts p1.n x19.n r13.1 x21 x23>>=fun r25=>
 gsl p2 x5 (List.length p2:Int)>>=fun x27=>
 e151 qq r25.1 x27>>=fun r29=>
 some (r29,true,r25.2,r10.2.2.1,r10.2.2.2)
 else
 some ((Tm.mk 0 0 []),false,0,r10.2.2.1,r10.2.2.2)
end
def g138LbuE0(j:Nat->Value)(M:Mach)(vb2_0 vb2_1 vb3_0 vb3_1:Int)(vb3_2:List Tm):=sp j 28 0 [(0,.mp 0 0),(2,.mp 2 0),(4,.mp 3 0),(6,.mp 4 0)]
def g138LbuS0(M:Mach)(vb2_0 vb2_1 vb3_0 vb3_1:Int)(vb3_2:List Tm):LSt:=⟨[(0,mB M 1),(1,mR M),(2,.cells [ai vb2_0,ai vb2_1]),(3,.cells [ai vb3_0,ai vb3_1,slv tmCells vb3_2 .no]),(4,.cells [ai 0,ai 0,slv tmCells ([]:List Tm) .nl])],5,[],0,[]⟩
abbrev K138 (M:Mach) (p1:Tm) (fl fu:Int) (r:Tm×Int×Int×Int) (C:Cf):Prop:=C 138 [mB M 1,mR M,.cells [ai fl,ai fu]] [.mp 0 0,tmA p1,.mp 2 0] (.tup [tmA r.1,ai r.2.1]) [mB M 1,mR M,.cells [ai r.2.2.1,ai r.2.2.2]] 0
abbrev K202 (M:Mach) (p1:Tm) (fl fu:Int) (r:Tm×Bool×Int×Int×Int) (C:Cf):Prop:=C 202 [mB M 1,mR M,.cells [ai fl,ai fu]] [.mp 0 0,tmA p1,.mp 2 0] (.tup [tmA r.1,ab r.2.1,ai r.2.2.1]) [mB M 1,mR M,.cells [ai r.2.2.2.1,ai r.2.2.2.2]] 0
abbrev K272 (M:Mach) (p1:Tm) (p2:List Tm) (fl fu:Int) (r:Tm×Bool×Int×Int×Int) (C:Cf):Prop:=C 272 [mB M 1,mR M,.cells [ai fl,ai fu]] [.mp 0 0,tmA p1,slv tmCells p2 .no,.mp 2 0] (.tup [tmA r.1,ab r.2.1,ai r.2.2.1]) [mB M 1,mR M,.cells [ai r.2.2.2.1,ai r.2.2.2.2]] 0
abbrev K273 (M:Mach) (p1:Tm) (p2:List Tm) (fl fu:Int) (r:Tm×Bool×Int×Int×Int) (C:Cf):Prop:=C 273 [mB M 1,mR M,.cells [ai fl,ai fu]] [.mp 0 0,tmA p1,slv tmCells p2 .no,.mp 2 0] (.tup [tmA r.1,ab r.2.1,ai r.2.2.1]) [mB M 1,mR M,.cells [ai r.2.2.2.1,ai r.2.2.2.2]] 0
theorem q138:Qf 138 Tryz.f138:=⟨Tryz.func138,by kernel_rfl⟩
theorem k138{M p1 fl fu r}(h:K138 M p1 fl fu r Ci):K138 M p1 fl fu r Ct:=⟨h,⟨(lz rfl),⟨tv,tv,⟨tv,dT _⟩,tv⟩,(lz rfl),tv⟩,(forall_cons ⟨⟨tv,dE _⟩,(lz rfl),⟨tv,dI _⟩,⟨tv,dI _⟩,tv⟩ (forall_cons ⟨⟨tv,dE _⟩,⟨tv,dC _⟩,tv⟩ (forall_cons ⟨tv,tv,tv⟩ forall_nil))),⟨⟨tv,tv,dT _,tv⟩,tv,tv⟩,(forall_cons ⟨dE _,(lz rfl),dI _,dI _,tv⟩ (forall_cons ⟨dE _,dC _,tv⟩ (forall_cons ⟨tv,tv,tv⟩ forall_nil)))⟩
theorem q202:Qf 202 Tryz.f202:=⟨Tryz.func202,by kernel_rfl⟩
theorem k202{M p1 fl fu r}(h:K202 M p1 fl fu r Ci):K202 M p1 fl fu r Ct:=⟨h,⟨(lz rfl),⟨tv,tv,⟨tv,dT _⟩,tv⟩,(lz rfl),tv⟩,(forall_cons ⟨⟨tv,dE _⟩,(lz rfl),⟨tv,dI _⟩,⟨tv,dI _⟩,tv⟩ (forall_cons ⟨⟨tv,dE _⟩,⟨tv,dC _⟩,tv⟩ (forall_cons ⟨tv,tv,tv⟩ forall_nil))),⟨⟨tv,tv,dT _,tv⟩,tv,tv,tv⟩,(forall_cons ⟨dE _,(lz rfl),dI _,dI _,tv⟩ (forall_cons ⟨dE _,dC _,tv⟩ (forall_cons ⟨tv,tv,tv⟩ forall_nil)))⟩
theorem q272:Qf 272 Tryz.f272:=⟨Tryz.func272,by kernel_rfl⟩
theorem k272{M p1 p2 fl fu r}(h:K272 M p1 p2 fl fu r Ci):K272 M p1 p2 fl fu r Ct:=⟨h,⟨(lz rfl),⟨tv,tv,⟨tv,dT _⟩,tv⟩,⟨tv,dT _⟩,(lz rfl),tv⟩,(forall_cons ⟨⟨tv,dE _⟩,(lz rfl),⟨tv,dI _⟩,⟨tv,dI _⟩,tv⟩ (forall_cons ⟨⟨tv,dE _⟩,⟨tv,dC _⟩,tv⟩ (forall_cons ⟨tv,tv,tv⟩ forall_nil))),⟨⟨tv,tv,dT _,tv⟩,tv,tv,tv⟩,(forall_cons ⟨dE _,(lz rfl),dI _,dI _,tv⟩ (forall_cons ⟨dE _,dC _,tv⟩ (forall_cons ⟨tv,tv,tv⟩ forall_nil)))⟩
theorem q273:Qf 273 Tryz.f273:=⟨Tryz.func273,by kernel_rfl⟩
theorem k273{M p1 p2 fl fu r}(h:K273 M p1 p2 fl fu r Ci):K273 M p1 p2 fl fu r Ct:=⟨h,⟨(lz rfl),⟨tv,tv,⟨tv,dT _⟩,tv⟩,⟨tv,dT _⟩,(lz rfl),tv⟩,(forall_cons ⟨⟨tv,dE _⟩,(lz rfl),⟨tv,dI _⟩,⟨tv,dI _⟩,tv⟩ (forall_cons ⟨⟨tv,dE _⟩,⟨tv,dC _⟩,tv⟩ (forall_cons ⟨tv,tv,tv⟩ forall_nil))),⟨⟨tv,tv,dT _,tv⟩,tv,tv,tv⟩,(forall_cons ⟨dE _,(lz rfl),dI _,dI _,tv⟩ (forall_cons ⟨dE _,dC _,tv⟩ (forall_cons ⟨tv,tv,tv⟩ forall_nil)))⟩
theorem a138_138Lbu_202_272_273:∀qq:Nat,(∀M p1 fl fu r,e138 qq M p1 fl fu=some r->K138 M p1 fl fu r Ct)∧(∀M vb2_0 vb2_1 vb3_0 vb3_1 vb3_2 r,e138Lbu qq M vb2_0 vb2_1 vb3_0 vb3_1 vb3_2=some r->(∀j,Dl Tryz.prog 3 (inn (inn (rgt (inn (rgt (bod Tryz.f138)))))) (g138LbuE0 j M vb2_0 vb2_1 vb3_0 vb3_1 vb3_2) (g138LbuS0 M vb2_0 vb2_1 vb3_0 vb3_1 vb3_2) (frameQ Tryz.prog 3 (FinQ Tryz.prog 3 Tryz.f138 (.tup [tmA r.1,ai r.2.1]) [mB M 1,mR M,.cells [ai r.2.2.1,ai r.2.2.2]] 0) [.blk 0])))∧(∀M p1 fl fu r,e202 qq M p1 fl fu=some r->K202 M p1 fl fu r Ct)∧(∀M p1 p2 fl fu r,e272 qq M p1 p2 fl fu=some r->K272 M p1 p2 fl fu r Ct)∧(∀M p1 p2 fl fu r,e273 qq M p1 p2 fl fu=some r->K273 M p1 p2 fl fu r Ct):=by
 intro qq
 induction qq with
 |zero=>
  exact⟨fun _ _ _ _ _ h=>nn h,fun _ _ _ _ _ _ _ h=>nn h,fun _ _ _ _ _ h=>nn h,fun _ _ _ _ _ _ h=>nn h,fun _ _ _ _ _ _ h=>nn h⟩
 |succ qq ih=>
  obtain⟨ih138,ih138Lbu,ih202,ih272,ih273⟩:=ih
  refine⟨?_,?_,?_,?_,?_⟩
  intro M p1 fl fu r h
  rw[e138]at h
  exact k138 (tH q138 0 [] [0,1,2,3,4] [] [0,2,4,6] (oD (dT ([]:List Tm))<|oD (dT p1.sub)<|oD (dC M.parts)<|oD (dE M.rl)<|oD (dI M.own)<|oD (dI M.args)<|oD (dE M.l) o0) (ih138Lbu _ _ _ _ _ _ _ h))
  intro M vb2_0 vb2_1 vb3_0 vb3_1 vb3_2 r h
  rw[e138Lbu]at h
  obtain⟨r1,h2,h⟩:=obind h
  have k:=oC 1 [0,1,2] (ih202 _ _ _ _ _ h2) o0
  rcases spl h with⟨h3,h⟩|⟨h3,h⟩
  have k:=oB 1 h3 k
  rcases spl h with⟨h4,h⟩|⟨h4,h⟩
  obtain rfl:=sj h
  exact fun j=>lF 1 [0,1,2] (oD (dT ([]:List Tm))<|oD (dC M.parts)<|oD (dE M.rl)<|oD (dI M.own)<|oD (dI M.args)<|oD (dE M.l)<|oB 2 h4 k)
  exact fun j=>lH 2 [] [0,1,2,3,4] [] [0,2,4,6] (oD (dT ([]:List Tm))<|oD (dT r1.1.sub)<|oD (dC M.parts)<|oD (dE M.rl)<|oD (dI M.own)<|oD (dI M.args)<|oD (dE M.l)<|oB 2 h4 k) (ih138Lbu _ _ _ _ _ _ _ h)
  have k:=oB 1 h3 k
  rcases spl h with⟨h5,h⟩|⟨h5,h⟩
  obtain rfl:=sj h
  exact fun j=>lF 1 [0,1,2] (oD (dT ([]:List Tm))<|oD (dC M.parts)<|oD (dE M.rl)<|oD (dI M.own)<|oD (dI M.args)<|oD (dE M.l)<|oB 2 h5 k)
  obtain rfl:=sj h
  exact fun j=>lF 2 [0,1,2] (oD (dT vb3_2)<|oD (dC M.parts)<|oD (dE M.rl)<|oD (dI M.own)<|oD (dI M.args)<|oD (dE M.l)<|oB 2 h5 k)
  intro M p1 fl fu r h
  rw[e202]at h
  obtain⟨r1,h2,h⟩:=obind h
  have k:=oC 1 [] (c167 h2) o0
  rcases spl h with⟨h3,h⟩|⟨h3,h⟩
  have k:=oB 5 h3 k
  rcases spl h with⟨h4,h⟩|⟨h4,h⟩
  obtain⟨x5,h6,h⟩:=obind h
  obtain⟨x7,h8,h⟩:=obind h
  obtain⟨r9,h10,h⟩:=obind h
  obtain⟨x11,h12,h⟩:=obind h
  obtain⟨r13,h14,h⟩:=obind h
  have k:=oC 0 [] (c151 h14)<|oA 4 (slFrom23 h12)<|oC 1 [] (c270 h10)<|oA 1 (ix23 (o:=.no) h8)<|oA 1 (ix23 (o:=.no) h6)<|oB 1 h4 k
  rcases spl h with⟨h15,h⟩|⟨h15,h⟩
  obtain rfl:=sj h
  exact k202 (tF q202 2 [0,1,2] (oD (dT p1.sub)<|oD (dC M.parts)<|oD (dE M.rl)<|oD (dI M.own)<|oD (dI M.args)<|oD (dE M.l)<|oB 1 h15 k))
  obtain⟨r16,h17,h⟩:=obind h
  have k:=oC 1 [2] (c252 h17)<|oB 1 h15 k
  rcases spl h with⟨h18,h⟩|⟨h18,h⟩
  obtain rfl:=sj h
  exact k202 (tF q202 2 [0,1,2] (oD (dT p1.sub)<|oD (dC M.parts)<|oD (dE M.rl)<|oD (dI M.own)<|oD (dI M.args)<|oD (dE M.l)<|oB 0 h18 k))
  obtain⟨r19,h20,h⟩:=obind h
  obtain rfl:=sj h
  exact k202 (tF q202 5 [0,1,2] (oD (dT r19.1.sub)<|oD (dC M.parts)<|oD (dE M.rl)<|oD (dI M.own)<|oD (dI M.args)<|oD (dE M.l)<|oC 1 [] (c274 h20)<|oB 0 h18 k))
  obtain⟨r21,h22,h⟩:=obind h
  have k:=oC 1 [0,1] (c271 h22)<|oB 1 h4 k
  rcases spl h with⟨h23,h⟩|⟨h23,h⟩
  obtain⟨x24,h25,h⟩:=obind h
  obtain⟨r26,h27,h⟩:=obind h
  obtain⟨r28,h29,h⟩:=obind h
  have k:=oC 3 [2] (c252 h29)<|oC 1 [] (c151 h27)<|oA 2 (ix22 (o:=.no) h25)<|oB 0 h23 k
  rcases spl h with⟨h30,h⟩|⟨h30,h⟩
  obtain rfl:=sj h
  exact k202 (tF q202 2 [0,1,2] (oD (dT p1.sub)<|oD (dC M.parts)<|oD (dE M.rl)<|oD (dI M.own)<|oD (dI M.args)<|oD (dE M.l)<|oB 0 h30 k))
  obtain⟨r31,h32,h⟩:=obind h
  obtain rfl:=sj h
  exact k202 (tF q202 5 [0,1,2] (oD (dT r31.1.sub)<|oD (dC M.parts)<|oD (dE M.rl)<|oD (dI M.own)<|oD (dI M.args)<|oD (dE M.l)<|oC 1 [] (c274 h32)<|oB 0 h30 k))
  obtain⟨r33,h34,h⟩:=obind h
  have k:=oC 1 [0,1] (c271 h34)<|oB 0 h23 k
  rcases spl h with⟨h35,h⟩|⟨h35,h⟩
  obtain⟨r36,h37,h⟩:=obind h
  have k:=oC 1 [0,1,2] (ih272 _ _ _ _ _ _ h37)<|oB 0 h35 k
  rcases spl h with⟨h38,h⟩|⟨h38,h⟩
  have k:=oB 1 h38 k
  rcases spl h with⟨h39,h⟩|⟨h39,h⟩
  obtain rfl:=sj h
  exact k202 (tF q202 2 [0,1,2] (oD (dT p1.sub)<|oD (dC M.parts)<|oD (dE M.rl)<|oD (dI M.own)<|oD (dI M.args)<|oD (dE M.l)<|oB 2 h39 k))
  obtain⟨r40,h41,h⟩:=obind h
  have k:=oC 1 [2] (c252 h41)<|oB 2 h39 k
  rcases spl h with⟨h42,h⟩|⟨h42,h⟩
  obtain rfl:=sj h
  exact k202 (tF q202 2 [0,1,2] (oD (dT p1.sub)<|oD (dC M.parts)<|oD (dE M.rl)<|oD (dI M.own)<|oD (dI M.args)<|oD (dE M.l)<|oB 0 h42 k))
  obtain⟨r43,h44,h⟩:=obind h
  obtain rfl:=sj h
  exact k202 (tF q202 5 [0,1,2] (oD (dT r43.1.sub)<|oD (dC M.parts)<|oD (dE M.rl)<|oD (dI M.own)<|oD (dI M.args)<|oD (dE M.l)<|oC 1 [] (c274 h44)<|oB 0 h42 k))
  have k:=oB 1 h38 k
  rcases spl h with⟨h45,h⟩|⟨h45,h⟩
  obtain rfl:=sj h
  exact k202 (tF q202 2 [0,1,2] (oD (dT p1.sub)<|oD (dC M.parts)<|oD (dE M.rl)<|oD (dI M.own)<|oD (dI M.args)<|oD (dE M.l)<|oB 2 h45 k))
  obtain rfl:=sj h
  exact k202 (tF q202 3 [0,1,2] (oD (dT p1.sub)<|oD (dC M.parts)<|oD (dE M.rl)<|oD (dI M.own)<|oD (dI M.args)<|oD (dE M.l)<|oB 2 h45 k))
  have k:=oB 0 h35 k
  rcases spl h with⟨h46,h⟩|⟨h46,h⟩
  obtain⟨r47,h48,h⟩:=obind h
  have k:=oC 1 [0,1,2] (ih273 _ _ _ _ _ _ h48)<|oB 1 h46 k
  rcases spl h with⟨h49,h⟩|⟨h49,h⟩
  have k:=oB 1 h49 k
  rcases spl h with⟨h50,h⟩|⟨h50,h⟩
  obtain rfl:=sj h
  exact k202 (tF q202 2 [0,1,2] (oD (dT p1.sub)<|oD (dC M.parts)<|oD (dE M.rl)<|oD (dI M.own)<|oD (dI M.args)<|oD (dE M.l)<|oB 2 h50 k))
  obtain⟨r51,h52,h⟩:=obind h
  have k:=oC 1 [2] (c252 h52)<|oB 2 h50 k
  rcases spl h with⟨h53,h⟩|⟨h53,h⟩
  obtain rfl:=sj h
  exact k202 (tF q202 2 [0,1,2] (oD (dT p1.sub)<|oD (dC M.parts)<|oD (dE M.rl)<|oD (dI M.own)<|oD (dI M.args)<|oD (dE M.l)<|oB 0 h53 k))
  obtain⟨r54,h55,h⟩:=obind h
  obtain rfl:=sj h
  exact k202 (tF q202 5 [0,1,2] (oD (dT r54.1.sub)<|oD (dC M.parts)<|oD (dE M.rl)<|oD (dI M.own)<|oD (dI M.args)<|oD (dE M.l)<|oC 1 [] (c274 h55)<|oB 0 h53 k))
  have k:=oB 1 h49 k
  rcases spl h with⟨h56,h⟩|⟨h56,h⟩
  obtain rfl:=sj h
  exact k202 (tF q202 2 [0,1,2] (oD (dT p1.sub)<|oD (dC M.parts)<|oD (dE M.rl)<|oD (dI M.own)<|oD (dI M.args)<|oD (dE M.l)<|oB 2 h56 k))
  obtain rfl:=sj h
  exact k202 (tF q202 3 [0,1,2] (oD (dT p1.sub)<|oD (dC M.parts)<|oD (dE M.rl)<|oD (dI M.own)<|oD (dI M.args)<|oD (dE M.l)<|oB 2 h56 k))
  obtain rfl:=sj h
  exact k202 (tF q202 4 [0,1,2] (oD (dT p1.sub)<|oD (dC M.parts)<|oD (dE M.rl)<|oD (dI M.own)<|oD (dI M.args)<|oD (dE M.l)<|oB 1 h46 k))
  obtain⟨r57,h58,h⟩:=obind h
  have k:=oC 1 [0,1] (c271 h58)<|oB 5 h3 k
  rcases spl h with⟨h59,h⟩|⟨h59,h⟩
  obtain⟨x60,h61,h⟩:=obind h
  obtain⟨r62,h63,h⟩:=obind h
  obtain⟨r64,h65,h⟩:=obind h
  have k:=oC 3 [2] (c252 h65)<|oC 1 [] (c151 h63)<|oA 2 (ix22 (o:=.no) h61)<|oB 0 h59 k
  rcases spl h with⟨h66,h⟩|⟨h66,h⟩
  obtain rfl:=sj h
  exact k202 (tF q202 2 [0,1,2] (oD (dT p1.sub)<|oD (dC M.parts)<|oD (dE M.rl)<|oD (dI M.own)<|oD (dI M.args)<|oD (dE M.l)<|oB 0 h66 k))
  obtain⟨r67,h68,h⟩:=obind h
  obtain rfl:=sj h
  exact k202 (tF q202 5 [0,1,2] (oD (dT r67.1.sub)<|oD (dC M.parts)<|oD (dE M.rl)<|oD (dI M.own)<|oD (dI M.args)<|oD (dE M.l)<|oC 1 [] (c274 h68)<|oB 0 h66 k))
  obtain⟨r69,h70,h⟩:=obind h
  have k:=oC 1 [0,1] (c271 h70)<|oB 0 h59 k
  rcases spl h with⟨h71,h⟩|⟨h71,h⟩
  obtain⟨r72,h73,h⟩:=obind h
  have k:=oC 1 [0,1,2] (ih272 _ _ _ _ _ _ h73)<|oB 0 h71 k
  rcases spl h with⟨h74,h⟩|⟨h74,h⟩
  have k:=oB 1 h74 k
  rcases spl h with⟨h75,h⟩|⟨h75,h⟩
  obtain rfl:=sj h
  exact k202 (tF q202 2 [0,1,2] (oD (dT p1.sub)<|oD (dC M.parts)<|oD (dE M.rl)<|oD (dI M.own)<|oD (dI M.args)<|oD (dE M.l)<|oB 2 h75 k))
  obtain⟨r76,h77,h⟩:=obind h
  have k:=oC 1 [2] (c252 h77)<|oB 2 h75 k
  rcases spl h with⟨h78,h⟩|⟨h78,h⟩
  obtain rfl:=sj h
  exact k202 (tF q202 2 [0,1,2] (oD (dT p1.sub)<|oD (dC M.parts)<|oD (dE M.rl)<|oD (dI M.own)<|oD (dI M.args)<|oD (dE M.l)<|oB 0 h78 k))
  obtain⟨r79,h80,h⟩:=obind h
  obtain rfl:=sj h
  exact k202 (tF q202 5 [0,1,2] (oD (dT r79.1.sub)<|oD (dC M.parts)<|oD (dE M.rl)<|oD (dI M.own)<|oD (dI M.args)<|oD (dE M.l)<|oC 1 [] (c274 h80)<|oB 0 h78 k))
  have k:=oB 1 h74 k
  rcases spl h with⟨h81,h⟩|⟨h81,h⟩
  obtain rfl:=sj h
  exact k202 (tF q202 2 [0,1,2] (oD (dT p1.sub)<|oD (dC M.parts)<|oD (dE M.rl)<|oD (dI M.own)<|oD (dI M.args)<|oD (dE M.l)<|oB 2 h81 k))
  obtain rfl:=sj h
  exact k202 (tF q202 3 [0,1,2] (oD (dT p1.sub)<|oD (dC M.parts)<|oD (dE M.rl)<|oD (dI M.own)<|oD (dI M.args)<|oD (dE M.l)<|oB 2 h81 k))
  have k:=oB 0 h71 k
  rcases spl h with⟨h82,h⟩|⟨h82,h⟩
  obtain⟨r83,h84,h⟩:=obind h
  have k:=oC 1 [0,1,2] (ih273 _ _ _ _ _ _ h84)<|oB 1 h82 k
  rcases spl h with⟨h85,h⟩|⟨h85,h⟩
  have k:=oB 1 h85 k
  rcases spl h with⟨h86,h⟩|⟨h86,h⟩
  obtain rfl:=sj h
  exact k202 (tF q202 2 [0,1,2] (oD (dT p1.sub)<|oD (dC M.parts)<|oD (dE M.rl)<|oD (dI M.own)<|oD (dI M.args)<|oD (dE M.l)<|oB 2 h86 k))
  obtain⟨r87,h88,h⟩:=obind h
  have k:=oC 1 [2] (c252 h88)<|oB 2 h86 k
  rcases spl h with⟨h89,h⟩|⟨h89,h⟩
  obtain rfl:=sj h
  exact k202 (tF q202 2 [0,1,2] (oD (dT p1.sub)<|oD (dC M.parts)<|oD (dE M.rl)<|oD (dI M.own)<|oD (dI M.args)<|oD (dE M.l)<|oB 0 h89 k))
  obtain⟨r90,h91,h⟩:=obind h
  obtain rfl:=sj h
  exact k202 (tF q202 5 [0,1,2] (oD (dT r90.1.sub)<|oD (dC M.parts)<|oD (dE M.rl)<|oD (dI M.own)<|oD (dI M.args)<|oD (dE M.l)<|oC 1 [] (c274 h91)<|oB 0 h89 k))
  have k:=oB 1 h85 k
  rcases spl h with⟨h92,h⟩|⟨h92,h⟩
  obtain rfl:=sj h
  exact k202 (tF q202 2 [0,1,2] (oD (dT p1.sub)<|oD (dC M.parts)<|oD (dE M.rl)<|oD (dI M.own)<|oD (dI M.args)<|oD (dE M.l)<|oB 2 h92 k))
  obtain rfl:=sj h
  exact k202 (tF q202 3 [0,1,2] (oD (dT p1.sub)<|oD (dC M.parts)<|oD (dE M.rl)<|oD (dI M.own)<|oD (dI M.args)<|oD (dE M.l)<|oB 2 h92 k))
  obtain rfl:=sj h
  exact k202 (tF q202 4 [0,1,2] (oD (dT p1.sub)<|oD (dC M.parts)<|oD (dE M.rl)<|oD (dI M.own)<|oD (dI M.args)<|oD (dE M.l)<|oB 1 h82 k))
  intro M p1 p2 fl fu r h
  rw[e272]at h
  obtain⟨x1,h2,h⟩:=obind h
  have k:=oA 2 (ix22 (o:=.no) h2) o0
  rcases spl h with⟨h3,h⟩|⟨h3,h⟩
  obtain rfl:=sj h
  exact k272 (tF q272 1 [0,1,2] (oD (dT ([]:List Tm))<|oD (dC M.parts)<|oD (dE M.rl)<|oD (dI M.own)<|oD (dI M.args)<|oD (dE M.l)<|oB 2 h3 k))
  obtain⟨x4,h5,h⟩:=obind h
  obtain⟨r6,h7,h⟩:=obind h
  have k:=oC 1 [0,1,2] (ih138 _ _ _ _ _ h7)<|oA 0 (ix23 (o:=.no) h5)<|oB 2 h3 k
  rcases spl h with⟨h8,h⟩|⟨h8,h⟩
  obtain rfl:=sj h
  exact k272 (tF q272 1 [0,1,2] (oD (dT ([]:List Tm))<|oD (dC M.parts)<|oD (dE M.rl)<|oD (dI M.own)<|oD (dI M.args)<|oD (dE M.l)<|oB 3 h8 k))
  obtain⟨r9,h10,h⟩:=obind h
  have k:=oC 1 [0,1] (c230 h10)<|oB 3 h8 k
  rcases spl h with⟨h11,h⟩|⟨h11,h⟩
  obtain⟨x12,h13,h⟩:=obind h
  have k:=oA 3 (ix22 (o:=.no) h2)<|oA 2 (ix22 (o:=.no) h13)<|oB 2 h11 k
  rcases spl h with⟨h14,h⟩|⟨h14,h⟩
  obtain rfl:=sj h
  exact k272 (tF q272 1 [0,1,2] (oD (dT ([]:List Tm))<|oD (dC M.parts)<|oD (dE M.rl)<|oD (dI M.own)<|oD (dI M.args)<|oD (dE M.l)<|oB 1 h14 k))
  obtain⟨x15,h16,h⟩:=obind h
  obtain⟨r17,h18,h⟩:=obind h
  obtain⟨x19,h20,h⟩:=obind h
  obtain⟨r21,h22,h⟩:=obind h
  obtain rfl:=sj h
  exact k272 (tF q272 1 [0,1,2] (oD (dT r21.sub)<|oD (dC M.parts)<|oD (dE M.rl)<|oD (dI M.own)<|oD (dI M.args)<|oD (dE M.l)<|oC 0 [] (c151 h22)<|oA 5 (slFrom23 h20)<|oC 0 [1] (c314 h18)<|oA 1 (slFrom23 h16)<|oA 3 (ix22 (o:=.no) h13)<|oB 1 h14 k))
  obtain rfl:=sj h
  exact k272 (tF q272 2 [0,1,2] (oD (dT ([]:List Tm))<|oD (dC M.parts)<|oD (dE M.rl)<|oD (dI M.own)<|oD (dI M.args)<|oD (dE M.l)<|oB 2 h11 k))
  intro M p1 p2 fl fu r h
  rw[e273]at h
  rcases spl h with⟨h1,h⟩|⟨h1,h⟩
  obtain rfl:=sj h
  exact k273 (tF q273 1 [0,1,2] (oD (dT ([]:List Tm))<|oD (dC M.parts)<|oD (dE M.rl)<|oD (dI M.own)<|oD (dI M.args)<|oD (dE M.l)<|oB 3 h1 o0))
  obtain⟨x2,h3,h⟩:=obind h
  have k:=oA 2 (ix22 (o:=.no) h3)<|oB 3 h1 o0
  rcases spl h with⟨h4,h⟩|⟨h4,h⟩
  obtain rfl:=sj h
  exact k273 (tF q273 1 [0,1,2] (oD (dT ([]:List Tm))<|oD (dC M.parts)<|oD (dE M.rl)<|oD (dI M.own)<|oD (dI M.args)<|oD (dE M.l)<|oB 1 h4 k))
  obtain⟨x5,h6,h⟩:=obind h
  have k:=oA 3 (ix41 (o:=.no) h6)<|oB 1 h4 k
  rcases spl h with⟨h7,h⟩|⟨h7,h⟩
  obtain rfl:=sj h
  exact k273 (tF q273 1 [0,1,2] (oD (dT ([]:List Tm))<|oD (dC M.parts)<|oD (dE M.rl)<|oD (dI M.own)<|oD (dI M.args)<|oD (dE M.l)<|oB 1 h7 k))
  obtain⟨x8,h9,h⟩:=obind h
  obtain⟨r10,h11,h⟩:=obind h
  have k:=oC 1 [0,1,2] (ih138 _ _ _ _ _ h11)<|oA 2 (ix23 (o:=.no) h9)<|oA 2 (ix41 (o:=.no) h6)<|oB 1 h7 k
  rcases spl h with⟨h12,h⟩|⟨h12,h⟩
  obtain rfl:=sj h
  exact k273 (tF q273 1 [0,1,2] (oD (dT ([]:List Tm))<|oD (dC M.parts)<|oD (dE M.rl)<|oD (dI M.own)<|oD (dI M.args)<|oD (dE M.l)<|oB 3 h12 k))
  obtain⟨r13,h14,h⟩:=obind h
  have k:=oC 1 [0,1] (c230 h14)<|oB 3 h12 k
  rcases spl h with⟨h15,h⟩|⟨h15,h⟩
  obtain⟨x16,h17,h⟩:=obind h
  have k:=oA 2 (ix22 (o:=.no) h17)<|oB 2 h15 k
  rcases spl h with⟨h18,h⟩|⟨h18,h⟩
  obtain rfl:=sj h
  exact k273 (tF q273 1 [0,1,2] (oD (dT ([]:List Tm))<|oD (dC M.parts)<|oD (dE M.rl)<|oD (dI M.own)<|oD (dI M.args)<|oD (dE M.l)<|oB 2 h18 k))
  obtain⟨x19,h20,h⟩:=obind h
  obtain⟨x21,h22,h⟩:=obind h
  obtain⟨x23,h24,h⟩:=obind h
  obtain⟨r25,h26,h⟩:=obind h
  obtain⟨x27,h28,h⟩:=obind h
  obtain⟨r29,h30,h⟩:=obind h
  obtain rfl:=sj h
  exact k273 (tF q273 1 [0,1,2] (oD (dT r29.sub)<|oD (dC M.parts)<|oD (dE M.rl)<|oD (dI M.own)<|oD (dI M.args)<|oD (dE M.l)<|oC 0 [] (c151 h30)<|oA 4 (slFrom23 h28)<|oC 0 [1] (c84 h26)<|oA 1 (slFrom23 h24)<|oA 6 (slTo23 h22)<|oA 5 (ix23 (o:=.no) h20)<|oA 2 (ix22 (o:=.no) h3)<|oB 2 h18 k))
  obtain rfl:=sj h
  exact k273 (tF q273 2 [0,1,2] (oD (dT ([]:List Tm))<|oD (dC M.parts)<|oD (dE M.rl)<|oD (dI M.own)<|oD (dI M.args)<|oD (dE M.l)<|oB 2 h15 k))
theorem c138{qq M p1 fl fu r}(h:e138 qq M p1 fl fu=some r):K138 M p1 fl fu r Ct:=(a138_138Lbu_202_272_273 _).1 _ _ _ _ _ h
theorem machT_l(l:List Ent):(machT l).l=l:=rfl
def e137(qq:Nat)(M:Mach)(p1:Tm):Option (Bool):=
 e107 qq p1 1048577 (List.length M.l:Int)>>=fun r1=>
 some r1
abbrev K137 (M:Mach) (p1:Tm) (r:Bool) (C:Cf):Prop:=C 137 [mB M 1,mR M] [.mp 0 0,tmA p1] (ab r) [mB M 1,mR M] 0
theorem q137:Qf 137 Tryz.f137:=⟨Tryz.func137,by kernel_rfl⟩
theorem k137{M p1 r}(h:K137 M p1 r Ci):K137 M p1 r Ct:=⟨h,⟨(lz rfl),⟨tv,tv,⟨tv,dT _⟩,tv⟩,tv⟩,(forall_cons ⟨⟨tv,dE _⟩,(lz rfl),⟨tv,dI _⟩,⟨tv,dI _⟩,tv⟩ (forall_cons ⟨⟨tv,dE _⟩,⟨tv,dC _⟩,tv⟩ forall_nil)),tv,(forall_cons ⟨dE _,(lz rfl),dI _,dI _,tv⟩ (forall_cons ⟨dE _,dC _,tv⟩ forall_nil))⟩
theorem c137{qq M p1 r}(h:e137 qq M p1=some r):K137 M p1 r Ct:=by
 unfold e137 at h
 obtain⟨r1,h2,h⟩:=obind h
 obtain rfl:=sj h
 exact k137 (tF q137 0 [0,1] (oD (dC M.parts)<|oD (dE M.rl)<|oD (dI M.own)<|oD (dI M.args)<|oD (dE M.l)<|oC 4 [] (c107 h2) o0))
def e69(qq:Nat)(M:Mach)(p1:Tm)(fl fu:Int):Option (Tm×Int×Int×Int):=
 e137 qq M p1>>=fun r1=>
 if r1 then
 e138 qq M p1 fl fu>>=fun r4=>
 if r4.2.1 != 0 then
 some ((Tm.mk 0 0 []),r4.2.1,r4.2.2.1,r4.2.2.2)
 else
 e123 qq r4.1>>=fun r7=>
 some (r7,0,r4.2.2.1,r4.2.2.2)
 else
 some ((Tm.mk 0 0 []),5,fl,fu)
abbrev K69 (M:Mach) (p1:Tm) (fl fu:Int) (r:Tm×Int×Int×Int) (C:Cf):Prop:=C 69 [mB M 1,mR M,.cells [ai fl,ai fu]] [.mp 0 0,tmA p1,.mp 2 0] (.tup [tmA r.1,ai r.2.1]) [mB M 1,mR M,.cells [ai r.2.2.1,ai r.2.2.2]] 0
theorem q69:Qf 69 Tryz.f69:=⟨Tryz.func69,by kernel_rfl⟩
theorem k69{M p1 fl fu r}(h:K69 M p1 fl fu r Ci):K69 M p1 fl fu r Ct:=⟨h,⟨(lz rfl),⟨tv,tv,⟨tv,dT _⟩,tv⟩,(lz rfl),tv⟩,(forall_cons ⟨⟨tv,dE _⟩,(lz rfl),⟨tv,dI _⟩,⟨tv,dI _⟩,tv⟩ (forall_cons ⟨⟨tv,dE _⟩,⟨tv,dC _⟩,tv⟩ (forall_cons ⟨tv,tv,tv⟩ forall_nil))),⟨⟨tv,tv,dT _,tv⟩,tv,tv⟩,(forall_cons ⟨dE _,(lz rfl),dI _,dI _,tv⟩ (forall_cons ⟨dE _,dC _,tv⟩ (forall_cons ⟨tv,tv,tv⟩ forall_nil)))⟩
theorem c69{qq M p1 fl fu r}(h:e69 qq M p1 fl fu=some r):K69 M p1 fl fu r Ct:=by
 unfold e69 at h
 obtain⟨r1,h2,h⟩:=obind h
 rcases spl h with⟨h3,h⟩|⟨h3,h⟩
 obtain⟨r4,h5,h⟩:=obind h
 have k:=oC 2 [0,1,2] (c138 h5)<|oK 1 [0,1] h3 (c137 h2) o0
 rcases spl h with⟨h6,h⟩|⟨h6,h⟩
 obtain rfl:=sj h
 exact k69 (tF q69 1 [0,1,2] (oD (dT ([]:List Tm))<|oD (dC M.parts)<|oD (dE M.rl)<|oD (dI M.own)<|oD (dI M.args)<|oD (dE M.l)<|oB 3 h6 k))
 obtain⟨r7,h8,h⟩:=obind h
 obtain rfl:=sj h
 exact k69 (tF q69 1 [0,1,2] (oD (dT r7.sub)<|oD (dC M.parts)<|oD (dE M.rl)<|oD (dI M.own)<|oD (dI M.args)<|oD (dE M.l)<|oC 1 [] (c123 h8)<|oB 3 h6 k))
 obtain rfl:=sj h
 exact k69 (tF q69 2 [0,1,2] (oD (dT ([]:List Tm))<|oD (dC M.parts)<|oD (dE M.rl)<|oD (dI M.own)<|oD (dI M.args)<|oD (dE M.l)<|oK 1 [0,1] h3 (c137 h2) o0))
def e66Lbv:Nat->(List Tm)->Int->Option (Int)
 |0,_,_=>none
 |qq+1,v3,v4=>
 if decide ((List.length v3:Int)>0)then
 if decide (v4≤8192)then
 gidx v3 (w64 ((List.length v3:Int)-1))>>=fun x3=>
 gsl v3 0 (w64 ((List.length v3:Int)-1))>>=fun x5=>
 gapp 40 ([]:List Tm) x5>>=fun l7=>
 gsl x3.sub 0 (imin (List.length x3.sub:Int) 8193)>>=fun x10=>
 gapp 40 l7 x10>>=fun l12=>
 e66Lbv qq l12 (w64 (v4+1))
 else
 some v4
 else
 some v4
def e66(qq:Nat)(p0:Tm):Option (Int):=
 e66Lbv qq [p0] 0
def g66LbvE0(j:Nat->Value)(v3:List Tm)(v4:Int):=sp j 39 0 [(3,slv tmCells v3 .full),(4,ai v4)]
def g66LbvS0(v3:List Tm)(v4:Int):LSt:=⟨[],0,[],0,[]⟩
def g66LbvE1(j:Nat->Value)(v3:List Tm)(v4:Int):=sp j 39 0 [(3,slv tmCells v3 (.st 0 3)),(4,ai v4)]
def g66LbvS1(v3:List Tm)(v4:Int):LSt:=⟨[],0,[0],1,[]⟩
abbrev K66 (p0:Tm) (r:Int) (C:Cf):Prop:=C 66 [] [tmA p0] (ai r) [] 0
theorem q66:Qf 66 Tryz.f66:=⟨Tryz.func66,by kernel_rfl⟩
theorem k66{p0 r}(h:K66 p0 r Ci):K66 p0 r Ct:=⟨h,⟨⟨tv,tv,⟨tv,dT _⟩,tv⟩,tv⟩,forall_nil,tv,forall_nil⟩
theorem l66Lbv:∀qq:Nat,(∀v3 v4 r,e66Lbv qq v3 v4=some r->(∀j,Dl Tryz.prog 0 (inn (inn (lft (rgt (rgt (rgt (bod Tryz.f66))))))) (g66LbvE0 j v3 v4) (g66LbvS0 v3 v4) (frameQ Tryz.prog 0 (FinQ Tryz.prog 0 Tryz.f66 (ai r) [] 0) [.blk 0,.seq (rgt (rgt (rgt (rgt (bod Tryz.f66)))))]))∧(∀j,Dl Tryz.prog 0 (inn (inn (lft (rgt (rgt (rgt (bod Tryz.f66))))))) (g66LbvE1 j v3 v4) (g66LbvS1 v3 v4) (frameQ Tryz.prog 0 (FinQ Tryz.prog 0 Tryz.f66 (ai r) [] 0) [.blk 0,.seq (rgt (rgt (rgt (rgt (bod Tryz.f66)))))]))):=by
 intro qq
 induction qq with
 |zero=>
  exact fun _ _ _ h=>nn h
 |succ qq ih=>
  intro v3 v4 r h
  rw[e66Lbv]at h
  refine⟨?_,?_⟩
  rcases spl h with⟨h1,h⟩|⟨h1,h⟩
  have k:=oB 1 h1 o0
  rcases spl h with⟨h2,h⟩|⟨h2,h⟩
  obtain⟨x3,h4,h⟩:=obind h
  obtain⟨x5,h6,h⟩:=obind h
  obtain⟨l7,h8,h⟩:=obind h
  have k:=oF 5 (slToO23 (o:=.full) h6)<|oA 2 (ix23 (o:=.full) h4)<|oB 0 h2 k
  by_cases h9:List.length x5=0
  obtain⟨x10,h11,h⟩:=obind h
  obtain⟨l12,h13,h⟩:=obind h
  have k:=oA 4 (slTo23 h11)<|oP 0 (apN23 h8 h9) k
  by_cases h14:List.length x10=0
  exact fun j=>lH 1 [] [] [] [3,4] (oD (dT l12)<|oP 0 (apN23 h13 h14) k) ((ih _ _ _ h).1)
  exact fun j=>lH 1 [] [] [0] [3,4] (oD (dT l12)<|oP 0 (apS23 h13 h14) k) ((ih _ _ _ h).2)
  obtain⟨x10,h11,h⟩:=obind h
  obtain⟨l12,h13,h⟩:=obind h
  have k:=oA 4 (slTo23 h11)<|oP 0 (apS23 h8 h9) k
  by_cases h14:List.length x10=0
  exact fun j=>lH 1 [] [] [0] [3,4] (oD (dT l12)<|oP 0 (apN23 h13 h14) k) ((ih _ _ _ h).2)
  exact fun j=>lH 1 [] [] [1] [3,4] (oD (dT l12)<|oP 0 (apS23 h13 h14) k) ((ih _ _ _ h).2)
  obtain rfl:=sj h
  exact fun j=>lF 0 [] (oB 0 h2 k)
  obtain rfl:=sj h
  exact fun j=>lF 0 [] (oB 1 h1 o0)
  rcases spl h with⟨h1,h⟩|⟨h1,h⟩
  have k:=oB 1 h1 o0
  rcases spl h with⟨h2,h⟩|⟨h2,h⟩
  obtain⟨x3,h4,h⟩:=obind h
  obtain⟨x5,h6,h⟩:=obind h
  obtain⟨l7,h8,h⟩:=obind h
  have k:=oF 5 (slToO23 (o:=(.st 0 3)) h6)<|oA 2 (ix23 (o:=(.st 0 3)) h4)<|oB 0 h2 k
  by_cases h9:List.length x5=0
  obtain⟨x10,h11,h⟩:=obind h
  obtain⟨l12,h13,h⟩:=obind h
  have k:=oA 4 (slTo23 h11)<|oP 0 (apN23 h8 h9) k
  by_cases h14:List.length x10=0
  exact fun j=>lH 1 [] [] [] [3,4] (oD (dT l12)<|oP 0 (apN23 h13 h14) k) ((ih _ _ _ h).1)
  exact fun j=>lH 1 [] [] [1] [3,4] (oD (dT l12)<|oP 0 (apS23 h13 h14) k) ((ih _ _ _ h).2)
  obtain⟨x10,h11,h⟩:=obind h
  obtain⟨l12,h13,h⟩:=obind h
  have k:=oA 4 (slTo23 h11)<|oP 0 (apS23 h8 h9) k
  by_cases h14:List.length x10=0
  exact fun j=>lH 1 [] [] [1] [3,4] (oD (dT l12)<|oP 0 (apN23 h13 h14) k) ((ih _ _ _ h).2)
  exact fun j=>lH 1 [] [] [2] [3,4] (oD (dT l12)<|oP 0 (apS23 h13 h14) k) ((ih _ _ _ h).2)
  obtain rfl:=sj h
  exact fun j=>lF 0 [] (oB 0 h2 k)
  obtain rfl:=sj h
  exact fun j=>lF 0 [] (oB 1 h1 o0)
theorem c66{qq p0 r}(h:e66 qq p0=some r):K66 p0 r Ct:=by
 unfold e66 at h
 exact k66 (tH q66 0 [] [] [] [3,4] (oD (dT [p0])<|oS 1 (obLitR tm_eq [p0]) o0) ((l66Lbv _ _ _ _ h).1))
mutual
def e19Lbw:Nat->(List Tm)->Int->Option (Int)
 |0,_,_=>none
 |qq+1,v3,v4=>
 if decide ((List.length v3:Int)>0)then
 if decide (v4<129)then
 e19Lbx qq v3 v4 [] 0
 else
 some v4
 else
 some v4
def e19Lbx:Nat->(List Tm)->Int->(List Tm)->Int->Option (Int)
 |0,_,_,_,_=>none
 |qq+1,v3,v4,v5,v6=>
 if decide (v6<(List.length v3:Int))then
 gidx v3 v6>>=fun x7=>
 gapp 40 v5 x7.sub>>=fun l9=>
 e19Lbx qq v3 v4 l9 (w64 (v6+1))
 else
 e19Lbw qq v5 (w64 (v4+1))
end
def e19(qq:Nat)(p0:Tm):Option (Int):=
 e66 qq p0>>=fun r1=>
 if decide (r1>8192)then
 some 129
 else
 e19Lbw qq [p0] 0
def g19LbwE0(j:Nat->Value)(v3:List Tm)(v4:Int):=sp j 37 0 [(3,slv tmCells v3 .full),(4,ai v4)]
def g19LbwS0(v3:List Tm)(v4:Int):LSt:=⟨[],0,[],0,[]⟩
def g19LbwE1(j:Nat->Value)(v3:List Tm)(v4:Int):=sp j 37 0 [(3,slv tmCells v3 (.st 0 3)),(4,ai v4)]
def g19LbwS1(v3:List Tm)(v4:Int):LSt:=⟨[],0,[0],1,[]⟩
def g19LbxE0(j:Nat->Value)(v3:List Tm)(v4:Int)(v5:List Tm)(v6:Int):=sp j 37 0 [(3,slv tmCells v3 .full),(4,ai v4),(5,slv tmCells v5 (.st 0 3)),(6,ai v6)]
def g19LbxS0(v3:List Tm)(v4:Int)(v5:List Tm)(v6:Int):LSt:=⟨[],0,[0],1,[]⟩
def g19LbxE1(j:Nat->Value)(v3:List Tm)(v4:Int)(v5:List Tm)(v6:Int):=sp j 37 0 [(3,slv tmCells v3 (.st 0 3)),(4,ai v4),(5,slv tmCells v5 (.st 1 3)),(6,ai v6)]
def g19LbxS1(v3:List Tm)(v4:Int)(v5:List Tm)(v6:Int):LSt:=⟨[],0,[0,1],2,[]⟩
abbrev K19 (p0:Tm) (r:Int) (C:Cf):Prop:=C 19 [] [tmA p0] (ai r) [] 0
theorem q19:Qf 19 Tryz.f19:=⟨Tryz.func19,by kernel_rfl⟩
theorem k19{p0 r}(h:K19 p0 r Ci):K19 p0 r Ct:=⟨h,⟨⟨tv,tv,⟨tv,dT _⟩,tv⟩,tv⟩,forall_nil,tv,forall_nil⟩
theorem a19Lbw_19Lbx:∀qq:Nat,(∀v3 v4 r,e19Lbw qq v3 v4=some r->(∀j,Dl Tryz.prog 0 (inn (inn (lft (rgt (rgt (rgt (rgt (bod Tryz.f19)))))))) (g19LbwE0 j v3 v4) (g19LbwS0 v3 v4) (frameQ Tryz.prog 0 (FinQ Tryz.prog 0 Tryz.f19 (ai r) [] 0) [.blk 0,.seq (rgt (rgt (rgt (rgt (rgt (bod Tryz.f19))))))]))∧(∀j,Dl Tryz.prog 0 (inn (inn (lft (rgt (rgt (rgt (rgt (bod Tryz.f19)))))))) (g19LbwE1 j v3 v4) (g19LbwS1 v3 v4) (frameQ Tryz.prog 0 (FinQ Tryz.prog 0 Tryz.f19 (ai r) [] 0) [.blk 0,.seq (rgt (rgt (rgt (rgt (rgt (bod Tryz.f19))))))])))∧(∀v3 v4 v5 v6 r,e19Lbx qq v3 v4 v5 v6=some r->(∀j,Dl Tryz.prog 0 (inn (inn (rgt (lft (rgt (inn (rgt (inn (inn (lft (rgt (rgt (rgt (rgt (bod Tryz.f19))))))))))))))) (g19LbxE0 j v3 v4 v5 v6) (g19LbxS0 v3 v4 v5 v6) (frameQ Tryz.prog 0 (FinQ Tryz.prog 0 Tryz.f19 (ai r) [] 0) [.blk 2,.seq (rgt (rgt (inn (rgt (inn (inn (lft (rgt (rgt (rgt (rgt (bod Tryz.f19)))))))))))),.blk 1,.loop (inn (inn (lft (rgt (rgt (rgt (rgt (bod Tryz.f19)))))))),.blk 0,.seq (rgt (rgt (rgt (rgt (rgt (bod Tryz.f19))))))]))∧(∀j,Dl Tryz.prog 0 (inn (inn (rgt (lft (rgt (inn (rgt (inn (inn (lft (rgt (rgt (rgt (rgt (bod Tryz.f19))))))))))))))) (g19LbxE1 j v3 v4 v5 v6) (g19LbxS1 v3 v4 v5 v6) (frameQ Tryz.prog 0 (FinQ Tryz.prog 0 Tryz.f19 (ai r) [] 0) [.blk 2,.seq (rgt (rgt (inn (rgt (inn (inn (lft (rgt (rgt (rgt (rgt (bod Tryz.f19)))))))))))),.blk 1,.loop (inn (inn (lft (rgt (rgt (rgt (rgt (bod Tryz.f19)))))))),.blk 0,.seq (rgt (rgt (rgt (rgt (rgt (bod Tryz.f19))))))]))):=by
 intro qq
 induction qq with
 |zero=>
  exact⟨fun _ _ _ h=>nn h,fun _ _ _ _ _ h=>nn h⟩
 |succ qq ih=>
  obtain⟨ih19Lbw,ih19Lbx⟩:=ih
  refine⟨?_,?_⟩
  intro v3 v4 r h
  rw[e19Lbw]at h
  refine⟨?_,?_⟩
  rcases spl h with⟨h4,h⟩|⟨h4,h⟩
  have k:=oB 1 h4 o0
  rcases spl h with⟨h5,h⟩|⟨h5,h⟩
  exact fun j=>lH 1 [(none,5,3)] [] [0] [3,4,5,6] (oD (dT ([]:List Tm))<|oD (dT v3)<|oB 0 h5 k) ((ih19Lbx _ _ _ _ _ h).1)
  obtain rfl:=sj h
  exact fun j=>lF 0 [] (oB 0 h5 k)
  obtain rfl:=sj h
  exact fun j=>lF 0 [] (oB 1 h4 o0)
  rcases spl h with⟨h4,h⟩|⟨h4,h⟩
  have k:=oB 1 h4 o0
  rcases spl h with⟨h5,h⟩|⟨h5,h⟩
  exact fun j=>lH 1 [(none,5,3)] [] [0,1] [3,4,5,6] (oD (dT ([]:List Tm))<|oD (dT v3)<|oB 0 h5 k) ((ih19Lbx _ _ _ _ _ h).2)
  obtain rfl:=sj h
  exact fun j=>lF 0 [] (oB 0 h5 k)
  obtain rfl:=sj h
  exact fun j=>lF 0 [] (oB 1 h4 o0)
  intro v3 v4 v5 v6 r h
  rw[e19Lbx]at h
  refine⟨?_,?_⟩
  rcases spl h with⟨h6,h⟩|⟨h6,h⟩
  obtain⟨x7,h8,h⟩:=obind h
  obtain⟨l9,h10,h⟩:=obind h
  have k:=oA 0 (ix23 (o:=.full) h8)<|oB 1 h6 o0
  by_cases h11:List.length x7.sub=0
  exact fun j=>lH 1 [] [] [0] [3,4,5,6] (oD (dT l9)<|oD (dT v3)<|oP 1 (apN23 h10 h11) k) ((ih19Lbx _ _ _ _ _ h).1)
  exact fun j=>lH 1 [] [] [1] [3,4,5,6] (oD (dT l9)<|oD (dT v3)<|oP 1 (apS23 h10 h11) k) ((ih19Lbx _ _ _ _ _ h).1)
  exact fun j=>lH 1 [] [] [0] [3,4] (oD (dT v5)<|oB 1 h6 o0) ((ih19Lbw _ _ _ h).2)
  rcases spl h with⟨h6,h⟩|⟨h6,h⟩
  obtain⟨x7,h8,h⟩:=obind h
  obtain⟨l9,h10,h⟩:=obind h
  have k:=oA 0 (ix23 (o:=(.st 0 3)) h8)<|oB 1 h6 o0
  by_cases h11:List.length x7.sub=0
  exact fun j=>lH 1 [] [] [0,1] [3,4,5,6] (oD (dT l9)<|oD (dT v3)<|oP 1 (apN23 h10 h11) k) ((ih19Lbx _ _ _ _ _ h).2)
  exact fun j=>lH 1 [] [] [0,2] [3,4,5,6] (oD (dT l9)<|oD (dT v3)<|oP 1 (apS23 h10 h11) k) ((ih19Lbx _ _ _ _ _ h).2)
  exact fun j=>lH 1 [] [] [1] [3,4] (oD (dT v5)<|oB 1 h6 o0) ((ih19Lbw _ _ _ h).2)
theorem c19{qq p0 r}(h:e19 qq p0=some r):K19 p0 r Ct:=by
 unfold e19 at h
 obtain⟨r1,h2,h⟩:=obind h
 have k:=oC 1 [] (c66 h2) o0
 rcases spl h with⟨h3,h⟩|⟨h3,h⟩
 obtain rfl:=sj h
 exact k19 (tF q19 0 [] (oB 0 h3 k))
 exact k19 (tH q19 0 [] [] [] [3,4] (oD (dT [p0])<|oS 1 (obLitR tm_eq [p0])<|oB 0 h3 k) ((((a19Lbw_19Lbx _).1) _ _ _ h).1))
theorem nodesL_app:∀a b:List Tm,nodesL (a++b)=nodesL a+nodesL b
 | [],b=>by simp[nodesL]
 |t::a,b=>by simp only[List.cons_append,nodesL,nodesL_app a b];omega
theorem nodesL_len:∀l:List Tm,l.length≤nodesL l
 | []=>by simp[nodesL]
 |t::l=>by rw[nodesL];have:=nodesL_len l;have:=nodes_pos t;simp;omega
theorem nodes_sub(t:Tm):t.nodes=1+nodesL t.sub:=by cases t;rw[Tm.nodes,Tm.sub]
theorem high_sub(t:Tm):t.high=1+highL t.sub:=by cases t;rw[Tm.high,Tm.sub]
theorem highL_app:∀a b:List Tm,highL (a++b)=max (highL a) (highL b)
 | [],b=>by simp[highL]
 |t::a,b=>by simp only[List.cons_append,highL,highL_app a b];omega
theorem gsl_ok{α:Type}{l:List α}{a b:Nat}(h1:a≤b)(h2:b≤l.length):gsl l (a:Int) (b:Int)=some ((l.drop a).take (b-a)):=by
 unfold gsl
 rw[if_pos (by omega),show ((b:Int)-(a:Int)).toNat=b-a by omega,show (a:Int).toNat=a by omega]
theorem gidx_last{α:Type}(l:List α)(x:α):gidx (l++[x]) (l.length:Int)=some x:=by
 unfold gidx
 rw[if_pos (by omega)];simp
theorem ev_rSizeL:∀(m h:Nat) (todo:List Tm),h+m=8193->todo.length≤1+h*8193->Evt (fun q=>e66Lbv q todo (h:Int)) ((min (h+nodesL todo) 8193:Nat):Int):=by
 intro m
 induction m with
 |zero=>
  intro h todo hm hl
  refine Evt.succ ?_
  simp only[e66Lbv]
  have:h=8193:=by omega
  subst this
  rcases todo with _|⟨x,todo⟩
  ·exact Evt.ifF (by simp) (Evt.ret.eq (by simp))
  ·refine Evt.ifT (by simp<;>omega) (Evt.ifF (by simp) (Evt.ret.eq ?_))
   have:min (8193+nodesL (x::todo)) 8193=8193:=by omega
   rw[this]
 |succ m ih=>
  intro h todo hm hl
  refine Evt.succ ?_
  simp only[e66Lbv]
  rcases List.eq_nil_or_concat todo with rfl|⟨ini,x,rfl⟩
  ·refine Evt.ifF (by simp) (Evt.ret.eq ?_)
   have:min (h+nodesL []) 8193=h:=by rw[nodesL];omega
   rw[this]
  ·simp only[List.concat_eq_append]at hl ⊢
   have hlen:(ini++[x]).length=ini.length+1:=by simp
   have hb:h*8193≤8192*8193:=Nat.mul_le_mul_right _ (by omega)
   have e1:w64 (((ini++[x]).length:Int)-1)=(ini.length:Int):=by rw[w64_id (by omega) (by omega),hlen];omega
   refine Evt.ifT (by simp<;>omega) (Evt.ifT (by simp<;>omega) ?_)
   rw[e1]
   refine Evt.pure (gidx_last ini x) ?_
   have e2:gsl (ini++[x]) 0 (ini.length:Int)=some ini:=by
    have:=gsl_ok (l:=ini++[x]) (a:=0) (b:=ini.length) (by omega) (by omega)
    simpa using this
   refine Evt.pure e2 (Evt.pure (gapp_ok (by simp<;>omega)) ?_)
   have e3:imin (x.sub.length:Int) 8193=((min x.sub.length 8193:Nat):Int):=by unfold imin;split<;>omega
   rw[e3]
   have e4:=gsl_ok (l:=x.sub) (a:=0) (b:=min x.sub.length 8193) (by omega) (by omega)
   refine Evt.pure (by simpa using e4) (Evt.pure (gapp_ok (by simp<;>omega)) ?_)
   rw[w64_nat h (by omega)]
   refine(ih (h+1) _ (by omega) (by simp<;>omega)).eq ?_
   have hn:=nodes_sub x
   simp only[List.nil_append,nodesL_app,nodesL,Nat.add_zero]
   by_cases hs:x.sub.length≤8193
   ·rw[show min x.sub.length 8193=x.sub.length by omega,List.take_length]
    omega
   ·have h1:=nodesL_len (x.sub.take (min x.sub.length 8193))
    have h2:=nodesL_len x.sub
    simp only[List.length_take]at h1
    omega
theorem ev_rSize(t:Tm):Evt (fun q=>e66 q t) ((min t.nodes 8193:Nat):Int):=by
 simp only[e66]
 refine(ev_rSizeL 8193 0 [t] (by omega) (by simp)).eq ?_
 simp[nodesL]
theorem flat_high:∀l:List Tm,l≠[]->highL l=1+highL (l.flatMap Tm.sub)
 | [t],_=>by simp[highL,high_sub t]
 |t::u::l,_=>by
  have h1:=flat_high (u::l) (by simp)
  have h2:(t::u::l).flatMap Tm.sub=t.sub++(u::l).flatMap Tm.sub:=rfl
  rw[highL,h1,h2,highL_app,high_sub t];omega
theorem flat_nodes:∀l:List Tm,nodesL l=l.length+nodesL (l.flatMap Tm.sub)
 | []=>by simp[nodesL]
 |t::l=>by rw[nodesL,List.flatMap_cons,nodesL_app,flat_nodes l,nodes_sub t];simp;omega
theorem ev_rDepthL:∀(m d:Nat) (l:List Tm),d+m=129->nodesL l≤8192->Evt (fun q=>e19Lbw q l (d:Int)) ((min (d+highL l) 129:Nat):Int):=by
 intro m
 induction m with
 |zero=>
  intro d l hm hl
  refine Evt.succ ?_
  simp only[e19Lbw]
  have:d=129:=by omega
  subst this
  rcases l with _|⟨x,l⟩
  ·exact Evt.ifF (by simp) (Evt.ret.eq (by simp))
  ·refine Evt.ifT (by simp<;>omega) (Evt.ifF (by simp) (Evt.ret.eq ?_))
   have:min (129+highL (x::l)) 129=129:=by omega
   rw[this]
 |succ m ih=>
  intro d l hm hl
  refine Evt.succ ?_
  simp only[e19Lbw]
  by_cases h:l=[]
  ·subst h
   refine Evt.ifF (by simp) (Evt.ret.eq ?_)
   have:min (d+highL []) 129=d:=by rw[highL];omega
   rw[this]
  ·have hpos:0<l.length:=List.length_pos_iff.2 h
   refine Evt.ifT (by simp<;>omega) (Evt.ifT (by simp<;>omega) ?_)
   have hfn:=flat_nodes l
   have key:∀(r:List Tm) (v:Nat) (acc:List Tm),l.drop v=r->acc.length+nodesL (r.flatMap Tm.sub)≤8192->Evt (fun q=>e19Lbx q l (d:Int) acc (v:Int)) ((min (d+1+highL (acc++r.flatMap Tm.sub)) 129:Nat):Int)∨nodesL (acc++r.flatMap Tm.sub)>8192:=by
    intro r
    induction r with
    |nil=>
     intro v acc hd ha
     by_cases hn:nodesL acc≤8192
     ·refine .inl (Evt.succ ?_)
      simp only[e19Lbx]
      refine Evt.ifF (drop_nil hd) ?_
      rw[w64_nat d (by omega)]
      refine(ih (d+1) acc (by omega) hn).eq (by simp)
     ·exact .inr (by simp<;>omega)
    |cons x r ihr=>
     intro v acc hd ha
     have hlt:=drop_lt hd
     have hll:=nodesL_len l
     have hsl:=nodesL_len x.sub
     rw[List.flatMap_cons,nodesL_app]at ha
     rcases ihr (v+1) (acc++x.sub) (drop_next hd) (by simp<;>omega)with h1|h1
     ·refine .inl (Evt.succ ?_)
      simp only[e19Lbx]
      refine Evt.ifT (drop_dec hd) (Evt.pure (drop_idx hd) (Evt.pure (gapp_ok (by omega)) ?_))
      rw[w64_nat v (by omega)]
      refine h1.eq ?_
      rw[List.flatMap_cons,List.append_assoc]
     ·refine .inr ?_
      rw[List.flatMap_cons,←List.append_assoc];exact h1
   rcases key l 0 [] rfl (by simp<;>omega)with h1|h1
   ·refine h1.eq ?_
    rw[flat_high l h];simp;omega
   ·simp only[List.nil_append]at h1;omega
def rdepT(t:Tm):Int:=if t.nodes≤8192 then((min t.high 129:Nat):Int)else 129
theorem ev_rDepth(t:Tm):Evt (fun q=>e19 q t) (rdepT t):=by
 simp only[e19]
 refine(ev_rSize t).bind ?_
 unfold rdepT
 by_cases h:t.nodes≤8192
 ·rw[if_pos h]
  refine Evt.ifF (by simp<;>omega) ((ev_rDepthL 129 0 [t] (by omega) (by simpa[nodesL]using h)).eq ?_)
  simp[highL]
 ·rw[if_neg h]
  exact Evt.ifT (by simp<;>omega) Evt.ret
theorem tailG{p:Tm}{c:Nat}{m:Int}{X:Nat->Option Bool}{r:Bool}(h:p.sub.length=c->0≤p.n->p.n≤m->Evt X r) :
  Evt (fun q=>if ((List.length p.sub:Int) != (c:Int))=true then some false else if decide (p.n<0)=true then some false else if decide (p.n>m)=true then some false else X q)
   (decide (p.sub.length=c)&&decide (0≤p.n)&&decide (p.n≤m)&&r):=by
 by_cases h1:p.sub.length=c
 ·refine Evt.ifF (by simp<;>omega) ?_
  by_cases h2:p.n<0
  ·exact Evt.ifT (by simpa using h2) (Evt.ret.eq (by simp<;>omega))
  ·refine Evt.ifF (by simpa using h2) ?_
   by_cases h3:p.n>m
   ·exact Evt.ifT (by simpa using h3) (Evt.ret.eq (by simp<;>omega))
   ·refine Evt.ifF (by simpa using h3) ((h h1 (by omega) (by omega)).eq ?_)
    simp[h1,show 0≤p.n by omega,show p.n≤m by omega]
 ·exact Evt.ifT (by simp<;>omega) (Evt.ret.eq (by simp[h1]))
def e105vabs(qq:Nat)(q0 q1 p1:Int):Option (Int):=
 some p1
abbrev K105vabs (q0 q1 p1 r:Int) (C:Cf):Prop:=C 105 [.cells [ai q0,ai q1]] [.mp 0 0,ai p1] (.tup []) [.cells [ai r,ai q1]] 0
theorem q105vabs:Qf 105 Tryz.f105:=⟨Tryz.func105,by kernel_rfl⟩
theorem k105vabs{q0 q1 p1 r}(h:K105vabs q0 q1 p1 r Ci):K105vabs q0 q1 p1 r Ct:=⟨h,⟨(lz rfl),tv,tv⟩,(forall_cons ⟨tv,tv,tv⟩ forall_nil),tv,(forall_cons ⟨tv,tv,tv⟩ forall_nil)⟩
theorem c105vabs{qq q0 q1 p1 r}(h:e105vabs qq q0 q1 p1=some r):K105vabs q0 q1 p1 r Ct:=by
 unfold e105vabs at h
 obtain rfl:=sj h
 exact k105vabs (tF q105vabs 1 [0] (o0))
def e45(qq:Nat)(p0:Int):Option ((Int) ⊕ (Int×Int×Int)):=
 if decide (p0<0)then
 some (Sum.inl 5)
 else
 if decide (p0>1048576)then
 some (Sum.inl 5)
 else
 e105vabs qq 0 0 p0>>=fun r3=>
 some (Sum.inr (0,r3,0))
abbrev K45s0 (p0 r:Int) (C:Cf):Prop:=C 45 [] [ai p0] (.tup [.val (.pointer none),ai r]) [] 0
abbrev K45s1 (p0:Int) (r:Int×Int×Int) (C:Cf):Prop:=C 45 [] [ai p0] (.tup [.mp 0 0,ai r.1]) [.cells [ai r.2.1,ai r.2.2]] 0
theorem q45:Qf 45 Tryz.f45:=⟨Tryz.func45,by kernel_rfl⟩
theorem k45s0{p0 r}(h:K45s0 p0 r Ci):K45s0 p0 r Ct:=⟨h,⟨tv,tv⟩,forall_nil,⟨tv,tv,tv⟩,forall_nil⟩
theorem k45s1{p0 r}(h:K45s1 p0 r Ci):K45s1 p0 r Ct:=⟨h,⟨tv,tv⟩,forall_nil,⟨(lz rfl),tv,tv⟩,(forall_cons ⟨tv,tv,tv⟩ forall_nil)⟩
theorem c45{qq p0 r}(h:e45 qq p0=some r):(match (generalizing:=false) r with|Sum.inl x=>K45s0 p0 x Ct|Sum.inr x=>K45s1 p0 x Ct):=by
 unfold e45 at h
 rcases spl h with⟨h1,h⟩|⟨h1,h⟩
 obtain rfl:=sj h
 exact k45s0 (tF q45 0 [] (oB 0 h1 o0))
 have k:=oB 0 h1 o0
 rcases spl h with⟨h2,h⟩|⟨h2,h⟩
 obtain rfl:=sj h
 exact k45s0 (tF q45 0 [] (oB 0 h2 k))
 obtain⟨r3,h4,h⟩:=obind h
 obtain rfl:=sj h
 exact k45s1 (tF q45 0 [0] (oC 0 [0] (c105vabs h4)<|oB 0 h2 k))
mutual
def e55:Nat->Tm->Tm->Option (Bool)
 |0,_,_=>none
 |qq+1,p0,p1=>
 if p0.k != p1.k then
 some false
 else
 if p0.n != p1.n then
 some false
 else
 if (List.length p0.sub:Int) != (List.length p1.sub:Int)then
 some false
 else
 e55Lby qq p0 p1 0
def e55Lby:Nat->Tm->Tm->Int->Option (Bool)
 |0,_,_,_=>none
 |qq+1,p0,p1,v5=>
 if decide (v5<(List.length p0.sub:Int))then
 gidx p0.sub v5>>=fun x5=>
 gidx p1.sub v5>>=fun x7=>
 e55 qq x5 x7>>=fun r9=>
 if r9 then
 e55Lby qq p0 p1 (w64 (v5+1))
 else
 some false
 else
 some true
end
def g55LbyE0(j:Nat->Value)(p0 p1:Tm)(v5:Int):=sp j 46 0 [(2,.mp 0 0),(3,.mp 1 0),(5,ai v5)]
def g55LbyS0(p0 p1:Tm)(v5:Int):LSt:=⟨[(0,.cells [ai p0.k,ai p0.n,slv tmCells p0.sub .no]),(1,.cells [ai p1.k,ai p1.n,slv tmCells p1.sub .no])],2,[],0,[]⟩
abbrev K55 (p0 p1:Tm) (r:Bool) (C:Cf):Prop:=C 55 [] [tmA p0,tmA p1] (ab r) [] 0
theorem q55:Qf 55 Tryz.f55:=⟨Tryz.func55,by kernel_rfl⟩
theorem k55{p0 p1 r}(h:K55 p0 p1 r Ci):K55 p0 p1 r Ct:=⟨h,⟨⟨tv,tv,⟨tv,dT _⟩,tv⟩,⟨tv,tv,⟨tv,dT _⟩,tv⟩,tv⟩,forall_nil,tv,forall_nil⟩
theorem a55_55Lby:∀qq:Nat,(∀p0 p1 r,e55 qq p0 p1=some r->K55 p0 p1 r Ct)∧(∀p0 p1 v5 r,e55Lby qq p0 p1 v5=some r->(∀j,Dl Tryz.prog 0 (inn (inn (rgt (lft (rgt (rgt (bod Tryz.f55))))))) (g55LbyE0 j p0 p1 v5) (g55LbyS0 p0 p1 v5) (frameQ Tryz.prog 0 (FinQ Tryz.prog 0 Tryz.f55 (ab r) [] 0) [.blk 0,.seq (rgt (rgt (rgt (bod Tryz.f55))))]))):=by
 intro qq
 induction qq with
 |zero=>
  exact⟨fun _ _ _ h=>nn h,fun _ _ _ _ h=>nn h⟩
 |succ qq ih=>
  obtain⟨ih55,ih55Lby⟩:=ih
  refine⟨?_,?_⟩
  intro p0 p1 r h
  rw[e55]at h
  rcases spl h with⟨h1,h⟩|⟨h1,h⟩
  obtain rfl:=sj h
  exact k55 (tF q55 0 [] (oB 2 h1 o0))
  have k:=oB 2 h1 o0
  rcases spl h with⟨h2,h⟩|⟨h2,h⟩
  obtain rfl:=sj h
  exact k55 (tF q55 0 [] (oB 2 h2 k))
  have k:=oB 2 h2 k
  rcases spl h with⟨h3,h⟩|⟨h3,h⟩
  obtain rfl:=sj h
  exact k55 (tF q55 0 [] (oB 4 h3 k))
  exact k55 (tH q55 0 [] [0,1] [] [2,3,5] (oD (dT p1.sub)<|oD (dT p0.sub)<|oB 4 h3 k) (ih55Lby _ _ _ _ h))
  intro p0 p1 v5 r h
  rw[e55Lby]at h
  rcases spl h with⟨h4,h⟩|⟨h4,h⟩
  obtain⟨x5,h6,h⟩:=obind h
  obtain⟨x7,h8,h⟩:=obind h
  obtain⟨r9,h10,h⟩:=obind h
  have k:=oA 2 (ix23 (o:=.no) h8)<|oA 1 (ix23 (o:=.no) h6)<|oB 2 h4 o0
  rcases spl h with⟨h11,h⟩|⟨h11,h⟩
  exact fun j=>lH 2 [] [0,1] [] [2,3,5] (oD (dT p1.sub)<|oD (dT p0.sub)<|oK 1 [] h11 (ih55 _ _ _ h10) k) (ih55Lby _ _ _ _ h)
  obtain rfl:=sj h
  exact fun j=>lF 1 [] (oK 1 [] h11 (ih55 _ _ _ h10) k)
  obtain rfl:=sj h
  exact fun j=>lF 0 [] (oB 2 h4 o0)
theorem c55{qq p0 p1 r}(h:e55 qq p0 p1=some r):K55 p0 p1 r Ct:=(a55_55Lby _).1 _ _ _ h
mutual
theorem ev_rEqual:∀(t:Tm),t.Ok->Evt (fun q=>e55 q t t) true
 | .mk k n l,ho=>by
  rw[Tm.Ok]at ho
  refine Evt.succ ?_
  simp only[e55]
  exact Evt.ifF (by simp) (Evt.ifF (by simp) (Evt.ifF (by simp) (ev_rEqualL l (.mk k n l) 0 rfl ho.1 ho.2)))
theorem ev_rEqualL:∀(l:List Tm) (p:Tm) (v:Nat),p.sub.drop v=l->p.sub.length<9223372036854775808->OkL l->Evt (fun q=>e55Lby q p p (v:Int)) true
 | [],p,v,hd,hl,ho=>by
  refine Evt.succ ?_
  simp only[e55Lby]
  exact Evt.ifF (drop_nil hd) Evt.ret
 |t::l,p,v,hd,hl,ho=>by
  have hlt:=drop_lt hd
  rw[OkL]at ho
  refine Evt.succ ?_
  simp only[e55Lby]
  refine Evt.ifT (drop_dec hd) (Evt.pure (drop_idx hd) (Evt.pure (drop_idx hd) ((ev_rEqual t ho.1).bind (Evt.ifT rfl ?_))))
  rw[w64_nat v (by omega)]
  exact ev_rEqualL l p (v+1) (drop_next hd) hl ho.2
end
theorem ev_mNew(f:Int)(h0:0≤f)(h1:f≤1048576):Evt (fun q=>e45 q f) (.inr (0,f,0)):=by
 simp only[e45]
 exact Evt.ifF (decide_eq_false (by omega)) (Evt.ifF (decide_eq_false (by omega)) (Evt.bind (a:=f) (Evt.mk fun _=>rfl) Evt.ret))
mutual
def e372:Nat->PatternPat->Int->Option (Int)
 |0,_,_=>none
 |qq+1,p0,p1=>
 e372Lbz qq p0 (w64 (p1+1)) 0
def e372Lbz:Nat->PatternPat->Int->Int->Option (Int)
 |0,_,_,_=>none
 |qq+1,p0,v1,v12=>
 if decide (v12<(List.length p0.sub_:Int))then
 gidx p0.sub_ v12>>=fun x2=>
 if decide (v1>8192)then
 some v1
 else
 e372 qq (PatternPat.mk x2.kind_ x2.n_ x2.at_ x2.sub_ x2.t_) v1>>=fun r5=>
 e372Lbz qq p0 r5 (w64 (v12+1))
 else
 some v1
end
def g372LbzE0(j:Nat->Value)(p0:PatternPat)(v1 v12:Int):=sp j 23 0 [(1,ai v1),(10,slv patternPatC p0.sub_ .no),(11,ai (List.length p0.sub_:Int)),(12,ai v12)]
def g372LbzS0(p0:PatternPat)(v1 v12:Int):LSt:=⟨[],0,[],0,[]⟩
abbrev K372 (p0:PatternPat) (p1 r:Int) (C:Cf):Prop:=C 372 [] [patternPatA p0,ai p1] (ai r) [] 0
theorem q372:Qf 372 Tryz.f372:=⟨Tryz.func372,by kernel_rfl⟩
theorem k372{p0 p1 r}(h:K372 p0 p1 r Ci):K372 p0 p1 r Ct:=⟨h,⟨⟨tv,tv,tv,⟨tv,dPatternPat _⟩,tv,tv,⟨tv,dT _⟩,tv⟩,tv,tv⟩,forall_nil,tv,forall_nil⟩
theorem a372_372Lbz:∀qq:Nat,(∀p0 p1 r,e372 qq p0 p1=some r->K372 p0 p1 r Ct)∧(∀p0 v1 v12 r,e372Lbz qq p0 v1 v12=some r->(∀j,Dl Tryz.prog 0 (inn (inn (rgt (lft (rgt (rgt (bod Tryz.f372))))))) (g372LbzE0 j p0 v1 v12) (g372LbzS0 p0 v1 v12) (frameQ Tryz.prog 0 (FinQ Tryz.prog 0 Tryz.f372 (ai r) [] 0) [.blk 0,.seq (rgt (rgt (rgt (bod Tryz.f372))))]))):=by
 intro qq
 induction qq with
 |zero=>
  exact⟨fun _ _ _ h=>nn h,fun _ _ _ _ h=>nn h⟩
 |succ qq ih=>
  obtain⟨ih372,ih372Lbz⟩:=ih
  refine⟨?_,?_⟩
  intro p0 p1 r h
  rw[e372]at h
  exact k372 (tH q372 3 [] [] [] [1,10,11,12] (oD (dPatternPat p0.sub_) o0) (ih372Lbz _ _ _ _ h))
  intro p0 v1 v12 r h
  rw[e372Lbz]at h
  rcases spl h with⟨h1,h⟩|⟨h1,h⟩
  obtain⟨x2,h3,h⟩:=obind h
  have k:=oA 0 (ix106 (o:=.no) h3)<|oB 0 h1 o0
  rcases spl h with⟨h4,h⟩|⟨h4,h⟩
  obtain rfl:=sj h
  exact fun j=>lF 0 [] (oB 2 h4 k)
  obtain⟨r5,h6,h⟩:=obind h
  exact fun j=>lH 1 [] [] [] [1,10,11,12] (oD (dPatternPat p0.sub_)<|oC 1 [] (ih372 _ _ _ h6)<|oB 2 h4 k) (ih372Lbz _ _ _ _ h)
  obtain rfl:=sj h
  exact fun j=>lF 0 [] (oB 0 h1 o0)
theorem c372{qq p0 p1 r}(h:e372 qq p0 p1=some r):K372 p0 p1 r Ct:=(a372_372Lbz _).1 _ _ _ h
def e335(qq:Nat)(p0:PatternPat):Option (Int):=
 e372 qq (PatternPat.mk p0.kind_ p0.n_ p0.at_ p0.sub_ p0.t_) 0>>=fun r1=>
 some r1
abbrev K335 (p0:PatternPat) (r:Int) (C:Cf):Prop:=C 335 [] [patternPatA p0] (ai r) [] 0
theorem q335:Qf 335 Tryz.f335:=⟨Tryz.func335,by kernel_rfl⟩
theorem k335{p0 r}(h:K335 p0 r Ci):K335 p0 r Ct:=⟨h,⟨⟨tv,tv,tv,⟨tv,dPatternPat _⟩,tv,tv,⟨tv,dT _⟩,tv⟩,tv⟩,forall_nil,tv,forall_nil⟩
theorem c335{qq p0 r}(h:e335 qq p0=some r):K335 p0 r Ct:=by
 unfold e335 at h
 obtain⟨r1,h2,h⟩:=obind h
 obtain rfl:=sj h
 exact k335 (tF q335 0 [] (oC 1 [] (c372 h2) o0))
mutual
def e336:Nat->PatternPat->Int->Option (Int)
 |0,_,_=>none
 |qq+1,p0,p1=>
 if decide (p1>128)then
 some p1
 else
 e336Lca qq p0 p1 0 p1
def e336Lca:Nat->PatternPat->Int->Int->Int->Option (Int)
 |0,_,_,_,_=>none
 |qq+1,p0,p1,v15,v5=>
 if decide (v15<(List.length p0.sub_:Int))then
 gidx p0.sub_ v15>>=fun x3=>
 e336 qq (PatternPat.mk x3.kind_ x3.n_ x3.at_ x3.sub_ x3.t_) (w64 (p1+1))>>=fun r5=>
 e336Lca qq p0 p1 (w64 (v15+1)) (imax v5 r5)
 else
 some v5
end
def g336LcaE0(j:Nat->Value)(p0:PatternPat)(p1 v15 v5:Int):=sp j 27 0 [(1,ai p1),(5,ai v5),(13,slv patternPatC p0.sub_ .no),(14,ai (List.length p0.sub_:Int)),(15,ai v15)]
def g336LcaS0(p0:PatternPat)(p1 v15 v5:Int):LSt:=⟨[],0,[],0,[]⟩
abbrev K336 (p0:PatternPat) (p1 r:Int) (C:Cf):Prop:=C 336 [] [patternPatA p0,ai p1] (ai r) [] 0
theorem q336:Qf 336 Tryz.f336:=⟨Tryz.func336,by kernel_rfl⟩
theorem k336{p0 p1 r}(h:K336 p0 p1 r Ci):K336 p0 p1 r Ct:=⟨h,⟨⟨tv,tv,tv,⟨tv,dPatternPat _⟩,tv,tv,⟨tv,dT _⟩,tv⟩,tv,tv⟩,forall_nil,tv,forall_nil⟩
theorem a336_336Lca:∀qq:Nat,(∀p0 p1 r,e336 qq p0 p1=some r->K336 p0 p1 r Ct)∧(∀p0 p1 v15 v5 r,e336Lca qq p0 p1 v15 v5=some r->(∀j,Dl Tryz.prog 0 (inn (inn (rgt (lft (rgt (rgt (rgt (bod Tryz.f336)))))))) (g336LcaE0 j p0 p1 v15 v5) (g336LcaS0 p0 p1 v15 v5) (frameQ Tryz.prog 0 (FinQ Tryz.prog 0 Tryz.f336 (ai r) [] 0) [.blk 0,.seq (rgt (rgt (rgt (rgt (bod Tryz.f336)))))]))):=by
 intro qq
 induction qq with
 |zero=>
  exact⟨fun _ _ _ h=>nn h,fun _ _ _ _ _ h=>nn h⟩
 |succ qq ih=>
  obtain⟨ih336,ih336Lca⟩:=ih
  refine⟨?_,?_⟩
  intro p0 p1 r h
  rw[e336]at h
  rcases spl h with⟨h1,h⟩|⟨h1,h⟩
  obtain rfl:=sj h
  exact k336 (tF q336 0 [] (oB 0 h1 o0))
  exact k336 (tH q336 2 [] [] [] [1,5,13,14,15] (oD (dPatternPat p0.sub_)<|oB 0 h1 o0) (ih336Lca _ _ _ _ _ h))
  intro p0 p1 v15 v5 r h
  rw[e336Lca]at h
  rcases spl h with⟨h2,h⟩|⟨h2,h⟩
  obtain⟨x3,h4,h⟩:=obind h
  obtain⟨r5,h6,h⟩:=obind h
  exact fun j=>lH 2 [] [] [] [1,5,13,14,15] (oD (dPatternPat p0.sub_)<|oC 4 [] (ih336 _ _ _ h6)<|oA 0 (ix106 (o:=.no) h4)<|oB 0 h2 o0) (ih336Lca _ _ _ _ _ h)
  obtain rfl:=sj h
  exact fun j=>lF 0 [] (oB 0 h2 o0)
theorem c336{qq p0 p1 r}(h:e336 qq p0 p1=some r):K336 p0 p1 r Ct:=(a336_336Lca _).1 _ _ _ h
def e298(qq:Nat)(p0:PatternPat):Option (Bool):=
 e335 qq (PatternPat.mk p0.kind_ p0.n_ p0.at_ p0.sub_ p0.t_)>>=fun r1=>
 if decide (r1≤8192)then
 e336 qq (PatternPat.mk p0.kind_ p0.n_ p0.at_ p0.sub_ p0.t_) 1>>=fun r4=>
 some (decide (r4≤128))
 else
 some false
abbrev K298 (p0:PatternPat) (r:Bool) (C:Cf):Prop:=C 298 [] [patternPatA p0] (ab r) [] 0
theorem q298:Qf 298 Tryz.f298:=⟨Tryz.func298,by kernel_rfl⟩
theorem k298{p0 r}(h:K298 p0 r Ci):K298 p0 r Ct:=⟨h,⟨⟨tv,tv,tv,⟨tv,dPatternPat _⟩,tv,tv,⟨tv,dT _⟩,tv⟩,tv⟩,forall_nil,tv,forall_nil⟩
theorem c298{qq p0 r}(h:e298 qq p0=some r):K298 p0 r Ct:=by
 unfold e298 at h
 obtain⟨r1,h2,h⟩:=obind h
 have k:=oC 1 [] (c335 h2) o0
 rcases spl h with⟨h3,h⟩|⟨h3,h⟩
 obtain⟨r4,h5,h⟩:=obind h
 obtain rfl:=sj h
 exact k298 (tF q298 1 [] (oC 1 [] (c336 h5)<|oB 0 h3 k))
 obtain rfl:=sj h
 exact k298 (tF q298 0 [] (oB 0 h3 k))
mutual
def e243:Nat->(List PatternPat)->Option (List Int)
 |0,_=>none
 |qq+1,p0=>
 e243Lcb qq p0 [] 0
def e243Lcb:Nat->(List PatternPat)->(List Int)->Int->Option (List Int)
 |0,_,_,_=>none
 |qq+1,p0,v3,v8=>
 if decide (v8<(List.length p0:Int))then
 gidx p0 v8>>=fun x2=>
 e298 qq (PatternPat.mk x2.kind_ x2.n_ x2.at_ x2.sub_ x2.t_)>>=fun r4=>
 if r4 then
 e300 qq (PatternPat.mk x2.kind_ x2.n_ x2.at_ x2.sub_ x2.t_)>>=fun r7=>
 gapp 8 v3 r7>>=fun l9=>
 e243Lcb qq p0 l9 (w64 (v8+1))
 else
 e243Lcb qq p0 v3 (w64 (v8+1))
 else
 some v3
def e300:Nat->PatternPat->Option (List Int)
 |0,_=>none
 |qq+1,p0=>
 if p0.kind_==1 then
 some [p0.n_]
 else
 e243 qq p0.sub_>>=fun r2=>
 some r2
end
def g243LcbE0(j:Nat->Value)(p0:List PatternPat)(v3:List Int)(v8:Int):=sp j 20 0 [(3,slv intC v3 (.st 0 1)),(6,slv patternPatC p0 .no),(7,ai (List.length p0:Int)),(8,ai v8)]
def g243LcbS0(p0:List PatternPat)(v3:List Int)(v8:Int):LSt:=⟨[],0,[0],1,[]⟩
abbrev K243 (p0:List PatternPat) (r:List Int) (C:Cf):Prop:=C 243 [] [slv patternPatC p0 .no] (slv intC r (.st 0 1)) [] 1
abbrev K300 (p0:PatternPat) (r:List Int) (C:Cf):Prop:=C 300 [] [patternPatA p0] (.sl (flat intC r) (List.length r) .no) [] 0
theorem q243:Qf 243 Tryz.f243:=⟨Tryz.func243,by kernel_rfl⟩
theorem k243{p0 r}(h:K243 p0 r Ci):K243 p0 r Ct:=⟨h,⟨⟨tv,dPatternPat _⟩,tv⟩,forall_nil,dI _,forall_nil⟩
theorem q300:Qf 300 Tryz.f300:=⟨Tryz.func300,by kernel_rfl⟩
theorem k300{p0 r}(h:K300 p0 r Ci):K300 p0 r Ct:=⟨h,⟨⟨tv,tv,tv,⟨tv,dPatternPat _⟩,tv,tv,⟨tv,dT _⟩,tv⟩,tv⟩,forall_nil,dI _,forall_nil⟩
theorem a243_243Lcb_300:∀qq:Nat,(∀p0 r,e243 qq p0=some r->K243 p0 r Ct)∧(∀p0 v3 v8 r,e243Lcb qq p0 v3 v8=some r->(∀j,Dl Tryz.prog 0 (inn (inn (rgt (lft (rgt (rgt (bod Tryz.f243))))))) (g243LcbE0 j p0 v3 v8) (g243LcbS0 p0 v3 v8) (frameQ Tryz.prog 0 (FinQ Tryz.prog 0 Tryz.f243 (slv intC r (.st 0 1)) [] 1) [.blk 0,.seq (rgt (rgt (rgt (bod Tryz.f243))))])))∧(∀p0 r,e300 qq p0=some r->K300 p0 r Ct):=by
 intro qq
 induction qq with
 |zero=>
  exact⟨fun _ _ h=>nn h,fun _ _ _ _ h=>nn h,fun _ _ h=>nn h⟩
 |succ qq ih=>
  obtain⟨ih243,ih243Lcb,ih300⟩:=ih
  refine⟨?_,?_,?_⟩
  intro p0 r h
  rw[e243]at h
  exact k243 (tH q243 1 [(none,3,1)] [] [0] [3,6,7,8] (oD (dPatternPat p0)<|oD (dI ([]:List Int)) o0) (ih243Lcb _ _ _ _ h))
  intro p0 v3 v8 r h
  rw[e243Lcb]at h
  rcases spl h with⟨h1,h⟩|⟨h1,h⟩
  obtain⟨x2,h3,h⟩:=obind h
  obtain⟨r4,h5,h⟩:=obind h
  have k:=oA 0 (ix106 (o:=.no) h3)<|oB 0 h1 o0
  rcases spl h with⟨h6,h⟩|⟨h6,h⟩
  obtain⟨r7,h8,h⟩:=obind h
  obtain⟨l9,h10,h⟩:=obind h
  have k:=oC 1 [] (ih300 _ _ h8)<|oK 3 [] h6 (c298 h5) k
  by_cases h11:List.length r7=0
  exact fun j=>lH 1 [] [] [0] [3,6,7,8] (oD (dPatternPat p0)<|oD (dI l9)<|oP 0 (apN41 h10 h11) k) (ih243Lcb _ _ _ _ h)
  exact fun j=>lH 1 [] [] [1] [3,6,7,8] (oD (dPatternPat p0)<|oD (dI l9)<|oP 0 (apS41 h10 h11) k) (ih243Lcb _ _ _ _ h)
  exact fun j=>lH 1 [] [] [0] [3,6,7,8] (oD (dPatternPat p0)<|oD (dI v3)<|oK 3 [] h6 (c298 h5) k) (ih243Lcb _ _ _ _ h)
  obtain rfl:=sj h
  exact fun j=>lG 0 [] [] [0] true (oD (dI v3)<|oB 0 h1 o0)
  intro p0 r h
  rw[e300]at h
  rcases spl h with⟨h1,h⟩|⟨h1,h⟩
  obtain rfl:=sj h
  exact k300 (tF q300 2 [] (oD (dI [p0.n_])<|oB 1 h1 o0))
  obtain⟨r2,h3,h⟩:=obind h
  obtain rfl:=sj h
  exact k300 (tF q300 0 [] (oD (dI r2)<|oC 1 [] (ih243 _ _ h3)<|oB 1 h1 o0))
theorem c243{qq p0 r}(h:e243 qq p0=some r):K243 p0 r Ct:=(a243_243Lcb_300 _).1 _ _ h
def e241(qq:Nat)(p0:List PatternPat):Option Bool:=
 (e243 qq p0)>>=fun l=>
 if decide (List.length l<4611686018427387904)=true then(e112 qq (isort l))>>=fun m=>some ((List.length (cpct m):Int)==(List.length (isort l):Int))else none
theorem c241s{qq:Nat}{p0:List Int}{r:List Int}(h:e112 qq p0=some r):CT Tryz.prog 112 [] [.sl (flat intC p0) (List.length p0) .no] (.sl (flat intC r) (List.length r) (.st 0 1)) [] 1:=by
 have hr:r=p0:=by have:=(gapp_spec h).2;simpa using this
 subst hr
 by_cases h1:List.length r=0
 ·have hp:r=[]:=List.length_eq_zero_iff.1 h1
  subst hp
  exact CT.stampNil (c112vr (qq:=qq) (p0:=[]) (r:=.inl ()) rfl)
 ·exact CT.freezeS (c112vr (qq:=qq) (p0:=r) (r:=.inr r) (by unfold e112vr;rw[if_neg (by simpa using h1),show gapp 8 ([]:List Int) r=some r from h];rfl)) (dI _) (flat_len codecI.len _)
section
open Go.RowKit Go.Sort Go.Proofs
theorem V.blind{G G':Gh}{w w':World}{es:List AV}{n:Nat}{o:Own}{u:Value}(h:V G w (.sl es n o) u):V G' w' (.sl [] n .no) u:=by
 simp only[V]at h ⊢
 obtain⟨cap,h1,⟨h2,h3,h4,h5,_⟩|⟨b,off,h2,_,_⟩⟩:=h
 ·exact⟨cap,h1,.inl ⟨trivial,h3,h4,h5,trivial⟩⟩
 ·exact⟨cap,h1,.inr ⟨b,off,h2,by simp only[VC],trivial⟩⟩
theorem own_row{G:Gh}{w:World}{s:LSt}{k:Nat}{l:List Int}{u:Value}(hR:RelS G (over (Emp 0) s) w)(ho:s.own.any (Nat.beq k)=true)(hu:V G w (.sl (flat intC l) l.length (.st k 1)) u) :
  (l=[]∧∃p cap,u = .slice p 0 cap)∨∃b off cap,u = .slice (some ⟨b,off,none⟩) l.length cap∧l.length≤cap∧Holds (Value.int .i64) w b off l.toArray∧b<w.heap.size∧¬G.F b∧(∀i,G.ρ i≠some b)∧∀u',V G w (.sl (flat intC l) l.length (.st k 1)) u'->u' = .slice (some ⟨b,off,none⟩) l.length cap:=by
 have hu0:=hu
 simp only[V]at hu
 obtain⟨cap,hcap,⟨he,hn,hc0,hu',_⟩|⟨b,off,rfl,hC,hq,hO⟩⟩:=hu
 ·exact .inl ⟨List.length_eq_zero_iff.1 hn,_,_,hu'⟩
 ·rcases hO with⟨hn,hc⟩|⟨hm,hF,hτ⟩
  ·exact .inl ⟨List.length_eq_zero_iff.1 hn,_,_,by rw[hn]⟩
  ·by_cases hl:l=[]
   ·exact .inl ⟨hl,_,cap,by rw[hl];rfl⟩
   right
   obtain⟨b',f,t,q1,q2⟩:=hR.own k (by rw[over_own];exact ho)
   rw[hτ]at q1
   cases q1
   have hpos:0<l.length:=List.length_pos_iff.2 hl
   rcases q2 with q2|⟨_,q3,_,vs,T,q5,q6⟩
   ·omega
   obtain⟨us,h1,h2⟩:=VC.cells _ _ _ hC
   have hus:=VL.ints_eq l us h1
   subst hus
   have hH:Holds (Value.int .i64) w b off l.toArray:=by
    intro j hj
    have hj':j<l.length:=by simpa using hj
    refine⟨?_,by simp[World.frozen?,q5]⟩
    rw[h2 j (by simpa using hj')]
    simp[hj']
   refine⟨b,off,cap,rfl,hcap,hH,(Array.getElem?_eq_some_iff.1 q5).1,hF,q3,fun u' hu'=>?_⟩
   simp only[V]at hu'
   obtain⟨cap',_,⟨_,hn,_⟩|⟨b2,off2,rfl,_,_,hO2⟩⟩:=hu'
   ·omega
   ·rcases hO2 with⟨hn,_⟩|⟨hm2,_,hτ2⟩
    ·omega
    ·rw[hτ,hm]at hτ2
     simp only[Option.some.injEq,Prod.mk.injEq]at hτ2
     obtain⟨rfl,h5,h6⟩:=hτ2
     obtain rfl:off2=off:=by omega
     obtain rfl:cap'=cap:=by omega
     rfl
theorem isort_len(l:List Int):(isort l).length=l.length:=(isort_perm l).length_eq
theorem sort_call{G:Gh}{w:World}{s:LSt}{k:Nat}{l:List Int}{u:Value}(hR:RelS G (over (Emp 0) s) w)(ho:s.own.any (Nat.beq k)=true)(hsz:l.length<4611686018427387904)(hu:V G w (.sl (flat intC l) l.length (.st k 1)) u) :
  Calls Tryz.prog 291 #[u] w fun e w'=>∃(v:Value) (b:Nat) (S:Nat->Nat->Prop),e = .returned v∧¬G.F b∧(∀i,G.ρ i≠some b)∧Keep (fun c=>c<w.heap.size∧c≠b) w w' ∧
   (∀c o,S c o->c=b∧∃x,w'.cell? ⟨c,o,none⟩=some x)∧∀G',(∀c o,S c o->G'.L c o)->V G' w' (.val (.tuple #[])) v∧∀u',V G w (.sl (flat intC l) l.length (.st k 1)) u'->V G' w' (.sl (flat intC (isort l)) (isort l).length .no) u':=by
 rcases own_row hR ho hu with⟨rfl,p,cap,rfl⟩|⟨b,off,cap,rfl,hcap,hH,hb,hF,hρ,huniq⟩
 ·refine Calls.mono (AnyM.slices_Sort_int_none Tryz.sortI p cap w) ?_
  rintro e w' ⟨rfl,rfl⟩
  exact⟨_,w'.heap.size,fun _ _=>False,rfl,fun h=>Nat.lt_irrefl _ (hR.base _ h),fun i hi=>Nat.lt_irrefl _ (hR.ρ_lt hi),Keep.refl _ _,fun _ _ h=>h.elim,fun G' _=>⟨by simp only[V],fun u' h=>V.blind h⟩⟩
 ·refine Calls.mono (sort_some (cap:=cap) hH hb hsz) ?_
  rintro e w' ⟨rfl,n,os,rfl⟩
  have hl:(l.mergeSort fun x y=>decide (x≤y)).length=l.length:=List.length_mergeSort _
  have hH1:Holds (Value.int .i64) (Sort.grow (putRow (Value.int .i64) (Sort.ahead w n) b off (l.mergeSort fun x y=>decide (x≤y)).toArray) os) b off (l.mergeSort fun x y=>decide (x≤y)).toArray:=
   holds_grow _ _ _ _ _ _ (by simpa using hb) (holds_putRow _ _ _ _ l.toArray _ hH (by simp[hl]))
  rw[mergeSort_isort]at hH1 ⊢
  have hil:=isort_len l
  have hcell:∀i (h:i<(isort l).length),(Sort.grow (putRow (Value.int .i64) (Sort.ahead w n) b off (isort l).toArray) os).cell? ⟨b,off+i,none⟩=some (.int .i64 (isort l)[i]):=fun i h=>by
   have:=(hH1 i (by simpa using h)).1
   rw[this];simp[h]
  refine⟨_,b,fun c o=>c=b∧off≤o∧o<off+(isort l).length,rfl,hF,hρ,Keep.trans (Keep.putRow _ w n b off _) ((Keep.grow _ os b).mono fun k hk=>⟨by simpa using hk.1,hk.2⟩),?_,fun G' hS=>⟨by simp only[V],fun u' h=>?_⟩⟩
  ·rintro c o ⟨rfl,h1,h2⟩
   exact⟨rfl,.int .i64 ((isort l)[o-off]'(by omega)),by have:=hcell (o-off) (by omega);rwa[show off+(o-off)=o by omega]at this⟩
  ·rw[huniq u' h]
   simp only[V]
   refine⟨cap,by omega,.inr ⟨b,off,by rw[hil],VC.of_cells _ _ b off (VL.ints (isort l)) (fun i hi=>hS _ _ ⟨rfl,by omega,?_⟩) (fun i hi=>?_),trivial⟩⟩
   ·have:i<(isort l).length:=by simpa using hi
    omega
   ·rw[hcell i (by simpa using hi)];simp
theorem compact_none{w:World}{p:Option Addr}{cap:Nat}{G:Gh}(hV:V G w (.sl [] 0 .no) (.slice p 0 cap)) :
  Calls Tryz.prog 292 #[.slice p 0 cap] w fun e w'=>∃v,e = .returned v∧(Keep (fun c=>c<w.heap.size) w w'∧∀G',V G' w' (.sl [] 0 .no) v):=by
 refine(c264e (atW w) w #[.slice p 0 cap] (atW_base w) (atW_rel w) ?_).mono ?_
 ·simp only[VL];exact⟨V.none hV,trivial⟩
 ·rintro e w2 ⟨v,G',s',rfl,hE,hR,hv,_⟩
  refine⟨v,rfl,?_,fun G'=>V.none hv⟩
  have:=hR.below
  rw[hE.F,hE.w0]at this
  exact this
theorem compact_call{G:Gh}{w:World}{s:LSt}{k:Nat}{l:List Int}{u:Value}(hR:RelS G (over (Emp 0) s) w)(ho:s.own.any (Nat.beq k)=true)(hsz:l.length<4611686018427387904)(hu:V G w (.sl (flat intC l) l.length (.st k 1)) u) :
  Calls Tryz.prog 292 #[u] w fun e w'=>∃(v:Value) (b:Nat) (S:Nat->Nat->Prop),e = .returned v∧¬G.F b∧(∀i,G.ρ i≠some b)∧Keep (fun c=>c<w.heap.size∧c≠b) w w' ∧
   (∀c o,S c o->c=b∧∃x,w'.cell? ⟨c,o,none⟩=some x)∧∀G',(∀c o,S c o->G'.L c o)->V G' w' (.sl (flat intC (cpct l)) (cpct l).length .no) v:=by
 rcases own_row hR ho hu with⟨rfl,p,cap,rfl⟩|⟨b,off,cap,rfl,hcap,hH,hb,hF,hρ,huniq⟩
 ·refine(compact_none (G:=G) (V.blind hu)).mono ?_
  rintro e w' ⟨v,rfl,hK,hv⟩
  exact⟨v,w.heap.size,fun _ _=>False,rfl,fun h=>Nat.lt_irrefl _ (hR.base _ h),fun i hi=>Nat.lt_irrefl _ (hR.ρ_lt hi),hK.mono fun k hk=>hk.1,fun _ _ h=>h.elim,fun G' _=>hv G'⟩
 ·have hc:=compact_some (cap:=cap) hH hsz hcap
  have e1:Go.Lib.compactUpTo l.toArray l.toArray.size=cpct l:=by have:=compact_cpct l l.length (Nat.le_refl _);rw[List.take_length]at this;simpa using this
  rw[e1]at hc
  have hcl:=cpct_len l
  refine hc.mono ?_
  rintro e w' ⟨rfl,q,rfl⟩
  have hcell:∀i (h:i<(cpct l).length),(putRow (Value.int .i64) (Sort.ahead w q) b off (cpct l++List.replicate (l.toArray.size-(cpct l).length) 0).toArray).cell? ⟨b,off+i,none⟩=some (.int .i64 (cpct l)[i]):=fun i h=>by
   rw[cell?_putRow (Value.int .i64) _ b off l.toArray _ (holds_ahead _ _ _ _ _ _ hH) (by simp;omega) i (by simp;omega)]
   simp[List.getElem?_append_left h,h]
  refine⟨_,b,fun c o=>c=b∧off≤o∧o<off+(cpct l).length,rfl,hF,hρ,(Keep.putRow _ w q b off _),?_,fun G' hS=>?_⟩
  ·rintro c o ⟨rfl,h1,h2⟩
   exact⟨rfl,.int .i64 ((cpct l)[o-off]'(by omega)),by have:=hcell (o-off) (by omega);rwa[show off+(o-off)=o by omega]at this⟩
  ·simp only[V]
   refine⟨cap,Nat.le_trans hcl hcap,.inr ⟨b,off,rfl,VC.of_cells _ _ b off (VL.ints (cpct l)) (fun i hi=>hS _ _ ⟨rfl,by omega,?_⟩) (fun i hi=>?_),trivial⟩⟩
   ·have:i<(cpct l).length:=by simpa using hi
    omega
   ·rw[hcell i (by simpa using hi)];simp
end
theorem c241{qq:Nat}{p0:List PatternPat}{r:Bool}(h:e241 qq p0=some r):CT Tryz.prog 241 [] [slv patternPatC p0 .no] (ab r) [] 0:=by
 unfold e241 at h
 obtain⟨l,h2,h⟩:=obind h
 rcases bcases (decide (List.length l<4611686018427387904))with h6|h6
 ·replace h:=ifT h6 h
  obtain⟨m,h5,h⟩:=obind h
  replace h:=Option.some.inj h
  subst h
  have hsz:List.length l<4611686018427387904:=by simpa using h6
  have hm:m=isort l:=by have:=(gapp_spec h5).2;simpa using this
  have hsm:List.length m<4611686018427387904:=by rw[hm,isort_len];exact hsz
  refine⟨?_,⟨⟨tv,dPatternPat _⟩,tv⟩,forall_nil,tv,forall_nil⟩
  have k0:knd (bod Tryz.f241)=1:=by kernel_rfl
  have k1:knd (rgt (bod Tryz.f241))=1:=by kernel_rfl
  have k2:knd (rgt (rgt (bod Tryz.f241)))=1:=by kernel_rfl
  have k3:isReg (lft (rgt (rgt (bod Tryz.f241))))=true:=by kernel_rfl
  have k4:clOf (regOps (lft (rgt (rgt (bod Tryz.f241)))))[1]? = some (some 7,291,#[.tmp 6]):=by kernel_rfl
  have k5:(Tryz.f291.name == "runtime.NumGoroutine")=false:=by kernel_rfl
  have k6:Tryz.f291.body.isNone=false:=by kernel_rfl
  have k7:knd (rgt (rgt (rgt (bod Tryz.f241))))=1:=by kernel_rfl
  have k8:isReg (lft (rgt (rgt (rgt (bod Tryz.f241)))))=true:=by kernel_rfl
  have k9:clOf (regOps (lft (rgt (rgt (rgt (bod Tryz.f241))))))[2]? = some (some 10,292,#[.tmp 9]):=by kernel_rfl
  have k10:(Tryz.f292.name == "runtime.NumGoroutine")=false:=by kernel_rfl
  have k11:Tryz.f292.body.isNone=false:=by kernel_rfl
  have x1:krun Tryz.prog prim 3000 (.run (lft (bod Tryz.f241))) [] ([slv patternPatC p0 .no]++List.replicate (Tryz.f241.ntmps-1) (.val undef)) (st0 []) []=some (.fin .normal,[slv patternPatC p0 .no,.val undef,ab false,.val undef,.val undef,.val undef,.val undef,.val undef,.val undef,.val undef,.val undef,.val undef,.val undef,.val undef,.val undef],⟨[],0,[],0,[]⟩,[],[]):=by kernel_rfl
  have x2:krun Tryz.prog prim 3000 (.run (lft (rgt (bod Tryz.f241)))) [] [slv patternPatC p0 .no,.val undef,ab false,.val undef,.val undef,.val undef,.val undef,.val undef,.val undef,.val undef,.val undef,.val undef,.val undef,.val undef,.val undef] ⟨[],0,[],0,[]⟩ [.call [] [] 1 (.sl (flat intC l) l.length (.st 0 1)) none]=some (.fin .normal,[slv patternPatC p0 .no,.val undef,ab false,.sl (flat intC l) l.length (.st 0 1),slv patternPatC p0 .no,.sl (flat intC l) l.length (.st 0 1),.val undef,.val undef,.val undef,.val undef,.val undef,.val undef,.val undef,.val undef,.val undef],⟨[],0,[0],1,[]⟩,[],[.call 243 [] [slv patternPatC p0 .no] (.sl (flat intC l) l.length (.st 0 1)) [] 1]):=by kernel_rfl
  have x3:(xops Tryz.prog prim (regOps (lft (rgt (rgt (bod Tryz.f241))))) ((regOps (lft (rgt (rgt (bod Tryz.f241))))).toList.take 1) 0 [slv patternPatC p0 .no,.val undef,ab false,.sl (flat intC l) l.length (.st 0 1),slv patternPatC p0 .no,.sl (flat intC l) l.length (.st 0 1),.val undef,.val undef,.val undef,.val undef,.val undef,.val undef,.val undef,.val undef,.val undef] ⟨[],0,[0],1,[]⟩ []).map Prod.snd=some ([slv patternPatC p0 .no,.val undef,ab false,.sl (flat intC l) l.length (.st 0 1),slv patternPatC p0 .no,.sl (flat intC l) l.length (.st 0 1),.sl (flat intC l) l.length (.st 0 1),.val undef,.val undef,.val undef,.val undef,.val undef,.val undef,.val undef,.val undef],⟨[],0,[0],1,[]⟩,[],[]):=by kernel_rfl
  have x4:∀j:Nat->Value,(xops Tryz.prog prim (regOps (lft (rgt (rgt (bod Tryz.f241))))) ((regOps (lft (rgt (rgt (bod Tryz.f241))))).toList.drop 2) 2 (eset (tells [(3,.sl (flat intC (isort l)) (isort l).length .no)] (mutEnv [] j [slv patternPatC p0 .no,.val undef,ab false,.sl (flat intC l) l.length (.st 0 1),slv patternPatC p0 .no,.sl (flat intC l) l.length (.st 0 1),.sl (flat intC l) l.length (.st 0 1),.val undef,.val undef,.val undef,.val undef,.val undef,.val undef,.val undef,.val undef] 0)) (some 7) (.val (.tuple #[]))) (pickSt [] ⟨[],0,[0],1,[]⟩) []).map Prod.snd=some ([.val (j 0),.val undef,ab false,.sl (flat intC (isort l)) (isort l).length .no,.val (j 4),.val (j 5),.val (j 6),.val (.tuple #[]),.val undef,.val undef,.val undef,.val undef,.val undef,.val undef,.val undef],⟨[],0,[],0,[]⟩,[],[]):=fun j=>by kernel_rfl
  have x5:∀j:Nat->Value,(xops Tryz.prog prim (regOps (lft (rgt (rgt (rgt (bod Tryz.f241)))))) ((regOps (lft (rgt (rgt (rgt (bod Tryz.f241)))))).toList.take 2) 0 [.val (j 0),.val undef,ab false,.sl (flat intC (isort l)) (isort l).length .no,.val (j 4),.val (j 5),.val (j 6),.val (.tuple #[]),.val undef,.val undef,.val undef,.val undef,.val undef,.val undef,.val undef] ⟨[],0,[],0,[]⟩ [.call [] [] 1 (.sl (flat intC m) m.length (.st 0 1)) none]).map Prod.snd=some ([.val (j 0),.val undef,ab false,.sl (flat intC (isort l)) (isort l).length .no,.val (j 4),.val (j 5),.val (j 6),.val (.tuple #[]),.sl (flat intC (isort l)) (isort l).length .no,.sl (flat intC m) m.length (.st 0 1),.val undef,.val undef,.val undef,.val undef,.val undef],⟨[],0,[0],1,[]⟩,[],[.call 112 [] [.sl (flat intC (isort l)) (isort l).length .no] (.sl (flat intC m) m.length (.st 0 1)) [] 1]):=fun j=>by kernel_rfl
  have x6:∀j i:Nat->Value,(xops Tryz.prog prim (regOps (lft (rgt (rgt (rgt (bod Tryz.f241)))))) ((regOps (lft (rgt (rgt (rgt (bod Tryz.f241)))))).toList.drop 3) 3 (eset (tells [(3,.sl [] (isort l).length .no)] (mutEnv [] i [.val (j 0),.val undef,ab false,.sl (flat intC (isort l)) (isort l).length .no,.val (j 4),.val (j 5),.val (j 6),.val (.tuple #[]),.sl (flat intC (isort l)) (isort l).length .no,.sl (flat intC m) m.length (.st 0 1),.val undef,.val undef,.val undef,.val undef,.val undef] 0)) (some 10) (.sl (flat intC (cpct m)) (cpct m).length .no)) (pickSt [] ⟨[],0,[0],1,[]⟩) [.no,.no,.no]).map Prod.snd=some ([.val (j 0),.val undef,ab ((List.length (cpct m):Int)==(List.length (isort l):Int)),.sl [] (isort l).length .no,.val (j 4),.val (j 5),.val (j 6),.val (.tuple #[]),.val (i 8),.val (i 9),.sl (flat intC (cpct m)) (cpct m).length .no,ai (cpct m).length,.sl [] (isort l).length .no,ai (isort l).length,ab ((List.length (cpct m):Int)==(List.length (isort l):Int))],⟨[],0,[],0,[]⟩,[],[]):=fun j i=>by kernel_rfl
  have x7:∀j i:Nat->Value,kfin Tryz.prog prim 0 Tryz.f241 3000 (.run (rgt (rgt (rgt (rgt (bod Tryz.f241)))))) [] [.val (j 0),.val undef,ab ((List.length (cpct m):Int)==(List.length (isort l):Int)),.sl [] (isort l).length .no,.val (j 4),.val (j 5),.val (j 6),.val (.tuple #[]),.val (i 8),.val (i 9),.sl (flat intC (cpct m)) (cpct m).length .no,ai (cpct m).length,.sl [] (isort l).length .no,ai (isort l).length,ab ((List.length (cpct m):Int)==(List.length (isort l):Int))] ⟨[],0,[],0,[]⟩ [] [] [] [] false=some (ab ((List.length (cpct m):Int)==(List.length (isort l):Int)),[],[]):=fun j i=>by kernel_rfl
  refine CTri.body Tryz.func241 (by kernel_rfl) ?_
  refine Dv.seqP k0 ?_
  refine krun_ok (Q:=_) prim_ok mixed 3000 (.run (lft (bod Tryz.f241))) [] _ _ _ _ _ _ _ _ x1 ObsOk.nil ?_
  refine Dv.seqP k1 ?_
  refine krun_ok (Q:=_) prim_ok mixed 3000 (.run (lft (rgt (bod Tryz.f241)))) [] _ _ _ _ _ _ _ _ x2 (ObsOk.cons (obCall (c243 h2)) ObsOk.nil) ?_
  refine Dv.seqP k2 ?_
  obtain⟨id,z7⟩:=regP k3
  rw[z7]
  refine Dv.mut prim_ok (na:=(0:Nat)) rfl 1 [] [(3,.sl (flat intC (isort l)) (isort l).length .no)] (.val (.tuple #[])) x3 ObsOk.nil k4 Tryz.func291 k5 k6 (fun i X h=>by cases h) ?_ x4 ObsOk.nil ?_
  ·intro G0 W hB G w hE hR u hu
   refine(sort_call hR (by rfl) hsz hu).mono ?_
   rintro e w' ⟨v,b,S,z1,z2,z3,z4,z5,z6⟩
   refine⟨v,b,S,z1,z2,z3,z4,z5,fun G' _ _ hS=>⟨(z6 G' hS).1,fun q hq u' hu'=>?_⟩⟩
   simp only[List.mem_singleton]at hq
   subst hq
   exact(z6 G' hS).2 u' hu'
  intro j
  refine Dv.seqP k7 ?_
  obtain⟨id2,z8⟩:=regP k8
  rw[z8]
  refine Dv.mut prim_ok (na:=(0:Nat)) rfl 2 [] [(3,.sl [] (isort l).length .no)] (.sl (flat intC (cpct m)) (cpct m).length .no) (x5 j) (ObsOk.cons (obCall (c241s h5)) ObsOk.nil) k9 Tryz.func292 k10 k11 (fun i X h=>by cases h) ?_ (x6 j) ObsOk.nil ?_
  ·intro G0 W hB G w hE hR u hu
   refine(compact_call hR (by rfl) hsm hu).mono ?_
   rintro e w' ⟨v,b,S,z1,z2,z3,z4,z5,z6⟩
   refine⟨v,b,S,z1,z2,z3,z4,z5,fun G' _ _ hS=>⟨z6 G' hS,fun q hq u' hu'=>?_⟩⟩
   simp only[List.mem_singleton]at hq
   subst hq
   exact V.blind hu'
  intro i
  exact kfin_ok (na:=(0:Nat)) prim_ok mixed (x7 j i) ObsOk.nil (by decide)
 ·replace h:=ifF h6 h
  cases h
def e337(qq:Nat)(p0:Tm):Option (Bool):=
 if p0.k==0 then
 if p0.n==0 then
 some ((List.length p0.sub:Int)==0)
 else
 some false
 else
 some false
abbrev K337 (p0:Tm) (r:Bool) (C:Cf):Prop:=C 337 [] [tmA p0] (ab r) [] 0
theorem q337:Qf 337 Tryz.f337:=⟨Tryz.func337,by kernel_rfl⟩
theorem k337{p0 r}(h:K337 p0 r Ci):K337 p0 r Ct:=⟨h,⟨⟨tv,tv,⟨tv,dT _⟩,tv⟩,tv⟩,forall_nil,tv,forall_nil⟩
theorem c337{qq p0 r}(h:e337 qq p0=some r):K337 p0 r Ct:=by
 unfold e337 at h
 rcases spl h with⟨h1,h⟩|⟨h1,h⟩
 have k:=oB 1 h1 o0
 rcases spl h with⟨h2,h⟩|⟨h2,h⟩
 obtain rfl:=sj h
 exact k337 (tF q337 3 [] (oB 1 h2 k))
 obtain rfl:=sj h
 exact k337 (tF q337 0 [] (oB 1 h2 k))
 obtain rfl:=sj h
 exact k337 (tF q337 0 [] (oB 1 h1 o0))
def e338Lcc:Nat->(List Ent)->Int->Int->Int->Int->(List Tm)->Option (Int)
 |0,_,_,_,_,_,_=>none
 |qq+1,p0,p1,v5,vb0_0,vb0_1,vb0_2=>
 if vb0_0==3 then
 gidx vb0_2 1>>=fun x7=>
 e338Lcc qq p0 p1 (w64 (v5+1)) x7.k x7.n x7.sub
 else
 gidx p0 p1>>=fun x9=>
 some (w64 (v5-x9.pars))
def e338(qq:Nat)(p0:List Ent)(p1:Int):Option (Int):=
 if decide (p1<0)then
 some (-1)
 else
 if decide (p1≥(List.length p0:Int))then
 some (-1)
 else
 gidx p0 p1>>=fun x3=>
 if x3.kind != 2 then
 some (-1)
 else
 e338Lcc qq p0 p1 0 x3.type.k x3.type.n x3.type.sub
def g338LccE0(j:Nat->Value)(p0:List Ent)(p1 v5 vb0_0 vb0_1:Int)(vb0_2:List Tm):=sp j 45 0 [(0,slv entL p0 .no),(1,ai p1),(5,ai v5),(6,.mp 0 0)]
def g338LccS0(p0:List Ent)(p1 v5 vb0_0 vb0_1:Int)(vb0_2:List Tm):LSt:=⟨[(0,.cells [ai vb0_0,ai vb0_1,slv tmCells vb0_2 .no])],1,[],0,[]⟩
abbrev K338 (p0:List Ent) (p1 r:Int) (C:Cf):Prop:=C 338 [] [slv entL p0 .no,ai p1] (ai r) [] 0
theorem q338:Qf 338 Tryz.f338:=⟨Tryz.func338,by kernel_rfl⟩
theorem k338{p0 p1 r}(h:K338 p0 p1 r Ci):K338 p0 p1 r Ct:=⟨h,⟨⟨tv,dE _⟩,tv,tv⟩,forall_nil,tv,forall_nil⟩
theorem l338Lcc:∀qq:Nat,(∀p0 p1 v5 vb0_0 vb0_1 vb0_2 r,e338Lcc qq p0 p1 v5 vb0_0 vb0_1 vb0_2=some r->(∀j,Dl Tryz.prog 0 (inn (inn (rgt (lft (rgt (rgt (rgt (bod Tryz.f338)))))))) (g338LccE0 j p0 p1 v5 vb0_0 vb0_1 vb0_2) (g338LccS0 p0 p1 v5 vb0_0 vb0_1 vb0_2) (frameQ Tryz.prog 0 (FinQ Tryz.prog 0 Tryz.f338 (ai r) [] 0) [.blk 0,.seq (rgt (rgt (rgt (rgt (bod Tryz.f338)))))]))):=by
 intro qq
 induction qq with
 |zero=>
  exact fun _ _ _ _ _ _ _ h=>nn h
 |succ qq ih=>
  intro p0 p1 v5 vb0_0 vb0_1 vb0_2 r h
  rw[e338Lcc]at h
  rcases spl h with⟨h6,h⟩|⟨h6,h⟩
  obtain⟨x7,h8,h⟩:=obind h
  exact fun j=>lH 2 [] [1] [] [0,1,5,6] (oD (dE p0)<|oD (dT x7.sub)<|oA 4 (ix23 (o:=.no) h8)<|oB 1 h6 o0) (ih _ _ _ _ _ _ _ h)
  obtain⟨x9,h10,h⟩:=obind h
  obtain rfl:=sj h
  exact fun j=>lF 2 [] (oA 0 (ix22 (o:=.no) h10)<|oB 1 h6 o0)
theorem c338{qq p0 p1 r}(h:e338 qq p0 p1=some r):K338 p0 p1 r Ct:=by
 unfold e338 at h
 rcases spl h with⟨h1,h⟩|⟨h1,h⟩
 obtain rfl:=sj h
 exact k338 (tF q338 0 [] (oB 0 h1 o0))
 have k:=oB 0 h1 o0
 rcases spl h with⟨h2,h⟩|⟨h2,h⟩
 obtain rfl:=sj h
 exact k338 (tF q338 0 [] (oB 1 h2 k))
 obtain⟨x3,h4,h⟩:=obind h
 have k:=oA 0 (ix22 (o:=.no) h4)<|oB 1 h2 k
 rcases spl h with⟨h5,h⟩|⟨h5,h⟩
 obtain rfl:=sj h
 exact k338 (tF q338 0 [] (oB 1 h5 k))
 exact k338 (tH q338 2 [] [0] [] [0,1,5,6] (oD (dE p0)<|oD (dT x3.type.sub)<|oA 0 (ix22 (o:=.no) h4)<|oB 1 h5 k) (l338Lcc _ _ _ _ _ _ _ _ h))
mutual
def e339vacd:Nat->(List PatternPat)->(List Ent)->Option (Bool)
 |0,_,_=>none
 |qq+1,p0,q1=>
 e373vacd qq p0 q1>>=fun r1=>
 some (decide (r1≥0))
def e373vacd:Nat->(List PatternPat)->(List Ent)->Option (Int)
 |0,_,_=>none
 |qq+1,p0,q1=>
 e373vacdLce qq p0 q1 0
def e373vacdLce:Nat->(List PatternPat)->(List Ent)->Int->Option (Int)
 |0,_,_,_=>none
 |qq+1,p0,q1,v8=>
 if decide (v8<(List.length p0:Int))then
 gidx p0 v8>>=fun x2=>
 e340vacf qq (PatternPat.mk x2.kind_ x2.n_ x2.at_ x2.sub_ x2.t_) q1>>=fun r4=>
 if r4 then
 some v8
 else
 e373vacdLce qq p0 q1 (w64 (v8+1))
 else
 some (-1)
def e340vacf:Nat->PatternPat->(List Ent)->Option (Bool)
 |0,_,_=>none
 |qq+1,p0,q1=>
 e299vacg qq q1 (PatternPat.mk p0.kind_ p0.n_ p0.at_ p0.sub_ p0.t_)>>=fun r1=>
 some (!r1)
def e299vacg:Nat->(List Ent)->PatternPat->Option (Bool)
 |0,_,_=>none
 |qq+1,p0,p1=>
 if p1.kind_==1 then
 if decide (p1.n_≥0)then
 if decide (p1.n_≤1048576)then
 if (List.length p1.sub_:Int)==0 then
 e337 qq p1.t_>>=fun r5=>
 some r5
 else
 some false
 else
 some false
 else
 some false
 else
 if p1.kind_==3 then
 if p1.n_==0 then
 if (List.length p1.sub_:Int)==0 then
 e89 qq p1.t_>>=fun r10=>
 some r10
 else
 some false
 else
 some false
 else
 if p1.kind_==4 then
 if p1.n_==0 then
 if (List.length p1.sub_:Int)==0 then
 e337 qq p1.t_>>=fun r15=>
 some r15
 else
 some false
 else
 some false
 else
 if p1.kind_==2 then
 e338 qq p0 p1.n_>>=fun r18=>
 if r18 != (List.length p1.sub_:Int)then
 some false
 else
 e337 qq p1.t_>>=fun r21=>
 if r21 then
 e339vacd qq p1.sub_ p0>>=fun r24=>
 some (!r24)
 else
 some false
 else
 some false
end
def g373vacdLceE0(j:Nat->Value)(p0:List PatternPat)(q1:List Ent)(v8:Int):=sp j 19 0 [(0,slv patternPatC p0 .no),(1,.clo 340 [] [.mp 0 0]),(7,ai (List.length p0:Int)),(8,ai v8)]
def g373vacdLceS0(p0:List PatternPat)(q1:List Ent)(v8:Int):LSt:=⟨[(0,.cells [slv entL q1 .no])],1,[],0,[]⟩
abbrev K339vacd (p0:List PatternPat) (q1:List Ent) (r:Bool) (C:Cf):Prop:=C 339 [.cells [slv entL q1 .no]] [slv patternPatC p0 .no,.clo 340 [] [.mp 0 0]] (ab r) [.cells [slv entL q1 .no]] 0
abbrev K373vacd (p0:List PatternPat) (q1:List Ent) (r:Int) (C:Cf):Prop:=C 373 [.cells [slv entL q1 .no]] [slv patternPatC p0 .no,.clo 340 [] [.mp 0 0]] (ai r) [.cells [slv entL q1 .no]] 0
abbrev K340vacf (p0:PatternPat) (q1:List Ent) (r:Bool) (C:Cf):Prop:=C 340 [.cells [slv entL q1 .no]] [patternPatA p0,.mp 0 0] (ab r) [.cells [slv entL q1 .no]] 0
abbrev K299vacg (p0:List Ent) (p1:PatternPat) (r:Bool) (C:Cf):Prop:=C 299 [] [slv entL p0 .no,patternPatA p1] (ab r) [] 0
theorem q339vacd:Qf 339 Tryz.f339:=⟨Tryz.func339,by kernel_rfl⟩
theorem k339vacd{p0 q1 r}(h:K339vacd p0 q1 r Ci):K339vacd p0 q1 r Ct:=⟨h,⟨⟨tv,dPatternPat _⟩,⟨tv,⟨(lz rfl),tv⟩⟩,tv⟩,(forall_cons ⟨⟨tv,dE _⟩,tv⟩ forall_nil),tv,(forall_cons ⟨dE _,tv⟩ forall_nil)⟩
theorem q373vacd:Qf 373 Tryz.f373:=⟨Tryz.func373,by kernel_rfl⟩
theorem k373vacd{p0 q1 r}(h:K373vacd p0 q1 r Ci):K373vacd p0 q1 r Ct:=⟨h,⟨⟨tv,dPatternPat _⟩,⟨tv,⟨(lz rfl),tv⟩⟩,tv⟩,(forall_cons ⟨⟨tv,dE _⟩,tv⟩ forall_nil),tv,(forall_cons ⟨dE _,tv⟩ forall_nil)⟩
theorem q340vacf:Qf 340 Tryz.f340:=⟨Tryz.func340,by kernel_rfl⟩
theorem k340vacf{p0 q1 r}(h:K340vacf p0 q1 r Ci):K340vacf p0 q1 r Ct:=⟨h,⟨⟨tv,tv,tv,⟨tv,dPatternPat _⟩,tv,tv,⟨tv,dT _⟩,tv⟩,(lz rfl),tv⟩,(forall_cons ⟨⟨tv,dE _⟩,tv⟩ forall_nil),tv,(forall_cons ⟨dE _,tv⟩ forall_nil)⟩
theorem q299vacg:Qf 299 Tryz.f299:=⟨Tryz.func299,by kernel_rfl⟩
theorem k299vacg{p0 p1 r}(h:K299vacg p0 p1 r Ci):K299vacg p0 p1 r Ct:=⟨h,⟨⟨tv,dE _⟩,⟨tv,tv,tv,⟨tv,dPatternPat _⟩,tv,tv,⟨tv,dT _⟩,tv⟩,tv⟩,forall_nil,tv,forall_nil⟩
theorem a339vacd_373vacd_373vacdLce_340vacf_299vacg:∀qq:Nat,(∀p0 q1 r,e339vacd qq p0 q1=some r->K339vacd p0 q1 r Ct)∧(∀p0 q1 r,e373vacd qq p0 q1=some r->K373vacd p0 q1 r Ct)∧(∀p0 q1 v8 r,e373vacdLce qq p0 q1 v8=some r->(∀j,Dl Tryz.prog 1 (inn (inn (rgt (lft (rgt (bod Tryz.f373)))))) (g373vacdLceE0 j p0 q1 v8) (g373vacdLceS0 p0 q1 v8) (frameQ Tryz.prog 1 (FinQ Tryz.prog 1 Tryz.f373 (ai r) [.cells [slv entL q1 .no]] 0) [.blk 0,.seq (rgt (rgt (bod Tryz.f373)))])))∧(∀p0 q1 r,e340vacf qq p0 q1=some r->K340vacf p0 q1 r Ct)∧(∀p0 p1 r,e299vacg qq p0 p1=some r->K299vacg p0 p1 r Ct):=by
 intro qq
 induction qq with
 |zero=>
  exact⟨fun _ _ _ h=>nn h,fun _ _ _ h=>nn h,fun _ _ _ _ h=>nn h,fun _ _ _ h=>nn h,fun _ _ _ h=>nn h⟩
 |succ qq ih=>
  obtain⟨ih339vacd,ih373vacd,ih373vacdLce,ih340vacf,ih299vacg⟩:=ih
  refine⟨?_,?_,?_,?_,?_⟩
  intro p0 q1 r h
  rw[e339vacd]at h
  obtain⟨r1,h2,h⟩:=obind h
  obtain rfl:=sj h
  exact k339vacd (tF q339vacd 1 [0] (oD (dE q1)<|oC 0 [0] (ih373vacd _ _ _ h2) o0))
  intro p0 q1 r h
  rw[e373vacd]at h
  exact k373vacd (tH q373vacd 1 [] [0] [] [0,1,7,8] (oD (dPatternPat p0)<|oD (dE q1) o0) (ih373vacdLce _ _ _ _ h))
  intro p0 q1 v8 r h
  rw[e373vacdLce]at h
  rcases spl h with⟨h1,h⟩|⟨h1,h⟩
  obtain⟨x2,h3,h⟩:=obind h
  obtain⟨r4,h5,h⟩:=obind h
  have k:=oA 0 (ix106 (o:=.no) h3)<|oB 0 h1 o0
  rcases spl h with⟨h6,h⟩|⟨h6,h⟩
  obtain rfl:=sj h
  exact fun j=>lF 0 [0] (oD (dE q1)<|oK 1 [0] h6 (ih340vacf _ _ _ h5) k)
  exact fun j=>lH 1 [] [0] [] [0,1,7,8] (oD (dPatternPat p0)<|oD (dE q1)<|oK 1 [0] h6 (ih340vacf _ _ _ h5) k) (ih373vacdLce _ _ _ _ h)
  obtain rfl:=sj h
  exact fun j=>lF 0 [0] (oD (dE q1)<|oB 0 h1 o0)
  intro p0 q1 r h
  rw[e340vacf]at h
  obtain⟨r1,h2,h⟩:=obind h
  obtain rfl:=sj h
  exact k340vacf (tF q340vacf 1 [0] (oD (dE q1)<|oC 2 [] (ih299vacg _ _ _ h2) o0))
  intro p0 p1 r h
  rw[e299vacg]at h
  rcases spl h with⟨h1,h⟩|⟨h1,h⟩
  have k:=oB 1 h1 o0
  rcases spl h with⟨h2,h⟩|⟨h2,h⟩
  have k:=oB 1 h2 k
  rcases spl h with⟨h3,h⟩|⟨h3,h⟩
  have k:=oB 1 h3 k
  rcases spl h with⟨h4,h⟩|⟨h4,h⟩
  obtain⟨r5,h6,h⟩:=obind h
  obtain rfl:=sj h
  exact k299vacg (tF q299vacg 0 [] (oC 1 [] (c337 h6)<|oB 2 h4 k))
  obtain rfl:=sj h
  exact k299vacg (tF q299vacg 0 [] (oB 2 h4 k))
  obtain rfl:=sj h
  exact k299vacg (tF q299vacg 0 [] (oB 1 h3 k))
  obtain rfl:=sj h
  exact k299vacg (tF q299vacg 0 [] (oB 1 h2 k))
  have k:=oB 1 h1 o0
  rcases spl h with⟨h7,h⟩|⟨h7,h⟩
  have k:=oB 0 h7 k
  rcases spl h with⟨h8,h⟩|⟨h8,h⟩
  have k:=oB 1 h8 k
  rcases spl h with⟨h9,h⟩|⟨h9,h⟩
  obtain⟨r10,h11,h⟩:=obind h
  obtain rfl:=sj h
  exact k299vacg (tF q299vacg 0 [] (oC 1 [] (c89 h11)<|oB 2 h9 k))
  obtain rfl:=sj h
  exact k299vacg (tF q299vacg 0 [] (oB 2 h9 k))
  obtain rfl:=sj h
  exact k299vacg (tF q299vacg 0 [] (oB 1 h8 k))
  have k:=oB 0 h7 k
  rcases spl h with⟨h12,h⟩|⟨h12,h⟩
  have k:=oB 0 h12 k
  rcases spl h with⟨h13,h⟩|⟨h13,h⟩
  have k:=oB 1 h13 k
  rcases spl h with⟨h14,h⟩|⟨h14,h⟩
  obtain⟨r15,h16,h⟩:=obind h
  obtain rfl:=sj h
  exact k299vacg (tF q299vacg 0 [] (oC 1 [] (c337 h16)<|oB 2 h14 k))
  obtain rfl:=sj h
  exact k299vacg (tF q299vacg 0 [] (oB 2 h14 k))
  obtain rfl:=sj h
  exact k299vacg (tF q299vacg 0 [] (oB 1 h13 k))
  have k:=oB 0 h12 k
  rcases spl h with⟨h17,h⟩|⟨h17,h⟩
  obtain⟨r18,h19,h⟩:=obind h
  have k:=oC 2 [] (c338 h19)<|oB 0 h17 k
  rcases spl h with⟨h20,h⟩|⟨h20,h⟩
  obtain rfl:=sj h
  exact k299vacg (tF q299vacg 0 [] (oB 2 h20 k))
  obtain⟨r21,h22,h⟩:=obind h
  have k:=oB 2 h20 k
  rcases spl h with⟨h23,h⟩|⟨h23,h⟩
  obtain⟨r24,h25,h⟩:=obind h
  obtain rfl:=sj h
  exact k299vacg (tF q299vacg 1 [] (oC 2 [0] (ih339vacd _ _ _ h25)<|oK 1 [] h23 (c337 h22) k))
  obtain rfl:=sj h
  exact k299vacg (tF q299vacg 1 [] (oK 1 [] h23 (c337 h22) k))
  obtain rfl:=sj h
  exact k299vacg (tF q299vacg 0 [] (oB 0 h17 k))
theorem c299vacg{qq p0 p1 r}(h:e299vacg qq p0 p1=some r):K299vacg p0 p1 r Ct:=(a339vacd_373vacd_373vacdLce_340vacf_299vacg _).2.2.2.2 _ _ _ h
theorem pp_eta(p:PatternPat):PatternPat.mk p.kind_ p.n_ p.at_ p.sub_ p.t_=p:=by cases p;rfl
mutual
def okPt:PatternPat->Prop
 | .mk _ _ _ sub t=>sub.length≤17592186044416∧okPs sub∧t.Ok
def okPs:List PatternPat->Prop
 | []=>True
 |p::ps=>okPt p∧okPs ps
end
theorem okPs_of:∀ {l:List PatternPat},(∀k∈l,okPt k)->okPs l
 | [],_=>trivial
 |k::l,h=>by rw[okPs];exact⟨h k (by simp),okPs_of fun x hx=>h x (by simp[hx])⟩
theorem okPs_at:∀ {l:List PatternPat},okPs l->∀k∈l,okPt k
 | [],_,_,h=>nomatch h
 |k::l,h,x,hx=>by
  rw[okPs]at h
  rcases List.mem_cons.1 hx with rfl|hx
  ·exact h.1
  ·exact okPs_at h.2 x hx
def okC(c:ClauseClause):Prop:=c.pats_.length≤17592186044416∧okPs c.pats_∧c.body_.Ok
mutual
def ndP:PatternPat->Nat
 | .mk _ _ _ sub _=>1+ndPs sub
def ndPs:List PatternPat->Nat
 | []=>0
 |p::ps=>ndP p+ndPs ps
end
theorem ndP_sub(p:PatternPat):ndP p=1+ndPs p.sub_:=by cases p;rw[ndP];rfl
theorem ndPs_mem:∀ {l:List PatternPat} {p:PatternPat},p∈l->ndP p≤ndPs l
 | [],_,h=>nomatch h
 |x::l,p,h=>by
  rw[ndPs]
  rcases List.mem_cons.1 h with rfl|h
  ·omega
  ·have:=ndPs_mem h;omega
theorem ndPs_len:∀l:List PatternPat,l.length≤ndPs l
 | []=>by simp
 |x::l=>by rw[ndPs,ndP_sub];have:=ndPs_len l;simp;omega
def ariT(l:List Ent)(n:Int):Int:=if 0≤n∧n<l.length∧(ent l n).kind=2 then pisT (ent l n).type-(ent l n).pars else -1
theorem ev_arityL(l:List Ent)(n:Int)(h0:0≤n)(h1:n<l.length)(tot:Int)(ht:tot≤8192)(hp:0≤(ent l n).pars∧(ent l n).pars≤24) :
  ∀(m:Nat) (t:Tm) (v:Int),t.nodes≤m->goodT t=true->0≤v->v+pisT t=tot->Evt (fun q=>e338Lcc q l n v t.k t.n t.sub) (tot-(ent l n).pars):=by
 intro m
 induction m with
 |zero=>intro t v h;have:=nodes_pos t;omega
 |succ m ih=>
  intro t v hm hg hv0 hv
  refine Evt.succ ?_
  simp only[e338Lcc]
  by_cases k:t.k=3
  ·obtain⟨x,y,e,hx,hy⟩:=pi_form hg k
   rw[e]at hv hm ⊢
   rw[pisT_pi]at hv
   refine Evt.ifT (by simp[Tm.k]) (Evt.pure (a:=y) (by simp[gidx,Tm.sub]) ?_)
   rw[w64_id (x:=v+1) (by omega) (by omega)]
   refine ih y (v+1) ?_ hy (by omega) (by omega)
   rw[Tm.nodes,nodesL,nodesL,nodesL]at hm
   have:=nodes_pos x
   omega
  ·rw[pisT_k k]at hv
   refine Evt.ifF (by simp[k]) (Evt.pure (gidx_ent h0 h1) (Evt.ret.eq ?_))
   rw[w64_id (by omega) (by omega)];omega
theorem ev_arity{N:ByteArray->Bool}{l:List Ent}(hE:AllE N l)(n:Int):Evt (fun q=>e338 q l n) (ariT l n):=by
 simp only[e338]
 unfold ariT
 by_cases h0:0≤n
 ·by_cases h1:n<l.length
  ·by_cases hk:(ent l n).kind=2
   ·rw[if_pos ⟨h0,h1,hk⟩]
    have hs:=entryT_spec (hE.2 n h0 h1)
    have hsh:=(shapedT_spec (closed_shaped hs.1))
    have hp:pisT (ent l n).type≤8192:=Nat.le_trans (pis_nodes _ hsh.2.2) hsh.1
    obtain⟨A,y,-,-,-,a3,a4,a5,a6,-⟩:=con_facts hE h0 h1 hk
    refine Evt.ifF (decide_eq_false (by omega)) (Evt.ifF (decide_eq_false (by omega)) (Evt.pure (gidx_ent h0 h1) (Evt.ifF (by simp[hk]) ?_)))
    exact ev_arityL l n h0 h1 (pisT (ent l n).type) (by omega) ⟨a5,by omega⟩ _ _ 0 (Nat.le_refl _) hsh.2.2 (by omega) (by omega)
   ·rw[if_neg fun h=>hk h.2.2]
    exact Evt.ifF (decide_eq_false (by omega)) (Evt.ifF (decide_eq_false (by omega)) (Evt.pure (gidx_ent h0 h1) (Evt.ifT (by simp[hk]) Evt.ret)))
  ·rw[if_neg fun h=>h1 h.2.1]
   exact Evt.ifF (decide_eq_false (by omega)) (Evt.ifT (decide_eq_true (by omega)) Evt.ret)
 ·rw[if_neg fun h=>h0 h.1]
  exact Evt.ifT (decide_eq_true (by omega)) Evt.ret
mutual
def GP(l:List Ent):PatternPat->Prop
 | .mk k n _ sub _=>(k≠1->k≠3->k≠4->k=2∧ariT l n=sub.length)∧GPs l sub
def GPs(l:List Ent):List PatternPat->Prop
 | []=>True
 |p::ps=>GP l p∧GPs l ps
end
theorem GPs_at{l:List Ent}:∀ {ps:List PatternPat},GPs l ps->∀k∈ps,GP l k
 | [],_,_,h=>nomatch h
 |k::ps,h,x,hx=>by
  rw[GPs]at h
  rcases List.mem_cons.1 hx with rfl|hx
  ·exact h.1
  ·exact GPs_at h.2 x hx
theorem GPs_nil(l:List Ent):GPs l []:=by rw[GPs];trivial
end Go.Proofs.YtmfcobjnlabpoaaGreat
namespace Go.Proofs.YtmfcobjnlabpoaaGreat
open Go Go.Ab Go.RowKit Go.Proofs
theorem lisX7{α:Type}(l:List α)(h:l.length=7):∃c0 c1 c2 c3 c4 c5 c6,l=[c0,c1,c2,c3,c4,c5,c6]:=by
 rcases l with _|⟨c0,_|⟨c1,_|⟨c2,_|⟨c3,_|⟨c4,_|⟨c5,_|⟨c6,_|⟨zz,zs⟩⟩⟩⟩⟩⟩⟩⟩<;>simp only[List.length_nil,List.length_cons]at h<;>first|exact⟨c0,c1,c2,c3,c4,c5,c6,rfl⟩|omega
theorem lisX5{α:Type}(l:List α)(h:l.length=5):∃c0 c1 c2 c3 c4,l=[c0,c1,c2,c3,c4]:=by
 rcases l with _|⟨c0,_|⟨c1,_|⟨c2,_|⟨c3,_|⟨c4,_|⟨zz,zs⟩⟩⟩⟩⟩⟩<;>simp only[List.length_nil,List.length_cons]at h<;>first|exact⟨c0,c1,c2,c3,c4,rfl⟩|omega
theorem rdx_PatternPat{H:Type}{enc:TypeId×Value->H}{W:World}:∀fuel:Nat,∀(cs:List Value) (x:DataW H×List MemPlace),DataW.trod enc Tryz.prog W 0 (fun _=>true) true fuel 196 cs=some x->Wt Tryz.prog 196 x.1->∃e:PatternPat,VL (rdG W) W (patternPatC e) cs∧okPt e:=by
 intro fuel
 induction fuel using Nat.strongRecOn with
 |ind fuel ih=>
  intro cs x h hw
  obtain⟨xs,n,hn,hx,hlen,hxs,hf⟩:=DataW.trod_struct Tryz.underlying196 h
  rw[hx]at hw
  have cc:Tryz.prog.cellsOf 196=7:=by kernel_rfl
  obtain⟨c0,c1,c2,c3,c4,c5,c6,rfl⟩:=lisX7 cs (hlen.trans cc)
  obtain⟨y0,y1,y2,y3,y4,rfl⟩:=lisX5 xs hxs
  have k3:Tryz.prog.cellsOf 3=1:=by kernel_rfl
  have k25:Tryz.prog.cellsOf 25=3:=by kernel_rfl
  have k106:Tryz.prog.cellsOf 106=1:=by kernel_rfl
  have f0:DataW.trod enc Tryz.prog W 0 (fun _=>true) true n 3 ((List.drop 0 [c0,c1,c2,c3,c4,c5,c6]).take (Tryz.prog.cellsOf 3))=some y0:=hf 0 _ rfl
  rw[k3]at f0
  replace f0:DataW.trod enc Tryz.prog W 0 (fun _=>true) true n 3 [c0]=some y0:=f0
  have w0:Wt Tryz.prog 3 y0.1:=wt_field Tryz.underlying196 hw (i:=0) rfl rfl
  have f1:DataW.trod enc Tryz.prog W 0 (fun _=>true) true n 3 ((List.drop 1 [c0,c1,c2,c3,c4,c5,c6]).take (Tryz.prog.cellsOf 3))=some y1:=hf 1 _ rfl
  rw[k3]at f1
  replace f1:DataW.trod enc Tryz.prog W 0 (fun _=>true) true n 3 [c1]=some y1:=f1
  have w1:Wt Tryz.prog 3 y1.1:=wt_field Tryz.underlying196 hw (i:=1) rfl rfl
  have f2:DataW.trod enc Tryz.prog W 0 (fun _=>true) true n 3 ((List.drop 2 [c0,c1,c2,c3,c4,c5,c6]).take (Tryz.prog.cellsOf 3))=some y2:=hf 2 _ rfl
  rw[k3]at f2
  replace f2:DataW.trod enc Tryz.prog W 0 (fun _=>true) true n 3 [c2]=some y2:=f2
  have w2:Wt Tryz.prog 3 y2.1:=wt_field Tryz.underlying196 hw (i:=2) rfl rfl
  have f3:DataW.trod enc Tryz.prog W 0 (fun _=>true) true n 106 ((List.drop 3 [c0,c1,c2,c3,c4,c5,c6]).take (Tryz.prog.cellsOf 106))=some y3:=hf 3 _ rfl
  rw[k106]at f3
  replace f3:DataW.trod enc Tryz.prog W 0 (fun _=>true) true n 106 [c3]=some y3:=f3
  have w3:Wt Tryz.prog 106 y3.1:=wt_field Tryz.underlying196 hw (i:=3) rfl rfl
  have f4:DataW.trod enc Tryz.prog W 0 (fun _=>true) true n 25 ((List.drop 4 [c0,c1,c2,c3,c4,c5,c6]).take (Tryz.prog.cellsOf 25))=some y4:=hf 4 _ rfl
  rw[k25]at f4
  replace f4:DataW.trod enc Tryz.prog W 0 (fun _=>true) true n 25 [c4,c5,c6]=some y4:=f4
  have w4:Wt Tryz.prog 25 y4.1:=wt_field Tryz.underlying196 hw (i:=4) rfl rfl
  obtain⟨n0,e0,-,-⟩:=DataW.trod_int Tryz.underlying3 f0
  cases e0
  obtain⟨n1,e1,-,-⟩:=DataW.trod_int Tryz.underlying3 f1
  cases e1
  obtain⟨n2,e2,-,-⟩:=DataW.trod_int Tryz.underlying3 f2
  cases e2
  obtain⟨l3,v3,o3,b3⟩:=rd_sliceG patternPatC 7 codecPatternPat.len (by omega) (Q:=okPt) Tryz.underlying106 (by kernel_rfl) (fun m hm cs x h hw=>(ih m (by omega)) cs x h hw) (n:=n) f3 w3
  have b3:l3.length≤17592186044416:=by
   have hb:Tryz.prog.bytesOf 196=88:=by kernel_rfl
   rw[hb]at b3
   have:reachBytes=140737488351232:=rfl
   omega
  rw[←patternPats_flat]at v3
  obtain⟨l4,v4,o4⟩:=rd_term n _ _ f4
  simp only[tmL,VL]at v4
  refine⟨PatternPat.mk n0 n1 n2 l3 l4,?_,by rw[okPt];exact⟨b3,okPs_of o3,o4⟩⟩
  rw[patternPatC]
  simp only[VL]
  exact⟨by simp only[V],by simp only[V],by simp only[V],v3,v4.1,v4.2.1,v4.2.2.1,trivial⟩
theorem lisX3{α:Type}(l:List α)(h:l.length=3):∃c0 c1 c2,l=[c0,c1,c2]:=by
 rcases l with _|⟨c0,_|⟨c1,_|⟨c2,_|⟨zz,zs⟩⟩⟩⟩<;>simp only[List.length_nil,List.length_cons]at h<;>first|exact⟨c0,c1,c2,rfl⟩|omega
theorem rdx_ClauseClause{H:Type}{enc:TypeId×Value->H}{W:World}(fuel:Nat):∀(cs:List Value) (x:DataW H×List MemPlace),DataW.trod enc Tryz.prog W 0 (fun _=>true) true fuel 108 cs=some x->Wt Tryz.prog 108 x.1->∃e:ClauseClause,VL (rdG W) W (clauseClauseL e) cs∧okC e:=by
 intro cs x h hw
 obtain⟨xs,n,hn,hx,hlen,hxs,hf⟩:=DataW.trod_struct Tryz.underlying108 h
 rw[hx]at hw
 have cc:Tryz.prog.cellsOf 108=5:=by kernel_rfl
 obtain⟨c0,c1,c2,c3,c4,rfl⟩:=lisX5 cs (hlen.trans cc)
 obtain⟨y0,y1,y2,rfl⟩:=lisX3 xs hxs
 have k4:Tryz.prog.cellsOf 4=1:=by kernel_rfl
 have k25:Tryz.prog.cellsOf 25=3:=by kernel_rfl
 have k106:Tryz.prog.cellsOf 106=1:=by kernel_rfl
 have f0:DataW.trod enc Tryz.prog W 0 (fun _=>true) true n 106 ((List.drop 0 [c0,c1,c2,c3,c4]).take (Tryz.prog.cellsOf 106))=some y0:=hf 0 _ rfl
 rw[k106]at f0
 replace f0:DataW.trod enc Tryz.prog W 0 (fun _=>true) true n 106 [c0]=some y0:=f0
 have w0:Wt Tryz.prog 106 y0.1:=wt_field Tryz.underlying108 hw (i:=0) rfl rfl
 have f1:DataW.trod enc Tryz.prog W 0 (fun _=>true) true n 4 ((List.drop 1 [c0,c1,c2,c3,c4]).take (Tryz.prog.cellsOf 4))=some y1:=hf 1 _ rfl
 rw[k4]at f1
 replace f1:DataW.trod enc Tryz.prog W 0 (fun _=>true) true n 4 [c1]=some y1:=f1
 have w1:Wt Tryz.prog 4 y1.1:=wt_field Tryz.underlying108 hw (i:=1) rfl rfl
 have f2:DataW.trod enc Tryz.prog W 0 (fun _=>true) true n 25 ((List.drop 2 [c0,c1,c2,c3,c4]).take (Tryz.prog.cellsOf 25))=some y2:=hf 2 _ rfl
 rw[k25]at f2
 replace f2:DataW.trod enc Tryz.prog W 0 (fun _=>true) true n 25 [c2,c3,c4]=some y2:=f2
 have w2:Wt Tryz.prog 25 y2.1:=wt_field Tryz.underlying108 hw (i:=2) rfl rfl
 obtain⟨l0,v0,o0,b0⟩:=rd_sliceG patternPatC 7 codecPatternPat.len (by omega) (Q:=okPt) Tryz.underlying106 (by kernel_rfl) (fun m _ cs x h hw=>rdx_PatternPat m cs x h hw) (n:=n) f0 w0
 have b0:l0.length≤17592186044416:=by
  have hb:Tryz.prog.bytesOf 196=88:=by kernel_rfl
  rw[hb]at b0
  have:reachBytes=140737488351232:=rfl
  omega
 obtain⟨n1,e1,-⟩:=DataW.trod_bool Tryz.underlying4 f1
 cases e1
 obtain⟨l2,v2,o2⟩:=rd_term n _ _ f2
 simp only[tmL,VL]at v2
 refine⟨ClauseClause.mk l0 n1 l2,?_,⟨b0,okPs_of o0,o2⟩⟩
 simp only[clauseClauseL]
 simp only[VL]
 exact⟨v0,by simp only[V],v2.1,v2.2.1,v2.2.2.1,trivial⟩
theorem rd_Clauses{H:Type}{enc:TypeId×Value->H}{W:World}{v:Value}{d:DataW H}{p:List MemPlace}(hv:∃(q:Option Addr) (m c:Nat),v = .slice q m c)(h:DataW.Trod enc Tryz.prog W 0 (fun _=>true) true 91 v d p)(hw:Wt Tryz.prog 91 d):∃l:List ClauseClause,V (rdG W) W (.sl (flat clauseClauseL l) l.length .no) v∧(∀e∈l,okC e)∧l.length≤17592186044416:=by
 obtain⟨q,m,c,rfl⟩:=hv
 obtain⟨fuel,hf⟩:=h
 obtain⟨l,h1,h2,h3⟩:=rd_sliceG clauseClauseL 5 codecClauseClause.len (by omega) (Q:=okC) Tryz.underlying91 (by kernel_rfl) (fun m _ cs x h hw=>rdx_ClauseClause m cs x h hw) (n:=fuel) (by simpa[Value.cells]using hf) hw
 refine⟨l,h1,h2,?_⟩
 have:Tryz.prog.bytesOf 108=72:=by kernel_rfl
 rw[this]at h3
 have:reachBytes=140737488351232:=rfl
 omega
mutual
def e114:Nat->PatternPat->Int->Option (R24Pat×Int)
 |0,_,_=>none
 |qq+1,p0,p1=>
 e114Lch qq p0 (w64 (p1-1)) 0 []
def e114Lch:Nat->PatternPat->Int->Int->(List R24Pat)->Option (R24Pat×Int)
 |0,_,_,_,_=>none
 |qq+1,p0,v1,v7,vb2_3=>
 if decide (v7<(List.length p0.sub_:Int))then
 if decide (v1>(-9000))then
 gidx p0.sub_ v7>>=fun x3=>
 e114 qq (PatternPat.mk x3.kind_ x3.n_ x3.at_ x3.sub_ x3.t_) v1>>=fun r5=>
 gapp 88 vb2_3 [(R24Pat.mk r5.1.kind_ r5.1.n_ r5.1.at_ r5.1.sub_ r5.1.t_)]>>=fun l7=>
 e114Lch qq p0 r5.2 (w64 (v7+1)) l7
 else
 some ((R24Pat.mk p0.kind_ p0.n_ p0.at_ vb2_3 p0.t_),v1)
 else
 some ((R24Pat.mk p0.kind_ p0.n_ p0.at_ vb2_3 p0.t_),v1)
end
def g114LchE0(j:Nat->Value)(p0:PatternPat)(v1 v7:Int)(vb2_3:List R24Pat):=sp j 51 0 [(1,ai v1),(2,.mp 0 0),(4,.mp 1 0),(6,.mp 2 0),(7,ai v7)]
def g114LchS0(p0:PatternPat)(v1 v7:Int)(vb2_3:List R24Pat):LSt:=⟨[(0,.cells [ai p0.kind_,ai p0.n_,ai p0.at_,slv patternPatC p0.sub_ .no,ai p0.t_.k,ai p0.t_.n,slv tmCells p0.t_.sub .no]),(1,.cells [ai 0,ai 0,ai 0,slv r24PatC ([]:List R24Pat) .nl,ai 0,ai 0,slv tmCells ([]:List Tm) .nl]),(2,.cells [ai p0.kind_,ai p0.n_,ai p0.at_,slv r24PatC vb2_3 (.st 0 7),ai p0.t_.k,ai p0.t_.n,slv tmCells p0.t_.sub .no])],3,[0],1,[]⟩
abbrev K114 (p0:PatternPat) (p1:Int) (r:R24Pat×Int) (C:Cf):Prop:=C 114 [] [patternPatA p0,ai p1] (.tup [r24PatA (R24Pat.mk r.1.kind_ r.1.n_ r.1.at_ r.1.sub_ r.1.t_),ai r.2]) [] 0
theorem q114:Qf 114 Tryz.f114:=⟨Tryz.func114,by kernel_rfl⟩
theorem k114{p0 p1 r}(h:K114 p0 p1 r Ci):K114 p0 p1 r Ct:=⟨h,⟨⟨tv,tv,tv,⟨tv,dPatternPat _⟩,tv,tv,⟨tv,dT _⟩,tv⟩,tv,tv⟩,forall_nil,⟨⟨tv,tv,tv,dR24Pat _,tv,tv,dT _,tv⟩,tv,tv⟩,forall_nil⟩
theorem a114_114Lch:∀qq:Nat,(∀p0 p1 r,e114 qq p0 p1=some r->K114 p0 p1 r Ct)∧(∀p0 v1 v7 vb2_3 r,e114Lch qq p0 v1 v7 vb2_3=some r->(∀j,Dl Tryz.prog 0 (inn (inn (rgt (lft (rgt (rgt (rgt (bod Tryz.f114)))))))) (g114LchE0 j p0 v1 v7 vb2_3) (g114LchS0 p0 v1 v7 vb2_3) (frameQ Tryz.prog 0 (FinQ Tryz.prog 0 Tryz.f114 (.tup [r24PatA (R24Pat.mk r.1.kind_ r.1.n_ r.1.at_ r.1.sub_ r.1.t_),ai r.2]) [] 0) [.blk 0,.seq (rgt (rgt (rgt (rgt (bod Tryz.f114)))))]))):=by
 intro qq
 induction qq with
 |zero=>
  exact⟨fun _ _ _ h=>nn h,fun _ _ _ _ _ h=>nn h⟩
 |succ qq ih=>
  obtain⟨ih114,ih114Lch⟩:=ih
  refine⟨?_,?_⟩
  intro p0 p1 r h
  rw[e114]at h
  exact k114 (tH q114 6 [(some 2,3,7)] [0,1,2] [0] [1,2,4,6,7] (oD (dT p0.t_.sub)<|oD (dR24Pat ([]:List R24Pat))<|oD (dT ([]:List Tm))<|oD (dR24Pat ([]:List R24Pat))<|oD (dT p0.t_.sub)<|oD (dPatternPat p0.sub_) o0) (ih114Lch _ _ _ _ _ h))
  intro p0 v1 v7 vb2_3 r h
  rw[e114Lch]at h
  rcases spl h with⟨h1,h⟩|⟨h1,h⟩
  have k:=oB 2 h1 o0
  rcases spl h with⟨h2,h⟩|⟨h2,h⟩
  obtain⟨x3,h4,h⟩:=obind h
  obtain⟨r5,h6,h⟩:=obind h
  obtain⟨l7,h8,h⟩:=obind h
  exact fun j=>lH 2 [] [0,1,2] [1] [1,2,4,6,7] (oD (dT p0.t_.sub)<|oD (dR24Pat l7)<|oD (dT ([]:List Tm))<|oD (dR24Pat ([]:List R24Pat))<|oD (dT p0.t_.sub)<|oD (dPatternPat p0.sub_)<|oP 0 (apS97 h8 (by simp))<|oS 5 (obLitR r24Pat_eq [(R24Pat.mk r5.1.kind_ r5.1.n_ r5.1.at_ r5.1.sub_ r5.1.t_)])<|oC 1 [] (ih114 _ _ _ h6)<|oA 1 (ix106 (o:=.no) h4)<|oB 0 h2 k) (ih114Lch _ _ _ _ _ h)
  obtain rfl:=sj h
  exact fun j=>lF 2 [] (oD (dT p0.t_.sub)<|oD (dR24Pat vb2_3)<|oB 0 h2 k)
  obtain rfl:=sj h
  exact fun j=>lF 2 [] (oD (dT p0.t_.sub)<|oD (dR24Pat vb2_3)<|oB 2 h1 o0)
theorem c114{qq p0 p1 r}(h:e114 qq p0 p1=some r):K114 p0 p1 r Ct:=(a114_114Lch _).1 _ _ _ h
def e184(qq:Nat)(M:Mach):Option (List Ent):=
 e88 qq M.l>>=fun r1=>
 some r1
abbrev K184 (M:Mach) (r:List Ent) (C:Cf):Prop:=C 184 [mB M 1,mR M] [.mp 0 0] (.sl (flat entL r) (List.length r) .no) [mB M 1,mR M] 0
theorem q184:Qf 184 Tryz.f184:=⟨Tryz.func184,by kernel_rfl⟩
theorem k184{M r}(h:K184 M r Ci):K184 M r Ct:=⟨h,⟨(lz rfl),tv⟩,(forall_cons ⟨⟨tv,dE _⟩,(lz rfl),⟨tv,dI _⟩,⟨tv,dI _⟩,tv⟩ (forall_cons ⟨⟨tv,dE _⟩,⟨tv,dC _⟩,tv⟩ forall_nil)),dE _,(forall_cons ⟨dE _,(lz rfl),dI _,dI _,tv⟩ (forall_cons ⟨dE _,dC _,tv⟩ forall_nil))⟩
theorem c184{qq M r}(h:e184 qq M=some r):K184 M r Ct:=by
 unfold e184 at h
 obtain⟨r1,h2,h⟩:=obind h
 obtain rfl:=sj h
 exact k184 (tF q184 0 [0,1] (oD (dE r1)<|oD (dC M.parts)<|oD (dE M.rl)<|oD (dI M.own)<|oD (dI M.args)<|oD (dE M.l)<|oC 2 [] (c88 h2) o0))
def e242(qq:Nat)(p0:List Ent)(p1:PatternPat):Option (Bool):=
 e157 qq p0>>=fun r1=>
 if r1 then
 e298 qq (PatternPat.mk p1.kind_ p1.n_ p1.at_ p1.sub_ p1.t_)>>=fun r4=>
 if r4 then
 e299vacg qq p0 (PatternPat.mk p1.kind_ p1.n_ p1.at_ p1.sub_ p1.t_)>>=fun r7=>
 some r7
 else
 some false
 else
 some false
abbrev K242 (p0:List Ent) (p1:PatternPat) (r:Bool) (C:Cf):Prop:=C 242 [] [slv entL p0 .no,patternPatA p1] (ab r) [] 0
theorem q242:Qf 242 Tryz.f242:=⟨Tryz.func242,by kernel_rfl⟩
theorem k242{p0 p1 r}(h:K242 p0 p1 r Ci):K242 p0 p1 r Ct:=⟨h,⟨⟨tv,dE _⟩,⟨tv,tv,tv,⟨tv,dPatternPat _⟩,tv,tv,⟨tv,dT _⟩,tv⟩,tv⟩,forall_nil,tv,forall_nil⟩
theorem c242{qq p0 p1 r}(h:e242 qq p0 p1=some r):K242 p0 p1 r Ct:=by
 unfold e242 at h
 obtain⟨r1,h2,h⟩:=obind h
 rcases spl h with⟨h3,h⟩|⟨h3,h⟩
 obtain⟨r4,h5,h⟩:=obind h
 have k:=oK 0 [] h3 (c157 h2) o0
 rcases spl h with⟨h6,h⟩|⟨h6,h⟩
 obtain⟨r7,h8,h⟩:=obind h
 obtain rfl:=sj h
 exact k242 (tF q242 0 [] (oC 1 [] (c299vacg h8)<|oK 1 [] h6 (c298 h5) k))
 obtain rfl:=sj h
 exact k242 (tF q242 0 [] (oK 1 [] h6 (c298 h5) k))
 obtain rfl:=sj h
 exact k242 (tF q242 0 [] (oK 0 [] h3 (c157 h2) o0))
def e185Lci:Nat->(List Ent)->ClauseClause->Int->Option (Bool)
 |0,_,_,_=>none
 |qq+1,p0,p1,v23=>
 if decide (v23<(List.length p1.pats_:Int))then
 gidx p1.pats_ v23>>=fun x6=>
 e242 qq p0 (PatternPat.mk x6.kind_ x6.n_ x6.at_ x6.sub_ x6.t_)>>=fun r8=>
 if r8 then
 e185Lci qq p0 p1 (w64 (v23+1))
 else
 some false
 else
 if p1.has_ then
 e243 qq p1.pats_>>=fun r12=>
 e107 qq p1.body_ (List.length r12:Int) (List.length p0:Int)>>=fun r14=>
 if r14 then
 e174 qq p1.body_>>=fun r17=>
 some ((List.length r17:Int)==0)
 else
 some false
 else
 if p1.body_.k==0 then
 if p1.body_.n==0 then
 some ((List.length p1.body_.sub:Int)==0)
 else
 some false
 else
 some false
def e185(qq:Nat)(p0:List Ent)(p1:ClauseClause)(p2:Int):Option (Bool):=
 if (List.length p1.pats_:Int) != p2 then
 some false
 else
 e241 qq p1.pats_>>=fun r2=>
 if r2 then
 e185Lci qq p0 p1 0
 else
 some false
def g185LciE0(j:Nat->Value)(p0:List Ent)(p1:ClauseClause)(v23:Int):=sp j 68 0 [(0,slv entL p0 .no),(4,.mp 0 0),(21,slv patternPatC p1.pats_ .no),(22,ai (List.length p1.pats_:Int)),(23,ai v23)]
def g185LciS0(p0:List Ent)(p1:ClauseClause)(v23:Int):LSt:=⟨[(0,.cells [slv patternPatC p1.pats_ .no,ab p1.has_,ai p1.body_.k,ai p1.body_.n,slv tmCells p1.body_.sub .no])],1,[],0,[]⟩
abbrev K185 (p0:List Ent) (p1:ClauseClause) (p2:Int) (r:Bool) (C:Cf):Prop:=C 185 [] [slv entL p0 .no,clauseClauseA p1,ai p2] (ab r) [] 0
theorem q185:Qf 185 Tryz.f185:=⟨Tryz.func185,by kernel_rfl⟩
theorem k185{p0 p1 p2 r}(h:K185 p0 p1 p2 r Ci):K185 p0 p1 p2 r Ct:=⟨h,⟨⟨tv,dE _⟩,⟨⟨tv,dPatternPat _⟩,tv,tv,tv,⟨tv,dT _⟩,tv⟩,tv,tv⟩,forall_nil,tv,forall_nil⟩
theorem l185Lci:∀qq:Nat,(∀p0 p1 v23 r,e185Lci qq p0 p1 v23=some r->(∀j,Dl Tryz.prog 0 (inn (inn (rgt (lft (rgt (rgt (bod Tryz.f185))))))) (g185LciE0 j p0 p1 v23) (g185LciS0 p0 p1 v23) (frameQ Tryz.prog 0 (FinQ Tryz.prog 0 Tryz.f185 (ab r) [] 0) [.blk 0,.seq (rgt (rgt (rgt (bod Tryz.f185))))]))):=by
 intro qq
 induction qq with
 |zero=>
  exact fun _ _ _ _ h=>nn h
 |succ qq ih=>
  intro p0 p1 v23 r h
  rw[e185Lci]at h
  rcases spl h with⟨h5,h⟩|⟨h5,h⟩
  obtain⟨x6,h7,h⟩:=obind h
  obtain⟨r8,h9,h⟩:=obind h
  have k:=oA 0 (ix106 (o:=.no) h7)<|oB 0 h5 o0
  rcases spl h with⟨h10,h⟩|⟨h10,h⟩
  exact fun j=>lH 2 [] [0] [] [0,4,21,22,23] (oD (dPatternPat p1.pats_)<|oD (dE p0)<|oD (dT p1.body_.sub)<|oD (dPatternPat p1.pats_)<|oK 3 [] h10 (c242 h9) k) (ih _ _ _ _ h)
  obtain rfl:=sj h
  exact fun j=>lF 1 [] (oK 3 [] h10 (c242 h9) k)
  have k:=oB 0 h5 o0
  rcases spl h with⟨h11,h⟩|⟨h11,h⟩
  obtain⟨r12,h13,h⟩:=obind h
  obtain⟨r14,h15,h⟩:=obind h
  have k:=oC 3 [] (c243 h13)<|oB 0 h11 k
  rcases spl h with⟨h16,h⟩|⟨h16,h⟩
  obtain⟨r17,h18,h⟩:=obind h
  obtain rfl:=sj h
  exact fun j=>lF 2 [] (oC 1 [] (c174 h18)<|oK 2 [] h16 (c107 h15) k)
  obtain rfl:=sj h
  exact fun j=>lF 0 [] (oK 2 [] h16 (c107 h15) k)
  have k:=oB 0 h11 k
  rcases spl h with⟨h19,h⟩|⟨h19,h⟩
  have k:=oB 2 h19 k
  rcases spl h with⟨h20,h⟩|⟨h20,h⟩
  obtain rfl:=sj h
  exact fun j=>lF 3 [] (oB 1 h20 k)
  obtain rfl:=sj h
  exact fun j=>lF 0 [] (oB 1 h20 k)
  obtain rfl:=sj h
  exact fun j=>lF 0 [] (oB 2 h19 k)
theorem c185{qq p0 p1 p2 r}(h:e185 qq p0 p1 p2=some r):K185 p0 p1 p2 r Ct:=by
 unfold e185 at h
 rcases spl h with⟨h1,h⟩|⟨h1,h⟩
 obtain rfl:=sj h
 exact k185 (tF q185 0 [] (oB 2 h1 o0))
 obtain⟨r2,h3,h⟩:=obind h
 have k:=oB 2 h1 o0
 rcases spl h with⟨h4,h⟩|⟨h4,h⟩
 exact k185 (tH q185 3 [] [0] [] [0,4,21,22,23] (oD (dPatternPat p1.pats_)<|oD (dE p0)<|oD (dT p1.body_.sub)<|oD (dPatternPat p1.pats_)<|oK 1 [] h4 (c241 h3) k) (l185Lci _ _ _ _ _ h))
 obtain rfl:=sj h
 exact k185 (tF q185 1 [] (oK 1 [] h4 (c241 h3) k))
def e119Lcj:Nat->Mach->(List Tm)->(List Ent)->Int->Option (Bool)
 |0,_,_,_,_=>none
 |qq+1,M,p2,r1,v31=>
 if decide (v31<(List.length p2:Int))then
 gidx p2 v31>>=fun x10=>
 e107 qq x10 0 (List.length r1:Int)>>=fun r12=>
 if r12 then
 e174 qq x10>>=fun r15=>
 if decide ((List.length r15:Int)>0)then
 some false
 else
 e119Lcj qq M p2 r1 (w64 (v31+1))
 else
 some false
 else
 some true
def e119Lck:Nat->Mach->(List ClauseClause)->(List Tm)->(List Ent)->Int->Option (Bool)
 |0,_,_,_,_,_=>none
 |qq+1,M,p1,p2,r1,v18=>
 if decide (v18<(List.length p1:Int))then
 gidx p1 v18>>=fun x4=>
 e185 qq r1 (ClauseClause.mk x4.pats_ x4.has_ x4.body_) (List.length p2:Int)>>=fun r6=>
 if r6 then
 e119Lck qq M p1 p2 r1 (w64 (v18+1))
 else
 some false
 else
 e119Lcj qq M p2 r1 0
def e119(qq:Nat)(M:Mach)(p1:List ClauseClause)(p2:List Tm):Option (Bool):=
 e184 qq M>>=fun r1=>
 e119Lck qq M p1 p2 r1 0
def g119LckE0(j:Nat->Value)(M:Mach)(p1:List ClauseClause)(p2:List Tm)(r1:List Ent)(v18:Int):=sp j 47 0 [(2,slv tmCells p2 .no),(7,slv entL r1 .no),(16,slv clauseClauseL p1 .no),(17,ai (List.length p1:Int)),(18,ai v18)]
def g119LckS0(M:Mach)(p1:List ClauseClause)(p2:List Tm)(r1:List Ent)(v18:Int):LSt:=⟨[(0,mB M 1),(1,mR M)],2,[],0,[]⟩
def g119LcjE0(j:Nat->Value)(M:Mach)(p2:List Tm)(r1:List Ent)(v31:Int):=sp j 47 0 [(7,slv entL r1 .no),(29,slv tmCells p2 .no),(30,ai (List.length p2:Int)),(31,ai v31)]
def g119LcjS0(M:Mach)(p2:List Tm)(r1:List Ent)(v31:Int):LSt:=⟨[(0,mB M 1),(1,mR M)],2,[],0,[]⟩
abbrev K119 (M:Mach) (p1:List ClauseClause) (p2:List Tm) (r:Bool) (C:Cf):Prop:=C 119 [mB M 1,mR M] [.mp 0 0,slv clauseClauseL p1 .no,slv tmCells p2 .no] (ab r) [mB M 1,mR M] 0
theorem q119:Qf 119 Tryz.f119:=⟨Tryz.func119,by kernel_rfl⟩
theorem k119{M p1 p2 r}(h:K119 M p1 p2 r Ci):K119 M p1 p2 r Ct:=⟨h,⟨(lz rfl),⟨tv,dClauseClause _⟩,⟨tv,dT _⟩,tv⟩,(forall_cons ⟨⟨tv,dE _⟩,(lz rfl),⟨tv,dI _⟩,⟨tv,dI _⟩,tv⟩ (forall_cons ⟨⟨tv,dE _⟩,⟨tv,dC _⟩,tv⟩ forall_nil)),tv,(forall_cons ⟨dE _,(lz rfl),dI _,dI _,tv⟩ (forall_cons ⟨dE _,dC _,tv⟩ forall_nil))⟩
theorem l119Lcj:∀qq:Nat,(∀M p2 r1 v31 r,e119Lcj qq M p2 r1 v31=some r->(∀j,Dl Tryz.prog 2 (inn (inn (rgt (lft (rgt (rgt (rgt (rgt (bod Tryz.f119))))))))) (g119LcjE0 j M p2 r1 v31) (g119LcjS0 M p2 r1 v31) (frameQ Tryz.prog 2 (FinQ Tryz.prog 2 Tryz.f119 (ab r) [mB M 1,mR M] 0) [.blk 2,.seq (rgt (rgt (rgt (rgt (rgt (bod Tryz.f119))))))]))):=by
 intro qq
 induction qq with
 |zero=>
  exact fun _ _ _ _ _ h=>nn h
 |succ qq ih=>
  intro M p2 r1 v31 r h
  rw[e119Lcj]at h
  rcases spl h with⟨h9,h⟩|⟨h9,h⟩
  obtain⟨x10,h11,h⟩:=obind h
  obtain⟨r12,h13,h⟩:=obind h
  have k:=oA 0 (ix23 (o:=.no) h11)<|oB 0 h9 o0
  rcases spl h with⟨h14,h⟩|⟨h14,h⟩
  obtain⟨r15,h16,h⟩:=obind h
  have k:=oC 2 [] (c174 h16)<|oK 4 [] h14 (c107 h13) k
  rcases spl h with⟨h17,h⟩|⟨h17,h⟩
  obtain rfl:=sj h
  exact fun j=>lF 0 [0,1] (oD (dC M.parts)<|oD (dE M.rl)<|oD (dI M.own)<|oD (dI M.args)<|oD (dE M.l)<|oB 1 h17 k)
  exact fun j=>lH 1 [] [0,1] [] [7,29,30,31] (oD (dT p2)<|oD (dE r1)<|oD (dC M.parts)<|oD (dE M.rl)<|oD (dI M.own)<|oD (dI M.args)<|oD (dE M.l)<|oB 1 h17 k) (ih _ _ _ _ _ h)
  obtain rfl:=sj h
  exact fun j=>lF 1 [0,1] (oD (dC M.parts)<|oD (dE M.rl)<|oD (dI M.own)<|oD (dI M.args)<|oD (dE M.l)<|oK 4 [] h14 (c107 h13) k)
  obtain rfl:=sj h
  exact fun j=>lF 0 [0,1] (oD (dC M.parts)<|oD (dE M.rl)<|oD (dI M.own)<|oD (dI M.args)<|oD (dE M.l)<|oB 0 h9 o0)
theorem l119Lck:∀qq:Nat,(∀M p1 p2 r1 v18 r,e119Lck qq M p1 p2 r1 v18=some r->(∀j,Dl Tryz.prog 2 (inn (inn (rgt (lft (rgt (rgt (rgt (bod Tryz.f119)))))))) (g119LckE0 j M p1 p2 r1 v18) (g119LckS0 M p1 p2 r1 v18) (frameQ Tryz.prog 2 (FinQ Tryz.prog 2 Tryz.f119 (ab r) [mB M 1,mR M] 0) [.blk 0,.seq (rgt (rgt (rgt (rgt (bod Tryz.f119)))))]))):=by
 intro qq
 induction qq with
 |zero=>
  exact fun _ _ _ _ _ _ h=>nn h
 |succ qq ih=>
  intro M p1 p2 r1 v18 r h
  rw[e119Lck]at h
  rcases spl h with⟨h3,h⟩|⟨h3,h⟩
  obtain⟨x4,h5,h⟩:=obind h
  obtain⟨r6,h7,h⟩:=obind h
  have k:=oA 0 (ix91 (o:=.no) h5)<|oB 0 h3 o0
  rcases spl h with⟨h8,h⟩|⟨h8,h⟩
  exact fun j=>lH 2 [] [0,1] [] [2,7,16,17,18] (oD (dClauseClause p1)<|oD (dE r1)<|oD (dT p2)<|oD (dC M.parts)<|oD (dE M.rl)<|oD (dI M.own)<|oD (dI M.args)<|oD (dE M.l)<|oK 4 [] h8 (c185 h7) k) (ih _ _ _ _ _ _ h)
  obtain rfl:=sj h
  exact fun j=>lF 1 [0,1] (oD (dC M.parts)<|oD (dE M.rl)<|oD (dI M.own)<|oD (dI M.args)<|oD (dE M.l)<|oK 4 [] h8 (c185 h7) k)
  exact fun j=>lH 1 [] [0,1] [] [7,29,30,31] (oD (dT p2)<|oD (dE r1)<|oD (dC M.parts)<|oD (dE M.rl)<|oD (dI M.own)<|oD (dI M.args)<|oD (dE M.l)<|oB 0 h3 o0) (l119Lcj _ _ _ _ _ _ h)
theorem c119{qq M p1 p2 r}(h:e119 qq M p1 p2=some r):K119 M p1 p2 r Ct:=by
 unfold e119 at h
 obtain⟨r1,h2,h⟩:=obind h
 exact k119 (tH q119 1 [] [0,1] [] [2,7,16,17,18] (oD (dClauseClause p1)<|oD (dE r1)<|oD (dT p2)<|oD (dC M.parts)<|oD (dE M.rl)<|oD (dI M.own)<|oD (dI M.args)<|oD (dE M.l)<|oC 1 [0,1] (c184 h2) o0) (l119Lck _ _ _ _ _ _ _ h))
mutual
def e49Lcl:Nat->(List ClauseClause)->(List R28Clause)->Int->Int->Option (List R28Clause×Bool)
 |0,_,_,_,_=>none
 |qq+1,p0,v4,v5,v6=>
 if decide (v6<(List.length p0:Int))then
 gidx p0 v6>>=fun x2=>
 e49Lcm qq p0 v4 v6 x2 v5 0 []
 else
 some (v4,true)
def e49Lcm:Nat->(List ClauseClause)->(List R28Clause)->Int->ClauseClause->Int->Int->(List R24Pat)->Option (List R28Clause×Bool)
 |0,_,_,_,_,_,_,_=>none
 |qq+1,p0,v4,v6,x2,v5,v8,vb0_0=>
 gidx p0 v6>>=fun x4=>
 if decide (v8<(List.length x4.pats_:Int))then
 if decide (v5>0)then
 gidx x4.pats_ v8>>=fun x8=>
 e114 qq (PatternPat.mk x8.kind_ x8.n_ x8.at_ x8.sub_ x8.t_) v5>>=fun r10=>
 gapp 88 vb0_0 [(R24Pat.mk r10.1.kind_ r10.1.n_ r10.1.at_ r10.1.sub_ r10.1.t_)]>>=fun l12=>
 e49Lcm qq p0 v4 v6 x2 r10.2 (w64 (v8+1)) l12
 else
 if decide ((w64 (v5-1))≤0)then
 some ([],false)
 else
 e66 qq x2.body_>>=fun r15=>
 if decide (r15>150)then
 some ([],false)
 else
 gapp 72 v4 [(R28Clause.mk vb0_0 x2.has_ x2.body_)]>>=fun l18=>
 e49Lcl qq p0 l18 (w64 (v5-1)) (w64 (v6+1))
 else
 if decide ((w64 (v5-1))≤0)then
 some ([],false)
 else
 e66 qq x2.body_>>=fun r21=>
 if decide (r21>150)then
 some ([],false)
 else
 gapp 72 v4 [(R28Clause.mk vb0_0 x2.has_ x2.body_)]>>=fun l24=>
 e49Lcl qq p0 l24 (w64 (v5-1)) (w64 (v6+1))
end
def e49(qq:Nat)(p0:List ClauseClause):Option (List R28Clause×Bool):=
 e49Lcl qq p0 [] 300 0
def g49LclE0(j:Nat->Value)(p0:List ClauseClause)(v4:List R28Clause)(v5 v6:Int):=sp j 78 0 [(0,slv clauseClauseL p0 .no),(4,slv r28ClauseL v4 (.st 0 5)),(5,ai v5),(6,ai v6)]
def g49LclS0(p0:List ClauseClause)(v4:List R28Clause)(v5 v6:Int):LSt:=⟨[],0,[0],1,[]⟩
def g49LcmE0(j:Nat->Value)(p0:List ClauseClause)(v4:List R28Clause)(v6:Int)(x2:ClauseClause)(v5 v8:Int)(vb0_0:List R24Pat):=sp j 78 0 [(0,slv clauseClauseL p0 .no),(4,slv r28ClauseL v4 (.st 0 5)),(5,ai v5),(6,ai v6),(7,.mp 0 0),(8,ai v8)]
def g49LcmS0(p0:List ClauseClause)(v4:List R28Clause)(v6:Int)(x2:ClauseClause)(v5 v8:Int)(vb0_0:List R24Pat):LSt:=⟨[(0,.cells [slv r24PatC vb0_0 (.st 1 7),ab x2.has_,ai x2.body_.k,ai x2.body_.n,slv tmCells x2.body_.sub .no])],1,[0,1],2,[]⟩
abbrev K49 (p0:List ClauseClause) (r:List R28Clause×Bool) (C:Cf):Prop:=C 49 [] [slv clauseClauseL p0 .no] (.tup [.sl (flat r28ClauseL r.1) (List.length r.1) .no,ab r.2]) [] 0
theorem q49:Qf 49 Tryz.f49:=⟨Tryz.func49,by kernel_rfl⟩
theorem k49{p0 r}(h:K49 p0 r Ci):K49 p0 r Ct:=⟨h,⟨⟨tv,dClauseClause _⟩,tv⟩,forall_nil,⟨dR28Clause _,tv,tv⟩,forall_nil⟩
theorem a49Lcl_49Lcm:∀qq:Nat,(∀p0 v4 v5 v6 r,e49Lcl qq p0 v4 v5 v6=some r->(∀j,Dl Tryz.prog 0 (inn (inn (rgt (lft (rgt (rgt (rgt (bod Tryz.f49)))))))) (g49LclE0 j p0 v4 v5 v6) (g49LclS0 p0 v4 v5 v6) (frameQ Tryz.prog 0 (FinQ Tryz.prog 0 Tryz.f49 (.tup [.sl (flat r28ClauseL r.1) (List.length r.1) .no,ab r.2]) [] 0) [.blk 0,.seq (rgt (rgt (rgt (rgt (bod Tryz.f49)))))])))∧(∀p0 v4 v6 x2 v5 v8 vb0_0 r,e49Lcm qq p0 v4 v6 x2 v5 v8 vb0_0=some r->(∀j,Dl Tryz.prog 0 (inn (inn (rgt (lft (rgt (inn (lft (rgt (inn (inn (rgt (lft (rgt (rgt (rgt (bod Tryz.f49)))))))))))))))) (g49LcmE0 j p0 v4 v6 x2 v5 v8 vb0_0) (g49LcmS0 p0 v4 v6 x2 v5 v8 vb0_0) (frameQ Tryz.prog 0 (FinQ Tryz.prog 0 Tryz.f49 (.tup [.sl (flat r28ClauseL r.1) (List.length r.1) .no,ab r.2]) [] 0) [.blk 2,.seq (rgt (rgt (inn (lft (rgt (inn (inn (rgt (lft (rgt (rgt (rgt (bod Tryz.f49))))))))))))),.blk 1,.seq (rgt (rgt (inn (inn (rgt (lft (rgt (rgt (rgt (bod Tryz.f49)))))))))),.loop (inn (inn (rgt (lft (rgt (rgt (rgt (bod Tryz.f49)))))))),.blk 0,.seq (rgt (rgt (rgt (rgt (bod Tryz.f49)))))]))):=by
 intro qq
 induction qq with
 |zero=>
  exact⟨fun _ _ _ _ _ h=>nn h,fun _ _ _ _ _ _ _ _ h=>nn h⟩
 |succ qq ih=>
  obtain⟨ih49Lcl,ih49Lcm⟩:=ih
  refine⟨?_,?_⟩
  intro p0 v4 v5 v6 r h
  rw[e49Lcl]at h
  rcases spl h with⟨h1,h⟩|⟨h1,h⟩
  obtain⟨x2,h3,h⟩:=obind h
  exact fun j=>lH 2 [(some 0,0,7)] [0] [0,1] [0,4,5,6,7,8] (oD (dR28Clause v4)<|oD (dClauseClause p0)<|oD (dT x2.body_.sub)<|oD (dR24Pat ([]:List R24Pat))<|oA 1 (ix91 (o:=.no) h3)<|oA 0 (ix91 (o:=.no) h3)<|oB 1 h1 o0) (ih49Lcm _ _ _ _ _ _ _ _ h)
  obtain rfl:=sj h
  exact fun j=>lF 0 [] (oD (dR28Clause v4)<|oB 1 h1 o0)
  intro p0 v4 v6 x2 v5 v8 vb0_0 r h
  rw[e49Lcm]at h
  obtain⟨x4,h5,h⟩:=obind h
  have k:=oA 0 (ix91 (o:=.no) h5) o0
  rcases spl h with⟨h6,h⟩|⟨h6,h⟩
  have k:=oB 2 h6 k
  rcases spl h with⟨h7,h⟩|⟨h7,h⟩
  obtain⟨x8,h9,h⟩:=obind h
  obtain⟨r10,h11,h⟩:=obind h
  obtain⟨l12,h13,h⟩:=obind h
  exact fun j=>lH 2 [] [0] [0,2] [0,4,5,6,7,8] (oD (dR28Clause v4)<|oD (dClauseClause p0)<|oD (dT x2.body_.sub)<|oD (dR24Pat l12)<|oP 0 (apS97 h13 (by simp))<|oS 5 (obLitR r24Pat_eq [(R24Pat.mk r10.1.kind_ r10.1.n_ r10.1.at_ r10.1.sub_ r10.1.t_)])<|oC 1 [] (c114 h11)<|oA 1 (ix106 (o:=.no) h9)<|oA 0 (ix91 (o:=.no) h5)<|oB 0 h7 k) (ih49Lcm _ _ _ _ _ _ _ _ h)
  have k:=oB 0 h7 k
  rcases spl h with⟨h14,h⟩|⟨h14,h⟩
  obtain rfl:=sj h
  exact fun j=>lF 0 [] (oD (dR28Clause ([]:List R28Clause))<|oB 1 h14 k)
  obtain⟨r15,h16,h⟩:=obind h
  have k:=oC 1 [] (c66 h16)<|oB 1 h14 k
  rcases spl h with⟨h17,h⟩|⟨h17,h⟩
  obtain rfl:=sj h
  exact fun j=>lF 0 [] (oD (dR28Clause ([]:List R28Clause))<|oB 0 h17 k)
  obtain⟨l18,h19,h⟩:=obind h
  exact fun j=>lH 1 [] [] [2] [0,4,5,6] (oD (dR28Clause l18)<|oD (dClauseClause p0)<|oP 2 (apS92 h19 (by simp))<|oB 0 h17 k) (ih49Lcl _ _ _ _ _ h)
  have k:=oB 2 h6 k
  rcases spl h with⟨h20,h⟩|⟨h20,h⟩
  obtain rfl:=sj h
  exact fun j=>lF 0 [] (oD (dR28Clause ([]:List R28Clause))<|oB 1 h20 k)
  obtain⟨r21,h22,h⟩:=obind h
  have k:=oC 1 [] (c66 h22)<|oB 1 h20 k
  rcases spl h with⟨h23,h⟩|⟨h23,h⟩
  obtain rfl:=sj h
  exact fun j=>lF 0 [] (oD (dR28Clause ([]:List R28Clause))<|oB 0 h23 k)
  obtain⟨l24,h25,h⟩:=obind h
  exact fun j=>lH 1 [] [] [2] [0,4,5,6] (oD (dR28Clause l24)<|oD (dClauseClause p0)<|oP 2 (apS92 h25 (by simp))<|oB 0 h23 k) (ih49Lcl _ _ _ _ _ h)
theorem c49{qq p0 r}(h:e49 qq p0=some r):K49 p0 r Ct:=by
 unfold e49 at h
 exact k49 (tH q49 1 [(none,4,5)] [] [0] [0,4,5,6] (oD (dR28Clause ([]:List R28Clause))<|oD (dClauseClause p0) o0) (((a49Lcl_49Lcm _).1) _ _ _ _ _ h))
section
variable {N:ByteArray->Bool} {l:List Ent} (hE:AllE N l) (hF:Evt (fun q=>e157 q l) true)
include hE hF
def MayC(l:List Ent)(cs:List ClauseClause)(n:Nat):Prop:=∀c∈cs,c.pats_.length=n∧∀p∈c.pats_,GP l p
end
def LOk(b:List Tm):Prop:=OkL b∧b.length≤1048576
theorem okL_all:∀ {l:List Tm},OkL l->∀x∈l,x.Ok
 | [],_,_,h=>nomatch h
 |a::l,⟨h1,h2⟩,x,hx=>by
  rcases List.mem_cons.1 hx with rfl|hx
  ·exact h1
  ·exact okL_all h2 x hx
theorem gchk_ok{n:Nat}{v:Nat}(h:v<n):gchk n (v:Int)=some v:=by unfold gchk;rw[if_pos (by omega)];simp
theorem gidx_nat{α:Type}{l:List α}{v:Nat}(h:v<l.length):gidx l (v:Int)=some l[v]:=by unfold gidx;rw[if_pos (by omega)];simp[h]
def e165(qq:Nat)(M:Mach)(p1:Tm):Option (Int×List Tm×Bool):=
 e89 qq p1>>=fun r1=>
 if r1 then
 e123 qq p1>>=fun r4=>
 e230 qq M r4>>=fun r6=>
 some (r6.1,r6.2.1,r6.2.2)
 else
 some (0,[],false)
abbrev K165 (M:Mach) (p1:Tm) (r:Int×List Tm×Bool) (C:Cf):Prop:=C 165 [mB M 1,mR M] [.mp 0 0,tmA p1] (.tup [ai r.1,.sl (flat tmCells r.2.1) (List.length r.2.1) .no,ab r.2.2]) [mB M 1,mR M] 0
theorem q165:Qf 165 Tryz.f165:=⟨Tryz.func165,by kernel_rfl⟩
theorem k165{M p1 r}(h:K165 M p1 r Ci):K165 M p1 r Ct:=⟨h,⟨(lz rfl),⟨tv,tv,⟨tv,dT _⟩,tv⟩,tv⟩,(forall_cons ⟨⟨tv,dE _⟩,(lz rfl),⟨tv,dI _⟩,⟨tv,dI _⟩,tv⟩ (forall_cons ⟨⟨tv,dE _⟩,⟨tv,dC _⟩,tv⟩ forall_nil)),⟨tv,dT _,tv,tv⟩,(forall_cons ⟨dE _,(lz rfl),dI _,dI _,tv⟩ (forall_cons ⟨dE _,dC _,tv⟩ forall_nil))⟩
theorem c165{qq M p1 r}(h:e165 qq M p1=some r):K165 M p1 r Ct:=by
 unfold e165 at h
 obtain⟨r1,h2,h⟩:=obind h
 rcases spl h with⟨h3,h⟩|⟨h3,h⟩
 obtain⟨r4,h5,h⟩:=obind h
 obtain⟨r6,h7,h⟩:=obind h
 obtain rfl:=sj h
 exact k165 (tF q165 3 [0,1] (oD (dT r6.2.1)<|oD (dC M.parts)<|oD (dE M.rl)<|oD (dI M.own)<|oD (dI M.args)<|oD (dE M.l)<|oC 0 [0,1] (c230 h7)<|oC 2 [] (c123 h5)<|oK 2 [] h3 (c89 h2) o0))
 obtain rfl:=sj h
 exact k165 (tF q165 1 [0,1] (oD (dT ([]:List Tm))<|oD (dC M.parts)<|oD (dE M.rl)<|oD (dI M.own)<|oD (dI M.args)<|oD (dE M.l)<|oK 2 [] h3 (c89 h2) o0))
def e166(qq:Nat)(M:Mach)(p1:Int):Option (Int):=
 if decide (p1<0)then
 some 0
 else
 if decide (p1≥(List.length M.l:Int))then
 some 0
 else
 gidx M.l p1>>=fun x3=>
 some x3.pars
abbrev K166 (M:Mach) (p1 r:Int) (C:Cf):Prop:=C 166 [mB M 1,mR M] [.mp 0 0,ai p1] (ai r) [mB M 1,mR M] 0
theorem q166:Qf 166 Tryz.f166:=⟨Tryz.func166,by kernel_rfl⟩
theorem k166{M p1 r}(h:K166 M p1 r Ci):K166 M p1 r Ct:=⟨h,⟨(lz rfl),tv,tv⟩,(forall_cons ⟨⟨tv,dE _⟩,(lz rfl),⟨tv,dI _⟩,⟨tv,dI _⟩,tv⟩ (forall_cons ⟨⟨tv,dE _⟩,⟨tv,dC _⟩,tv⟩ forall_nil)),tv,(forall_cons ⟨dE _,(lz rfl),dI _,dI _,tv⟩ (forall_cons ⟨dE _,dC _,tv⟩ forall_nil))⟩
theorem c166{qq M p1 r}(h:e166 qq M p1=some r):K166 M p1 r Ct:=by
 unfold e166 at h
 rcases spl h with⟨h1,h⟩|⟨h1,h⟩
 obtain rfl:=sj h
 exact k166 (tF q166 0 [0,1] (oD (dC M.parts)<|oD (dE M.rl)<|oD (dI M.own)<|oD (dI M.args)<|oD (dE M.l)<|oB 1 h1 o0))
 have k:=oB 1 h1 o0
 rcases spl h with⟨h2,h⟩|⟨h2,h⟩
 obtain rfl:=sj h
 exact k166 (tF q166 0 [0,1] (oD (dC M.parts)<|oD (dE M.rl)<|oD (dI M.own)<|oD (dI M.args)<|oD (dE M.l)<|oB 2 h2 k))
 obtain⟨x3,h4,h⟩:=obind h
 obtain rfl:=sj h
 exact k166 (tF q166 1 [0,1] (oD (dC M.parts)<|oD (dE M.rl)<|oD (dI M.own)<|oD (dI M.args)<|oD (dE M.l)<|oA 1 (ix22 (o:=.no) h4)<|oB 2 h2 k))
theorem con_parsL{N:ByteArray->Bool}{l:List Ent}(hE:AllE N l){t:Tm}(hs:shapedT t=true)(hc:isCon l t):∃p:Nat,(ent l (hdT t).n).pars=(p:Int)∧p≤(arT t).length∧0≤(hdT t).n∧(hdT t).n<l.length:=by
 have h:=isCon_spec hs hc
 obtain⟨A,y,hw,-,-,hp,-,q0,q1,-⟩:=con_facts hE h.1 h.2.1 h.2.2.1
 exact⟨(ent l (hdT t).n).pars.toNat,by omega,by rw[h.2.2.2];omega,h.1,h.2.1⟩
theorem ev_ConL(l:List Ent)(t:Tm)(hs:shapedT t=true):Evt (fun q=>e165 q (machT l) t) (conX l t):=by
 simp only[e165]
 refine(ev_Shaped t (shaped_ok hs)).bind (Evt.ifT hs (((ev_Copy t (shaped_ok hs)).eq (by unfold copT;rw[if_pos hs])).bind ((ev_wcon l t hs).bind Evt.ret)))
theorem ar_leL{t:Tm}(hs:shapedT t=true):(arT t).length≤8192:=by
 have h:=shapedT_spec hs
 have:=ar_len t h.2.2
 omega
def e231Lcn(qq:Nat)(p0:List Tm)(v2 v3:Int):Option (Unit):=
 if decide (v2<v3)then
 none
 else
 some ()
def e231(qq:Nat)(p0:List Tm):Option (Unit):=
 e231Lcn qq p0 0 (w64 ((List.length p0:Int)-1))
def g231LcnE0(j:Nat->Value)(p0:List Tm)(v2 v3:Int):=sp j 28 0 [(0,slv tmCells p0 .no),(2,ai v2),(3,ai v3)]
def g231LcnS0(p0:List Tm)(v2 v3:Int):LSt:=⟨[],0,[],0,[]⟩
abbrev K231 (p0:List Tm) (C:Cf):Prop:=C 231 [] [slv tmCells p0 .no] (.tup []) [] 0
theorem q231:Qf 231 Tryz.f231:=⟨Tryz.func231,by kernel_rfl⟩
theorem k231{p0}(h:K231 p0 Ci):K231 p0 Ct:=⟨h,⟨⟨tv,dT _⟩,tv⟩,forall_nil,tv,forall_nil⟩
theorem l231Lcn(qq p0 v2 v3 r)(h:e231Lcn qq p0 v2 v3=some r):(∀j,Dl Tryz.prog 0 (inn (inn (rgt (bod Tryz.f231)))) (g231LcnE0 j p0 v2 v3) (g231LcnS0 p0 v2 v3) (frameQ Tryz.prog 0 (FinQ Tryz.prog 0 Tryz.f231 (.tup []) [] 0) [.blk 0])):=by
 unfold e231Lcn at h
 obtain⟨h1,h⟩:=splF h
 obtain rfl:=sj h
 exact fun j=>lF 0 [] (oB 0 h1 o0)
theorem c231{qq p0 r}(h:e231 qq p0=some r):K231 p0 Ct:=by
 unfold e231 at h
 exact k231 (tH q231 2 [] [] [] [0,2,3] (oD (dT p0) o0) (l231Lcn qq _ _ _ _ h))
def e231vacoLcp:Nat->(List Tm)->Int->Int->(List Tm)->Option (List Tm)
 |0,_,_,_,_=>none
 |qq+1,q0,v2,v3,vb0_0=>
 if decide (v2<v3)then
 gchk (List.length q0) v3>>=fun x2=>
 gidx vb0_0 (x2:Int)>>=fun x4=>
 gchk (List.length q0) v2>>=fun x6=>
 gidx vb0_0 (x6:Int)>>=fun x8=>
 gset vb0_0 x6 x4>>=fun x10=>
 gset x10 x2 x8>>=fun x12=>
 e231vacoLcp qq q0 (w64 (v2+1)) (w64 (v3-1)) x12
 else
 some vb0_0
def e231vaco(qq:Nat)(q0:List Tm):Option (List Tm):=
 e231vacoLcp qq q0 0 (w64 ((List.length q0:Int)-1)) q0
def g231vacoLcpE0(j:Nat->Value)(q0:List Tm)(v2 v3:Int)(vb0_0:List Tm):=sp j 28 0 [(0,.ms 0 0 (List.length q0) (List.length q0) 3),(2,ai v2),(3,ai v3)]
def g231vacoLcpS0(q0:List Tm)(v2 v3:Int)(vb0_0:List Tm):LSt:=⟨[(0,.row (flat tmCells vb0_0))],1,[],0,[]⟩
abbrev K231vaco (q0 r:List Tm) (C:Cf):Prop:=C 231 [.row (flat tmCells q0)] [.ms 0 0 (List.length q0) (List.length q0) 3] (.tup []) [.row (flat tmCells r)] 0
theorem q231vaco:Qf 231 Tryz.f231:=⟨Tryz.func231,by kernel_rfl⟩
theorem k231vaco{q0 r}(h:K231vaco q0 r Ci):K231vaco q0 r Ct:=⟨h,⟨(lz rfl),tv⟩,(forall_cons (dT _) forall_nil),tv,(forall_cons (dT _) forall_nil)⟩
theorem l231vacoLcp:∀qq:Nat,(∀q0 v2 v3 vb0_0 r,e231vacoLcp qq q0 v2 v3 vb0_0=some r->(∀j,Dl Tryz.prog 1 (inn (inn (rgt (bod Tryz.f231)))) (g231vacoLcpE0 j q0 v2 v3 vb0_0) (g231vacoLcpS0 q0 v2 v3 vb0_0) (frameQ Tryz.prog 1 (FinQ Tryz.prog 1 Tryz.f231 (.tup []) [.row (flat tmCells r)] 0) [.blk 0]))):=by
 intro qq
 induction qq with
 |zero=>
  exact fun _ _ _ _ _ h=>nn h
 |succ qq ih=>
  intro q0 v2 v3 vb0_0 r h
  rw[e231vacoLcp]at h
  rcases spl h with⟨h1,h⟩|⟨h1,h⟩
  obtain⟨x2,h3,h⟩:=obind h
  obtain⟨x4,h5,h⟩:=obind h
  obtain⟨x6,h7,h⟩:=obind h
  obtain⟨x8,h9,h⟩:=obind h
  obtain⟨x10,h11,h⟩:=obind h
  obtain⟨x12,h13,h⟩:=obind h
  exact fun j=>lH 2 [] [0] [] [0,2,3] (oD (dT x12)<|oW 0 (wtE (x:=x8) (cs:=[ai x8.k,ai x8.n,slv tmCells x8.sub .no]) codecT (by rw[tm_eq];rfl) h13)<|oA 0 (ixM23 (b:=0) (c:=List.length q0) (z:=3) h3)<|oW 0 (wtE (x:=x4) (cs:=[ai x4.k,ai x4.n,slv tmCells x4.sub .no]) codecT (by rw[tm_eq];rfl) h11)<|oA 0 (ixM23 (b:=0) (c:=List.length q0) (z:=3) h7)<|oG (a:=(.agg [ai x8.k,ai x8.n,slv tmCells x8.sub .no])) 0 (ldE codecT h9 (true,3) (val:=.agg [ai x8.k,ai x8.n,slv tmCells x8.sub .no]) (by rw[tm_eq];rfl))<|oA 0 (ixM23 (b:=0) (c:=List.length q0) (z:=3) h7)<|oG (a:=(.agg [ai x4.k,ai x4.n,slv tmCells x4.sub .no])) 0 (ldE codecT h5 (true,3) (val:=.agg [ai x4.k,ai x4.n,slv tmCells x4.sub .no]) (by rw[tm_eq];rfl))<|oA 0 (ixM23 (b:=0) (c:=List.length q0) (z:=3) h3)<|oB 0 h1 o0) (ih _ _ _ _ _ h)
  obtain rfl:=sj h
  exact fun j=>lF 0 [0] (oD (dT vb0_0)<|oB 0 h1 o0)
theorem c231vaco{qq q0 r}(h:e231vaco qq q0=some r):K231vaco q0 r Ct:=by
 unfold e231vaco at h
 exact k231vaco (tH q231vaco 2 [] [0] [] [0,2,3] (oD (dT q0) o0) (l231vacoLcp _ _ _ _ _ _ h))
def e188(qq:Nat)(p0:List Tm):Option ((List Tm) ⊕ ((Unit) ⊕ (List Tm))):=
 e120vr qq p0>>=fun r1=>
 match r1 with
 |Sum.inl y3=>
  e231 qq []>>=fun r4=>
  some (Sum.inr (Sum.inl ()))
 |Sum.inr y6=>
  e231vaco qq y6>>=fun r7=>
  gfz (List.length y6) r7>>=fun l9=>
  some (Sum.inr (Sum.inr l9))
abbrev K188s0 (p0 r:List Tm) (C:Cf):Prop:=C 188 [] [slv tmCells p0 .no] (.sl (flat tmCells r) (List.length r) .no) [] 0
abbrev K188s1 (p0:List Tm) (C:Cf):Prop:=C 188 [] [slv tmCells p0 .no] (slv tmCells ([]:List Tm) .full) [] 0
abbrev K188s2 (p0 r:List Tm) (C:Cf):Prop:=C 188 [] [slv tmCells p0 .no] (.ms 0 0 (List.length r) (List.length r) 3) [.row (flat tmCells r)] 0
theorem q188:Qf 188 Tryz.f188:=⟨Tryz.func188,by kernel_rfl⟩
theorem k188s1{p0}(h:K188s1 p0 Ci):K188s1 p0 Ct:=⟨h,⟨⟨tv,dT _⟩,tv⟩,forall_nil,dT _,forall_nil⟩
theorem k188s2{p0 r}(h:K188s2 p0 r Ci):K188s2 p0 r Ct:=⟨h,⟨⟨tv,dT _⟩,tv⟩,forall_nil,(lz rfl),(forall_cons (dT _) forall_nil)⟩
theorem c188r{qq p0 r}(h:e188 qq p0=some r):(match (generalizing:=false) r with|Sum.inl x=>K188s0 p0 x Ct|Sum.inr (Sum.inl x)=>K188s1 p0 Ct|Sum.inr (Sum.inr x)=>K188s2 p0 x Ct):=by
 unfold e188 at h
 obtain⟨r1,h2,h⟩:=obind h
 rcases r1 with y3|y6
 dsimp only at h
 obtain⟨r4,h5,h⟩:=obind h
 obtain rfl:=sj h
 exact k188s1 (tG q188 0 [] [] [] true (oD (dT ([]:List Tm))<|oC 0 [] (c231 h5)<|oC 0 [] (c120vr h2) o0))
 dsimp only at h
 obtain⟨r7,h8,h⟩:=obind h
 obtain⟨l9,h10,h⟩:=obind h
 obtain⟨h10a,h10b⟩:=gfz_spec h10
 obtain rfl:=sj h
 obtain rfl:=h10a.symm
 dsimp only
 exact k188s2 (by unfold K188s2;rw[←h10b];exact(tF q188 0 [0] (oD (dT r7)<|oC 0 [0] (c231vaco h8)<|oC 0 [] (c120vr h2) o0)))
theorem c188{qq p0 r}(h:e188 qq p0=some r):(match (generalizing:=false) r with|Sum.inl x=>CT Tryz.prog 188 [] [slv tmCells p0 .no] (.sl (flat tmCells x) (List.length x) .no) [] 0|Sum.inr (Sum.inl x)=>CT Tryz.prog 188 [] [slv tmCells p0 .no] (slv tmCells ([]:List Tm) .full) [] 0|Sum.inr (Sum.inr x)=>CT Tryz.prog 188 [] [slv tmCells p0 .no] (.sl (flat tmCells x) (List.length x) .no) [] 0):=by
 have k:=c188r h
 rcases r with y0 | (y1|y2)
 ·exact k
 ·exact k
 ·exact CT.freeze (H1:=[]) (cs:=flat tmCells y2) (res':=(.sl (flat tmCells y2) (List.length y2) .no)) k (Nat.le_of_ble_eq_true rfl) forall_nil (dT _) (.inl ⟨rfl,rfl⟩) (by rfl) rfl
def e122(qq:Nat)(p0:Tm)(p1:List Tm):Option (Tm×Int):=
 e188 qq p1>>=fun r1=>
 match r1 with
 |Sum.inl y3=>
  e187 qq p0 y3>>=fun r4=>
  some (r4.1,r4.2)
 |Sum.inr (Sum.inl y6)=>
  e187 qq p0 []>>=fun r7=>
  some (r7.1,r7.2)
 |Sum.inr (Sum.inr y9)=>
  e187 qq p0 y9>>=fun r10=>
  some (r10.1,r10.2)
abbrev K122 (p0:Tm) (p1:List Tm) (r:Tm×Int) (C:Cf):Prop:=C 122 [] [tmA p0,slv tmCells p1 .no] (.tup [tmA r.1,ai r.2]) [] 0
theorem q122:Qf 122 Tryz.f122:=⟨Tryz.func122,by kernel_rfl⟩
theorem k122{p0 p1 r}(h:K122 p0 p1 r Ci):K122 p0 p1 r Ct:=⟨h,⟨⟨tv,tv,⟨tv,dT _⟩,tv⟩,⟨tv,dT _⟩,tv⟩,forall_nil,⟨⟨tv,tv,dT _,tv⟩,tv,tv⟩,forall_nil⟩
theorem c122{qq p0 p1 r}(h:e122 qq p0 p1=some r):K122 p0 p1 r Ct:=by
 unfold e122 at h
 obtain⟨r1,h2,h⟩:=obind h
 rcases r1 with y3 | (y6|y9)
 dsimp only at h
 obtain⟨r4,h5,h⟩:=obind h
 obtain rfl:=sj h
 exact k122 (tF q122 3 [] (oD (dT r4.1.sub)<|oC 0 [] (c187 h5)<|oC 1 [] (c188 h2) o0))
 dsimp only at h
 obtain⟨r7,h8,h⟩:=obind h
 obtain rfl:=sj h
 exact k122 (tF q122 3 [] (oD (dT r7.1.sub)<|oC 0 [] (c187 h8)<|oC 1 [] (c188 h2) o0))
 dsimp only at h
 obtain⟨r10,h11,h⟩:=obind h
 obtain rfl:=sj h
 exact k122 (tF q122 3 [] (oD (dT r10.1.sub)<|oC 0 [] (c187 h11)<|oC 1 [] (c188 h2) o0))
def e151vacqLcr:Nat->(List Tm)->Nat->Int->Int->Int->(List Tm)->Option (Tm)
 |0,_,_,_,_,_,_=>none
 |qq+1,q1,q2,v9,vb1_0,vb1_1,vb1_2=>
 if decide (v9<(q2:Int))then
 gchk q2 v9>>=fun x2=>
 gidx q1 (x2:Int)>>=fun x4=>
 e156 qq (Tm.mk vb1_0 vb1_1 vb1_2) x4>>=fun r6=>
 e151vacqLcr qq q1 q2 (w64 (v9+1)) r6.k r6.n r6.sub
 else
 some (Tm.mk vb1_0 vb1_1 vb1_2)
def e151vacq(qq:Nat)(p0:Tm)(q1:List Tm)(q2:Nat):Option (Tm):=
 e151vacqLcr qq q1 q2 0 p0.k p0.n p0.sub
def g151vacqLcrE0(j:Nat->Value)(q1:List Tm)(q2:Nat)(v9 vb1_0 vb1_1:Int)(vb1_2:List Tm):=sp j 18 0 [(2,.mp 1 0),(4,.mp 2 0),(7,.ms 0 0 q2 q2 3),(8,ai (q2:Int)),(9,ai v9)]
def g151vacqLcrS0(q1:List Tm)(q2:Nat)(v9 vb1_0 vb1_1:Int)(vb1_2:List Tm):LSt:=⟨[(0,.row (flat tmCells q1)),(1,.cells [ai vb1_0,ai vb1_1,slv tmCells vb1_2 .no]),(2,.cells [ai 0,ai 0,slv tmCells ([]:List Tm) .nl])],3,[],0,[]⟩
abbrev K151vacq (p0:Tm) (q1:List Tm) (q2:Nat) (r:Tm) (C:Cf):Prop:=C 151 [.row (flat tmCells q1)] [tmA p0,.ms 0 0 q2 q2 3] (tmA r) [.row (flat tmCells q1)] 0
theorem q151vacq:Qf 151 Tryz.f151:=⟨Tryz.func151,by kernel_rfl⟩
theorem k151vacq{p0 q1 q2 r}(h:K151vacq p0 q1 q2 r Ci):K151vacq p0 q1 q2 r Ct:=⟨h,⟨⟨tv,tv,⟨tv,dT _⟩,tv⟩,(lz rfl),tv⟩,(forall_cons (dT _) forall_nil),⟨tv,tv,dT _,tv⟩,(forall_cons (dT _) forall_nil)⟩
theorem l151vacqLcr:∀qq:Nat,(∀q1 q2 v9 vb1_0 vb1_1 vb1_2 r,e151vacqLcr qq q1 q2 v9 vb1_0 vb1_1 vb1_2=some r->(∀j,Dl Tryz.prog 1 (inn (inn (rgt (lft (rgt (bod Tryz.f151)))))) (g151vacqLcrE0 j q1 q2 v9 vb1_0 vb1_1 vb1_2) (g151vacqLcrS0 q1 q2 v9 vb1_0 vb1_1 vb1_2) (frameQ Tryz.prog 1 (FinQ Tryz.prog 1 Tryz.f151 (tmA r) [.row (flat tmCells q1)] 0) [.blk 0,.seq (rgt (rgt (bod Tryz.f151)))]))):=by
 intro qq
 induction qq with
 |zero=>
  exact fun _ _ _ _ _ _ _ h=>nn h
 |succ qq ih=>
  intro q1 q2 v9 vb1_0 vb1_1 vb1_2 r h
  rw[e151vacqLcr]at h
  rcases spl h with⟨h1,h⟩|⟨h1,h⟩
  obtain⟨x2,h3,h⟩:=obind h
  obtain⟨x4,h5,h⟩:=obind h
  obtain⟨r6,h7,h⟩:=obind h
  exact fun j=>lH 2 [] [0,1,2] [] [2,4,7,8,9] (oD (dT ([]:List Tm))<|oD (dT r6.sub)<|oD (dT q1)<|oC 3 [] (c156 h7)<|oG (a:=(.agg [ai x4.k,ai x4.n,slv tmCells x4.sub .no])) 0 (ldE codecT h5 (true,3) (val:=.agg [ai x4.k,ai x4.n,slv tmCells x4.sub .no]) (by rw[tm_eq];rfl))<|oA 0 (ixM23 (b:=0) (c:=q2) (z:=3) h3)<|oB 0 h1 o0) (ih _ _ _ _ _ _ _ h)
  obtain rfl:=sj h
  exact fun j=>lF 2 [0] (oD (dT vb1_2)<|oD (dT q1)<|oB 0 h1 o0)
theorem c151vacq{qq p0 q1 q2 r}(h:e151vacq qq p0 q1 q2=some r):K151vacq p0 q1 q2 r Ct:=by
 unfold e151vacq at h
 exact k151vacq (tH q151vacq 1 [] [0,1,2] [] [2,4,7,8,9] (oD (dT ([]:List Tm))<|oD (dT p0.sub)<|oD (dT q1) o0) (l151vacqLcr _ _ _ _ _ _ _ _ h))
end Go.Proofs.YtmfcobjnlabpoaaGreat
