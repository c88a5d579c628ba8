/- Texts: AbWb AbF74 AbF141 AbF142 AbF75 AbF23 AbF180 AbF115 AbF51 AbWc AbWd AbWe AbF118_183 AbF53 AbWf AbWg AbF9 AbWh AbWi -/
import Derived.Test.YtmfcobjnlabpoaaGreatAbB5
set_option linter.unusedVariables false
set_option linter.unusedSimpArgs false
set_option linter.unusedSectionVars false
namespace Go.Proofs.YtmfcobjnlabpoaaGreat
open Go Go.Ab
mutual
theorem ev_psz:∀(p:PatternPat) (n:Int),okPt p->0≤n->n+ndP p≤8192->Evt (fun q=>e372 q p n) (n+ndP p)
 | .mk k n0 a sub t,n,ho,h0,h1=>by
  rw[okPt]at ho
  rw[ndP]at h1 ⊢
  refine Evt.succ ?_
  simp only[e372]
  rw[w64_id (x:=n+1) (by omega) (by omega)]
  exact(ev_pszL sub (.mk k n0 a sub t) (n+1) 0 rfl ho.2.1 ho.1 (by omega) (by omega)).eq (by omega)
theorem ev_pszL:∀(r:List PatternPat) (p:PatternPat) (n:Int) (v:Nat),p.sub_.drop v=r->okPs r->p.sub_.length≤17592186044416->0≤n->n+ndPs r≤8192->Evt (fun q=>e372Lbz q p n (v:Int)) (n+ndPs r)
 | [],p,n,v,hd,ho,hl,h0,h1=>by
  refine Evt.succ ?_
  simp only[e372Lbz]
  exact Evt.ifF (drop_nil hd) (Evt.ret.eq (by rw[ndPs];simp))
 |x::r,p,n,v,hd,ho,hl,h0,h1=>by
  have hlt:=drop_lt hd
  rw[okPs]at ho
  rw[ndPs]at h1 ⊢
  refine Evt.succ ?_
  simp only[e372Lbz,pp_eta]
  refine Evt.ifT (drop_dec hd) (Evt.pure (drop_idx hd) (Evt.ifF (decide_eq_false (by omega)) ((ev_psz x n ho.1 h0 (by omega)).bind ?_)))
  rw[w64_nat v (by omega)]
  exact(ev_pszL r p _ (v+1) (drop_next hd) ho.2 hl (by omega) (by omega)).eq (by omega)
end
mutual
theorem ev_pdp:∀(p:PatternPat) (n:Int),okPt p->1≤n->n≤129->Evt (fun q=>e336 q p n) (if n+hP p-1≤128 then n+hP p-1 else 129)
 | .mk k n0 a sub t,n,ho,h0,h1=>by
  rw[okPt]at ho
  rw[hP]
  refine Evt.succ ?_
  simp only[e336]
  by_cases h:n>128
  ·exact Evt.ifT (decide_eq_true h) (Evt.ret.eq (by rw[if_neg (by omega)];omega))
  ·refine Evt.ifF (decide_eq_false h) ((ev_pdpL sub (.mk k n0 a sub t) n n 0 rfl ho.2.1 ho.1 h0 (by omega) (by omega) (by omega)).eq ?_)
   split<;>split<;>omega
theorem ev_pdpL:∀(r:List PatternPat) (p:PatternPat) (n m:Int) (v:Nat),p.sub_.drop v=r->okPs r->p.sub_.length≤17592186044416->1≤n->n≤128->n≤m->m≤129->Evt (fun q=>e336Lca q p n (v:Int) m) (if m=129∨128<n+hPs r then 129 else if m≤n+hPs r then n+hPs r else m)
 | [],p,n,m,v,hd,ho,hl,h0,h1,h2,h3=>by
  refine Evt.succ ?_
  simp only[e336Lca]
  refine Evt.ifF (drop_nil hd) (Evt.ret.eq ?_)
  rw[hPs]
  split
  ·omega
  ·split<;>omega
 |x::r,p,n,m,v,hd,ho,hl,h0,h1,h2,h3=>by
  have hlt:=drop_lt hd
  rw[okPs]at ho
  refine Evt.succ ?_
  simp only[e336Lca,pp_eta]
  rw[w64_id (x:=n+1) (by omega) (by omega)]
  refine Evt.ifT (drop_dec hd) (Evt.pure (drop_idx hd) ((ev_pdp x (n+1) ho.1 (by omega) (by omega)).bind ?_))
  rw[w64_nat v (by omega),hPs]
  have hx:=hP_sub x
  refine(ev_pdpL r p n _ (v+1) (drop_next hd) ho.2 hl h0 h1 ?_ ?_).eq ?_
  ·unfold imax;split<;>split<;>omega
  ·unfold imax;split<;>split<;>omega
  ·have hm:((max (hP x) (hPs r):Nat):Int)=if (hP x:Int)≤hPs r then(hPs r:Int)else hP x:=by split<;>omega
   rw[hm]
   unfold imax
   repeat' split
   all_goals first|omega | (rename_i h1 h2;omega)
end
theorem ev_psmall(p:PatternPat)(ho:okPt p)(hn:ndP p≤300):Evt (fun q=>e298 q p) (decide (hP p≤128)):=by
 simp only[e298,e335,pp_eta]
 refine Evt.bind (a:=0+(ndP p:Int)) ((ev_psz p 0 ho (by omega) (by omega)).bind Evt.ret) (Evt.ifT (decide_eq_true (by omega)) ((ev_pdp p 1 ho (by omega) (by omega)).bind (Evt.ret.eq ?_)))
 congr 1
 simp only[eq_iff_iff]
 split<;>omega
mutual
def oneP:PatternPat->List Int
 | .mk k n _ sub _=>if k=1 then [n]else onesP sub
def onesP:List PatternPat->List Int
 | []=>[]
 |p::ps=>oneP p++onesP ps
end
def varsT:List PatternPat->List Int
 | []=>[]
 |p::ps=>(if hP p≤128 then oneP p else [])++varsT ps
theorem varsT_low:∀ {l:List PatternPat},hPs l≤128->varsT l=onesP l
 | [],_=>by rw[varsT,onesP]
 |p::l,h=>by
  rw[hPs]at h
  rw[varsT,onesP,if_pos (by omega),varsT_low (by omega)]
mutual
theorem oneP_len:∀p:PatternPat,(oneP p).length≤ndP p
 | .mk k n a sub t=>by
  rw[oneP,ndP]
  split
  ·simp
  ·have:=onesP_len sub;omega
theorem onesP_len:∀l:List PatternPat,(onesP l).length≤ndPs l
 | []=>by simp[onesP]
 |p::l=>by rw[onesP,ndPs];have:=oneP_len p;have:=onesP_len l;simp;omega
end
theorem varsT_len:∀l:List PatternPat,(varsT l).length≤ndPs l
 | []=>by simp[varsT]
 |p::l=>by rw[varsT,ndPs];have:=oneP_len p;have:=varsT_len l;split<;>simp<;>omega
mutual
theorem ev_pvars:∀(p:PatternPat),okPt p->ndP p≤300->hP p≤128->Evt (fun q=>e300 q p) (oneP p)
 | .mk k n0 a sub t,ho,hn,hh=>by
  rw[okPt]at ho
  rw[ndP]at hn
  rw[hP]at hh
  rw[oneP]
  refine Evt.succ ?_
  simp only[e300,PatternPat.kind_,PatternPat.n_,PatternPat.sub_]
  by_cases h:k=1
  ·rw[if_pos h];exact Evt.ifT (by simp[h]) Evt.ret
  ·rw[if_neg h]
   refine Evt.ifF (by simp[h]) (Evt.bind (a:=onesP sub) ?_ Evt.ret)
   refine Evt.succ ?_
   simp only[e243]
   exact(ev_pVarsL sub sub 0 [] rfl ho.2.1 (by simp;omega) ho.1).eq (by rw[varsT_low (by omega)];rfl)
theorem ev_pVarsL:∀(r l:List PatternPat) (v:Nat) (acc:List Int),l.drop v=r->okPs r->acc.length+ndPs r≤300->l.length≤17592186044416->Evt (fun q=>e243Lcb q l acc (v:Int)) (acc++varsT r)
 | [],l,v,acc,hd,ho,hn,hl=>by
  refine Evt.succ ?_
  simp only[e243Lcb]
  exact Evt.ifF (drop_nil hd) (Evt.ret.eq (by rw[varsT];simp))
 |x::r,l,v,acc,hd,ho,hn,hl=>by
  have hlt:=drop_lt hd
  rw[okPs]at ho
  rw[ndPs]at hn
  rw[varsT]
  have hx1:=oneP_len x
  refine Evt.succ ?_
  simp only[e243Lcb,pp_eta]
  refine Evt.ifT (drop_dec hd) (Evt.pure (drop_idx hd) ((ev_psmall x ho.1 (by omega)).bind ?_))
  by_cases h:hP x≤128
  ·rw[if_pos h]
   refine Evt.ifT (decide_eq_true h) ((ev_pvars x ho.1 (by omega) h).bind (Evt.pure (gapp_ok (by omega)) ?_))
   rw[w64_nat v (by omega)]
   exact(ev_pVarsL r l (v+1) _ (drop_next hd) ho.2 (by simp;omega) hl).eq (by simp)
  ·rw[if_neg h]
   refine Evt.ifF (decide_eq_false h) ?_
   rw[w64_nat v (by omega)]
   exact(ev_pVarsL r l (v+1) _ (drop_next hd) ho.2 (by omega) hl).eq (by simp)
end
theorem ev_pVars(l:List PatternPat)(ho:okPs l)(hn:ndPs l≤300):Evt (fun q=>e243 q l) (varsT l):=by
 have:=ndPs_len l
 refine Evt.succ ?_
 simp only[e243]
 exact(ev_pVarsL l l 0 [] rfl ho (by simp;omega) (by omega)).eq (by simp)
theorem cpct_id:∀ {l:List Int},l.Nodup->cpct l=l
 | [],_=>rfl
 | [x],_=>rfl
 |x::y::l,h=>by
  rw[cpct_cons2,if_neg (fun e=>by subst e;simp at h),cpct_id (List.nodup_cons.1 h).2]
theorem ev_pLinear(l:List PatternPat)(ho:okPs l)(hn:ndPs l≤300)(hv:(varsT l).Nodup):Evt (fun q=>e241 q l) true:=by
 have hl:=varsT_len l
 have hi:=isort_len (varsT l)
 simp only[e241]
 refine(ev_pVars l ho hn).bind (Evt.ifT (decide_eq_true (by omega)) (Evt.bind (a:=isort (varsT l)) (Evt.mk fun _=>gapp_ok (by simp;omega)) (Evt.ret.eq ?_)))
 rw[cpct_id ((isort_perm (varsT l)).nodup_iff.2 hv)];simp
mutual
theorem ev_rone:∀(p:PatternPat),ndP p≤300->Evt (fun q=>e239 q (cvP p)) (oneP p)
 | .mk k n0 a sub t,hn=>by
  rw[ndP]at hn
  rw[oneP]
  refine Evt.succ ?_
  simp only[e239,cv_kind,cv_n,PatternPat.kind_,PatternPat.n_]
  by_cases h:k=1
  ·rw[if_pos h];exact Evt.ifT (by simp[h]) Evt.ret
  ·rw[if_neg h]
   exact Evt.ifF (by simp[h]) ((ev_roneL sub (.mk k n0 a sub t) 0 [] rfl (by simp;omega) (by have:=ndPs_len sub;simp only[PatternPat.sub_];omega)).eq (by simp))
theorem ev_roneL:∀(r:List PatternPat) (p:PatternPat) (v:Nat) (acc:List Int),p.sub_.drop v=r->acc.length+ndPs r≤300->p.sub_.length≤300->Evt (fun q=>e239Lem q (cvP p) acc (v:Int)) (acc++onesP r)
 | [],p,v,acc,hd,hn,hl=>by
  refine Evt.succ ?_
  simp only[e239Lem,cv_sub]
  exact Evt.ifF (drop_nil (cvPs_drop0 hd)) (Evt.ret.eq (by rw[onesP];simp))
 |x::r,p,v,acc,hd,hn,hl=>by
  have hlt:=drop_lt hd
  rw[ndPs]at hn
  rw[onesP]
  have hx1:=oneP_len x
  refine Evt.succ ?_
  simp only[e239Lem,cv_sub,rp_eta]
  refine Evt.ifT (drop_dec (cvPs_drop hd)) (Evt.pure (drop_idx (cvPs_drop hd)) ((ev_rone x (by omega)).bind (Evt.pure (gapp_ok (by omega)) ?_)))
  rw[w64_nat v (by omega)]
  exact(ev_roneL r p (v+1) _ (drop_next hd) (by simp;omega) hl).eq (by simp)
end
theorem ev_rVarsL(l:List PatternPat)(hl:l.length≤300):∀(r:List PatternPat) (v:Nat) (acc:List Int),l.drop v=r->acc.length+ndPs r≤300->Evt (fun q=>e181Len q (cvPs l) acc (v:Int)) (acc++varsT r):=by
 intro r
 induction r with
 |nil=>
  intro v acc hd hn
  refine Evt.succ ?_
  simp only[e181Len]
  exact Evt.ifF (drop_nil (cvPs_drop0 hd)) (Evt.ret.eq (by rw[varsT];simp))
 |cons x r ih=>
  intro v acc hd hn
  have hlt:=drop_lt hd
  rw[ndPs]at hn
  rw[varsT]
  have hx1:=oneP_len x
  refine Evt.succ ?_
  simp only[e181Len,rp_eta]
  refine Evt.ifT (drop_dec (cvPs_drop hd)) (Evt.pure (drop_idx (cvPs_drop hd)) ((ev_rPsmall x (by omega)).bind ?_))
  by_cases h:hP x≤128
  ·rw[if_pos h]
   refine Evt.ifT (decide_eq_true h) ((ev_rone x (by omega)).bind (Evt.pure (gapp_ok (by omega)) ?_))
   rw[w64_nat v (by omega)]
   exact(ih (v+1) _ (drop_next hd) (by simp;omega)).eq (by simp)
  ·rw[if_neg h]
   refine Evt.ifF (decide_eq_false h) ?_
   rw[w64_nat v (by omega)]
   exact(ih (v+1) _ (drop_next hd) (by omega)).eq (by simp)
theorem ev_rVars(l:List PatternPat)(hn:ndPs l≤300):Evt (fun q=>e181 q (cvPs l)) (varsT l):=by
 have:=ndPs_len l
 simp only[e181]
 exact(ev_rVarsL l (by omega) l 0 [] rfl (by simp;omega)).eq (by simp)
def NodF(l:List Int)(a:Nat):Prop:=∀i k:Nat,a≤i->(h2:k<i)->(h:i<l.length)->l[i]≠l[k]'(by omega)
theorem tot_rLin(l:List Int)(hl:l.length≤300):∀(m a:Nat),a+m=l.length->Tot (fun q=>e179Leo q l (a:Int)) fun b=>b=true->NodF l a:=by
 intro m
 induction m with
 |zero=>
  intro a ha
  refine Tot.succ ?_
  simp only[e179Leo]
  refine Tot.ite (fun h=>?_) fun _=>Tot.ret fun _ i k h1 h2 h3=>by omega
  have:=of_decide_eq_true h;omega
 |succ m ih=>
  intro a ha
  have K:∀(j k:Nat),k+j=a->Tot (fun q=>e179Lep q l (a:Int) (k:Int)) fun b=>b=true->NodF l (a+1)∧∀i:Nat,k≤i->(hi:i<a)->l[a]'(by omega)≠l[i]'(by omega):=by
   intro j
   induction j with
   |zero=>
    intro k hk
    refine Tot.succ ?_
    simp only[e179Lep]
    refine Tot.ite (fun h=>?_) fun _=>?_
    ·have:=of_decide_eq_true h;omega
    rw[w64_nat a (by omega)]
    exact(ih (a+1) (by omega)).mono fun b hb h=>⟨hb h,fun i h1 h2=>by omega⟩
   |succ j ihj=>
    intro k hk
    refine Tot.succ ?_
    simp only[e179Lep]
    refine Tot.ite (fun _=>Tot.pure (gidx_nat (by omega)) (Tot.pure (gidx_nat (by omega)) (Tot.ite (fun _=>Tot.ret fun h=>nomatch h) fun hne=>?_))) fun h=>?_
    ·rw[w64_nat k (by omega)]
     refine(ihj (k+1) (by omega)).mono fun b hb h=>⟨(hb h).1,fun i h1 h2=>?_⟩
     by_cases e:i=k
     ·subst e;simpa using hne
     ·exact(hb h).2 i (by omega) h2
    ·have:=of_decide_eq_false h;omega
  refine Tot.succ ?_
  simp only[e179Leo]
  refine Tot.ite (fun _=>(K a 0 (by omega)).mono fun b hb h i k h1 h2 h3=>?_) fun h=>?_
  ·obtain⟨g1,g2⟩:=hb h
   by_cases e:i=a
   ·subst e;exact g2 k (by omega) h2
   ·exact g1 i k (by omega) h2 h3
  ·have:=of_decide_eq_false h;omega
theorem tot_rLinear(l:List PatternPat)(hn:ndPs l≤300):Tot (fun q=>e179 q (cvPs l)) fun b=>b=true->(varsT l).Nodup:=by
 have hl:=varsT_len l
 simp only[e179]
 refine Tot.bind (P:=fun r=>r=varsT l) ((ev_rVars l hn).tot rfl) fun r hr=>?_
 subst hr
 refine(tot_rLin (varsT l) (by omega) (varsT l).length 0 (by omega)).mono fun b hb h=>?_
 have:=hb h
 unfold List.Nodup
 rw[List.pairwise_iff_getElem]
 exact fun i j hi hj hij=>fun e=>this j i (by omega) hij hj e.symm
def zeroT(t:Tm):Prop:=t.k=0∧t.n=0∧t.sub=[]
mutual
def PG(l:List Ent):PatternPat->Prop
 | .mk k n _ sub t=>(k=2∧ariT l n=sub.length∧zeroT t∧PGs l sub)∨(sub=[]∧(k=1∨k=3∨k=4)∧(k≠1->n=0)∧0≤n∧n≤1048576∧(k=3->shapedT t=true)∧(k≠3->zeroT t))
def PGs(l:List Ent):List PatternPat->Prop
 | []=>True
 |p::ps=>PG l p∧PGs l ps
end
theorem tot_zero(t:Tm):Tot (fun q=>e297 q t) fun b=>b=true->zeroT t:=by
 simp only[e297]
 refine Tot.ite (fun h1=>Tot.ite (fun h2=>Tot.ret fun h3=>⟨by simpa using h1,by simpa using h2,by simpa using h3⟩) fun _=>Tot.ret fun h=>nomatch h) fun _=>Tot.ret fun h=>nomatch h
theorem ev_pnone{t:Tm}(h:zeroT t):Evt (fun q=>e337 q t) true:=by
 obtain⟨h1,h2,h3⟩:=h
 simp only[e337]
 exact Evt.ifT (by simp[h1]) (Evt.ifT (by simp[h2]) (Evt.ret.eq (by simp[h3])))
section
variable {N:ByteArray->Bool} {l:List Ent} (hE:AllE N l)
include hE
theorem ev_rArity(n:Int):Evt (fun q=>e240 q l n) (ariT l n):=by
 simp only[e240]
 refine(ev_rIs l n 2).bind ?_
 by_cases hi:isT l n 2=true
 ·have hi':=isT_spec hi
  have hs:=entryT_spec (hE.2 n hi'.1 hi'.2.1)
  have hst:=closed_shaped hs.1
  obtain⟨L,y,hL,hlen,-,-,-,-,hT,-⟩:=ev_rTele2 hst
  have hsh:=shapedT_spec hst
  have hp:pisT (ent l n).type≤8192:=Nat.le_trans (pis_nodes _ hsh.2.2) hsh.1
  obtain⟨A,z,-,-,-,a3,a4,a5,a6,-⟩:=con_facts hE hi'.1 hi'.2.1 hi'.2.2
  refine Evt.ifT hi (Evt.pure (gidx_ent hi'.1 hi'.2.1) (hT.bind (Evt.ret.eq ?_)))
  unfold ariT
  rw[if_pos ⟨hi'.1,hi'.2.1,hi'.2.2⟩,w64_id (by omega) (by omega),hlen]
 ·refine Evt.ifF (by simpa using hi) (Evt.ret.eq ?_)
  unfold ariT
  rw[if_neg]
  intro h
  exact hi (by unfold isT;simp[h.1,h.2.1,h.2.2])
mutual
theorem tot_rgood:∀(p:PatternPat),okPt p->ndP p≤300->Tot (fun q=>e238 q l (cvP p)) fun b=>b=true->PG l p
 | .mk k n a sub t,ho,hn=>by
  rw[okPt]at ho
  rw[ndP]at hn
  have hsl:=ndPs_len sub
  have no:∀v:Nat,Tot (fun q=>e238Leq q l (cvP (.mk k n a sub t)) false (v:Int)) fun b=>b=true->PG l (.mk k n a sub t):=fun v=>by
   refine Tot.succ ?_
   simp only[e238Leq]
   exact Tot.ite (fun h=>nomatch h) fun _=>Tot.ite (fun _=>Tot.ret fun h=>nomatch h) fun _=>Tot.ret fun h=>nomatch h
  have leaf:∀(t':Tm),¬(((cvPs sub).length:Int)>0)->¬k<1->¬k>4->k≠2->(k≠1->n=0)->¬n<0->¬n>1048576->(k=3->shapedT t=true)->(k≠3->zeroT t)->PG l (.mk k n a sub t):=fun _ h1 h2 h3 h4 h5 h6 h7 h8 h9=>by
   rw[cvPs_len]at h1
   have:sub=[]:=List.length_eq_zero_iff.1 (by omega)
   rw[PG];exact .inr ⟨this,by omega,h5,by omega,by omega,h8,h9⟩
  refine Tot.succ ?_
  simp only[e238,cv_kind,cv_n,cv_t,cv_sub,PatternPat.kind_,PatternPat.n_,PatternPat.t_,PatternPat.sub_]
  refine Tot.ite (fun h2=>?_) fun h2=>?_
  ·refine Tot.bind (P:=fun r=>r=ariT l n) ((ev_rArity hE n).tot rfl) fun r hr=>?_
   subst hr
   refine Tot.ite (fun ha=>(tot_zero t).bind fun z hz=>Tot.ite (fun hz'=>?_) fun _=>no 0) fun _=>no 0
   refine(tot_rgoodL sub (.mk k n a sub t) 0 rfl ho.2.1 (by omega) (by simp only[PatternPat.sub_];omega)).mono fun b hb h=>?_
   rw[PG]
   exact .inl ⟨by simpa using h2,by rw[cvPs_len]at ha;simpa using ha,hz hz',hb h⟩
  ·have h2':k≠2:=by simpa using h2
   refine Tot.ite (fun _=>Tot.ret fun h=>nomatch h) fun h3=>Tot.ite (fun _=>Tot.ret fun h=>nomatch h) fun h4=>Tot.ite (fun _=>Tot.ret fun h=>nomatch h) fun h5=>Tot.ite (fun h6=>Tot.ite (fun _=>Tot.ret fun h=>nomatch h) fun h7=>Tot.ite (fun _=>Tot.ret fun h=>nomatch h) fun h8=>Tot.ite (fun _=>Tot.ret fun h=>nomatch h) fun h9=>Tot.ite (fun h10=>?_) fun h10=>?_) fun h6=>Tot.ite (fun _=>Tot.ret fun h=>nomatch h) fun h8=>Tot.ite (fun _=>Tot.ret fun h=>nomatch h) fun h9=>Tot.ite (fun h10=>?_) fun h10=>?_
   ·exact Tot.bind (P:=fun b=>b=shapedT t) ((ev_rShaped t ho.2.2).tot rfl) fun b hb=>Tot.ret fun h=>leaf t (of_decide_eq_false h3) (of_decide_eq_false h4) (of_decide_eq_false h5) h2' (fun _=>by simpa using h7) (of_decide_eq_false h8) (of_decide_eq_false h9) (fun _=>by rw[←hb];exact h) fun e=>absurd (by simpa using h10) e
   ·exact(tot_zero t).bind fun b hb=>Tot.ret fun h=>leaf t (of_decide_eq_false h3) (of_decide_eq_false h4) (of_decide_eq_false h5) h2' (fun _=>by simpa using h7) (of_decide_eq_false h8) (of_decide_eq_false h9) (fun e=>absurd e (by simpa using h10)) fun _=>hb h
   ·exfalso
    have a1:k=1:=by simpa using h6
    have a2:k=3:=by simpa using h10
    omega
   ·have a1:k=1:=by simpa using h6
    exact(tot_zero t).bind fun b hb=>Tot.ret fun h=>leaf t (of_decide_eq_false h3) (of_decide_eq_false h4) (of_decide_eq_false h5) h2' (fun e=>absurd a1 e) (of_decide_eq_false h8) (of_decide_eq_false h9) (fun e=>absurd e (by simpa using h10)) fun _=>hb h
theorem tot_rgoodL:∀(r:List PatternPat) (p:PatternPat) (v:Nat),p.sub_.drop v=r->okPs r->ndPs r≤300->p.sub_.length≤300->Tot (fun q=>e238Leq q l (cvP p) true (v:Int)) fun b=>b=true->PGs l r
 | [],p,v,hd,ho,hn,hl=>by
  refine Tot.succ ?_
  simp only[e238Leq,cv_sub]
  refine Tot.ite (fun h=>?_) fun _=>Tot.ret fun _=>by rw[PGs];trivial
  rw[drop_nil (cvPs_drop0 hd)]at h;cases h
 |x::r,p,v,hd,ho,hn,hl=>by
  have hlt:=drop_lt hd
  rw[okPs]at ho
  rw[ndPs]at hn
  refine Tot.succ ?_
  simp only[e238Leq,cv_sub,rp_eta]
  refine Tot.ite (fun _=>Tot.pure (drop_idx (cvPs_drop hd)) ((tot_rgood x ho.1 (by omega)).bind fun b hb=>Tot.ite (fun h=>?_) fun _=>?_)) fun h=>?_
  ·rw[w64_nat v (by omega)]
   exact(tot_rgoodL r p (v+1) (drop_next hd) ho.2 (by omega) hl).mono fun b' hb' h'=>by rw[PGs];exact⟨hb h,hb' h'⟩
  ·refine Tot.mono (P:=fun b=>b=false) ?_ fun b hb h=>by rw[hb]at h;cases h
   refine Tot.succ ?_
   simp only[e238Leq]
   exact Tot.ite (fun h=>nomatch h) fun _=>Tot.ite (fun _=>Tot.ret rfl) fun _=>Tot.ret rfl
  ·rw[drop_dec (cvPs_drop hd)]at h;cases h
end
mutual
theorem ev_goodX:∀(p:PatternPat),okPt p->PG l p->Evt (fun q=>e299vacg q l p) true
 | .mk k n a sub t,ho,hg=>by
  rw[okPt]at ho
  rw[PG]at hg
  refine Evt.succ ?_
  simp only[e299vacg,PatternPat.kind_,PatternPat.n_,PatternPat.t_,PatternPat.sub_]
  rcases hg with⟨h1,h2,h3,h4⟩|⟨h1,h2,h3,h4,h5,h6,h7⟩
  ·refine Evt.ifF (by simp[h1]) (Evt.ifF (by simp[h1]) (Evt.ifF (by simp[h1]) (Evt.ifT (by simp[h1]) ((ev_arity hE n).bind (Evt.ifF (by simp[h2]) ((ev_pnone h3).bind (Evt.ifT rfl (Evt.bind (a:=false) ?_ Evt.ret))))))))
   refine Evt.succ ?_
   simp only[e339vacd]
   refine Evt.bind (a:=-1) ?_ Evt.ret
   refine Evt.succ ?_
   simp only[e373vacd]
   exact ev_goodXL sub sub 0 rfl ho.2.1 ho.1 h4
  ·subst h1
   rcases h2 with rfl|rfl|rfl
   ·exact Evt.ifT rfl (Evt.ifT (decide_eq_true h4) (Evt.ifT (decide_eq_true h5) (Evt.ifT rfl ((ev_pnone (h7 (by decide))).bind Evt.ret))))
   ·exact Evt.ifF rfl (Evt.ifT rfl (Evt.ifT (by simp[h3 (by decide)]) (Evt.ifT rfl (((ev_Shaped t ho.2.2).eq (h6 rfl)).bind Evt.ret))))
   ·exact Evt.ifF rfl (Evt.ifF rfl (Evt.ifT rfl (Evt.ifT (by simp[h3 (by decide)]) (Evt.ifT rfl ((ev_pnone (h7 (by decide))).bind Evt.ret)))))
theorem ev_goodXL:∀(r ps:List PatternPat) (v:Nat),ps.drop v=r->okPs r->ps.length≤17592186044416->PGs l r->Evt (fun q=>e373vacdLce q ps l (v:Int)) (-1)
 | [],ps,v,hd,ho,hl,hg=>by
  refine Evt.succ ?_
  simp only[e373vacdLce]
  exact Evt.ifF (drop_nil hd) Evt.ret
 |x::r,ps,v,hd,ho,hl,hg=>by
  have hlt:=drop_lt hd
  rw[okPs]at ho
  rw[PGs]at hg
  refine Evt.succ ?_
  simp only[e373vacdLce,pp_eta]
  refine Evt.ifT (drop_dec hd) (Evt.pure (drop_idx hd) (Evt.bind (a:=false) ?_ (Evt.ifF rfl ?_)))
  ·refine Evt.succ ?_
   simp only[e340vacf,pp_eta]
   exact(ev_goodX x ho.1 hg.1).bind Evt.ret
  ·rw[w64_nat v (by omega)]
   exact ev_goodXL r ps (v+1) (drop_next hd) ho.2 hl hg.2
end
end
def e74Ler:Nat->(List Ent)->(List ByteArray)->Int->Option (List ByteArray)
 |0,_,_,_=>none
 |qq+1,p0,v3,v4=>
 if decide (v4<(List.length p0:Int))then
 gidx p0 v4>>=fun x2=>
 gapp 16 v3 [x2.name]>>=fun l4=>
 e74Ler qq p0 l4 (w64 (v4+1))
 else
 some v3
def e74(qq:Nat)(p0:List Ent):Option (List ByteArray):=
 e74Ler qq p0 [] 0
def g74LerE0(j:Nat->Value)(p0:List Ent)(v3:List ByteArray)(v4:Int):=sp j 21 0 [(0,slv entL p0 .no),(3,slv strC v3 (.st 0 1)),(4,ai v4)]
def g74LerS0(p0:List Ent)(v3:List ByteArray)(v4:Int):LSt:=⟨[],0,[0],1,[]⟩
abbrev K74 (p0:List Ent) (r:List ByteArray) (C:Cf):Prop:=C 74 [] [slv entL p0 .no] (.sl (flat strC r) (List.length r) .no) [] 0
theorem q74:Qf 74 Tryz.f74:=⟨Tryz.func74,by kernel_rfl⟩
theorem k74{p0 r}(h:K74 p0 r Ci):K74 p0 r Ct:=⟨h,⟨⟨tv,dE _⟩,tv⟩,forall_nil,dS _,forall_nil⟩
theorem l74Ler:∀qq:Nat,(∀p0 v3 v4 r,e74Ler qq p0 v3 v4=some r->(∀j,Dl Tryz.prog 0 (inn (inn (rgt (lft (rgt (rgt (bod Tryz.f74))))))) (g74LerE0 j p0 v3 v4) (g74LerS0 p0 v3 v4) (frameQ Tryz.prog 0 (FinQ Tryz.prog 0 Tryz.f74 (.sl (flat strC r) (List.length r) .no) [] 0) [.blk 0,.seq (rgt (rgt (rgt (bod Tryz.f74))))]))):=by
 intro qq
 induction qq with
 |zero=>
  exact fun _ _ _ _ h=>nn h
 |succ qq ih=>
  intro p0 v3 v4 r h
  rw[e74Ler]at h
  rcases spl h with⟨h1,h⟩|⟨h1,h⟩
  obtain⟨x2,h3,h⟩:=obind h
  obtain⟨l4,h5,h⟩:=obind h
  exact fun j=>lH 1 [] [] [1] [0,3,4] (oD (dS l4)<|oD (dE p0)<|oP 2 (apS141 h5 (by simp))<|oA 0 (ix22 (o:=.no) h3)<|oB 1 h1 o0) (ih _ _ _ _ h)
  obtain rfl:=sj h
  exact fun j=>lF 0 [] (oD (dS v3)<|oB 1 h1 o0)
theorem c74{qq p0 r}(h:e74 qq p0=some r):K74 p0 r Ct:=by
 unfold e74 at h
 exact k74 (tH q74 1 [(none,3,1)] [] [0] [0,3,4] (oD (dS ([]:List ByteArray))<|oD (dE p0) o0) (l74Ler _ _ _ _ _ h))
def e141(qq:Nat)(p0:List Ent)(p1:Int):Option (Bool):=
 gidx p0 p1>>=fun x1=>
 if decide (x1.pars<0)then
 some false
 else
 if decide (x1.inds<0)then
 some false
 else
 if decide (x1.pars>24)then
 some false
 else
 if decide (x1.inds>24)then
 some false
 else
 if decide ((w64 (x1.pars+x1.inds))>24)then
 some false
 else
 if x1.fam != 0 then
 some false
 else
 if x1.place != 0 then
 some false
 else
 e207 qq x1.body>>=fun r10=>
 if r10 then
 e208 qq x1.type (w64 (x1.pars+x1.inds))>>=fun r13=>
 if r13.2.2 != 0 then
 some false
 else
 if r13.2.1.k != 2 then
 some false
 else
 if r13.2.1.n != x1.level then
 some false
 else
 if decide ((List.length x1.cons:Int)>16)then
 some false
 else
 e209 qq p0 x1.cons (w64 (p1+1)) p1 2>>=fun r19=>
 if r19 then
 if (List.length x1.fields:Int)==0 then
 some true
 else
 if x1.inds==0 then
 if (List.length x1.cons:Int)==1 then
 e209 qq p0 x1.fields (w64 (p1+2)) p1 4>>=fun r25=>
 if r25 then
 gidx p0 (w64 (p1+1))>>=fun x28=>
 e18 qq x28.type>>=fun r30=>
 if r30 then
 e79 qq x28.type>>=fun r33=>
 some ((List.length r33:Int)==(w64 (x1.pars+(List.length x1.fields:Int))))
 else
 some false
 else
 some false
 else
 some false
 else
 some false
 else
 some false
 else
 some false
abbrev K141 (p0:List Ent) (p1:Int) (r:Bool) (C:Cf):Prop:=C 141 [] [slv entL p0 .no,ai p1] (ab r) [] 0
theorem q141:Qf 141 Tryz.f141:=⟨Tryz.func141,by kernel_rfl⟩
theorem k141{p0 p1 r}(h:K141 p0 p1 r Ci):K141 p0 p1 r Ct:=⟨h,⟨⟨tv,dE _⟩,tv,tv⟩,forall_nil,tv,forall_nil⟩
theorem c141{qq p0 p1 r}(h:e141 qq p0 p1=some r):K141 p0 p1 r Ct:=by
 unfold e141 at h
 obtain⟨x1,h2,h⟩:=obind h
 have k:=oA 0 (ix22 (o:=.no) h2) o0
 rcases spl h with⟨h3,h⟩|⟨h3,h⟩
 obtain rfl:=sj h
 exact k141 (tF q141 0 [] (oB 3 h3 k))
 have k:=oB 3 h3 k
 rcases spl h with⟨h4,h⟩|⟨h4,h⟩
 obtain rfl:=sj h
 exact k141 (tF q141 0 [] (oB 1 h4 k))
 have k:=oB 1 h4 k
 rcases spl h with⟨h5,h⟩|⟨h5,h⟩
 obtain rfl:=sj h
 exact k141 (tF q141 0 [] (oB 1 h5 k))
 have k:=oB 1 h5 k
 rcases spl h with⟨h6,h⟩|⟨h6,h⟩
 obtain rfl:=sj h
 exact k141 (tF q141 0 [] (oB 1 h6 k))
 have k:=oB 1 h6 k
 rcases spl h with⟨h7,h⟩|⟨h7,h⟩
 obtain rfl:=sj h
 exact k141 (tF q141 0 [] (oB 3 h7 k))
 have k:=oB 3 h7 k
 rcases spl h with⟨h8,h⟩|⟨h8,h⟩
 obtain rfl:=sj h
 exact k141 (tF q141 0 [] (oB 1 h8 k))
 have k:=oB 1 h8 k
 rcases spl h with⟨h9,h⟩|⟨h9,h⟩
 obtain rfl:=sj h
 exact k141 (tF q141 0 [] (oB 1 h9 k))
 obtain⟨r10,h11,h⟩:=obind h
 have k:=oB 1 h9 k
 rcases spl h with⟨h12,h⟩|⟨h12,h⟩
 obtain⟨r13,h14,h⟩:=obind h
 have k:=oC 5 [] (c208 h14)<|oK 1 [] h12 (c207 h11) k
 rcases spl h with⟨h15,h⟩|⟨h15,h⟩
 obtain rfl:=sj h
 exact k141 (tF q141 0 [] (oB 4 h15 k))
 have k:=oB 4 h15 k
 rcases spl h with⟨h16,h⟩|⟨h16,h⟩
 obtain rfl:=sj h
 exact k141 (tF q141 0 [] (oB 1 h16 k))
 have k:=oB 1 h16 k
 rcases spl h with⟨h17,h⟩|⟨h17,h⟩
 obtain rfl:=sj h
 exact k141 (tF q141 0 [] (oB 2 h17 k))
 have k:=oB 2 h17 k
 rcases spl h with⟨h18,h⟩|⟨h18,h⟩
 obtain rfl:=sj h
 exact k141 (tF q141 0 [] (oB 2 h18 k))
 obtain⟨r19,h20,h⟩:=obind h
 have k:=oB 2 h18 k
 rcases spl h with⟨h21,h⟩|⟨h21,h⟩
 have k:=oK 2 [] h21 (c209 h20) k
 rcases spl h with⟨h22,h⟩|⟨h22,h⟩
 obtain rfl:=sj h
 exact k141 (tF q141 0 [] (oB 3 h22 k))
 have k:=oB 3 h22 k
 rcases spl h with⟨h23,h⟩|⟨h23,h⟩
 have k:=oB 1 h23 k
 rcases spl h with⟨h24,h⟩|⟨h24,h⟩
 obtain⟨r25,h26,h⟩:=obind h
 have k:=oB 2 h24 k
 rcases spl h with⟨h27,h⟩|⟨h27,h⟩
 obtain⟨x28,h29,h⟩:=obind h
 obtain⟨r30,h31,h⟩:=obind h
 have k:=oA 1 (ix22 (o:=.no) h29)<|oK 2 [] h27 (c209 h26) k
 rcases spl h with⟨h32,h⟩|⟨h32,h⟩
 obtain⟨r33,h34,h⟩:=obind h
 obtain rfl:=sj h
 exact k141 (tF q141 6 [] (oC 1 [] (c79 h34)<|oA 1 (ix22 (o:=.no) h29)<|oK 1 [] h32 (c18 h31) k))
 obtain rfl:=sj h
 exact k141 (tF q141 0 [] (oK 1 [] h32 (c18 h31) k))
 obtain rfl:=sj h
 exact k141 (tF q141 0 [] (oK 2 [] h27 (c209 h26) k))
 obtain rfl:=sj h
 exact k141 (tF q141 0 [] (oB 2 h24 k))
 obtain rfl:=sj h
 exact k141 (tF q141 0 [] (oB 1 h23 k))
 obtain rfl:=sj h
 exact k141 (tF q141 1 [] (oK 2 [] h21 (c209 h20) k))
 obtain rfl:=sj h
 exact k141 (tF q141 1 [] (oK 1 [] h12 (c207 h11) k))
def e142Les:Nat->Int->Ent->(List Int)->Int->Option (Bool)
 |0,_,_,_,_=>none
 |qq+1,p1,x1,v6,v7=>
 if decide (v7<(List.length v6:Int))then
 gidx v6 v7>>=fun x19=>
 if x19==p1 then
 if x1.place==v7 then
 some true
 else
 e142Les qq p1 x1 v6 (w64 (v7+1))
 else
 e142Les qq p1 x1 v6 (w64 (v7+1))
 else
 some false
def e142(qq:Nat)(p0:List Ent)(p1:Int):Option (Bool):=
 gidx p0 p1>>=fun x1=>
 e77 qq p0 x1.fam 1>>=fun r3=>
 if r3 then
 if decide (x1.fam≥p1)then
 some false
 else
 e207 qq x1.body>>=fun r7=>
 if r7 then
 if x1.inds != 0 then
 some false
 else
 if x1.level != 0 then
 some false
 else
 if (List.length x1.cons:Int) != 0 then
 some false
 else
 if (List.length x1.fields:Int) != 0 then
 some false
 else
 gidx p0 x1.fam>>=fun x14=>
 if x1.pars != x14.pars then
 some false
 else
 if x1.kind==4 then
 e142Les qq p1 x1 x14.fields 0
 else
 e142Les qq p1 x1 x14.cons 0
 else
 some false
 else
 some false
def g142LesE0(j:Nat->Value)(p1:Int)(x1:Ent)(v6:List Int)(v7:Int):=sp j 95 0 [(1,ai p1),(5,.mp 0 0),(6,slv intC v6 .no),(7,ai v7)]
def g142LesS0(p1:Int)(x1:Ent)(v6:List Int)(v7:Int):LSt:=⟨[(0,.cells [ai x1.kind,at' x1.name,ai x1.type.k,ai x1.type.n,slv tmCells x1.type.sub .no,ai x1.body.k,ai x1.body.n,slv tmCells x1.body.sub .no,ai x1.fam,ai x1.place,ai x1.pars,ai x1.inds,ai x1.level,slv intC x1.cons .no,slv intC x1.fields .no])],1,[],0,[]⟩
abbrev K142 (p0:List Ent) (p1:Int) (r:Bool) (C:Cf):Prop:=C 142 [] [slv entL p0 .no,ai p1] (ab r) [] 0
theorem q142:Qf 142 Tryz.f142:=⟨Tryz.func142,by kernel_rfl⟩
theorem k142{p0 p1 r}(h:K142 p0 p1 r Ci):K142 p0 p1 r Ct:=⟨h,⟨⟨tv,dE _⟩,tv,tv⟩,forall_nil,tv,forall_nil⟩
theorem l142Les:∀qq:Nat,(∀p1 x1 v6 v7 r,e142Les qq p1 x1 v6 v7=some r->(∀j,Dl Tryz.prog 0 (inn (inn (rgt (lft (rgt (rgt (rgt (rgt (rgt (bod Tryz.f142)))))))))) (g142LesE0 j p1 x1 v6 v7) (g142LesS0 p1 x1 v6 v7) (frameQ Tryz.prog 0 (FinQ Tryz.prog 0 Tryz.f142 (ab r) [] 0) [.blk 0,.seq (rgt (rgt (rgt (rgt (rgt (rgt (bod Tryz.f142)))))))]))):=by
 intro qq
 induction qq with
 |zero=>
  exact fun _ _ _ _ _ h=>nn h
 |succ qq ih=>
  intro p1 x1 v6 v7 r h
  rw[e142Les]at h
  rcases spl h with⟨h18,h⟩|⟨h18,h⟩
  obtain⟨x19,h20,h⟩:=obind h
  have k:=oA 0 (ix41 (o:=.no) h20)<|oB 1 h18 o0
  rcases spl h with⟨h21,h⟩|⟨h21,h⟩
  have k:=oB 1 h21 k
  rcases spl h with⟨h22,h⟩|⟨h22,h⟩
  obtain rfl:=sj h
  exact fun j=>lF 0 [] (oB 1 h22 k)
  exact fun j=>lH 1 [] [0] [] [1,5,6,7] (oD (dI v6)<|oD (dI x1.fields)<|oD (dI x1.cons)<|oD (dT x1.body.sub)<|oD (dT x1.type.sub)<|oB 1 h22 k) (ih _ _ _ _ _ h)
  exact fun j=>lH 1 [] [0] [] [1,5,6,7] (oD (dI v6)<|oD (dI x1.fields)<|oD (dI x1.cons)<|oD (dT x1.body.sub)<|oD (dT x1.type.sub)<|oB 1 h21 k) (ih _ _ _ _ _ h)
  obtain rfl:=sj h
  exact fun j=>lF 0 [] (oB 1 h18 o0)
theorem c142{qq p0 p1 r}(h:e142 qq p0 p1=some r):K142 p0 p1 r Ct:=by
 unfold e142 at h
 obtain⟨x1,h2,h⟩:=obind h
 obtain⟨r3,h4,h⟩:=obind h
 have k:=oA 0 (ix22 (o:=.no) h2) o0
 rcases spl h with⟨h5,h⟩|⟨h5,h⟩
 have k:=oK 3 [] h5 (c77 h4) k
 rcases spl h with⟨h6,h⟩|⟨h6,h⟩
 obtain rfl:=sj h
 exact k142 (tF q142 0 [] (oB 2 h6 k))
 obtain⟨r7,h8,h⟩:=obind h
 have k:=oB 2 h6 k
 rcases spl h with⟨h9,h⟩|⟨h9,h⟩
 have k:=oK 1 [] h9 (c207 h8) k
 rcases spl h with⟨h10,h⟩|⟨h10,h⟩
 obtain rfl:=sj h
 exact k142 (tF q142 0 [] (oB 2 h10 k))
 have k:=oB 2 h10 k
 rcases spl h with⟨h11,h⟩|⟨h11,h⟩
 obtain rfl:=sj h
 exact k142 (tF q142 0 [] (oB 1 h11 k))
 have k:=oB 1 h11 k
 rcases spl h with⟨h12,h⟩|⟨h12,h⟩
 obtain rfl:=sj h
 exact k142 (tF q142 0 [] (oB 2 h12 k))
 have k:=oB 2 h12 k
 rcases spl h with⟨h13,h⟩|⟨h13,h⟩
 obtain rfl:=sj h
 exact k142 (tF q142 0 [] (oB 2 h13 k))
 obtain⟨x14,h15,h⟩:=obind h
 have k:=oA 2 (ix22 (o:=.no) h15)<|oB 2 h13 k
 rcases spl h with⟨h16,h⟩|⟨h16,h⟩
 obtain rfl:=sj h
 exact k142 (tF q142 0 [] (oB 1 h16 k))
 have k:=oA 1 (ix22 (o:=.no) h15)<|oB 1 h16 k
 rcases spl h with⟨h17,h⟩|⟨h17,h⟩
 exact k142 (tH q142 1 [] [0] [] [1,5,6,7] (oD (dI x14.fields)<|oD (dI x1.fields)<|oD (dI x1.cons)<|oD (dT x1.body.sub)<|oD (dT x1.type.sub)<|oA 1 (ix22 (o:=.no) h15)<|oB 2 h17 k) (l142Les _ _ _ _ _ _ h))
 exact k142 (tH q142 0 [] [0] [] [1,5,6,7] (oD (dI x14.cons)<|oD (dI x1.fields)<|oD (dI x1.cons)<|oD (dT x1.body.sub)<|oD (dT x1.type.sub)<|oB 2 h17 k) (l142Les _ _ _ _ _ _ h))
 obtain rfl:=sj h
 exact k142 (tF q142 1 [] (oK 1 [] h9 (c207 h8) k))
 obtain rfl:=sj h
 exact k142 (tF q142 1 [] (oK 3 [] h5 (c77 h4) k))
def e75(qq:Nat)(p0:List Ent)(p1:Int):Option (Bool):=
 gidx p0 p1>>=fun x1=>
 e140 qq x1.name>>=fun r3=>
 if r3 then
 e116 qq x1.type p1>>=fun r6=>
 if r6 then
 e79 qq x1.type>>=fun r9=>
 if x1.kind==1 then
 e141 qq p0 p1>>=fun r12=>
 some r12
 else
 if x1.kind==3 then
 e116 qq x1.body p1>>=fun r15=>
 if r15 then
 if x1.fam==0 then
 if x1.place==0 then
 if x1.pars==0 then
 if x1.inds==0 then
 if x1.level==0 then
 if (List.length x1.cons:Int)==0 then
 some ((List.length x1.fields:Int)==0)
 else
 some false
 else
 some false
 else
 some false
 else
 some false
 else
 some false
 else
 some false
 else
 some false
 else
 if x1.kind != 2 then
 if x1.kind != 4 then
 some false
 else
 e142 qq p0 p1>>=fun r26=>
 if r26 then
 if x1.kind==2 then
 if decide ((List.length r9:Int)≤24)then
 if decide ((List.length r9:Int)≥x1.pars)then
 e86 qq x1.type>>=fun r32=>
 gidx p0 x1.fam>>=fun x34=>
 e87 qq r32 x1.fam x1.pars x34.inds (List.length r9:Int)>>=fun r36=>
 some r36
 else
 some false
 else
 some false
 else
 if decide ((w64 (x1.pars+1))≤24)then
 if decide ((List.length r9:Int)≥(w64 (x1.pars+1)))then
 gidx r9 x1.pars>>=fun x40=>
 e87 qq x40 x1.fam x1.pars 0 x1.pars>>=fun r42=>
 some r42
 else
 some false
 else
 some false
 else
 some false
 else
 e142 qq p0 p1>>=fun r44=>
 if r44 then
 if x1.kind==2 then
 if decide ((List.length r9:Int)≤24)then
 if decide ((List.length r9:Int)≥x1.pars)then
 e86 qq x1.type>>=fun r50=>
 gidx p0 x1.fam>>=fun x52=>
 e87 qq r50 x1.fam x1.pars x52.inds (List.length r9:Int)>>=fun r54=>
 some r54
 else
 some false
 else
 some false
 else
 if decide ((w64 (x1.pars+1))≤24)then
 if decide ((List.length r9:Int)≥(w64 (x1.pars+1)))then
 gidx r9 x1.pars>>=fun x58=>
 e87 qq x58 x1.fam x1.pars 0 x1.pars>>=fun r60=>
 some r60
 else
 some false
 else
 some false
 else
 some false
 else
 some false
 else
 some false
abbrev K75 (p0:List Ent) (p1:Int) (r:Bool) (C:Cf):Prop:=C 75 [] [slv entL p0 .no,ai p1] (ab r) [] 0
theorem q75:Qf 75 Tryz.f75:=⟨Tryz.func75,by kernel_rfl⟩
theorem k75{p0 p1 r}(h:K75 p0 p1 r Ci):K75 p0 p1 r Ct:=⟨h,⟨⟨tv,dE _⟩,tv,tv⟩,forall_nil,tv,forall_nil⟩
theorem c75{qq p0 p1 r}(h:e75 qq p0 p1=some r):K75 p0 p1 r Ct:=by
 unfold e75 at h
 obtain⟨x1,h2,h⟩:=obind h
 obtain⟨r3,h4,h⟩:=obind h
 have k:=oA 0 (ix22 (o:=.no) h2) o0
 rcases spl h with⟨h5,h⟩|⟨h5,h⟩
 obtain⟨r6,h7,h⟩:=obind h
 have k:=oK 3 [] h5 (c140 h4) k
 rcases spl h with⟨h8,h⟩|⟨h8,h⟩
 obtain⟨r9,h10,h⟩:=obind h
 have k:=oC 2 [] (c79 h10)<|oK 2 [] h8 (c116 h7) k
 rcases spl h with⟨h11,h⟩|⟨h11,h⟩
 obtain⟨r12,h13,h⟩:=obind h
 obtain rfl:=sj h
 exact k75 (tF q75 0 [] (oC 0 [] (c141 h13)<|oB 2 h11 k))
 have k:=oB 2 h11 k
 rcases spl h with⟨h14,h⟩|⟨h14,h⟩
 obtain⟨r15,h16,h⟩:=obind h
 have k:=oB 1 h14 k
 rcases spl h with⟨h17,h⟩|⟨h17,h⟩
 have k:=oK 1 [] h17 (c116 h16) k
 rcases spl h with⟨h18,h⟩|⟨h18,h⟩
 have k:=oB 1 h18 k
 rcases spl h with⟨h19,h⟩|⟨h19,h⟩
 have k:=oB 1 h19 k
 rcases spl h with⟨h20,h⟩|⟨h20,h⟩
 have k:=oB 1 h20 k
 rcases spl h with⟨h21,h⟩|⟨h21,h⟩
 have k:=oB 1 h21 k
 rcases spl h with⟨h22,h⟩|⟨h22,h⟩
 have k:=oB 1 h22 k
 rcases spl h with⟨h23,h⟩|⟨h23,h⟩
 obtain rfl:=sj h
 exact k75 (tF q75 3 [] (oB 2 h23 k))
 obtain rfl:=sj h
 exact k75 (tF q75 0 [] (oB 2 h23 k))
 obtain rfl:=sj h
 exact k75 (tF q75 0 [] (oB 1 h22 k))
 obtain rfl:=sj h
 exact k75 (tF q75 0 [] (oB 1 h21 k))
 obtain rfl:=sj h
 exact k75 (tF q75 0 [] (oB 1 h20 k))
 obtain rfl:=sj h
 exact k75 (tF q75 0 [] (oB 1 h19 k))
 obtain rfl:=sj h
 exact k75 (tF q75 0 [] (oB 1 h18 k))
 obtain rfl:=sj h
 exact k75 (tF q75 0 [] (oK 1 [] h17 (c116 h16) k))
 have k:=oB 1 h14 k
 rcases spl h with⟨h24,h⟩|⟨h24,h⟩
 have k:=oB 1 h24 k
 rcases spl h with⟨h25,h⟩|⟨h25,h⟩
 obtain rfl:=sj h
 exact k75 (tF q75 0 [] (oB 1 h25 k))
 obtain⟨r26,h27,h⟩:=obind h
 have k:=oB 1 h25 k
 rcases spl h with⟨h28,h⟩|⟨h28,h⟩
 have k:=oK 0 [] h28 (c142 h27) k
 rcases spl h with⟨h29,h⟩|⟨h29,h⟩
 have k:=oB 2 h29 k
 rcases spl h with⟨h30,h⟩|⟨h30,h⟩
 have k:=oB 0 h30 k
 rcases spl h with⟨h31,h⟩|⟨h31,h⟩
 obtain⟨r32,h33,h⟩:=obind h
 obtain⟨x34,h35,h⟩:=obind h
 obtain⟨r36,h37,h⟩:=obind h
 obtain rfl:=sj h
 exact k75 (tF q75 0 [] (oC 1 [] (c87 h37)<|oA 3 (ix22 (o:=.no) h35)<|oC 1 [] (c86 h33)<|oB 1 h31 k))
 obtain rfl:=sj h
 exact k75 (tF q75 0 [] (oB 1 h31 k))
 obtain rfl:=sj h
 exact k75 (tF q75 0 [] (oB 0 h30 k))
 have k:=oB 2 h29 k
 rcases spl h with⟨h38,h⟩|⟨h38,h⟩
 have k:=oB 2 h38 k
 rcases spl h with⟨h39,h⟩|⟨h39,h⟩
 obtain⟨x40,h41,h⟩:=obind h
 obtain⟨r42,h43,h⟩:=obind h
 obtain rfl:=sj h
 exact k75 (tF q75 0 [] (oC 4 [] (c87 h43)<|oA 1 (ix23 (o:=.no) h41)<|oC 1 [] (c79 h10)<|oB 2 h39 k))
 obtain rfl:=sj h
 exact k75 (tF q75 0 [] (oB 2 h39 k))
 obtain rfl:=sj h
 exact k75 (tF q75 0 [] (oB 2 h38 k))
 obtain rfl:=sj h
 exact k75 (tF q75 1 [] (oK 0 [] h28 (c142 h27) k))
 obtain⟨r44,h45,h⟩:=obind h
 have k:=oB 1 h24 k
 rcases spl h with⟨h46,h⟩|⟨h46,h⟩
 have k:=oK 0 [] h46 (c142 h45) k
 rcases spl h with⟨h47,h⟩|⟨h47,h⟩
 have k:=oB 2 h47 k
 rcases spl h with⟨h48,h⟩|⟨h48,h⟩
 have k:=oB 0 h48 k
 rcases spl h with⟨h49,h⟩|⟨h49,h⟩
 obtain⟨r50,h51,h⟩:=obind h
 obtain⟨x52,h53,h⟩:=obind h
 obtain⟨r54,h55,h⟩:=obind h
 obtain rfl:=sj h
 exact k75 (tF q75 0 [] (oC 1 [] (c87 h55)<|oA 3 (ix22 (o:=.no) h53)<|oC 1 [] (c86 h51)<|oB 1 h49 k))
 obtain rfl:=sj h
 exact k75 (tF q75 0 [] (oB 1 h49 k))
 obtain rfl:=sj h
 exact k75 (tF q75 0 [] (oB 0 h48 k))
 have k:=oB 2 h47 k
 rcases spl h with⟨h56,h⟩|⟨h56,h⟩
 have k:=oB 2 h56 k
 rcases spl h with⟨h57,h⟩|⟨h57,h⟩
 obtain⟨x58,h59,h⟩:=obind h
 obtain⟨r60,h61,h⟩:=obind h
 obtain rfl:=sj h
 exact k75 (tF q75 0 [] (oC 4 [] (c87 h61)<|oA 1 (ix23 (o:=.no) h59)<|oC 1 [] (c79 h10)<|oB 2 h57 k))
 obtain rfl:=sj h
 exact k75 (tF q75 0 [] (oB 2 h57 k))
 obtain rfl:=sj h
 exact k75 (tF q75 0 [] (oB 2 h56 k))
 obtain rfl:=sj h
 exact k75 (tF q75 1 [] (oK 0 [] h46 (c142 h45) k))
 obtain rfl:=sj h
 exact k75 (tF q75 1 [] (oK 2 [] h8 (c116 h7) k))
 obtain rfl:=sj h
 exact k75 (tF q75 1 [] (oK 3 [] h5 (c140 h4) k))
def e23Let:Nat->(List Ent)->Int->Option (Bool)
 |0,_,_=>none
 |qq+1,p0,v3=>
 if decide (v3<(List.length p0:Int))then
 e75 qq p0 v3>>=fun r8=>
 if r8 then
 e23Let qq p0 (w64 (v3+1))
 else
 some false
 else
 some true
def e23(qq:Nat)(p0:List Ent):Option (Bool):=
 if decide ((List.length p0:Int)>256)then
 some false
 else
 e74 qq p0>>=fun r2=>
 e73 qq r2>>=fun r4=>
 if r4 then
 e23Let qq p0 0
 else
 some false
def g23LetE0(j:Nat->Value)(p0:List Ent)(v3:Int):=sp j 23 0 [(0,slv entL p0 .no),(3,ai v3)]
def g23LetS0(p0:List Ent)(v3:Int):LSt:=⟨[],0,[],0,[]⟩
abbrev K23 (p0:List Ent) (r:Bool) (C:Cf):Prop:=C 23 [] [slv entL p0 .no] (ab r) [] 0
theorem q23:Qf 23 Tryz.f23:=⟨Tryz.func23,by kernel_rfl⟩
theorem k23{p0 r}(h:K23 p0 r Ci):K23 p0 r Ct:=⟨h,⟨⟨tv,dE _⟩,tv⟩,forall_nil,tv,forall_nil⟩
theorem l23Let:∀qq:Nat,(∀p0 v3 r,e23Let qq p0 v3=some r->(∀j,Dl Tryz.prog 0 (inn (inn (rgt (lft (rgt (rgt (bod Tryz.f23))))))) (g23LetE0 j p0 v3) (g23LetS0 p0 v3) (frameQ Tryz.prog 0 (FinQ Tryz.prog 0 Tryz.f23 (ab r) [] 0) [.blk 0,.seq (rgt (rgt (rgt (bod Tryz.f23))))]))):=by
 intro qq
 induction qq with
 |zero=>
  exact fun _ _ _ h=>nn h
 |succ qq ih=>
  intro p0 v3 r h
  rw[e23Let]at h
  rcases spl h with⟨h7,h⟩|⟨h7,h⟩
  obtain⟨r8,h9,h⟩:=obind h
  have k:=oB 1 h7 o0
  rcases spl h with⟨h10,h⟩|⟨h10,h⟩
  exact fun j=>lH 2 [] [] [] [0,3] (oD (dE p0)<|oK 0 [] h10 (c75 h9) k) (ih _ _ _ h)
  obtain rfl:=sj h
  exact fun j=>lF 1 [] (oK 0 [] h10 (c75 h9) k)
  obtain rfl:=sj h
  exact fun j=>lF 0 [] (oB 1 h7 o0)
theorem c23{qq p0 r}(h:e23 qq p0=some r):K23 p0 r Ct:=by
 unfold e23 at h
 rcases spl h with⟨h1,h⟩|⟨h1,h⟩
 obtain rfl:=sj h
 exact k23 (tF q23 0 [] (oB 1 h1 o0))
 obtain⟨r2,h3,h⟩:=obind h
 obtain⟨r4,h5,h⟩:=obind h
 have k:=oC 0 [] (c74 h3)<|oB 1 h1 o0
 rcases spl h with⟨h6,h⟩|⟨h6,h⟩
 exact k23 (tH q23 1 [] [] [] [0,3] (oD (dE p0)<|oK 0 [] h6 (c73 h5) k) (l23Let _ _ _ _ h))
 obtain rfl:=sj h
 exact k23 (tF q23 1 [] (oK 0 [] h6 (c73 h5) k))
def e180(qq:Nat)(p0:List Ent)(p1:R24Pat):Option (Bool):=
 e23 qq p0>>=fun r1=>
 if r1 then
 e237 qq (R24Pat.mk p1.kind_ p1.n_ p1.at_ p1.sub_ p1.t_)>>=fun r4=>
 if r4 then
 e238 qq p0 (R24Pat.mk p1.kind_ p1.n_ p1.at_ p1.sub_ p1.t_)>>=fun r7=>
 some r7
 else
 some false
 else
 some false
abbrev K180 (p0:List Ent) (p1:R24Pat) (r:Bool) (C:Cf):Prop:=C 180 [] [slv entL p0 .no,r24PatA p1] (ab r) [] 0
theorem q180:Qf 180 Tryz.f180:=⟨Tryz.func180,by kernel_rfl⟩
theorem k180{p0 p1 r}(h:K180 p0 p1 r Ci):K180 p0 p1 r Ct:=⟨h,⟨⟨tv,dE _⟩,⟨tv,tv,tv,⟨tv,dR24Pat _⟩,tv,tv,⟨tv,dT _⟩,tv⟩,tv⟩,forall_nil,tv,forall_nil⟩
theorem c180{qq p0 p1 r}(h:e180 qq p0 p1=some r):K180 p0 p1 r Ct:=by
 unfold e180 at h
 obtain⟨r1,h2,h⟩:=obind h
 rcases spl h with⟨h3,h⟩|⟨h3,h⟩
 obtain⟨r4,h5,h⟩:=obind h
 have k:=oK 0 [] h3 (c23 h2) o0
 rcases spl h with⟨h6,h⟩|⟨h6,h⟩
 obtain⟨r7,h8,h⟩:=obind h
 obtain rfl:=sj h
 exact k180 (tF q180 0 [] (oC 1 [] (c238 h8)<|oK 1 [] h6 (c237 h5) k))
 obtain rfl:=sj h
 exact k180 (tF q180 0 [] (oK 1 [] h6 (c237 h5) k))
 obtain rfl:=sj h
 exact k180 (tF q180 0 [] (oK 0 [] h3 (c23 h2) o0))
def e115Leu:Nat->(List Ent)->R28Clause->Int->Int->Option (Bool)
 |0,_,_,_,_=>none
 |qq+1,p0,p1,p2,v7=>
 if decide (v7<p2)then
 gidx p1.pats_ v7>>=fun x6=>
 e180 qq p0 (R24Pat.mk x6.kind_ x6.n_ x6.at_ x6.sub_ x6.t_)>>=fun r8=>
 if r8 then
 e115Leu qq p0 p1 p2 (w64 (v7+1))
 else
 some false
 else
 if p1.has_ then
 e181 qq p1.pats_>>=fun r12=>
 e168 qq p1.body_ (List.length r12:Int) (List.length p0:Int)>>=fun r14=>
 if r14 then
 e30 qq p1.body_ 8 8>>=fun r17=>
 some ((List.length r17:Int)==0)
 else
 some false
 else
 if p1.body_.k==0 then
 if p1.body_.n==0 then
 some ((List.length p1.body_.sub:Int)==0)
 else
 some false
 else
 some false
def e115(qq:Nat)(p0:List Ent)(p1:R28Clause)(p2:Int):Option (Bool):=
 if (List.length p1.pats_:Int) != p2 then
 some false
 else
 e179 qq p1.pats_>>=fun r2=>
 if r2 then
 e115Leu qq p0 p1 p2 0
 else
 some false
def g115LeuE0(j:Nat->Value)(p0:List Ent)(p1:R28Clause)(p2 v7:Int):=sp j 68 0 [(0,slv entL p0 .no),(2,ai p2),(4,.mp 0 0),(7,ai v7)]
def g115LeuS0(p0:List Ent)(p1:R28Clause)(p2 v7:Int):LSt:=⟨[(0,.cells [slv r24PatC p1.pats_ .no,ab p1.has_,ai p1.body_.k,ai p1.body_.n,slv tmCells p1.body_.sub .no])],1,[],0,[]⟩
abbrev K115 (p0:List Ent) (p1:R28Clause) (p2:Int) (r:Bool) (C:Cf):Prop:=C 115 [] [slv entL p0 .no,r28ClauseA p1,ai p2] (ab r) [] 0
theorem q115:Qf 115 Tryz.f115:=⟨Tryz.func115,by kernel_rfl⟩
theorem k115{p0 p1 p2 r}(h:K115 p0 p1 p2 r Ci):K115 p0 p1 p2 r Ct:=⟨h,⟨⟨tv,dE _⟩,⟨⟨tv,dR24Pat _⟩,tv,tv,tv,⟨tv,dT _⟩,tv⟩,tv,tv⟩,forall_nil,tv,forall_nil⟩
theorem l115Leu:∀qq:Nat,(∀p0 p1 p2 v7 r,e115Leu qq p0 p1 p2 v7=some r->(∀j,Dl Tryz.prog 0 (inn (inn (rgt (lft (rgt (rgt (bod Tryz.f115))))))) (g115LeuE0 j p0 p1 p2 v7) (g115LeuS0 p0 p1 p2 v7) (frameQ Tryz.prog 0 (FinQ Tryz.prog 0 Tryz.f115 (ab r) [] 0) [.blk 0,.seq (rgt (rgt (rgt (bod Tryz.f115))))]))):=by
 intro qq
 induction qq with
 |zero=>
  exact fun _ _ _ _ _ h=>nn h
 |succ qq ih=>
  intro p0 p1 p2 v7 r h
  rw[e115Leu]at h
  rcases spl h with⟨h5,h⟩|⟨h5,h⟩
  obtain⟨x6,h7,h⟩:=obind h
  obtain⟨r8,h9,h⟩:=obind h
  have k:=oA 1 (ix97 (o:=.no) h7)<|oB 0 h5 o0
  rcases spl h with⟨h10,h⟩|⟨h10,h⟩
  exact fun j=>lH 2 [] [0] [] [0,2,4,7] (oD (dE p0)<|oD (dT p1.body_.sub)<|oD (dR24Pat p1.pats_)<|oK 1 [] h10 (c180 h9) k) (ih _ _ _ _ _ h)
  obtain rfl:=sj h
  exact fun j=>lF 1 [] (oK 1 [] h10 (c180 h9) k)
  have k:=oB 0 h5 o0
  rcases spl h with⟨h11,h⟩|⟨h11,h⟩
  obtain⟨r12,h13,h⟩:=obind h
  obtain⟨r14,h15,h⟩:=obind h
  have k:=oC 3 [] (c181 h13)<|oB 0 h11 k
  rcases spl h with⟨h16,h⟩|⟨h16,h⟩
  obtain⟨r17,h18,h⟩:=obind h
  obtain rfl:=sj h
  exact fun j=>lF 2 [] (oC 1 [] (c30 h18)<|oK 2 [] h16 (c168 h15) k)
  obtain rfl:=sj h
  exact fun j=>lF 0 [] (oK 2 [] h16 (c168 h15) k)
  have k:=oB 0 h11 k
  rcases spl h with⟨h19,h⟩|⟨h19,h⟩
  have k:=oB 2 h19 k
  rcases spl h with⟨h20,h⟩|⟨h20,h⟩
  obtain rfl:=sj h
  exact fun j=>lF 3 [] (oB 1 h20 k)
  obtain rfl:=sj h
  exact fun j=>lF 0 [] (oB 1 h20 k)
  obtain rfl:=sj h
  exact fun j=>lF 0 [] (oB 2 h19 k)
theorem c115{qq p0 p1 p2 r}(h:e115 qq p0 p1 p2=some r):K115 p0 p1 p2 r Ct:=by
 unfold e115 at h
 rcases spl h with⟨h1,h⟩|⟨h1,h⟩
 obtain rfl:=sj h
 exact k115 (tF q115 0 [] (oB 2 h1 o0))
 obtain⟨r2,h3,h⟩:=obind h
 have k:=oB 2 h1 o0
 rcases spl h with⟨h4,h⟩|⟨h4,h⟩
 exact k115 (tH q115 1 [] [0] [] [0,2,4,7] (oD (dE p0)<|oD (dT p1.body_.sub)<|oD (dR24Pat p1.pats_)<|oK 1 [] h4 (c179 h3) k) (l115Leu _ _ _ _ _ _ h))
 obtain rfl:=sj h
 exact k115 (tF q115 1 [] (oK 1 [] h4 (c179 h3) k))
def e51Lev:Nat->(List Ent)->(List Tm)->Int->Option (Bool)
 |0,_,_,_=>none
 |qq+1,p0,p2,v8=>
 if decide (v8<(List.length p2:Int))then
 gidx p2 v8>>=fun x11=>
 e116 qq x11 (List.length p0:Int)>>=fun r13=>
 if r13 then
 e51Lev qq p0 p2 (w64 (v8+1))
 else
 some false
 else
 some true
def e51Lew:Nat->(List Ent)->(List R28Clause)->(List Tm)->Int->Option (Bool)
 |0,_,_,_,_=>none
 |qq+1,p0,p1,p2,v7=>
 if decide (v7<(List.length p1:Int))then
 gidx p1 v7>>=fun x5=>
 e115 qq p0 (R28Clause.mk x5.pats_ x5.has_ x5.body_) (List.length p2:Int)>>=fun r7=>
 if r7 then
 e51Lew qq p0 p1 p2 (w64 (v7+1))
 else
 some false
 else
 e51Lev qq p0 p2 0
def e51(qq:Nat)(p0:List Ent)(p1:List R28Clause)(p2:List Tm):Option (Bool):=
 e23 qq p0>>=fun r1=>
 if r1 then
 e51Lew qq p0 p1 p2 0
 else
 some false
def g51LewE0(j:Nat->Value)(p0:List Ent)(p1:List R28Clause)(p2:List Tm)(v7:Int):=sp j 41 0 [(0,slv entL p0 .no),(1,slv r28ClauseL p1 .no),(2,slv tmCells p2 .no),(7,ai v7)]
def g51LewS0(p0:List Ent)(p1:List R28Clause)(p2:List Tm)(v7:Int):LSt:=⟨[],0,[],0,[]⟩
def g51LevE0(j:Nat->Value)(p0:List Ent)(p2:List Tm)(v8:Int):=sp j 41 0 [(0,slv entL p0 .no),(2,slv tmCells p2 .no),(8,ai v8)]
def g51LevS0(p0:List Ent)(p2:List Tm)(v8:Int):LSt:=⟨[],0,[],0,[]⟩
abbrev K51 (p0:List Ent) (p1:List R28Clause) (p2:List Tm) (r:Bool) (C:Cf):Prop:=C 51 [] [slv entL p0 .no,slv r28ClauseL p1 .no,slv tmCells p2 .no] (ab r) [] 0
theorem q51:Qf 51 Tryz.f51:=⟨Tryz.func51,by kernel_rfl⟩
theorem k51{p0 p1 p2 r}(h:K51 p0 p1 p2 r Ci):K51 p0 p1 p2 r Ct:=⟨h,⟨⟨tv,dE _⟩,⟨tv,dR28Clause _⟩,⟨tv,dT _⟩,tv⟩,forall_nil,tv,forall_nil⟩
theorem l51Lev:∀qq:Nat,(∀p0 p2 v8 r,e51Lev qq p0 p2 v8=some r->(∀j,Dl Tryz.prog 0 (inn (inn (rgt (lft (rgt (rgt (rgt (bod Tryz.f51)))))))) (g51LevE0 j p0 p2 v8) (g51LevS0 p0 p2 v8) (frameQ Tryz.prog 0 (FinQ Tryz.prog 0 Tryz.f51 (ab r) [] 0) [.blk 2,.seq (rgt (rgt (rgt (rgt (bod Tryz.f51)))))]))):=by
 intro qq
 induction qq with
 |zero=>
  exact fun _ _ _ _ h=>nn h
 |succ qq ih=>
  intro p0 p2 v8 r h
  rw[e51Lev]at h
  rcases spl h with⟨h10,h⟩|⟨h10,h⟩
  obtain⟨x11,h12,h⟩:=obind h
  obtain⟨r13,h14,h⟩:=obind h
  have k:=oA 0 (ix23 (o:=.no) h12)<|oB 1 h10 o0
  rcases spl h with⟨h15,h⟩|⟨h15,h⟩
  exact fun j=>lH 2 [] [] [] [0,2,8] (oD (dT p2)<|oD (dE p0)<|oK 2 [] h15 (c116 h14) k) (ih _ _ _ _ h)
  obtain rfl:=sj h
  exact fun j=>lF 1 [] (oK 2 [] h15 (c116 h14) k)
  obtain rfl:=sj h
  exact fun j=>lF 0 [] (oB 1 h10 o0)
theorem l51Lew:∀qq:Nat,(∀p0 p1 p2 v7 r,e51Lew qq p0 p1 p2 v7=some r->(∀j,Dl Tryz.prog 0 (inn (inn (rgt (lft (rgt (rgt (bod Tryz.f51))))))) (g51LewE0 j p0 p1 p2 v7) (g51LewS0 p0 p1 p2 v7) (frameQ Tryz.prog 0 (FinQ Tryz.prog 0 Tryz.f51 (ab r) [] 0) [.blk 0,.seq (rgt (rgt (rgt (bod Tryz.f51))))]))):=by
 intro qq
 induction qq with
 |zero=>
  exact fun _ _ _ _ _ h=>nn h
 |succ qq ih=>
  intro p0 p1 p2 v7 r h
  rw[e51Lew]at h
  rcases spl h with⟨h4,h⟩|⟨h4,h⟩
  obtain⟨x5,h6,h⟩:=obind h
  obtain⟨r7,h8,h⟩:=obind h
  have k:=oA 0 (ix92 (o:=.no) h6)<|oB 1 h4 o0
  rcases spl h with⟨h9,h⟩|⟨h9,h⟩
  exact fun j=>lH 2 [] [] [] [0,1,2,7] (oD (dT p2)<|oD (dR28Clause p1)<|oD (dE p0)<|oK 2 [] h9 (c115 h8) k) (ih _ _ _ _ _ h)
  obtain rfl:=sj h
  exact fun j=>lF 1 [] (oK 2 [] h9 (c115 h8) k)
  exact fun j=>lH 0 [] [] [] [0,2,8] (oD (dT p2)<|oD (dE p0)<|oB 1 h4 o0) (l51Lev _ _ _ _ _ h)
theorem c51{qq p0 p1 p2 r}(h:e51 qq p0 p1 p2=some r):K51 p0 p1 p2 r Ct:=by
 unfold e51 at h
 obtain⟨r1,h2,h⟩:=obind h
 rcases spl h with⟨h3,h⟩|⟨h3,h⟩
 exact k51 (tH q51 1 [] [] [] [0,1,2,7] (oD (dT p2)<|oD (dR28Clause p1)<|oD (dE p0)<|oK 0 [] h3 (c23 h2) o0) (l51Lew _ _ _ _ _ _ h))
 obtain rfl:=sj h
 exact k51 (tF q51 1 [] (oK 0 [] h3 (c23 h2) o0))
def CR(l:List Ent)(c:ClauseClause)(n:Nat):Prop:=c.pats_.length=n∧(varsT c.pats_).Nodup∧(∀p∈c.pats_,hP p≤128∧PG l p) ∧
 (c.has_=true->rightT c.body_ (varsT c.pats_).length l.length=true∧colT c.body_ 8 8=[])∧(c.has_=false->zeroT c.body_)
theorem rightT_sh{t:Tm}{f n:Int}(h:rightT t f n=true):shapedT t=true:=by
 unfold rightT at h
 simp only[Bool.and_eq_true]at h
 exact h.1.1
theorem frees_nil{t:Tm}(h:colT t 8 8=[]):numsT t 8 8=[]:=by
 unfold numsT
 rw[h]
 split<;>rfl
section
variable {N:ByteArray->Bool} {l:List Ent} (hE:AllE N l) (hF:Evt (fun q=>e157 q l) true) (hR:Evt (fun q=>e23 q l) true)
include hE hR
theorem tot_rRight24(p:PatternPat)(ho:okPt p)(hn:ndP p≤300):Tot (fun q=>e180 q l (cvP p)) fun b=>b=true->hP p≤128∧PG l p:=by
 simp only[e180,rp_eta]
 refine Tot.bind (P:=fun b=>b=true) (hR.tot rfl) fun b hb=>Tot.ite (fun _=>Tot.bind (P:=fun b=>b=decide (hP p≤128)) ((ev_rPsmall p hn).tot rfl) fun s hs=>Tot.ite (fun h=>(tot_rgood hE p ho hn).bind fun g hg=>Tot.ret fun h'=>⟨?_,hg h'⟩) fun _=>Tot.ret fun h=>nomatch h) fun _=>Tot.ret fun h=>nomatch h
 rw[h]at hs
 exact of_decide_eq_true hs.symm
theorem tot_rR28L(c:ClauseClause)(ho:okC c)(hn:ndPs c.pats_≤300):∀(r:List PatternPat) (v:Nat),c.pats_.drop v=r->Tot (fun q=>e115Leu q l (cvC c) (c.pats_.length:Int) (v:Int)) fun b=>b=true->(∀p∈r,hP p≤128∧PG l p)∧(c.has_=true->rightT c.body_ (varsT c.pats_).length l.length=true∧colT c.body_ 8 8=[])∧(c.has_=false->zeroT c.body_):=by
 have hpl:=ndPs_len c.pats_
 intro r
 induction r with
 |nil=>
  intro v hd
  refine Tot.succ ?_
  simp only[e115Leu,cvC]
  refine Tot.ite (fun h=>?_) fun _=>Tot.ite (fun h1=>?_) fun h1=>?_
  ·rw[drop_nil hd]at h;cases h
  ·refine Tot.bind (P:=fun r=>r=varsT c.pats_) ((ev_rVars c.pats_ hn).tot rfl) fun r hr=>?_
   subst hr
   refine Tot.bind (P:=fun b=>b=rightT c.body_ (varsT c.pats_).length l.length) ((ev_rRight c.body_ _ _ ho.2.2).tot rfl) fun b hb=>Tot.ite (fun h2=>?_) fun _=>Tot.ret fun h=>nomatch h
   rw[h2]at hb
   have hs:=shapedT_spec (rightT_sh hb.symm)
   exact(tot_Numbers c.body_ 8 8 ho.2.2 hs.1).bind fun o ho'=>Tot.ret fun h=>⟨fun _ h=>(nomatch h),fun _=>⟨hb.symm,(by
    have:o=[]:=List.length_eq_zero_iff.1 (by have:(o.length:Int)=0:=(by simpa using h);omega)
    subst this
    exact List.eq_nil_iff_forall_not_mem.2 fun x hx=>nomatch (ho'.2 x).2 hx)⟩,fun h=>by rw[h1]at h;cases h⟩
  ·refine Tot.ite (fun h2=>Tot.ite (fun h3=>Tot.ret fun h4=>⟨fun _ h=>(nomatch h),(fun h=>by rw[h1]at h;cases h),fun _=>⟨by simpa using h2,by simpa using h3,by simpa using h4⟩⟩) fun _=>Tot.ret fun h=>nomatch h) fun _=>Tot.ret fun h=>nomatch h
 |cons x r ih=>
  intro v hd
  have hlt:=drop_lt hd
  refine Tot.succ ?_
  simp only[e115Leu,rp_eta]
  have hx:=List.mem_of_mem_drop (i:=v) (l:=c.pats_) (a:=x) (by rw[hd];simp)
  refine Tot.ite (fun _=>Tot.pure (show gidx (cvC c).pats_ (v:Int)=some (cvP x)from drop_idx (cvPs_drop hd)) ((tot_rRight24 hE hR x (okPs_at ho.2.1 x hx) (by have:=ndPs_mem hx;omega)).bind fun b hb=>Tot.ite (fun h=>?_) fun _=>Tot.ret fun h=>nomatch h)) fun h=>?_
  ·rw[w64_nat v (by omega)]
   refine(ih (v+1) (drop_next hd)).mono fun o ho' h'=>⟨fun p hp=>?_,(ho' h').2⟩
   rcases List.mem_cons.1 hp with rfl|hp
   ·exact hb h
   ·exact(ho' h').1 p hp
  ·have:=of_decide_eq_false h;omega
theorem tot_rR28(c:ClauseClause)(ho:okC c)(hn:ndPs c.pats_≤300)(n:Nat):Tot (fun q=>e115 q l (cvC c) (n:Int)) fun b=>b=true->CR l c n:=by
 have e:(cvC c).pats_=cvPs c.pats_:=rfl
 simp only[e115,e,cvPs_len]
 refine Tot.ite (fun _=>Tot.ret fun h=>nomatch h) fun h=>(tot_rLinear c.pats_ hn).bind fun b hb=>Tot.ite (fun h'=>?_) fun _=>Tot.ret fun h=>nomatch h
 have hn':c.pats_.length=n:=by have:(c.pats_.length:Int)=n:=(by simpa using h);omega
 rw[←hn']
 exact(tot_rR28L hE hR c ho hn c.pats_ 0 rfl).mono fun o ho' h''=>⟨rfl,hb h',ho' h''⟩
theorem tot_rMayA(as0:List Tm)(ha:OkA as0)(hl:as0.length≤1000000):∀(r:List Tm) (v:Nat),as0.drop v=r->Tot (fun q=>e51Lev q l as0 (v:Int)) fun b=>b=true->∀x∈r,closedT x l.length=true:=by
 intro r
 induction r with
 |nil=>
  intro v hd
  refine Tot.succ ?_
  simp only[e51Lev]
  refine Tot.ite (fun h=>?_) fun _=>Tot.ret fun _ _ h=>nomatch h
  rw[drop_nil hd]at h;cases h
 |cons x r ih=>
  intro v hd
  have hlt:=drop_lt hd
  have hx:=ha x (List.mem_of_mem_drop (by rw[hd];simp))
  refine Tot.succ ?_
  simp only[e51Lev]
  refine Tot.ite (fun _=>Tot.pure (drop_idx hd) (Tot.bind (P:=fun b=>b=closedT x l.length) ((ev_rClosed x l.length hx).tot rfl) fun b hb=>Tot.ite (fun h=>?_) fun _=>Tot.ret fun h=>nomatch h)) fun h=>?_
  ·rw[w64_nat v (by omega)]
   refine(ih (v+1) (drop_next hd)).mono fun o ho' h' p hp=>?_
   rcases List.mem_cons.1 hp with rfl|hp
   ·rw[←hb];exact h
   ·exact ho' h' p hp
  ·rw[drop_dec hd]at h;cases h
theorem tot_rMayC(cs:List ClauseClause)(hcs:cs.length≤300)(ho:∀c∈cs,okC c∧ndPs c.pats_≤300)(as0:List Tm)(ha:OkA as0)(hl:as0.length≤1000000):∀(r:List ClauseClause) (v:Nat),cs.drop v=r->Tot (fun q=>e51Lew q l (cs.map cvC) as0 (v:Int)) fun b=>b=true->(∀c∈r,CR l c as0.length)∧∀x∈as0,closedT x l.length=true:=by
 intro r
 induction r with
 |nil=>
  intro v hd
  refine Tot.succ ?_
  simp only[e51Lew,List.length_map]
  refine Tot.ite (fun h=>?_) fun _=>?_
  ·rw[drop_nil hd]at h;cases h
  exact(tot_rMayA hE hR as0 ha hl as0 0 rfl).mono fun b hb h=>⟨fun _ h=>(nomatch h),hb h⟩
 |cons x r ih=>
  intro v hd
  have hlt:=drop_lt hd
  have hx:=ho x (List.mem_of_mem_drop (by rw[hd];simp))
  have hd':(cs.map cvC).drop v=cvC x::r.map cvC:=by rw[←List.map_drop,hd];rfl
  refine Tot.succ ?_
  simp only[e51Lew]
  refine Tot.ite (fun _=>Tot.pure (drop_idx hd') ((tot_rR28 hE hR x hx.1 hx.2 as0.length).bind fun b hb=>Tot.ite (fun h=>?_) fun _=>Tot.ret fun h=>nomatch h)) fun h=>?_
  ·rw[w64_nat v (by omega)]
   refine(ih (v+1) (drop_next hd)).mono fun o ho' h'=>⟨fun p hp=>?_,(ho' h').2⟩
   rcases List.mem_cons.1 hp with rfl|hp
   ·exact hb h
   ·exact(ho' h').1 p hp
  ·rw[drop_dec hd']at h;cases h
theorem tot_rMay(cs:List ClauseClause)(hcs:cs.length≤300)(ho:∀c∈cs,okC c∧ndPs c.pats_≤300)(as0:List Tm)(ha:OkA as0)(hl:as0.length≤1000000):Tot (fun q=>e51 q l (cs.map cvC) as0) fun b=>b=true->(∀c∈cs,CR l c as0.length)∧∀x∈as0,closedT x l.length=true:=by
 simp only[e51]
 exact Tot.bind (P:=fun _=>True) (hR.tot trivial) fun _ _=>Tot.ite (fun _=>tot_rMayC hE hR cs hcs ho as0 ha hl cs 0 rfl) fun _=>Tot.ret fun h=>nomatch h
omit hR
include hF
theorem ev_cRightL(c:ClauseClause)(ho:okC c)(hn:ndPs c.pats_≤300)(n:Nat)(hc:CR l c n):∀(r:List PatternPat) (v:Nat),c.pats_.drop v=r->Evt (fun q=>e185Lci q l c (v:Int)) true:=by
 obtain⟨-,-,hp,h1,h2⟩:=hc
 intro r
 induction r with
 |nil=>
  intro v hd
  refine Evt.succ ?_
  simp only[e185Lci]
  refine Evt.ifF (drop_nil hd) (Evt.iff (fun h=>?_) fun h=>?_)
  ·obtain⟨a1,a2⟩:=h1 h
   refine(ev_pVars c.pats_ ho.2.1 hn).bind (((ev_Right c.body_ _ _ ho.2.2).eq a1).bind (Evt.ifT rfl ((ev_Frees c.body_ ho.2.2).bind (Evt.ret.eq ?_))))
   rw[frees_nil a2];rfl
  ·obtain⟨a1,a2,a3⟩:=h2 h
   exact Evt.ifT (by simp[a1]) (Evt.ifT (by simp[a2]) (Evt.ret.eq (by simp[a3])))
 |cons x r ih=>
  intro v hd
  have hlt:=drop_lt hd
  have:=ho.1
  have hx:=List.mem_of_mem_drop (i:=v) (l:=c.pats_) (a:=x) (by rw[hd];simp)
  have hxx:=hp x hx
  have hox:=okPs_at ho.2.1 x hx
  refine Evt.succ ?_
  simp only[e185Lci,pp_eta]
  refine Evt.ifT (drop_dec hd) (Evt.pure (drop_idx hd) (Evt.bind (a:=true) ?_ (Evt.ifT rfl ?_)))
  ·simp only[e242,pp_eta]
   exact hF.bind (Evt.ifT rfl (((ev_psmall x hox (by have:=ndPs_mem hx;omega)).eq (decide_eq_true hxx.1)).bind (Evt.ifT rfl ((ev_goodX hE x hox hxx.2).bind Evt.ret))))
  ·rw[w64_nat v (by omega)]
   exact ih (v+1) (drop_next hd)
theorem ev_cRight(c:ClauseClause)(ho:okC c)(hn:ndPs c.pats_≤300)(n:Nat)(hc:CR l c n):Evt (fun q=>e185 q l c (n:Int)) true:=by
 have h0:=hc
 obtain⟨h1,h2,-⟩:=hc
 simp only[e185]
 exact Evt.ifF (by simp[h1]) ((ev_pLinear c.pats_ ho.2.1 hn h2).bind (Evt.ifT rfl (ev_cRightL hE hF c ho hn n h0 c.pats_ 0 rfl)))
theorem ev_mayA(as0:List Tm)(ha:OkA as0)(hl:as0.length≤1000000)(hc:∀x∈as0,closedT x l.length=true):∀(r:List Tm) (v:Nat),as0.drop v=r->Evt (fun q=>e119Lcj q (machT l) as0 l (v:Int)) true:=by
 intro r
 induction r with
 |nil=>
  intro v hd
  refine Evt.succ ?_
  simp only[e119Lcj]
  exact Evt.ifF (drop_nil hd) Evt.ret
 |cons x r ih=>
  intro v hd
  have hlt:=drop_lt hd
  have hm:=List.mem_of_mem_drop (i:=v) (l:=as0) (a:=x) (by rw[hd];simp)
  have hx:=hc x hm
  unfold closedT at hx
  simp only[Bool.and_eq_true,List.isEmpty_iff]at hx
  refine Evt.succ ?_
  simp only[e119Lcj]
  refine Evt.ifT (drop_dec hd) (Evt.pure (drop_idx hd) (((ev_Right x 0 l.length (ha x hm)).eq hx.1).bind (Evt.ifT rfl ((ev_Frees x (ha x hm)).bind (Evt.ifF (by rw[frees_nil hx.2];rfl) ?_)))))
  rw[w64_nat v (by omega)]
  exact ih (v+1) (drop_next hd)
theorem ev_mayC(cs:List ClauseClause)(hcs:cs.length≤300)(ho:∀c∈cs,okC c∧ndPs c.pats_≤300)(as0:List Tm)(ha:OkA as0)(hl:as0.length≤1000000)(hcl:∀x∈as0,closedT x l.length=true)(hR:∀c∈cs,CR l c as0.length):∀(r:List ClauseClause) (v:Nat),cs.drop v=r->Evt (fun q=>e119Lck q (machT l) cs as0 l (v:Int)) true:=by
 intro r
 induction r with
 |nil=>
  intro v hd
  refine Evt.succ ?_
  simp only[e119Lck]
  exact Evt.ifF (drop_nil hd) (ev_mayA hE hF as0 ha hl hcl as0 0 rfl)
 |cons x r ih=>
  intro v hd
  have hlt:=drop_lt hd
  have hm:=List.mem_of_mem_drop (i:=v) (l:=cs) (a:=x) (by rw[hd];simp)
  refine Evt.succ ?_
  simp only[e119Lck]
  refine Evt.ifT (drop_dec hd) (Evt.pure (drop_idx hd) ((ev_cRight hE hF x (ho x hm).1 (ho x hm).2 as0.length (hR x hm)).bind (Evt.ifT rfl ?_)))
  rw[w64_nat v (by omega)]
  exact ih (v+1) (drop_next hd)
theorem ev_may(hll:l.length≤65535)(he:∀e∈l,EOk e)(hc:∀e∈l,ECl e)(hcop:l.map copE=l)(cs:List ClauseClause)(hcs:cs.length≤300)(ho:∀c∈cs,okC c∧ndPs c.pats_≤300)(as0:List Tm)(ha:OkA as0)(hl:as0.length≤1000000)(hcl:∀x∈as0,closedT x l.length=true)(hR:∀c∈cs,CR l c as0.length):Evt (fun q=>e119 q (machT l) cs as0) true:=by
 simp only[e119,e184,machT_l]
 exact Evt.bind (a:=l) (((ev_sCopy l hll he hc).eq hcop).bind Evt.ret) (ev_mayC hE hF cs hcs ho as0 ha hl hcl hR cs 0 rfl)
end
theorem apT_snoc:∀(l:List Tm) (f b:Tm),apT f (l++[b]) = .mk 5 0 [apT f l,b]
 | [],f,b=>rfl
 |a::l,f,b=>by rw[List.cons_append,apT,apT_snoc l,apT]
theorem apT_self:∀t:Tm,goodT t=true->apT (hdT t) (arT t)=t:=by
 refine app_ind ?_ ?_
 ·intro t hg hk
  rw[hdT_not hk,arT_not hk];rfl
 ·intro n a b hg ha hb ih
  have hs:=head_spec (goodT_mk hg).1
  have hn1:n≤0:=(hs.2.2.2.2.2.1 (.inr (.inr rfl))).2
  have hn2:0≤n:=hs.2.2.1
  have hn:n=0:=by omega
  rw[hdT_app,arT_app,apT_snoc,ih,hn]
theorem gset_self{α:Type}{l:List α}{k:Nat}(h:k<l.length){x:α}(hx:l[k]=x):gset l k x=some l:=by
 subst hx
 rw[gset_ok _ h,List.set_getElem_self]
mutual
def mP(l:List Ent):PatternPat->Tm->Option (List Tm)
 | .mk k n _ sub _,t=>if k=1 then some [t]else if k=3 then some []else if k=4 then none else if (hdT t).n≠n then none else mPs l sub ((arT t).drop (ent l (hdT t).n).pars.toNat)
def mPs(l:List Ent):List PatternPat->List Tm->Option (List Tm)
 | [],_=>some []
 |_::_,[]=>some []
 |p::ps,t::ts=>match mP l p t with
  |none=>none
  |some a=>match mPs l ps ts with
   |none=>none
   |some b=>some (a++b)
end
theorem mPs_no{l:List Ent}{p:PatternPat}{ps:List PatternPat}{t:Tm}{ts:List Tm}(h:mP l p t=none):mPs l (p::ps) (t::ts)=none:=by rw[mPs,h]
theorem mPs_no2{l:List Ent}{p:PatternPat}{ps:List PatternPat}{t:Tm}{ts:List Tm}{a:List Tm}(h:mP l p t=some a)(h2:mPs l ps ts=none):mPs l (p::ps) (t::ts)=none:=by rw[mPs,h];simp only[h2]
theorem mPs_yes{l:List Ent}{p:PatternPat}{ps:List PatternPat}{t:Tm}{ts:List Tm}{a b:List Tm}(h:mP l p t=some a)(h2:mPs l ps ts=some b):mPs l (p::ps) (t::ts)=some (a++b):=by rw[mPs,h];simp only[h2]
mutual
theorem mP_len{l:List Ent}:∀(p:PatternPat) (t:Tm) (bs:List Tm),mP l p t=some bs->bs.length≤ndP p
 | .mk k n a sub u,t,bs,h=>by
  rw[mP]at h
  rw[ndP]
  split at h
  ·cases h;simp
  split at h
  ·cases h;simp
  split at h
  ·cases h
  split at h
  ·cases h
  have:=mPs_len sub _ bs h
  omega
theorem mPs_len{l:List Ent}:∀(ps:List PatternPat) (ts:List Tm) (bs:List Tm),mPs l ps ts=some bs->bs.length≤ndPs ps
 | [],_,bs,h=>by rw[mPs]at h;cases h;simp
 |p::ps,[],bs,h=>by rw[mPs]at h;cases h;simp
 |p::ps,t::ts,bs,h=>by
  rw[mPs]at h
  split at h
  ·cases h
  rename_i a ha
  split at h
  ·cases h
  rename_i b hb
  cases h
  have:=mP_len p t a ha
  have:=mPs_len ps ts b hb
  rw[ndPs];simp;omega
end
def Out1(m:Option (List Tm))(how:Int)(b b':List Tm):Prop:=(how=0∧∃bs,m=some bs∧b'=b++bs)∨(how=1∧m=none)
section
variable {N:ByteArray->Bool} (l:List Ent) (hE:AllE N l)
def OV1(p:PatternPat):Prop:=∀(n:Nat) (t:Tm) (b:List Tm) (c:Nat),VT l n t->shapedT t=true->b.length+ndP p≤1000000->∃how b' c',Out1 (mP l p t) how b b' ∧
 ∀L U,Evt (fun q=>e186vacs q (machT l).l (machT l).rl (machT l).parts (machT l).args (machT l).own L U 0 p t b b.length c) (how,t,0,L,U,b',b'.length,c')
theorem val_ms1L(ps:List PatternPat)(t:Tm)(ht:shapedT t=true)(j:Nat)(hj:j≤(arT t).length)(n:Nat)(hlen:ps.length=((arT t).drop j).length)(hv:∀x∈(arT t).drop j,VT l n x) :
  ∀(r:List PatternPat) (v:Nat) (b:List Tm) (c:Nat),ps.drop v=r->(∀p∈r,OV1 l p)->b.length+ndPs r≤1000000->∃how b' c',Out1 (mPs l r (((arT t).drop j).drop v)) how b b' ∧
  ∀L U,Evt (fun q=>e244vactLcv q (machT l).l (machT l).rl (machT l).parts (machT l).args (machT l).own ps ((arT t).drop j) (hdT t,arT t) (arT t) (v:Int) 0 L U c b.length (arT t) b) ((how,t,0,L,U,b',b'.length,c')):=by
 have hal:=ar_leL ht
 have hself:=apT_self t (shapedT_spec ht).2.2
 intro r
 induction r with
 |nil=>
  intro v b c hd hp hbl
  refine⟨0,b,c,.inl ⟨rfl,[],by rw[mPs],by simp⟩,fun L U=>Evt.succ ?_⟩
  simp only[e244vactLcv]
  exact Evt.ifF (drop_nil hd) ((ev_AW (hdT t) (arT t) (arT t).length rfl (by omega)).bind (Evt.ret.eq (by rw[hself])))
 |cons p r ih=>
  intro v b c hd hp hbl
  have hlt:=drop_lt hd
  rw[ndPs]at hbl
  have hvl:v<((arT t).drop j).length:=by omega
  have hjv:j+v<(arT t).length:=by simp at hvl;omega
  have hidx:w64 (w64 (((arT t).length:Int)-(((arT t).drop j).length:Int))+(v:Int))=((j+v:Nat):Int):=by
   rw[w64_id (x:=((arT t).length:Int)-(((arT t).drop j).length:Int)) (by simp;omega) (by simp;omega),w64_id (by simp;omega) (by simp;omega)];simp;omega
  have hown:((arT t).drop j).drop v=((arT t).drop j)[v]::((arT t).drop j).drop (v+1):=List.drop_eq_getElem_cons hvl
  have hget:(arT t)[j+v]=((arT t).drop j)[v]:=by simp
  have hm:=List.getElem_mem hvl
  rw[hown]
  generalize ((arT t).drop j)[v]=y at hget hm ⊢
  obtain⟨how,b1,c1,h1,h2⟩:=hp p (by simp) n y b c (hv _ hm) (ar_shaped ht (List.mem_of_mem_drop hm)) (by omega)
  have hyidx:gidx ((arT t).drop j) (v:Int)=some y:=by rw[gidx_nat hvl];rw[←hget];simp
  rcases h1 with⟨rfl,bs,hbs,rfl⟩|⟨rfl,hno⟩
  ·have hbsl:=mP_len p y bs hbs
   obtain⟨how,b2,c2,g1,g2⟩:=ih (v+1) (b++bs) c1 (drop_next hd) (fun p h=>hp p (by simp[h])) (by simp;omega)
   refine⟨how,b2,c2,?_,fun L U=>Evt.succ ?_⟩
   ·rcases g1 with⟨rfl,bs2,a1,rfl⟩|⟨rfl,a1⟩
    ·exact .inl ⟨rfl,bs++bs2,mPs_yes hbs a1,by simp⟩
    ·exact .inr ⟨rfl,mPs_no2 hbs a1⟩
   ·simp only[e244vactLcv,pp_eta,hidx]
    refine Evt.ifT (drop_dec hd) (Evt.pure (drop_idx hd) (Evt.pure hyidx ((h2 L U).bind (Evt.pure (gchk_ok hjv) (Evt.pure (gset_self hjv hget) (Evt.ifF rfl ?_))))))
    rw[w64_nat v (by omega)]
    exact g2 L U
  ·refine⟨1,b1,c1,.inr ⟨rfl,mPs_no hno⟩,fun L U=>Evt.succ ?_⟩
   simp only[e244vactLcv,pp_eta,hidx]
   exact Evt.ifT (drop_dec hd) (Evt.pure (drop_idx hd) (Evt.pure hyidx ((h2 L U).bind (Evt.pure (gchk_ok hjv) (Evt.pure (gset_self hjv hget) (Evt.ifT rfl ((ev_AW (hdT t) (arT t) (arT t).length rfl (by omega)).bind (Evt.ret.eq (by rw[hself])))))))))
theorem val_ms0R(ps:List PatternPat)(t:Tm)(ht:shapedT t=true)(j:Nat)(hj:j≤(arT t).length)(n:Nat)(hlen:ps.length=((arT t).drop j).length)(hv:∀x∈(arT t).drop j,VT l n x) :
  ∀(r:List PatternPat) (v:Nat) (b:List Tm) (c:Nat),ps.drop v=r->(∀p∈r,OV1 l p)->b.length+ndPs r≤1000000->∃how b' c',Out1 (mPs l r (((arT t).drop j).drop v)) how b b' ∧
  ∀L U,Evt (fun q=>e244vacwLcx q (machT l).l (machT l).rl (machT l).parts (machT l).args (machT l).own ps ((arT t).drop j) (hdT t,arT t) (arT t) (v:Int) 0 L U c b.length (arT t) b) (Sum.inr (how,t,0,L,U,b',b'.length,c')):=by
 have hal:=ar_leL ht
 have hself:=apT_self t (shapedT_spec ht).2.2
 intro r
 induction r with
 |nil=>
  intro v b c hd hp hbl
  refine⟨0,b,c,.inl ⟨rfl,[],by rw[mPs],by simp⟩,fun L U=>Evt.succ ?_⟩
  simp only[e244vacwLcx]
  exact Evt.ifF (drop_nil hd) ((ev_AW (hdT t) (arT t) (arT t).length rfl (by omega)).bind (Evt.ret.eq (by rw[hself])))
 |cons p r ih=>
  intro v b c hd hp hbl
  have hlt:=drop_lt hd
  rw[ndPs]at hbl
  have hvl:v<((arT t).drop j).length:=by omega
  have hjv:j+v<(arT t).length:=by simp at hvl;omega
  have hidx:w64 (w64 (((arT t).length:Int)-(((arT t).drop j).length:Int))+(v:Int))=((j+v:Nat):Int):=by
   rw[w64_id (x:=((arT t).length:Int)-(((arT t).drop j).length:Int)) (by simp;omega) (by simp;omega),w64_id (by simp;omega) (by simp;omega)];simp;omega
  have hown:((arT t).drop j).drop v=((arT t).drop j)[v]::((arT t).drop j).drop (v+1):=List.drop_eq_getElem_cons hvl
  have hget:(arT t)[j+v]=((arT t).drop j)[v]:=by simp
  have hm:=List.getElem_mem hvl
  rw[hown]
  generalize ((arT t).drop j)[v]=y at hget hm ⊢
  obtain⟨how,b1,c1,h1,h2⟩:=hp p (by simp) n y b c (hv _ hm) (ar_shaped ht (List.mem_of_mem_drop hm)) (by omega)
  have hyidx:gidx ((arT t).drop j) (v:Int)=some y:=by rw[gidx_nat hvl];rw[←hget];simp
  rcases h1 with⟨rfl,bs,hbs,rfl⟩|⟨rfl,hno⟩
  ·have hbsl:=mP_len p y bs hbs
   obtain⟨how,b2,c2,g1,g2⟩:=ih (v+1) (b++bs) c1 (drop_next hd) (fun p h=>hp p (by simp[h])) (by simp;omega)
   refine⟨how,b2,c2,?_,fun L U=>Evt.succ ?_⟩
   ·rcases g1 with⟨rfl,bs2,a1,rfl⟩|⟨rfl,a1⟩
    ·exact .inl ⟨rfl,bs++bs2,mPs_yes hbs a1,by simp⟩
    ·exact .inr ⟨rfl,mPs_no2 hbs a1⟩
   ·simp only[e244vacwLcx,pp_eta,hidx]
    refine Evt.ifT (drop_dec hd) (Evt.pure (drop_idx hd) (Evt.pure hyidx ((h2 L U).bind (Evt.pure (gchk_ok hjv) (Evt.pure (gset_self hjv hget) (Evt.ifF rfl ?_))))))
    rw[w64_nat v (by omega)]
    exact g2 L U
  ·refine⟨1,b1,c1,.inr ⟨rfl,mPs_no hno⟩,fun L U=>Evt.succ ?_⟩
   simp only[e244vacwLcx,pp_eta,hidx]
   exact Evt.ifT (drop_dec hd) (Evt.pure (drop_idx hd) (Evt.pure hyidx ((h2 L U).bind (Evt.pure (gchk_ok hjv) (Evt.pure (gset_self hjv hget) (Evt.ifT rfl ((ev_AW (hdT t) (arT t) (arT t).length rfl (by omega)).bind (Evt.ret.eq (by rw[hself])))))))))
theorem val_ms1(ps:List PatternPat)(hp:∀p∈ps,OV1 l p)(t:Tm)(ht:shapedT t=true)(j:Nat)(hj:j≤(arT t).length)(n:Nat)(hlen:ps.length=((arT t).drop j).length)(hv:∀x∈(arT t).drop j,VT l n x)(b:List Tm)(c:Nat)(hbl:b.length+ndPs ps≤1000000) :
  ∃how b' c',Out1 (mPs l ps ((arT t).drop j)) how b b'∧∀L U,Evt (fun q=>e244vact q (machT l).l (machT l).rl (machT l).parts (machT l).args (machT l).own L U 0 ps ((arT t).drop j) t b b.length c) (how,t,0,L,U,b',b'.length,c'):=by
 have hal:=ar_leL ht
 have hself:=apT_self t (shapedT_spec ht).2.2
 by_cases h:arT t=[]
 ·have hps:ps=[]:=List.length_eq_zero_iff.1 (by rw[hlen,h];simp)
  subst hps
  refine⟨0,b,c,.inl ⟨rfl,[],by rw[mPs],by simp⟩,fun L U=>Evt.succ ?_⟩
  simp only[e244vact]
  refine(ev_Spine t ht).bind (((ev_vr (arT t) (by omega)).eq (if_pos h)).bind ?_)
  refine Evt.succ ?_
  simp only[e244vactLcu]
  refine Evt.ifF rfl ((ev_Apply (hdT t) [] (by simp)).bind (Evt.ret.eq ?_))
  rw[h]at hself
  rw[hself]
 ·obtain⟨how,b',c',h1,h2⟩:=val_ms1L l ps t ht j hj n hlen hv ps 0 b c rfl hp hbl
  refine⟨how,b',c',h1,fun L U=>Evt.succ ?_⟩
  simp only[e244vact]
  exact(ev_Spine t ht).bind (((ev_vr (arT t) (by omega)).eq (if_neg h)).bind (h2 L U))
include hE
theorem val_mt1:∀(m:Nat) (p:PatternPat),ndP p≤m->GP l p->OV1 l p:=by
 intro m
 induction m with
 |zero=>intro p hn;rw[ndP_sub]at hn;omega
 |succ m ih=>
  intro p hn hg n t b c hv ht hbl
  obtain⟨pk,pn,pa,ps,pt⟩:=p
  rw[GP]at hg
  rw[ndP]at hn hbl
  rw[mP]
  have hps:∀s∈ps,OV1 l s:=fun s hs=>ih s (by have:=ndPs_mem hs;omega) (GPs_at hg.2 s hs)
  by_cases h3:pk=3
  ·refine⟨0,b,c,.inl ⟨rfl,[],by rw[if_neg (by omega),if_pos h3],by simp⟩,fun L U=>Evt.succ ?_⟩
   simp only[e186vacs,PatternPat.kind_,PatternPat.n_,PatternPat.sub_]
   exact Evt.ifT (by simp[h3]) Evt.ret
  by_cases h1:pk=1
  ·refine⟨0,b++[t],(b++[t]).length,.inl ⟨rfl,[t],by rw[if_pos h1],rfl⟩,fun L U=>Evt.succ ?_⟩
   simp only[e186vacs,PatternPat.kind_,PatternPat.n_,PatternPat.sub_]
   have e:(b++[Tm.mk 0 0 []]).set b.length t=b++[t]:=by simp
   have e2:(b++[Tm.mk 0 0 []]).length=(b++[t]).length:=by simp
   refine Evt.ifF (by simp[h3]) (Evt.ifT (by simp[h1]) (Evt.pure (a:=b) (by simp[gfz]) (Evt.pure (gapp_ok (by simp;omega)) (Evt.pure (gchk_ok (by simp)) (Evt.pure (gset_ok _ (by simp)) (Evt.ret.eq ?_))))))
   rw[e,e2]
  by_cases h4:pk=4
  ·refine⟨1,b,c,.inr ⟨rfl,by rw[if_neg h1,if_neg h3,if_pos h4]⟩,fun L U=>Evt.succ ?_⟩
   simp only[e186vacs,PatternPat.kind_,PatternPat.n_,PatternPat.sub_]
   exact Evt.ifF (by simp[h3]) (Evt.ifF (by simp[h1]) (Evt.ifT (by simp[h4]) Evt.ret))
  rw[if_neg h1,if_neg h3,if_neg h4]
  obtain⟨-,hari⟩:=hg.1 h1 h3 h4
  cases n with
  |zero=>exact hv.elim
  |succ n=>
  obtain⟨hc,hv⟩:=hv
  have hcx:conX l t=((hdT t).n,arT t,true):=if_pos hc
  by_cases hn2:(hdT t).n≠pn
  ·refine⟨1,b,c,.inr ⟨rfl,by rw[if_pos hn2]⟩,fun L U=>Evt.succ ?_⟩
   simp only[e186vacs,PatternPat.kind_,PatternPat.n_,PatternPat.sub_]
   refine Evt.ifF (by simp[h3]) (Evt.ifF (by simp[h1]) (Evt.ifF (by simp[h4]) (((ev_ConL l t ht).eq hcx).bind (Evt.ifT rfl (Evt.ifT (by simpa using hn2) Evt.ret)))))
  ·rw[if_neg hn2]
   have hpn:(hdT t).n=pn:=Decidable.byContradiction hn2
   obtain⟨j,hj,q1,q2,q3⟩:=con_parsL hE ht hc
   have hP:Evt (fun q=>e166 q (machT l) (hdT t).n) (j:Int):=by
    simp only[e166,machT_l]
    exact Evt.ifF (decide_eq_false (by omega)) (Evt.ifF (decide_eq_false (by omega)) (Evt.pure (gidx_ent q2 q3) (Evt.ret.eq hj)))
   have hs:=isCon_spec ht hc
   have hlen:ps.length=((arT t).drop j).length:=by
    unfold ariT at hari
    rw[←hpn,if_pos ⟨hs.1,hs.2.1,hs.2.2.1⟩]at hari
    have:=hs.2.2.2
    simp;omega
   rw[hj]at hv ⊢
   simp only[Int.toNat_natCast]at hv ⊢
   obtain⟨how,b',c',g1,g2⟩:=val_ms1 l ps hps t ht j q1 n hlen hv b c (by omega)
   refine⟨how,b',c',g1,fun L U=>Evt.succ ?_⟩
   simp only[e186vacs,PatternPat.kind_,PatternPat.n_,PatternPat.sub_]
   refine Evt.ifF (by simp[h3]) (Evt.ifF (by simp[h1]) (Evt.ifF (by simp[h4]) (((ev_ConL l t ht).eq hcx).bind (Evt.ifT rfl (Evt.ifF (by simp[hpn]) (hP.bind (Evt.pure (gsl_ok q1 (Nat.le_refl _)) ?_)))))))
   rw[show ((arT t).drop j).take ((arT t).length-j)=(arT t).drop j from List.take_of_length_le (by simp)]
   exact(g2 L U).bind Evt.ret
end
def Out0(m:Option (List Tm))(t:Tm)(R:Int->Int->RM0):Prop:=
 (m=some []∧R=fun L U=>.inl (0,t,0,L,U))∨(m=none∧R=fun L U=>.inl (1,t,0,L,U))∨∃how b c,Out1 m how [] b∧R=fun L U=>.inr (how,t,0,L,U,b,b.length,c)
section
variable {N:ByteArray->Bool} (l:List Ent) (hE:AllE N l)
def OV0(p:PatternPat):Prop:=∀(n:Nat) (t:Tm),VT l n t->shapedT t=true->ndP p≤1000000->∃R,Out0 (mP l p t) t R ∧
 ∀L U,Evt (fun q=>e186vacy q (machT l).l (machT l).rl (machT l).parts (machT l).args (machT l).own L U 0 p t) (R L U)
theorem val_ms0L(ps:List PatternPat)(hp1:∀p∈ps,OV1 l p)(t:Tm)(ht:shapedT t=true)(j:Nat)(hj:j≤(arT t).length)(n:Nat)(hlen:ps.length=((arT t).drop j).length)(hv:∀x∈(arT t).drop j,VT l n x) :
  ∀(r:List PatternPat) (v:Nat),ps.drop v=r->(∀p∈r,OV0 l p)->ndPs r≤1000000->∃R,Out0 (mPs l r (((arT t).drop j).drop v)) t R ∧
  ∀L U,Evt (fun q=>e244vacwLda q (machT l).l (machT l).rl (machT l).parts (machT l).args (machT l).own ps ((arT t).drop j) (hdT t,arT t) (arT t) (v:Int) 0 L U (arT t)) (R L U):=by
 have hal:=ar_leL ht
 have hself:=apT_self t (shapedT_spec ht).2.2
 intro r
 induction r with
 |nil=>
  intro v hd hp hbl
  refine⟨_,.inl ⟨by rw[mPs],rfl⟩,fun L U=>Evt.succ ?_⟩
  simp only[e244vacwLda]
  exact Evt.ifF (drop_nil hd) ((ev_AW (hdT t) (arT t) (arT t).length rfl (by omega)).bind (Evt.ret.eq (by rw[hself])))
 |cons p r ih=>
  intro v hd hp hbl
  have hlt:=drop_lt hd
  rw[ndPs]at hbl
  have hvl:v<((arT t).drop j).length:=by omega
  have hjv:j+v<(arT t).length:=by simp at hvl;omega
  have hidx:w64 (w64 (((arT t).length:Int)-(((arT t).drop j).length:Int))+(v:Int))=((j+v:Nat):Int):=by
   rw[w64_id (x:=((arT t).length:Int)-(((arT t).drop j).length:Int)) (by simp;omega) (by simp;omega),w64_id (by simp;omega) (by simp;omega)];simp;omega
  have hown:((arT t).drop j).drop v=((arT t).drop j)[v]::((arT t).drop j).drop (v+1):=List.drop_eq_getElem_cons hvl
  have hget:(arT t)[j+v]=((arT t).drop j)[v]:=by simp
  have hm:=List.getElem_mem hvl
  rw[hown]
  generalize ((arT t).drop j)[v]=y at hget hm ⊢
  have hy:=ar_shaped ht (List.mem_of_mem_drop hm)
  obtain⟨R,h1,h2⟩:=hp p (by simp) n y (hv _ hm) hy (by omega)
  have hyidx:gidx ((arT t).drop j) (v:Int)=some y:=by rw[gidx_nat hvl];rw[←hget];simp
  rcases h1 with⟨ha,rfl⟩|⟨ha,rfl⟩|⟨how,b,c,hb,rfl⟩
  ·obtain⟨R',g1,g2⟩:=ih (v+1) (drop_next hd) (fun p h=>hp p (by simp[h])) (by omega)
   have e:mPs l (p::r) (y::((arT t).drop j).drop (v+1))=mPs l r (((arT t).drop j).drop (v+1)):=by
    cases h:mPs l r (((arT t).drop j).drop (v+1))with
    |none=>exact mPs_no2 ha h
    |some bs=>exact mPs_yes ha h
   refine⟨R',by rw[e];exact g1,fun L U=>Evt.succ ?_⟩
   simp only[e244vacwLda,pp_eta,hidx]
   refine Evt.ifT (drop_dec hd) (Evt.pure (drop_idx hd) (Evt.pure hyidx ((h2 L U).bind (Evt.pure (gchk_ok hjv) (Evt.pure (gset_self hjv hget) (Evt.ifF rfl ?_))))))
   rw[w64_nat v (by omega)]
   exact g2 L U
  ·refine⟨fun L U=>.inl (1,t,0,L,U),.inr (.inl ⟨mPs_no ha,rfl⟩),fun L U=>Evt.succ ?_⟩
   simp only[e244vacwLda,pp_eta,hidx]
   exact Evt.ifT (drop_dec hd) (Evt.pure (drop_idx hd) (Evt.pure hyidx ((h2 L U).bind (Evt.pure (gchk_ok hjv) (Evt.pure (gset_self hjv hget) (Evt.ifT rfl ((ev_AW (hdT t) (arT t) (arT t).length rfl (by omega)).bind (Evt.ret.eq (by rw[hself])))))))))
  ·rcases hb with⟨rfl,bs,hbs,hbe⟩|⟨rfl,hno⟩
   ·have hbe:b=bs:=by simpa using hbe
    subst hbe
    have hbsl:=mP_len p y b hbs
    obtain⟨how,b2,c2,g1,g2⟩:=val_ms0R l ps t ht j hj n hlen hv r (v+1) b c (drop_next hd) (fun p h=>hp1 p (List.mem_of_mem_drop (by rw[hd];simp[h]))) (by omega)
    refine⟨fun L U=>.inr (how,t,0,L,U,b2,b2.length,c2),.inr (.inr ⟨how,b2,c2,?_,rfl⟩),fun L U=>Evt.succ ?_⟩
    ·rcases g1 with⟨rfl,bs2,a1,rfl⟩|⟨rfl,a1⟩
     ·exact .inl ⟨rfl,b++bs2,mPs_yes hbs a1,by simp⟩
     ·exact .inr ⟨rfl,mPs_no2 hbs a1⟩
    ·simp only[e244vacwLda,pp_eta,hidx]
     refine Evt.ifT (drop_dec hd) (Evt.pure (drop_idx hd) (Evt.pure hyidx ((h2 L U).bind (Evt.pure (gchk_ok hjv) (Evt.pure (gset_self hjv hget) (Evt.ifF rfl ?_))))))
     rw[w64_nat v (by omega)]
     exact g2 L U
   ·refine⟨fun L U=>.inr (1,t,0,L,U,b,b.length,c),.inr (.inr ⟨1,b,c,.inr ⟨rfl,mPs_no hno⟩,rfl⟩),fun L U=>Evt.succ ?_⟩
    simp only[e244vacwLda,pp_eta,hidx]
    exact Evt.ifT (drop_dec hd) (Evt.pure (drop_idx hd) (Evt.pure hyidx ((h2 L U).bind (Evt.pure (gchk_ok hjv) (Evt.pure (gset_self hjv hget) (Evt.ifT rfl ((ev_AW (hdT t) (arT t) (arT t).length rfl (by omega)).bind (Evt.ret.eq (by rw[hself])))))))))
theorem val_ms0(ps:List PatternPat)(hp:∀p∈ps,OV0 l p)(hp1:∀p∈ps,OV1 l p)(t:Tm)(ht:shapedT t=true)(j:Nat)(hj:j≤(arT t).length)(n:Nat)(hlen:ps.length=((arT t).drop j).length)(hv:∀x∈(arT t).drop j,VT l n x)(hbl:ndPs ps≤1000000) :
  ∃R,Out0 (mPs l ps ((arT t).drop j)) t R∧∀L U,Evt (fun q=>e244vacw q (machT l).l (machT l).rl (machT l).parts (machT l).args (machT l).own L U 0 ps ((arT t).drop j) t) (R L U):=by
 have hal:=ar_leL ht
 have hself:=apT_self t (shapedT_spec ht).2.2
 by_cases h:arT t=[]
 ·have hps:ps=[]:=List.length_eq_zero_iff.1 (by rw[hlen,h];simp)
  subst hps
  refine⟨_,.inl ⟨by rw[mPs],rfl⟩,fun L U=>Evt.succ ?_⟩
  simp only[e244vacw]
  refine(ev_Spine t ht).bind (((ev_vr (arT t) (by omega)).eq (if_pos h)).bind ?_)
  refine Evt.succ ?_
  simp only[e244vacwLcz]
  refine Evt.ifF rfl ((ev_Apply (hdT t) [] (by simp)).bind (Evt.ret.eq ?_))
  rw[h]at hself
  rw[hself]
 ·obtain⟨R,h1,h2⟩:=val_ms0L l ps hp1 t ht j hj n hlen hv ps 0 rfl hp hbl
  refine⟨R,h1,fun L U=>Evt.succ ?_⟩
  simp only[e244vacw]
  exact(ev_Spine t ht).bind (((ev_vr (arT t) (by omega)).eq (if_neg h)).bind (h2 L U))
include hE
theorem val_mt0:∀(m:Nat) (p:PatternPat),ndP p≤m->GP l p->OV0 l p:=by
 intro m
 induction m with
 |zero=>intro p hn;rw[ndP_sub]at hn;omega
 |succ m ih=>
  intro p hn hg n t hv ht hbl
  obtain⟨pk,pn,pa,ps,pt⟩:=p
  rw[GP]at hg
  rw[ndP]at hn hbl
  rw[mP]
  have hps:∀s∈ps,OV0 l s:=fun s hs=>ih s (by have:=ndPs_mem hs;omega) (GPs_at hg.2 s hs)
  have hps1:∀s∈ps,OV1 l s:=fun s hs=>val_mt1 l hE _ s (Nat.le_refl _) (GPs_at hg.2 s hs)
  by_cases h3:pk=3
  ·refine⟨_,.inl ⟨by rw[if_neg (by omega),if_pos h3],rfl⟩,fun L U=>Evt.succ ?_⟩
   simp only[e186vacy,PatternPat.kind_,PatternPat.n_,PatternPat.sub_]
   exact Evt.ifT (by simp[h3]) Evt.ret
  by_cases h1:pk=1
  ·refine⟨fun L U=>.inr (0,t,0,L,U,[t],1,1),.inr (.inr ⟨0,[t],1,.inl ⟨rfl,[t],by rw[if_pos h1],rfl⟩,rfl⟩),fun L U=>Evt.succ ?_⟩
   simp only[e186vacy,PatternPat.kind_,PatternPat.n_,PatternPat.sub_]
   exact Evt.ifF (by simp[h3]) (Evt.ifT (by simp[h1]) (Evt.pure (gapp_ok (by simp)) (Evt.pure (a:=0) rfl (Evt.pure (a:=[t]) rfl Evt.ret))))
  by_cases h4:pk=4
  ·refine⟨fun L U=>.inl (1,t,0,L,U),.inr (.inl ⟨by rw[if_neg h1,if_neg h3,if_pos h4],rfl⟩),fun L U=>Evt.succ ?_⟩
   simp only[e186vacy,PatternPat.kind_,PatternPat.n_,PatternPat.sub_]
   exact Evt.ifF (by simp[h3]) (Evt.ifF (by simp[h1]) (Evt.ifT (by simp[h4]) Evt.ret))
  rw[if_neg h1,if_neg h3,if_neg h4]
  obtain⟨-,hari⟩:=hg.1 h1 h3 h4
  cases n with
  |zero=>exact hv.elim
  |succ n=>
  obtain⟨hc,hv⟩:=hv
  have hcx:conX l t=((hdT t).n,arT t,true):=if_pos hc
  by_cases hn2:(hdT t).n≠pn
  ·refine⟨fun L U=>.inl (1,t,0,L,U),.inr (.inl ⟨by rw[if_pos hn2],rfl⟩),fun L U=>Evt.succ ?_⟩
   simp only[e186vacy,PatternPat.kind_,PatternPat.n_,PatternPat.sub_]
   refine Evt.ifF (by simp[h3]) (Evt.ifF (by simp[h1]) (Evt.ifF (by simp[h4]) (((ev_ConL l t ht).eq hcx).bind (Evt.ifT rfl (Evt.ifT (by simpa using hn2) Evt.ret)))))
  ·rw[if_neg hn2]
   have hpn:(hdT t).n=pn:=Decidable.byContradiction hn2
   obtain⟨j,hj,q1,q2,q3⟩:=con_parsL hE ht hc
   have hP:Evt (fun q=>e166 q (machT l) (hdT t).n) (j:Int):=by
    simp only[e166,machT_l]
    exact Evt.ifF (decide_eq_false (by omega)) (Evt.ifF (decide_eq_false (by omega)) (Evt.pure (gidx_ent q2 q3) (Evt.ret.eq hj)))
   have hs:=isCon_spec ht hc
   have hlen:ps.length=((arT t).drop j).length:=by
    unfold ariT at hari
    rw[←hpn,if_pos ⟨hs.1,hs.2.1,hs.2.2.1⟩]at hari
    have:=hs.2.2.2
    simp;omega
   rw[hj]at hv ⊢
   simp only[Int.toNat_natCast]at hv ⊢
   obtain⟨R,g1,g2⟩:=val_ms0 l ps hps hps1 t ht j q1 n hlen hv (by omega)
   refine⟨R,g1,fun L U=>Evt.succ ?_⟩
   simp only[e186vacy,PatternPat.kind_,PatternPat.n_,PatternPat.sub_]
   refine Evt.ifF (by simp[h3]) (Evt.ifF (by simp[h1]) (Evt.ifF (by simp[h4]) (((ev_ConL l t ht).eq hcx).bind (Evt.ifT rfl (Evt.ifF (by simp[hpn]) (hP.bind (Evt.pure (gsl_ok q1 (Nat.le_refl _)) ?_)))))))
   rw[show ((arT t).drop j).take ((arT t).length-j)=(arT t).drop j from List.take_of_length_le (by simp)]
   refine(g2 L U).bind ?_
   cases h:R L U with
   |inl y=>exact Evt.ret
   |inr y=>exact Evt.ret
omit hE
def OutW(m:Option (List Tm))(as0:List Tm)(R:Int->Int->RRW):Prop:=
 (m=some []∧R=fun L U=>.inl (0,[],0,L,U,as0))∨(m=none∧R=fun L U=>.inl (1,[],0,L,U,as0))∨∃b c,m=some b∧R=fun L U=>.inr (b,0,c,0,L,U,as0)
theorem val_row1(ps:List PatternPat)(n:Nat)(hps:ps.length=n)(hn:n≤1000000)(as0:List Tm)(ha:as0.length=n)(hs:Shs as0)(k:Nat)(hv:∀x∈as0,VT l k x):∀(r:List PatternPat) (v:Nat) (b:List Tm) (c:Nat),ps.drop v=r->(∀p∈r,OV1 l p)->b.length+ndPs r≤1000000 ->
  ∃R,((∃b2 c2,mPs l r (as0.drop v)=some b2∧R=fun L U=>.inr (b++b2,0,c2,0,L,U,as0))∨(mPs l r (as0.drop v)=none∧R=fun L U=>.inl (1,[],0,L,U,as0))) ∧
  ∀L U,Evt (fun q=>e121vaddLde q (machT l).l (machT l).rl (machT l).parts (machT l).args (machT l).own ps n (v:Int) 0 L U as0 c b.length b) (R L U:RRW):=by
 intro r
 induction r with
 |nil=>
  intro v b c hd hp hbl
  refine⟨_,.inl ⟨[],c,by rw[mPs],rfl⟩,fun L U=>Evt.succ ?_⟩
  simp only[e121vaddLde]
  exact Evt.ifF (drop_nil hd) (Evt.pure (a:=b) (by simp[gfz]) (Evt.ret.eq (by simp)))
 |cons p r ih=>
  intro v b c hd hp hbl
  have hlt:=drop_lt hd
  rw[ndPs]at hbl
  have hva:v<as0.length:=by omega
  have hown:as0.drop v=as0[v]::as0.drop (v+1):=List.drop_eq_getElem_cons hva
  have hget:as0[v]=as0[v]:=rfl
  have hm:=List.getElem_mem hva
  rw[hown]
  have hyidx:gidx as0 (v:Int)=some as0[v]:=gidx_nat hva
  generalize as0[v]=y at hget hm hyidx ⊢
  have hset:gset as0 v y=some as0:=gset_self hva (by have:=gidx_nat hva;rw[hyidx]at this;exact(Option.some.inj this).symm)
  obtain⟨how,b1,c1,h1,h2⟩:=hp p (by simp) k y b c (hv _ hm) (hs _ hm) (by omega)
  rcases h1 with⟨rfl,bs,hbs,rfl⟩|⟨rfl,hno⟩
  ·have hbsl:=mP_len p y bs hbs
   obtain⟨R,g1,g2⟩:=ih (v+1) (b++bs) c1 (drop_next hd) (fun p h=>hp p (by simp[h])) (by simp;omega)
   refine⟨R,?_,fun L U=>Evt.succ ?_⟩
   ·rcases g1 with⟨b2,c2,a1,rfl⟩|⟨a1,rfl⟩
    ·exact .inl ⟨bs++b2,c2,mPs_yes hbs a1,by simp⟩
    ·exact .inr ⟨mPs_no2 hbs a1,rfl⟩
   ·simp only[e121vaddLde,pp_eta]
    refine Evt.ifT (drop_dec hd) (Evt.pure (drop_idx hd) (Evt.pure (gchk_ok (by omega)) (Evt.pure hyidx ((h2 L U).bind (Evt.ifT rfl (((ev_Shaped y (shaped_ok (hs _ hm))).eq (hs _ hm)).bind (Evt.ifT rfl (Evt.pure hset (Evt.ifF rfl (Evt.ifF rfl ?_))))))))))
    rw[w64_nat v (by omega)]
    exact g2 L U
  ·refine⟨_,.inr ⟨mPs_no hno,rfl⟩,fun L U=>Evt.succ ?_⟩
   simp only[e121vaddLde,pp_eta]
   exact Evt.ifT (drop_dec hd) (Evt.pure (drop_idx hd) (Evt.pure (gchk_ok (by omega)) (Evt.pure hyidx ((h2 L U).bind (Evt.ifT rfl (((ev_Shaped y (shaped_ok (hs _ hm))).eq (hs _ hm)).bind (Evt.ifT rfl (Evt.pure hset (Evt.ifT rfl Evt.ret)))))))))
theorem val_row0(ps:List PatternPat)(n:Nat)(hps:ps.length=n)(hn:n≤1000000)(hp1:∀p∈ps,OV1 l p)(as0:List Tm)(ha:as0.length=n)(hs:Shs as0)(k:Nat)(hv:∀x∈as0,VT l k x):∀(r:List PatternPat) (v:Nat),ps.drop v=r->(∀p∈r,OV0 l p)->ndPs r≤1000000 ->
  ∃R,OutW (mPs l r (as0.drop v)) as0 R∧∀L U,Evt (fun q=>e121vaddLdf q (machT l).l (machT l).rl (machT l).parts (machT l).args (machT l).own ps n (v:Int) 0 L U as0) (R L U):=by
 intro r
 induction r with
 |nil=>
  intro v hd hp hbl
  refine⟨_,.inl ⟨by rw[mPs],rfl⟩,fun L U=>Evt.succ ?_⟩
  simp only[e121vaddLdf]
  exact Evt.ifF (drop_nil hd) Evt.ret
 |cons p r ih=>
  intro v hd hp hbl
  have hlt:=drop_lt hd
  rw[ndPs]at hbl
  have hva:v<as0.length:=by omega
  have hown:as0.drop v=as0[v]::as0.drop (v+1):=List.drop_eq_getElem_cons hva
  have hm:=List.getElem_mem hva
  rw[hown]
  have hyidx:gidx as0 (v:Int)=some as0[v]:=gidx_nat hva
  generalize as0[v]=y at hm hyidx ⊢
  have hset:gset as0 v y=some as0:=gset_self hva (by have:=gidx_nat hva;rw[hyidx]at this;exact(Option.some.inj this).symm)
  obtain⟨R,h1,h2⟩:=hp p (by simp) k y (hv _ hm) (hs _ hm) (by omega)
  rcases h1 with⟨ha',rfl⟩|⟨ha',rfl⟩|⟨how,b,c,hb,rfl⟩
  ·obtain⟨R',g1,g2⟩:=ih (v+1) (drop_next hd) (fun p h=>hp p (by simp[h])) (by omega)
   have e:mPs l (p::r) (y::as0.drop (v+1))=mPs l r (as0.drop (v+1)):=by
    cases h:mPs l r (as0.drop (v+1))with
    |none=>exact mPs_no2 ha' h
    |some bs=>exact mPs_yes ha' h
   refine⟨R',by rw[e];exact g1,fun L U=>Evt.succ ?_⟩
   simp only[e121vaddLdf,pp_eta]
   refine Evt.ifT (drop_dec hd) (Evt.pure (drop_idx hd) (Evt.pure (gchk_ok (by omega)) (Evt.pure hyidx ((h2 L U).bind (Evt.ifT rfl (((ev_Shaped y (shaped_ok (hs _ hm))).eq (hs _ hm)).bind (Evt.ifT rfl (Evt.pure hset (Evt.ifF rfl (Evt.ifF rfl ?_))))))))))
   rw[w64_nat v (by omega)]
   exact g2 L U
  ·refine⟨_,.inr (.inl ⟨mPs_no ha',rfl⟩),fun L U=>Evt.succ ?_⟩
   simp only[e121vaddLdf,pp_eta]
   exact Evt.ifT (drop_dec hd) (Evt.pure (drop_idx hd) (Evt.pure (gchk_ok (by omega)) (Evt.pure hyidx ((h2 L U).bind (Evt.ifT rfl (((ev_Shaped y (shaped_ok (hs _ hm))).eq (hs _ hm)).bind (Evt.ifT rfl (Evt.pure hset (Evt.ifT rfl Evt.ret)))))))))
  ·rcases hb with⟨rfl,bs,hbs,hbe⟩|⟨rfl,hno⟩
   ·have hbe:b=bs:=by simpa using hbe
    subst hbe
    have hbsl:=mP_len p y b hbs
    obtain⟨R',g1,g2⟩:=val_row1 l ps n hps hn as0 ha hs k hv r (v+1) b c (drop_next hd) (fun p h=>hp1 p (List.mem_of_mem_drop (by rw[hd];simp[h]))) (by omega)
    refine⟨R',?_,fun L U=>Evt.succ ?_⟩
    ·rcases g1 with⟨b2,c2,a1,rfl⟩|⟨a1,rfl⟩
     ·exact .inr (.inr ⟨b++b2,c2,mPs_yes hbs a1,rfl⟩)
     ·exact .inr (.inl ⟨mPs_no2 hbs a1,rfl⟩)
    ·simp only[e121vaddLdf,pp_eta]
     refine Evt.ifT (drop_dec hd) (Evt.pure (drop_idx hd) (Evt.pure (gchk_ok (by omega)) (Evt.pure hyidx ((h2 L U).bind (Evt.ifT rfl (((ev_Shaped y (shaped_ok (hs _ hm))).eq (hs _ hm)).bind (Evt.ifT rfl (Evt.pure hset (Evt.ifF rfl (Evt.ifF rfl ?_))))))))))
     rw[w64_nat v (by omega)]
     exact g2 L U
   ·refine⟨_,.inr (.inl ⟨mPs_no hno,rfl⟩),fun L U=>Evt.succ ?_⟩
    simp only[e121vaddLdf,pp_eta]
    exact Evt.ifT (drop_dec hd) (Evt.pure (drop_idx hd) (Evt.pure (gchk_ok (by omega)) (Evt.pure hyidx ((h2 L U).bind (Evt.ifT rfl (((ev_Shaped y (shaped_ok (hs _ hm))).eq (hs _ hm)).bind (Evt.ifT rfl (Evt.pure hset (Evt.ifT rfl Evt.ret)))))))))
include hE in
theorem val_row(ps:List PatternPat)(hg:∀p∈ps,GP l p)(hnd:ndPs ps≤1000000)(as0:List Tm)(hps:ps.length=as0.length)(hs:Shs as0)(k:Nat)(hv:∀x∈as0,VT l k x) :
  ∃R,OutW (mPs l ps as0) as0 R∧∀L U,Evt (fun q=>e121vadd q (machT l).l (machT l).rl (machT l).parts (machT l).args (machT l).own L U 0 ps as0 as0.length) (R L U):=by
 simp only[e121vadd]
 have:=ndPs_len ps
 exact val_row0 l ps as0.length hps (by omega) (fun p hp=>val_mt1 l hE _ p (Nat.le_refl _) (hg p hp)) as0 rfl hs k hv ps 0 rfl (fun p hp=>val_mt0 l hE _ p (Nat.le_refl _) (hg p hp)) hnd
end
mutual
def e118:Nat->(List Ent)->(List R24Pat)->(List Tm)->Option (R24Match)
 |0,_,_,_=>none
 |qq+1,p0,p1,p2=>
 e118Lex qq p0 p1 p2 0 [] []
def e118Lex:Nat->(List Ent)->(List R24Pat)->(List Tm)->Int->(List Int)->(List Tm)->Option (R24Match)
 |0,_,_,_,_,_,_=>none
 |qq+1,p0,p1,p2,v8,vb1_1,vb1_2=>
 if decide (v8<(List.length p1:Int))then
 gidx p1 v8>>=fun x2=>
 gidx p2 v8>>=fun x4=>
 e183 qq p0 (R24Pat.mk x2.kind_ x2.n_ x2.at_ x2.sub_ x2.t_) x4>>=fun r6=>
 if r6.how_ != 1 then
 some (R24Match.mk r6.how_ [] [])
 else
 gapp 8 vb1_1 r6.vars_>>=fun l9=>
 gapp 40 vb1_2 r6.terms_>>=fun l12=>
 e118Lex qq p0 p1 p2 (w64 (v8+1)) l9 l12
 else
 some (R24Match.mk 1 vb1_1 vb1_2)
def e183:Nat->(List Ent)->R24Pat->Tm->Option (R24Match)
 |0,_,_,_=>none
 |qq+1,p0,p1,p2=>
 if p1.kind_==1 then
 some (R24Match.mk 1 [p1.n_] [p2])
 else
 if p1.kind_==3 then
 some (R24Match.mk 1 [] [])
 else
 if p1.kind_==4 then
 some (R24Match.mk 2 [] [])
 else
 e76 qq p2>>=fun r4=>
 e78 qq p2>>=fun r6=>
 if r4.k != 6 then
 some (R24Match.mk 3 [] [])
 else
 e240 qq p0 r4.n>>=fun r9=>
 if decide (r9<0)then
 some (R24Match.mk 3 [] [])
 else
 gidx p0 r4.n>>=fun x12=>
 if (List.length r6:Int) != (w64 (x12.pars+r9))then
 some (R24Match.mk 3 [] [])
 else
 if r4.n != p1.n_ then
 some (R24Match.mk 2 [] [])
 else
 gsl r6 x12.pars (List.length r6:Int)>>=fun x16=>
 e118 qq p0 p1.sub_ x16>>=fun r18=>
 some r18
end
def g118LexE0(j:Nat->Value)(p0:List Ent)(p1:List R24Pat)(p2:List Tm)(v8:Int)(vb1_1:List Int)(vb1_2:List Tm):=sp j 46 0 [(0,slv entL p0 .no),(1,slv r24PatC p1 .no),(2,slv tmCells p2 .no),(6,.mp 0 0),(7,.mp 1 0),(8,ai v8)]
def g118LexS0(p0:List Ent)(p1:List R24Pat)(p2:List Tm)(v8:Int)(vb1_1:List Int)(vb1_2:List Tm):LSt:=⟨[(0,.cells [ai 0,slv intC ([]:List Int) .nl,slv tmCells ([]:List Tm) .nl]),(1,.cells [ai 1,slv intC vb1_1 (.st 0 1),slv tmCells vb1_2 (.st 1 3)])],2,[0,1],2,[]⟩
abbrev K118 (p0:List Ent) (p1:List R24Pat) (p2:List Tm) (r:R24Match) (C:Cf):Prop:=C 118 [] [slv entL p0 .no,slv r24PatC p1 .no,slv tmCells p2 .no] (r24MatchA r) [] 0
abbrev K183 (p0:List Ent) (p1:R24Pat) (p2:Tm) (r:R24Match) (C:Cf):Prop:=C 183 [] [slv entL p0 .no,r24PatA p1,tmA p2] (r24MatchA r) [] 0
theorem q118:Qf 118 Tryz.f118:=⟨Tryz.func118,by kernel_rfl⟩
theorem k118{p0 p1 p2 r}(h:K118 p0 p1 p2 r Ci):K118 p0 p1 p2 r Ct:=⟨h,⟨⟨tv,dE _⟩,⟨tv,dR24Pat _⟩,⟨tv,dT _⟩,tv⟩,forall_nil,⟨tv,dI _,dT _,tv⟩,forall_nil⟩
theorem q183:Qf 183 Tryz.f183:=⟨Tryz.func183,by kernel_rfl⟩
theorem k183{p0 p1 p2 r}(h:K183 p0 p1 p2 r Ci):K183 p0 p1 p2 r Ct:=⟨h,⟨⟨tv,dE _⟩,⟨tv,tv,tv,⟨tv,dR24Pat _⟩,tv,tv,⟨tv,dT _⟩,tv⟩,⟨tv,tv,⟨tv,dT _⟩,tv⟩,tv⟩,forall_nil,⟨tv,dI _,dT _,tv⟩,forall_nil⟩
theorem a118_118Lex_183:∀qq:Nat,(∀p0 p1 p2 r,e118 qq p0 p1 p2=some r->K118 p0 p1 p2 r Ct)∧(∀p0 p1 p2 v8 vb1_1 vb1_2 r,e118Lex qq p0 p1 p2 v8 vb1_1 vb1_2=some r->(∀j,Dl Tryz.prog 0 (inn (inn (rgt (lft (rgt (rgt (bod Tryz.f118))))))) (g118LexE0 j p0 p1 p2 v8 vb1_1 vb1_2) (g118LexS0 p0 p1 p2 v8 vb1_1 vb1_2) (frameQ Tryz.prog 0 (FinQ Tryz.prog 0 Tryz.f118 (r24MatchA r) [] 0) [.blk 0,.seq (rgt (rgt (rgt (bod Tryz.f118))))])))∧(∀p0 p1 p2 r,e183 qq p0 p1 p2=some r->K183 p0 p1 p2 r Ct):=by
 intro qq
 induction qq with
 |zero=>
  exact⟨fun _ _ _ _ h=>nn h,fun _ _ _ _ _ _ _ h=>nn h,fun _ _ _ _ h=>nn h⟩
 |succ qq ih=>
  obtain⟨ih118,ih118Lex,ih183⟩:=ih
  refine⟨?_,?_,?_⟩
  intro p0 p1 p2 r h
  rw[e118]at h
  exact k118 (tH q118 1 [(some 1,1,1),(some 1,2,3)] [0,1] [0,1] [0,1,2,6,7,8] (oD (dT p2)<|oD (dR24Pat p1)<|oD (dE p0)<|oD (dT ([]:List Tm))<|oD (dI ([]:List Int))<|oD (dT ([]:List Tm))<|oD (dI ([]:List Int)) o0) (ih118Lex _ _ _ _ _ _ _ h))
  intro p0 p1 p2 v8 vb1_1 vb1_2 r h
  rw[e118Lex]at h
  rcases spl h with⟨h1,h⟩|⟨h1,h⟩
  obtain⟨x2,h3,h⟩:=obind h
  obtain⟨x4,h5,h⟩:=obind h
  obtain⟨r6,h7,h⟩:=obind h
  have k:=oC 1 [] (ih183 _ _ _ _ h7)<|oA 1 (ix23 (o:=.no) h5)<|oA 0 (ix97 (o:=.no) h3)<|oB 1 h1 o0
  rcases spl h with⟨h8,h⟩|⟨h8,h⟩
  obtain rfl:=sj h
  exact fun j=>lF 2 [] (oD (dT ([]:List Tm))<|oD (dI ([]:List Int))<|oB 2 h8 k)
  obtain⟨l9,h10,h⟩:=obind h
  have k:=oB 2 h8 k
  by_cases h11:List.length r6.vars_=0
  obtain⟨l12,h13,h⟩:=obind h
  have k:=oP 2 (apN41 h10 h11) k
  by_cases h14:List.length r6.terms_=0
  exact fun j=>lH 2 [] [0,1] [0,1] [0,1,2,6,7,8] (oD (dT p2)<|oD (dR24Pat p1)<|oD (dE p0)<|oD (dT l12)<|oD (dI l9)<|oD (dT ([]:List Tm))<|oD (dI ([]:List Int))<|oP 3 (apN23 h13 h14) k) (ih118Lex _ _ _ _ _ _ _ h)
  exact fun j=>lH 2 [] [0,1] [0,2] [0,1,2,6,7,8] (oD (dT p2)<|oD (dR24Pat p1)<|oD (dE p0)<|oD (dT l12)<|oD (dI l9)<|oD (dT ([]:List Tm))<|oD (dI ([]:List Int))<|oP 3 (apS23 h13 h14) k) (ih118Lex _ _ _ _ _ _ _ h)
  obtain⟨l12,h13,h⟩:=obind h
  have k:=oP 2 (apS41 h10 h11) k
  by_cases h14:List.length r6.terms_=0
  exact fun j=>lH 2 [] [0,1] [2,1] [0,1,2,6,7,8] (oD (dT p2)<|oD (dR24Pat p1)<|oD (dE p0)<|oD (dT l12)<|oD (dI l9)<|oD (dT ([]:List Tm))<|oD (dI ([]:List Int))<|oP 3 (apN23 h13 h14) k) (ih118Lex _ _ _ _ _ _ _ h)
  exact fun j=>lH 2 [] [0,1] [2,3] [0,1,2,6,7,8] (oD (dT p2)<|oD (dR24Pat p1)<|oD (dE p0)<|oD (dT l12)<|oD (dI l9)<|oD (dT ([]:List Tm))<|oD (dI ([]:List Int))<|oP 3 (apS23 h13 h14) k) (ih118Lex _ _ _ _ _ _ _ h)
  obtain rfl:=sj h
  exact fun j=>lF 2 [] (oD (dT vb1_2)<|oD (dI vb1_1)<|oB 1 h1 o0)
  intro p0 p1 p2 r h
  rw[e183]at h
  rcases spl h with⟨h1,h⟩|⟨h1,h⟩
  obtain rfl:=sj h
  exact k183 (tF q183 1 [] (oD (dT [p2])<|oD (dI [p1.n_])<|oS 3 (obLitR tm_eq [p2])<|oB 1 h1 o0))
  have k:=oB 1 h1 o0
  rcases spl h with⟨h2,h⟩|⟨h2,h⟩
  obtain rfl:=sj h
  exact k183 (tF q183 1 [] (oD (dT ([]:List Tm))<|oD (dI ([]:List Int))<|oB 0 h2 k))
  have k:=oB 0 h2 k
  rcases spl h with⟨h3,h⟩|⟨h3,h⟩
  obtain rfl:=sj h
  exact k183 (tF q183 1 [] (oD (dT ([]:List Tm))<|oD (dI ([]:List Int))<|oB 0 h3 k))
  obtain⟨r4,h5,h⟩:=obind h
  obtain⟨r6,h7,h⟩:=obind h
  have k:=oC 2 [] (c78 h7)<|oC 1 [] (c76 h5)<|oB 0 h3 k
  rcases spl h with⟨h8,h⟩|⟨h8,h⟩
  obtain rfl:=sj h
  exact k183 (tF q183 1 [] (oD (dT ([]:List Tm))<|oD (dI ([]:List Int))<|oB 1 h8 k))
  obtain⟨r9,h10,h⟩:=obind h
  have k:=oC 1 [] (c240 h10)<|oB 1 h8 k
  rcases spl h with⟨h11,h⟩|⟨h11,h⟩
  obtain rfl:=sj h
  exact k183 (tF q183 1 [] (oD (dT ([]:List Tm))<|oD (dI ([]:List Int))<|oB 0 h11 k))
  obtain⟨x12,h13,h⟩:=obind h
  have k:=oC 2 [] (c240 h10)<|oA 2 (ix22 (o:=.no) h13)<|oB 0 h11 k
  rcases spl h with⟨h14,h⟩|⟨h14,h⟩
  obtain rfl:=sj h
  exact k183 (tF q183 1 [] (oD (dT ([]:List Tm))<|oD (dI ([]:List Int))<|oB 1 h14 k))
  have k:=oB 1 h14 k
  rcases spl h with⟨h15,h⟩|⟨h15,h⟩
  obtain rfl:=sj h
  exact k183 (tF q183 1 [] (oD (dT ([]:List Tm))<|oD (dI ([]:List Int))<|oB 2 h15 k))
  obtain⟨x16,h17,h⟩:=obind h
  obtain⟨r18,h19,h⟩:=obind h
  obtain rfl:=sj h
  exact k183 (tF q183 1 [] (oD (dT r18.terms_)<|oD (dI r18.vars_)<|oC 0 [] (ih118 _ _ _ _ h19)<|oF 1 (slFromO23 (o:=(.st 0 3)) h17)<|oA 2 (ix22 (o:=.no) h13)<|oB 2 h15 k))
theorem c118{qq p0 p1 p2 r}(h:e118 qq p0 p1 p2=some r):K118 p0 p1 p2 r Ct:=(a118_118Lex_183 _).1 _ _ _ _ h
def e53Ley:Nat->(List Ent)->(List (List R24Pat))->(List Tm)->Int->Option (Int×List Tm)
 |0,_,_,_,_=>none
 |qq+1,p0,p1,p2,v8=>
 if decide (v8<(List.length p1:Int))then
 gidx p1 v8>>=fun x2=>
 e118 qq p0 x2 p2>>=fun r4=>
 if r4.how_==1 then
 some (v8,r4.terms_)
 else
 if r4.how_==3 then
 some ((-1),[])
 else
 e53Ley qq p0 p1 p2 (w64 (v8+1))
 else
 some ((-1),[])
def e53(qq:Nat)(p0:List Ent)(p1:List (List R24Pat))(p2:List Tm):Option (Int×List Tm):=
 e53Ley qq p0 p1 p2 0
def g53LeyE0(j:Nat->Value)(p0:List Ent)(p1:List (List R24Pat))(p2:List Tm)(v8:Int):=sp j 32 0 [(0,slv entL p0 .no),(1,slv (slC r24PatC) p1 .no),(2,slv tmCells p2 .no),(8,ai v8)]
def g53LeyS0(p0:List Ent)(p1:List (List R24Pat))(p2:List Tm)(v8:Int):LSt:=⟨[],0,[],0,[]⟩
abbrev K53 (p0:List Ent) (p1:List (List R24Pat)) (p2:List Tm) (r:Int×List Tm) (C:Cf):Prop:=C 53 [] [slv entL p0 .no,slv (slC r24PatC) p1 .no,slv tmCells p2 .no] (.tup [ai r.1,.sl (flat tmCells r.2) (List.length r.2) .no]) [] 0
theorem q53:Qf 53 Tryz.f53:=⟨Tryz.func53,by kernel_rfl⟩
theorem k53{p0 p1 p2 r}(h:K53 p0 p1 p2 r Ci):K53 p0 p1 p2 r Ct:=⟨h,⟨⟨tv,dE _⟩,⟨tv,(dSl codecR24Pat) _⟩,⟨tv,dT _⟩,tv⟩,forall_nil,⟨tv,dT _,tv⟩,forall_nil⟩
theorem l53Ley:∀qq:Nat,(∀p0 p1 p2 v8 r,e53Ley qq p0 p1 p2 v8=some r->(∀j,Dl Tryz.prog 0 (inn (inn (rgt (lft (rgt (bod Tryz.f53)))))) (g53LeyE0 j p0 p1 p2 v8) (g53LeyS0 p0 p1 p2 v8) (frameQ Tryz.prog 0 (FinQ Tryz.prog 0 Tryz.f53 (.tup [ai r.1,.sl (flat tmCells r.2) (List.length r.2) .no]) [] 0) [.blk 0,.seq (rgt (rgt (bod Tryz.f53)))]))):=by
 intro qq
 induction qq with
 |zero=>
  exact fun _ _ _ _ _ h=>nn h
 |succ qq ih=>
  intro p0 p1 p2 v8 r h
  rw[e53Ley]at h
  rcases spl h with⟨h1,h⟩|⟨h1,h⟩
  obtain⟨x2,h3,h⟩:=obind h
  obtain⟨r4,h5,h⟩:=obind h
  have k:=oC 1 [] (c118 h5)<|oA 0 (ix96 (o:=.no) h3)<|oB 1 h1 o0
  rcases spl h with⟨h6,h⟩|⟨h6,h⟩
  obtain rfl:=sj h
  exact fun j=>lF 1 [] (oD (dT r4.terms_)<|oB 2 h6 k)
  have k:=oB 2 h6 k
  rcases spl h with⟨h7,h⟩|⟨h7,h⟩
  obtain rfl:=sj h
  exact fun j=>lF 0 [] (oD (dT ([]:List Tm))<|oB 1 h7 k)
  exact fun j=>lH 1 [] [] [] [0,1,2,8] (oD (dT p2)<|oD ((dSl codecR24Pat) p1)<|oD (dE p0)<|oB 1 h7 k) (ih _ _ _ _ _ h)
  obtain rfl:=sj h
  exact fun j=>lF 0 [] (oD (dT ([]:List Tm))<|oB 1 h1 o0)
theorem c53{qq p0 p1 p2 r}(h:e53 qq p0 p1 p2=some r):K53 p0 p1 p2 r Ct:=by
 unfold e53 at h
 exact k53 (tH q53 0 [] [] [] [0,1,2,8] (oD (dT p2)<|oD ((dSl codecR24Pat) p1)<|oD (dE p0) o0) (l53Ley _ _ _ _ _ _ h))
def AskM(m:Option (List Tm))(r:R24Match):Prop:=(∃bs,m=some bs∧r.how_=1∧r.terms_=bs∧(r.vars_.length≤bs.length))∨(m=none∧r.how_=2)
section
variable {N:ByteArray->Bool} (l:List Ent) (hE:AllE N l)
def OA(p:PatternPat):Prop:=∀(n:Nat) (t:Tm),VT l n t->shapedT t=true->ndP p≤1000000->Tot (fun q=>e183 q l (cvP p) t) (AskM (mP l p t))
theorem ask_rowL(ps:List PatternPat)(ts:List Tm)(hlen:ps.length=ts.length)(hts:Shs ts)(n:Nat)(hv:∀x∈ts,VT l n x)(hnd:ndPs ps≤1000000):∀(r:List PatternPat) (v:Nat) (vs:List Int) (b:List Tm),ps.drop v=r->(∀p∈r,OA l p)->b.length+ndPs r≤1000000->vs.length≤b.length ->
  Tot (fun q=>e118Lex q l (cvPs ps) ts (v:Int) vs b) (AskM ((mPs l r (ts.drop v)).map (b ++ ·))):=by
 intro r
 induction r with
 |nil=>
  intro v vs b hd hp hbl hvs
  refine Tot.succ ?_
  simp only[e118Lex,cvPs_len]
  refine Tot.ite (fun h=>?_) fun _=>Tot.ret (.inl ⟨b,by rw[mPs];simp,rfl,rfl,hvs⟩)
  rw[drop_nil hd]at h;cases h
 |cons p r ih=>
  intro v vs b hd hp hbl hvs
  have hlt:=drop_lt hd
  have hpl:=ndPs_len ps
  rw[ndPs]at hbl
  have hva:v<ts.length:=by omega
  have hown:ts.drop v=ts[v]::ts.drop (v+1):=List.drop_eq_getElem_cons hva
  have hm:=List.getElem_mem hva
  rw[hown]
  have hyidx:gidx ts (v:Int)=some ts[v]:=gidx_nat hva
  generalize ts[v]=y at hm hyidx ⊢
  refine Tot.succ ?_
  simp only[e118Lex,rp_eta,cvPs_len]
  refine Tot.ite (fun _=>Tot.pure (drop_idx (cvPs_drop hd)) (Tot.pure hyidx ((hp p (by simp) n y (hv _ hm) (hts _ hm) (by omega)).bind fun o ho=>?_))) fun h=>?_
  ·rcases ho with⟨bs,h1,h2,h3,h4⟩|⟨h1,h2⟩
   ·have hbsl:=mP_len p y bs h1
    rw[h3]
    refine Tot.ite (fun h=>?_) fun _=>Tot.pure (gapp_ok (by omega)) (Tot.pure (gapp_ok (by omega)) ?_)
    ·rw[h2]at h;cases h
    ·rw[w64_nat v (by omega)]
     refine(ih (v+1) _ (b++bs) (drop_next hd) (fun p h=>hp p (by simp[h])) (by simp;omega) (by simp;omega)).mono fun o h=>?_
     cases hq:mPs l r (ts.drop (v+1))with
     |none=>rw[hq]at h;rw[mPs_no2 h1 hq];exact h
     |some b2=>rw[hq]at h;rw[mPs_yes h1 hq];simpa using h
   ·refine Tot.ite (fun h=>Tot.ret (.inr ⟨by rw[mPs_no h1];rfl,h2⟩)) fun h=>?_
    rw[h2]at h;cases h
  ·have:=of_decide_eq_false h;omega
theorem ask_row(ps:List PatternPat)(hp:∀p∈ps,OA l p)(ts:List Tm)(hlen:ps.length=ts.length)(hts:Shs ts)(n:Nat)(hv:∀x∈ts,VT l n x)(hnd:ndPs ps≤1000000) :
  Tot (fun q=>e118 q l (cvPs ps) ts) (AskM (mPs l ps ts)):=by
 refine Tot.succ ?_
 simp only[e118]
 refine(ask_rowL l ps ts hlen hts n hv hnd ps 0 [] [] rfl hp (by simpa using hnd) (Nat.le_refl _)).mono fun o h=>?_
 have e:(mPs l ps (ts.drop 0)).map ([] ++ ·)=mPs l ps ts:=by simp
 rw[e]at h
 exact h
include hE
theorem ask_pat:∀(m:Nat) (p:PatternPat),ndP p≤m->GP l p->OA l p:=by
 intro m
 induction m with
 |zero=>intro p hn;rw[ndP_sub]at hn;omega
 |succ m ih=>
  intro p hn hg n t hv ht hbl
  obtain⟨pk,pn,pa,ps,pt⟩:=p
  rw[GP]at hg
  rw[ndP]at hn hbl
  rw[mP,cvP]
  have hps:∀s∈ps,OA l s:=fun s hs=>ih s (by have:=ndPs_mem hs;omega) (GPs_at hg.2 s hs)
  refine Tot.succ ?_
  simp only[e183,R24Pat.kind_,R24Pat.n_,R24Pat.sub_]
  refine Tot.ite (fun h=>?_) fun h=>?_
  ·have h1:pk=1:=by simpa using h
   exact Tot.ret (.inl ⟨[t],by rw[if_pos h1],rfl,rfl,by simp⟩)
  have h1:pk≠1:=by simpa using h
  rw[if_neg h1]
  refine Tot.ite (fun h=>?_) fun h=>?_
  ·have h3:pk=3:=by simpa using h
   exact Tot.ret (.inl ⟨[],by rw[if_pos h3],rfl,rfl,by simp⟩)
  have h3:pk≠3:=by simpa using h
  rw[if_neg h3]
  refine Tot.ite (fun h=>?_) fun h=>?_
  ·have h4:pk=4:=by simpa using h
   exact Tot.ret (.inr ⟨by rw[if_pos h4],rfl⟩)
  have h4:pk≠4:=by simpa using h
  rw[if_neg h4]
  obtain⟨-,hari⟩:=hg.1 h1 h3 h4
  cases n with
  |zero=>exact hv.elim
  |succ n=>
  obtain⟨hc,hv⟩:=hv
  obtain⟨j,hj,q1,q2,q3⟩:=con_parsL hE ht hc
  have hs:=isCon_spec ht hc
  have hk:=kindT_spec hc.1 (by decide)
  have hal:=ar_leL ht
  have har:ariT l (hdT t).n=pisT (ent l (hdT t).n).type-(ent l (hdT t).n).pars:=by unfold ariT;rw[if_pos ⟨hs.1,hs.2.1,hs.2.2.1⟩]
  refine Tot.bind (P:=fun h=>h=hdT t) ((ev_hd0 ht).tot rfl) ?_
  rintro r rfl
  refine Tot.bind (P:=fun h=>h=arT t) ((ev_ar0 ht).tot rfl) ?_
  rintro r rfl
  refine Tot.ite (fun h=>?_) fun _=>Tot.bind (P:=fun n=>n=ariT l (hdT t).n) ((ev_rArity hE (hdT t).n).tot rfl) ?_
  ·rw[hk.1]at h;cases h
  rintro r rfl
  refine Tot.ite (fun h=>?_) fun _=>Tot.pure (gidx_ent q2 q3) (Tot.ite (fun h=>?_) fun _=>Tot.ite (fun h=>?_) fun h=>?_)
  ·have:=of_decide_eq_true h
   rw[har,hj]at this;omega
  ·exfalso
   rw[har,hj,w64_id (by omega) (by omega)]at h
   have h:((arT t).length:Int)≠(j:Int)+((pisT (ent l (hdT t).n).type:Int)-(j:Int)):=by simpa using h
   omega
  ·have hn2:(hdT t).n≠pn:=by simpa using h
   exact Tot.ret (.inr ⟨by rw[if_pos hn2],rfl⟩)
  ·have hpn:(hdT t).n=pn:=by simpa using h
   rw[if_neg (by simpa using hpn)]
   have hlen:ps.length=((arT t).drop j).length:=by
    rw[←hpn,har,hj]at hari
    have:=hs.2.2.2
    simp;omega
   rw[hj]at hv ⊢
   simp only[Int.toNat_natCast]at hv ⊢
   refine Tot.pure (gsl_ok q1 (Nat.le_refl _)) ?_
   rw[show ((arT t).drop j).take ((arT t).length-j)=(arT t).drop j from List.take_of_length_le (by simp)]
   exact(ask_row l ps hps ((arT t).drop j) hlen (fun x hx=>ar_shaped ht (List.mem_of_mem_drop hx)) n hv (by omega)).bind fun o ho=>Tot.ret ho
omit hE
def frst(l:List Ent)(as0:List Tm):List ClauseClause->Nat->Option (Nat×ClauseClause×List Tm)
 | [],_=>none
 |c::cs,i=>match mPs l c.pats_ as0 with
  |some b=>some (i,c,b)
  |none=>frst l as0 cs (i+1)
theorem frst_yes{as0:List Tm}{c:ClauseClause}{cs:List ClauseClause}{i:Nat}{b:List Tm}(h:mPs l c.pats_ as0=some b):frst l as0 (c::cs) i=some (i,c,b):=by rw[frst,h]
theorem frst_no{as0:List Tm}{c:ClauseClause}{cs:List ClauseClause}{i:Nat}(h:mPs l c.pats_ as0=none):frst l as0 (c::cs) i=frst l as0 cs (i+1):=by rw[frst,h]
def FM(m:Option (Nat×ClauseClause×List Tm))(r:Int×List Tm):Prop:=(∃i c b,m=some (i,c,b)∧r=((i:Int),b))∨(m=none∧r=(-1,[]))
include hE
theorem tot_First(cs:List ClauseClause)(hcs:cs.length≤300)(hg:∀c∈cs,(∀p∈c.pats_,GP l p)∧ndPs c.pats_≤300)(as0:List Tm)(hs:Shs as0)(n:Nat)(hv:∀x∈as0,VT l n x)(hlen:∀c∈cs,c.pats_.length=as0.length):∀(r:List ClauseClause) (v:Nat),cs.drop v=r ->
  Tot (fun q=>e53Ley q l ((cs.map cvC).map (·.pats_)) as0 (v:Int)) (FM (frst l as0 r v)):=by
 intro r
 induction r with
 |nil=>
  intro v hd
  refine Tot.succ ?_
  simp only[e53Ley,List.length_map]
  refine Tot.ite (fun h=>?_) fun _=>Tot.ret (.inr ⟨rfl,rfl⟩)
  rw[drop_nil hd]at h;cases h
 |cons c r ih=>
  intro v hd
  have hlt:=drop_lt hd
  have hm:c∈cs:=List.mem_of_mem_drop (i:=v) (by rw[hd];simp)
  have hd':((cs.map cvC).map (·.pats_)).drop v=cvPs c.pats_::(r.map cvC).map (·.pats_):=by rw[←List.map_drop,←List.map_drop,hd];rfl
  have hgc:=hg c hm
  refine Tot.succ ?_
  simp only[e53Ley,List.length_map]
  refine Tot.ite (fun _=>Tot.pure (drop_idx hd') ((ask_row l c.pats_ (fun p hp=>ask_pat l hE _ p (Nat.le_refl _) (hgc.1 p hp)) as0 (hlen c hm) hs n hv (by omega)).bind fun o ho=>?_)) fun h=>?_
  ·rcases ho with⟨bs,h1,h2,h3,h4⟩|⟨h1,h2⟩
   ·refine Tot.ite (fun h=>Tot.ret (.inl ⟨v,c,bs,frst_yes l h1,by rw[h3]⟩)) fun h=>?_
    rw[h2]at h;exact absurd h (by decide)
   ·refine Tot.ite (fun h=>?_) fun _=>Tot.ite (fun h=>?_) fun _=>?_
    ·rw[h2]at h;cases h
    ·rw[h2]at h;cases h
    ·rw[w64_nat v (by omega)]
     rw[frst_no l h1]
     exact ih (v+1) (drop_next hd)
  ·rw[drop_dec hd]at h;cases h
end
mutual
theorem PG_GP{l:List Ent}:∀ {p:PatternPat},PG l p->GP l p
 | .mk k n a sub t,h=>by
  rw[PG]at h
  rw[GP]
  rcases h with⟨h1,h2,-,h3⟩|⟨h1,h2,-⟩
  ·exact⟨fun _ _ _=>⟨h1,h2⟩,PGs_GPs h3⟩
  ·subst h1
   refine⟨fun a b c=>?_,GPs_nil l⟩
   omega
theorem PGs_GPs{l:List Ent}:∀ {ps:List PatternPat},PGs l ps->GPs l ps
 | [],_=>GPs_nil l
 |p::ps,h=>by
  rw[PGs]at h
  rw[GPs]
  exact⟨PG_GP h.1,PGs_GPs h.2⟩
end
theorem tot_revS(q0:List Tm)(hq:q0.length≤1000000):∀(m i:Nat) (j:Int) (vb:List Tm),j-i≤m->-1≤j->j<q0.length->i≤q0.length->vb.length=q0.length->Shs vb->Tot (fun q=>e231vacoLcp q q0 (i:Int) j vb) fun r=>r.length=q0.length∧Shs r:=by
 intro m
 induction m with
 |zero=>
  intro i j vb hm h0 h1 h2 hl ho
  refine Tot.succ ?_
  simp only[e231vacoLcp]
  refine Tot.ite (fun h=>?_) fun _=>Tot.ret ⟨hl,ho⟩
  have:=of_decide_eq_true h;omega
 |succ m ih=>
  intro i j vb hm h0 h1 h2 hl ho
  refine Tot.succ ?_
  simp only[e231vacoLcp]
  refine Tot.ite (fun h=>?_) fun _=>Tot.ret ⟨hl,ho⟩
  have h':=of_decide_eq_true h
  obtain⟨k,rfl⟩:∃k:Nat,j=(k:Int):=⟨j.toNat,by omega⟩
  refine Tot.pure (gchk_ok (by omega)) (Tot.pure (gidx_nat (by omega)) (Tot.pure (gchk_ok (by omega)) (Tot.pure (gidx_nat (by omega)) (Tot.pure (gset_ok _ (by omega)) (Tot.pure (gset_ok _ (by simp;omega)) ?_)))))
  rw[w64_nat i (by omega),w64_id (x:=(k:Int)-1) (by omega) (by omega)]
  exact ih (i+1) ((k:Int)-1) _ (by omega) (by omega) (by omega) (by omega) (by simp[hl]) (shs_set (shs_set ho _ (ho _ (List.getElem_mem _))) _ (ho _ (List.getElem_mem _)))
theorem tot_backS(ls:List Tm)(h:ls.length≤1000000)(ho:Shs ls):Tot (fun q=>e188 q ls) fun r=>match r with | .inl _=>False | .inr (.inl _)=>True | .inr (.inr y)=>y.length=ls.length∧Shs y:=by
 simp only[e188]
 by_cases hl:ls=[]
 ·subst hl
  refine Tot.bind (P:=fun r=>r = .inl ()) (((ev_vr [] h).eq (if_pos rfl)).tot rfl) ?_
  rintro r rfl
  refine Tot.bind (P:=fun _=>True) ⟨(),Evt.mk fun _=>rfl,trivial⟩ fun _ _=>Tot.ret trivial
 ·refine Tot.bind (P:=fun r=>r = .inr ls) (((ev_vr ls h).eq (if_neg hl)).tot rfl) ?_
  rintro r rfl
  have hpos:=List.length_pos_iff.2 hl
  refine Tot.bind (P:=fun r=>r.length=ls.length∧Shs r) ?_ fun r hr=>Tot.pure (a:=r) (by unfold gfz;rw[if_pos hr.1]) (Tot.ret hr)
  simp only[e231vaco]
  rw[w64_id (x:=(ls.length:Int)-1) (by omega) (by omega)]
  exact tot_revS ls h ls.length 0 _ ls (by omega) (by omega) (by omega) (by omega) rfl ho
theorem subT_err{t:Tm}{ls:List Tm}(ht:shapedT t=true)(h:Shs ls):(subT t ls).2=0∨(subT t ls).2=2:=by
 unfold subT
 rw[if_pos ⟨ht,List.all_eq_true.2 h⟩]
 split
 ·exact .inr rfl
 ·split
  ·exact .inl rfl
  ·exact .inr rfl
theorem tot_FillS(t:Tm)(ls:List Tm)(ht:shapedT t=true)(h:ls.length≤1000000)(hs:Shs ls):Tot (fun q=>e122 q t ls) fun r=>r.1.Ok∧(r.2=0∨r.2=2):=by
 have hto:=shaped_ok ht
 simp only[e122]
 refine(tot_backS ls h hs).bind fun r hr=>?_
 match r,hr with
 | .inl y,hr=>exact hr.elim
 | .inr (.inl y),_=>exact Tot.bind (P:=fun r=>r.1.Ok∧(r.2=0∨r.2=2)) ((ev_Many t [] hto (fun _ h=>nomatch h) (by simp)).tot ⟨subT_ok t [] hto fun _ h=>(nomatch h),subT_err ht fun _ h=>nomatch h⟩) fun r hr=>Tot.ret hr
 | .inr (.inr y),hr=>
  have h1:y.length=ls.length:=hr.1
  have h2:Shs y:=hr.2
  exact Tot.bind (P:=fun r=>r.1.Ok∧(r.2=0∨r.2=2)) ((ev_Many t y hto (fun x hx=>shaped_ok (h2 x hx)) (by omega)).tot ⟨subT_ok t y hto (fun x hx=>shaped_ok (h2 x hx)),subT_err ht h2⟩) fun r hr=>Tot.ret hr
theorem copT_id{t:Tm}(h:shapedT t=true):copT t=t:=by unfold copT;rw[if_pos h]
def rowR:R54->Int
 | .inl y=>y.1.row_
 | .inr y=>y.2.1
def bdR:R54->List Tm
 | .inl y=>y.1.binds_
 | .inr y=>y.1
def okR(i:Int)(b:List Tm)(r:R54):Prop:=er54 r=0∧rowR r=i∧bdR r=b
theorem val_cp(M:Mach)(row:Int)(bs:List Tm)(ho:Shs bs)(hl:bs.length≤1000000)(t:Tm)(L U:Int):∀(r:List Tm) (v:Nat) (acc:List Tm),bs.drop v=r->acc=bs.take v ->
  Tot (fun q=>e54Ldg q M row bs (bs.length:Int) L U t.k t.n t.sub (v:Int) acc) (okR row bs):=by
 intro r
 induction r with
 |nil=>
  intro v acc hd ha
  have hv:bs.length≤v:=List.drop_eq_nil_iff.1 hd
  refine Tot.succ ?_
  simp only[e54Ldg]
  refine Tot.ite (fun h=>?_) fun _=>Tot.pure (a:=acc) (by simp[gfz]) (Tot.ret ⟨rfl,rfl,?_⟩)
  ·rw[drop_nil hd]at h;cases h
  ·show acc=bs
   rw[ha,List.take_of_length_le hv]
 |cons x r ih=>
  intro v acc hd ha
  have hlt:=drop_lt hd
  have hx:=ho x (List.mem_of_mem_drop (by rw[hd];simp))
  refine Tot.succ ?_
  simp only[e54Ldg]
  refine Tot.ite (fun _=>Tot.pure (drop_idx hd) (Tot.bind (P:=fun y=>y=x) (((ev_Copy x (shaped_ok hx)).eq (copT_id hx)).tot rfl) ?_)) fun h=>?_
  ·rintro y rfl
   refine Tot.pure (gapp_ok (by rw[ha];simp;omega)) ?_
   rw[w64_nat v (by omega)]
   exact ih (v+1) _ (drop_next hd) (by rw[ha,take_drop_next hd])
  ·rw[drop_dec hd]at h;cases h
theorem val_cp1(M:Mach)(row:Int)(bs:List Tm)(ho:Shs bs)(hl:bs.length≤1000000)(t:Tm)(L U:Int) :
  Tot (fun q=>e54Ldh q M row bs (bs.length:Int) 0 L U t.k t.n t.sub) (okR row bs):=by
 simp only[e54Ldh]
 refine Tot.ite (fun h=>?_) fun h=>Tot.ret ⟨rfl,rfl,?_⟩
 ·have hlt:0<bs.length:=by have:=of_decide_eq_true h;omega
  have hd:bs.drop 0=bs[0]::bs.drop 1:=List.drop_eq_getElem_cons hlt
  have hx:=ho _ (List.getElem_mem hlt)
  refine Tot.pure (drop_idx hd) (Tot.bind (P:=fun y=>y=bs[0]) (((ev_Copy _ (shaped_ok hx)).eq (copT_id hx)).tot rfl) ?_)
  rintro y rfl
  refine Tot.pure (gapp_ok (by simp)) ?_
  refine val_cp M row bs ho hl t L U (bs.drop 1) 1 _ rfl ?_
  have:=take_drop_next hd
  simpa using this.symm
 ·have:=of_decide_eq_false h
  show []=bs
  exact(List.length_eq_zero_iff.1 (by omega)).symm
def AQ(m:Option (Nat×ClauseClause×List Tm))(r:R54):Prop:=
 (m=none∧er54 r=16)∨∃i c b,m=some (i,c,b)∧((c.has_=false∧er54 r=13)∨(c.has_=true∧(er54 r=2∨okR (i:Int) b r)))
section
variable {N:ByteArray->Bool} (l:List Ent) (hE:AllE N l)
theorem val_fin(c:ClauseClause)(hb:c.has_=true->shapedT c.body_=true)(i:Nat)(bs:List Tm)(ho:Shs bs)(hl:bs.length≤1000000)(L U:Int)(h:c.has_=true) :
  Tot (fun q=>e122 q c.body_ bs>>=fun r18=>if (r18.2 != 0)=true then some (Sum.inl (ClauseDone.mk 0 [] (Tm.mk 0 0 []),r18.2,L,U))else e54Ldh q (machT l) (i:Int) bs (bs.length:Int) 0 L U r18.1.k r18.1.n r18.1.sub) (AQ (some (i,c,bs))):=by
 refine(tot_FillS c.body_ bs (hb h) hl ho).bind fun r hr=>Tot.ite (fun h0=>Tot.ret (.inr ⟨i,c,bs,rfl,.inr ⟨h,.inl ?_⟩⟩)) fun _=>(val_cp1 (machT l) i bs ho hl r.1 L U).mono fun o ho=>.inr ⟨i,c,bs,rfl,.inr ⟨h,.inr ho⟩⟩
 rcases hr.2 with h2|h2
 ·rw[h2]at h0;cases h0
 ·exact h2
include hE
theorem val_ap3(cs:List ClauseClause)(hcs:cs.length≤300)(y7:List Tm)(hs:Shs y7)(n:Nat)(hv:∀x∈y7,VT l n x)(hbs:∀(ps:List PatternPat) (b:List Tm),mPs l ps y7=some b->Shs b)(L U:Int):∀(r:List ClauseClause) (i:Nat),cs.drop i=r->MayC l r y7.length->(∀c∈r,ndPs c.pats_≤300∧(c.has_=true->shapedT c.body_=true)) ->
  Tot (fun q=>e54Ldj q (machT l) cs y7 (i:Int) L U 0 y7) (AQ (frst l y7 r i)):=by
 intro r
 induction r with
 |nil=>
  intro i hd hm ho
  refine Tot.succ ?_
  simp only[e54Ldj]
  refine Tot.ite (fun h=>?_) fun _=>Tot.ret (.inl ⟨rfl,rfl⟩)
  rw[drop_nil hd]at h;cases h
 |cons c r ih=>
  intro i hd hm ho
  have hlt:=drop_lt hd
  have hmc:=hm c (by simp)
  have hoc:=ho c (by simp)
  obtain⟨R,hR,hev⟩:=val_row l hE c.pats_ hmc.2 (by omega) y7 hmc.1 hs n hv
  refine Tot.succ ?_
  simp only[e54Ldj]
  refine Tot.ite (fun _=>Tot.pure (drop_idx hd) (Tot.bind (P:=fun o=>o=R L U) ((hev L U).tot rfl) ?_)) fun h=>?_
  ·rintro o rfl
   rcases hR with⟨h1,rfl⟩|⟨h1,rfl⟩|⟨b,c',h1,rfl⟩
   ·rw[frst_yes l h1]
    dsimp only
    refine Tot.ite (fun h=>nomatch h) fun _=>Tot.ite (fun h=>nomatch h) fun _=>Tot.ite (fun h=>nomatch h) fun _=>Tot.ite (fun h=>?_) fun h=>Tot.ret (.inr ⟨i,c,[],rfl,.inl ⟨by simpa using h,rfl⟩⟩)
    exact val_fin l c hoc.2 i [] (fun _ h=>nomatch h) (by simp) L U h
   ·rw[frst_no l h1]
    dsimp only
    refine Tot.ite (fun h=>nomatch h) fun _=>Tot.ite (fun h=>?_) fun h=>absurd h (by decide)
    rw[w64_nat i (by omega)]
    exact ih (i+1) (drop_next hd) (fun c h=>hm c (by simp[h])) (fun c h=>ho c (by simp[h]))
   ·rw[frst_yes l h1]
    dsimp only
    have hbl:=mPs_len c.pats_ y7 b h1
    refine Tot.ite (fun h=>nomatch h) fun _=>Tot.ite (fun h=>nomatch h) fun _=>Tot.ite (fun h=>nomatch h) fun _=>Tot.ite (fun h=>?_) fun h=>Tot.ret (.inr ⟨i,c,b,rfl,.inl ⟨by simpa using h,rfl⟩⟩)
    exact val_fin l c hoc.2 i b (hbs _ b h1) (by omega) L U h
  ·rw[drop_dec hd]at h;cases h
omit hE
theorem val_ap2(cs:List ClauseClause)(L U:Int):∀(r:List ClauseClause) (i:Nat),cs.drop i=r->MayC l r 0->(∀c∈r,ndPs c.pats_≤300∧(c.has_=true->shapedT c.body_=true)) ->
  Tot (fun q=>e54Ldi q (machT l) cs L U (i:Int)) (AQ (frst l [] r i)):=by
 intro r i hd hm ho
 cases r with
 |nil=>
  refine Tot.succ ?_
  simp only[e54Ldi]
  refine Tot.ite (fun h=>?_) fun _=>Tot.ret (.inl ⟨rfl,rfl⟩)
  rw[drop_nil hd]at h;cases h
 |cons c r=>
  have hmc:=hm c (by simp)
  have hoc:=ho c (by simp)
  have hp:c.pats_=[]:=List.length_eq_zero_iff.1 hmc.1
  rw[frst_yes l (b:=[]) (by rw[hp,mPs])]
  refine Tot.succ ?_
  simp only[e54Ldi]
  refine Tot.ite (fun _=>Tot.pure (drop_idx hd) (Tot.bind (P:=fun o=>o=(0,[])) (Evt.tot ?_ rfl) ?_)) fun h=>?_
  ·rw[hp]
   simp only[e121vadb,e121vadbLdc]
   exact Evt.ifF rfl Evt.ret
  ·rintro o rfl
   dsimp only
   refine Tot.ite (fun h=>nomatch h) fun _=>Tot.ite (fun h=>nomatch h) fun _=>Tot.ite (fun h=>?_) fun h=>Tot.ret (.inr ⟨i,c,[],rfl,.inl ⟨by simpa using h,rfl⟩⟩)
   exact val_fin l c hoc.2 i [] (fun _ h=>nomatch h) (by simp) L U h
  ·rw[drop_dec hd]at h;cases h
theorem mP_shaped:(∀(p:PatternPat) (t:Tm) (b:List Tm),shapedT t=true->mP l p t=some b->Shs b):=by
 have key:∀(m:Nat),(∀(p:PatternPat) (t:Tm) (b:List Tm),ndP p≤m->shapedT t=true->mP l p t=some b->Shs b)∧(∀(ps:List PatternPat) (ts:List Tm) (b:List Tm),ndPs ps≤m->Shs ts->mPs l ps ts=some b->Shs b):=by
  intro m
  induction m with
  |zero=>
   refine⟨fun p t b h=>?_,fun ps ts b h hs hb=>?_⟩
   ·rw[ndP_sub]at h;omega
   ·cases ps with
    |nil=>rw[mPs]at hb;cases hb;exact fun _ h=>nomatch h
    |cons p ps=>rw[ndPs,ndP_sub]at h;omega
  |succ m ih=>
   have hp1:∀(p:PatternPat) (t:Tm) (b:List Tm),ndP p≤m+1->shapedT t=true->mP l p t=some b->Shs b:=by
    intro p t b h ht hb
    obtain⟨k,n,a,sub,u⟩:=p
    rw[ndP]at h
    rw[mP]at hb
    split at hb
    ·cases hb;exact fun x hx=>by rw[List.mem_singleton.1 hx];exact ht
    split at hb
    ·cases hb;exact fun _ h=>nomatch h
    split at hb
    ·cases hb
    split at hb
    ·cases hb
    exact ih.2 sub _ b (by omega) (fun x hx=>ar_shaped ht (List.mem_of_mem_drop hx)) hb
   refine⟨hp1,fun ps=>?_⟩
   induction ps with
   |nil=>intro ts b h hs hb;rw[mPs]at hb;cases hb;exact fun _ h=>nomatch h
   |cons p ps ihp=>
    intro ts b h hs hb
    rw[ndPs]at h
    cases ts with
    |nil=>rw[mPs]at hb;cases hb;exact fun _ h=>nomatch h
    |cons t ts=>
     rw[mPs]at hb
     split at hb
     ·cases hb
     rename_i a ha
     split at hb
     ·cases hb
     rename_i b2 hb2
     cases hb
     have h1:=hp1 p t a (by omega) (hs t (by simp)) ha
     have h2:=ihp ts b2 (by omega) (fun x hx=>hs x (by simp[hx])) hb2
     intro x hx
     rcases List.mem_append.1 hx with hx|hx
     ·exact h1 x hx
     ·exact h2 x hx
 exact fun p t b h hb=>(key (ndP p)).1 p t b (Nat.le_refl _) h hb
theorem mPs_shaped:∀(ps:List PatternPat) (ts:List Tm) (b:List Tm),Shs ts->mPs l ps ts=some b->Shs b
 | [],_,b,hs,hb=>by rw[mPs]at hb;cases hb;exact fun _ h=>nomatch h
 |p::ps,[],b,hs,hb=>by rw[mPs]at hb;cases hb;exact fun _ h=>nomatch h
 |p::ps,t::ts,b,hs,hb=>by
  rw[mPs]at hb
  split at hb
  ·cases hb
  rename_i a ha
  split at hb
  ·cases hb
  rename_i b2 hb2
  cases hb
  have h1:=mP_shaped l p t a (hs t (by simp)) ha
  have h2:=mPs_shaped ps ts b2 (fun x hx=>hs x (by simp[hx])) hb2
  intro x hx
  rcases List.mem_append.1 hx with hx|hx
  ·exact h1 x hx
  ·exact h2 x hx
include hE
theorem val_Apply(hF:Evt (fun q=>e157 q l) true)(he:∀e∈l,EOk e)(hll:l.length≤65535)(hc:∀e∈l,ECl e)(hcop:l.map copE=l)(cs:List ClauseClause)(hcs:cs.length≤300)(ho:∀c∈cs,okC c∧ndPs c.pats_≤300)(as0:List Tm)(ha:OkA as0)(hl:as0.length≤1000000)
  (hcl:∀x∈as0,closedT x l.length=true) (hR:∀c∈cs,CR l c as0.length) (n:Nat) (hv:∀x∈as0,VT l n x) (L U:Int) :
  Tot (fun q=>e54 q (machT l) cs as0 L U) (AQ (frst l as0 cs 0)):=by
 have hs:Shs as0:=fun x hx=>closed_shaped (hcl x hx)
 have hm:MayC l cs as0.length:=fun c h=>⟨(hR c h).1,fun p hp=>PG_GP ((hR c h).2.2.1 p hp).2⟩
 have hb:∀c∈cs,ndPs c.pats_≤300∧(c.has_=true->shapedT c.body_=true):=fun c h=>⟨(ho c h).2,fun hh=>rightT_sh ((hR c h).2.2.2.1 hh).1⟩
 simp only[e54]
 refine Tot.bind (P:=fun b=>b=true) ((ev_may hE hF hll he hc hcop cs hcs ho as0 ha hl hcl hR).tot rfl) fun b hb'=>Tot.ite (fun _=>?_) fun h=>by rw[hb']at h;cases h
 by_cases h0:as0=[]
 ·subst h0
  refine Tot.bind (P:=fun r=>r = .inl ()) (((ev_vr [] hl).eq (if_pos rfl)).tot rfl) ?_
  rintro r rfl
  exact val_ap2 l cs L U cs 0 rfl hm hb
 ·refine Tot.bind (P:=fun r=>r = .inr as0) (((ev_vr as0 hl).eq (if_neg h0)).tot rfl) ?_
  rintro r rfl
  exact val_ap3 l hE cs hcs as0 hs n hv (fun ps b h=>mPs_shaped l ps as0 b hs h) L U cs 0 rfl hm hb
end
def e9Lez:Nat->(List ClauseClause)->(List Tm)->(List Ent)->(List R28Clause×Bool)->Int->(List (List R24Pat))->Option (Bool)
 |0,_,_,_,_,_,_=>none
 |qq+1,p0,p1,r1,r3,v10,v9=>
 if decide (v10<(List.length r3.1:Int))then
 gidx r3.1 v10>>=fun x21=>
 gapp 24 v9 [x21.pats_]>>=fun l23=>
 e9Lez qq p0 p1 r1 r3 (w64 (v10+1)) l23
 else
 e53 qq r1 v9 p1>>=fun r25=>
 e37 qq r1>>=fun r27=>
 match r27 with
 |Sum.inl y122=>
  none
 |Sum.inr y29=>
  e45 qq 10>>=fun r30=>
  match r30 with
  |Sum.inl y77=>
   none
  |Sum.inr y32=>
   e54 qq (Mach.mk y29.2.1 y29.2.2.2.2.1 y29.2.2.2.2.2 y29.2.2.1 y29.2.2.2.1) p0 p1 y32.2.1 y32.2.2>>=fun r33=>
   match r33 with
   |Sum.inl y35=>
    if decide (r25.1<0)then
    if y35.2.1==16 then
    e52 qq>>=fun r38=>
    some r38
    else
    some false
    else
    gidx p0 r25.1>>=fun x40=>
    if x40.has_ then
    if y35.2.1 != 0 then
    if y35.2.1==2 then
    e52 qq>>=fun r45=>
    some r45
    else
    some false
    else
    if y35.1.row_==r25.1 then
    e47 qq y35.1.binds_ r25.2>>=fun r48=>
    if r48 then
    e52 qq>>=fun r51=>
    some r51
    else
    some false
    else
    some false
    else
    if y35.2.1==13 then
    e52 qq>>=fun r54=>
    some r54
    else
    some false
   |Sum.inr y56=>
    if decide (r25.1<0)then
    if y56.2.2.2.2.2.1==16 then
    e52 qq>>=fun r59=>
    some r59
    else
    some false
    else
    gidx p0 r25.1>>=fun x61=>
    if x61.has_ then
    if y56.2.2.2.2.2.1 != 0 then
    if y56.2.2.2.2.2.1==2 then
    e52 qq>>=fun r66=>
    some r66
    else
    some false
    else
    if y56.2.1==r25.1 then
    e47 qq y56.1 r25.2>>=fun r69=>
    if r69 then
    e52 qq>>=fun r72=>
    some r72
    else
    some false
    else
    some false
    else
    if y56.2.2.2.2.2.1==13 then
    e52 qq>>=fun r75=>
    some r75
    else
    some false
def e9Lfa:Nat->(List ClauseClause)->(List Tm)->(List Ent)->(List R28Clause×Bool)->Int->Option (Bool)
 |0,_,_,_,_,_=>none
 |qq+1,p0,p1,r1,r3,v8=>
 if decide (v8<(List.length p1:Int))then
 gidx p1 v8>>=fun x13=>
 e35 qq r1 x13>>=fun r15=>
 if r15 then
 e9Lfa qq p0 p1 r1 r3 (w64 (v8+1))
 else
 e52 qq>>=fun r18=>
 some r18
 else
 e9Lez qq p0 p1 r1 r3 0 []
def e9(qq:Nat)(p0:List ClauseClause)(p1:List Tm):Option (Bool):=
 e44 qq>>=fun r1=>
 e49 qq p0>>=fun r3=>
 if r3.2 then
 e50 qq p1>>=fun r6=>
 if r6 then
 e51 qq r1 r3.1 p1>>=fun r9=>
 if r9 then
 e9Lfa qq p0 p1 r1 r3 0
 else
 e52 qq>>=fun r12=>
 some r12
 else
 e52 qq>>=fun r14=>
 some r14
 else
 e52 qq>>=fun r16=>
 some r16
def g9LfaE0(j:Nat->Value)(p0:List ClauseClause)(p1:List Tm)(r1:List Ent)(r3:List R28Clause×Bool)(v8:Int):=sp j 131 0 [(0,slv clauseClauseL p0 .no),(1,slv tmCells p1 .no),(5,slv entL r1 .no),(6,slv r28ClauseL r3.1 .no),(8,ai v8)]
def g9LfaS0(p0:List ClauseClause)(p1:List Tm)(r1:List Ent)(r3:List R28Clause×Bool)(v8:Int):LSt:=⟨[],0,[],0,[]⟩
def g9LezE0(j:Nat->Value)(p0:List ClauseClause)(p1:List Tm)(r1:List Ent)(r3:List R28Clause×Bool)(v10:Int)(v9:List (List R24Pat)):=sp j 131 0 [(0,slv clauseClauseL p0 .no),(1,slv tmCells p1 .no),(5,slv entL r1 .no),(6,slv r28ClauseL r3.1 .no),(9,slv (slC r24PatC) v9 (.st 0 1)),(10,ai v10)]
def g9LezS0(p0:List ClauseClause)(p1:List Tm)(r1:List Ent)(r3:List R28Clause×Bool)(v10:Int)(v9:List (List R24Pat)):LSt:=⟨[],0,[0],1,[]⟩
abbrev K9 (p0:List ClauseClause) (p1:List Tm) (r:Bool) (C:Cf):Prop:=C 9 [] [slv clauseClauseL p0 .no,slv tmCells p1 .no] (ab r) [] 0
theorem q9:Qf 9 Tryz.f9:=⟨Tryz.func9,by kernel_rfl⟩
theorem k9{p0 p1 r}(h:K9 p0 p1 r Ci):K9 p0 p1 r Ct:=⟨h,⟨⟨tv,dClauseClause _⟩,⟨tv,dT _⟩,tv⟩,forall_nil,tv,forall_nil⟩
theorem l9Lez:∀qq:Nat,(∀p0 p1 r1 r3 v10 v9 r,e9Lez qq p0 p1 r1 r3 v10 v9=some r->(∀j,Dl Tryz.prog 0 (inn (inn (rgt (lft (rgt (rgt (rgt (rgt (rgt (rgt (bod Tryz.f9))))))))))) (g9LezE0 j p0 p1 r1 r3 v10 v9) (g9LezS0 p0 p1 r1 r3 v10 v9) (frameQ Tryz.prog 0 (FinQ Tryz.prog 0 Tryz.f9 (ab r) [] 0) [.blk 2,.seq (rgt (rgt (rgt (rgt (rgt (rgt (rgt (bod Tryz.f9))))))))]))):=by
 intro qq
 induction qq with
 |zero=>
  exact fun _ _ _ _ _ _ _ h=>nn h
 |succ qq ih=>
  intro p0 p1 r1 r3 v10 v9 r h
  rw[e9Lez]at h
  rcases spl h with⟨h20,h⟩|⟨h20,h⟩
  obtain⟨x21,h22,h⟩:=obind h
  obtain⟨l23,h24,h⟩:=obind h
  exact fun j=>lH 1 [] [] [1] [0,1,5,6,9,10] (oD ((dSl codecR24Pat) l23)<|oD (dR28Clause r3.1)<|oD (dE r1)<|oD (dT p1)<|oD (dClauseClause p0)<|oP 2 (apS96 h24 (by simp))<|oA 0 (ix92 (o:=.no) h22)<|oB 1 h20 o0) (ih _ _ _ _ _ _ _ h)
  obtain⟨r25,h26,h⟩:=obind h
  obtain⟨r27,h28,h⟩:=obind h
  have k:=oC 0 [] (c53 h26)<|oB 1 h20 o0
  rcases r27 with y122|y29
  cases h
  dsimp only at h
  obtain⟨r30,h31,h⟩:=obind h
  have k:=oC 2 [] (c37 h28) k
  rcases r30 with y77|y32
  cases h
  dsimp only at h
  obtain⟨r33,h34,h⟩:=obind h
  have k:=oC 2 [] (c45 h31) k
  rcases r33 with y35|y56
  dsimp only at h
  have k:=oC 2 [0,1,2] (c54 h34) k
  rcases spl h with⟨h36,h⟩|⟨h36,h⟩
  have k:=oB 3 h36 k
  rcases spl h with⟨h37,h⟩|⟨h37,h⟩
  obtain⟨r38,h39,h⟩:=obind h
  obtain rfl:=sj h
  exact fun j=>lF 0 [] (oC 0 [] (c52 h39)<|oB 0 h37 k)
  obtain rfl:=sj h
  exact fun j=>lF 0 [] (oB 0 h37 k)
  obtain⟨x40,h41,h⟩:=obind h
  have k:=oA 0 (ix91 (o:=.no) h41)<|oB 3 h36 k
  rcases spl h with⟨h42,h⟩|⟨h42,h⟩
  have k:=oB 0 h42 k
  rcases spl h with⟨h43,h⟩|⟨h43,h⟩
  have k:=oB 1 h43 k
  rcases spl h with⟨h44,h⟩|⟨h44,h⟩
  obtain⟨r45,h46,h⟩:=obind h
  obtain rfl:=sj h
  exact fun j=>lF 0 [] (oC 0 [] (c52 h46)<|oB 0 h44 k)
  obtain rfl:=sj h
  exact fun j=>lF 0 [] (oB 0 h44 k)
  have k:=oB 1 h43 k
  rcases spl h with⟨h47,h⟩|⟨h47,h⟩
  obtain⟨r48,h49,h⟩:=obind h
  have k:=oB 1 h47 k
  rcases spl h with⟨h50,h⟩|⟨h50,h⟩
  obtain⟨r51,h52,h⟩:=obind h
  obtain rfl:=sj h
  exact fun j=>lF 0 [] (oC 0 [] (c52 h52)<|oK 1 [] h50 (c47 h49) k)
  obtain rfl:=sj h
  exact fun j=>lF 0 [] (oK 1 [] h50 (c47 h49) k)
  obtain rfl:=sj h
  exact fun j=>lF 0 [] (oB 1 h47 k)
  have k:=oB 0 h42 k
  rcases spl h with⟨h53,h⟩|⟨h53,h⟩
  obtain⟨r54,h55,h⟩:=obind h
  obtain rfl:=sj h
  exact fun j=>lF 0 [] (oC 0 [] (c52 h55)<|oB 1 h53 k)
  obtain rfl:=sj h
  exact fun j=>lF 0 [] (oB 1 h53 k)
  dsimp only at h
  have k:=oC 2 [0,1,2] (c54 h34) k
  rcases spl h with⟨h57,h⟩|⟨h57,h⟩
  have k:=oB 3 h57 k
  rcases spl h with⟨h58,h⟩|⟨h58,h⟩
  obtain⟨r59,h60,h⟩:=obind h
  obtain rfl:=sj h
  exact fun j=>lF 0 [] (oC 0 [] (c52 h60)<|oB 0 h58 k)
  obtain rfl:=sj h
  exact fun j=>lF 0 [] (oB 0 h58 k)
  obtain⟨x61,h62,h⟩:=obind h
  have k:=oA 0 (ix91 (o:=.no) h62)<|oB 3 h57 k
  rcases spl h with⟨h63,h⟩|⟨h63,h⟩
  have k:=oB 0 h63 k
  rcases spl h with⟨h64,h⟩|⟨h64,h⟩
  have k:=oB 1 h64 k
  rcases spl h with⟨h65,h⟩|⟨h65,h⟩
  obtain⟨r66,h67,h⟩:=obind h
  obtain rfl:=sj h
  exact fun j=>lF 0 [] (oC 0 [] (c52 h67)<|oB 0 h65 k)
  obtain rfl:=sj h
  exact fun j=>lF 0 [] (oB 0 h65 k)
  have k:=oB 1 h64 k
  rcases spl h with⟨h68,h⟩|⟨h68,h⟩
  obtain⟨r69,h70,h⟩:=obind h
  have k:=oB 1 h68 k
  rcases spl h with⟨h71,h⟩|⟨h71,h⟩
  obtain⟨r72,h73,h⟩:=obind h
  obtain rfl:=sj h
  exact fun j=>lF 0 [] (oC 0 [] (c52 h73)<|oK 1 [] h71 (c47 h70) k)
  obtain rfl:=sj h
  exact fun j=>lF 0 [] (oK 1 [] h71 (c47 h70) k)
  obtain rfl:=sj h
  exact fun j=>lF 0 [] (oB 1 h68 k)
  have k:=oB 0 h63 k
  rcases spl h with⟨h74,h⟩|⟨h74,h⟩
  obtain⟨r75,h76,h⟩:=obind h
  obtain rfl:=sj h
  exact fun j=>lF 0 [] (oC 0 [] (c52 h76)<|oB 1 h74 k)
  obtain rfl:=sj h
  exact fun j=>lF 0 [] (oB 1 h74 k)
theorem l9Lfa:∀qq:Nat,(∀p0 p1 r1 r3 v8 r,e9Lfa qq p0 p1 r1 r3 v8=some r->(∀j,Dl Tryz.prog 0 (inn (inn (rgt (lft (rgt (rgt (rgt (rgt (bod Tryz.f9))))))))) (g9LfaE0 j p0 p1 r1 r3 v8) (g9LfaS0 p0 p1 r1 r3 v8) (frameQ Tryz.prog 0 (FinQ Tryz.prog 0 Tryz.f9 (ab r) [] 0) [.blk 0,.seq (rgt (rgt (rgt (rgt (rgt (bod Tryz.f9))))))]))):=by
 intro qq
 induction qq with
 |zero=>
  exact fun _ _ _ _ _ _ h=>nn h
 |succ qq ih=>
  intro p0 p1 r1 r3 v8 r h
  rw[e9Lfa]at h
  rcases spl h with⟨h12,h⟩|⟨h12,h⟩
  obtain⟨x13,h14,h⟩:=obind h
  obtain⟨r15,h16,h⟩:=obind h
  have k:=oA 0 (ix23 (o:=.no) h14)<|oB 1 h12 o0
  rcases spl h with⟨h17,h⟩|⟨h17,h⟩
  exact fun j=>lH 2 [] [] [] [0,1,5,6,8] (oD (dR28Clause r3.1)<|oD (dE r1)<|oD (dT p1)<|oD (dClauseClause p0)<|oK 1 [] h17 (c35 h16) k) (ih _ _ _ _ _ _ h)
  obtain⟨r18,h19,h⟩:=obind h
  obtain rfl:=sj h
  exact fun j=>lF 0 [] (oC 1 [] (c52 h19)<|oK 1 [] h17 (c35 h16) k)
  exact fun j=>lH 1 [(none,9,1)] [] [0] [0,1,5,6,9,10] (oD ((dSl codecR24Pat) ([]:List (List R24Pat)))<|oD (dR28Clause r3.1)<|oD (dE r1)<|oD (dT p1)<|oD (dClauseClause p0)<|oB 1 h12 o0) (l9Lez _ _ _ _ _ _ _ _ h)
theorem c9{qq p0 p1 r}(h:e9 qq p0 p1=some r):K9 p0 p1 r Ct:=by
 unfold e9 at h
 obtain⟨r1,h2,h⟩:=obind h
 obtain⟨r3,h4,h⟩:=obind h
 have k:=oC 0 [] (c49 h4)<|oC 0 [] (c44 h2) o0
 rcases spl h with⟨h5,h⟩|⟨h5,h⟩
 obtain⟨r6,h7,h⟩:=obind h
 have k:=oB 1 h5 k
 rcases spl h with⟨h8,h⟩|⟨h8,h⟩
 obtain⟨r9,h10,h⟩:=obind h
 have k:=oK 1 [] h8 (c50 h7) k
 rcases spl h with⟨h11,h⟩|⟨h11,h⟩
 exact k9 (tH q9 1 [] [] [] [0,1,5,6,8] (oD (dR28Clause r3.1)<|oD (dE r1)<|oD (dT p1)<|oD (dClauseClause p0)<|oK 1 [] h11 (c51 h10) k) (l9Lfa _ _ _ _ _ _ _ h))
 obtain⟨r12,h13,h⟩:=obind h
 obtain rfl:=sj h
 exact k9 (tF q9 0 [] (oC 1 [] (c52 h13)<|oK 1 [] h11 (c51 h10) k))
 obtain⟨r14,h15,h⟩:=obind h
 obtain rfl:=sj h
 exact k9 (tF q9 0 [] (oC 1 [] (c52 h15)<|oK 1 [] h8 (c50 h7) k))
 obtain⟨r16,h17,h⟩:=obind h
 obtain rfl:=sj h
 exact k9 (tF q9 0 [] (oC 1 [] (c52 h17)<|oB 1 h5 k))
theorem ev_BaseR:Evt (fun q=>e23 q baseL) true:=evt_of 2000 fun q=>by kernel_rfl
theorem okL_from:∀ {l:List Tm},(∀x∈l,x.Ok)->OkL l
 | [],_=>trivial
 |_::_,h=>⟨h _ (by simp),okL_from fun x hx=>h x (by simp[hx])⟩
theorem frst_at{l:List Ent}{as0:List Tm}{cs:List ClauseClause}:∀(r:List ClauseClause) (v:Nat) {i:Nat} {c:ClauseClause} {b:List Tm},cs.drop v=r->frst l as0 r v=some (i,c,b)->i<cs.length∧gidx cs (i:Int)=some c∧c∈cs∧mPs l c.pats_ as0=some b
 | [],_,_,_,_,_,h=>nomatch h
 |c::r,v,i,d,b,hd,h=>by
  have hlt:=drop_lt hd
  cases hq:mPs l c.pats_ as0 with
  |some b'=>
   rw[frst_yes l hq]at h
   cases h
   exact⟨hlt,drop_idx hd,List.mem_of_mem_drop (i:=v) (by rw[hd];simp),hq⟩
  |none=>
   rw[frst_no l hq]at h
   exact frst_at r (v+1) (drop_next hd) h
theorem ev_CF1{N:ByteArray->Bool}(hE:AllE N baseL)(hn:Evt (fun q=>e37 q baseL) (newT baseL true))(cs:List ClauseClause)(as0:List Tm)(hcs:cs.length≤300)(ho:∀c∈cs,okC c∧ndPs c.pats_≤300)(ha:OkA as0)(hl:as0.length≤24)
  (hcl:∀x∈as0,closedT x baseL.length=true) (hR:∀c∈cs,CR baseL c as0.length) (n:Nat) (hv:∀x∈as0,VT baseL n x) (z:Bool):∀(r:List ClauseClause) (v:Nat),cs.drop v=r ->
  Evt (fun q=>e9Lez q cs as0 baseL (cs.map cvC,z) (v:Int) (((cs.take v).map cvC).map (·.pats_))) true:=by
 intro r
 induction r with
 |cons c r ih=>
  intro v hd
  have hlt:=drop_lt hd
  have hd':(cs.map cvC).drop v=cvC c::r.map cvC:=by rw[←List.map_drop,hd];rfl
  refine Evt.succ ?_
  simp only[e9Lez]
  refine Evt.ifT (drop_dec hd') (Evt.pure (drop_idx hd') (Evt.pure (gapp_ok (by simp;omega)) ?_))
  rw[w64_nat v (by omega)]
  have e:((cs.take v).map cvC).map (·.pats_)++[(cvC c).pats_]=((cs.take (v+1)).map cvC).map (·.pats_):=by rw[take_drop_next hd];simp
  rw[e]
  exact ih (v+1) (drop_next hd)
 |nil=>
  intro v hd
  have hv':cs.length≤v:=List.drop_eq_nil_iff.1 hd
  rw[List.take_of_length_le hv']
  have hd':(cs.map cvC).drop v=[]:=by rw[←List.map_drop,hd];rfl
  have hs:Shs as0:=fun x hx=>closed_shaped (hcl x hx)
  refine Evt.succ ?_
  simp only[e9Lez]
  refine Evt.ifF (drop_nil hd') ?_
  obtain⟨o,h,hf⟩:=tot_First baseL hE cs hcs (fun c h=>⟨fun p hp=>PG_GP ((hR c h).2.2.1 p hp).2,(ho c h).2⟩) as0 hs n hv (fun c h=>(hR c h).1) cs 0 rfl
  refine Evt.bind (a:=o) (by simp only[e53];exact h) (hn.bind ?_)
  unfold newT
  rw[if_pos rfl]
  dsimp only
  refine(ev_mNew 10 (by omega) (by omega)).bind ?_
  dsimp only
  obtain⟨d,h2,hq⟩:=val_Apply baseL hE ev_BaseF baseL_ok (by rw[baseL_len];omega) baseL_cl baseL_cop cs hcs ho as0 ha (by omega) hcl hR n hv 10 0
  refine Evt.bind h2 ?_
  have aw:Evt (fun q=>e52 q>>=fun r=>some r) true:=ev_cawake.bind Evt.ret
  rcases hf with⟨i,c,b,hf,rfl⟩|⟨hf,rfl⟩
  ·obtain⟨hi,hc,hcm,hb⟩:=frst_at cs 0 rfl hf
   have hbs:Shs b:=mPs_shaped baseL c.pats_ as0 b hs hb
   have hlok:LOk b:=by
    refine⟨okL_from fun x hx=>shaped_ok (hbs x hx),?_⟩
    have:=mPs_len c.pats_ as0 b hb
    have:=(ho c hcm).2
    omega
   rw[hf]at hq
   rcases hq with⟨hq,-⟩|⟨i',c',b',hq,hr⟩
   ·cases hq
   cases hq
   match d,hr with
   | .inl y,hr=>
    dsimp only
    refine Evt.ifF (decide_eq_false (by omega)) (Evt.pure hc ?_)
    rcases hr with⟨h0,h1⟩|⟨h0,h1|⟨h1,h2,h3⟩⟩
    ·have h1:y.2.1=13:=h1
     exact Evt.ifF h0 (Evt.ifT (by rw[h1];rfl) aw)
    ·have h1:y.2.1=2:=h1
     exact Evt.ifT h0 (Evt.ifT (by rw[h1];rfl) (Evt.ifT (by rw[h1];rfl) aw))
    ·have h1:y.2.1=0:=h1
     have h2:y.1.row_=(i:Int):=h2
     have h3:y.1.binds_=b:=h3
     refine Evt.ifT h0 (Evt.ifF (by rw[h1];rfl) (Evt.ifT (by rw[h2];simp) ?_))
     rw[h3]
     exact(ev_rSameAll b hlok).bind (Evt.ifT rfl aw)
   | .inr y,hr=>
    dsimp only
    refine Evt.ifF (decide_eq_false (by omega)) (Evt.pure hc ?_)
    rcases hr with⟨h0,h1⟩|⟨h0,h1|⟨h1,h2,h3⟩⟩
    ·have h1:y.2.2.2.2.2.1=13:=h1
     exact Evt.ifF h0 (Evt.ifT (by rw[h1];rfl) aw)
    ·have h1:y.2.2.2.2.2.1=2:=h1
     exact Evt.ifT h0 (Evt.ifT (by rw[h1];rfl) (Evt.ifT (by rw[h1];rfl) aw))
    ·have h1:y.2.2.2.2.2.1=0:=h1
     have h2:y.2.1=(i:Int):=h2
     have h3:y.1=b:=h3
     refine Evt.ifT h0 (Evt.ifF (by rw[h1];rfl) (Evt.ifT (by rw[h2];simp) ?_))
     rw[h3]
     exact(ev_rSameAll b hlok).bind (Evt.ifT rfl aw)
  ·rw[hf]at hq
   rcases hq with⟨-,h1⟩|⟨i',c',b',hq,-⟩
   ·match d,h1 with
    | .inl y,h1=>
     have h1:y.2.1=16:=h1
     exact Evt.ifT rfl (Evt.ifT (by rw[h1];rfl) aw)
    | .inr y,h1=>
     have h1:y.2.2.2.2.2.1=16:=h1
     exact Evt.ifT rfl (Evt.ifT (by rw[h1];rfl) aw)
   ·cases hq
theorem ev_CF0{N:ByteArray->Bool}(hE:AllE N baseL)(cs:List ClauseClause)(as0:List Tm)(hl:as0.length≤24)(hs:Shs as0)(z:List R28Clause×Bool)
  (K:(∀x∈as0,VT baseL 8192 x)->Evt (fun q=>e9Lez q cs as0 baseL z 0 []) true):∀(r:List Tm) (v:Nat),as0.drop v=r->(∀x∈as0.take v,VT baseL 8192 x) ->
  Evt (fun q=>e9Lfa q cs as0 baseL z (v:Int)) true:=by
 intro r
 induction r with
 |nil=>
  intro v hd h
  have hv':as0.length≤v:=List.drop_eq_nil_iff.1 hd
  rw[List.take_of_length_le hv']at h
  refine Evt.succ ?_
  simp only[e9Lfa]
  exact Evt.ifF (drop_nil hd) (K h)
 |cons x r ih=>
  intro v hd h
  have hlt:=drop_lt hd
  have hx:=hs x (List.mem_of_mem_drop (i:=v) (by rw[hd];simp))
  refine Evt.succ ?_
  simp only[e9Lfa]
  obtain⟨b,hb,hbv⟩:=tot_rValue hE 8192 x (shapedT_spec hx).1 hx
  refine Evt.ifT (drop_dec hd) (Evt.pure (drop_idx hd) (hb.bind (Evt.iff (fun h1=>?_) fun _=>ev_cawake.bind Evt.ret)))
  rw[w64_nat v (by omega)]
  refine ih (v+1) (drop_next hd) fun y hy=>?_
  rw[take_drop_next hd]at hy
  rcases List.mem_append.1 hy with hy|hy
  ·exact h y hy
  ·rw[List.mem_singleton.1 hy];exact hbv h1
theorem ev_ClauseFirst(cs:List ClauseClause)(as0:List Tm)(hcs:cs.length≤17592186044416)(ho:∀c∈cs,okC c)(ha:OkA as0):Evt (fun q=>e9 q cs as0) true:=by
 obtain⟨N,hE,hn⟩:=base_new
 simp only[e9]
 refine ev_Base.bind ?_
 obtain⟨⟨w,z⟩,h,hr⟩:=tot_ofX cs hcs ho
 refine h.bind (Evt.iff (fun hp=>?_) fun _=>ev_cawake.bind Evt.ret)
 obtain⟨h1,h2,h3⟩:=hr hp
 dsimp only at h2
 subst h2
 obtain⟨bb,hb,hbl⟩:=tot_small28 as0
 refine hb.bind (Evt.iff (fun hs=>?_) fun _=>ev_cawake.bind Evt.ret)
 have hl:=hbl hs
 obtain⟨bm,hm,hml⟩:=tot_rMay hE ev_BaseR cs h3 (fun c h=>⟨ho c h,h1 c h⟩) as0 ha (by omega)
 refine hm.bind (Evt.iff (fun hmm=>?_) fun _=>ev_cawake.bind Evt.ret)
 obtain⟨hR,hcl⟩:=hml hmm
 exact ev_CF0 hE cs as0 hl (fun x hx=>closed_shaped (hcl x hx)) _ (fun hv=>ev_CF1 hE hn cs as0 h3 (fun c h=>⟨ho c h,h1 c h⟩) ha hl hcl hR 8192 hv z cs 0 rfl) as0 0 rfl fun _ h=>nomatch h
theorem okL_eachF:∀ {l:List Tm},OkL l->∀x∈l,x.Ok
 | [],_,_,h=>nomatch h
 |a::l,⟨h1,h2⟩,x,hx=>by
  rcases List.mem_cons.1 hx with rfl|hx
  ·exact h1
  ·exact okL_eachF h2 x hx
theorem clauseFirst_ct(cs:List ClauseClause)(as0:List Tm)(w0:(∀e∈cs,okC e)∧cs.length≤17592186044416)(w1:OkL as0∧as0.length<9223372036854775808):CT Tryz.prog 9 [] [.sl (flat clauseClauseL cs) cs.length .no,.sl (flat tmCells as0) as0.length .no] (ab true) [] 0:=by
 obtain⟨q,hq⟩:=(ev_ClauseFirst cs as0 w0.2 w0.1 (okL_eachF w1.1)).at
 exact c9 hq
end Go.Proofs.YtmfcobjnlabpoaaGreat
