/- Texts: AbRu AbRx AbRy AbTa AbTb AbTc AbSa AbF276 AbSb AbF378 AbF350 AbF315 AbF275 AbSc AbF203 AbF316 AbF277 AbF205 AbF206 AbSd AbF139 AbF204 AbF140 AbF73 AbSe AbF70 AbF18 AbF71 AbF20 AbPe AbF85 AbF30 AbF168 AbF116 AbPf AbF207 AbF208 AbF77 AbF209 AbF76 AbF78 AbF79 AbF86 AbF87 AbSf AbF141 AbF142 AbSg AbF74 AbF75 AbF23 AbSh AbF31 AbSk AbF265 AbF198 AbF200 AbF266 AbF165 AbF267 AbF152 AbF313 -/
import Derived.Test.YtmfcobjnlabpoaaGreatAbB4
set_option linter.unusedVariables false
set_option linter.unusedSimpArgs false
namespace Go.Proofs.YtmfcobjnlabpoaaGreat
open Go Go.Ab
theorem memT_at{l:List Ent}{of kind:Int}:∀ {L:List Int} {k:Int},memT l of kind L k=true->∀(i:Nat) (h:i<L.length),isT l L[i] kind=true∧(ent l L[i]).fam=of∧(ent l L[i]).place=k+i
 | [],_,_,i,h=>by simp at h
 |n::L,k,hm,i,h=>by
  rw[memT]at hm
  simp only[Bool.and_eq_true,beq_iff_eq]at hm
  cases i with
  |zero=>exact⟨hm.1.1.1,hm.1.1.2,by simp[hm.1.2]⟩
  |succ i=>
   have:=memT_at hm.2 i (by simpa using h)
   exact⟨this.1,this.2.1,by rw[List.getElem_cons_succ,this.2.2];omega⟩
def FldOf(l:List Ent)(r f:Int)(i:Nat):Prop:=0≤f∧f<l.length∧(ent l f).kind=4∧(ent l f).fam=r∧(ent l f).place=i∧(ent l f).pars=(ent l r).pars
theorem rec_all{N:ByteArray->Bool}{l:List Ent}{r:Int}(hE:AllE N l)(hr:isT l r 1=true)(hf:(ent l r).fields≠[]) :
  ∃c,(ent l r).cons=[c]∧0≤c∧c<l.length∧(ent l c).kind=2∧(ent l c).fam=r∧(ent l c).pars=(ent l r).pars∧(pisT (ent l c).type:Int)=(ent l r).pars+(ent l r).fields.length
   ∧ (∀(i:Nat) (h:i<(ent l r).fields.length),FldOf l r (ent l r).fields[i] i)∧∀c':Int,0≤c'->c'<(l.length:Int)->(ent l c').kind=2->(ent l c').fam=r->c'=c:=by
 have hi:=isT_spec hr
 have hft:=(entryT_spec (hE.2 r hi.1 hi.2.1)).2.1 hi.2.2
 unfold familyT at hft
 simp only[Bool.and_eq_true,Bool.or_eq_true,decide_eq_true_eq]at hft
 have hD:=hft.2.resolve_left fun h=>hf (List.length_eq_zero_iff.1 h)
 have hC:=hft.1.2
 unfold famD at hD
 unfold famC at hC
 simp only[Bool.and_eq_true,beq_iff_eq,decide_eq_true_eq]at hD hC
 obtain⟨⟨⟨⟨⟨d1,d2⟩,d3⟩,d4⟩,d5⟩,d6⟩:=hD
 obtain⟨c,hc⟩:∃c,(ent l r).cons=[c]:=by
  rcases hc:(ent l r).cons with _|⟨w,_|⟨v,s⟩⟩<;>rw[hc]at d2<;>simp at d2
  exact⟨w,rfl⟩
 have hm:=memT_at hC.2 0 (by rw[hc];simp)
 have hc0:(ent l r).cons[0]'(by rw[hc];simp)=c:=by simp[hc]
 rw[hc0]at hm
 have hci:=isT_spec hm.1
 have hown:=ownedT_spec (con_owned hE hci.1 hci.2.1 hci.2.2).1
 have hrun:=hC.1.2
 rw[hc,runT]at hrun
 simp only[Bool.and_eq_true,beq_iff_eq]at hrun
 have hw:wholeT (ent l (r+1)).type=((wholeT (ent l (r+1)).type).1,(wholeT (ent l (r+1)).type).2.1,0):=by rw[←d5]
 have hwo:=wholeT_ok hw
 refine⟨c,rfl.trans hc,hci.1,hci.2.1,hci.2.2,hm.2.1,by rw[hown.2.2.2.1,hm.2.1],by rw[hrun.1,←hwo.2.1];exact d6,fun i h=>?_,fun c' g0 g1 g2 g3=>?_⟩
 ·have hmi:=memT_at d4 i h
  have hii:=isT_spec hmi.1
  have hp:=(entryT_spec (hE.2 _ hii.1 hii.2.1)).2.2.2.1 hii.2.2
  unfold projT at hp
  simp only[Bool.and_eq_true]at hp
  have ho:=ownedT_spec hp.1
  exact⟨hii.1,hii.2.1,hii.2.2,hmi.2.1,by rw[hmi.2.2];omega,by rw[ho.2.2.2.1,hmi.2.1]⟩
 ·have ho:=(con_owned hE g0 g1 g2).1
  unfold ownedT ownB at ho
  simp only[Bool.and_eq_true,decide_eq_true_eq,beq_iff_eq]at ho
  have hL:ownL l (ent l c')=[c]:=by unfold ownL;rw[if_neg (by omega),g3,hc]
  rw[hL]at ho
  have hp0:(ent l c').place.toNat=0:=by have:=ho.2.1.2;simp at this;omega
  have:=ho.2.2
  rw[hp0]at this
  simpa using this.symm
theorem fldP_mem2{l:List Ent}{x y:Tm}{c:Int}{pars:List Tm}:∀ {m i:Nat} {p:PE},p∈fldP l x y c pars m i->∃j,i≤j∧j<i+m∧p=(partC l x c j pars,partC l y c j pars)
 |0,_,_,h=>by cases h
 |m+1,i,p,h=>by
  rw[fldP]at h
  rcases List.mem_cons.1 h with h|h
  ·exact⟨i,Nat.le_refl _,by omega,h⟩
  ·obtain⟨j,h1,h2,h3⟩:=fldP_mem2 h
   exact⟨j,by omega,by omega,h3⟩
theorem fld_one{N:ByteArray->Bool}{l:List Ent}(hE:AllE N l){r f:Int}{i:Nat}{pars:List Tm}{t y q:Tm}{b:Bool}{j k:Int}(hf:FldOf l r f i)(hp:(pars.length:Int)=(ent l r).pars)(hst:shapedT t=true)(hB:Br l t y 0 j)
  (hq:((isCon l y∧(ent l (hdT y).n).fam=r)∧q=nth (arT y) ((ent l (hdT y).n).pars+(ent l f).place))∨(¬(isCon l y∧(ent l (hdT y).n).fam=r)∧q=fldA f pars y)) (h:Cv l false (fldA f pars t) q b k):b=true:=by
 obtain⟨g0,g1,g2,g3,g4,g5⟩:=hf
 have hF:0≤f∧f<l.length∧(ent l f).kind=4:=⟨g0,g1,g2⟩
 have hP:(ent l f).pars=pars.length:=by omega
 have self:∀m x b k,Cv l m x x b k->b=true:=fun m x b k h=>h.refl hE
 obtain⟨-,-,u1,k1,u2,k2,k3,h1,h2,h3,-⟩:=h.inv
 rcases hq with⟨hc,rfl⟩|⟨hc,rfl⟩
 ·obtain⟨k',hk'⟩:=fld_con hF hP hE hst hB (by rw[g3];exact hc) h1
  obtain⟨rfl,-,-⟩:=hk'.det h2
  exact head_self self h3
 ·have e1:=fld_not hF hP hB (by rw[g3];exact hc) h1
  obtain⟨j',hs⟩:=brT_still hB
  have e2:=fld_not hF hP hs (by rw[g3];exact hc) h2
  subst e1;subst e2
  have hk:=fld_kind hF hP
  have nr:∀u,¬isRec l (fldA f pars u):=fun u h=>by
   have:=h.1.1
   rw[fldA_hd,hk]at this
   omega
  have k5:∀u,(fldA f pars u).k=5:=fun u=>rfl
  rw[headC_no (by rw[k5,k5];omega) (nr t) (nr y),k5,k5,if_neg (by simp),if_neg (by omega),if_neg (by omega)]at h3
  unfold spnC at h3
  rw[fldA_hd,fldA_hd,fldA_ar,fldA_ar,if_neg (by simp)]at h3
  refine AllC.rel (R:=fun a b=>a=b∨(a=t∧b=y)) (fun a b q k hr hcv=>?_) (fun p hp=>?_) h3
  ·rcases hr with e|⟨e1,e2⟩
   ·rw[e]at hcv;exact hcv.refl hE
   ·rw[e1,e2]at hcv;exact Cv.whnf hE hB hcv.symm
  ·unfold spnP at hp
   rw[fldA_hd,fldA_hd,fldA_ar,fldA_ar,if_neg (by simp[Tm.k]),List.nil_append]at hp
   refine argP_rel (R:=fun a b=>a=b∨(a=t∧b=y)) (fun i hi hi'=>?_) hp
   by_cases hlt:i<pars.length
   ·left;rw[List.getElem_append_left hlt,List.getElem_append_left hlt]
   ·right
    have hie:i=pars.length:=by rw[List.length_append]at hi;simp at hi;omega
    subst hie
    exact⟨by simp,by simp⟩
theorem Cv.eta{N:ByteArray->Bool}{l:List Ent}(hE:AllE N l){r c:Int}{pars:List Tm}{t y:Tm}{b:Bool}{j k:Int}(hr:isT l r 1=true)(hf:(ent l r).fields≠[])(hc:(ent l r).cons=[c])(hp:(pars.length:Int)=(ent l r).pars)
  (hB:Br l t y 0 j) (h4:y.k≠4) (hy:isCon l y->(ent l (hdT y).n).fam=r) (h:Cv l false (apT (apT (.mk 6 c []) pars) ((ent l r).fields.map fun f=>fldA f pars t)) t b k):b=true:=by
 obtain⟨c',hc',c0,c1,ck,cf,cp,cpi,hfld,honly⟩:=rec_all hE hr hf
 have hcc:c'=c:=by rw[hc]at hc';simpa using hc'.symm
 subst hcc
 obtain⟨x,hx⟩:∃x,x=apT (apT (.mk 6 c' []) pars) ((ent l r).fields.map fun f=>fldA f pars t):=⟨_,rfl⟩
 rw[←hx]at h
 have hdx:hdT x = .mk 6 c' []:=by rw[hx,hdT_ap,hdT_ap,hdT_not (by simp[Tm.k])]
 have arx:arT x=pars++(ent l r).fields.map fun f=>fldA f pars t:=by rw[hx,arT_ap,arT_ap,arT_not (by simp[Tm.k]),List.nil_append]
 have xk:x.k=5:=by rw[hx];exact apT_k _ _ fun e=>hf (List.map_eq_nil_iff.1 e)
 have kx:kindT l (hdT x)=2:=by
  rw[hdx];unfold kindT
  rw[if_pos (show (Tm.mk 6 c' []).k=6 from rfl)]
  show (if c'<(l.length:Int)then(ent l c').kind else 0)=2
  rw[if_pos c1];exact ck
 have xn:(hdT x).n=c':=by rw[hdx];rfl
 have hfl:fldsT l c'=(ent l r).fields:=by unfold fldsT;rw[cf]
 have cx:isCon l x:=⟨kx,by rw[xn,arx,List.length_append,List.length_map];omega⟩
 have rx:isRec l x:=⟨cx,by rw[xn,hfl];exact hf⟩
 obtain⟨rx1,rt,x',k1,y',k2,k3,h1,h2,h3,-⟩:=h.inv
 have hst:=rt.shaped
 have hxs:Br l x x 0 0:=.stop (by
  unfold actT
  rw[kx,if_neg (fun h=>by rw[hdx]at h;have:=h.1;simp[Tm.k]at this),if_neg (by decide),if_neg (by decide),if_neg (by rw[hdx];simp[Tm.k])])
 obtain⟨rfl,-,-⟩:=hxs.det h1
 obtain⟨rfl,-,-⟩:=hB.det h2
 have hn4:¬(x'.k=4∨y'.k=4):=by rw[xk];omega
 have hsy:=hB.shaped hst rfl
 have same:isRec l y'->(hdT y').n=c':=fun hry=>by
  have hcs:=isCon_spec hsy hry.1
  exact honly _ hcs.1 hcs.2.1 hcs.2.2.1 (hy hry.1)
 have hne:¬(isRec l y'∧(hdT x').n≠(hdT y').n):=fun h=>h.2 (by rw[xn,same h.1])
 rw[headC_rec1 hn4 rx,if_neg hne,xn]at h3
 have hprs:prsT l x'=pars:=by unfold prsT;rw[xn,arx,cp,←hp,Int.toNat_natCast,List.take_left'];rfl
 rw[hprs,hfl]at h3
 refine AllC.rel (R:=fun p q=>∃f i,FldOf l r f i∧p=fldA f pars t∧(((isCon l y'∧(ent l (hdT y').n).fam=r)∧q=nth (arT y') ((ent l (hdT y').n).pars+(ent l f).place))∨(¬(isCon l y'∧(ent l (hdT y').n).fam=r)∧q=fldA f pars y'))) (fun p q bb kk hR hC=>?_) (fun p hpm=>?_) h3
 ·obtain⟨f,i,hfi,rfl,hq⟩:=hR
  exact fld_one hE hfi hp hst hB hq hC
 ·obtain⟨jj,-,hj,rfl⟩:=fldP_mem2 hpm
  rw[Nat.zero_add]at hj
  have hfi:=hfld jj hj
  refine⟨(ent l r).fields[jj],jj,hfi,?_,?_⟩
  ·show (partC l x' c' jj pars).1=_
   unfold partC
   rw[if_pos ⟨rx,xn⟩,arx]
   show nth _ _=_
   unfold nth
   rw[Int.toNat_natCast,List.getElem?_append_right (by omega),Nat.add_sub_cancel_left,List.getElem?_map,List.getElem?_eq_getElem hj]
   rfl
  ·by_cases hry:isRec l y'
   ·left
    have hyc:=same hry
    refine⟨⟨hry.1,hy hry.1⟩,?_⟩
    show (partC l y' c' jj pars).1=_
    unfold partC
    rw[if_pos ⟨hry,hyc⟩,hyc,cp,hfi.2.2.2.2.1]
    show nth _ _=_
    congr 1;omega
   ·right
    refine⟨fun hcy=>hry ⟨hcy.1,by unfold fldsT;rw[hcy.2];exact hf⟩,?_⟩
    show (partC l y' c' jj pars).1=_
    unfold partC
    rw[if_neg (fun h=>hry h.1),hfl,List.getElem?_eq_getElem hj]
    rfl
theorem apT_snoc(a:Tm):∀(s:List Tm) (f:Tm),apT f (s++[a]) = .mk 5 0 [apT f s,a]
 | [],f=>by rw[List.nil_append,apT,apT,apT]
 |b::s,f=>by rw[List.cons_append,apT,apT,apT_snoc a s]
theorem nth_app{s:List Tm}{a:Tm}{i:Int}(h1:i.toNat<s.length):nth (s++[a]) i=nth s i:=by
 unfold nth
 rw[List.getElem?_append_left h1]
theorem drop_snoc{s:List Tm}{a:Tm}{n:Nat}(h:n≤s.length):(s++[a]).drop n=s.drop n++[a]:=List.drop_append_of_le_length h
section
variable {N:ByteArray->Bool} {l:List Ent} (hE:AllE N l) {x:Tm} (a:Tm)
theorem act_app_red{Y:Tm}{e:Int}(h:actT l x = .red Y e):actT l (.mk 5 0 [x,a]) = .red (.mk 5 0 [Y,a]) e:=by
 unfold actT at h ⊢
 rw[hdT_app,arT_app]
 by_cases h1:(hdT x).k=4∧0<(arT x).length
 ·rw[if_pos h1]at h
  injection h with ha hb
  rw[if_pos ⟨h1.1,by rw[List.length_append];omega⟩,nth_app (by simpa using h1.2),drop_snoc h1.2,apT_snoc,ha,hb]
 ·rw[if_neg h1]at h
  by_cases h2:kindT l (hdT x)=3
  ·rw[if_pos h2]at h
   injection h with ha hb
   have h6:=(kindT_spec h2 (by decide)).1
   rw[if_neg (fun h=>by omega),if_pos h2,apT_snoc,ha,hb]
  ·rw[if_neg h2]at h
   split at h
   ·split at h<;>cases h
   ·split at h
    ·split at h<;>cases h
    ·cases h
theorem act_app_tgt{b:Tm}(hn:0≤(hdT x).n)(hp:kindT l (hdT x)=4->0≤(ent l (hdT x).n).pars)(hg:1≤argsT (ent l (hdT x).n)∨¬((hdT x).k=7∧isT l (hdT x).n 1=true))(h:actT l x = .tgt b):actT l (.mk 5 0 [x,a]) = .tgt b:=by
 unfold actT at h ⊢
 rw[hdT_app,arT_app]
 by_cases h1:(hdT x).k=4∧0<(arT x).length
 ·rw[if_pos h1]at h;cases h
 ·rw[if_neg h1]at h
  by_cases h2:kindT l (hdT x)=3
  ·rw[if_pos h2]at h;cases h
  ·rw[if_neg h2]at h
   by_cases h3:kindT l (hdT x)=4
   ·rw[if_pos h3]at h
    have h6:=(kindT_spec h3 (by decide)).1
    split at h
    ·cases h
    ·rename_i h4
     injection h with h
     have:=hp h3
     rw[if_neg (fun h=>by omega),if_neg h2,if_pos h3,if_neg (by rw[List.length_append];simp;omega),nth_app (by omega),h]
   ·rw[if_neg h3]at h
    by_cases h4:(hdT x).k=7
    ·rw[if_pos h4]at h
     split at h
     ·rename_i h5
      injection h with h
      have hg':1≤argsT (ent l (hdT x).n):=hg.resolve_right (fun k=>k ⟨h4,h5.1⟩)
      rw[if_neg (fun h=>by omega),if_neg h2,if_neg h3,if_pos h4,if_pos ⟨h5.1,by rw[List.length_append];simp;omega⟩,nth_app (by omega),h]
     ·cases h
    ·rw[if_neg h4]at h;cases h
end
theorem take_snoc{s:List Tm}{a:Tm}{n:Nat}(h:n≤s.length):(s++[a]).take n=s.take n:=List.take_append_of_le_length h
section
variable {l:List Ent} {x:Tm} (a:Tm)
def Room(l:List Ent)(x:Tm):Prop:=(kindT l (hdT x)=4->((ent l (hdT x).n).pars+1).toNat≤(arT x).length)∧(kindT l (hdT x)≠4->(argsT (ent l (hdT x).n)).toNat≤(arT x).length∧((ent l (hdT x).n).pars+1+(ent l (hdT x).n).cons.length).toNat≤(arT x).length)
theorem react_app{z Y:Tm}{e:Int}(hr:Room l x)(h:reactT l x z=some (Y,e)):reactT l (.mk 5 0 [x,a]) z=some (.mk 5 0 [Y,a],e):=by
 unfold reactT at h ⊢
 rw[hdT_app,arT_app]
 by_cases h4:kindT l (hdT x)=4
 ·rw[if_pos h4]at h ⊢
  split at h
  ·rename_i hc
   injection h with h
   have ha:=congrArg Prod.fst h
   have hb:=congrArg Prod.snd h
   simp only at ha hb
   rw[if_pos hc,drop_snoc (hr.1 h4),apT_snoc,ha,hb]
  ·cases h
 ·rw[if_neg h4]at h ⊢
  split at h
  ·rename_i hc
   injection h with h
   have ha:=congrArg Prod.fst h
   have hb:=congrArg Prod.snd h
   simp only at ha hb
   have hrr:=hr.2 h4
   rw[if_pos hc,take_snoc hrr.2,drop_snoc hrr.1,apT_snoc,ha,hb]
  ·cases h
theorem tgt_room{b:Tm}(hn:kindT l (hdT x)=4->0≤(ent l (hdT x).n).pars)(hi:(hdT x).k=7->isT l (hdT x).n 1=true->0≤(ent l (hdT x).n).inds)(h:actT l x = .tgt b):Room l x:=by
 unfold actT at h
 by_cases h1:(hdT x).k=4∧0<(arT x).length
 ·rw[if_pos h1]at h;cases h
 ·rw[if_neg h1]at h
  by_cases h2:kindT l (hdT x)=3
  ·rw[if_pos h2]at h;cases h
  ·rw[if_neg h2]at h
   by_cases h3:kindT l (hdT x)=4
   ·rw[if_pos h3]at h
    split at h
    ·cases h
    ·have:=hn h3
     exact⟨fun _=>by omega,fun h=>absurd h3 h⟩
   ·rw[if_neg h3]at h
    by_cases h4:(hdT x).k=7
    ·rw[if_pos h4]at h
     split at h
     ·rename_i h5
      have:=hi h4 h5.1
      refine⟨fun h=>absurd h h3,fun _=>⟨by omega,?_⟩⟩
      have h6:argsT (ent l (hdT x).n)=(ent l (hdT x).n).pars+2+(ent l (hdT x).n).cons.length+(ent l (hdT x).n).inds:=by unfold argsT;rw[if_pos (isT_spec h5.1).2.2]
      have:=h5.2
      omega
     ·cases h
    ·rw[if_neg h4]at h;cases h
end
def lfn(n b k:Int):Int:=if b≤n then n+k else n
theorem lf_var{n b k:Int}{l:List Tm}(hk:0≤k):lfT (.mk 1 n l) b 0 k = .mk 1 (lfn n b k) []:=by
 rw[lfT,if_pos rfl]
 congr 1
 unfold lfn
 by_cases h:b≤n
 ·rw[if_pos h,if_pos h,if_neg (by omega)];omega
 ·rw[if_neg h,if_neg h]
theorem lf_node{kd n b k:Int}{l:List Tm}(h:kd≠1):lfT (.mk kd n l) b 0 k = .mk kd n (lfL l kd 0 b 0 k):=by rw[lfT,if_neg h]
mutual
theorem lf_lf(b d k:Int)(hb:0≤b)(hd:0≤d)(hk:0≤k):∀(t:Tm) (e:Int),lfT (lfT t e 0 b) (e+(b+d)) 0 k=lfT (lfT t (e+d) 0 k) e 0 b
 | .mk kd n l,e=>by
  by_cases h:kd=1
  ·subst h
   rw[lf_var hb,lf_var hk,lf_var hk,lf_var hb]
   congr 1
   unfold lfn
   by_cases h1:e≤n
   ·by_cases h2:e+d≤n
    ·rw[if_pos h1,if_pos h2,if_pos (by omega),if_pos (by omega)];omega
    ·rw[if_pos h1,if_neg h2,if_neg (by omega),if_pos h1]
   ·rw[if_neg h1,if_neg (show ¬e+(b+d)≤n by omega),if_neg (show ¬e+d≤n by omega),if_neg h1]
  ·rw[lf_node h,lf_node h,lf_node h,lf_node h,lfL_lf b d k hb hd hk l kd 0 e]
theorem lfL_lf(b d k:Int)(hb:0≤b)(hd:0≤d)(hk:0≤k):∀(l:List Tm) (kd:Int) (i:Nat) (e:Int),lfL (lfL l kd i e 0 b) kd i (e+(b+d)) 0 k=lfL (lfL l kd i (e+d) 0 k) kd i e 0 b
 | [],kd,i,e=>by simp only[lfL]
 |t::l,kd,i,e=>by
  rw[lfL,lfL,lfL,lfL,lfL_lf b d k hb hd hk l kd (i+1) e,undR_add,undR_add,lf_lf b d k hb hd hk t (undR' kd i e)]
end
theorem lf_map(d k:Int)(ls:List Tm)(i:Nat)(h:i<ls.length):(ls.map fun a=>lfT a d 0 k)[i]'(by simpa using h)=lfT ls[i] d 0 k:=by simp
mutual
theorem lf_si(d k:Int)(hd:0≤d)(hk:0≤k)(ls:List Tm):∀(t:Tm) (b:Int),0≤b->lfT (siT ls t b) (b+d) 0 k=siT (ls.map fun a=>lfT a d 0 k) (lfT t (b+(ls.length+d)) 0 k) b
 | .mk kd n l,b,hb=>by
  by_cases h:kd=1
  ·subst h
   rw[lf_var hk,siT,siT]
   by_cases h1:b≤n
   ·rw[if_pos ⟨rfl,h1⟩]
    by_cases h2:(n-b).toNat<ls.length
    ·have e:lfn n (b+(ls.length+d)) k=n:=by unfold lfn;rw[if_neg (by omega)]
     rw[dif_pos h2,e,if_pos ⟨rfl,h1⟩,dif_pos (by simpa using h2),lf_map]
     have:=lf_lf b d k hb hd hk ls[(n-b).toNat] 0
     rwa[Int.zero_add,Int.zero_add]at this
    ·rw[dif_neg h2,lf_var hk]
     have h3:b≤lfn n (b+(ls.length+d)) k∧(ls.length:Int)≤lfn n (b+(ls.length+d)) k-b∧lfn n (b+(ls.length+d)) k-ls.length=lfn (n-ls.length) (b+d) k:=by
      unfold lfn
      by_cases h4:b+(ls.length+d)≤n
      ·rw[if_pos h4,if_pos (by omega)];omega
      ·rw[if_neg h4,if_neg (by omega)];omega
     rw[if_pos ⟨rfl,h3.1⟩,dif_neg (by simp;omega),List.length_map,h3.2.2]
   ·have e:lfn n (b+(ls.length+d)) k=n:=by unfold lfn;rw[if_neg (by omega)]
    have e2:lfn n (b+d) k=n:=by unfold lfn;rw[if_neg (by omega)]
    rw[if_neg (fun a=>h1 a.2),lf_var hk,e,if_neg (fun a=>h1 a.2),e2,siL]
  ·rw[lf_node h,siT,siT,if_neg (fun a=>h a.1),if_neg (fun a=>h a.1),lf_node h,lfL_si d k hd hk ls l kd 0 b hb]
theorem lfL_si(d k:Int)(hd:0≤d)(hk:0≤k)(ls:List Tm):∀(l:List Tm) (kd:Int) (i:Nat) (b:Int),0≤b->lfL (siL ls l kd i b) kd i (b+d) 0 k=siL (ls.map fun a=>lfT a d 0 k) (lfL l kd i (b+(ls.length+d)) 0 k) kd i b
 | [],kd,i,b,hb=>by simp only[lfL,siL]
 |t::l,kd,i,b,hb=>by
  have:=undR_ge kd i b
  rw[siL,lfL,lfL,siL,lfL_si d k hd hk ls l kd (i+1) b hb,undR_add,undR_add,lf_si d k hd hk ls t (undR' kd i b) (by omega)]
end
mutual
theorem lf_id(k:Int)(hk:0≤k):∀(t:Tm) (b:Int),goodT t=true->(∀j,¬j∈lvT t b)->lfT t b 0 k=t
 | .mk kd n l,b,hg,h=>by
  have hh:=goodT_mk hg
  by_cases h1:kd=1
  ·subst h1
   have hl:l=[]:=(head_spec hh.1).2.2.2.2.2.2.2.1 (.inl rfl)
   subst hl
   rw[lf_var hk]
   unfold lfn
   rw[if_neg fun hb=>h (n-b) (lv_var.2 ⟨hb,rfl⟩)]
  ·rw[lf_node h1,lfL_id k hk l kd 0 b hh.2 fun j hj=>h j ((lv_node h1).2 hj)]
theorem lfL_id(k:Int)(hk:0≤k):∀(l:List Tm) (kd:Int) (i:Nat) (b:Int),goodL l=true->(∀j,¬j∈lvL l kd i b)->lfL l kd i b 0 k=l
 | [],kd,i,b,hg,h=>by rw[lfL]
 |t::l,kd,i,b,hg,h=>by
  have hh:=goodL_cons hg
  rw[lfL,lf_id k hk t _ hh.1 fun j hj=>h j (lvL_cons.2 (.inl hj)),lfL_id k hk l kd (i+1) b hh.2 fun j hj=>h j (lvL_cons.2 (.inr hj))]
end
theorem und0(kd d:Int):undR' kd 0 d=d:=by unfold undR';simp
theorem und5(i:Nat)(d:Int):undR' 5 i d=d:=by unfold undR';simp
theorem lf_app{n d k:Int}{a b:Tm}:lfT (.mk 5 n [a,b]) d 0 k = .mk 5 n [lfT a d 0 k,lfT b d 0 k]:=by
 rw[lf_node (by decide),lfL,lfL,lfL,und5,und5]
theorem lf_lam1{n d k:Int}{a b:Tm}:lfT (.mk 4 n [a,b]) d 0 k = .mk 4 n [lfT a d 0 k,lfT b (d+1) 0 k]:=by
 rw[lf_node (by decide),lfL,lfL,lfL,und0];rfl
theorem lf_ap(d k:Int):∀(l:List Tm) (f:Tm),lfT (apT f l) d 0 k=apT (lfT f d 0 k) (l.map fun a=>lfT a d 0 k)
 | [],f=>by rw[apT,List.map_nil,apT]
 |a::l,f=>by rw[apT,lf_ap d k l,lf_app,List.map_cons,apT]
theorem lf_vu(c k:Int)(hk:0≤k):∀(m v:Nat),((v+m:Nat):Int)≤c->(vuT m v).map (fun a=>lfT a c 0 k)=vuT m v
 |0,v,h=>rfl
 |m+1,v,h=>by
  rw[vuT,List.map_cons,lf_vu c k hk m (v+1) (by omega),lf_var hk]
  unfold lfn
  rw[if_neg (by omega)]
theorem lf_vis(c k:Int)(hk:0≤k):∀(m:Nat),(m:Int)≤c->(visT m).map (fun a=>lfT a c 0 k)=visT m
 |0,h=>rfl
 |m+1,h=>by
  rw[visT,List.map_cons,lf_vis c k hk m (by omega),lf_var hk]
  unfold lfn
  rw[if_neg (by omega)]
theorem lf_upI(n:Nat)(d k:Int)(hd:0≤d)(hk:0≤k)(l:List Tm):(upI n l).map (fun a=>lfT a (n+d) 0 k)=upI n (l.map fun a=>lfT a d 0 k):=by
 unfold upI
 rw[List.map_map,List.map_map]
 refine List.map_congr_left fun a _=>?_
 have:=lf_lf n d k (by omega) hd hk a 0
 rw[Int.zero_add,Int.zero_add]at this
 exact this
theorem lf_ben{t:Tm}{own:Nat}{outer:List Tm}{d k:Int}(hd:0≤d)(hk:0≤k)(hg:goodT t=true)(h:∀j∈lvT t own,j<outer.length):lfT (benI t own outer) (own+d) 0 k=benI t own (outer.map fun a=>lfT a d 0 k):=by
 unfold benI
 have h1:=lf_si (own+d) k (by omega) hk (vuT own 0++(upI own outer).reverse) t 0 (Int.le_refl 0)
 have h2:(vuT own 0++(upI own outer).reverse).length=own+outer.length:=by rw[List.length_append,vuT_len,List.length_reverse];unfold upI;rw[List.length_map]
 have h3:lfT t (0+(((vuT own 0++(upI own outer).reverse).length:Int)+(own+d))) 0 k=t:=by
  refine lf_id k hk t _ hg fun j hj=>?_
  rw[h2,show (0:Int)+(((own+outer.length:Nat):Int)+(own+d))=own+(outer.length+own+d) by omega]at hj
  have h4:=(lv_shift t own _ j (by omega)).1 hj
  have h5:=h _ h4.2
  omega
 rw[Int.zero_add,h3,List.map_append,lf_vu _ k hk own 0 (by omega),List.map_reverse,lf_upI own d k hd hk]at h1
 exact h1
def lfTele(k:Int):List Tm->Int->List Tm
 | [],_=>[]
 |a::l,d=>lfT a d 0 k::lfTele k l (d+1)
theorem lf_lam(k:Int):∀(l:List Tm) (t:Tm) (d:Int),lfT (lamI l t) d 0 k=lamI (lfTele k l d) (lfT t (d+l.length) 0 k)
 | [],t,d=>by show lfT t d 0 k=lfT t (d+0) 0 k;rw[Int.add_zero]
 |a::l,t,d=>by
  show lfT (.mk 4 0 [a,lamI l t]) d 0 k = .mk 4 0 [lfT a d 0 k,lamI (lfTele k l (d+1)) (lfT t (d+(a::l).length) 0 k)]
  rw[lf_lam1,lf_lam k l t (d+1),show d+1+(l.length:Int)=d+(a::l).length by simp;omega]
theorem lf_bens{outer:List Tm}{d k:Int}(hd:0≤d)(hk:0≤k):∀(l:List Tm) (v:Nat),(∀(i:Nat) (h:i<l.length),goodT l[i]=true∧∀j∈lvT l[i] ((v+i:Nat):Int),j<outer.length)->lfTele k (bensI outer l v) (v+d)=bensI (outer.map fun a=>lfT a d 0 k) l v
 | [],v,h=>rfl
 |a::l,v,h=>by
  have h0:=h 0 (by simp)
  have e0:lfT (benI a v outer) (v+d) 0 k=benI a v (outer.map fun a=>lfT a d 0 k):=lf_ben hd hk (by simpa using h0.1) (by simpa using h0.2)
  rw[bensI,bensI,lfTele,e0,show (v:Int)+d+1=((v+1:Nat):Int)+d by omega,lf_bens hd hk l (v+1) fun i hi=>by
   have:=h (i+1) (by simp;omega)
   rw[show v+(i+1)=v+1+i by omega]at this
   simpa using this]
def RecG(r:Rec'):Prop:=(∀t∈r.around,goodT t=true)∧∀t∈r.at',goodT t=true
theorem lf_hyp{head:Tm}{args outer:List Tm}{r:Rec'}{a:Tm}{d k:Int}(hd:0≤d)(hk:0≤k)(hh:∀c,lfT head c 0 k=head)(hr:RecSc r outer.length)(hg:RecG r) :
  lfT (hypI head args outer r a) d 0 k=hypI head (args.map fun a=>lfT a d 0 k) (outer.map fun a=>lfT a d 0 k) r (lfT a d 0 k):=by
 unfold hypI
 rw[lf_lam,bens_len,lf_app,lf_ap,lf_ap,hh,lf_ap,show d+(r.around.length:Int)=r.around.length+d by omega,lf_upI _ d k hd hk,lf_vis _ k hk _ (by omega)]
 have h1:=lf_bens hd hk r.around 0 (outer:=outer) (k:=k) (d:=d) fun i hi=>⟨hg.1 _ (List.getElem_mem hi),by simpa using hr.1 i hi⟩
 rw[show ((0:Nat):Int)+d=d by omega]at h1
 rw[h1]
 have h2:(r.at'.map fun t=>benI t r.around.length outer).map (fun a=>lfT a (r.around.length+d) 0 k)=r.at'.map fun t=>benI t r.around.length (outer.map fun a=>lfT a d 0 k):=by
  rw[List.map_map]
  exact List.map_congr_left fun t ht=>lf_ben hd hk (hg.2 t ht) (hr.2 t ht)
 have h3:=lf_lf r.around.length d k (by omega) hd hk a 0
 rw[Int.zero_add,Int.zero_add]at h3
 rw[h2,h3]
theorem nth_map{l:List Tm}{n:Int}(f:Tm->Tm)(h:n.toNat<l.length):nth (l.map f) n=f (nth l n):=by
 unfold nth
 rw[List.getElem?_eq_getElem h,List.getElem?_eq_getElem (by simpa using h)];simp
theorem lf_steps{dd lev:Int}{args own:List Tm}{pars:Nat}{d k:Int}(hd:0≤d)(hk:0≤k)(hp:pars≤args.length):∀(rs:List Rec') (v:Nat) (t:Tm),v+rs.length≤own.length->(∀(i:Nat) (h:i<rs.length),RecSc rs[i] (pars+(v+i))∧RecG rs[i]) ->
  lfT (stepsI dd lev args own pars rs v t) d 0 k=stepsI dd lev (args.map fun a=>lfT a d 0 k) (own.map fun a=>lfT a d 0 k) pars rs v (lfT t d 0 k)
 | [],v,t,_,_=>rfl
 |r::rs,v,t,hl,hr=>by
  rw[List.length_cons]at hl
  rw[stepsI,stepsI,lf_steps hd hk hp rs (v+1) _ (by omega) (fun i hi=>by
   have:=hr (i+1) (by simp;omega)
   rw[show v+1+i=v+(i+1) by omega]
   simpa using this)]
  congr 1
  by_cases h:r.is=true
  ·have h0:=hr 0 (by simp)
   have hlen:(args.take pars++own.take v).length=pars+v:=by rw[List.length_append,List.length_take,List.length_take];omega
   rw[if_pos h,if_pos h,lf_app,lf_hyp hd hk (fun c=>?_) (by rw[hlen];simpa using h0.1) (by simpa using h0.2),List.map_append,List.map_take,List.map_take,nth_map _ (by simp;omega)]
   rw[lf_node (by decide),lfL,lfL,lf_node (by decide),lfL]
  ·rw[if_neg h,if_neg h]
theorem rec_g{l:List Ent}{t:Tm}{of b:Int}:RecG (recT l t of b):=by
 unfold recT
 split
 ·rename_i a
  have hw:=wholeT_ok (t:=t) (l:=(wholeT t).1) (y:=(wholeT t).2.1) (by rw[←a.1])
  exact⟨fun x hx=>(shapedT_spec (hw.2.2.2.2.2 x hx)).2.2,fun x hx=>(shapedT_spec (ar_shaped hw.2.2.2.2.1 (List.mem_of_mem_drop hx))).2.2⟩
 ·exact⟨fun x hx=>(nomatch hx),fun x hx=>(nomatch hx)⟩
theorem recs_g{l:List Ent}{of:Int}:∀(r:List Tm) (B:Int),∀x∈recsT l of r B,RecG x
 | [],B,x,h=>nomatch h
 |a::r,B,x,h=>by
  rcases List.mem_cons.1 h with h|h
  ·rw[h];exact rec_g
  ·exact recs_g r (B+1) x h
theorem parts_g{l:List Ent}{i:Int}:∀x∈(partsT l i).recs,RecG x:=by unfold partsT;exact recs_g _ _
theorem lf_step{N:ByteArray->Bool}{l:List Ent}{dd lev c:Int}{args own:List Tm}{d k:Int}(hd:0≤d)(hk:0≤k)(hE:AllE N l)(hc:isT l c 2=true)(hf:(ent l c).fam=dd)(ha:(args.length:Int)=(ent l dd).pars+1+(ent l dd).cons.length)(ho:own.length=(partsT l c).args.length) :
  lfT (stepI l dd lev c args own) d 0 k=stepI l dd lev c (args.map fun a=>lfT a d 0 k) (own.map fun a=>lfT a d 0 k):=by
 have hi:=isT_spec hc
 obtain⟨A,y,hw,hy,hA,hAp,hA24,p0,p1,f0,f1,fk,fp,fi,fs,hap,q0,q1⟩:=con_facts hE hi.1 hi.2.1 hi.2.2
 rw[hf]at fp q1
 have hlen:(partsT l c).recs.length=(partsT l c).args.length:=by unfold partsT;exact recsT_len l _ _ _
 have hsc:=parts_sc hE hi.1 hi.2.1 hi.2.2
 unfold stepI
 rw[lf_steps hd hk (pars:=(ent l dd).pars.toNat) (by omega) _ 0 _ (by omega) (fun i hi=>?_),lf_ap,nth_map _ (by omega)]
 have:=hsc i hi
 rw[fp,show (ent l dd).pars.toNat+i=(ent l dd).pars.toNat+(0+i) by omega]at this
 exact⟨this,parts_g _ (List.getElem_mem hi)⟩
theorem lf_hd(d k:Int)(hk:0≤k):∀t:Tm,goodT t=true->hdT (lfT t d 0 k)=lfT (hdT t) d 0 k∧arT (lfT t d 0 k)=(arT t).map (fun a=>lfT a d 0 k):=by
 refine app_ind ?_ ?_
 ·intro t hg h5
  have h6:(lfT t d 0 k).k≠5:=by
   obtain⟨kd,n,l⟩:=t
   by_cases h1:kd=1
   ·subst h1;rw[lf_var hk];show (1:Int)≠5;decide
   ·rw[lf_node h1];exact h5
  rw[hdT_not h6,arT_not h6,hdT_not h5,arT_not h5];exact⟨rfl,rfl⟩
 ·intro n a b hg ha hb ih
  rw[lf_app,hdT_app,arT_app,hdT_app,arT_app,ih.1,ih.2,List.map_append];exact⟨rfl,rfl⟩
theorem lf_k(d k:Int)(hk:0≤k)(t:Tm):(lfT t d 0 k).k=t.k∧(t.k≠1->(lfT t d 0 k).n=t.n):=by
 obtain⟨kd,n,l⟩:=t
 by_cases h1:kd=1
 ·subst h1;rw[lf_var hk];exact⟨rfl,fun h=>absurd rfl h⟩
 ·rw[lf_node h1];exact⟨rfl,fun _=>rfl⟩
theorem lf_sub2{t a b:Tm}{d k:Int}(h:t.sub=[a,b])(h1:t.k≠1):(lfT t d 0 k).sub=[lfT a d 0 k,lfT b (undR' t.k 1 d) 0 k]:=by
 obtain⟨kd,n,l⟩:=t
 have e:l=[a,b]:=h
 subst e
 rw[lf_node (show kd≠1 from h1),lfL,lfL,lfL,und0];rfl
theorem open_id:∀(t:Tm) (b:Int),0≤b->goodT t=true->siT [.mk 1 0 []] (lfT t (b+1) 0 1) b=t:=by
 have key:(∀(t:Tm) (b:Int),0≤b->goodT t=true->siT [.mk 1 0 []] (lfT t (b+1) 0 1) b=t):=by
  intro t
  induction hn:t.nodes using Nat.strongRecOn generalizing t with
  |ind m ih=>
   intro b hb hg
   obtain⟨kd,n,l⟩:=t
   have hh:=goodT_mk hg
   by_cases h1:kd=1
   ·subst h1
    have hl:l=[]:=(head_spec hh.1).2.2.2.2.2.2.2.1 (.inl rfl)
    subst hl
    rw[lf_var (by decide),siT]
    unfold lfn
    by_cases h2:b+1≤n
    ·rw[if_pos h2,if_pos ⟨rfl,by omega⟩,dif_neg (by simp;omega)];simp
    ·rw[if_neg h2]
     by_cases h3:b≤n
     ·have:n=b:=by omega
      subst this
      rw[if_pos ⟨rfl,h3⟩,dif_pos (by simp)]
      simp only[Int.sub_self,Int.toNat_zero,List.getElem_cons_zero]
      rw[lf_var hb]
      unfold lfn;rw[if_pos (Int.le_refl 0),Int.zero_add]
     ·rw[if_neg (fun h=>h3 h.2),siL]
   ·rw[lf_node h1,siT,if_neg (fun a=>h1 a.1)]
    have hL:∀(r:List Tm) (i:Nat),(∀x∈r,x.nodes<m)->goodL r=true->siL [.mk 1 0 []] (lfL r kd i (b+1) 0 1) kd i b=r:=by
     intro r
     induction r with
     |nil=>intro i _ _;simp only[lfL,siL]
     |cons a r ihr=>
      intro i hx hgl
      have hgl:=goodL_cons hgl
      have:=undR_ge kd i b
      rw[lfL,siL,ihr (i+1) (fun x h=>hx x (by simp[h])) hgl.2,undR_add,ih a.nodes (hx a (by simp)) a rfl (undR' kd i b) (by omega) hgl.1]
    rw[hL l 0 (fun x hx=>?_) hh.2]
    rw[←hn,Tm.nodes]
    have:∀(r:List Tm),x∈r->x.nodes≤nodesL r:=by
     intro r
     induction r with
     |nil=>intro h;cases h
     |cons a r ihr=>
      intro h
      rw[nodesL]
      rcases List.mem_cons.1 h with rfl|h
      ·omega
      ·have:=ihr h;omega
    have:=this l hx
    omega
 exact key
section
variable {N:ByteArray->Bool} {l:List Ent} {x:Tm} {d k:Int}
theorem lf_kind(hk:0≤k)(t:Tm):kindT l (lfT t d 0 k)=kindT l t:=by
 have h:=lf_k d k hk t
 unfold kindT
 rw[h.1]
 by_cases h6:t.k=6
 ·rw[if_pos h6,if_pos h6,h.2 (by omega)]
 ·rw[if_neg h6,if_neg h6]
def ActL(d k:Int):Act->Act->Prop
 | .none,a=>a = .none
 | .red Y e,a=>∃Y' e',a = .red Y' e'∧(e=0->e'=0->Y'=lfT Y d 0 k)
 | .tgt b,a=>a = .tgt (lfT b d 0 k)
theorem act_lf(hE:AllE N l)(hd:0≤d)(hk:0≤k)(hs:shapedT x=true):ActL d k (actT l x) (actT l (lfT x d 0 k)):=by
 have hg:=(shapedT_spec hs).2.2
 have hn:=good_n (shapedT_spec (hd_shaped hs)).2.2
 obtain⟨e1,e2⟩:=lf_hd d k hk x hg
 have hK:=lf_k d k hk (hdT x)
 have hKi:=lf_kind (l:=l) (d:=d) hk (hdT x)
 unfold actT
 rw[e1,e2,hKi,hK.1,List.length_map]
 by_cases h1:(hdT x).k=4∧0<(arT x).length
 ·rw[if_pos h1,if_pos h1]
  obtain⟨A,B,hAB,-,-⟩:=nth_sub2 (shapedT_spec (hd_shaped hs)).2.2 (.inr (.inl h1.1))
  refine⟨_,_,rfl,fun h0 h0'=>?_⟩
  rw[hAB]at h0
  rw[lf_sub2 hAB (by omega)]at h0'
  rw[hAB,lf_sub2 hAB (by omega),(subT_id h0).2.2.2,(subT_id h0').2.2.2]
  have h2:=lf_si d k hd hk [nth (arT x) 0] (nth [A,B] 1) 0 (Int.le_refl 0)
  have h3:undR' (hdT x).k 1 d=0+((([nth (arT x) 0]:List Tm).length:Int)+d):=by
   unfold undR';rw[if_pos ⟨rfl,by omega⟩];simp;omega
  rw[Int.zero_add]at h2
  rw[lf_ap,List.map_drop,h2,nth_map _ (by omega),h3]
  rfl
 ·rw[if_neg h1,if_neg h1]
  by_cases h2:kindT l (hdT x)=3
  ·rw[if_pos h2,if_pos h2]
   have h6:=kindT_spec h2 (by decide)
   refine⟨_,_,rfl,fun _ _=>?_⟩
   have hb:=(entryT_spec (hE.2 _ hn h6.2.1)).2.2.2.2.1 h6.2.2
   unfold defT at hb
   simp only[Bool.and_eq_true]at hb
   rw[hK.2 (by omega),lf_ap,lf_id k hk _ _ (shapedT_spec (closed_shaped hb.1)).2.2 fun j=>closed_lv hb.1 d j hd]
  ·rw[if_neg h2,if_neg h2]
   by_cases h3:kindT l (hdT x)=4
   ·have h6:=kindT_spec h3 (by decide)
    rw[if_pos h3,if_pos h3,hK.2 (by omega)]
    have hp:=(entryT_spec (hE.2 _ hn h6.2.1)).2.2.2.1 h6.2.2
    unfold projT at hp
    simp only[Bool.and_eq_true]at hp
    have hw:=ownedT_spec hp.1
    have hf:=familyT_spec ((entryT_spec (hE.2 _ hw.1 (by omega))).2.1 hw.2.2.1)
    by_cases h4:((arT x).length:Int)≤(ent l (hdT x).n).pars
    ·rw[if_pos h4,if_pos h4];rfl
    ·rw[if_neg h4,if_neg h4,nth_map _ (by omega)];rfl
   ·rw[if_neg h3,if_neg h3]
    by_cases h4:(hdT x).k=7
    ·rw[if_pos h4,if_pos h4,hK.2 (by omega)]
     by_cases h5:isT l (hdT x).n 1=true∧argsT (ent l (hdT x).n)≤(arT x).length
     ·have hi':=isT_spec h5.1
      have hf:=familyT_spec ((entryT_spec (hE.2 _ hi'.1 hi'.2.1)).2.1 hi'.2.2)
      have h6:argsT (ent l (hdT x).n)=(ent l (hdT x).n).pars+2+(ent l (hdT x).n).cons.length+(ent l (hdT x).n).inds:=by unfold argsT;rw[if_pos hi'.2.2]
      rw[if_pos h5,if_pos h5,nth_map _ (by omega)];rfl
     ·rw[if_neg h5,if_neg h5];rfl
    ·rw[if_neg h4,if_neg h4];rfl
theorem lf_con(hk:0≤k){z:Tm}(hs:shapedT z=true):isCon l (lfT z d 0 k)↔isCon l z:=by
 obtain⟨e1,e2⟩:=lf_hd d k hk z (shapedT_spec hs).2.2
 unfold isCon
 rw[e1,e2,lf_kind hk,List.length_map]
 constructor
 ·rintro ⟨a,b⟩
  have h6:=kindT_spec a (by decide)
  rw[(lf_k d k hk (hdT z)).2 (by omega)]at b
  exact⟨a,b⟩
 ·rintro ⟨a,b⟩
  have h6:=kindT_spec a (by decide)
  exact⟨a,by rw[(lf_k d k hk (hdT z)).2 (by omega)];exact b⟩
def ReL(d k:Int):Option (Tm×Int)->Option (Tm×Int)->Prop
 |none,a=>a=none
 |some (Y,e),a=>∃Y' e',a=some (Y',e')∧(e=0->e'=0->Y'=lfT Y d 0 k)
theorem react_lf(hE:AllE N l)(hd:0≤d)(hk:0≤k){a z:Tm}(hs:shapedT x=true)(hz:shapedT z=true)(ha:actT l x = .tgt a):ReL d k (reactT l x z) (reactT l (lfT x d 0 k) (lfT z d 0 k)):=by
 have hg:=(shapedT_spec hs).2.2
 obtain⟨e1,e2⟩:=lf_hd d k hk x hg
 obtain⟨f1,f2⟩:=lf_hd d k hk z (shapedT_spec hz).2.2
 have hK:=lf_k d k hk (hdT x)
 have hKi:=lf_kind (l:=l) (d:=d) hk (hdT x)
 have hZ:=lf_k d k hk (hdT z)
 have hC:=lf_con (l:=l) (d:=d) hk hz
 have ht:=act_tgt hE hs ha
 have hx1:(hdT x).k≠1:=by
  rcases ht.2 with h|h
  ·have:=kindT_spec h (by decide);omega
  ·omega
 have hox:OkA (arT x):=fun y hy=>shaped_ok (ar_shaped hs hy)
 have hoz:OkA (arT z):=fun w hw=>shaped_ok (ar_shaped hz hw)
 have hlx:(arT x).length≤8192:=by
  have h:=shapedT_spec hs
  have:=ar_len _ h.2.2
  omega
 have hlz:(arT z).length≤8192:=by
  have h:=shapedT_spec hz
  have:=ar_len _ h.2.2
  omega
 have hoU:∀ {L:List Tm},OkA L->OkA (L.map fun a=>lfT a d 0 k):=fun {L} h y hy=>by
  obtain⟨w,hw,rfl⟩:=List.mem_map.1 hy
  exact lfT_ok _ _ _ _ (h w hw)
 by_cases hc:isCon l z
 ·have hcz:=kindT_spec hc.1 (by decide)
  have hcs:=isCon_spec hz hc
  obtain⟨A,y,hw,-,-,hAp,-,p0,p1,-,-,-,fp,-⟩:=con_facts hE hcs.1 hcs.2.1 hcs.2.2.1
  have hzn:=hZ.2 (by omega)
  unfold reactT
  rw[e1,e2,f1,f2,hKi,hK.2 hx1,hzn]
  by_cases h4:kindT l (hdT x)=4
  ·rw[if_pos h4,if_pos h4]
   by_cases hf:(ent l (hdT z).n).fam=(ent l (hdT x).n).fam
   ·rw[if_pos ⟨hc,hf⟩,if_pos ⟨hC.2 hc,hf⟩]
    refine⟨_,_,rfl,fun h0 h0'=>?_⟩
    rw[←List.map_drop]at h0' ⊢
    rw[←List.map_drop,lf_ap]
    have g1:=(fieldX_spec l (hdT x).n ((arT z).drop (ent l (hdT z).n).pars.toNat) hE (hoz.drop _) (by rw[List.length_drop];omega)).2.2.2 h0
    have g2:=(fieldX_spec l (hdT x).n (((arT z).drop (ent l (hdT z).n).pars.toNat).map fun a=>lfT a d 0 k) hE (hoU (hoz.drop _)) (by rw[List.length_map,List.length_drop];omega)).2.2.2 h0'
    rw[g1.2.2.2,g2.2.2.2,nth_map _ (by omega)]
   ·rw[if_neg (fun h=>hf h.2),if_neg (fun h=>hf h.2)];rfl
  ·rw[if_neg h4,if_neg h4]
   by_cases hf:(ent l (hdT z).n).fam=(hdT x).n
   ·rw[if_pos ⟨hc,hf⟩,if_pos ⟨hC.2 hc,hf⟩]
    refine⟨_,_,rfl,fun h0 h0'=>?_⟩
    have h7:(hdT x).k=7:=(ht.2.resolve_left h4).1
    obtain⟨s,hsb,hs2⟩:∃s,(hdT x).sub=[s]∧s.k=2:=by
     have hgh:=(shapedT_spec (hd_shaped hs)).2.2
     revert hgh h7
     generalize hdT x=y
     intro h7 hgh
     obtain⟨kk,nn,ss⟩:=y
     obtain⟨s,hs,h2⟩:=(head_spec (goodT_mk hgh).1).2.2.2.2.2.2.1 h7
     exact⟨s,hs,h2⟩
    have hsn:nth (lfT (hdT x) d 0 k).sub 0=lfT s d 0 k:=by
     revert hsb h7
     generalize hdT x=y
     intro h7 hsb
     obtain⟨kk,nn,ss⟩:=y
     have e:ss=[s]:=hsb
     subst e
     have:kk≠1:=by have:kk=7:=h7;omega
     rw[lf_node this,lfL,lfL,und0];rfl
    have hsl:(nth (lfT (hdT x) d 0 k).sub 0).n=(nth (hdT x).sub 0).n:=by
     rw[hsn,hsb,(lf_k d k hk s).2 (by omega)];rfl
    rw[hsl,←List.map_take,←List.map_drop]at h0' ⊢
    rw[←List.map_drop,lf_ap]
    have g1:=(stepX_spec l (hdT x).n (nth (hdT x).sub 0).n (hdT z).n ((arT x).take ((ent l (hdT x).n).pars+1+(ent l (hdT x).n).cons.length).toNat) ((arT z).drop (ent l (hdT x).n).pars.toNat) hE (hox.take _) (hoz.drop _) (by rw[List.length_take];omega) (by rw[List.length_drop];omega)).2.2.2 h0
    have g2:=(stepX_spec l (hdT x).n (nth (hdT x).sub 0).n (hdT z).n (((arT x).take ((ent l (hdT x).n).pars+1+(ent l (hdT x).n).cons.length).toNat).map fun a=>lfT a d 0 k) (((arT z).drop (ent l (hdT x).n).pars.toNat).map fun a=>lfT a d 0 k) hE (hoU (hox.take _)) (hoU (hoz.drop _)) (by rw[List.length_map,List.length_take];omega) (by rw[List.length_map,List.length_drop];omega)).2.2.2 h0'
    obtain⟨-,-,c1,c2,c3,c4,-,-,c5,-⟩:=g1
    rw[g2.2.2.2.2.2.2.2.2.1,c5,lf_step hd hk hE c1 c2 c3 c4]
   ·rw[if_neg (fun h=>hf h.2),if_neg (fun h=>hf h.2)];rfl
 ·have r1:reactT l x z=none:=react_none.2 fun h=>hc h.1
  have r2:reactT l (lfT x d 0 k) (lfT z d 0 k)=none:=react_none.2 fun h=>hc (hC.1 h.1)
  rw[r1,r2];rfl
theorem br_lf(hE:AllE N l)(hd:0≤d)(hk:0≤k){y:Tm}{e n:Int}(h:Br l x y e n):shapedT x=true->e=0->∀ {z:Tm} {n2:Int},Br l (lfT x d 0 k) z 0 n2->z=lfT y d 0 k:=by
 induction h with
 |stop h=>
  intro hs _ z n2 hb
  have ha:=act_lf hE hd hk hs (l:=l)
  rw[h]at ha
  exact(hb.inv_none ha).1
 |redE _ hne=>exact fun _ h=>absurd h hne
 |redL _ _=>exact fun _ h=>absurd h (by decide)
 |red hact hsY _ ih=>
  intro hs he z n2 hb
  have ha:=act_lf hE hd hk hs (l:=l)
  rw[hact]at ha
  obtain⟨Y',e',ha,hY⟩:=ha
  cases hb with
  |stop h=>rw[ha]at h;cases h
  |redE _ h=>exact absurd rfl h
  |red h1 h2 h3=>
   rw[ha]at h1
   injection h1 with h1 h4
   rw[←h1,hY rfl h4]at h3
   exact ih hsY he h3
  |tgtE h _ _=>rw[ha]at h;cases h
  |tgtN h _ _=>rw[ha]at h;cases h
  |tgtRE h _ _ _=>rw[ha]at h;cases h
  |tgtR h _ _ _ _=>rw[ha]at h;cases h
 |tgtE _ _ hne=>exact fun _ h=>absurd h hne
 |tgtN hact hbz hre ih=>
  intro hs _ z n2 hb
  have ha:=act_lf hE hd hk hs (l:=l)
  rw[hact]at ha
  have hsa:=ar_shaped hs (act_tgt hE hs hact).1
  have hsz:=hbz.shaped hsa rfl
  have hr:=react_lf hE hd hk hs hsz hact
  rw[hre]at hr
  cases hb with
  |stop h=>rfl
  |redE _ h=>exact absurd rfl h
  |red h _ _=>rw[show _=Act.tgt _ from ha]at h;cases h
  |tgtE _ _ h=>exact absurd rfl h
  |tgtN h1 h2 h3=>rfl
  |tgtRE _ _ _ h=>exact absurd rfl h
  |tgtR h1 h2 h3 h4 h5=>
   rw[show _=Act.tgt _ from ha]at h1;injection h1 with h1;subst h1
   rw[ih hsa rfl h2,show _=none from hr]at h3;cases h3
 |tgtRE _ _ _ hne=>exact fun _ h=>absurd h hne
 |tgtRL _ _ _ _=>exact fun _ h=>absurd h (by decide)
 |tgtR hact hbz hre hsY _ ih1 ih2=>
  intro hs he z n2 hb
  have ha:=act_lf hE hd hk hs (l:=l)
  rw[hact]at ha
  have hsa:=ar_shaped hs (act_tgt hE hs hact).1
  have hsz:=hbz.shaped hsa rfl
  have hr:=react_lf hE hd hk hs hsz hact
  rw[hre]at hr
  obtain⟨Y',e',hr,hY⟩:=hr
  cases hb with
  |stop h=>rw[show _=Act.tgt _ from ha]at h;cases h
  |redE _ h=>exact absurd rfl h
  |red h _ _=>rw[show _=Act.tgt _ from ha]at h;cases h
  |tgtE _ _ h=>exact absurd rfl h
  |tgtN h1 h2 h3=>
   rw[show _=Act.tgt _ from ha]at h1;injection h1 with h1;subst h1
   rw[ih1 hsa rfl h2,hr]at h3;cases h3
  |tgtRE _ _ _ h=>exact absurd rfl h
  |tgtR h1 h2 h3 h4 h5=>
   rw[show _=Act.tgt _ from ha]at h1;injection h1 with h1;subst h1
   rw[ih1 hsa rfl h2,hr]at h3
   injection h3 with h3
   have h6:=congrArg Prod.fst h3
   have h7:=congrArg Prod.snd h3
   simp only at h6 h7
   rw[←h6,hY rfl h7]at h5
   exact ih2 hsY he h5
end
section
variable {N:ByteArray->Bool} {l:List Ent} {x:Tm} {d k:Int}
theorem lf_facts(hE:AllE N l)(hk:0≤k)(hs:shapedT x=true){b:Tm}(h:actT l x = .tgt b):0≤(hdT (lfT x d 0 k)).n∧(kindT l (hdT (lfT x d 0 k))=4->0≤(ent l (hdT (lfT x d 0 k)).n).pars)∧((hdT (lfT x d 0 k)).k=7->isT l (hdT (lfT x d 0 k)).n 1=true->0≤(ent l (hdT (lfT x d 0 k)).n).inds)∧(1≤argsT (ent l (hdT (lfT x d 0 k)).n)∨¬((hdT (lfT x d 0 k)).k=7∧isT l (hdT (lfT x d 0 k)).n 1=true)):=by
 have ht:=(act_tgt hE hs h).2
 have hx1:(hdT x).k≠1:=by
  rcases ht with h|h
  ·have:=kindT_spec h (by decide);omega
  ·omega
 have hn:=good_n (shapedT_spec (hd_shaped hs)).2.2
 rw[(lf_hd d k hk x (shapedT_spec hs).2.2).1,lf_kind hk,(lf_k d k hk (hdT x)).1,(lf_k d k hk (hdT x)).2 hx1]
 refine⟨hn,fun h4=>?_,fun _ hi=>?_,?_⟩
 ·have hk:=kindT_spec h4 (by decide)
  have hp:=(entryT_spec (hE.2 _ hn hk.2.1)).2.2.2.1 hk.2.2
  unfold projT at hp
  simp only[Bool.and_eq_true]at hp
  have hw:=ownedT_spec hp.1
  have hf:=familyT_spec ((entryT_spec (hE.2 _ hw.1 (by omega))).2.1 hw.2.2.1)
  omega
 ·have hi':=isT_spec hi
  have hf:=familyT_spec ((entryT_spec (hE.2 _ hi'.1 hi'.2.1)).2.1 hi'.2.2)
  omega
 ·by_cases h7:(hdT x).k=7∧isT l (hdT x).n 1=true
  ·have hi':=isT_spec h7.2
   have hf:=familyT_spec ((entryT_spec (hE.2 _ hi'.1 hi'.2.1)).2.1 hi'.2.2)
   left
   unfold argsT;rw[if_pos hi'.2.2];omega
  ·exact .inr h7
theorem br_lf_app(hE:AllE N l)(hd:0≤d)(hk:0≤k)(a:Tm){y:Tm}{e n:Int}(h:Br l x y e n):shapedT x=true->e=0->∀ {z:Tm} {n2:Int},Br l (.mk 5 0 [lfT x d 0 k,a]) z 0 n2->∃n3,Br l (.mk 5 0 [lfT y d 0 k,a]) z 0 n3:=by
 induction h with
 |stop _=>exact fun _ _ _ n2 h=>⟨n2,h⟩
 |redE _ hne=>exact fun _ h=>absurd h hne
 |redL _ _=>exact fun _ h=>absurd h (by decide)
 |red hact hsY _ ih=>
  intro hs he z n2 hb
  have ha:=act_lf hE hd hk hs (l:=l)
  rw[hact]at ha
  obtain⟨Y',e',ha,hY⟩:=ha
  have ha:=act_app_red a ha
  cases hb with
  |stop h=>rw[ha]at h;cases h
  |redE _ h=>exact absurd rfl h
  |red h1 h2 h3=>
   rw[ha]at h1
   injection h1 with h1 h4
   rw[←h1,hY rfl h4]at h3
   exact ih hsY he h3
  |tgtE h _ _=>rw[ha]at h;cases h
  |tgtN h _ _=>rw[ha]at h;cases h
  |tgtRE h _ _ _=>rw[ha]at h;cases h
  |tgtR h _ _ _ _=>rw[ha]at h;cases h
 |tgtE _ _ hne=>exact fun _ h=>absurd h hne
 |tgtN _ _ _=>exact fun _ _ _ n2 h=>⟨n2,h⟩
 |tgtRE _ _ _ hne=>exact fun _ h=>absurd h hne
 |tgtRL _ _ _ _=>exact fun _ h=>absurd h (by decide)
 |tgtR hact hbz hre hsY _ ih1 ih2=>
  intro hs he z n2 hb
  have ha0:=act_lf hE hd hk hs (l:=l)
  rw[hact]at ha0
  have ha0:actT l _=Act.tgt _:=ha0
  obtain⟨f1,f2,f3,f4⟩:=lf_facts hE hk hs hact (d:=d)
  have ha:=act_app_tgt a f1 f2 f4 ha0
  have hsa:=ar_shaped hs (act_tgt hE hs hact).1
  have hsz:=hbz.shaped hsa rfl
  have hr:=react_lf hE hd hk hs hsz hact
  rw[hre]at hr
  obtain⟨Y',e',hr,hY⟩:=hr
  have hra:=react_app a (tgt_room f2 f3 ha0) hr
  cases hb with
  |stop h=>rw[ha]at h;cases h
  |redE _ h=>exact absurd rfl h
  |red h _ _=>rw[ha]at h;cases h
  |tgtE _ _ h=>exact absurd rfl h
  |tgtN h1 h2 h3=>
   rw[ha]at h1;injection h1 with h1;subst h1
   rw[br_lf hE hd hk hbz hsa rfl h2,hra]at h3;cases h3
  |tgtRE _ _ _ h=>exact absurd rfl h
  |tgtR h1 h2 h3 h4 h5=>
   rw[ha]at h1;injection h1 with h1;subst h1
   rw[br_lf hE hd hk hbz hsa rfl h2,hra]at h3
   injection h3 with h3
   have h6:=congrArg Prod.fst h3
   have h7:=congrArg Prod.snd h3
   simp only at h6 h7
   rw[←h6,hY rfl h7]at h5
   exact ih2 hsY he h5
end
theorem open_same{N:ByteArray->Bool}{l:List Ent}(hE:AllE N l){t y z1 z2:Tm}{j k1 k2:Int}(hs:shapedT t=true)(hB:Br l t y 0 j)(ho:(opnT y).2=0)(h1:Br l (.mk 5 0 [lfT t 0 0 1,.mk 1 0 []]) z1 0 k1)(h2:Br l (opnT y).1 z2 0 k2):z1=z2:=by
 have hsy:=hB.shaped hs rfl
 have hgy:=(shapedT_spec hsy).2.2
 obtain⟨n3,h3⟩:=br_lf_app hE (Int.le_refl 0) (by decide) (.mk 1 0 []) hB hs rfl h1
 unfold opnT at ho h2
 by_cases h4:y.k=4
 ·rw[if_pos h4]at h2
  obtain⟨A,B,hAB,-,hgB⟩:=nth_sub2 hgy (.inr (.inl h4))
  have hact:actT l (.mk 5 0 [lfT y 0 0 1,.mk 1 0 []]) = .red (apT (subT (lfT B 1 0 1) [.mk 1 0 []]).1 []) (subT (lfT B 1 0 1) [.mk 1 0 []]).2:=by
   have e:hdT (lfT y 0 0 1)=lfT y 0 0 1∧arT (lfT y 0 0 1)=[]:=by
    have h5:(lfT y 0 0 1).k≠5:=by rw[(lf_k 0 1 (by decide) y).1];omega
    exact⟨hdT_not h5,arT_not h5⟩
   unfold actT
   rw[hdT_app,arT_app,e.1,e.2,if_pos ⟨by rw[(lf_k 0 1 (by decide) y).1];exact h4,by simp⟩,lf_sub2 hAB (by omega)]
   have:undR' y.k 1 0=1:=by unfold undR';rw[if_pos ⟨rfl,by omega⟩];rfl
   rw[this];rfl
  cases h3 with
  |stop h=>rw[hact]at h;cases h
  |redE _ h=>exact absurd rfl h
  |red g1 g2 g3=>
   rw[hact]at g1
   injection g1 with g1 g4
   rw[←g1,(subT_id g4).2.2.2,apT]at g3
   have:=open_id B 0 (Int.le_refl 0) hgB
   rw[show (0:Int)+1=1 from rfl]at this
   rw[this]at g3
   have e:nth y.sub 1=B:=by rw[hAB];rfl
   rw[e]at h2
   exact(h2.det g3).1
  |tgtE h _ _=>rw[hact]at h;cases h
  |tgtN h _ _=>rw[hact]at h;cases h
  |tgtRE h _ _ _=>rw[hact]at h;cases h
  |tgtR h _ _ _ _=>rw[hact]at h;cases h
 ·rw[if_neg h4]at ho h2
  have hl:(liftT y 1 0).2=0:=by
   refine Classical.byContradiction fun h=>?_
   simp only[if_neg h]at ho
   exact h ho
  simp only[(liftT_id hl).2.2.2.2]at h2
  exact(h2.det h3).1
theorem Cv.fun{N:ByteArray->Bool}{l:List Ent}(hE:AllE N l){t A:Tm}{b:Bool}{k:Int}(h:Cv l false (.mk 4 0 [A,.mk 5 0 [lfT t 0 0 1,.mk 1 0 []]]) t b k):b=true:=by
 obtain⟨r1,r2,x',k1,y,k2,k3,h1,h2,h3,-⟩:=h.inv
 have hact:actT l (.mk 4 0 [A,.mk 5 0 [lfT t 0 0 1,.mk 1 0 []]]) = .none:=by
  unfold actT
  have e:hdT (.mk 4 0 [A,.mk 5 0 [lfT t 0 0 1,.mk 1 0 []]])=(.mk 4 0 [A,.mk 5 0 [lfT t 0 0 1,.mk 1 0 []]]:Tm)∧arT (.mk 4 0 [A,.mk 5 0 [lfT t 0 0 1,.mk 1 0 []]])=[]:=⟨hdT_not (by simp[Tm.k]),arT_not (by simp[Tm.k])⟩
  rw[e.1,e.2,if_neg (fun h=>by simp at h),if_neg (fun h=>by have:=(kindT_spec h (by decide)).1;simp[Tm.k]at this),if_neg (fun h=>by have:=(kindT_spec h (by decide)).1;simp[Tm.k]at this),if_neg (by simp[Tm.k])]
 have hx:=(h1.inv_none hact).1
 subst hx
 rw[headC_lam (.inl rfl)]at h3
 obtain⟨-,p2,b1,q1,c,dd⟩:=h3
 have p2':(opnT y).2=0:=p2
 have c':Cv l false (.mk 5 0 [lfT t 0 0 1,.mk 1 0 []]) (opnT y).1 b1 q1:=c
 obtain⟨s1,s2,u,j1,v,j2,j3,g1,g2,g3,-⟩:=c'.inv
 have e:=open_same hE r2.shaped h2 p2' g1 g2
 subst e
 have hb:b1=true:=head_self (fun m x b k h=>h.refl hE) g3
 rcases dd with⟨hh,_⟩|⟨_,k2,⟨hh,_⟩,_⟩
 ·rw[hb]at hh;cases hh
 ·exact hh
def bs(s:ByteArray):List Int:=s.data.toList.map fun b=>(b.toNat:Int)
theorem bs_len(s:ByteArray):(bs s).length=s.size:=by unfold bs;rw[List.length_map,Array.length_toList];rfl
theorem bs_mem{s:ByteArray}{c:Int}(h:c∈bs s):0≤c∧c<256:=by
 unfold bs at h
 obtain⟨b,-,rfl⟩:=List.mem_map.1 h
 have:=b.toNat_lt
 omega
theorem gbyte_bs(s:ByteArray){i:Int}(h:0≤i):gbyte s i=(bs s)[i.toNat]?:=by
 unfold gbyte bs
 rw[if_pos h,List.getElem?_map,Array.getElem?_toList]
 have e:s[i.toNat]? = s.data[i.toNat]?:=by
  by_cases hi:i.toNat<s.size
  ·rw[getElem?_pos s _ hi,getElem?_pos s.data _ hi];rfl
  ·rw[getElem?_neg s _ hi,getElem?_neg s.data _ hi]
 rw[e]
 cases s.data[i.toNat]? <;> rfl
theorem gsub_bs(s:ByteArray){a b:Nat}(h1:a≤b)(h2:b≤s.size):∃r,gsub s (a:Int) (b:Int)=some r∧bs r=((bs s).drop a).take (b-a):=by
 refine⟨_,by unfold gsub;rw[if_pos (by omega)],?_⟩
 unfold bs
 rw[ByteArray.data_extract,Array.toList_extract,List.map_take,List.map_drop,Int.toNat_natCast,Int.toNat_natCast]
theorem gstr_bs(ns:List Int)(h:∀c∈ns,0≤c∧c<256):bs (gstr ns)=ns:=by
 have key:∀(ns:List Int) (r:ByteArray),(∀c∈ns,0≤c∧c<256)->bs (ns.foldl (fun r n=>r.push (UInt8.ofNat n.toNat)) r)=bs r++ns:=by
  intro ns
  induction ns with
  |nil=>intro r _;simp
  |cons c ns ih=>
   intro r h
   rw[List.foldl_cons,ih _ fun x hx=>h x (by simp[hx])]
   have hc:=h c (by simp)
   have e:bs (r.push (UInt8.ofNat c.toNat))=bs r++[c]:=by
    unfold bs
    rw[ByteArray.data_push,Array.toList_push,List.map_append]
    congr 1
    simp only[List.map_cons,List.map_nil,UInt8.toNat_ofNat']
    rw[Nat.mod_eq_of_lt (by omega),Int.toNat_of_nonneg hc.1]
   rw[e];simp
 have:=key ns ByteArray.empty h
 unfold gstr
 rw[this];rfl
theorem baList(s:ByteArray):s.toList=s.data.toList:=by
 have key:∀(m i:Nat) (r:List UInt8),i+m=s.size->ByteArray.toList.loop s i r=r.reverse++s.data.toList.drop i:=by
  intro m
  induction m with
  |zero=>
   intro i r h
   rw[ByteArray.toList.loop,if_neg (by omega),List.drop_eq_nil_of_le (by rw[Array.length_toList];show s.size≤i;omega),List.append_nil]
  |succ m ih=>
   intro i r h
   have hi:i<s.data.toList.length:=by rw[Array.length_toList];show i<s.size;omega
   rw[ByteArray.toList.loop,if_pos (by omega),ih _ _ (by omega),List.drop_eq_getElem_cons hi]
   have e:s.get! i=s.data.toList[i]:=by
    have h2:i<s.data.size:=by simpa using hi
    show s.data[i]! = _
    rw[getElem!_pos s.data i h2];simp
   rw[e];simp
 have:=key s.size 0 [] (by omega)
 unfold ByteArray.toList
 rw[this];simp
theorem bs_eq(a b:ByteArray):(a.toList==b.toList)=decide (bs a=bs b):=by
 rw[baList,baList]
 by_cases h:a.data.toList=b.data.toList
 ·have e:bs a=bs b:=by unfold bs;rw[h]
  rw[h];simp[e]
 ·have e:¬bs a=bs b:=fun e=>h (by
   unfold bs at e
   exact(List.map_inj_right (fun x y hxy=>UInt8.toNat_inj.1 (by omega))).1 e)
  rw[decide_eq_false e]
  simpa using h
def sgnT(n:Int):Bool:=decide (0≤n∧n≤1114111∧(n<55296∨57343<n))
def widT(n:Int):Nat:=if 65536≤n then 4 else if 2048≤n then 3 else if 128≤n then 2 else 1
def putT(n:Int):List Int:=
 if n<128 then [n]else if n<2048 then [192+n / 64,128+n % 64]else if n<65536 then [224+n / 4096,128+(n / 64) % 64,128+n % 64]
 else [240+n / 262144,128+(n / 64 / 64) % 64,128+(n / 64) % 64,128+n % 64]
theorem put_len(n:Int):(putT n).length=widT n:=by
 unfold putT widT
 by_cases h1:n<128
 ·rw[if_pos h1,if_neg (by omega),if_neg (by omega),if_neg (by omega)];rfl
 ·rw[if_neg h1]
  by_cases h2:n<2048
  ·rw[if_pos h2,if_neg (by omega),if_neg (by omega),if_pos (by omega)];rfl
  ·rw[if_neg h2]
   by_cases h3:n<65536
   ·rw[if_pos h3,if_neg (by omega),if_pos (by omega)];rfl
   ·rw[if_neg h3,if_pos (by omega)];rfl
def leadT(c:Int):Nat×Int:=if c<128 then(1,c)else if c<192 then(0,0)else if c<224 then(2,c-192)else if c<240 then(3,c-224)else if c<248 then(4,c-240)else(0,0)
def ctnT:Nat->Int->List Int->Option Int
 |0,n,_=>some n
 |_+1,_,[]=>none
 |m+1,n,d::r=>if 128≤d∧d<192 then ctnT m (n*64+(d-128)) r else none
def decT:List Int->Option (Int×Nat)
 | []=>none
 |c::r=>if (leadT c).1=0 then none else match ctnT ((leadT c).1-1) (leadT c).2 r with
  |some n=>if sgnT n=true∧widT n=(leadT c).1 then some (n,(leadT c).1)else none
  |none=>none
theorem con_some{m:Nat}{n x:Int}{r:List Int}(h:ctnT m n r=some x):m≤r.length:=by
 induction m generalizing n r with
 |zero=>omega
 |succ m ih=>
  cases r with
  |nil=>cases h
  |cons d r=>
   rw[ctnT]at h
   split at h
   ·have:=ih h;simp;omega
   ·cases h
theorem dec_put{n:Int}(h:sgnT n=true)(r:List Int):decT (putT n++r)=some (n,(putT n).length):=by
 have h':=of_decide_eq_true h
 have hl:=put_len n
 rw[hl]
 unfold putT
 by_cases h1:n<128
 ·have hw:widT n=1:=by unfold widT;rw[if_neg (by omega),if_neg (by omega),if_neg (by omega)]
  have e:leadT n=(1,n):=by unfold leadT;rw[if_pos h1]
  rw[if_pos h1,hw]
  simp only[List.cons_append,List.nil_append,decT,e,Nat.sub_self,ctnT]
  rw[if_neg (by decide),if_pos ⟨h,hw⟩]
 ·rw[if_neg h1]
  by_cases h2:n<2048
  ·have hw:widT n=2:=by unfold widT;rw[if_neg (by omega),if_neg (by omega),if_pos (by omega)]
   have e:leadT (192+n / 64)=(2,n / 64):=by unfold leadT;rw[if_neg (by omega),if_neg (by omega),if_pos (by omega)];congr 1;omega
   rw[if_pos h2,hw]
   simp only[List.cons_append,List.nil_append,decT,e,ctnT]
   rw[if_neg (by omega),if_pos (by omega)]
   have e2:n / 64*64+(128+n % 64-128)=n:=by omega
   simp only[e2]
   rw[if_pos ⟨h,hw⟩]
  ·rw[if_neg h2]
   by_cases h3:n<65536
   ·have hw:widT n=3:=by unfold widT;rw[if_neg (by omega),if_pos (by omega)]
    have e:leadT (224+n / 4096)=(3,n / 4096):=by unfold leadT;rw[if_neg (by omega),if_neg (by omega),if_neg (by omega),if_pos (by omega)];congr 1;omega
    rw[if_pos h3,hw]
    simp only[List.cons_append,List.nil_append,decT,e,ctnT]
    rw[if_neg (by omega),if_pos (by omega),if_pos (by omega)]
    have e2:(n / 4096*64+(128+n / 64 % 64-128))*64+(128+n % 64-128)=n:=by omega
    simp only[e2]
    rw[if_pos ⟨h,hw⟩]
   ·have hw:widT n=4:=by unfold widT;rw[if_pos (by omega)]
    have e:leadT (240+n / 262144)=(4,n / 262144):=by unfold leadT;rw[if_neg (by omega),if_neg (by omega),if_neg (by omega),if_neg (by omega),if_pos (by omega)];congr 1;omega
    rw[if_neg h3,hw]
    simp only[List.cons_append,List.nil_append,decT,e,ctnT]
    rw[if_neg (by omega),if_pos (by omega),if_pos (by omega),if_pos (by omega)]
    have e2:((n / 262144*64+(128+n / 64 / 64 % 64-128))*64+(128+n / 64 % 64-128))*64+(128+n % 64-128)=n:=by omega
    simp only[e2]
    rw[if_pos ⟨h,hw⟩]
theorem dec_some{l:List Int}{n:Int}{w:Nat}(hb:∀c∈l,0≤c∧c<256)(h:decT l=some (n,w)):sgnT n=true∧w=(putT n).length∧l=putT n++l.drop w:=by
 cases l with
 |nil=>cases h
 |cons c r=>
  have hc:=hb c (by simp)
  rw[decT]at h
  split at h
  ·cases h
  ·rename_i h0
   split at h
   ·rename_i x hx
    split at h
    ·rename_i hs
     obtain⟨hs,hw⟩:=hs
     obtain⟨rfl,rfl⟩:x=n∧(leadT c).1=w:=by injection h with h;injection h with a b;exact⟨a,b⟩
     refine⟨hs,by rw[put_len,hw],?_⟩
     have hs':=of_decide_eq_true hs
     revert hx hw h0
     unfold leadT
     by_cases a1:c<128
     ·rw[if_pos a1]
      intro h0 hx hw
      simp only[ctnT,Nat.sub_self,Option.some.injEq]at hx
      subst hx
      unfold putT;rw[if_pos a1];rfl
     ·rw[if_neg a1]
      by_cases a2:c<192
      ·rw[if_pos a2];intro h0;exact absurd rfl h0
      ·rw[if_neg a2]
       by_cases a3:c<224
       ·rw[if_pos a3]
        intro h0 hx hw
        rcases r with _|⟨d,r⟩
        ·cases hx
        ·simp only[ctnT,Nat.add_one_sub_one]at hx
         split at hx
         ·rename_i hd
          simp only[Option.some.injEq]at hx
          have hn:128≤x∧x<2048:=by unfold widT at hw;split at hw<;>(try split at hw)<;>(try split at hw)<;>first|omega | (simp at hw)
          unfold putT
          rw[if_neg (by omega),if_pos hn.2]
          have e1:192+x / 64=c:=by omega
          have e2:128+x % 64=d:=by omega
          rw[e1,e2];rfl
         ·cases hx
       ·rw[if_neg a3]
        by_cases a4:c<240
        ·rw[if_pos a4]
         intro h0 hx hw
         rcases r with _|⟨d,_|⟨e,r⟩⟩
         ·cases hx
         ·simp only[ctnT,Nat.reduceSub]at hx
          split at hx<;>cases hx
         ·simp only[ctnT,Nat.reduceSub]at hx
          split at hx
          ·split at hx
           ·rename_i hd he
            simp only[Option.some.injEq]at hx
            have hn:2048≤x∧x<65536:=by unfold widT at hw;split at hw<;>(try split at hw)<;>(try split at hw)<;>first|omega | (simp at hw)
            unfold putT
            rw[if_neg (by omega),if_neg (by omega),if_pos hn.2]
            have e1:224+x / 4096=c:=by omega
            have e2:128+x / 64 % 64=d:=by omega
            have e3:128+x % 64=e:=by omega
            rw[e1,e2,e3];rfl
           ·cases hx
          ·cases hx
        ·rw[if_neg a4]
         by_cases a5:c<248
         ·rw[if_pos a5]
          intro h0 hx hw
          rcases r with _|⟨d,_|⟨e,_|⟨f,r⟩⟩⟩
          ·cases hx
          ·simp only[ctnT,Nat.reduceSub]at hx
           split at hx<;>cases hx
          ·simp only[ctnT,Nat.reduceSub]at hx
           split at hx
           ·split at hx<;>cases hx
           ·cases hx
          ·simp only[ctnT,Nat.reduceSub]at hx
           split at hx
           ·split at hx
            ·split at hx
             ·rename_i hd he hf
              simp only[Option.some.injEq]at hx
              have hn:65536≤x:=by unfold widT at hw;split at hw<;>(try split at hw)<;>(try split at hw)<;>first|omega | (simp at hw)
              unfold putT
              rw[if_neg (by omega),if_neg (by omega),if_neg (by omega)]
              have e1:240+x / 262144=c:=by omega
              have e2:128+x / 64 / 64 % 64=d:=by omega
              have e3:128+x / 64 % 64=e:=by omega
              have e4:128+x % 64=f:=by omega
              rw[e1,e2,e3,e4];rfl
             ·cases hx
            ·cases hx
           ·cases hx
         ·rw[if_neg a5];intro h0;exact absurd rfl h0
    ·cases h
   ·cases h
def e276(qq:Nat)(p0:Int):Option (Bool):=
 if decide (p0<0)then
 some false
 else
 if decide (p0>1114111)then
 some false
 else
 if decide (p0<55296)then
 some true
 else
 some (decide (p0>57343))
abbrev K276 (p0:Int) (r:Bool) (C:Cf):Prop:=C 276 [] [ai p0] (ab r) [] 0
theorem q276:Qf 276 Tryz.f276:=⟨Tryz.func276,by kernel_rfl⟩
theorem k276{p0 r}(h:K276 p0 r Ci):K276 p0 r Ct:=⟨h,⟨tv,tv⟩,forall_nil,tv,forall_nil⟩
theorem c276{qq p0 r}(h:e276 qq p0=some r):K276 p0 r Ct:=by
 unfold e276 at h
 rcases spl h with⟨h1,h⟩|⟨h1,h⟩
 obtain rfl:=sj h
 exact k276 (tF q276 0 [] (oB 0 h1 o0))
 have k:=oB 0 h1 o0
 rcases spl h with⟨h2,h⟩|⟨h2,h⟩
 obtain rfl:=sj h
 exact k276 (tF q276 0 [] (oB 0 h2 k))
 have k:=oB 0 h2 k
 rcases spl h with⟨h3,h⟩|⟨h3,h⟩
 obtain rfl:=sj h
 exact k276 (tF q276 0 [] (oB 0 h3 k))
 obtain rfl:=sj h
 exact k276 (tF q276 1 [] (oB 0 h3 k))
theorem u8_id{x:Int}(h0:0≤x)(h1:x<256):IntKind.u8.wrap x=x:=by
 unfold IntKind.wrap
 have e:(2 ^ IntKind.u8.bits:Int)=256:=by rfl
 have s:IntKind.u8.signed=false:=rfl
 simp only[e,s,Bool.false_and,Bool.false_eq_true,if_false]
 omega
theorem and_bits{c:Int}(h0:0≤c)(h1:c<256):IntKind.u8.wrap ((BitVec.ofInt (IntKind.bits .u8) c &&& BitVec.ofInt (IntKind.bits .u8) 31).toNat:Nat)=c % 32∧IntKind.u8.wrap ((BitVec.ofInt (IntKind.bits .u8) c &&& BitVec.ofInt (IntKind.bits .u8) 15).toNat:Nat)=c % 16∧IntKind.u8.wrap ((BitVec.ofInt (IntKind.bits .u8) c &&& BitVec.ofInt (IntKind.bits .u8) 7).toNat:Nat)=c % 8
  ∧ IntKind.u8.wrap ((BitVec.ofInt (IntKind.bits .u8) c &&& BitVec.ofInt (IntKind.bits .u8) 63).toNat:Nat)=c % 64∧IntKind.u8.wrap ((BitVec.ofInt (IntKind.bits .u8) c &&& BitVec.ofInt (IntKind.bits .u8) 192).toNat:Nat)=c / 64*64:=by
 have key:((List.range 256).all fun i=>decide (IntKind.u8.wrap ((BitVec.ofInt (IntKind.bits .u8) (i:Int) &&& BitVec.ofInt (IntKind.bits .u8) 31).toNat:Nat)=(i:Int) % 32)&&decide (IntKind.u8.wrap ((BitVec.ofInt (IntKind.bits .u8) (i:Int) &&& BitVec.ofInt (IntKind.bits .u8) 15).toNat:Nat)=(i:Int) % 16)&&decide (IntKind.u8.wrap ((BitVec.ofInt (IntKind.bits .u8) (i:Int) &&& BitVec.ofInt (IntKind.bits .u8) 7).toNat:Nat)=(i:Int) % 8)
  && decide (IntKind.u8.wrap ((BitVec.ofInt (IntKind.bits .u8) (i:Int) &&& BitVec.ofInt (IntKind.bits .u8) 63).toNat:Nat)=(i:Int) % 64)&&decide (IntKind.u8.wrap ((BitVec.ofInt (IntKind.bits .u8) (i:Int) &&& BitVec.ofInt (IntKind.bits .u8) 192).toNat:Nat)=(i:Int) / 64*64))=true:=by kernel_rfl
 have h:=List.all_eq_true.1 key c.toNat (List.mem_range.2 (by omega))
 simp only[Bool.and_eq_true,decide_eq_true_eq]at h
 rw[Int.toNat_of_nonneg h0]at h
 exact⟨h.1.1.1.1,h.1.1.1.2,h.1.1.2,h.1.2,h.2⟩
theorem or_bits{n x:Int}(h0:0≤n)(h1:n<1048576)(h2:0≤x)(h3:x<64):IntKind.i64.wrap ((BitVec.ofInt (IntKind.bits .i64) (w64 (n*2 ^ (min (Int.toNat 6) (IntKind.bits .i64)))) ||| BitVec.ofInt (IntKind.bits .i64) (w64 x)).toNat:Nat)=n*64+x:=by
 have e:(2 ^ (min (Int.toNat 6) (IntKind.bits .i64)):Int)=64:=by rfl
 rw[e,w64_id (by omega) (by omega),w64_id (by omega) (by omega)]
 obtain⟨a,rfl⟩:=Int.eq_ofNat_of_zero_le h0
 obtain⟨b,rfl⟩:=Int.eq_ofNat_of_zero_le h2
 have hb:(BitVec.ofInt (IntKind.bits .i64) ((a:Int)*64) ||| BitVec.ofInt (IntKind.bits .i64) (b:Int)).toNat=a*64+b:=by
  have e1:((a:Int)*64)=((a*64:Nat):Int):=by omega
  rw[e1,BitVec.ofInt_natCast,BitVec.ofInt_natCast,BitVec.toNat_or,BitVec.toNat_ofNat,BitVec.toNat_ofNat]
  have e2:(2 ^ IntKind.bits .i64:Nat)=18446744073709551616:=rfl
  rw[e2,Nat.mod_eq_of_lt (by omega),Nat.mod_eq_of_lt (by omega)]
  have:=Nat.two_pow_add_eq_or_of_lt (i:=6) (b:=b) (by omega) a
  have e3:a*64=2 ^ 6*a:=by omega
  rw[e3];exact this.symm
 rw[hb]
 have:=w64_id (x:=((a*64+b:Nat):Int)) (by omega) (by omega)
 show w64 _=_
 rw[this];omega
theorem ev_lead{c:Int}(h0:0≤c)(h1:c<256):Evt (fun q=>e379 q c) (((leadT c).1:Int),(leadT c).2):=by
 obtain⟨a1,a2,a3,-,-⟩:=and_bits h0 h1
 simp only[e379,a1,a2,a3]
 rw[w64_id (x:=c) (by omega) (by omega),w64_id (x:=c % 32) (by omega) (by omega),w64_id (x:=c % 16) (by omega) (by omega),w64_id (x:=c % 8) (by omega) (by omega)]
 have geT:∀k:Int,k≤c->decide (c≥k)=true:=fun k h=>decide_eq_true h
 have geF:∀k:Int,c<k->decide (c≥k)=false:=fun k h=>decide_eq_false (by omega)
 have ltT:∀k:Int,c<k->decide (c<k)=true:=fun k h=>decide_eq_true h
 have ltF:∀k:Int,k≤c->decide (c<k)=false:=fun k h=>decide_eq_false (by omega)
 clear a1 a2 a3
 unfold leadT
 by_cases b1:c<128
 ·rw[if_pos b1];exact Evt.ifT (ltT 128 b1) Evt.ret
 ·rw[if_neg b1]
  refine Evt.ifF (ltF 128 (by omega)) ?_
  by_cases b2:c<192
  ·rw[if_pos b2]
   exact Evt.ifF (geF 192 b2) (Evt.ifF (geF 224 (by omega)) (Evt.ifF (geF 240 (by omega)) Evt.ret))
  ·rw[if_neg b2]
   refine Evt.ifT (geT 192 (by omega)) ?_
   by_cases b3:c<224
   ·rw[if_pos b3];exact Evt.ifT (ltT 224 b3) (Evt.ret.eq (by rw[show c % 32=c-192 by omega];rfl))
   ·rw[if_neg b3]
    refine Evt.ifF (ltF 224 (by omega)) (Evt.ifT (geT 224 (by omega)) ?_)
    by_cases b4:c<240
    ·rw[if_pos b4];exact Evt.ifT (ltT 240 b4) (Evt.ret.eq (by rw[show c % 16=c-224 by omega];rfl))
    ·rw[if_neg b4]
     refine Evt.ifF (ltF 240 (by omega)) (Evt.ifT (geT 240 (by omega)) ?_)
     by_cases b5:c<248
     ·rw[if_pos b5];exact Evt.ifT (ltT 248 b5) (Evt.ret.eq (by rw[show c % 8=c-240 by omega];rfl))
     ·rw[if_neg b5];exact Evt.ifF (ltF 248 (by omega)) Evt.ret
theorem ev_uRight(n:Int):Evt (fun q=>e353 q n) (sgnT n):=by
 simp only[e353]
 unfold sgnT
 refine Evt.iff (fun h=>Evt.iff (fun h2=>Evt.iff (fun h3=>Evt.ret.eq ?_) fun h3=>Evt.ret.eq ?_) fun h2=>Evt.ret.eq ?_) fun h=>Evt.ret.eq ?_
 all_goals simp only[decide_eq_true_eq,decide_eq_false_iff_not]at *
 ·exact(decide_eq_true (by omega)).symm
 ·by_cases h4:n>57343
  ·rw[decide_eq_true h4,decide_eq_true (by omega)]
  ·rw[decide_eq_false h4,decide_eq_false (by omega)]
 ·exact(decide_eq_false (by omega)).symm
 ·exact(decide_eq_false (by omega)).symm
theorem ev_sgnR(n:Int):Evt (fun q=>e276 q n) (sgnT n):=by
 simp only[e276]
 unfold sgnT
 refine Evt.iff (fun h=>Evt.ret.eq ?_) fun h=>Evt.iff (fun h2=>Evt.ret.eq ?_) fun h2=>Evt.iff (fun h3=>Evt.ret.eq ?_) fun h3=>Evt.ret.eq ?_
 all_goals simp only[decide_eq_true_eq,decide_eq_false_iff_not]at *
 ·exact(decide_eq_false (by omega)).symm
 ·exact(decide_eq_false (by omega)).symm
 ·exact(decide_eq_true (by omega)).symm
 ·by_cases h4:n>57343
  ·rw[decide_eq_true h4,decide_eq_true (by omega)]
  ·rw[decide_eq_false h4,decide_eq_false (by omega)]
theorem ev_width(n:Int):Evt (fun q=>e380 q n) (widT n:Int):=by
 simp only[e380]
 unfold widT
 refine Evt.iff (fun h=>Evt.ret.eq ?_) fun h=>Evt.iff (fun h2=>Evt.ret.eq ?_) fun h2=>Evt.iff (fun h3=>Evt.ret.eq ?_) fun h3=>Evt.ret.eq ?_
 all_goals simp only[decide_eq_true_eq,decide_eq_false_iff_not]at *
 ·rw[if_pos (by omega)];rfl
 ·rw[if_neg (by omega),if_pos (by omega)];rfl
 ·rw[if_neg (by omega),if_neg (by omega),if_pos (by omega)];rfl
 ·rw[if_neg (by omega),if_neg (by omega),if_neg (by omega)];rfl
def nxtP(o:Option (Int×Nat)):Int×Int×Int:=match o with
 |some (n,w)=>(n,(w:Int),0)
 |none=>(0,0,1)
theorem ev_uNextL(s:ByteArray)(a w:Nat)(n0:Int)(hs:s.size≤65535)(hw:a+w≤s.size)(hw4:w≤4):∀(m i:Nat) (n:Int),i+m=w->0≤n->n<32*64 ^ (i-1)->1≤i ->
  Evt (fun q=>e351Lau q s (a:Int) ((w:Int),n0) n (i:Int)) (nxtP (match ctnT m n ((bs s).drop (a+i))with|some x=>if sgnT x=true∧widT x=w then some (x,w)else none|none=>none)):=by
 intro m
 induction m with
 |zero=>
  intro i n hi h0 h1 h2
  refine Evt.succ ?_
  simp only[e351Lau]
  refine Evt.ifF (decide_eq_false (by simp;omega)) ((ev_uRight n).bind ?_)
  simp only[ctnT]
  by_cases hr:sgnT n=true
  ·refine Evt.ifT hr ((ev_width n).bind ?_)
   by_cases hx:widT n=w
   ·exact(Evt.ifF (by simp[hx]) Evt.ret).eq (by rw[if_pos ⟨hr,hx⟩];rfl)
   ·exact(Evt.ifT (by simp;omega) Evt.ret).eq (by rw[if_neg (fun h=>hx h.2)];rfl)
  ·exact(Evt.ifF (by simpa using hr) Evt.ret).eq (by rw[if_neg (fun h=>hr h.1)];rfl)
 |succ m ih=>
  intro i n hi h0 h1 h2
  have hlt:a+i<(bs s).length:=by rw[bs_len];omega
  have hd:(bs s).drop (a+i)=(bs s)[a+i]::(bs s).drop (a+i+1):=List.drop_eq_getElem_cons hlt
  have hc:=bs_mem (List.getElem_mem hlt)
  refine Evt.succ ?_
  simp only[e351Lau]
  have hg:gbyte s (w64 ((a:Int)+(i:Int)))=some (bs s)[a+i]:=by
   rw[w64_id (by omega) (by omega),gbyte_bs s (by omega),show ((a:Int)+(i:Int)).toNat=a+i by omega]
   exact List.getElem?_eq_getElem hlt
  obtain⟨-,-,-,b1,b2⟩:=and_bits hc.1 hc.2
  refine Evt.ifT (decide_eq_true (by simp;omega)) (Evt.pure hg ?_)
  rw[hd,ctnT]
  generalize (bs s)[a+i]=c at *
  rw[b2,b1]
  by_cases h3:128≤c∧c<192
  ·rw[if_pos h3]
   refine Evt.ifF (by simp;omega) ?_
   have hp:n<1048576:=by
    have:i-1≤2:=by omega
    rcases(by omega:i-1=0∨i-1=1∨i-1=2)with e|e|e<;>rw[e]at h1<;>omega
   rw[or_bits h0 hp (by omega) (by omega),w64_nat i (by omega)]
   have e:n*64+c % 64=n*64+(c-128):=by omega
   rw[e]
   refine ih (i+1) _ (by omega) (by omega) ?_ (by omega)
   rw[Nat.add_sub_cancel]
   have e2:(64:Int) ^ i=64 ^ (i-1)*64:=by
    rw[←Int.pow_succ];congr 1;omega
   rw[e2];omega
  ·rw[if_neg h3]
   exact Evt.ifT (by simp;omega) Evt.ret
theorem ev_uNext(s:ByteArray)(a:Nat)(hs:s.size≤65535)(ha:a<s.size):Evt (fun q=>e351 q s (a:Int)) (nxtP (decT ((bs s).drop a))):=by
 have hlt:a<(bs s).length:=by rw[bs_len];omega
 have hd:(bs s).drop a=(bs s)[a]::(bs s).drop (a+1):=List.drop_eq_getElem_cons hlt
 have hc:=bs_mem (List.getElem_mem hlt)
 simp only[e351]
 have hg:gbyte s (a:Int)=some (bs s)[a]:=by rw[gbyte_bs s (by omega),Int.toNat_natCast];exact List.getElem?_eq_getElem hlt
 refine Evt.ifF (decide_eq_false (by omega)) (Evt.ifF (decide_eq_false (by omega)) (Evt.pure hg ((ev_lead hc.1 hc.2).bind ?_)))
 rw[hd,decT]
 generalize (bs s)[a]=c at *
 by_cases h0:(leadT c).1=0
 ·rw[if_pos h0];exact Evt.ifT (by simp[h0]) Evt.ret
 ·rw[if_neg h0]
  refine Evt.ifF (by simp;omega) ?_
  rw[w64_id (by omega) (by omega)]
  have hle:(leadT c).1≤4∧0≤(leadT c).2∧((leadT c).1≠1->(leadT c).2<32):=by
   unfold leadT
   repeat' split
   all_goals (refine⟨?_,?_,?_⟩<;>simp<;>omega)
  by_cases hl:a+(leadT c).1≤s.size
  ·refine Evt.ifF (decide_eq_false (by simp;omega)) ?_
   by_cases h1:(leadT c).1=1
   ·refine Evt.succ ?_
    simp only[e351Lau,h1,Nat.sub_self,ctnT]
    refine Evt.ifF rfl ((ev_uRight _).bind ?_)
    by_cases hr:sgnT (leadT c).2=true
    ·refine Evt.ifT hr ((ev_width _).bind ?_)
     by_cases hx:widT (leadT c).2=1
     ·exact(Evt.ifF (by simp[hx]) Evt.ret).eq (by rw[if_pos ⟨hr,hx⟩];rfl)
     ·exact(Evt.ifT (by simp;omega) Evt.ret).eq (by rw[if_neg (fun h=>hx h.2)];rfl)
    ·exact(Evt.ifF (by simpa using hr) Evt.ret).eq (by rw[if_neg (fun h=>hr h.1)];rfl)
   ·have:=ev_uNextL s a (leadT c).1 (leadT c).2 hs hl hle.1 ((leadT c).1-1) 1 (leadT c).2 (by omega) hle.2.1 (by simpa using hle.2.2 h1) (by omega)
    exact this
  ·refine Evt.ifT (decide_eq_true (by simp;omega)) (Evt.ret.eq ?_)
   have:ctnT ((leadT c).1-1) (leadT c).2 ((bs s).drop (a+1))=none:=by
    cases hx:ctnT ((leadT c).1-1) (leadT c).2 ((bs s).drop (a+1))with
    |none=>rfl
    |some x=>have:=con_some hx;rw[List.length_drop,bs_len]at this;omega
   rw[this];rfl
mutual
def e378Lcd:Nat->Int->(List U8)->Int->Option (List U8)
 |0,_,_,_=>none
 |qq+1,p0,v5,v6=>
 if decide (v6≥0)then
 e378Lce qq p0 v5 v6 p0 0
 else
 some v5
def e378Lce:Nat->Int->(List U8)->Int->Int->Int->Option (List U8)
 |0,_,_,_,_,_=>none
 |qq+1,p0,v5,v6,v7,v8=>
 if decide (v8<v6)then
 e378Lce qq p0 v5 v6 (w64 (Int.tdiv v7 64)) (w64 (v8+1))
 else
 gapp 1 v5 [(IntKind.u8.wrap ((w64 (128+(Int.tmod v7 64)))))]>>=fun l3=>
 e378Lcd qq p0 l3 (w64 (v6-1))
end
def e378(qq:Nat)(p0 p1:Int):Option (List U8):=
 e378Lcd qq p0 [] (w64 (p1-1))
def g378LcdE0(j:Nat->Value)(p0:Int)(v5:List U8)(v6:Int):=sp j 32 0 [(0,ai p0),(5,slv u8C v5 (.st 0 1)),(6,ai v6)]
def g378LcdS0(p0:Int)(v5:List U8)(v6:Int):LSt:=⟨[],0,[0],1,[]⟩
def g378LceE0(j:Nat->Value)(p0:Int)(v5:List U8)(v6 v7 v8:Int):=sp j 32 0 [(0,ai p0),(5,slv u8C v5 (.st 0 1)),(6,ai v6),(7,ai v7),(8,ai v8)]
def g378LceS0(p0:Int)(v5:List U8)(v6 v7 v8:Int):LSt:=⟨[],0,[0],1,[]⟩
abbrev K378 (p0 p1:Int) (r:List U8) (C:Cf):Prop:=C 378 [] [ai p0,ai p1] (.sl (flat u8C r) (List.length r) .no) [] 0
theorem q378:Qf 378 Tryz.f378:=⟨Tryz.func378,by kernel_rfl⟩
theorem k378{p0 p1 r}(h:K378 p0 p1 r Ci):K378 p0 p1 r Ct:=⟨h,⟨tv,tv,tv⟩,forall_nil,dU _,forall_nil⟩
theorem a378Lcd_378Lce:∀qq:Nat,(∀p0 v5 v6 r,e378Lcd qq p0 v5 v6=some r->(∀j,Dl Tryz.prog 0 (inn (inn (rgt (lft (rgt (rgt (bod Tryz.f378))))))) (g378LcdE0 j p0 v5 v6) (g378LcdS0 p0 v5 v6) (frameQ Tryz.prog 0 (FinQ Tryz.prog 0 Tryz.f378 (.sl (flat u8C r) (List.length r) .no) [] 0) [.blk 0,.seq (rgt (rgt (rgt (bod Tryz.f378))))])))∧(∀p0 v5 v6 v7 v8 r,e378Lce qq p0 v5 v6 v7 v8=some r->(∀j,Dl Tryz.prog 0 (inn (inn (rgt (lft (rgt (inn (lft (rgt (inn (inn (rgt (lft (rgt (rgt (bod Tryz.f378))))))))))))))) (g378LceE0 j p0 v5 v6 v7 v8) (g378LceS0 p0 v5 v6 v7 v8) (frameQ Tryz.prog 0 (FinQ Tryz.prog 0 Tryz.f378 (.sl (flat u8C r) (List.length r) .no) [] 0) [.blk 2,.seq (rgt (rgt (inn (lft (rgt (inn (inn (rgt (lft (rgt (rgt (bod Tryz.f378)))))))))))),.blk 1,.seq (rgt (rgt (inn (inn (rgt (lft (rgt (rgt (bod Tryz.f378))))))))),.loop (inn (inn (rgt (lft (rgt (rgt (bod Tryz.f378))))))),.blk 0,.seq (rgt (rgt (rgt (bod Tryz.f378))))]))):=by
 intro qq
 induction qq with
 |zero=>
  exact⟨fun _ _ _ _ h=>nn h,fun _ _ _ _ _ _ h=>nn h⟩
 |succ qq ih=>
  obtain⟨ih378Lcd,ih378Lce⟩:=ih
  refine⟨?_,?_⟩
  intro p0 v5 v6 r h
  rw[e378Lcd]at h
  rcases spl h with⟨h1,h⟩|⟨h1,h⟩
  exact fun j=>lH 0 [] [] [0] [0,5,6,7,8] (oD (dU v5)<|oB 0 h1 o0) (ih378Lce _ _ _ _ _ _ h)
  obtain rfl:=sj h
  exact fun j=>lF 0 [] (oD (dU v5)<|oB 0 h1 o0)
  intro p0 v5 v6 v7 v8 r h
  rw[e378Lce]at h
  rcases spl h with⟨h2,h⟩|⟨h2,h⟩
  exact fun j=>lH 2 [] [] [0] [0,5,6,7,8] (oD (dU v5)<|oB 0 h2 o0) (ih378Lce _ _ _ _ _ _ h)
  obtain⟨l3,h4,h⟩:=obind h
  exact fun j=>lH 1 [] [] [1] [0,5,6] (oD (dU l3)<|oP 4 (apS418 h4 (by simp))<|oB 0 h2 o0) (ih378Lcd _ _ _ _ h)
theorem c378{qq p0 p1 r}(h:e378 qq p0 p1=some r):K378 p0 p1 r Ct:=by
 unfold e378 at h
 exact k378 (tH q378 2 [(none,5,1)] [] [0] [0,5,6] (oD (dU ([]:List U8)) o0) (((a378Lcd_378Lce _).1) _ _ _ _ h))
def e350(qq:Nat)(p0:Int):Option (ByteArray):=
 if decide (p0<128)then
 some (gstr [(IntKind.u8.wrap (p0))])
 else
 if decide (p0<2048)then
 e378 qq p0 1>>=fun r3=>
 gapp 1 [(IntKind.u8.wrap ((w64 (192+(w64 (Int.tdiv p0 64))))))] r3>>=fun l5=>
 some (gstr l5)
 else
 if decide (p0<65536)then
 e378 qq p0 2>>=fun r9=>
 gapp 1 [(IntKind.u8.wrap ((w64 (224+(w64 (Int.tdiv p0 4096))))))] r9>>=fun l11=>
 some (gstr l11)
 else
 e378 qq p0 3>>=fun r14=>
 gapp 1 [(IntKind.u8.wrap ((w64 (240+(w64 (Int.tdiv p0 262144))))))] r14>>=fun l16=>
 some (gstr l16)
abbrev K350 (p0:Int) (r:ByteArray) (C:Cf):Prop:=C 350 [] [ai p0] (at' r) [] 0
theorem q350:Qf 350 Tryz.f350:=⟨Tryz.func350,by kernel_rfl⟩
theorem k350{p0 r}(h:K350 p0 r Ci):K350 p0 r Ct:=⟨h,⟨tv,tv⟩,forall_nil,tv,forall_nil⟩
theorem c350{qq p0 r}(h:e350 qq p0=some r):K350 p0 r Ct:=by
 unfold e350 at h
 rcases spl h with⟨h1,h⟩|⟨h1,h⟩
 obtain rfl:=sj h
 exact k350 (tF q350 0 [] (oA 2 (cv418_9 [(IntKind.u8.wrap (p0))] (o:=.full))<|oB 0 h1 o0))
 have k:=oB 0 h1 o0
 rcases spl h with⟨h2,h⟩|⟨h2,h⟩
 obtain⟨r3,h4,h⟩:=obind h
 obtain⟨l5,h6,h⟩:=obind h
 have k:=oC 4 [] (c378 h4)<|oB 0 h2 k
 by_cases h7:List.length r3=0
 obtain rfl:=sj h
 exact k350 (tF q350 0 [] (oA 0 (cv418_9 l5 (o:=.full))<|oP 0 (apN418 h6 h7) k))
 obtain rfl:=sj h
 exact k350 (tF q350 0 [] (oA 0 (cv418_9 l5 (o:=(.st 0 1)))<|oP 0 (apS418 h6 h7) k))
 have k:=oB 0 h2 k
 rcases spl h with⟨h8,h⟩|⟨h8,h⟩
 obtain⟨r9,h10,h⟩:=obind h
 obtain⟨l11,h12,h⟩:=obind h
 have k:=oC 4 [] (c378 h10)<|oB 0 h8 k
 by_cases h13:List.length r9=0
 obtain rfl:=sj h
 exact k350 (tF q350 0 [] (oA 0 (cv418_9 l11 (o:=.full))<|oP 0 (apN418 h12 h13) k))
 obtain rfl:=sj h
 exact k350 (tF q350 0 [] (oA 0 (cv418_9 l11 (o:=(.st 0 1)))<|oP 0 (apS418 h12 h13) k))
 obtain⟨r14,h15,h⟩:=obind h
 obtain⟨l16,h17,h⟩:=obind h
 have k:=oC 4 [] (c378 h15)<|oB 0 h8 k
 by_cases h18:List.length r14=0
 obtain rfl:=sj h
 exact k350 (tF q350 0 [] (oA 0 (cv418_9 l16 (o:=.full))<|oP 0 (apN418 h17 h18) k))
 obtain rfl:=sj h
 exact k350 (tF q350 0 [] (oA 0 (cv418_9 l16 (o:=(.st 0 1)))<|oP 0 (apS418 h17 h18) k))
def e315Lcf:Nat->ByteArray->Int->Int->Option (Int)
 |0,_,_,_=>none
 |qq+1,p0,v3,v5=>
 if decide (v5<(p0.size:Int))then
 gbyte p0 v5>>=fun x9=>
 e315Lcf qq p0 (w64 ((w64 ((w64 (v3*64))+(w64 (x9))))-128)) (w64 (v5+1))
 else
 e276 qq v3>>=fun r11=>
 if r11 then
 e350 qq v3>>=fun r14=>
 if !(r14.toList==p0.toList)then
 some (-1)
 else
 some v3
 else
 some (-1)
def e315(qq:Nat)(p0:ByteArray):Option (Int):=
 if (p0.size:Int)==0 then
 some (-1)
 else
 gbyte p0 0>>=fun x2=>
 if decide ((p0.size:Int)>1)then
 gidx [0,0,192,224,240] (p0.size:Int)>>=fun x5=>
 if decide ((w64 ((w64 (x2))-x5))<0)then
 some (-1)
 else
 e315Lcf qq p0 (w64 ((w64 (x2))-x5)) 1
 else
 if decide ((w64 (x2))<0)then
 some (-1)
 else
 e315Lcf qq p0 (w64 (x2)) 1
def g315LcfE0(j:Nat->Value)(p0:ByteArray)(v3 v5:Int):=sp j 49 0 [(0,at' p0),(3,ai v3),(5,ai v5)]
def g315LcfS0(p0:ByteArray)(v3 v5:Int):LSt:=⟨[],0,[],0,[]⟩
abbrev K315 (p0:ByteArray) (r:Int) (C:Cf):Prop:=C 315 [] [at' p0] (ai r) [] 0
theorem q315:Qf 315 Tryz.f315:=⟨Tryz.func315,by kernel_rfl⟩
theorem k315{p0 r}(h:K315 p0 r Ci):K315 p0 r Ct:=⟨h,⟨tv,tv⟩,forall_nil,tv,forall_nil⟩
theorem l315Lcf:∀qq:Nat,(∀p0 v3 v5 r,e315Lcf qq p0 v3 v5=some r->(∀j,Dl Tryz.prog 0 (inn (inn (rgt (lft (rgt (rgt (rgt (rgt (rgt (rgt (bod Tryz.f315))))))))))) (g315LcfE0 j p0 v3 v5) (g315LcfS0 p0 v3 v5) (frameQ Tryz.prog 0 (FinQ Tryz.prog 0 Tryz.f315 (ai r) [] 0) [.blk 0,.seq (rgt (rgt (rgt (rgt (rgt (rgt (rgt (bod Tryz.f315))))))))]))):=by
 intro qq
 induction qq with
 |zero=>
  exact fun _ _ _ _ h=>nn h
 |succ qq ih=>
  intro p0 v3 v5 r h
  rw[e315Lcf]at h
  rcases spl h with⟨h8,h⟩|⟨h8,h⟩
  obtain⟨x9,h10,h⟩:=obind h
  exact fun j=>lH 4 [] [] [] [0,3,5] (oA 1 (ixStr9 h10)<|oB 1 h8 o0) (ih _ _ _ _ h)
  obtain⟨r11,h12,h⟩:=obind h
  have k:=oB 1 h8 o0
  rcases spl h with⟨h13,h⟩|⟨h13,h⟩
  obtain⟨r14,h15,h⟩:=obind h
  have k:=oC 1 [] (c350 h15)<|oK 0 [] h13 (c276 h12) k
  rcases spl h with⟨h16,h⟩|⟨h16,h⟩
  obtain rfl:=sj h
  exact fun j=>lF 0 [] (oB 0 h16 k)
  obtain rfl:=sj h
  exact fun j=>lF 0 [] (oB 0 h16 k)
  obtain rfl:=sj h
  exact fun j=>lF 1 [] (oK 0 [] h13 (c276 h12) k)
theorem c315{qq p0 r}(h:e315 qq p0=some r):K315 p0 r Ct:=by
 unfold e315 at h
 rcases spl h with⟨h1,h⟩|⟨h1,h⟩
 obtain rfl:=sj h
 exact k315 (tF q315 0 [] (oB 1 h1 o0))
 obtain⟨x2,h3,h⟩:=obind h
 have k:=oA 0 (ixStr9 h3)<|oB 1 h1 o0
 rcases spl h with⟨h4,h⟩|⟨h4,h⟩
 obtain⟨x5,h6,h⟩:=obind h
 have k:=oA 1 (ix41 (o:=.full) h6)<|oB 3 h4 k
 rcases spl h with⟨h7,h⟩|⟨h7,h⟩
 obtain rfl:=sj h
 exact k315 (tF q315 0 [] (oB 2 h7 k))
 exact k315 (tH q315 0 [] [] [] [0,3,5] (oB 2 h7 k) (l315Lcf _ _ _ _ _ h))
 have k:=oB 3 h4 k
 rcases spl h with⟨h8,h⟩|⟨h8,h⟩
 obtain rfl:=sj h
 exact k315 (tF q315 0 [] (oB 0 h8 k))
 exact k315 (tH q315 0 [] [] [] [0,3,5] (oB 0 h8 k) (l315Lcf _ _ _ _ _ h))
def e275Lcg:Nat->ByteArray->Int->Int->Option (Int×Int×Bool)
 |0,_,_,_=>none
 |qq+1,p0,p1,v7=>
 if decide (v7≤4)then
 if decide (v7≤(w64 ((p0.size:Int)-p1)))then
 gsub p0 p1 (w64 (p1+v7))>>=fun x5=>
 e315 qq x5>>=fun r7=>
 if decide (r7≥0)then
 some (r7,v7,true)
 else
 e275Lcg qq p0 p1 (w64 (v7+1))
 else
 some (0,0,false)
 else
 some (0,0,false)
def e275(qq:Nat)(p0:ByteArray)(p1:Int):Option (Int×Int×Bool):=
 if decide (p1<0)then
 some (0,0,false)
 else
 if decide (p1≥(p0.size:Int))then
 some (0,0,false)
 else
 e275Lcg qq p0 p1 1
def g275LcgE0(j:Nat->Value)(p0:ByteArray)(p1 v7:Int):=sp j 40 0 [(0,at' p0),(1,ai p1),(7,ai v7)]
def g275LcgS0(p0:ByteArray)(p1 v7:Int):LSt:=⟨[],0,[],0,[]⟩
abbrev K275 (p0:ByteArray) (p1:Int) (r:Int×Int×Bool) (C:Cf):Prop:=C 275 [] [at' p0,ai p1] (.tup [ai r.1,ai r.2.1,ab r.2.2]) [] 0
theorem q275:Qf 275 Tryz.f275:=⟨Tryz.func275,by kernel_rfl⟩
theorem k275{p0 p1 r}(h:K275 p0 p1 r Ci):K275 p0 p1 r Ct:=⟨h,⟨tv,tv,tv⟩,forall_nil,⟨tv,tv,tv,tv⟩,forall_nil⟩
theorem l275Lcg:∀qq:Nat,(∀p0 p1 v7 r,e275Lcg qq p0 p1 v7=some r->(∀j,Dl Tryz.prog 0 (inn (inn (rgt (lft (rgt (rgt (bod Tryz.f275))))))) (g275LcgE0 j p0 p1 v7) (g275LcgS0 p0 p1 v7) (frameQ Tryz.prog 0 (FinQ Tryz.prog 0 Tryz.f275 (.tup [ai r.1,ai r.2.1,ab r.2.2]) [] 0) [.blk 0,.seq (rgt (rgt (rgt (bod Tryz.f275))))]))):=by
 intro qq
 induction qq with
 |zero=>
  exact fun _ _ _ _ h=>nn h
 |succ qq ih=>
  intro p0 p1 v7 r h
  rw[e275Lcg]at h
  rcases spl h with⟨h3,h⟩|⟨h3,h⟩
  have k:=oB 0 h3 o0
  rcases spl h with⟨h4,h⟩|⟨h4,h⟩
  obtain⟨x5,h6,h⟩:=obind h
  obtain⟨r7,h8,h⟩:=obind h
  have k:=oC 0 [] (c315 h8)<|oA 1 (slStr9 h6)<|oB 2 h4 k
  rcases spl h with⟨h9,h⟩|⟨h9,h⟩
  obtain rfl:=sj h
  exact fun j=>lF 0 [] (oB 0 h9 k)
  exact fun j=>lH 1 [] [] [] [0,1,7] (oB 0 h9 k) (ih _ _ _ _ h)
  obtain rfl:=sj h
  exact fun j=>lF 0 [] (oB 2 h4 k)
  obtain rfl:=sj h
  exact fun j=>lF 0 [] (oB 0 h3 o0)
theorem c275{qq p0 p1 r}(h:e275 qq p0 p1=some r):K275 p0 p1 r Ct:=by
 unfold e275 at h
 rcases spl h with⟨h1,h⟩|⟨h1,h⟩
 obtain rfl:=sj h
 exact k275 (tF q275 0 [] (oB 0 h1 o0))
 have k:=oB 0 h1 o0
 rcases spl h with⟨h2,h⟩|⟨h2,h⟩
 obtain rfl:=sj h
 exact k275 (tF q275 0 [] (oB 1 h2 k))
 exact k275 (tH q275 0 [] [] [] [0,1,7] (oB 1 h2 k) (l275Lcg _ _ _ _ _ h))
def dvT:Nat->Int->Int
 |0,x=>x
 |m+1,x=>dvT m (x / 64)
theorem ev_tailI(n:Int)(out:List Int)(i:Nat)(hi:i≤4)(ho:out.length≤10){r:List Int}:∀(m k:Nat) (x:Int),k+m=i->0≤x->x≤1114111->Evt (fun q=>e378Lcd q n (out++[128+dvT m x % 64]) ((i:Int)-1)) r->Evt (fun q=>e378Lce q n out (i:Int) x (k:Int)) r
 |0,k,x,hk,h0,h1,h=>by
  refine Evt.succ ?_
  simp only[e378Lce]
  have e:IntKind.u8.wrap (w64 (128+Int.tmod x 64))=128+dvT 0 x % 64:=by
   rw[Int.tmod_eq_emod_of_nonneg h0,w64_id (by omega) (by omega),u8_id (by omega) (by omega)];rfl
  rw[e]
  refine Evt.ifF (decide_eq_false (by omega)) (Evt.pure (gapp_ok (by simp;omega)) ?_)
  rw[w64_id (by omega) (by omega)]
  exact h
 |m+1,k,x,hk,h0,h1,h=>by
  refine Evt.succ ?_
  simp only[e378Lce]
  have e:w64 (Int.tdiv x 64)=x / 64:=by rw[Int.tdiv_eq_ediv_of_nonneg h0,w64_id (by omega) (by omega)]
  rw[e,w64_nat k (by omega)]
  exact Evt.ifT (decide_eq_true (by omega)) (ev_tailI n out i hi ho m (k+1) (x / 64) (by omega) (by omega) (by omega) h)
theorem ev_tailN(n:Int)(out:List Int):Evt (fun q=>e378Lcd q n out (-1)) out:=by
 refine Evt.succ ?_
 simp only[e378Lcd]
 exact Evt.ifF rfl Evt.ret
theorem ev_tailS(n:Int)(h0:0≤n)(h1:n≤1114111)(out:List Int)(i:Nat)(hi:i≤4)(ho:out.length≤10){r:List Int}(h:Evt (fun q=>e378Lcd q n (out++[128+dvT i n % 64]) ((i:Int)-1)) r):Evt (fun q=>e378Lcd q n out (i:Int)) r:=by
 refine Evt.succ ?_
 simp only[e378Lcd]
 exact Evt.ifT (decide_eq_true (by omega)) (ev_tailI n out i hi ho i 0 n (by omega) h0 h1 h)
theorem ev_Put{n:Int}(h0:0≤n)(h1:n≤1114111):Evt (fun q=>e350 q n) (gstr (putT n)):=by
 have t1:Evt (fun q=>e378 q n 1) [128+n % 64]:=by
  simp only[e378]
  exact ev_tailS n h0 h1 [] 0 (by omega) (by simp) (ev_tailN n _)
 have t2:Evt (fun q=>e378 q n 2) [128+n / 64 % 64,128+n % 64]:=by
  simp only[e378]
  exact ev_tailS n h0 h1 [] 1 (by omega) (by simp) (ev_tailS n h0 h1 _ 0 (by omega) (by simp) (ev_tailN n _))
 have t3:Evt (fun q=>e378 q n 3) [128+n / 64 / 64 % 64,128+n / 64 % 64,128+n % 64]:=by
  simp only[e378]
  exact ev_tailS n h0 h1 [] 2 (by omega) (by simp) (ev_tailS n h0 h1 _ 1 (by omega) (by simp) (ev_tailS n h0 h1 _ 0 (by omega) (by simp) (ev_tailN n _)))
 have e0:n<256->IntKind.u8.wrap n=n:=fun h=>u8_id h0 h
 have e1:n<2048->IntKind.u8.wrap (w64 (192+w64 (Int.tdiv n 64)))=192+n / 64:=fun h=>by
  rw[Int.tdiv_eq_ediv_of_nonneg h0,w64_id (x:=n / 64) (by omega) (by omega),w64_id (by omega) (by omega),u8_id (by omega) (by omega)]
 have e2:n<65536->IntKind.u8.wrap (w64 (224+w64 (Int.tdiv n 4096)))=224+n / 4096:=fun h=>by
  rw[Int.tdiv_eq_ediv_of_nonneg h0,w64_id (x:=n / 4096) (by omega) (by omega),w64_id (by omega) (by omega),u8_id (by omega) (by omega)]
 have e3:IntKind.u8.wrap (w64 (240+w64 (Int.tdiv n 262144)))=240+n / 262144:=by
  rw[Int.tdiv_eq_ediv_of_nonneg h0,w64_id (x:=n / 262144) (by omega) (by omega),w64_id (by omega) (by omega),u8_id (by omega) (by omega)]
 simp only[e350]
 unfold putT
 by_cases h2:n<128
 ·rw[if_pos h2,e0 (by omega)];exact Evt.ifT (decide_eq_true h2) Evt.ret
 ·rw[if_neg h2]
  refine Evt.ifF (decide_eq_false h2) ?_
  by_cases h3:n<2048
  ·rw[if_pos h3,e1 h3];exact Evt.ifT (decide_eq_true h3) (t1.bind (Evt.pure (gapp_ok (by simp)) Evt.ret))
  ·rw[if_neg h3]
   refine Evt.ifF (decide_eq_false h3) ?_
   by_cases h4:n<65536
   ·rw[if_pos h4,e2 h4];exact Evt.ifT (decide_eq_true h4) (t2.bind (Evt.pure (gapp_ok (by simp)) Evt.ret))
   ·rw[if_neg h4,e3];exact Evt.ifF (decide_eq_false h4) (t3.bind (Evt.pure (gapp_ok (by simp)) Evt.ret))
theorem put_bytes{n:Int}(h0:0≤n)(h1:n≤1114111):∀c∈putT n,0≤c∧c<256:=by
 unfold putT
 intro c hc
 split at hc
 ·simp at hc;omega
 ·split at hc
  ·simp at hc;omega
  ·split at hc
   ·simp at hc;omega
   ·simp at hc;omega
def firT(m:Nat):Int:=if m=2 then 192 else if m=3 then 224 else if m=4 then 240 else 0
def accT:Int->List Int->Int
 |n,[]=>n
 |n,d::r=>accT (n*64+d-128) r
def numT:List Int->Int
 | []=>-1
 |c::r=>if c-firT (r.length+1)<0 then -1 else if sgnT (accT (c-firT (r.length+1)) r)=true∧putT (accT (c-firT (r.length+1)) r)=c::r then accT (c-firT (r.length+1)) r else -1
theorem num_some{l:List Int}(h:0≤numT l):sgnT (numT l)=true∧putT (numT l)=l:=by
 cases l with
 |nil=>rw[numT]at h;omega
 |cons c r=>
  rw[numT]at h ⊢
  split at h
  ·omega
  ·rename_i h1
   rw[if_neg h1]
   split at h
   ·rename_i h2;rw[if_pos h2];exact h2
   ·omega
theorem num_put{n:Int}(h:sgnT n=true):numT (putT n)=n:=by
 have h':=of_decide_eq_true h
 have key:∀c r,putT n=c::r->accT (c-firT (r.length+1)) r=n->0≤c-firT (r.length+1)->numT (putT n)=n:=fun c r h1 h2 h3=>by
  rw[h1,numT,if_neg (by omega),h2,if_pos ⟨h,h1⟩]
 by_cases h1:n<128
 ·exact key n [] (by unfold putT;rw[if_pos h1]) (by simp[firT,accT]) (by simp[firT];omega)
 ·by_cases h2:n<2048
  ·exact key _ _ (by unfold putT;rw[if_neg h1,if_pos h2]) (by simp only[List.length_cons,List.length_nil,firT,accT];simp;omega) (by simp[firT];omega)
  ·by_cases h3:n<65536
   ·exact key _ _ (by unfold putT;rw[if_neg h1,if_neg h2,if_pos h3]) (by simp only[List.length_cons,List.length_nil,firT,accT];simp;omega) (by simp[firT];omega)
   ·exact key _ _ (by unfold putT;rw[if_neg h1,if_neg h2,if_neg h3]) (by simp only[List.length_cons,List.length_nil,firT,accT];simp;omega) (by simp[firT];omega)
def bndT(i:Nat):Int:=if i≤1 then 256 else if i=2 then 17000 else if i=3 then 1100000 else 71000000
theorem ev_numberL(s:ByteArray)(hs:s.size≤4):∀(m i:Nat) (n:Int),i+m=s.size->1≤i->-bndT i≤n->n≤bndT i ->
  Evt (fun q=>e315Lcf q s n (i:Int)) (if sgnT (accT n ((bs s).drop i))=true∧putT (accT n ((bs s).drop i))=bs s then accT n ((bs s).drop i)else -1)
 |0,i,n,hm,hi,h0,h1=>by
  refine Evt.succ ?_
  simp only[e315Lcf]
  rw[List.drop_eq_nil_of_le (by rw[bs_len];omega),accT]
  refine Evt.ifF (decide_eq_false (by omega)) ((ev_sgnR n).bind ?_)
  by_cases hr:sgnT n=true
  ·have hr':=of_decide_eq_true hr
   refine Evt.ifT hr ((ev_Put (by omega) (by omega)).bind ?_)
   have e:((gstr (putT n)).toList==s.toList)=decide (putT n=bs s):=by
    rw[bs_eq,gstr_bs _ (put_bytes (by omega) (by omega))]
   rw[e]
   by_cases hp:putT n=bs s
   ·exact(Evt.ifF (by simp[hp]) Evt.ret).eq (by rw[if_pos ⟨hr,hp⟩])
   ·exact(Evt.ifT (by simp[hp]) Evt.ret).eq (by rw[if_neg (fun h=>hp h.2)])
  ·exact(Evt.ifF (by simpa using hr) Evt.ret).eq (by rw[if_neg (fun h=>hr h.1)])
 |m+1,i,n,hm,hi,h0,h1=>by
  have hlt:i<(bs s).length:=by rw[bs_len];omega
  have hc:=bs_mem (List.getElem_mem hlt)
  have hd:(bs s).drop i=(bs s)[i]::(bs s).drop (i+1):=List.drop_eq_getElem_cons hlt
  refine Evt.succ ?_
  simp only[e315Lcf]
  have hg:gbyte s (i:Int)=some (bs s)[i]:=by rw[gbyte_bs s (by omega),Int.toNat_natCast];exact List.getElem?_eq_getElem hlt
  refine Evt.ifT (decide_eq_true (by omega)) (Evt.pure hg ?_)
  rw[hd,accT]
  generalize (bs s)[i]=c at *
  have hb:-71000000≤n∧n≤71000000:=by unfold bndT at h0 h1;split at h0<;>(try split at h0)<;>(try split at h0)<;>omega
  rw[w64_id (x:=n*64) (by omega) (by omega),w64_id (x:=c) (by omega) (by omega),w64_id (x:=n*64+c) (by omega) (by omega),w64_id (x:=n*64+c-128) (by omega) (by omega),w64_nat i (by omega)]
  have hi3:i=1∨i=2∨i=3:=by omega
  refine ev_numberL s hs m (i+1) _ (by omega) (by omega) ?_ ?_
  ·rcases hi3 with rfl|rfl|rfl<;>simp[bndT]at h0 h1 ⊢ <;> omega
  ·rcases hi3 with rfl|rfl|rfl<;>simp[bndT]at h0 h1 ⊢ <;> omega
theorem ev_number(s:ByteArray)(hs:s.size≤4)(h1:1≤s.size):Evt (fun q=>e315 q s) (numT (bs s)):=by
 have hlen:=bs_len s
 have hlt:0<(bs s).length:=by omega
 have hc:=bs_mem (List.getElem_mem hlt)
 have hd:bs s=(bs s)[0]::(bs s).drop 1:=by
  have:=List.drop_eq_getElem_cons hlt
  simpa using this
 have hl1:((bs s).drop 1).length+1=s.size:=by rw[List.length_drop];omega
 simp only[e315]
 have hg:gbyte s 0=some (bs s)[0]:=by rw[gbyte_bs s (by omega)];exact List.getElem?_eq_getElem hlt
 refine Evt.ifF (beq_eq_false_iff_ne.2 (by omega)) (Evt.pure hg ?_)
 have hN:numT (bs s)=if (bs s)[0]-firT s.size<0 then -1 else if sgnT (accT ((bs s)[0]-firT s.size) ((bs s).drop 1))=true∧putT (accT ((bs s)[0]-firT s.size) ((bs s).drop 1))=bs s then accT ((bs s)[0]-firT s.size) ((bs s).drop 1)else -1:=by
  conv=>lhs;rw[hd,numT]
  rw[hl1,←hd]
 rw[hN]
 have hL:=ev_numberL s hs (s.size-1) 1
 generalize (bs s)[0]=c at *
 by_cases h2:1<s.size
 ·have hf:gidx [0,0,192,224,240] (s.size:Int)=some (firT s.size):=by
   rcases(by omega:s.size=2∨s.size=3∨s.size=4)with e|e|e<;>rw[e]<;>rfl
  have hfb:0≤firT s.size∧firT s.size≤240:=by unfold firT;split<;>(try split)<;>(try split)<;>omega
  refine Evt.ifT (decide_eq_true (by omega)) (Evt.pure hf ?_)
  rw[w64_id (x:=c) (by omega) (by omega),w64_id (by omega) (by omega)]
  by_cases h3:c-firT s.size<0
  ·exact(Evt.ifT (decide_eq_true h3) Evt.ret).eq (by rw[if_pos h3])
  ·refine(Evt.ifF (decide_eq_false h3) ?_).eq (by rw[if_neg h3])
   exact hL _ (by omega) (by omega) (by simp[bndT];omega) (by simp[bndT];omega)
 ·have hs1:firT s.size=0:=by rw[show s.size=1 by omega];rfl
  refine Evt.ifF (decide_eq_false (by omega)) ?_
  rw[w64_id (x:=c) (by omega) (by omega),hs1,Int.sub_zero]
  refine(Evt.ifF (decide_eq_false (by omega)) ?_).eq (by rw[if_neg (by omega)])
  exact hL _ (by omega) (by omega) (by simp[bndT];omega) (by simp[bndT];omega)
def nxtR(o:Option (Int×Nat)):Int×Int×Bool:=match o with
 |some (n,w)=>(n,(w:Int),true)
 |none=>(0,0,false)
theorem dec_num{l:List Int}{w:Nat}(hl:w≤l.length)(h:0≤numT (l.take w)):decT l=some (numT (l.take w),w):=by
 obtain⟨h1,h2⟩:=num_some h
 have h3:=dec_put h1 (l.drop w)
 have h4:(putT (numT (l.take w))).length=w:=by rw[h2,List.length_take];omega
 rw[h4]at h3
 rw[h2,List.take_append_drop]at h3
 exact h3
theorem num_dec{l:List Int}{n:Int}{w:Nat}(hb:∀c∈l,0≤c∧c<256)(h:decT l=some (n,w)):1≤w∧w≤4∧w≤l.length∧numT (l.take w)=n∧0≤n:=by
 obtain⟨h1,h2,h3⟩:=dec_some hb h
 have h4:1≤w∧w≤4:=by rw[h2,put_len];unfold widT;split<;>(try split)<;>(try split)<;>omega
 have h5:w≤l.length:=by rw[h3,List.length_append];omega
 have h6:l.take w=putT n:=by rw[h3,h2];simp
 exact⟨h4.1,h4.2,h5,by rw[h6];exact num_put h1,(of_decide_eq_true h1).1⟩
theorem ev_rNextL(s:ByteArray)(a:Nat)(hs:s.size≤65535)(ha:a<s.size):∀(m w:Nat),w+m=5->1≤w->(∀v,1≤v->v<w->v≤((bs s).drop a).length->numT (((bs s).drop a).take v)<0)->Evt (fun q=>e275Lcg q s (a:Int) (w:Int)) (nxtR (decT ((bs s).drop a)))
 |0,w,hm,hw,hb=>by
  have hmem:∀c∈(bs s).drop a,0≤c∧c<256:=fun c hc=>bs_mem (List.mem_of_mem_drop hc)
  refine Evt.succ ?_
  simp only[e275Lcg]
  have hn:decT ((bs s).drop a)=none:=by
   cases hx:decT ((bs s).drop a)with
   |none=>rfl
   |some x=>obtain⟨h1,h2,h3,h4,h5⟩:=num_dec hmem (n:=x.1) (w:=x.2) hx;have:=hb x.2 h1 (by omega) h3;omega
  rw[hn]
  exact Evt.ifF (decide_eq_false (by omega)) Evt.ret
 |m+1,w,hm,hw,hb=>by
  have hmem:∀c∈(bs s).drop a,0≤c∧c<256:=fun c hc=>bs_mem (List.mem_of_mem_drop hc)
  have hdl:((bs s).drop a).length=s.size-a:=by rw[List.length_drop,bs_len]
  refine Evt.succ ?_
  simp only[e275Lcg]
  refine Evt.ifT (decide_eq_true (by omega)) ?_
  rw[w64_id (x:=(s.size:Int)-a) (by omega) (by omega)]
  by_cases hl:w≤s.size-a
  ·refine Evt.ifT (decide_eq_true (by omega)) ?_
   obtain⟨x,hx,hxb⟩:=gsub_bs s (a:=a) (b:=a+w) (by omega) (by omega)
   rw[w64_id (x:=(a:Int)+w) (by omega) (by omega),show (a:Int)+w=((a+w:Nat):Int) by omega]
   rw[Nat.add_sub_cancel_left]at hxb
   have hxs:x.size=w:=by rw[←bs_len,hxb,List.length_take];omega
   refine Evt.pure hx ((ev_number x (by omega) (by omega)).bind ?_)
   rw[hxb]
   by_cases hn:0≤numT (((bs s).drop a).take w)
   ·rw[dec_num (by omega) hn]
    exact Evt.ifT (decide_eq_true (by omega)) Evt.ret
   ·refine Evt.ifF (decide_eq_false (by omega)) ?_
    rw[w64_nat w (by omega)]
    refine ev_rNextL s a hs ha m (w+1) (by omega) (by omega) fun v h1 h2 h3=>?_
    by_cases e:v=w
    ·subst e;omega
    ·exact hb v h1 (by omega) h3
  ·have hn:decT ((bs s).drop a)=none:=by
    cases hx:decT ((bs s).drop a)with
    |none=>rfl
    |some x=>obtain⟨h1,h2,h3,h4,h5⟩:=num_dec hmem (n:=x.1) (w:=x.2) hx;have:=hb x.2 h1 (by omega) h3;omega
   rw[hn]
   exact Evt.ifF (decide_eq_false (by omega)) Evt.ret
theorem ev_rNext(s:ByteArray)(a:Nat)(hs:s.size≤65535)(ha:a<s.size):Evt (fun q=>e275 q s (a:Int)) (nxtR (decT ((bs s).drop a))):=by
 simp only[e275]
 exact Evt.ifF (decide_eq_false (by omega)) (Evt.ifF (decide_eq_false (by omega)) (ev_rNextL s a hs ha 4 1 (by omega) (by omega) fun v h1 h2=>by omega))
def e203Lch:Nat->ByteArray->(List Int)->Int->Option (List Int×Int×Int)
 |0,_,_,_=>none
 |qq+1,p0,v5,v6=>
 if decide (v6<(p0.size:Int))then
 e275 qq p0 v6>>=fun r3=>
 if r3.2.2 then
 gapp 8 v5 [r3.1]>>=fun l6=>
 e203Lch qq p0 l6 (w64 (v6+r3.2.1))
 else
 some ([],v6,1)
 else
 some (v5,(p0.size:Int),0)
def e203(qq:Nat)(p0:ByteArray):Option (List Int×Int×Int):=
 if decide ((p0.size:Int)>65535)then
 some ([],0,2)
 else
 e203Lch qq p0 [] 0
def g203LchE0(j:Nat->Value)(p0:ByteArray)(v5:List Int)(v6:Int):=sp j 38 0 [(0,at' p0),(5,slv intC v5 (.st 0 1)),(6,ai v6)]
def g203LchS0(p0:ByteArray)(v5:List Int)(v6:Int):LSt:=⟨[],0,[0],1,[]⟩
abbrev K203 (p0:ByteArray) (r:List Int×Int×Int) (C:Cf):Prop:=C 203 [] [at' p0] (.tup [.sl (flat intC r.1) (List.length r.1) .no,ai r.2.1,ai r.2.2]) [] 0
theorem q203:Qf 203 Tryz.f203:=⟨Tryz.func203,by kernel_rfl⟩
theorem k203{p0 r}(h:K203 p0 r Ci):K203 p0 r Ct:=⟨h,⟨tv,tv⟩,forall_nil,⟨dI _,tv,tv,tv⟩,forall_nil⟩
theorem l203Lch:∀qq:Nat,(∀p0 v5 v6 r,e203Lch qq p0 v5 v6=some r->(∀j,Dl Tryz.prog 0 (inn (inn (lft (rgt (rgt (rgt (rgt (bod Tryz.f203)))))))) (g203LchE0 j p0 v5 v6) (g203LchS0 p0 v5 v6) (frameQ Tryz.prog 0 (FinQ Tryz.prog 0 Tryz.f203 (.tup [.sl (flat intC r.1) (List.length r.1) .no,ai r.2.1,ai r.2.2]) [] 0) [.blk 0,.seq (rgt (rgt (rgt (rgt (rgt (bod Tryz.f203))))))]))):=by
 intro qq
 induction qq with
 |zero=>
  exact fun _ _ _ _ h=>nn h
 |succ qq ih=>
  intro p0 v5 v6 r h
  rw[e203Lch]at h
  rcases spl h with⟨h2,h⟩|⟨h2,h⟩
  obtain⟨r3,h4,h⟩:=obind h
  have k:=oC 0 [] (c275 h4)<|oB 1 h2 o0
  rcases spl h with⟨h5,h⟩|⟨h5,h⟩
  obtain⟨l6,h7,h⟩:=obind h
  exact fun j=>lH 1 [] [] [1] [0,5,6] (oD (dI l6)<|oP 2 (apS41 h7 (by simp))<|oB 2 h5 k) (ih _ _ _ _ h)
  obtain rfl:=sj h
  exact fun j=>lF 1 [] (oD (dI ([]:List Int))<|oB 2 h5 k)
  obtain rfl:=sj h
  exact fun j=>lF 1 [] (oD (dI v5)<|oB 1 h2 o0)
theorem c203{qq p0 r}(h:e203 qq p0=some r):K203 p0 r Ct:=by
 unfold e203 at h
 rcases spl h with⟨h1,h⟩|⟨h1,h⟩
 obtain rfl:=sj h
 exact k203 (tF q203 0 [] (oD (dI ([]:List Int))<|oB 1 h1 o0))
 exact k203 (tH q203 1 [(none,5,1)] [] [0] [0,5,6] (oD (dI ([]:List Int))<|oB 1 h1 o0) (l203Lch _ _ _ _ _ h))
def e316Lci:Nat->(List Int)->Int->Int->Option (Bool)
 |0,_,_,_=>none
 |qq+1,p0,p1,v5=>
 if decide (v5<(List.length p0:Int))then
 gidx p0 v5>>=fun x2=>
 if x2==p1 then
 some true
 else
 e316Lci qq p0 p1 (w64 (v5+1))
 else
 some false
def e316(qq:Nat)(p0:List Int)(p1:Int):Option (Bool):=
 e316Lci qq p0 p1 0
def g316LciE0(j:Nat->Value)(p0:List Int)(p1 v5:Int):=sp j 18 0 [(0,slv intC p0 .no),(1,ai p1),(5,ai v5)]
def g316LciS0(p0:List Int)(p1 v5:Int):LSt:=⟨[],0,[],0,[]⟩
abbrev K316 (p0:List Int) (p1:Int) (r:Bool) (C:Cf):Prop:=C 316 [] [slv intC p0 .no,ai p1] (ab r) [] 0
theorem q316:Qf 316 Tryz.f316:=⟨Tryz.func316,by kernel_rfl⟩
theorem k316{p0 p1 r}(h:K316 p0 p1 r Ci):K316 p0 p1 r Ct:=⟨h,⟨⟨tv,dI _⟩,tv,tv⟩,forall_nil,tv,forall_nil⟩
theorem l316Lci:∀qq:Nat,(∀p0 p1 v5 r,e316Lci qq p0 p1 v5=some r->(∀j,Dl Tryz.prog 0 (inn (inn (rgt (lft (rgt (bod Tryz.f316)))))) (g316LciE0 j p0 p1 v5) (g316LciS0 p0 p1 v5) (frameQ Tryz.prog 0 (FinQ Tryz.prog 0 Tryz.f316 (ab r) [] 0) [.blk 0,.seq (rgt (rgt (bod Tryz.f316)))]))):=by
 intro qq
 induction qq with
 |zero=>
  exact fun _ _ _ _ h=>nn h
 |succ qq ih=>
  intro p0 p1 v5 r h
  rw[e316Lci]at h
  rcases spl h with⟨h1,h⟩|⟨h1,h⟩
  obtain⟨x2,h3,h⟩:=obind h
  have k:=oA 0 (ix41 (o:=.no) h3)<|oB 1 h1 o0
  rcases spl h with⟨h4,h⟩|⟨h4,h⟩
  obtain rfl:=sj h
  exact fun j=>lF 0 [] (oB 1 h4 k)
  exact fun j=>lH 1 [] [] [] [0,1,5] (oD (dI p0)<|oB 1 h4 k) (ih _ _ _ _ h)
  obtain rfl:=sj h
  exact fun j=>lF 0 [] (oB 1 h1 o0)
theorem c316{qq p0 p1 r}(h:e316 qq p0 p1=some r):K316 p0 p1 r Ct:=by
 unfold e316 at h
 exact k316 (tH q316 0 [] [] [] [0,1,5] (oD (dI p0) o0) (l316Lci _ _ _ _ _ h))
def e277(qq:Nat)(p0:Int):Option (Bool):=
 e316 qq [40,41,123,125,58,61,46,44,59,124,92,955,8594,45,62] p0>>=fun r1=>
 some r1
abbrev K277 (p0:Int) (r:Bool) (C:Cf):Prop:=C 277 [] [ai p0] (ab r) [] 0
theorem q277:Qf 277 Tryz.f277:=⟨Tryz.func277,by kernel_rfl⟩
theorem k277{p0 r}(h:K277 p0 r Ci):K277 p0 r Ct:=⟨h,⟨tv,tv⟩,forall_nil,tv,forall_nil⟩
theorem c277{qq p0 r}(h:e277 qq p0=some r):K277 p0 r Ct:=by
 unfold e277 at h
 obtain⟨r1,h2,h⟩:=obind h
 obtain rfl:=sj h
 exact k277 (tF q277 0 [] (oC 1 [] (c316 h2) o0))
def e205(qq:Nat)(p0:Int):Option (Bool):=
 if decide (p0≥97)then
 if decide (p0≤122)then
 some true
 else
 if decide (p0≥65)then
 if decide (p0≤90)then
 some true
 else
 if decide (p0≥128)then
 e276 qq p0>>=fun r6=>
 if r6 then
 e277 qq p0>>=fun r9=>
 if r9 then
 some false
 else
 if p0 != 160 then
 if decide (p0≥8192)then
 some (!(decide (p0≤8303)))
 else
 some true
 else
 some false
 else
 some false
 else
 some false
 else
 if decide (p0≥128)then
 e276 qq p0>>=fun r15=>
 if r15 then
 e277 qq p0>>=fun r18=>
 if r18 then
 some false
 else
 if p0 != 160 then
 if decide (p0≥8192)then
 some (!(decide (p0≤8303)))
 else
 some true
 else
 some false
 else
 some false
 else
 some false
 else
 if decide (p0≥65)then
 if decide (p0≤90)then
 some true
 else
 if decide (p0≥128)then
 e276 qq p0>>=fun r26=>
 if r26 then
 e277 qq p0>>=fun r29=>
 if r29 then
 some false
 else
 if p0 != 160 then
 if decide (p0≥8192)then
 some (!(decide (p0≤8303)))
 else
 some true
 else
 some false
 else
 some false
 else
 some false
 else
 if decide (p0≥128)then
 e276 qq p0>>=fun r35=>
 if r35 then
 e277 qq p0>>=fun r38=>
 if r38 then
 some false
 else
 if p0 != 160 then
 if decide (p0≥8192)then
 some (!(decide (p0≤8303)))
 else
 some true
 else
 some false
 else
 some false
 else
 some false
abbrev K205 (p0:Int) (r:Bool) (C:Cf):Prop:=C 205 [] [ai p0] (ab r) [] 0
theorem q205:Qf 205 Tryz.f205:=⟨Tryz.func205,by kernel_rfl⟩
theorem k205{p0 r}(h:K205 p0 r Ci):K205 p0 r Ct:=⟨h,⟨tv,tv⟩,forall_nil,tv,forall_nil⟩
theorem c205{qq p0 r}(h:e205 qq p0=some r):K205 p0 r Ct:=by
 unfold e205 at h
 rcases spl h with⟨h1,h⟩|⟨h1,h⟩
 have k:=oB 0 h1 o0
 rcases spl h with⟨h2,h⟩|⟨h2,h⟩
 obtain rfl:=sj h
 exact k205 (tF q205 0 [] (oB 0 h2 k))
 have k:=oB 0 h2 k
 rcases spl h with⟨h3,h⟩|⟨h3,h⟩
 have k:=oB 0 h3 k
 rcases spl h with⟨h4,h⟩|⟨h4,h⟩
 obtain rfl:=sj h
 exact k205 (tF q205 0 [] (oB 0 h4 k))
 have k:=oB 0 h4 k
 rcases spl h with⟨h5,h⟩|⟨h5,h⟩
 obtain⟨r6,h7,h⟩:=obind h
 have k:=oB 0 h5 k
 rcases spl h with⟨h8,h⟩|⟨h8,h⟩
 obtain⟨r9,h10,h⟩:=obind h
 have k:=oK 0 [] h8 (c276 h7) k
 rcases spl h with⟨h11,h⟩|⟨h11,h⟩
 obtain rfl:=sj h
 exact k205 (tF q205 1 [] (oK 0 [] h11 (c277 h10) k))
 have k:=oK 0 [] h11 (c277 h10) k
 rcases spl h with⟨h12,h⟩|⟨h12,h⟩
 have k:=oB 1 h12 k
 rcases spl h with⟨h13,h⟩|⟨h13,h⟩
 obtain rfl:=sj h
 exact k205 (tF q205 2 [] (oB 0 h13 k))
 obtain rfl:=sj h
 exact k205 (tF q205 1 [] (oB 0 h13 k))
 obtain rfl:=sj h
 exact k205 (tF q205 0 [] (oB 1 h12 k))
 obtain rfl:=sj h
 exact k205 (tF q205 0 [] (oK 0 [] h8 (c276 h7) k))
 obtain rfl:=sj h
 exact k205 (tF q205 0 [] (oB 0 h5 k))
 have k:=oB 0 h3 k
 rcases spl h with⟨h14,h⟩|⟨h14,h⟩
 obtain⟨r15,h16,h⟩:=obind h
 have k:=oB 0 h14 k
 rcases spl h with⟨h17,h⟩|⟨h17,h⟩
 obtain⟨r18,h19,h⟩:=obind h
 have k:=oK 0 [] h17 (c276 h16) k
 rcases spl h with⟨h20,h⟩|⟨h20,h⟩
 obtain rfl:=sj h
 exact k205 (tF q205 1 [] (oK 0 [] h20 (c277 h19) k))
 have k:=oK 0 [] h20 (c277 h19) k
 rcases spl h with⟨h21,h⟩|⟨h21,h⟩
 have k:=oB 1 h21 k
 rcases spl h with⟨h22,h⟩|⟨h22,h⟩
 obtain rfl:=sj h
 exact k205 (tF q205 2 [] (oB 0 h22 k))
 obtain rfl:=sj h
 exact k205 (tF q205 1 [] (oB 0 h22 k))
 obtain rfl:=sj h
 exact k205 (tF q205 0 [] (oB 1 h21 k))
 obtain rfl:=sj h
 exact k205 (tF q205 0 [] (oK 0 [] h17 (c276 h16) k))
 obtain rfl:=sj h
 exact k205 (tF q205 0 [] (oB 0 h14 k))
 have k:=oB 0 h1 o0
 rcases spl h with⟨h23,h⟩|⟨h23,h⟩
 have k:=oB 0 h23 k
 rcases spl h with⟨h24,h⟩|⟨h24,h⟩
 obtain rfl:=sj h
 exact k205 (tF q205 0 [] (oB 0 h24 k))
 have k:=oB 0 h24 k
 rcases spl h with⟨h25,h⟩|⟨h25,h⟩
 obtain⟨r26,h27,h⟩:=obind h
 have k:=oB 0 h25 k
 rcases spl h with⟨h28,h⟩|⟨h28,h⟩
 obtain⟨r29,h30,h⟩:=obind h
 have k:=oK 0 [] h28 (c276 h27) k
 rcases spl h with⟨h31,h⟩|⟨h31,h⟩
 obtain rfl:=sj h
 exact k205 (tF q205 1 [] (oK 0 [] h31 (c277 h30) k))
 have k:=oK 0 [] h31 (c277 h30) k
 rcases spl h with⟨h32,h⟩|⟨h32,h⟩
 have k:=oB 1 h32 k
 rcases spl h with⟨h33,h⟩|⟨h33,h⟩
 obtain rfl:=sj h
 exact k205 (tF q205 2 [] (oB 0 h33 k))
 obtain rfl:=sj h
 exact k205 (tF q205 1 [] (oB 0 h33 k))
 obtain rfl:=sj h
 exact k205 (tF q205 0 [] (oB 1 h32 k))
 obtain rfl:=sj h
 exact k205 (tF q205 0 [] (oK 0 [] h28 (c276 h27) k))
 obtain rfl:=sj h
 exact k205 (tF q205 0 [] (oB 0 h25 k))
 have k:=oB 0 h23 k
 rcases spl h with⟨h34,h⟩|⟨h34,h⟩
 obtain⟨r35,h36,h⟩:=obind h
 have k:=oB 0 h34 k
 rcases spl h with⟨h37,h⟩|⟨h37,h⟩
 obtain⟨r38,h39,h⟩:=obind h
 have k:=oK 0 [] h37 (c276 h36) k
 rcases spl h with⟨h40,h⟩|⟨h40,h⟩
 obtain rfl:=sj h
 exact k205 (tF q205 1 [] (oK 0 [] h40 (c277 h39) k))
 have k:=oK 0 [] h40 (c277 h39) k
 rcases spl h with⟨h41,h⟩|⟨h41,h⟩
 have k:=oB 1 h41 k
 rcases spl h with⟨h42,h⟩|⟨h42,h⟩
 obtain rfl:=sj h
 exact k205 (tF q205 2 [] (oB 0 h42 k))
 obtain rfl:=sj h
 exact k205 (tF q205 1 [] (oB 0 h42 k))
 obtain rfl:=sj h
 exact k205 (tF q205 0 [] (oB 1 h41 k))
 obtain rfl:=sj h
 exact k205 (tF q205 0 [] (oK 0 [] h37 (c276 h36) k))
 obtain rfl:=sj h
 exact k205 (tF q205 0 [] (oB 0 h34 k))
def e206(qq:Nat)(p0:Int):Option (Bool):=
 if decide (p0≥48)then
 some (decide (p0≤57))
 else
 some false
abbrev K206 (p0:Int) (r:Bool) (C:Cf):Prop:=C 206 [] [ai p0] (ab r) [] 0
theorem q206:Qf 206 Tryz.f206:=⟨Tryz.func206,by kernel_rfl⟩
theorem k206{p0 r}(h:K206 p0 r Ci):K206 p0 r Ct:=⟨h,⟨tv,tv⟩,forall_nil,tv,forall_nil⟩
theorem c206{qq p0 r}(h:e206 qq p0=some r):K206 p0 r Ct:=by
 unfold e206 at h
 rcases spl h with⟨h1,h⟩|⟨h1,h⟩
 obtain rfl:=sj h
 exact k206 (tF q206 1 [] (oB 0 h1 o0))
 obtain rfl:=sj h
 exact k206 (tF q206 0 [] (oB 0 h1 o0))
def sgsT:Nat->List Int->Option (List Int)
 |0,_=>some []
 |_+1,[]=>some []
 |m+1,c::r=>match decT (c::r)with
  |some (n,w)=>(sgsT m ((c::r).drop w)).map fun L=>n::L
  |none=>none
theorem sgs_put:∀(m:Nat) (l L:List Int),(∀c∈l,0≤c∧c<256)->l.length≤m->sgsT m l=some L->l=L.flatMap putT
 |0,l,L,_,hl,h=>by
  rw[sgsT]at h;cases h
  cases l with
  |nil=>rfl
  |cons _ _=>simp at hl
 |m+1,[],L,_,_,h=>by rw[sgsT]at h;cases h;rfl
 |m+1,c::r,L,hb,hl,h=>by
  rw[sgsT]at h
  cases hd:decT (c::r)with
  |none=>rw[hd]at h;cases h
  |some x=>
   obtain⟨n,w⟩:=x
   rw[hd]at h
   obtain⟨L',hL,rfl⟩:=Option.map_eq_some_iff.1 h
   obtain⟨h1,-,h3,-,-⟩:=num_dec hb hd
   have:=sgs_put m ((c::r).drop w) L' (fun x hx=>hb x (List.mem_of_mem_drop hx)) (by rw[List.length_drop];omega) hL
   rw[List.flatMap_cons,←this]
   exact(dec_some hb hd).2.2
def AllIs(s:ByteArray)(acc:List Int)(m a:Nat)(f:Nat->Option (List Int×Int×Int)):Prop:=
 (∃L,sgsT m ((bs s).drop a)=some L∧Evt f (acc++L,(s.size:Int),0))∨(sgsT m ((bs s).drop a)=none∧∃i,Evt f ([],i,1))
theorem sgs_nil(m:Nat):sgsT m []=some []:=by cases m<;>rw[sgsT]
theorem sgs_cons(m:Nat){l:List Int}(h:l≠[]):sgsT (m+1) l=match decT l with
  |some (n,w)=>(sgsT m (l.drop w)).map fun L=>n::L
  |none=>none:=by
 cases l with
 |nil=>exact absurd rfl h
 |cons c r=>rw[sgsT]
theorem all_step{s:ByteArray}{acc:List Int}{m a w:Nat}{n:Int}{f g:Nat->Option (List Int×Int×Int)}(ha:a<s.size)(hd:decT ((bs s).drop a)=some (n,w))(h:AllIs s (acc++[n]) m (a+w) f)(k:∀r,Evt f r->Evt g r):AllIs s acc (m+1) a g:=by
 have hne:(bs s).drop a≠[]:=fun e=>by have:=congrArg List.length e;rw[List.length_drop,bs_len]at this;simp at this;omega
 have e:sgsT (m+1) ((bs s).drop a)=(sgsT m ((bs s).drop (a+w))).map fun L=>n::L:=by rw[sgs_cons m hne,hd];simp only[List.drop_drop]
 rcases h with⟨L,h1,h2⟩|⟨h1,i,h2⟩
 ·exact .inl ⟨n::L,by rw[e,h1];rfl,k _ (by simpa using h2)⟩
 ·exact .inr ⟨by rw[e,h1];rfl,i,k _ h2⟩
theorem all_bad{s:ByteArray}{acc:List Int}{m a:Nat}{i:Int}{g:Nat->Option (List Int×Int×Int)}(ha:a<s.size)(hd:decT ((bs s).drop a)=none)(k:Evt g ([],i,1)):AllIs s acc (m+1) a g:=by
 have hne:(bs s).drop a≠[]:=fun e=>by have:=congrArg List.length e;rw[List.length_drop,bs_len]at this;simp at this;omega
 exact .inr ⟨by rw[sgs_cons m hne,hd],i,k⟩
theorem all_end{s:ByteArray}{acc:List Int}{m a:Nat}{g:Nat->Option (List Int×Int×Int)}(ha:s.size≤a)(k:Evt g (acc,(s.size:Int),0)):AllIs s acc m a g:=by
 have e:(bs s).drop a=[]:=List.drop_eq_nil_of_le (by rw[bs_len];exact ha)
 exact .inl ⟨[],by rw[e,sgs_nil],by simpa using k⟩
theorem dec_w{s:ByteArray}{a w:Nat}{n:Int}(hd:decT ((bs s).drop a)=some (n,w)):1≤w∧a+w≤s.size∧w≤4:=by
 obtain⟨h1,h2,h3,-,-⟩:=num_dec (fun c hc=>bs_mem (List.mem_of_mem_drop hc)) hd
 rw[List.length_drop,bs_len]at h3
 exact⟨h1,by omega,h2⟩
theorem ev_uAllL(s:ByteArray)(hs:s.size≤65535):∀(m a:Nat) (acc:List Int),s.size≤a+m->acc.length≤a->a≤s.size->AllIs s acc m a (fun q=>e320Lav q s acc (a:Int))
 |0,a,acc,hm,hl,_=>all_end (by omega) (Evt.succ (by simp only[e320Lav];exact Evt.ifF (decide_eq_false (by omega)) Evt.ret))
 |m+1,a,acc,hm,hl,hle=>by
  by_cases ha:a<s.size
  ·have hx:=ev_uNext s a hs ha
   cases hd:decT ((bs s).drop a)with
   |none=>
    rw[hd]at hx
    exact all_bad (i:=(a:Int)) ha hd (Evt.succ (by simp only[e320Lav];exact Evt.ifT (decide_eq_true (by omega)) (hx.bind (Evt.ifT rfl Evt.ret))))
   |some x=>
    obtain⟨n,w⟩:=x
    rw[hd]at hx
    have hw:=dec_w hd
    refine all_step ha hd (ev_uAllL s hs m (a+w) (acc++[n]) (by omega) (by simp;omega) hw.2.1) fun r hr=>Evt.succ ?_
    simp only[e320Lav]
    refine Evt.ifT (decide_eq_true (by omega)) (hx.bind (Evt.ifF rfl (Evt.pure (gapp_ok (by simp;omega)) ?_)))
    have e:w64 ((a:Int)+(nxtP (some (n,w))).2.1)=((a+w:Nat):Int):=by simp only[nxtP];rw[w64_id (by omega) (by omega)];omega
    rw[e];exact hr
  ·exact all_end (by omega) (Evt.succ (by simp only[e320Lav];exact Evt.ifF (decide_eq_false (by omega)) Evt.ret))
theorem ev_rAllL(s:ByteArray)(hs:s.size≤65535):∀(m a:Nat) (acc:List Int),s.size≤a+m->acc.length≤a->a≤s.size->AllIs s acc m a (fun q=>e203Lch q s acc (a:Int))
 |0,a,acc,hm,hl,_=>all_end (by omega) (Evt.succ (by simp only[e203Lch];exact Evt.ifF (decide_eq_false (by omega)) Evt.ret))
 |m+1,a,acc,hm,hl,hle=>by
  by_cases ha:a<s.size
  ·have hx:=ev_rNext s a hs ha
   cases hd:decT ((bs s).drop a)with
   |none=>
    rw[hd]at hx
    exact all_bad (i:=(a:Int)) ha hd (Evt.succ (by simp only[e203Lch];exact Evt.ifT (decide_eq_true (by omega)) (hx.bind (Evt.ifF rfl Evt.ret))))
   |some x=>
    obtain⟨n,w⟩:=x
    rw[hd]at hx
    have hw:=dec_w hd
    refine all_step ha hd (ev_rAllL s hs m (a+w) (acc++[n]) (by omega) (by simp;omega) hw.2.1) fun r hr=>Evt.succ ?_
    simp only[e203Lch]
    refine Evt.ifT (decide_eq_true (by omega)) (hx.bind (Evt.ifT rfl (Evt.pure (gapp_ok (by simp;omega)) ?_)))
    have e:w64 ((a:Int)+(nxtR (some (n,w))).2.1)=((a+w:Nat):Int):=by simp only[nxtR];rw[w64_id (by omega) (by omega)];omega
    rw[e];exact hr
  ·exact all_end (by omega) (Evt.succ (by simp only[e203Lch];exact Evt.ifF (decide_eq_false (by omega)) Evt.ret))
def txtT(s:ByteArray):Option (List Int):=if s.size≤65535 then sgsT s.size (bs s)else none
theorem ev_uAll(s:ByteArray):(∃L,txtT s=some L∧Evt (fun q=>e320 q s) (L,(s.size:Int),0))∨(txtT s=none∧∃r,Evt (fun q=>e320 q s) r∧r.2.2≠0):=by
 simp only[e320]
 unfold txtT
 by_cases h:s.size≤65535
 ·rw[if_pos h]
  rcases ev_uAllL s h s.size 0 [] (by omega) (by simp) (by omega)with⟨L,h1,h2⟩|⟨h1,i,h2⟩
  ·exact .inl ⟨L,by simpa using h1,Evt.ifF (decide_eq_false (by omega)) (by simpa using h2)⟩
  ·exact .inr ⟨by simpa using h1,_,Evt.ifF (decide_eq_false (by omega)) h2,by show (1:Int)≠0;decide⟩
 ·rw[if_neg h]
  exact .inr ⟨rfl,_,Evt.ifT (decide_eq_true (by omega)) Evt.ret,by decide⟩
theorem ev_rAll(s:ByteArray):(∃L,txtT s=some L∧Evt (fun q=>e203 q s) (L,(s.size:Int),0))∨(txtT s=none∧∃r,Evt (fun q=>e203 q s) r∧r.2.2≠0):=by
 simp only[e203]
 unfold txtT
 by_cases h:s.size≤65535
 ·rw[if_pos h]
  rcases ev_rAllL s h s.size 0 [] (by omega) (by simp) (by omega)with⟨L,h1,h2⟩|⟨h1,i,h2⟩
  ·exact .inl ⟨L,by simpa using h1,Evt.ifF (decide_eq_false (by omega)) (by simpa using h2)⟩
  ·exact .inr ⟨by simpa using h1,_,Evt.ifF (decide_eq_false (by omega)) h2,by show (1:Int)≠0;decide⟩
 ·rw[if_neg h]
  exact .inr ⟨rfl,_,Evt.ifT (decide_eq_true (by omega)) Evt.ret,by decide⟩
def marks:List Int:=[40,41,123,125,58,61,46,44,59,124,92,955,8594,45,62]
def mkT(n:Int):Bool:=decide (n∈marks)
def ascT(n:Int):Bool:=decide ((97≤n∧n≤122)∨(65≤n∧n≤90))
def highT(n:Int):Bool:=sgnT n && !mkT n&&decide (n≠160∧(n<8192∨8303<n))
def letT(n:Int):Bool:=if n<128 then ascT n else highT n
def digT(n:Int):Bool:=decide (48≤n∧n≤57)
theorem ev_uMark(n:Int):Evt (fun q=>e354 q n) (mkT n):=by
 simp only[e354]
 have yes:∀k:Int,k∈marks->(n==k)=true->true=mkT n:=fun k hk h=>by
  have:n=k:=by simpa using h
  subst this
  exact(decide_eq_true hk).symm
 repeat' (first|exact Evt.ret.eq (yes _ (by simp[marks]) h)|refine Evt.iff (fun h=>?_) (fun h=>?_))
 refine Evt.ret.eq (decide_eq_false fun hm=>?_).symm
 clear yes
 simp only[marks,List.mem_cons,List.not_mem_nil,or_false]at hm
 rcases hm with rfl|rfl|rfl|rfl|rfl|rfl|rfl|rfl|rfl|rfl|rfl|rfl|rfl|rfl|rfl<;>simp_all
theorem ev_in(l:List Int)(n:Int)(hl:l.length≤100):∀(r:List Int) (v:Nat),l.drop v=r->Evt (fun q=>e316Lci q l n (v:Int)) (decide (n∈r))
 | [],v,hd=>by
  refine Evt.succ ?_
  simp only[e316Lci]
  exact Evt.ifF (drop_nil hd) (Evt.ret.eq (by simp))
 |x::r,v,hd=>by
  have hlt:=drop_lt hd
  refine Evt.succ ?_
  simp only[e316Lci]
  refine Evt.ifT (drop_dec hd) (Evt.pure (drop_idx hd) ?_)
  by_cases h:x=n
  ·exact Evt.ifT (by simpa using h) (Evt.ret.eq (by simp[h]))
  ·refine Evt.ifF (by simpa using h) ?_
   rw[w64_nat v (by omega)]
   exact(ev_in l n hl r (v+1) (drop_next hd)).eq (by
    have:¬n=x:=fun e=>h e.symm
    simp[this])
theorem ev_rMark(n:Int):Evt (fun q=>e277 q n) (mkT n):=by
 simp only[e277,e316]
 exact(ev_in marks n (by decide) marks 0 rfl).bind Evt.ret
theorem ev_uLetter(n:Int):Evt (fun q=>e323 q n) (letT n):=by
 simp only[e323]
 unfold letT
 by_cases h:n<128
 ·rw[if_pos h]
  refine Evt.ifT (decide_eq_true h) ?_
  unfold ascT
  refine Evt.iff (fun h1=>Evt.iff (fun h2=>Evt.ret.eq ?_) fun h2=>Evt.iff (fun h3=>Evt.ret.eq ?_) fun h3=>Evt.ret.eq ?_) fun h1=>Evt.iff (fun h3=>Evt.ret.eq ?_) fun h3=>Evt.ret.eq ?_
  all_goals simp only[decide_eq_true_eq,decide_eq_false_iff_not]at *
  ·exact(decide_eq_true (by omega)).symm
  ·exact decide_eq_decide.2 (by omega)
  ·exact(decide_eq_false (by omega)).symm
  ·exact decide_eq_decide.2 (by omega)
  ·exact(decide_eq_false (by omega)).symm
 ·rw[if_neg h]
  refine Evt.ifF (decide_eq_false h) ((ev_uRight n).bind ?_)
  unfold highT
  cases sgnT n with
  |false=>exact Evt.ifF rfl (Evt.ret.eq (by simp))
  |true=>
   refine Evt.ifT rfl ((ev_uMark n).bind ?_)
   cases mkT n with
   |true=>exact Evt.ifT rfl (Evt.ret.eq (by simp))
   |false=>
    refine Evt.ifF rfl (Evt.iff (fun h1=>Evt.iff (fun h2=>Evt.ret.eq ?_) fun h2=>Evt.ret.eq ?_) fun h1=>Evt.ret.eq ?_)
    all_goals simp only[decide_eq_true_eq,decide_eq_false_iff_not,bne_iff_ne,bne_eq_false_iff_eq,Bool.true_and,Bool.not_false,ne_eq]at *
    ·exact(decide_eq_true (by omega)).symm
    ·exact decide_eq_decide.2 (by omega)
    ·exact(decide_eq_false (by omega)).symm
theorem ev_rLetter(n:Int):Evt (fun q=>e205 q n) (letT n):=by
 have hi:128≤n->Evt (fun q=>e276 q n>>=fun r6=>if r6=true then e277 q n>>=fun r9=>if r9=true then some false else if (n != 160)=true then if decide (n≥8192)=true then some (!(decide (n≤8303)))else some true else some false else some false) (letT n):=fun h=>by
  have e:letT n=highT n:=by unfold letT;rw[if_neg (by omega)]
  rw[e]
  refine(ev_sgnR n).bind ?_
  unfold highT
  cases sgnT n with
  |false=>exact Evt.ifF rfl (Evt.ret.eq (by simp))
  |true=>
   refine Evt.ifT rfl ((ev_rMark n).bind ?_)
   cases mkT n with
   |true=>exact Evt.ifT rfl (Evt.ret.eq (by simp))
   |false=>
    refine Evt.ifF rfl (Evt.iff (fun h1=>Evt.iff (fun h2=>Evt.ret.eq ?_) fun h2=>Evt.ret.eq ?_) fun h1=>Evt.ret.eq ?_)
    all_goals simp only[decide_eq_true_eq,decide_eq_false_iff_not,bne_iff_ne,bne_eq_false_iff_eq,Bool.true_and,Bool.not_false,ne_eq]at *
    ·by_cases h3:n≤8303
     ·rw[decide_eq_true h3,decide_eq_false (by omega)];rfl
     ·rw[decide_eq_false h3,decide_eq_true (by omega)];rfl
    ·exact(decide_eq_true (by omega)).symm
    ·exact(decide_eq_false (by omega)).symm
 have lo:∀b,n<128->(b=true↔(97≤n∧n≤122)∨(65≤n∧n≤90))->b=letT n:=fun b h k=>by
  unfold letT ascT
  rw[if_pos h]
  cases b with
  |true=>exact(decide_eq_true (k.1 rfl)).symm
  |false=>exact(decide_eq_false fun e=>by have:=k.2 e;cases this).symm
 simp only[e205]
 refine Evt.iff (fun h1=>Evt.iff (fun h2=>Evt.ret.eq ?_) fun h2=>Evt.iff (fun h3=>Evt.iff (fun h4=>Evt.ret.eq ?_) fun h4=>Evt.iff (fun h5=>hi (of_decide_eq_true h5)) fun h5=>Evt.ret.eq ?_) fun h3=>Evt.iff (fun h5=>hi (of_decide_eq_true h5)) fun h5=>Evt.ret.eq ?_)
  fun h1=>Evt.iff (fun h3=>Evt.iff (fun h4=>Evt.ret.eq ?_) fun h4=>Evt.iff (fun h5=>hi (of_decide_eq_true h5)) fun h5=>Evt.ret.eq ?_) fun h3=>Evt.iff (fun h5=>hi (of_decide_eq_true h5)) fun h5=>Evt.ret.eq ?_
 all_goals simp only[decide_eq_true_eq,decide_eq_false_iff_not]at *
 all_goals refine lo _ (by omega) ⟨fun h=>?_,fun h=>?_⟩
 all_goals first|omega|rfl|cases h
 all_goals omega
theorem ev_uDigit(n:Int):Evt (fun q=>e352 q n) (digT n):=by
 simp only[e352]
 unfold digT
 refine Evt.iff (fun h=>Evt.ret.eq ?_) fun h=>Evt.ret.eq ?_
 all_goals simp only[decide_eq_true_eq,decide_eq_false_iff_not]at *
 ·exact decide_eq_decide.2 (by omega)
 ·exact(decide_eq_false (by omega)).symm
theorem ev_rDigit(n:Int):Evt (fun q=>e206 q n) (digT n):=by
 simp only[e206]
 unfold digT
 refine Evt.iff (fun h=>Evt.ret.eq ?_) fun h=>Evt.ret.eq ?_
 all_goals simp only[decide_eq_true_eq,decide_eq_false_iff_not]at *
 ·exact decide_eq_decide.2 (by omega)
 ·exact(decide_eq_false (by omega)).symm
def e139Lcj:Nat->(List ByteArray)->ByteArray->Int->Int->Option (Int)
 |0,_,_,_,_=>none
 |qq+1,p0,p1,v5,v6=>
 if decide (v6<(List.length p0:Int))then
 gidx p0 v6>>=fun x2=>
 if x2.toList==p1.toList then
 e139Lcj qq p0 p1 v6 (w64 (v6+1))
 else
 e139Lcj qq p0 p1 v5 (w64 (v6+1))
 else
 some v5
def e139(qq:Nat)(p0:List ByteArray)(p1:ByteArray):Option (Int):=
 e139Lcj qq p0 p1 (-1) 0
def g139LcjE0(j:Nat->Value)(p0:List ByteArray)(p1:ByteArray)(v5 v6:Int):=sp j 21 0 [(0,slv strC p0 .no),(1,at' p1),(5,ai v5),(6,ai v6)]
def g139LcjS0(p0:List ByteArray)(p1:ByteArray)(v5 v6:Int):LSt:=⟨[],0,[],0,[]⟩
abbrev K139 (p0:List ByteArray) (p1:ByteArray) (r:Int) (C:Cf):Prop:=C 139 [] [slv strC p0 .no,at' p1] (ai r) [] 0
theorem q139:Qf 139 Tryz.f139:=⟨Tryz.func139,by kernel_rfl⟩
theorem k139{p0 p1 r}(h:K139 p0 p1 r Ci):K139 p0 p1 r Ct:=⟨h,⟨⟨tv,dS _⟩,tv,tv⟩,forall_nil,tv,forall_nil⟩
theorem l139Lcj:∀qq:Nat,(∀p0 p1 v5 v6 r,e139Lcj qq p0 p1 v5 v6=some r->(∀j,Dl Tryz.prog 0 (inn (inn (rgt (lft (rgt (rgt (bod Tryz.f139))))))) (g139LcjE0 j p0 p1 v5 v6) (g139LcjS0 p0 p1 v5 v6) (frameQ Tryz.prog 0 (FinQ Tryz.prog 0 Tryz.f139 (ai r) [] 0) [.blk 0,.seq (rgt (rgt (rgt (bod Tryz.f139))))]))):=by
 intro qq
 induction qq with
 |zero=>
  exact fun _ _ _ _ _ h=>nn h
 |succ qq ih=>
  intro p0 p1 v5 v6 r h
  rw[e139Lcj]at h
  rcases spl h with⟨h1,h⟩|⟨h1,h⟩
  obtain⟨x2,h3,h⟩:=obind h
  have k:=oA 0 (ix141 (o:=.no) h3)<|oB 1 h1 o0
  rcases spl h with⟨h4,h⟩|⟨h4,h⟩
  exact fun j=>lH 1 [] [] [] [0,1,5,6] (oD (dS p0)<|oB 1 h4 k) (ih _ _ _ _ _ h)
  exact fun j=>lH 1 [] [] [] [0,1,5,6] (oD (dS p0)<|oB 1 h4 k) (ih _ _ _ _ _ h)
  obtain rfl:=sj h
  exact fun j=>lF 0 [] (oB 1 h1 o0)
theorem c139{qq p0 p1 r}(h:e139 qq p0 p1=some r):K139 p0 p1 r Ct:=by
 unfold e139 at h
 exact k139 (tH q139 0 [] [] [] [0,1,5,6] (oD (dS p0) o0) (l139Lcj _ _ _ _ _ _ h))
def e204(qq:Nat)(p0:ByteArray):Option (Bool):=
 if p0.toList==(⟨#[100,97,116,97]⟩:ByteArray).toList then
 some true
 else
 if p0.toList==(⟨#[114,101,99,111,114,100]⟩:ByteArray).toList then
 some true
 else
 if p0.toList==(⟨#[100,101,102]⟩:ByteArray).toList then
 some true
 else
 some (p0.toList==(⟨#[83,101,116]⟩:ByteArray).toList)
abbrev K204 (p0:ByteArray) (r:Bool) (C:Cf):Prop:=C 204 [] [at' p0] (ab r) [] 0
theorem q204:Qf 204 Tryz.f204:=⟨Tryz.func204,by kernel_rfl⟩
theorem k204{p0 r}(h:K204 p0 r Ci):K204 p0 r Ct:=⟨h,⟨tv,tv⟩,forall_nil,tv,forall_nil⟩
theorem c204{qq p0 r}(h:e204 qq p0=some r):K204 p0 r Ct:=by
 unfold e204 at h
 rcases spl h with⟨h1,h⟩|⟨h1,h⟩
 obtain rfl:=sj h
 exact k204 (tF q204 0 [] (oB 0 h1 o0))
 have k:=oB 0 h1 o0
 rcases spl h with⟨h2,h⟩|⟨h2,h⟩
 obtain rfl:=sj h
 exact k204 (tF q204 0 [] (oB 0 h2 k))
 have k:=oB 0 h2 k
 rcases spl h with⟨h3,h⟩|⟨h3,h⟩
 obtain rfl:=sj h
 exact k204 (tF q204 0 [] (oB 0 h3 k))
 obtain rfl:=sj h
 exact k204 (tF q204 1 [] (oB 0 h3 k))
def e140Lck:Nat->(List Int×Int×Int)->Int->Option (Bool)
 |0,_,_=>none
 |qq+1,r1,v6=>
 if decide (v6<(List.length r1.1:Int))then
 gidx r1.1 v6>>=fun x11=>
 e205 qq x11>>=fun r13=>
 if r13 then
 e140Lck qq r1 (w64 (v6+1))
 else
 if x11 != 95 then
 if v6==0 then
 some false
 else
 e206 qq x11>>=fun r18=>
 if r18 then
 e140Lck qq r1 (w64 (v6+1))
 else
 if x11 != 39 then
 some false
 else
 e140Lck qq r1 (w64 (v6+1))
 else
 e140Lck qq r1 (w64 (v6+1))
 else
 some true
def e140(qq:Nat)(p0:ByteArray):Option (Bool):=
 e203 qq p0>>=fun r1=>
 if r1.2.2 != 0 then
 some false
 else
 if (p0.size:Int)==0 then
 some false
 else
 if decide ((p0.size:Int)>40)then
 some false
 else
 e204 qq p0>>=fun r6=>
 if r6 then
 some false
 else
 if p0.toList==(⟨#[95]⟩:ByteArray).toList then
 some false
 else
 e140Lck qq r1 0
def g140LckE0(j:Nat->Value)(r1:List Int×Int×Int)(v6:Int):=sp j 71 0 [(3,slv intC r1.1 .no),(6,ai v6)]
def g140LckS0(r1:List Int×Int×Int)(v6:Int):LSt:=⟨[],0,[],0,[]⟩
abbrev K140 (p0:ByteArray) (r:Bool) (C:Cf):Prop:=C 140 [] [at' p0] (ab r) [] 0
theorem q140:Qf 140 Tryz.f140:=⟨Tryz.func140,by kernel_rfl⟩
theorem k140{p0 r}(h:K140 p0 r Ci):K140 p0 r Ct:=⟨h,⟨tv,tv⟩,forall_nil,tv,forall_nil⟩
theorem l140Lck:∀qq:Nat,(∀r1 v6 r,e140Lck qq r1 v6=some r->(∀j,Dl Tryz.prog 0 (inn (inn (rgt (lft (rgt (rgt (rgt (bod Tryz.f140)))))))) (g140LckE0 j r1 v6) (g140LckS0 r1 v6) (frameQ Tryz.prog 0 (FinQ Tryz.prog 0 Tryz.f140 (ab r) [] 0) [.blk 0,.seq (rgt (rgt (rgt (rgt (bod Tryz.f140)))))]))):=by
 intro qq
 induction qq with
 |zero=>
  exact fun _ _ _ h=>nn h
 |succ qq ih=>
  intro r1 v6 r h
  rw[e140Lck]at h
  rcases spl h with⟨h10,h⟩|⟨h10,h⟩
  obtain⟨x11,h12,h⟩:=obind h
  obtain⟨r13,h14,h⟩:=obind h
  have k:=oA 0 (ix41 (o:=.no) h12)<|oB 1 h10 o0
  rcases spl h with⟨h15,h⟩|⟨h15,h⟩
  exact fun j=>lH 2 [] [] [] [3,6] (oD (dI r1.1)<|oK 1 [] h15 (c205 h14) k) (ih _ _ _ h)
  have k:=oA 1 (ix41 (o:=.no) h12)<|oK 1 [] h15 (c205 h14) k
  rcases spl h with⟨h16,h⟩|⟨h16,h⟩
  have k:=oB 1 h16 k
  rcases spl h with⟨h17,h⟩|⟨h17,h⟩
  obtain rfl:=sj h
  exact fun j=>lF 0 [] (oB 0 h17 k)
  obtain⟨r18,h19,h⟩:=obind h
  have k:=oA 0 (ix41 (o:=.no) h12)<|oB 0 h17 k
  rcases spl h with⟨h20,h⟩|⟨h20,h⟩
  exact fun j=>lH 2 [] [] [] [3,6] (oD (dI r1.1)<|oK 1 [] h20 (c206 h19) k) (ih _ _ _ h)
  have k:=oA 1 (ix41 (o:=.no) h12)<|oK 1 [] h20 (c206 h19) k
  rcases spl h with⟨h21,h⟩|⟨h21,h⟩
  obtain rfl:=sj h
  exact fun j=>lF 0 [] (oB 1 h21 k)
  exact fun j=>lH 1 [] [] [] [3,6] (oD (dI r1.1)<|oB 1 h21 k) (ih _ _ _ h)
  exact fun j=>lH 1 [] [] [] [3,6] (oD (dI r1.1)<|oB 1 h16 k) (ih _ _ _ h)
  obtain rfl:=sj h
  exact fun j=>lF 0 [] (oB 1 h10 o0)
theorem c140{qq p0 r}(h:e140 qq p0=some r):K140 p0 r Ct:=by
 unfold e140 at h
 obtain⟨r1,h2,h⟩:=obind h
 have k:=oC 0 [] (c203 h2) o0
 rcases spl h with⟨h3,h⟩|⟨h3,h⟩
 obtain rfl:=sj h
 exact k140 (tF q140 0 [] (oB 3 h3 k))
 have k:=oB 3 h3 k
 rcases spl h with⟨h4,h⟩|⟨h4,h⟩
 obtain rfl:=sj h
 exact k140 (tF q140 0 [] (oB 1 h4 k))
 have k:=oB 1 h4 k
 rcases spl h with⟨h5,h⟩|⟨h5,h⟩
 obtain rfl:=sj h
 exact k140 (tF q140 0 [] (oB 1 h5 k))
 obtain⟨r6,h7,h⟩:=obind h
 have k:=oB 1 h5 k
 rcases spl h with⟨h8,h⟩|⟨h8,h⟩
 obtain rfl:=sj h
 exact k140 (tF q140 0 [] (oK 0 [] h8 (c204 h7) k))
 have k:=oK 0 [] h8 (c204 h7) k
 rcases spl h with⟨h9,h⟩|⟨h9,h⟩
 obtain rfl:=sj h
 exact k140 (tF q140 0 [] (oB 0 h9 k))
 exact k140 (tH q140 0 [] [] [] [3,6] (oD (dI r1.1)<|oB 0 h9 k) (l140Lck _ _ _ _ h))
def e73Lcl:Nat->(List ByteArray)->Int->Option (Bool)
 |0,_,_=>none
 |qq+1,p0,v3=>
 if decide (v3<(List.length p0:Int))then
 gidx p0 v3>>=fun x2=>
 e139 qq p0 x2>>=fun r4=>
 if r4 != v3 then
 some false
 else
 e73Lcl qq p0 (w64 (v3+1))
 else
 some true
def e73(qq:Nat)(p0:List ByteArray):Option (Bool):=
 e73Lcl qq p0 0
def g73LclE0(j:Nat->Value)(p0:List ByteArray)(v3:Int):=sp j 18 0 [(0,slv strC p0 .no),(3,ai v3)]
def g73LclS0(p0:List ByteArray)(v3:Int):LSt:=⟨[],0,[],0,[]⟩
abbrev K73 (p0:List ByteArray) (r:Bool) (C:Cf):Prop:=C 73 [] [slv strC p0 .no] (ab r) [] 0
theorem q73:Qf 73 Tryz.f73:=⟨Tryz.func73,by kernel_rfl⟩
theorem k73{p0 r}(h:K73 p0 r Ci):K73 p0 r Ct:=⟨h,⟨⟨tv,dS _⟩,tv⟩,forall_nil,tv,forall_nil⟩
theorem l73Lcl:∀qq:Nat,(∀p0 v3 r,e73Lcl qq p0 v3=some r->(∀j,Dl Tryz.prog 0 (inn (inn (rgt (lft (rgt (bod Tryz.f73)))))) (g73LclE0 j p0 v3) (g73LclS0 p0 v3) (frameQ Tryz.prog 0 (FinQ Tryz.prog 0 Tryz.f73 (ab r) [] 0) [.blk 0,.seq (rgt (rgt (bod Tryz.f73)))]))):=by
 intro qq
 induction qq with
 |zero=>
  exact fun _ _ _ h=>nn h
 |succ qq ih=>
  intro p0 v3 r h
  rw[e73Lcl]at h
  rcases spl h with⟨h1,h⟩|⟨h1,h⟩
  obtain⟨x2,h3,h⟩:=obind h
  obtain⟨r4,h5,h⟩:=obind h
  have k:=oC 1 [] (c139 h5)<|oA 0 (ix141 (o:=.no) h3)<|oB 1 h1 o0
  rcases spl h with⟨h6,h⟩|⟨h6,h⟩
  obtain rfl:=sj h
  exact fun j=>lF 0 [] (oB 0 h6 k)
  exact fun j=>lH 1 [] [] [] [0,3] (oD (dS p0)<|oB 0 h6 k) (ih _ _ _ h)
  obtain rfl:=sj h
  exact fun j=>lF 0 [] (oB 1 h1 o0)
theorem c73{qq p0 r}(h:e73 qq p0=some r):K73 p0 r Ct:=by
 unfold e73 at h
 exact k73 (tH q73 0 [] [] [] [0,3] (oD (dS p0) o0) (l73Lcl _ _ _ _ h))
def kwT(s:ByteArray):Bool:=(s.toList==(⟨#[100,97,116,97]⟩:ByteArray).toList)||(s.toList==(⟨#[114,101,99,111,114,100]⟩:ByteArray).toList)||(s.toList==(⟨#[100,101,102]⟩:ByteArray).toList)||(s.toList==(⟨#[83,101,116]⟩:ByteArray).toList)
theorem ev_uKeyword(s:ByteArray):Evt (fun q=>e321 q s) (kwT s):=by
 simp only[e321]
 unfold kwT
 generalize (s.toList==(⟨#[100,97,116,97]⟩:ByteArray).toList)=a
 generalize (s.toList==(⟨#[114,101,99,111,114,100]⟩:ByteArray).toList)=b
 generalize (s.toList==(⟨#[100,101,102]⟩:ByteArray).toList)=c
 generalize (s.toList==(⟨#[83,101,116]⟩:ByteArray).toList)=d
 cases a
 ·cases b
  ·cases c
   ·cases d
    ·exact Evt.ret
    ·exact Evt.ret
   ·exact Evt.ret
  ·exact Evt.ret
 ·exact Evt.ret
theorem ev_rKeyword(s:ByteArray):Evt (fun q=>e204 q s) (kwT s):=by
 simp only[e204]
 unfold kwT
 generalize (s.toList==(⟨#[100,97,116,97]⟩:ByteArray).toList)=a
 generalize (s.toList==(⟨#[114,101,99,111,114,100]⟩:ByteArray).toList)=b
 generalize (s.toList==(⟨#[100,101,102]⟩:ByteArray).toList)=c
 generalize (s.toList==(⟨#[83,101,116]⟩:ByteArray).toList)=d
 cases a
 ·cases b
  ·cases c
   ·cases d
    ·exact Evt.ret
    ·exact Evt.ret
   ·exact Evt.ret
  ·exact Evt.ret
 ·exact Evt.ret
def innT(n:Int):Bool:=letT n||digT n||n==95||n==39
theorem ev_uinner(n:Int):Evt (fun q=>e322 q n) (innT n):=by
 simp only[e322]
 unfold innT
 refine(ev_uLetter n).bind ?_
 cases letT n with
 |true=>exact Evt.ifT rfl (Evt.ret.eq (by simp))
 |false=>
  refine Evt.ifF rfl ((ev_uDigit n).bind ?_)
  cases digT n with
  |true=>exact Evt.ifT rfl (Evt.ret.eq (by simp))
  |false=>
   refine Evt.ifF rfl ?_
   by_cases h:n=95
   ·exact Evt.ifT (by simpa using h) (Evt.ret.eq (by simp[h]))
   ·exact Evt.ifF (by simpa using h) (Evt.ret.eq (by simp[h]))
def sgnsT(L:List Int):Bool:=match L with
 | []=>false
 |x::r=>(letT x||x==95)&&r.all innT && !(x==95&&r.isEmpty)
def rgtT(s:ByteArray):Bool:=match txtT s with
 |some L=>decide (s.size≤40) && !kwT s&&sgnsT L
 |none=>false
theorem ev_nRightL(r1:List Int×Int×Int)(x:Int)(r0:List Int)(h1:r1.1=x::r0)(hl:r1.1.length≤65535):∀(r:List Int) (v:Nat),r1.1.drop v=r->Evt (fun q=>e280Law q r1 (v:Int)) (r.all innT&&(letT x||(x==95 && !r0.isEmpty)))
 | [],v,hd=>by
  refine Evt.succ ?_
  simp only[e280Law]
  refine Evt.ifF (drop_nil hd) (Evt.pure (a:=x) (by rw[h1];rfl) ((ev_uLetter x).bind ?_))
  cases letT x with
  |true=>exact Evt.ifT rfl (Evt.ret.eq (by simp))
  |false=>
   refine Evt.ifF rfl ?_
   by_cases h:x=95
   ·refine Evt.ifT (by simpa using h) (Evt.ret.eq ?_)
    rw[h1]
    cases r0 with
    |nil=>simp[h]
    |cons _ _=>simp[h];omega
   ·exact Evt.ifF (by simpa using h) (Evt.ret.eq (by simp[h]))
 |y::r,v,hd=>by
  have hlt:=drop_lt hd
  refine Evt.succ ?_
  simp only[e280Law]
  refine Evt.ifT (drop_dec hd) (Evt.pure (drop_idx hd) ((ev_uinner y).bind ?_))
  cases hy:innT y with
  |true=>
   refine Evt.ifT rfl ?_
   rw[w64_nat v (by omega)]
   exact(ev_nRightL r1 x r0 h1 hl r (v+1) (drop_next hd)).eq (by simp[hy])
  |false=>exact Evt.ifF rfl (Evt.ret.eq (by simp[hy]))
theorem let95:letT 95=false:=by kernel_rfl
theorem txt_len{s:ByteArray}{L:List Int}(h:txtT s=some L):bs s=L.flatMap putT:=by
 unfold txtT at h
 split at h
 ·exact sgs_put s.size (bs s) L (fun c hc=>bs_mem hc) (by rw[bs_len];omega) h
 ·cases h
theorem put_ne(n:Int):putT n≠[]:=fun h=>by
 have:=put_len n
 rw[h]at this
 unfold widT at this
 split at this<;>(try split at this)<;>(try split at this)<;>simp at this
theorem fm_len:∀(L:List Int),L.length≤(L.flatMap putT).length
 | []=>by simp
 |n::L=>by
  rw[List.flatMap_cons,List.length_append,List.length_cons]
  have:=fm_len L
  have:0<(putT n).length:=List.length_pos_iff.2 (put_ne n)
  omega
theorem ev_uRightN(s:ByteArray):Evt (fun q=>e280 q s) (rgtT s):=by
 simp only[e280]
 unfold rgtT
 rcases ev_uAll s with⟨L,h1,h2⟩|⟨h1,r,h2,h3⟩
 ·rw[h1]
  dsimp only
  refine h2.bind (Evt.ifF rfl ?_)
  have hb:=txt_len h1
  cases L with
  |nil=>exact Evt.ifT rfl (Evt.ret.eq (by simp[sgnsT]))
  |cons x r=>
   refine Evt.ifF (by simp;omega) ?_
   by_cases h40:s.size≤40
   ·refine Evt.ifF (decide_eq_false (by omega)) ((ev_uKeyword s).bind ?_)
    rw[decide_eq_true h40]
    cases kwT s with
    |true=>exact Evt.ifT rfl (Evt.ret.eq (by simp))
    |false=>
     refine Evt.ifF rfl ?_
     have hlen:(x::r).length≤65535:=by
      have h1:=bs_len s
      have h2:=fm_len (x::r)
      rw[hb]at h1
      omega
     refine(ev_nRightL (x::r,(s.size:Int),0) x r rfl hlen (x::r) 0 rfl).eq ?_
     simp only[sgnsT,List.all_cons,innT,Bool.true_and,Bool.not_false]
     by_cases hx:x=95
     ·subst hx;rw[let95];cases r<;>simp
     ·have e:(x==95)=false:=by simpa using hx
      rw[e]
      cases letT x<;>simp
   ·exact Evt.ifT (decide_eq_true (by omega)) (Evt.ret.eq (by simp[h40]))
 ·rw[h1];exact h2.bind (Evt.ifT (by simpa using h3) Evt.ret)
theorem ev_rRightL(r1:List Int×Int×Int)(hl:r1.1.length≤65535):∀(r:List Int) (v:Nat),1≤v->r1.1.drop v=r->Evt (fun q=>e140Lck q r1 (v:Int)) (r.all innT)
 | [],v,hv,hd=>by
  refine Evt.succ ?_
  simp only[e140Lck]
  exact Evt.ifF (drop_nil hd) Evt.ret
 |y::r,v,hv,hd=>by
  have hlt:=drop_lt hd
  have next:=ev_rRightL r1 hl r (v+1) (by omega) (drop_next hd)
  refine Evt.succ ?_
  simp only[e140Lck]
  refine Evt.ifT (drop_dec hd) (Evt.pure (drop_idx hd) ((ev_rLetter y).bind ?_))
  rw[w64_nat v (by omega)]
  have ha:(y::r).all innT=(innT y&&r.all innT):=rfl
  rw[ha]
  generalize r.all innT=R at next ⊢
  unfold innT
  cases letT y with
  |true=>exact Evt.ifT rfl (next.eq (by simp))
  |false=>
   refine Evt.ifF rfl ?_
   by_cases h:y=95
   ·exact Evt.ifF (by simp[h]) (next.eq (by simp[h]))
   ·refine Evt.ifT (by simpa using h) (Evt.ifF (beq_eq_false_iff_ne.2 (by omega)) ((ev_rDigit y).bind ?_))
    cases digT y with
    |true=>exact Evt.ifT rfl (next.eq (by simp))
    |false=>
     refine Evt.ifF rfl ?_
     by_cases h2:y=39
     ·exact Evt.ifF (by simp[h2]) (next.eq (by simp[h2]))
     ·exact Evt.ifT (by simpa using h2) (Evt.ret.eq (by simp[h,h2]))
theorem bs_us:bs ⟨#[95]⟩=[95]:=by rfl
theorem txt_us{s:ByteArray}{L:List Int}(h:txtT s=some L):(s.toList==(⟨#[95]⟩:ByteArray).toList)=decide (L=[95]):=by
 rw[bs_eq,bs_us]
 have hb:=txt_len h
 have e95:putT 95=[95]:=by unfold putT;rw[if_pos (by omega)]
 by_cases hL:L=[95]
 ·subst hL
  rw[decide_eq_true rfl]
  refine decide_eq_true ?_
  rw[hb];simp[e95]
 ·rw[decide_eq_false hL]
  refine decide_eq_false fun hs=>hL ?_
  have hz:s.size=1:=by rw[←bs_len,hs];rfl
  have h2:txtT s=some [95]:=by
   unfold txtT
   rw[if_pos (by omega),hz,hs]
   rfl
  rw[h]at h2
  exact Option.some.inj h2
theorem ev_rRightN(s:ByteArray):Evt (fun q=>e140 q s) (rgtT s):=by
 simp only[e140]
 unfold rgtT
 rcases ev_rAll s with⟨L,h1,h2⟩|⟨h1,r,h2,h3⟩
 ·rw[h1]
  dsimp only
  refine h2.bind (Evt.ifF rfl ?_)
  have hb:=txt_len h1
  have hbl:=bs_len s
  cases L with
  |nil=>
   have hz:s.size=0:=by rw[←hbl,hb];rfl
   exact Evt.ifT (by rw[hz];rfl) (Evt.ret.eq (by simp[sgnsT]))
  |cons x r=>
   have hlen:=fm_len (x::r)
   rw[←hb,hbl]at hlen
   have hpos:0<s.size:=by simp at hlen;omega
   refine Evt.ifF (beq_eq_false_iff_ne.2 (by omega)) ?_
   by_cases h40:s.size≤40
   ·refine Evt.ifF (decide_eq_false (by omega)) ((ev_rKeyword s).bind ?_)
    rw[decide_eq_true h40]
    cases kwT s with
    |true=>exact Evt.ifT rfl (Evt.ret.eq (by simp))
    |false=>
     refine Evt.ifF rfl ?_
     rw[txt_us h1]
     by_cases hu:x::r=[95]
     ·refine Evt.ifT (decide_eq_true hu) (Evt.ret.eq ?_)
      obtain⟨rfl,rfl⟩:x=95∧r=[]:=by simpa using hu
      simp[sgnsT]
     ·refine Evt.ifF (decide_eq_false hu) (Evt.succ ?_)
      have next:=ev_rRightL (x::r,(s.size:Int),0) (by show (x::r).length≤65535;omega) r 1 (by omega) rfl
      simp only[e140Lck]
      refine Evt.ifT (decide_eq_true (by show (0:Int)<((r.length+1:Nat):Int);omega)) (Evt.pure (a:=x) rfl ((ev_rLetter x).bind ?_))
      have e1:w64 (0+1)=((1:Nat):Int):=by rfl
      rw[e1]
      have hq:(x==95&&r.isEmpty)=false:=by
       by_cases hx:x=95
       ·cases r with
        |nil=>exact absurd (by rw[hx]) hu
        |cons _ _=>simp
       ·simp[hx]
      simp only[sgnsT,hq]
      cases letT x with
      |true=>exact Evt.ifT rfl (next.eq (by simp))
      |false=>
       refine Evt.ifF rfl ?_
       by_cases hx:x=95
       ·exact Evt.ifF (by simp[hx]) (next.eq (by simp[hx]))
       ·exact Evt.ifT (by simpa using hx) (Evt.ifT rfl (Evt.ret.eq (by simp[hx])))
   ·exact Evt.ifT (decide_eq_true (by omega)) (Evt.ret.eq (by simp[h40]))
 ·rw[h1];exact h2.bind (Evt.ifT (by simpa using h3) Evt.ret)
theorem ev_refName{N:ByteArray->Bool}(hN:NamesBy N)(s:ByteArray):Evt (fun q=>e140 q s) (N s):=(ev_rRightN s).eq ((ev_uRightN s).det (hN s))
theorem bs_inj{a b:ByteArray}:bs a=bs b↔a=b:=by
 constructor
 ·intro h
  have:=bs_eq a b
  rw[decide_eq_true h]at this
  have h2:a.toList=b.toList:=by simpa using this
  rw[baList,baList]at h2
  cases a;cases b
  simp only[ByteArray.mk.injEq]
  exact Array.toList_inj.1 h2
 ·rintro rfl;rfl
theorem ba_beq(a b:ByteArray):(a==b)=decide (a=b):=by
 cases a with
 |mk x=>
 cases b with
 |mk y=>
 show (x==y)=_
 by_cases h:x=y
 ·subst h;simp
 ·rw[decide_eq_false (fun e=>h (ByteArray.mk.inj e))]
  simpa using h
theorem mget_set(m:List (ByteArray×Int))(k y:ByteArray)(z:Int):mget (mset m k z) y=if y=k then z else mget m y:=by
 induction m with
 |nil=>simp only[mset,mget,ba_beq,decide_eq_true_eq]
 |cons p m ih=>
  rw[mset,ba_beq]
  by_cases e1:k=p.1
  ·rw[if_pos (decide_eq_true e1),mget,mget,ba_beq,ba_beq]
   simp only[decide_eq_true_eq]
   by_cases e:y=k
   ·rw[if_pos e,if_pos e]
   ·rw[if_neg e,if_neg e,if_neg (fun h:y=p.1=>e (h.trans e1.symm))]
  ·rw[if_neg (by simpa using e1),mget,mget,ih,ba_beq]
   simp only[decide_eq_true_eq]
   by_cases e:y=p.1
   ·rw[if_pos e,if_pos e,if_neg (fun h:y=k=>e1 (h.symm.trans e))]
   ·rw[if_neg e,if_neg e]
open Classical in
theorem ev_uDistL(l:List ByteArray)(hl:l.length≤65535):∀(r:List ByteArray) (v:Nat) (m:List (ByteArray×Int)),l.drop v=r->(∀x,0≤mget m x∧mget m x≤v)->(∀x,0<mget m x↔x∈l.take v)->Evt (fun q=>e222Lat q l (v:Int) m) (decide (∀i,v≤i->(h:i<l.length)->l[i] ∉ l.take i))
 | [],v,m,hd,hm0,hm=>by
  refine Evt.succ ?_
  simp only[e222Lat]
  refine Evt.ifF (drop_nil hd) (Evt.ret.eq (decide_eq_true fun i hi h=>?_).symm)
  have:=List.drop_eq_nil_iff.1 hd
  omega
 |x::r,v,m,hd,hm0,hm=>by
  have hlt:=drop_lt hd
  have hx:l[v]=x:=by
   have:=drop_idx hd
   unfold gidx at this
   rw[if_pos (by omega),Int.toNat_natCast,List.getElem?_eq_getElem hlt]at this
   exact Option.some.inj this
  refine Evt.succ ?_
  simp only[e222Lat]
  refine Evt.ifT (drop_dec hd) (Evt.pure (drop_idx hd) ?_)
  by_cases h:0<mget m x
  ·refine Evt.ifT (decide_eq_true h) (Evt.ret.eq (decide_eq_false fun hf=>?_).symm)
   exact hf v (Nat.le_refl _) hlt (by rw[hx];exact(hm x).1 h)
  ·refine Evt.ifF (decide_eq_false h) ?_
   have hz:mget m x=0:=by have:=(hm0 x).1;omega
   rw[hz,w64_nat v (by omega),show w64 (0+1)=1 by rfl]
   have ht:l.take (v+1)=l.take v++[x]:=by rw[List.take_succ_eq_append_getElem hlt,hx]
   refine(ev_uDistL l hl r (v+1) _ (drop_next hd) (fun y=>?_) fun y=>?_).eq ?_
   ·rw[mget_set];have:=hm0 y;split<;>omega
   ·rw[mget_set,ht,List.mem_append,List.mem_singleton]
    by_cases e:y=x
    ·rw[if_pos e];simp[e]
    ·rw[if_neg e];simp[e,hm y]
   ·refine decide_eq_decide.2 ⟨fun hf i hi hil=>?_,fun hf i hi hil=>hf i (by omega) hil⟩
    by_cases e:i=v
    ·subst e;rw[hx];exact fun hmem=>h ((hm x).2 hmem)
    ·exact hf i (by omega) hil
theorem ev_rPlaceL(l:List ByteArray)(x:ByteArray)(hl:l.length≤65535):∀(r:List ByteArray) (v:Nat) (a:Int),l.drop v=r->∃p,Evt (fun q=>e139Lcj q l x a (v:Int)) p∧((p=a∧x ∉ r)∨∃i:Nat,p=(i:Int)∧v≤i∧∃h:i<l.length,l[i]=x∧∀j,i<j->(hj:j<l.length)->l[j]≠x)
 | [],v,a,hd=>⟨a,by
   refine Evt.succ ?_
   simp only[e139Lcj]
   exact Evt.ifF (drop_nil hd) Evt.ret,.inl ⟨rfl,by simp⟩⟩
 |y::r,v,a,hd=>by
  have hlt:=drop_lt hd
  have hx:l[v]=y:=by
   have:=drop_idx hd
   unfold gidx at this
   rw[if_pos (by omega),Int.toNat_natCast,List.getElem?_eq_getElem hlt]at this
   exact Option.some.inj this
  have hmem:∀j,v<j->(hj:j<l.length)->l[j]∈r:=fun j h1 h2=>by
   have h3:=drop_next hd
   rw[←h3]
   exact List.mem_drop_iff_getElem.2 ⟨j-(v+1),by omega,by congr 1;omega⟩
  by_cases e:y=x
  ·obtain⟨p,h1,h2⟩:=ev_rPlaceL l x hl r (v+1) (v:Int) (drop_next hd)
   refine⟨p,Evt.succ ?_,.inr ?_⟩
   ·simp only[e139Lcj]
    refine Evt.ifT (drop_dec hd) (Evt.pure (drop_idx hd) (Evt.ifT (by rw[e];simp) ?_))
    rw[w64_nat v (by omega)];exact h1
   ·rcases h2 with⟨h3,h4⟩|⟨i,h3,h4,h5,h6,h7⟩
    ·exact⟨v,h3,Nat.le_refl _,hlt,by rw[hx,e],fun j h8 h9 h10=>h4 (by rw[←h10];exact hmem j h8 h9)⟩
    ·exact⟨i,h3,by omega,h5,h6,h7⟩
  ·obtain⟨p,h1,h2⟩:=ev_rPlaceL l x hl r (v+1) a (drop_next hd)
   refine⟨p,Evt.succ ?_,?_⟩
   ·simp only[e139Lcj]
    refine Evt.ifT (drop_dec hd) (Evt.pure (drop_idx hd) (Evt.ifF ?_ ?_))
    ·rw[bs_eq];exact decide_eq_false fun h=>e (bs_inj.1 h)
    ·rw[w64_nat v (by omega)];exact h1
   ·rcases h2 with⟨h3,h4⟩|⟨i,h3,h4,h5,h6,h7⟩
    ·exact .inl ⟨h3,fun hm=>(List.mem_cons.1 hm).elim (fun h=>e h.symm) h4⟩
    ·exact .inr ⟨i,h3,by omega,h5,h6,h7⟩
def DistinctN(l:List ByteArray):Prop:=∀i,(h:i<l.length)->l[i] ∉ l.take i
open Classical in
theorem ev_uDist(l:List ByteArray)(hl:l.length≤65535):∃d,Evt (fun q=>e222 q l) d∧(d=true↔DistinctN l):=by
 refine⟨_,(by simp only[e222];exact ev_uDistL l hl l 0 [] rfl (fun x=>by rw[mget];omega) fun x=>by rw[mget];simp),?_⟩
 rw[decide_eq_true_eq]
 exact⟨fun h i hi=>h i (Nat.zero_le _) hi,fun h i _ hi=>h i hi⟩
theorem ev_rDist(l:List ByteArray)(hl:l.length≤65535):∃d,Evt (fun q=>e73 q l) d∧(d=true↔DistinctN l):=by
 simp only[e73]
 have key:∀(r:List ByteArray) (v:Nat),l.drop v=r->∃d,Evt (fun q=>e73Lcl q l (v:Int)) d∧(d=true ↔ ∀i,v≤i->(h:i<l.length)->∀j,i<j->(hj:j<l.length)->l[j]≠l[i]):=by
  intro r
  induction r with
  |nil=>
   intro v hd
   refine⟨true,Evt.succ ?_,⟨fun _ i hi h=>?_,fun _=>rfl⟩⟩
   ·simp only[e73Lcl]
    exact Evt.ifF (drop_nil hd) Evt.ret
   ·have:=List.drop_eq_nil_iff.1 hd;omega
  |cons x r ih=>
   intro v hd
   have hlt:=drop_lt hd
   have hx:l[v]=x:=by
    have:=drop_idx hd
    unfold gidx at this
    rw[if_pos (by omega),Int.toNat_natCast,List.getElem?_eq_getElem hlt]at this
    exact Option.some.inj this
   obtain⟨p,h1,h2⟩:=ev_rPlaceL l x hl l 0 (-1) rfl
   have hP:Evt (fun q=>e139 q l x) p:=by simp only[e139];exact h1
   obtain⟨i,hp,-,hi,hix,hlast⟩:∃i:Nat,p=(i:Int)∧0≤i∧∃h:i<l.length,l[i]=x∧∀j,i<j->(hj:j<l.length)->l[j]≠x:=by
    rcases h2 with⟨-,h4⟩|h
    ·exact absurd (by rw[←hx];exact List.getElem_mem hlt) h4
    ·exact h
   by_cases e:i=v
   ·obtain⟨d,g1,g2⟩:=ih (v+1) (drop_next hd)
    refine⟨d,Evt.succ ?_,g2.trans ⟨fun hf j hj hjl k hk hkl=>?_,fun hf j hj hjl=>hf j (by omega) hjl⟩⟩
    ·simp only[e73Lcl]
     refine Evt.ifT (drop_dec hd) (Evt.pure (drop_idx hd) (hP.bind (Evt.ifF (by rw[hp,e];simp) ?_)))
     rw[w64_nat v (by omega)];exact g1
    ·by_cases ej:j=v
     ·subst ej;rw[hx];exact hlast k (by omega) hkl
     ·exact hf j (by omega) hjl k hk hkl
   ·refine⟨false,Evt.succ ?_,⟨fun h=>(by cases h),fun hf=>?_⟩⟩
    ·simp only[e73Lcl]
     exact Evt.ifT (drop_dec hd) (Evt.pure (drop_idx hd) (hP.bind (Evt.ifT (by rw[hp];simp;omega) Evt.ret)))
    ·exfalso
     rcases Nat.lt_or_gt_of_ne e with h|h
     ·exact hlast v h hlt hx
     ·exact hf v (Nat.le_refl _) hlt i h hi (by rw[hix,hx])
 obtain⟨d,h1,h2⟩:=key l 0 rfl
 refine⟨d,h1,h2.trans ⟨fun h i hi hm=>?_,fun h i _ hi j hij hj e=>?_⟩⟩
 ·obtain⟨j,hj,hje⟩:=List.mem_take_iff_getElem.1 hm
  exact h j (Nat.zero_le _) (by omega) i (by omega) hi hje.symm
 ·exact h j hj (by rw[e];exact List.mem_take_iff_getElem.2 ⟨i,by omega,rfl⟩)
theorem ev_refDist{l:List ByteArray}(hl:l.length≤65535){d:Bool}(h:Evt (fun q=>e222 q l) d):Evt (fun q=>e73 q l) d:=by
 obtain⟨a,h1,h2⟩:=ev_uDist l hl
 obtain⟨b,h3,h4⟩:=ev_rDist l hl
 have:=h1.det h
 subst this
 refine h3.eq ?_
 rw[Bool.eq_iff_iff];exact h4.trans h2.symm
mutual
def e70:Nat->Tm->Option (Bool)
 |0,_=>none
 |qq+1,p0=>
 if p0.k==1 then
 if (List.length p0.sub:Int) != 0 then
 some false
 else
 if decide (p0.n<0)then
 some false
 else
 if decide (p0.n>1048576)then
 some false
 else
 if p0.k==7 then
 gidx p0.sub 0>>=fun x6=>
 if x6.k != 2 then
 some false
 else
 e70Lcm qq p0 0 0
 else
 e70Lcm qq p0 0 0
 else
 if p0.k==6 then
 if (List.length p0.sub:Int) != 0 then
 some false
 else
 if decide (p0.n<0)then
 some false
 else
 if decide (p0.n>1048576)then
 some false
 else
 if p0.k==7 then
 gidx p0.sub 0>>=fun x14=>
 if x14.k != 2 then
 some false
 else
 e70Lcm qq p0 0 0
 else
 e70Lcm qq p0 0 0
 else
 if p0.k==8 then
 if (List.length p0.sub:Int) != 0 then
 some false
 else
 if decide (p0.n<0)then
 some false
 else
 if decide (p0.n>1048576)then
 some false
 else
 if p0.k==7 then
 gidx p0.sub 0>>=fun x22=>
 if x22.k != 2 then
 some false
 else
 e70Lcm qq p0 0 0
 else
 e70Lcm qq p0 0 0
 else
 if p0.k==2 then
 if (List.length p0.sub:Int) != 0 then
 some false
 else
 if decide (p0.n<0)then
 some false
 else
 if decide (p0.n>7)then
 some false
 else
 if p0.k==7 then
 gidx p0.sub 0>>=fun x30=>
 if x30.k != 2 then
 some false
 else
 e70Lcm qq p0 0 0
 else
 e70Lcm qq p0 0 0
 else
 if p0.k==3 then
 if (List.length p0.sub:Int) != 2 then
 some false
 else
 if decide (p0.n<0)then
 some false
 else
 if decide (p0.n>0)then
 some false
 else
 if p0.k==7 then
 gidx p0.sub 0>>=fun x38=>
 if x38.k != 2 then
 some false
 else
 e70Lcm qq p0 2 0
 else
 e70Lcm qq p0 2 0
 else
 if p0.k==4 then
 if (List.length p0.sub:Int) != 2 then
 some false
 else
 if decide (p0.n<0)then
 some false
 else
 if decide (p0.n>0)then
 some false
 else
 if p0.k==7 then
 gidx p0.sub 0>>=fun x46=>
 if x46.k != 2 then
 some false
 else
 e70Lcm qq p0 2 0
 else
 e70Lcm qq p0 2 0
 else
 if p0.k==5 then
 if (List.length p0.sub:Int) != 2 then
 some false
 else
 if decide (p0.n<0)then
 some false
 else
 if decide (p0.n>0)then
 some false
 else
 if p0.k==7 then
 gidx p0.sub 0>>=fun x54=>
 if x54.k != 2 then
 some false
 else
 e70Lcm qq p0 2 0
 else
 e70Lcm qq p0 2 0
 else
 if p0.k==7 then
 if (List.length p0.sub:Int) != 1 then
 some false
 else
 if decide (p0.n<0)then
 some false
 else
 if decide (p0.n>1048576)then
 some false
 else
 gidx p0.sub 0>>=fun x61=>
 if x61.k != 2 then
 some false
 else
 e70Lcm qq p0 1 0
 else
 some false
def e70Lcm:Nat->Tm->Int->Int->Option (Bool)
 |0,_,_,_=>none
 |qq+1,p0,v3,v5=>
 if decide (v5<v3)then
 gidx p0.sub v5>>=fun x10=>
 e70 qq x10>>=fun r12=>
 if r12 then
 e70Lcm qq p0 v3 (w64 (v5+1))
 else
 some false
 else
 some true
end
def g70LcmE0(j:Nat->Value)(p0:Tm)(v3 v5:Int):=sp j 61 0 [(1,.mp 0 0),(3,ai v3),(5,ai v5)]
def g70LcmS0(p0:Tm)(v3 v5:Int):LSt:=⟨[(0,.cells [ai p0.k,ai p0.n,slv tmCells p0.sub .no])],1,[],0,[]⟩
abbrev K70 (p0:Tm) (r:Bool) (C:Cf):Prop:=C 70 [] [tmA p0] (ab r) [] 0
theorem q70:Qf 70 Tryz.f70:=⟨Tryz.func70,by kernel_rfl⟩
theorem k70{p0 r}(h:K70 p0 r Ci):K70 p0 r Ct:=⟨h,⟨⟨tv,tv,⟨tv,dT _⟩,tv⟩,tv⟩,forall_nil,tv,forall_nil⟩
theorem a70_70Lcm:∀qq:Nat,(∀p0 r,e70 qq p0=some r->K70 p0 r Ct)∧(∀p0 v3 v5 r,e70Lcm qq p0 v3 v5=some r->(∀j,Dl Tryz.prog 0 (inn (inn (rgt (lft (rgt (rgt (rgt (rgt (rgt (bod Tryz.f70)))))))))) (g70LcmE0 j p0 v3 v5) (g70LcmS0 p0 v3 v5) (frameQ Tryz.prog 0 (FinQ Tryz.prog 0 Tryz.f70 (ab r) [] 0) [.blk 1,.seq (rgt (rgt (rgt (rgt (rgt (rgt (bod Tryz.f70)))))))]))):=by
 intro qq
 induction qq with
 |zero=>
  exact⟨fun _ _ h=>nn h,fun _ _ _ _ h=>nn h⟩
 |succ qq ih=>
  obtain⟨ih70,ih70Lcm⟩:=ih
  refine⟨?_,?_⟩
  intro p0 r h
  rw[e70]at h
  rcases spl h with⟨h1,h⟩|⟨h1,h⟩
  have k:=oB 1 h1 o0
  rcases spl h with⟨h2,h⟩|⟨h2,h⟩
  obtain rfl:=sj h
  exact k70 (tF q70 0 [] (oB 2 h2 k))
  have k:=oB 2 h2 k
  rcases spl h with⟨h3,h⟩|⟨h3,h⟩
  obtain rfl:=sj h
  exact k70 (tF q70 0 [] (oB 1 h3 k))
  have k:=oB 1 h3 k
  rcases spl h with⟨h4,h⟩|⟨h4,h⟩
  obtain rfl:=sj h
  exact k70 (tF q70 0 [] (oB 1 h4 k))
  have k:=oB 1 h4 k
  rcases spl h with⟨h5,h⟩|⟨h5,h⟩
  obtain⟨x6,h7,h⟩:=obind h
  have k:=oA 1 (ix23 (o:=.no) h7)<|oB 1 h5 k
  rcases spl h with⟨h8,h⟩|⟨h8,h⟩
  obtain rfl:=sj h
  exact k70 (tF q70 0 [] (oB 1 h8 k))
  exact k70 (tH q70 0 [] [0] [] [1,3,5] (oD (dT p0.sub)<|oB 1 h8 k) (ih70Lcm _ _ _ _ h))
  exact k70 (tH q70 0 [] [0] [] [1,3,5] (oD (dT p0.sub)<|oB 1 h5 k) (ih70Lcm _ _ _ _ h))
  have k:=oB 1 h1 o0
  rcases spl h with⟨h9,h⟩|⟨h9,h⟩
  have k:=oB 0 h9 k
  rcases spl h with⟨h10,h⟩|⟨h10,h⟩
  obtain rfl:=sj h
  exact k70 (tF q70 0 [] (oB 2 h10 k))
  have k:=oB 2 h10 k
  rcases spl h with⟨h11,h⟩|⟨h11,h⟩
  obtain rfl:=sj h
  exact k70 (tF q70 0 [] (oB 1 h11 k))
  have k:=oB 1 h11 k
  rcases spl h with⟨h12,h⟩|⟨h12,h⟩
  obtain rfl:=sj h
  exact k70 (tF q70 0 [] (oB 1 h12 k))
  have k:=oB 1 h12 k
  rcases spl h with⟨h13,h⟩|⟨h13,h⟩
  obtain⟨x14,h15,h⟩:=obind h
  have k:=oA 1 (ix23 (o:=.no) h15)<|oB 1 h13 k
  rcases spl h with⟨h16,h⟩|⟨h16,h⟩
  obtain rfl:=sj h
  exact k70 (tF q70 0 [] (oB 1 h16 k))
  exact k70 (tH q70 0 [] [0] [] [1,3,5] (oD (dT p0.sub)<|oB 1 h16 k) (ih70Lcm _ _ _ _ h))
  exact k70 (tH q70 0 [] [0] [] [1,3,5] (oD (dT p0.sub)<|oB 1 h13 k) (ih70Lcm _ _ _ _ h))
  have k:=oB 0 h9 k
  rcases spl h with⟨h17,h⟩|⟨h17,h⟩
  have k:=oB 0 h17 k
  rcases spl h with⟨h18,h⟩|⟨h18,h⟩
  obtain rfl:=sj h
  exact k70 (tF q70 0 [] (oB 2 h18 k))
  have k:=oB 2 h18 k
  rcases spl h with⟨h19,h⟩|⟨h19,h⟩
  obtain rfl:=sj h
  exact k70 (tF q70 0 [] (oB 1 h19 k))
  have k:=oB 1 h19 k
  rcases spl h with⟨h20,h⟩|⟨h20,h⟩
  obtain rfl:=sj h
  exact k70 (tF q70 0 [] (oB 1 h20 k))
  have k:=oB 1 h20 k
  rcases spl h with⟨h21,h⟩|⟨h21,h⟩
  obtain⟨x22,h23,h⟩:=obind h
  have k:=oA 1 (ix23 (o:=.no) h23)<|oB 1 h21 k
  rcases spl h with⟨h24,h⟩|⟨h24,h⟩
  obtain rfl:=sj h
  exact k70 (tF q70 0 [] (oB 1 h24 k))
  exact k70 (tH q70 0 [] [0] [] [1,3,5] (oD (dT p0.sub)<|oB 1 h24 k) (ih70Lcm _ _ _ _ h))
  exact k70 (tH q70 0 [] [0] [] [1,3,5] (oD (dT p0.sub)<|oB 1 h21 k) (ih70Lcm _ _ _ _ h))
  have k:=oB 0 h17 k
  rcases spl h with⟨h25,h⟩|⟨h25,h⟩
  have k:=oB 0 h25 k
  rcases spl h with⟨h26,h⟩|⟨h26,h⟩
  obtain rfl:=sj h
  exact k70 (tF q70 0 [] (oB 2 h26 k))
  have k:=oB 2 h26 k
  rcases spl h with⟨h27,h⟩|⟨h27,h⟩
  obtain rfl:=sj h
  exact k70 (tF q70 0 [] (oB 1 h27 k))
  have k:=oB 1 h27 k
  rcases spl h with⟨h28,h⟩|⟨h28,h⟩
  obtain rfl:=sj h
  exact k70 (tF q70 0 [] (oB 1 h28 k))
  have k:=oB 1 h28 k
  rcases spl h with⟨h29,h⟩|⟨h29,h⟩
  obtain⟨x30,h31,h⟩:=obind h
  have k:=oA 1 (ix23 (o:=.no) h31)<|oB 1 h29 k
  rcases spl h with⟨h32,h⟩|⟨h32,h⟩
  obtain rfl:=sj h
  exact k70 (tF q70 0 [] (oB 1 h32 k))
  exact k70 (tH q70 0 [] [0] [] [1,3,5] (oD (dT p0.sub)<|oB 1 h32 k) (ih70Lcm _ _ _ _ h))
  exact k70 (tH q70 0 [] [0] [] [1,3,5] (oD (dT p0.sub)<|oB 1 h29 k) (ih70Lcm _ _ _ _ h))
  have k:=oB 0 h25 k
  rcases spl h with⟨h33,h⟩|⟨h33,h⟩
  have k:=oB 0 h33 k
  rcases spl h with⟨h34,h⟩|⟨h34,h⟩
  obtain rfl:=sj h
  exact k70 (tF q70 0 [] (oB 2 h34 k))
  have k:=oB 2 h34 k
  rcases spl h with⟨h35,h⟩|⟨h35,h⟩
  obtain rfl:=sj h
  exact k70 (tF q70 0 [] (oB 1 h35 k))
  have k:=oB 1 h35 k
  rcases spl h with⟨h36,h⟩|⟨h36,h⟩
  obtain rfl:=sj h
  exact k70 (tF q70 0 [] (oB 1 h36 k))
  have k:=oB 1 h36 k
  rcases spl h with⟨h37,h⟩|⟨h37,h⟩
  obtain⟨x38,h39,h⟩:=obind h
  have k:=oA 1 (ix23 (o:=.no) h39)<|oB 1 h37 k
  rcases spl h with⟨h40,h⟩|⟨h40,h⟩
  obtain rfl:=sj h
  exact k70 (tF q70 0 [] (oB 1 h40 k))
  exact k70 (tH q70 0 [] [0] [] [1,3,5] (oD (dT p0.sub)<|oB 1 h40 k) (ih70Lcm _ _ _ _ h))
  exact k70 (tH q70 0 [] [0] [] [1,3,5] (oD (dT p0.sub)<|oB 1 h37 k) (ih70Lcm _ _ _ _ h))
  have k:=oB 0 h33 k
  rcases spl h with⟨h41,h⟩|⟨h41,h⟩
  have k:=oB 0 h41 k
  rcases spl h with⟨h42,h⟩|⟨h42,h⟩
  obtain rfl:=sj h
  exact k70 (tF q70 0 [] (oB 2 h42 k))
  have k:=oB 2 h42 k
  rcases spl h with⟨h43,h⟩|⟨h43,h⟩
  obtain rfl:=sj h
  exact k70 (tF q70 0 [] (oB 1 h43 k))
  have k:=oB 1 h43 k
  rcases spl h with⟨h44,h⟩|⟨h44,h⟩
  obtain rfl:=sj h
  exact k70 (tF q70 0 [] (oB 1 h44 k))
  have k:=oB 1 h44 k
  rcases spl h with⟨h45,h⟩|⟨h45,h⟩
  obtain⟨x46,h47,h⟩:=obind h
  have k:=oA 1 (ix23 (o:=.no) h47)<|oB 1 h45 k
  rcases spl h with⟨h48,h⟩|⟨h48,h⟩
  obtain rfl:=sj h
  exact k70 (tF q70 0 [] (oB 1 h48 k))
  exact k70 (tH q70 0 [] [0] [] [1,3,5] (oD (dT p0.sub)<|oB 1 h48 k) (ih70Lcm _ _ _ _ h))
  exact k70 (tH q70 0 [] [0] [] [1,3,5] (oD (dT p0.sub)<|oB 1 h45 k) (ih70Lcm _ _ _ _ h))
  have k:=oB 0 h41 k
  rcases spl h with⟨h49,h⟩|⟨h49,h⟩
  have k:=oB 0 h49 k
  rcases spl h with⟨h50,h⟩|⟨h50,h⟩
  obtain rfl:=sj h
  exact k70 (tF q70 0 [] (oB 2 h50 k))
  have k:=oB 2 h50 k
  rcases spl h with⟨h51,h⟩|⟨h51,h⟩
  obtain rfl:=sj h
  exact k70 (tF q70 0 [] (oB 1 h51 k))
  have k:=oB 1 h51 k
  rcases spl h with⟨h52,h⟩|⟨h52,h⟩
  obtain rfl:=sj h
  exact k70 (tF q70 0 [] (oB 1 h52 k))
  have k:=oB 1 h52 k
  rcases spl h with⟨h53,h⟩|⟨h53,h⟩
  obtain⟨x54,h55,h⟩:=obind h
  have k:=oA 1 (ix23 (o:=.no) h55)<|oB 1 h53 k
  rcases spl h with⟨h56,h⟩|⟨h56,h⟩
  obtain rfl:=sj h
  exact k70 (tF q70 0 [] (oB 1 h56 k))
  exact k70 (tH q70 0 [] [0] [] [1,3,5] (oD (dT p0.sub)<|oB 1 h56 k) (ih70Lcm _ _ _ _ h))
  exact k70 (tH q70 0 [] [0] [] [1,3,5] (oD (dT p0.sub)<|oB 1 h53 k) (ih70Lcm _ _ _ _ h))
  have k:=oB 0 h49 k
  rcases spl h with⟨h57,h⟩|⟨h57,h⟩
  have k:=oB 0 h57 k
  rcases spl h with⟨h58,h⟩|⟨h58,h⟩
  obtain rfl:=sj h
  exact k70 (tF q70 0 [] (oB 2 h58 k))
  have k:=oB 2 h58 k
  rcases spl h with⟨h59,h⟩|⟨h59,h⟩
  obtain rfl:=sj h
  exact k70 (tF q70 0 [] (oB 1 h59 k))
  have k:=oB 1 h59 k
  rcases spl h with⟨h60,h⟩|⟨h60,h⟩
  obtain rfl:=sj h
  exact k70 (tF q70 0 [] (oB 1 h60 k))
  obtain⟨x61,h62,h⟩:=obind h
  have k:=oA 1 (ix23 (o:=.no) h62)<|oB 1 h57<|oB 1 h60 k
  rcases spl h with⟨h63,h⟩|⟨h63,h⟩
  obtain rfl:=sj h
  exact k70 (tF q70 0 [] (oB 1 h63 k))
  exact k70 (tH q70 0 [] [0] [] [1,3,5] (oD (dT p0.sub)<|oB 1 h63 k) (ih70Lcm _ _ _ _ h))
  obtain rfl:=sj h
  exact k70 (tF q70 0 [] (oB 0 h57 k))
  intro p0 v3 v5 r h
  rw[e70Lcm]at h
  rcases spl h with⟨h9,h⟩|⟨h9,h⟩
  obtain⟨x10,h11,h⟩:=obind h
  obtain⟨r12,h13,h⟩:=obind h
  have k:=oA 1 (ix23 (o:=.no) h11)<|oB 0 h9 o0
  rcases spl h with⟨h14,h⟩|⟨h14,h⟩
  exact fun j=>lH 2 [] [0] [] [1,3,5] (oD (dT p0.sub)<|oK 1 [] h14 (ih70 _ _ h13) k) (ih70Lcm _ _ _ _ h)
  obtain rfl:=sj h
  exact fun j=>lF 1 [] (oK 1 [] h14 (ih70 _ _ h13) k)
  obtain rfl:=sj h
  exact fun j=>lF 0 [] (oB 0 h9 o0)
theorem c70{qq p0 r}(h:e70 qq p0=some r):K70 p0 r Ct:=(a70_70Lcm _).1 _ _ h
def e18(qq:Nat)(p0:Tm):Option (Bool):=
 e19 qq p0>>=fun r1=>
 if decide (r1≤128)then
 e70 qq p0>>=fun r4=>
 some r4
 else
 some false
abbrev K18 (p0:Tm) (r:Bool) (C:Cf):Prop:=C 18 [] [tmA p0] (ab r) [] 0
theorem q18:Qf 18 Tryz.f18:=⟨Tryz.func18,by kernel_rfl⟩
theorem k18{p0 r}(h:K18 p0 r Ci):K18 p0 r Ct:=⟨h,⟨⟨tv,tv,⟨tv,dT _⟩,tv⟩,tv⟩,forall_nil,tv,forall_nil⟩
theorem c18{qq p0 r}(h:e18 qq p0=some r):K18 p0 r Ct:=by
 unfold e18 at h
 obtain⟨r1,h2,h⟩:=obind h
 have k:=oC 1 [] (c19 h2) o0
 rcases spl h with⟨h3,h⟩|⟨h3,h⟩
 obtain⟨r4,h5,h⟩:=obind h
 obtain rfl:=sj h
 exact k18 (tF q18 0 [] (oC 1 [] (c70 h5)<|oB 0 h3 k))
 obtain rfl:=sj h
 exact k18 (tF q18 0 [] (oB 0 h3 k))
def e71(qq:Nat)(p0:Tm)(p1:Int):Option (Int):=
 if p1==1 then
 if p0.k != 5 then
 some 1
 else
 some 0
 else
 some 0
abbrev K71 (p0:Tm) (p1 r:Int) (C:Cf):Prop:=C 71 [] [tmA p0,ai p1] (ai r) [] 0
theorem q71:Qf 71 Tryz.f71:=⟨Tryz.func71,by kernel_rfl⟩
theorem k71{p0 p1 r}(h:K71 p0 p1 r Ci):K71 p0 p1 r Ct:=⟨h,⟨⟨tv,tv,⟨tv,dT _⟩,tv⟩,tv,tv⟩,forall_nil,tv,forall_nil⟩
theorem c71{qq p0 p1 r}(h:e71 qq p0 p1=some r):K71 p0 p1 r Ct:=by
 unfold e71 at h
 rcases spl h with⟨h1,h⟩|⟨h1,h⟩
 have k:=oB 0 h1 o0
 rcases spl h with⟨h2,h⟩|⟨h2,h⟩
 obtain rfl:=sj h
 exact k71 (tF q71 0 [] (oB 1 h2 k))
 obtain rfl:=sj h
 exact k71 (tF q71 0 [] (oB 1 h2 k))
 obtain rfl:=sj h
 exact k71 (tF q71 0 [] (oB 0 h1 o0))
mutual
def e20:Nat->Tm->Int->Option (Int)
 |0,_,_=>none
 |qq+1,p0,p1=>
 if p0.k==1 then
 if decide (p0.n≥p1)then
 some (w64 ((w64 (p0.n-p1))+1))
 else
 e20Lcn qq p0 p1 0 0
 else
 e20Lcn qq p0 p1 0 0
def e20Lcn:Nat->Tm->Int->Int->Int->Option (Int)
 |0,_,_,_,_=>none
 |qq+1,p0,p1,v5,v6=>
 if decide (v6<(List.length p0.sub:Int))then
 gidx p0.sub v6>>=fun x4=>
 e71 qq p0 v6>>=fun r6=>
 e20 qq x4 (w64 (p1+r6))>>=fun r8=>
 e20Lcn qq p0 p1 (imax v5 r8) (w64 (v6+1))
 else
 some v5
end
def g20LcnE0(j:Nat->Value)(p0:Tm)(p1 v5 v6:Int):=sp j 42 0 [(1,ai p1),(2,.mp 0 0),(5,ai v5),(6,ai v6)]
def g20LcnS0(p0:Tm)(p1 v5 v6:Int):LSt:=⟨[(0,.cells [ai p0.k,ai p0.n,slv tmCells p0.sub .no])],1,[],0,[]⟩
abbrev K20 (p0:Tm) (p1 r:Int) (C:Cf):Prop:=C 20 [] [tmA p0,ai p1] (ai r) [] 0
theorem q20:Qf 20 Tryz.f20:=⟨Tryz.func20,by kernel_rfl⟩
theorem k20{p0 p1 r}(h:K20 p0 p1 r Ci):K20 p0 p1 r Ct:=⟨h,⟨⟨tv,tv,⟨tv,dT _⟩,tv⟩,tv,tv⟩,forall_nil,tv,forall_nil⟩
theorem a20_20Lcn:∀qq:Nat,(∀p0 p1 r,e20 qq p0 p1=some r->K20 p0 p1 r Ct)∧(∀p0 p1 v5 v6 r,e20Lcn qq p0 p1 v5 v6=some r->(∀j,Dl Tryz.prog 0 (inn (inn (rgt (lft (rgt (rgt (rgt (bod Tryz.f20)))))))) (g20LcnE0 j p0 p1 v5 v6) (g20LcnS0 p0 p1 v5 v6) (frameQ Tryz.prog 0 (FinQ Tryz.prog 0 Tryz.f20 (ai r) [] 0) [.blk 0,.seq (rgt (rgt (rgt (rgt (bod Tryz.f20)))))]))):=by
 intro qq
 induction qq with
 |zero=>
  exact⟨fun _ _ _ h=>nn h,fun _ _ _ _ _ h=>nn h⟩
 |succ qq ih=>
  obtain⟨ih20,ih20Lcn⟩:=ih
  refine⟨?_,?_⟩
  intro p0 p1 r h
  rw[e20]at h
  rcases spl h with⟨h1,h⟩|⟨h1,h⟩
  have k:=oB 1 h1 o0
  rcases spl h with⟨h2,h⟩|⟨h2,h⟩
  obtain rfl:=sj h
  exact k20 (tF q20 3 [] (oB 1 h2 k))
  exact k20 (tH q20 0 [] [0] [] [1,2,5,6] (oD (dT p0.sub)<|oB 1 h2 k) (ih20Lcn _ _ _ _ _ h))
  exact k20 (tH q20 0 [] [0] [] [1,2,5,6] (oD (dT p0.sub)<|oB 1 h1 o0) (ih20Lcn _ _ _ _ _ h))
  intro p0 p1 v5 v6 r h
  rw[e20Lcn]at h
  rcases spl h with⟨h3,h⟩|⟨h3,h⟩
  obtain⟨x4,h5,h⟩:=obind h
  obtain⟨r6,h7,h⟩:=obind h
  obtain⟨r8,h9,h⟩:=obind h
  exact fun j=>lH 2 [] [0] [] [1,2,5,6] (oD (dT p0.sub)<|oC 1 [] (ih20 _ _ _ h9)<|oC 2 [] (c71 h7)<|oA 1 (ix23 (o:=.no) h5)<|oB 2 h3 o0) (ih20Lcn _ _ _ _ _ h)
  obtain rfl:=sj h
  exact fun j=>lF 0 [] (oB 2 h3 o0)
theorem c20{qq p0 p1 r}(h:e20 qq p0 p1=some r):K20 p0 p1 r Ct:=(a20_20Lcn _).1 _ _ _ h
theorem goodT_iff(k n:Int)(l:List Tm):goodT (.mk k n l)=(headT (.mk k n l)&&goodL l):=by rw[goodT]
mutual
theorem ev_rgood:∀(t:Tm),t.Ok->Evt (fun q=>e70 q t) (goodT t)
 | .mk k n l,ho=>by
  refine Evt.succ ?_
  simp only[e70]
  have hL:∀c:Nat,l.length=c->Evt (fun q=>e70Lcm q (.mk k n l) (c:Int) 0) (goodL l):=fun c hc=>
   ev_rgoodL l (.mk k n l) 0 c rfl (by simpa[Tm.sub]using hc) ho.1 ho.2
  by_cases h1:k=1
  ·subst h1
   refine Evt.ifT rfl ((tailG (p:=.mk 1 n l) (c:=0) (m:=1048576) (r:=goodL l) fun hc _ _=>Evt.ifF rfl (hL 0 hc)).eq ?_)
   rw[goodT_iff];simp[headT,Tm.k,Tm.n,Tm.sub]
   cases goodL l<;>simp[Bool.and_comm,Bool.and_left_comm,Bool.and_assoc]
  refine Evt.ifF (by simpa[Tm.k]using h1) ?_
  by_cases h6:k=6
  ·subst h6
   refine Evt.ifT rfl ((tailG (p:=.mk 6 n l) (c:=0) (m:=1048576) (r:=goodL l) fun hc _ _=>Evt.ifF rfl (hL 0 hc)).eq ?_)
   rw[goodT_iff];simp[headT,Tm.k,Tm.n,Tm.sub]
   cases goodL l<;>simp[Bool.and_comm,Bool.and_left_comm,Bool.and_assoc]
  refine Evt.ifF (by simpa[Tm.k]using h6) ?_
  by_cases h8:k=8
  ·subst h8
   refine Evt.ifT rfl ((tailG (p:=.mk 8 n l) (c:=0) (m:=1048576) (r:=goodL l) fun hc _ _=>Evt.ifF rfl (hL 0 hc)).eq ?_)
   rw[goodT_iff];simp[headT,Tm.k,Tm.n,Tm.sub]
   cases goodL l<;>simp[Bool.and_comm,Bool.and_left_comm,Bool.and_assoc]
  refine Evt.ifF (by simpa[Tm.k]using h8) ?_
  by_cases h2:k=2
  ·subst h2
   refine Evt.ifT rfl ((tailG (p:=.mk 2 n l) (c:=0) (m:=7) (r:=goodL l) fun hc _ _=>Evt.ifF rfl (hL 0 hc)).eq ?_)
   rw[goodT_iff];simp[headT,Tm.k,Tm.n,Tm.sub]
   cases goodL l<;>simp[Bool.and_comm,Bool.and_left_comm,Bool.and_assoc]
  refine Evt.ifF (by simpa[Tm.k]using h2) ?_
  by_cases h3:k=3
  ·subst h3
   refine Evt.ifT rfl ((tailG (p:=.mk 3 n l) (c:=2) (m:=0) (r:=goodL l) fun hc _ _=>Evt.ifF rfl (hL 2 hc)).eq ?_)
   rw[goodT_iff];simp[headT,Tm.k,Tm.n,Tm.sub]
   cases goodL l<;>simp[Bool.and_comm,Bool.and_left_comm,Bool.and_assoc]
  refine Evt.ifF (by simpa[Tm.k]using h3) ?_
  by_cases h4:k=4
  ·subst h4
   refine Evt.ifT rfl ((tailG (p:=.mk 4 n l) (c:=2) (m:=0) (r:=goodL l) fun hc _ _=>Evt.ifF rfl (hL 2 hc)).eq ?_)
   rw[goodT_iff];simp[headT,Tm.k,Tm.n,Tm.sub]
   cases goodL l<;>simp[Bool.and_comm,Bool.and_left_comm,Bool.and_assoc]
  refine Evt.ifF (by simpa[Tm.k]using h4) ?_
  by_cases h5:k=5
  ·subst h5
   refine Evt.ifT rfl ((tailG (p:=.mk 5 n l) (c:=2) (m:=0) (r:=goodL l) fun hc _ _=>Evt.ifF rfl (hL 2 hc)).eq ?_)
   rw[goodT_iff];simp[headT,Tm.k,Tm.n,Tm.sub]
   cases goodL l<;>simp[Bool.and_comm,Bool.and_left_comm,Bool.and_assoc]
  refine Evt.ifF (by simpa[Tm.k]using h5) ?_
  by_cases h7:k=7
  ·subst h7
   refine Evt.ifT rfl ?_
   rcases l with _|⟨x,l⟩
   ·refine(tailG (p:=.mk 7 n []) (c:=1) (m:=1048576) (r:=false) fun hc _ _=>by simp[Tm.sub]at hc).eq ?_
    rw[goodT_iff];simp[headT,Tm.k,Tm.n,Tm.sub]
   ·refine(tailG (p:=.mk 7 n (x::l)) (c:=1) (m:=1048576) (r:=(x.k==2)&&goodL (x::l)) fun hc _ _=>Evt.pure (a:=x) rfl ?_).eq ?_
    ·by_cases hx:x.k=2
     ·refine Evt.ifF (by simp[hx]) ((hL 1 (by simpa[Tm.sub]using hc)).eq (by simp[hx]))
     ·exact Evt.ifT (by simp[hx]) (Evt.ret.eq (by simp[hx]))
    ·rw[goodT_iff];simp[headT,Tm.k,Tm.n,Tm.sub]
     cases goodL (x::l)<;>cases (x.k==2)<;>simp[Bool.and_comm,Bool.and_left_comm,Bool.and_assoc]
  refine Evt.ifF (by simpa[Tm.k]using h7) (Evt.ret.eq ?_)
  rw[goodT_iff]
  have:headT (.mk k n l)=false:=by
   simp only[headT,Tm.k]
   by_cases h9:1≤k∧k≤8
   ·omega
   ·by_cases h10:1≤k
    ·simp[show ¬k≤8 by omega]
    ·simp[h10]
  simp[this]
theorem ev_rgoodL:∀(l:List Tm) (p:Tm) (v c:Nat),p.sub.drop v=l->p.sub.length=c->p.sub.length<9223372036854775808->OkL l->Evt (fun q=>e70Lcm q p (c:Int) (v:Int)) (goodL l)
 | [],p,v,c,hd,hc,hl,ho=>by
  refine Evt.succ ?_
  simp only[e70Lcm]
  rw[goodL,←hc]
  exact Evt.ifF (drop_nil hd) Evt.ret
 |t::l,p,v,c,hd,hc,hl,ho=>by
  refine Evt.succ ?_
  simp only[e70Lcm]
  refine Evt.ifT (by rw[←hc];exact drop_dec hd) (Evt.pure (drop_idx hd) ((ev_rgood t ho.1).bind ?_))
  rw[goodL]
  cases goodT t with
  |false=>exact Evt.ifF rfl Evt.ret
  |true=>
   refine Evt.ifT rfl ?_
   rw[w64_nat v (by have:=drop_lt hd;omega)]
   exact ev_rgoodL l p (v+1) c (drop_next hd) hc hl ho.2
end
theorem ev_rShaped(t:Tm)(ho:t.Ok):Evt (fun q=>e18 q t) (shapedT t):=by
 simp only[e18]
 refine(ev_rDepth t).bind ?_
 unfold shapedT rdepT
 by_cases h1:t.nodes≤8192
 ·rw[if_pos h1]
  by_cases h2:t.high≤128
  ·exact Evt.ifT (by simp<;>omega) (((ev_rgood t ho).bind Evt.ret).eq (by simp[h1,h2]))
  ·exact Evt.ifF (by simp<;>omega) (Evt.ret.eq (by simp[h2]))
 ·rw[if_neg h1]
  exact Evt.ifF (by simp) (Evt.ret.eq (by simp[h1]))
def undR(k:Int)(i:Nat):Int:=if i=1∧k≠5 then 1 else 0
theorem ev_rBeneath(t:Tm)(i:Nat):Evt (fun q=>e71 q t (i:Int)) (undR t.k i):=by
 refine Evt.mk fun q=>?_
 simp only[e71,undR]
 by_cases h1:i=1
 ·subst h1;by_cases h5:t.k=5<;>simp[h5]
 ·have:¬((i:Int)=1):=by omega
  simp[h1,this]
theorem und_ref{k n:Int}{l:List Tm}(h:headT (.mk k n l)=true){i:Nat}(hi:i<l.length):undR k i=undT k i:=by
 unfold undT undR
 by_cases h1:i=1
 ·subst h1
  have hs:=head_spec h
  simp only[Tm.k,Tm.n,Tm.sub]at hs
  have:k=3∨k=4∨k=5:=by
   by_cases h7:k=7
   ·obtain⟨x,hx,_⟩:=hs.2.2.2.2.2.2.1 h7
    rw[hx]at hi;simp at hi
   ·by_cases h3:k=1∨k=2∨k=6∨k=8
    ·rw[hs.2.2.2.2.2.2.2.1 h3]at hi;simp at hi
    ·omega
  rcases this with rfl|rfl|rfl<;>simp
 ·simp[h1]
mutual
theorem ev_rLoose:∀(t:Tm) (b:Int),goodT t=true->0≤b->b+t.high≤4611686018427387904->Evt (fun q=>e20 q t b) (looT t b)
 | .mk k n l,b,hg,h0,h1=>by
  refine Evt.succ ?_
  simp only[e20,Tm.k,Tm.n]
  have hh:=goodT_mk hg
  have hn:=head_n hh.1
  have hl:Evt (fun q=>e20Lcn q (.mk k n l) b 0 0) (looL l k 0 b):=
   (ev_rLooseL l (.mk k n l) 0 b 0 rfl hh.1 hh.2 h0 (by omega) (by rw[Tm.high]at h1;omega)).eq (by have:=looL_nn l k 0 b;simp only[Tm.k];omega)
  rw[Tm.high]at h1
  rw[looT]
  by_cases hk:k=1
  ·rw[if_pos hk]
   refine Evt.ifT (by simpa using hk) ?_
   by_cases hb:n≥b
   ·refine Evt.ifT (by simpa using hb) (Evt.ret.eq ?_)
    rw[w64_id (x:=n-b) (by omega) (by omega),w64_id (by omega) (by omega)];omega
   ·refine Evt.ifF (by simpa using hb) (hl.eq ?_)
    have:l=[]:=by
     have:=hh.1
     subst hk
     simp[headT,Tm.k,Tm.n,Tm.sub]at this
     exact this.2.1
    subst this
    rw[looL];omega
  ·rw[if_neg hk]
   exact Evt.ifF (by simpa using hk) hl
theorem ev_rLooseL:∀(l:List Tm) (p:Tm) (v:Nat) (b m:Int),p.sub.drop v=l->headT p=true->goodL l=true->0≤b->0≤m->b+1+highL l≤4611686018427387904->Evt (fun q=>e20Lcn q p b m (v:Int)) (max m (looL l p.k v b))
 | [],p,v,b,m,hd,hp,ho,h0,hm,h1=>by
  refine Evt.succ ?_
  simp only[e20Lcn]
  rw[looL]
  exact Evt.ifF (drop_nil hd) (Evt.ret.eq (by omega))
 |t::l,p,v,b,m,hd,hp,ho,h0,hm,h1=>by
  refine Evt.succ ?_
  simp only[e20Lcn]
  have hg:=goodL_cons ho
  have hu:=undT_01 p.k v
  have hlt:=drop_lt hd
  obtain⟨k,n,ls⟩:=p
  have hls:=(head_n hp).2.2.2.2
  simp only[Tm.sub]at hlt hd
  have he:=und_ref hp hlt
  rw[highL]at h1
  refine Evt.ifT (drop_dec hd) (Evt.pure (drop_idx hd) ((ev_rBeneath (.mk k n ls) v).bind ?_))
  simp only[Tm.k]at hu ⊢
  rw[he,w64_id (x:=b+undT k v) (by omega) (by omega)]
  refine(ev_rLoose t (b+undT k v) hg.1 (by omega) (by omega)).bind ?_
  rw[w64_nat v (by omega),imax_eq]
  refine(ev_rLooseL l (.mk k n ls) (v+1) b _ (drop_next hd) hp hg.2 h0 (by omega) (by omega)).eq ?_
  simp only[Tm.k]
  rw[looL];omega
end
def e85Lco:Nat->(List Int)->Int->(List Int)->Bool->Int->Option (List Int)
 |0,_,_,_,_,_=>none
 |qq+1,p0,p1,v5,v6,v7=>
 if v6 then
 if decide (v7<(List.length p0:Int))then
 gidx p0 v7>>=fun x2=>
 gapp 8 v5 [x2]>>=fun l4=>
 e85Lco qq p0 p1 l4 true (w64 (v7+1))
 else
 some v5
 else
 if decide (v7<(List.length p0:Int))then
 gidx p0 v7>>=fun x7=>
 if decide (x7≥p1)then
 if decide (x7>p1)then
 gapp 8 v5 [p1]>>=fun l11=>
 gapp 8 l11 [x7]>>=fun l13=>
 e85Lco qq p0 p1 l13 true (w64 (v7+1))
 else
 gapp 8 v5 [x7]>>=fun l15=>
 e85Lco qq p0 p1 l15 true (w64 (v7+1))
 else
 gapp 8 v5 [x7]>>=fun l17=>
 e85Lco qq p0 p1 l17 false (w64 (v7+1))
 else
 gapp 8 v5 [p1]>>=fun l19=>
 some l19
def e85(qq:Nat)(p0:List Int)(p1:Int):Option (List Int):=
 e85Lco qq p0 p1 [] false 0
def g85LcoE0(j:Nat->Value)(p0:List Int)(p1:Int)(v5:List Int)(v6:Bool)(v7:Int):=sp j 49 0 [(0,slv intC p0 .no),(1,ai p1),(5,slv intC v5 (.st 0 1)),(6,ab v6),(7,ai v7)]
def g85LcoS0(p0:List Int)(p1:Int)(v5:List Int)(v6:Bool)(v7:Int):LSt:=⟨[],0,[0],1,[]⟩
abbrev K85 (p0:List Int) (p1:Int) (r:List Int) (C:Cf):Prop:=C 85 [] [slv intC p0 .no,ai p1] (.sl (flat intC r) (List.length r) .no) [] 0
theorem q85:Qf 85 Tryz.f85:=⟨Tryz.func85,by kernel_rfl⟩
theorem k85{p0 p1 r}(h:K85 p0 p1 r Ci):K85 p0 p1 r Ct:=⟨h,⟨⟨tv,dI _⟩,tv,tv⟩,forall_nil,dI _,forall_nil⟩
theorem l85Lco:∀qq:Nat,(∀p0 p1 v5 v6 v7 r,e85Lco qq p0 p1 v5 v6 v7=some r->(∀j,Dl Tryz.prog 0 (inn (inn (rgt (lft (rgt (rgt (rgt (bod Tryz.f85)))))))) (g85LcoE0 j p0 p1 v5 v6 v7) (g85LcoS0 p0 p1 v5 v6 v7) (frameQ Tryz.prog 0 (FinQ Tryz.prog 0 Tryz.f85 (.sl (flat intC r) (List.length r) .no) [] 0) [.blk 0,.seq (rgt (rgt (rgt (rgt (bod Tryz.f85)))))]))):=by
 intro qq
 induction qq with
 |zero=>
  exact fun _ _ _ _ _ _ h=>nn h
 |succ qq ih=>
  intro p0 p1 v5 v6 v7 r h
  rw[e85Lco]at h
  cases v6
  replace h:=ifF rfl h
  rcases spl h with⟨h6,h⟩|⟨h6,h⟩
  obtain⟨x7,h8,h⟩:=obind h
  have k:=oA 1 (ix41 (o:=.no) h8)<|oB 1 h6 o0
  rcases spl h with⟨h9,h⟩|⟨h9,h⟩
  have k:=oA 0 (ix41 (o:=.no) h8)<|oB 1 h9 k
  rcases spl h with⟨h10,h⟩|⟨h10,h⟩
  obtain⟨l11,h12,h⟩:=obind h
  obtain⟨l13,h14,h⟩:=obind h
  exact fun j=>lH 1 [] [] [2] [0,1,5,6,7] (oD (dI l13)<|oD (dI p0)<|oP 2 (apS41 h14 (by simp))<|oA 0 (ix41 (o:=.no) h8)<|oP 1 (apS41 h12 (by simp))<|oB 1 h10 k) (ih _ _ _ _ _ _ h)
  obtain⟨l15,h16,h⟩:=obind h
  exact fun j=>lH 1 [] [] [1] [0,1,5,6,7] (oD (dI l15)<|oD (dI p0)<|oP 2 (apS41 h16 (by simp))<|oA 0 (ix41 (o:=.no) h8)<|oB 1 h10 k) (ih _ _ _ _ _ _ h)
  obtain⟨l17,h18,h⟩:=obind h
  exact fun j=>lH 1 [] [] [1] [0,1,5,6,7] (oD (dI l17)<|oD (dI p0)<|oP 2 (apS41 h18 (by simp))<|oA 0 (ix41 (o:=.no) h8)<|oB 1 h9 k) (ih _ _ _ _ _ _ h)
  obtain⟨l19,h20,h⟩:=obind h
  obtain rfl:=sj h
  exact fun j=>lF 0 [] (oD (dI l19)<|oP 2 (apS41 h20 (by simp))<|oB 1 h6 o0)
  replace h:=ifT rfl h
  rcases spl h with⟨h1,h⟩|⟨h1,h⟩
  obtain⟨x2,h3,h⟩:=obind h
  obtain⟨l4,h5,h⟩:=obind h
  exact fun j=>lH 1 [] [] [1] [0,1,5,6,7] (oD (dI l4)<|oD (dI p0)<|oP 2 (apS41 h5 (by simp))<|oA 1 (ix41 (o:=.no) h3)<|oB 1 h1 o0) (ih _ _ _ _ _ _ h)
  obtain rfl:=sj h
  exact fun j=>lF 1 [] (oD (dI v5)<|oB 1 h1 o0)
theorem c85{qq p0 p1 r}(h:e85 qq p0 p1=some r):K85 p0 p1 r Ct:=by
 unfold e85 at h
 exact k85 (tH q85 1 [(none,5,1)] [] [0] [0,1,5,6,7] (oD (dI ([]:List Int))<|oD (dI p0) o0) (l85Lco _ _ _ _ _ _ _ h))
mutual
def e30:Nat->Tm->Int->Int->Option (List Int)
 |0,_,_,_=>none
 |qq+1,p0,p1,p2=>
 if p0.k==p1 then
 gapp 8 ([]:List Int) [p0.n]>>=fun l2=>
 e30Lcp qq p0 p1 p2 l2 0
 else
 if p0.k==p2 then
 gapp 8 ([]:List Int) [p0.n]>>=fun l5=>
 e30Lcp qq p0 p1 p2 l5 0
 else
 e30Lcp qq p0 p1 p2 [] 0
def e30Lcp:Nat->Tm->Int->Int->(List Int)->Int->Option (List Int)
 |0,_,_,_,_,_=>none
 |qq+1,p0,p1,p2,v7,v8=>
 if decide (v8<(List.length p0.sub:Int))then
 gidx p0.sub v8>>=fun x5=>
 e30 qq x5 p1 p2>>=fun r7=>
 e30Lcq qq p0 p1 p2 v8 r7 0 v7
 else
 some v7
def e30Lcq:Nat->Tm->Int->Int->Int->(List Int)->Int->(List Int)->Option (List Int)
 |0,_,_,_,_,_,_,_=>none
 |qq+1,p0,p1,p2,v8,r7,v10,v7=>
 if decide (v10<(List.length r7:Int))then
 gidx r7 v10>>=fun x10=>
 e85 qq v7 x10>>=fun r12=>
 e30Lcq qq p0 p1 p2 v8 r7 (w64 (v10+1)) r12
 else
 e30Lcp qq p0 p1 p2 v7 (w64 (v8+1))
end
def g30LcpE0(j:Nat->Value)(p0:Tm)(p1 p2:Int)(v7:List Int)(v8:Int):=sp j 55 0 [(1,ai p1),(2,ai p2),(3,.mp 0 0),(7,slv intC v7 (.st 0 1)),(8,ai v8)]
def g30LcpS0(p0:Tm)(p1 p2:Int)(v7:List Int)(v8:Int):LSt:=⟨[(0,.cells [ai p0.k,ai p0.n,slv tmCells p0.sub .no])],1,[0],1,[]⟩
def g30LcpE1(j:Nat->Value)(p0:Tm)(p1 p2:Int)(v7:List Int)(v8:Int):=sp j 55 0 [(1,ai p1),(2,ai p2),(3,.mp 0 0),(7,slv intC v7 .no),(8,ai v8)]
def g30LcpS1(p0:Tm)(p1 p2:Int)(v7:List Int)(v8:Int):LSt:=⟨[(0,.cells [ai p0.k,ai p0.n,slv tmCells p0.sub .no])],1,[],0,[]⟩
def g30LcpE2(j:Nat->Value)(p0:Tm)(p1 p2:Int)(v7:List Int)(v8:Int):=sp j 55 0 [(1,ai p1),(2,ai p2),(3,.mp 0 0),(7,slv intC v7 .full),(8,ai v8)]
def g30LcpS2(p0:Tm)(p1 p2:Int)(v7:List Int)(v8:Int):LSt:=⟨[(0,.cells [ai p0.k,ai p0.n,slv tmCells p0.sub .no])],1,[],0,[]⟩
def g30LcqE0(j:Nat->Value)(p0:Tm)(p1 p2 v8:Int)(r7:List Int)(v10:Int)(v7:List Int):=sp j 55 0 [(1,ai p1),(2,ai p2),(3,.mp 0 0),(7,slv intC v7 (.st 0 1)),(8,ai v8),(9,slv intC r7 .no),(10,ai v10)]
def g30LcqS0(p0:Tm)(p1 p2 v8:Int)(r7:List Int)(v10:Int)(v7:List Int):LSt:=⟨[(0,.cells [ai p0.k,ai p0.n,slv tmCells p0.sub .no])],1,[0],1,[]⟩
def g30LcqE1(j:Nat->Value)(p0:Tm)(p1 p2 v8:Int)(r7:List Int)(v10:Int)(v7:List Int):=sp j 55 0 [(1,ai p1),(2,ai p2),(3,.mp 0 0),(7,slv intC v7 .no),(8,ai v8),(9,slv intC r7 .no),(10,ai v10)]
def g30LcqS1(p0:Tm)(p1 p2 v8:Int)(r7:List Int)(v10:Int)(v7:List Int):LSt:=⟨[(0,.cells [ai p0.k,ai p0.n,slv tmCells p0.sub .no])],1,[],0,[]⟩
def g30LcqE2(j:Nat->Value)(p0:Tm)(p1 p2 v8:Int)(r7:List Int)(v10:Int)(v7:List Int):=sp j 55 0 [(1,ai p1),(2,ai p2),(3,.mp 0 0),(7,slv intC v7 .full),(8,ai v8),(9,slv intC r7 .no),(10,ai v10)]
def g30LcqS2(p0:Tm)(p1 p2 v8:Int)(r7:List Int)(v10:Int)(v7:List Int):LSt:=⟨[(0,.cells [ai p0.k,ai p0.n,slv tmCells p0.sub .no])],1,[],0,[]⟩
abbrev K30 (p0:Tm) (p1 p2:Int) (r:List Int) (C:Cf):Prop:=C 30 [] [tmA p0,ai p1,ai p2] (.sl (flat intC r) (List.length r) .no) [] 0
theorem q30:Qf 30 Tryz.f30:=⟨Tryz.func30,by kernel_rfl⟩
theorem k30{p0 p1 p2 r}(h:K30 p0 p1 p2 r Ci):K30 p0 p1 p2 r Ct:=⟨h,⟨⟨tv,tv,⟨tv,dT _⟩,tv⟩,tv,tv,tv⟩,forall_nil,dI _,forall_nil⟩
theorem a30_30Lcp_30Lcq:∀qq:Nat,(∀p0 p1 p2 r,e30 qq p0 p1 p2=some r->K30 p0 p1 p2 r Ct)∧(∀p0 p1 p2 v7 v8 r,e30Lcp qq p0 p1 p2 v7 v8=some r->(∀j,Dl Tryz.prog 0 (inn (inn (rgt (lft (rgt (rgt (rgt (bod Tryz.f30)))))))) (g30LcpE0 j p0 p1 p2 v7 v8) (g30LcpS0 p0 p1 p2 v7 v8) (frameQ Tryz.prog 0 (FinQ Tryz.prog 0 Tryz.f30 (.sl (flat intC r) (List.length r) .no) [] 0) [.blk 0,.seq (rgt (rgt (rgt (rgt (bod Tryz.f30)))))]))∧(∀j,Dl Tryz.prog 0 (inn (inn (rgt (lft (rgt (rgt (rgt (bod Tryz.f30)))))))) (g30LcpE1 j p0 p1 p2 v7 v8) (g30LcpS1 p0 p1 p2 v7 v8) (frameQ Tryz.prog 0 (FinQ Tryz.prog 0 Tryz.f30 (.sl (flat intC r) (List.length r) .no) [] 0) [.blk 0,.seq (rgt (rgt (rgt (rgt (bod Tryz.f30)))))]))∧(∀j,Dl Tryz.prog 0 (inn (inn (rgt (lft (rgt (rgt (rgt (bod Tryz.f30)))))))) (g30LcpE2 j p0 p1 p2 v7 v8) (g30LcpS2 p0 p1 p2 v7 v8) (frameQ Tryz.prog 0 (FinQ Tryz.prog 0 Tryz.f30 (.sl (flat intC r) (List.length r) .no) [] 0) [.blk 0,.seq (rgt (rgt (rgt (rgt (bod Tryz.f30)))))])))∧(∀p0 p1 p2 v8 r7 v10 v7 r,e30Lcq qq p0 p1 p2 v8 r7 v10 v7=some r->(∀j,Dl Tryz.prog 0 (inn (inn (rgt (rgt (inn (lft (rgt (inn (inn (rgt (lft (rgt (rgt (rgt (bod Tryz.f30))))))))))))))) (g30LcqE0 j p0 p1 p2 v8 r7 v10 v7) (g30LcqS0 p0 p1 p2 v8 r7 v10 v7) (frameQ Tryz.prog 0 (FinQ Tryz.prog 0 Tryz.f30 (.sl (flat intC r) (List.length r) .no) [] 0) [.blk 2,.blk 1,.seq (rgt (rgt (inn (inn (rgt (lft (rgt (rgt (rgt (bod Tryz.f30)))))))))),.loop (inn (inn (rgt (lft (rgt (rgt (rgt (bod Tryz.f30)))))))),.blk 0,.seq (rgt (rgt (rgt (rgt (bod Tryz.f30)))))]))∧(∀j,Dl Tryz.prog 0 (inn (inn (rgt (rgt (inn (lft (rgt (inn (inn (rgt (lft (rgt (rgt (rgt (bod Tryz.f30))))))))))))))) (g30LcqE1 j p0 p1 p2 v8 r7 v10 v7) (g30LcqS1 p0 p1 p2 v8 r7 v10 v7) (frameQ Tryz.prog 0 (FinQ Tryz.prog 0 Tryz.f30 (.sl (flat intC r) (List.length r) .no) [] 0) [.blk 2,.blk 1,.seq (rgt (rgt (inn (inn (rgt (lft (rgt (rgt (rgt (bod Tryz.f30)))))))))),.loop (inn (inn (rgt (lft (rgt (rgt (rgt (bod Tryz.f30)))))))),.blk 0,.seq (rgt (rgt (rgt (rgt (bod Tryz.f30)))))]))∧(∀j,Dl Tryz.prog 0 (inn (inn (rgt (rgt (inn (lft (rgt (inn (inn (rgt (lft (rgt (rgt (rgt (bod Tryz.f30))))))))))))))) (g30LcqE2 j p0 p1 p2 v8 r7 v10 v7) (g30LcqS2 p0 p1 p2 v8 r7 v10 v7) (frameQ Tryz.prog 0 (FinQ Tryz.prog 0 Tryz.f30 (.sl (flat intC r) (List.length r) .no) [] 0) [.blk 2,.blk 1,.seq (rgt (rgt (inn (inn (rgt (lft (rgt (rgt (rgt (bod Tryz.f30)))))))))),.loop (inn (inn (rgt (lft (rgt (rgt (rgt (bod Tryz.f30)))))))),.blk 0,.seq (rgt (rgt (rgt (rgt (bod Tryz.f30)))))]))):=by
 intro qq
 induction qq with
 |zero=>
  exact⟨fun _ _ _ _ h=>nn h,fun _ _ _ _ _ _ h=>nn h,fun _ _ _ _ _ _ _ _ h=>nn h⟩
 |succ qq ih=>
  obtain⟨ih30,ih30Lcp,ih30Lcq⟩:=ih
  refine⟨?_,?_,?_⟩
  intro p0 p1 p2 r h
  rw[e30]at h
  rcases spl h with⟨h1,h⟩|⟨h1,h⟩
  obtain⟨l2,h3,h⟩:=obind h
  exact k30 (tH q30 0 [] [0] [0] [1,2,3,7,8] (oD (dI l2)<|oD (dT p0.sub)<|oP 2 (apS41 h3 (by simp))<|oB 2 h1 o0) ((ih30Lcp _ _ _ _ _ _ h).1))
  have k:=oB 2 h1 o0
  rcases spl h with⟨h4,h⟩|⟨h4,h⟩
  obtain⟨l5,h6,h⟩:=obind h
  exact k30 (tH q30 0 [] [0] [0] [1,2,3,7,8] (oD (dI l5)<|oD (dT p0.sub)<|oP 2 (apS41 h6 (by simp))<|oB 1 h4 k) ((ih30Lcp _ _ _ _ _ _ h).1))
  exact k30 (tH q30 0 [] [0] [] [1,2,3,7,8] (oD (dI ([]:List Int))<|oD (dT p0.sub)<|oB 1 h4 k) ((ih30Lcp _ _ _ _ _ _ h).2.2))
  intro p0 p1 p2 v7 v8 r h
  rw[e30Lcp]at h
  refine⟨?_,?_,?_⟩
  rcases spl h with⟨h4,h⟩|⟨h4,h⟩
  obtain⟨x5,h6,h⟩:=obind h
  obtain⟨r7,h8,h⟩:=obind h
  exact fun j=>lH 0 [] [0] [0] [1,2,3,7,8,9,10] (oD (dI r7)<|oD (dI v7)<|oD (dT p0.sub)<|oC 1 [] (ih30 _ _ _ _ h8)<|oA 1 (ix23 (o:=.no) h6)<|oB 2 h4 o0) ((ih30Lcq _ _ _ _ _ _ _ _ h).1)
  obtain rfl:=sj h
  exact fun j=>lF 0 [] (oD (dI v7)<|oB 2 h4 o0)
  rcases spl h with⟨h4,h⟩|⟨h4,h⟩
  obtain⟨x5,h6,h⟩:=obind h
  obtain⟨r7,h8,h⟩:=obind h
  exact fun j=>lH 0 [] [0] [] [1,2,3,7,8,9,10] (oD (dI r7)<|oD (dI v7)<|oD (dT p0.sub)<|oC 1 [] (ih30 _ _ _ _ h8)<|oA 1 (ix23 (o:=.no) h6)<|oB 2 h4 o0) ((ih30Lcq _ _ _ _ _ _ _ _ h).2.1)
  obtain rfl:=sj h
  exact fun j=>lF 0 [] (oD (dI v7)<|oB 2 h4 o0)
  rcases spl h with⟨h4,h⟩|⟨h4,h⟩
  obtain⟨x5,h6,h⟩:=obind h
  obtain⟨r7,h8,h⟩:=obind h
  exact fun j=>lH 0 [] [0] [] [1,2,3,7,8,9,10] (oD (dI r7)<|oD (dI v7)<|oD (dT p0.sub)<|oC 1 [] (ih30 _ _ _ _ h8)<|oA 1 (ix23 (o:=.no) h6)<|oB 2 h4 o0) ((ih30Lcq _ _ _ _ _ _ _ _ h).2.2)
  obtain rfl:=sj h
  exact fun j=>lF 0 [] (oD (dI v7)<|oB 2 h4 o0)
  intro p0 p1 p2 v8 r7 v10 v7 r h
  rw[e30Lcq]at h
  refine⟨?_,?_,?_⟩
  rcases spl h with⟨h9,h⟩|⟨h9,h⟩
  obtain⟨x10,h11,h⟩:=obind h
  obtain⟨r12,h13,h⟩:=obind h
  exact fun j=>lH 1 [] [0] [] [1,2,3,7,8,9,10] (oD (dI r7)<|oD (dI r12)<|oD (dT p0.sub)<|oC 1 [] (c85 h13)<|oA 0 (ix41 (o:=.no) h11)<|oB 1 h9 o0) ((ih30Lcq _ _ _ _ _ _ _ _ h).2.1)
  exact fun j=>lH 1 [] [0] [0] [1,2,3,7,8] (oD (dI v7)<|oD (dT p0.sub)<|oB 1 h9 o0) ((ih30Lcp _ _ _ _ _ _ h).1)
  rcases spl h with⟨h9,h⟩|⟨h9,h⟩
  obtain⟨x10,h11,h⟩:=obind h
  obtain⟨r12,h13,h⟩:=obind h
  exact fun j=>lH 1 [] [0] [] [1,2,3,7,8,9,10] (oD (dI r7)<|oD (dI r12)<|oD (dT p0.sub)<|oC 1 [] (c85 h13)<|oA 0 (ix41 (o:=.no) h11)<|oB 1 h9 o0) ((ih30Lcq _ _ _ _ _ _ _ _ h).2.1)
  exact fun j=>lH 1 [] [0] [] [1,2,3,7,8] (oD (dI v7)<|oD (dT p0.sub)<|oB 1 h9 o0) ((ih30Lcp _ _ _ _ _ _ h).2.1)
  rcases spl h with⟨h9,h⟩|⟨h9,h⟩
  obtain⟨x10,h11,h⟩:=obind h
  obtain⟨r12,h13,h⟩:=obind h
  exact fun j=>lH 1 [] [0] [] [1,2,3,7,8,9,10] (oD (dI r7)<|oD (dI r12)<|oD (dT p0.sub)<|oC 1 [] (c85 h13)<|oA 0 (ix41 (o:=.no) h11)<|oB 1 h9 o0) ((ih30Lcq _ _ _ _ _ _ _ _ h).2.1)
  exact fun j=>lH 1 [] [0] [] [1,2,3,7,8] (oD (dI v7)<|oD (dT p0.sub)<|oB 1 h9 o0) ((ih30Lcp _ _ _ _ _ _ h).2.2)
theorem c30{qq p0 p1 p2 r}(h:e30 qq p0 p1 p2=some r):K30 p0 p1 p2 r Ct:=(a30_30Lcp_30Lcq _).1 _ _ _ _ h
def e168Lcr:Nat->Int->(List Int)->Int->Option (Bool)
 |0,_,_,_=>none
 |qq+1,p2,r7,v8=>
 if decide (v8<(List.length r7:Int))then
 gidx r7 v8>>=fun x10=>
 if decide (x10≥p2)then
 some false
 else
 e168Lcr qq p2 r7 (w64 (v8+1))
 else
 some true
def e168(qq:Nat)(p0:Tm)(p1 p2:Int):Option (Bool):=
 e18 qq p0>>=fun r1=>
 if r1 then
 e20 qq p0 0>>=fun r4=>
 if decide (r4>p1)then
 some false
 else
 e30 qq p0 6 7>>=fun r7=>
 e168Lcr qq p2 r7 0
 else
 some false
def g168LcrE0(j:Nat->Value)(p2:Int)(r7:List Int)(v8:Int):=sp j 32 0 [(2,ai p2),(7,slv intC r7 .no),(8,ai v8)]
def g168LcrS0(p2:Int)(r7:List Int)(v8:Int):LSt:=⟨[],0,[],0,[]⟩
abbrev K168 (p0:Tm) (p1 p2:Int) (r:Bool) (C:Cf):Prop:=C 168 [] [tmA p0,ai p1,ai p2] (ab r) [] 0
theorem q168:Qf 168 Tryz.f168:=⟨Tryz.func168,by kernel_rfl⟩
theorem k168{p0 p1 p2 r}(h:K168 p0 p1 p2 r Ci):K168 p0 p1 p2 r Ct:=⟨h,⟨⟨tv,tv,⟨tv,dT _⟩,tv⟩,tv,tv,tv⟩,forall_nil,tv,forall_nil⟩
theorem l168Lcr:∀qq:Nat,(∀p2 r7 v8 r,e168Lcr qq p2 r7 v8=some r->(∀j,Dl Tryz.prog 0 (inn (inn (rgt (lft (rgt (rgt (rgt (bod Tryz.f168)))))))) (g168LcrE0 j p2 r7 v8) (g168LcrS0 p2 r7 v8) (frameQ Tryz.prog 0 (FinQ Tryz.prog 0 Tryz.f168 (ab r) [] 0) [.blk 0,.seq (rgt (rgt (rgt (rgt (bod Tryz.f168)))))]))):=by
 intro qq
 induction qq with
 |zero=>
  exact fun _ _ _ _ h=>nn h
 |succ qq ih=>
  intro p2 r7 v8 r h
  rw[e168Lcr]at h
  rcases spl h with⟨h9,h⟩|⟨h9,h⟩
  obtain⟨x10,h11,h⟩:=obind h
  have k:=oA 0 (ix41 (o:=.no) h11)<|oB 1 h9 o0
  rcases spl h with⟨h12,h⟩|⟨h12,h⟩
  obtain rfl:=sj h
  exact fun j=>lF 0 [] (oB 1 h12 k)
  exact fun j=>lH 1 [] [] [] [2,7,8] (oD (dI r7)<|oB 1 h12 k) (ih _ _ _ _ h)
  obtain rfl:=sj h
  exact fun j=>lF 0 [] (oB 1 h9 o0)
theorem c168{qq p0 p1 p2 r}(h:e168 qq p0 p1 p2=some r):K168 p0 p1 p2 r Ct:=by
 unfold e168 at h
 obtain⟨r1,h2,h⟩:=obind h
 rcases spl h with⟨h3,h⟩|⟨h3,h⟩
 obtain⟨r4,h5,h⟩:=obind h
 have k:=oC 2 [] (c20 h5)<|oK 1 [] h3 (c18 h2) o0
 rcases spl h with⟨h6,h⟩|⟨h6,h⟩
 obtain rfl:=sj h
 exact k168 (tF q168 0 [] (oB 0 h6 k))
 obtain⟨r7,h8,h⟩:=obind h
 exact k168 (tH q168 0 [] [] [] [2,7,8] (oD (dI r7)<|oC 1 [] (c30 h8)<|oB 0 h6 k) (l168Lcr _ _ _ _ _ h))
 obtain rfl:=sj h
 exact k168 (tF q168 1 [] (oK 1 [] h3 (c18 h2) o0))
def e116(qq:Nat)(p0:Tm)(p1:Int):Option (Bool):=
 e168 qq p0 0 p1>>=fun r1=>
 if r1 then
 e30 qq p0 8 8>>=fun r4=>
 some ((List.length r4:Int)==0)
 else
 some false
abbrev K116 (p0:Tm) (p1:Int) (r:Bool) (C:Cf):Prop:=C 116 [] [tmA p0,ai p1] (ab r) [] 0
theorem q116:Qf 116 Tryz.f116:=⟨Tryz.func116,by kernel_rfl⟩
theorem k116{p0 p1 r}(h:K116 p0 p1 r Ci):K116 p0 p1 r Ct:=⟨h,⟨⟨tv,tv,⟨tv,dT _⟩,tv⟩,tv,tv⟩,forall_nil,tv,forall_nil⟩
theorem c116{qq p0 p1 r}(h:e116 qq p0 p1=some r):K116 p0 p1 r Ct:=by
 unfold e116 at h
 obtain⟨r1,h2,h⟩:=obind h
 rcases spl h with⟨h3,h⟩|⟨h3,h⟩
 obtain⟨r4,h5,h⟩:=obind h
 obtain rfl:=sj h
 exact k116 (tF q116 2 [] (oC 1 [] (c30 h5)<|oK 1 [] h3 (c168 h2) o0))
 obtain rfl:=sj h
 exact k116 (tF q116 0 [] (oK 1 [] h3 (c168 h2) o0))
theorem tot_put:∀(r l:List Int) (n:Int) (v:Nat) (acc:List Int) (done:Bool),l.drop v=r->l.length≤8192->acc.length≤v+1->(done=false->acc.length≤v)->v≤l.length ->
  Tot (fun q=>e85Lco q l n acc done (v:Int)) fun o=>o.length≤acc.length+r.length+1∧(done=true->o.length≤acc.length+r.length)∧∀x,x∈o↔x∈acc∨x∈r∨(done=false∧x=n)
 | [],l,n,v,acc,done,hd,hl,ha,hb,hv=>by
  refine Tot.succ ?_
  simp only[e85Lco]
  cases done with
  |true=>
   refine Tot.ite (fun _=>Tot.ite (fun h=>?_) fun _=>Tot.ret ⟨(by simp<;>omega),fun _=>(by simp),fun x=>by simp⟩) (fun h=>by cases h)
   rw[drop_nil hd]at h;cases h
  |false=>
   refine Tot.ite (fun h=>by cases h) (fun _=>Tot.ite (fun h=>?_) fun _=>Tot.pure (gapp_ok (by simp<;>omega)) (Tot.ret ⟨(by simp),fun h=>(by cases h),fun x=>by simp⟩))
   rw[drop_nil hd]at h;cases h
 |y::r,l,n,v,acc,done,hd,hl,ha,hb,hv=>by
  have hlt:=drop_lt hd
  refine Tot.succ ?_
  simp only[e85Lco]
  cases done with
  |true=>
   refine Tot.ite (fun _=>Tot.ite (fun _=>Tot.pure (drop_idx hd) (Tot.pure (gapp_ok (by simp<;>omega)) ?_)) fun h=>?_) (fun h=>by cases h)
   ·rw[w64_nat v (by omega)]
    refine(tot_put r l n (v+1) (acc++[y]) true (drop_next hd) hl (by simp<;>omega) (fun h=>by cases h) (by omega)).mono fun o ho=>?_
    refine⟨by have:=ho.2.1 rfl;simp at this ⊢ <;> omega,fun _=>by have:=ho.2.1 rfl;simp at this ⊢ <;> omega,fun x=>?_⟩
    rw[ho.2.2 x];simp[or_assoc]
   ·rw[drop_dec hd]at h;cases h
  |false=>
   have hb':=hb rfl
   refine Tot.ite (fun h=>by cases h) (fun _=>Tot.ite (fun _=>Tot.pure (drop_idx hd) (Tot.ite (fun h1=>Tot.ite (fun h2=>Tot.pure (gapp_ok (by simp<;>omega)) (Tot.pure (gapp_ok (by simp<;>omega)) ?_)) fun h2=>Tot.pure (gapp_ok (by simp<;>omega)) ?_) fun h1=>Tot.pure (gapp_ok (by simp<;>omega)) ?_)) fun h=>?_)
   ·rw[w64_nat v (by omega)]
    refine(tot_put r l n (v+1) (acc++[n]++[y]) true (drop_next hd) hl (by simp<;>omega) (fun h=>by cases h) (by omega)).mono fun o ho=>?_
    refine⟨by have:=ho.2.1 rfl;simp at this ⊢ <;> omega,fun h=>(by cases h),fun x=>?_⟩
    rw[ho.2.2 x];simp;grind
   ·rw[w64_nat v (by omega)]
    refine(tot_put r l n (v+1) (acc++[y]) true (drop_next hd) hl (by simp<;>omega) (fun h=>by cases h) (by omega)).mono fun o ho=>?_
    have e:y=n:=by simp at h1 h2;omega
    subst e
    refine⟨by have:=ho.2.1 rfl;simp at this ⊢ <;> omega,fun h=>(by cases h),fun x=>?_⟩
    rw[ho.2.2 x];simp;grind
   ·rw[w64_nat v (by omega)]
    refine(tot_put r l n (v+1) (acc++[y]) false (drop_next hd) hl (by simp<;>omega) (fun _=>by simp<;>omega) (by omega)).mono fun o ho=>?_
    refine⟨by have:=ho.1;simp at this ⊢;omega,fun h=>(by cases h),fun x=>?_⟩
    rw[ho.2.2 x];simp;grind
   ·rw[drop_dec hd]at h;cases h
theorem tot_put0(l:List Int)(n:Int)(hl:l.length≤8192):Tot (fun q=>e85 q l n) fun o=>o.length≤l.length+1∧∀x,x∈o↔x∈l∨x=n:=by
 simp only[e85]
 refine(tot_put l l n 0 [] false rfl hl (by simp) (fun _=>by simp) (by omega)).mono fun o ho=>⟨by have:=ho.1;simpa using this,fun x=>by rw[ho.2.2 x];simp⟩
theorem tot_NumIn{p:Tm}{a b:Int}{v:Nat}{r7:List Int}{Q:List Int->Prop}{N:Nat}{S:Int->Prop}(hN:N≤8192)(hr:r7.length≤8192)(hv:v<9223372036854775807)
  (K:∀acc:List Int,acc.length≤N->(∀x,x∈acc↔S x)->Tot (fun q=>e30Lcp q p a b acc ((v+1:Nat):Int)) Q) :
  ∀(m:List Int) (w:Nat) (acc:List Int),r7.drop w=m->acc.length+m.length≤N->(∀x,(x∈acc∨x∈m)↔S x)->Tot (fun q=>e30Lcq q p a b (v:Int) r7 (w:Int) acc) Q
 | [],w,acc,hd,hl,hm=>by
  refine Tot.succ ?_
  simp only[e30Lcq]
  refine Tot.ite (fun h=>?_) fun _=>?_
  ·rw[drop_nil hd]at h;cases h
  ·rw[w64_nat v (by omega)]
   exact K acc (by simpa using hl) fun x=>by simpa using hm x
 |y::m,w,acc,hd,hl,hm=>by
  have hlt:=drop_lt hd
  refine Tot.succ ?_
  simp only[e30Lcq]
  refine Tot.ite (fun _=>Tot.pure (drop_idx hd) ((tot_put0 acc y (by simp at hl;omega)).bind fun o ho=>?_)) fun h=>?_
  ·rw[w64_nat w (by omega)]
   refine tot_NumIn hN hr hv K m (w+1) o (drop_next hd) (by simp at hl;have:=ho.1;omega) fun x=>?_
   rw[←hm x,ho.2 x];simp[or_assoc]
  ·rw[drop_dec hd]at h;cases h
def Same(r m:List Int):Prop:=∀x,x∈r↔x∈m
mutual
theorem tot_Numbers:∀(t:Tm) (a b:Int),t.Ok->t.nodes≤8192->Tot (fun q=>e30 q t a b) fun o=>o.length≤t.nodes∧Same o (colT t a b)
 | .mk k n l,a,b,ho,hn=>by
  refine Tot.succ ?_
  simp only[e30,Tm.k,Tm.n]
  rw[Tm.nodes]at hn
  have key:∀acc:List Int,acc.length≤1->acc=(if k=a∨k=b then [n]else [])->Tot (fun q=>e30Lcp q (.mk k n l) a b acc 0) fun o=>o.length≤(Tm.mk k n l).nodes∧Same o (colT (.mk k n l) a b):=by
   intro acc h1 h2
   refine(tot_NumbersL l (.mk k n l) 0 a b acc rfl ho.1 ho.2 (by omega)).mono fun o ho=>⟨by rw[Tm.nodes];have:=ho.1;omega,fun x=>?_⟩
   rw[ho.2 x,colT,h2];simp
  refine Tot.ite (fun h=>Tot.pure (gapp_ok (by simp)) ?_) fun h=>Tot.ite (fun h'=>Tot.pure (gapp_ok (by simp)) ?_) fun h'=>?_
  ·exact key _ (by simp) (by rw[if_pos (.inl (by simpa using h))];rfl)
  ·exact key _ (by simp) (by rw[if_pos (.inr (by simpa using h'))];rfl)
  ·exact key _ (by simp) (by rw[if_neg (by simp at h h';simp[h,h'])])
theorem tot_NumbersL:∀(l:List Tm) (p:Tm) (v:Nat) (a b:Int) (acc:List Int),p.sub.drop v=l->p.sub.length<9223372036854775808->OkL l->acc.length+nodesL l≤8192 ->
  Tot (fun q=>e30Lcp q p a b acc (v:Int)) fun o=>o.length≤acc.length+nodesL l∧∀x,x∈o↔x∈acc∨x∈colL l a b
 | [],p,v,a,b,acc,hd,hl,ho,hn=>by
  refine Tot.succ ?_
  simp only[e30Lcp]
  refine Tot.ite (fun h=>?_) fun _=>Tot.ret ⟨by omega,fun x=>by rw[colL];simp⟩
  rw[drop_nil hd]at h;cases h
 |t::l,p,v,a,b,acc,hd,hl,ho,hn=>by
  have hlt:=drop_lt hd
  rw[nodesL]at hn
  have IH:=fun acc' h=>tot_NumbersL l p (v+1) a b acc' (drop_next hd) hl ho.2 h
  refine Tot.succ ?_
  simp only[e30Lcp]
  refine Tot.ite (fun _=>Tot.pure (drop_idx hd) ((tot_Numbers t a b ho.1 (by omega)).bind fun r7 hr=>?_)) fun h=>?_
  ·refine tot_NumIn (N:=acc.length+t.nodes) (S:=fun x=>x∈acc∨x∈colT t a b) (by omega) (by have:=hr.1;omega) (by omega) (fun acc' h1 h2=>?_) r7 0 acc rfl (by have:=hr.1;omega) fun x=>by rw[hr.2 x]
   refine(IH acc' (by omega)).mono fun o ho=>⟨by rw[nodesL];have:=ho.1;omega,fun x=>?_⟩
   rw[ho.2 x,h2 x,colL];simp[or_assoc]
  ·rw[drop_dec hd]at h;cases h
end
theorem ev_all:∀(r l:List Int) (n:Int) (v:Nat),l.drop v=r->l.length≤8192->Evt (fun q=>e168Lcr q n l (v:Int)) (r.all fun x=>decide (x<n))
 | [],l,n,v,hd,hl=>by
  refine Evt.succ ?_
  simp only[e168Lcr]
  exact Evt.ifF (drop_nil hd) Evt.ret
 |y::r,l,n,v,hd,hl=>by
  have hlt:=drop_lt hd
  refine Evt.succ ?_
  simp only[e168Lcr]
  refine Evt.ifT (drop_dec hd) (Evt.pure (drop_idx hd) ?_)
  by_cases h:y≥n
  ·exact Evt.ifT (by simpa using h) (Evt.ret.eq (by simp<;>omega))
  ·refine Evt.ifF (by simpa using h) ?_
   rw[w64_nat v (by omega)]
   refine(ev_all r l n (v+1) (drop_next hd) hl).eq ?_
   simp[show y<n by omega]
theorem all_same{r m:List Int}(h:Same r m)(n:Int):(r.all fun x=>decide (x<n))=m.all fun x=>decide (x<n):=by
 rw[Bool.eq_iff_iff]
 simp only[List.all_eq_true]
 exact⟨fun k x hx=>k x ((h x).2 hx),fun k x hx=>k x ((h x).1 hx)⟩
theorem ev_rRight(t:Tm)(f n:Int)(ho:t.Ok):Evt (fun q=>e168 q t f n) (rightT t f n):=by
 simp only[e168]
 refine(ev_rShaped t ho).bind ?_
 unfold rightT
 by_cases h:shapedT t=true
 ·have hs:=shapedT_spec h
  refine Evt.ifT h ((ev_rLoose t 0 hs.2.2 (by omega) (by omega)).bind ?_)
  rw[h]
  by_cases h2:looT t 0>f
  ·exact Evt.ifT (by simpa using h2) (Evt.ret.eq (by simp<;>omega))
  ·obtain⟨r,h3,h4,h5⟩:=tot_Numbers t 6 7 ho hs.1
   refine Evt.ifF (by simpa using h2) (h3.bind ((ev_all r r n 0 rfl (by omega)).eq ?_))
   rw[all_same h5,show decide (looT t 0≤f)=true by simp<;>omega];simp
 ·exact Evt.ifF (by simpa using h) (Evt.ret.eq (by simp[h]))
def closedT(t:Tm)(n:Int):Bool:=rightT t 0 n&&(colT t 8 8).isEmpty
theorem rightT_shaped{t:Tm}{f n:Int}(h:rightT t f n=true):shapedT t=true:=by
 unfold rightT at h;simp at h;exact h.1.1
theorem ev_rClosed(t:Tm)(n:Int)(ho:t.Ok):Evt (fun q=>e116 q t n) (closedT t n):=by
 simp only[e116]
 refine(ev_rRight t 0 n ho).bind ?_
 unfold closedT
 by_cases h:rightT t 0 n=true
 ·have hs:=shapedT_spec (rightT_shaped h)
  obtain⟨r,h3,h4,h5⟩:=tot_Numbers t 8 8 ho hs.1
  refine Evt.ifT h (h3.bind (Evt.ret.eq ?_))
  rw[h,Bool.true_and,Bool.eq_iff_iff]
  simp only[beq_iff_eq,List.isEmpty_iff]
  constructor
  ·intro h6
   have h6':r=[]:=List.length_eq_zero_iff.1 (by omega)
   refine List.eq_nil_iff_forall_not_mem.2 fun x hx=>?_
   rw[←h5 x,h6']at hx;cases hx
  ·intro h6
   have:r=[]:=List.eq_nil_iff_forall_not_mem.2 fun x hx=>by rw[h5 x,h6]at hx;cases hx
   rw[this];rfl
 ·exact Evt.ifF (by simpa using h) (Evt.ret.eq (by simp[h]))
def e207(qq:Nat)(p0:Tm):Option (Bool):=
 if p0.k==0 then
 if p0.n==0 then
 some ((List.length p0.sub:Int)==0)
 else
 some false
 else
 some false
abbrev K207 (p0:Tm) (r:Bool) (C:Cf):Prop:=C 207 [] [tmA p0] (ab r) [] 0
theorem q207:Qf 207 Tryz.f207:=⟨Tryz.func207,by kernel_rfl⟩
theorem k207{p0 r}(h:K207 p0 r Ci):K207 p0 r Ct:=⟨h,⟨⟨tv,tv,⟨tv,dT _⟩,tv⟩,tv⟩,forall_nil,tv,forall_nil⟩
theorem c207{qq p0 r}(h:e207 qq p0=some r):K207 p0 r Ct:=by
 unfold e207 at h
 rcases spl h with⟨h1,h⟩|⟨h1,h⟩
 have k:=oB 1 h1 o0
 rcases spl h with⟨h2,h⟩|⟨h2,h⟩
 obtain rfl:=sj h
 exact k207 (tF q207 3 [] (oB 1 h2 k))
 obtain rfl:=sj h
 exact k207 (tF q207 0 [] (oB 1 h2 k))
 obtain rfl:=sj h
 exact k207 (tF q207 0 [] (oB 1 h1 o0))
def e208Lcs:Nat->Int->(List Tm)->Int->Int->Int->(List Tm)->Option (List Tm×Tm×Int)
 |0,_,_,_,_,_,_=>none
 |qq+1,p1,v7,v8,vb0_0,vb0_1,vb0_2=>
 if decide (v8<p1)then
 if vb0_0 != 3 then
 some ([],(Tm.mk 0 0 []),6)
 else
 gidx vb0_2 0>>=fun x8=>
 gapp 40 v7 [x8]>>=fun l10=>
 gidx vb0_2 1>>=fun x12=>
 e208Lcs qq p1 l10 (w64 (v8+1)) x12.k x12.n x12.sub
 else
 some (v7,(Tm.mk vb0_0 vb0_1 vb0_2),0)
def e208(qq:Nat)(p0:Tm)(p1:Int):Option (List Tm×Tm×Int):=
 e18 qq p0>>=fun r1=>
 if r1 then
 if decide (p1<0)then
 some ([],(Tm.mk 0 0 []),5)
 else
 if decide (p1>24)then
 some ([],(Tm.mk 0 0 []),2)
 else
 e208Lcs qq p1 [] 0 p0.k p0.n p0.sub
 else
 some ([],(Tm.mk 0 0 []),5)
def g208LcsE0(j:Nat->Value)(p1:Int)(v7:List Tm)(v8 vb0_0 vb0_1:Int)(vb0_2:List Tm):=sp j 43 0 [(1,ai p1),(2,.mp 0 0),(5,.mp 1 0),(7,slv tmCells v7 (.st 0 3)),(8,ai v8)]
def g208LcsS0(p1:Int)(v7:List Tm)(v8 vb0_0 vb0_1:Int)(vb0_2:List Tm):LSt:=⟨[(0,.cells [ai vb0_0,ai vb0_1,slv tmCells vb0_2 .no]),(1,.cells [ai 0,ai 0,slv tmCells ([]:List Tm) .nl])],2,[0],1,[]⟩
abbrev K208 (p0:Tm) (p1:Int) (r:List Tm×Tm×Int) (C:Cf):Prop:=C 208 [] [tmA p0,ai p1] (.tup [.sl (flat tmCells r.1) (List.length r.1) .no,tmA r.2.1,ai r.2.2]) [] 0
theorem q208:Qf 208 Tryz.f208:=⟨Tryz.func208,by kernel_rfl⟩
theorem k208{p0 p1 r}(h:K208 p0 p1 r Ci):K208 p0 p1 r Ct:=⟨h,⟨⟨tv,tv,⟨tv,dT _⟩,tv⟩,tv,tv⟩,forall_nil,⟨dT _,⟨tv,tv,dT _,tv⟩,tv,tv⟩,forall_nil⟩
theorem l208Lcs:∀qq:Nat,(∀p1 v7 v8 vb0_0 vb0_1 vb0_2 r,e208Lcs qq p1 v7 v8 vb0_0 vb0_1 vb0_2=some r->(∀j,Dl Tryz.prog 0 (inn (inn (rgt (lft (rgt (rgt (rgt (rgt (bod Tryz.f208))))))))) (g208LcsE0 j p1 v7 v8 vb0_0 vb0_1 vb0_2) (g208LcsS0 p1 v7 v8 vb0_0 vb0_1 vb0_2) (frameQ Tryz.prog 0 (FinQ Tryz.prog 0 Tryz.f208 (.tup [.sl (flat tmCells r.1) (List.length r.1) .no,tmA r.2.1,ai r.2.2]) [] 0) [.blk 0,.seq (rgt (rgt (rgt (rgt (rgt (bod Tryz.f208))))))]))):=by
 intro qq
 induction qq with
 |zero=>
  exact fun _ _ _ _ _ _ _ h=>nn h
 |succ qq ih=>
  intro p1 v7 v8 vb0_0 vb0_1 vb0_2 r h
  rw[e208Lcs]at h
  rcases spl h with⟨h6,h⟩|⟨h6,h⟩
  have k:=oB 0 h6 o0
  rcases spl h with⟨h7,h⟩|⟨h7,h⟩
  obtain rfl:=sj h
  exact fun j=>lF 1 [] (oD (dT ([]:List Tm))<|oD (dT ([]:List Tm))<|oB 1 h7 k)
  obtain⟨x8,h9,h⟩:=obind h
  obtain⟨l10,h11,h⟩:=obind h
  obtain⟨x12,h13,h⟩:=obind h
  exact fun j=>lH 3 [] [0,1] [1] [1,2,5,7,8] (oD (dT l10)<|oD (dT ([]:List Tm))<|oD (dT x12.sub)<|oA 1 (ix23 (o:=.no) h13)<|oP 0 (apS23 h11 (by simp))<|oS 1 (obLitR tm_eq [x8])<|oA 1 (ix23 (o:=.no) h9)<|oB 1 h7 k) (ih _ _ _ _ _ _ _ h)
  obtain rfl:=sj h
  exact fun j=>lF 2 [] (oD (dT vb0_2)<|oD (dT v7)<|oB 0 h6 o0)
theorem c208{qq p0 p1 r}(h:e208 qq p0 p1=some r):K208 p0 p1 r Ct:=by
 unfold e208 at h
 obtain⟨r1,h2,h⟩:=obind h
 rcases spl h with⟨h3,h⟩|⟨h3,h⟩
 have k:=oK 1 [] h3 (c18 h2) o0
 rcases spl h with⟨h4,h⟩|⟨h4,h⟩
 obtain rfl:=sj h
 exact k208 (tF q208 1 [] (oD (dT ([]:List Tm))<|oD (dT ([]:List Tm))<|oB 1 h4 k))
 have k:=oB 1 h4 k
 rcases spl h with⟨h5,h⟩|⟨h5,h⟩
 obtain rfl:=sj h
 exact k208 (tF q208 1 [] (oD (dT ([]:List Tm))<|oD (dT ([]:List Tm))<|oB 0 h5 k))
 exact k208 (tH q208 1 [(none,7,3)] [0,1] [0] [1,2,5,7,8] (oD (dT ([]:List Tm))<|oD (dT ([]:List Tm))<|oD (dT p0.sub)<|oB 0 h5 k) (l208Lcs _ _ _ _ _ _ _ _ h))
 obtain rfl:=sj h
 exact k208 (tF q208 2 [] (oD (dT ([]:List Tm))<|oD (dT ([]:List Tm))<|oK 1 [] h3 (c18 h2) o0))
def e77(qq:Nat)(p0:List Ent)(p1 p2:Int):Option (Bool):=
 if decide (p1≥0)then
 if decide (p1<(List.length p0:Int))then
 gidx p0 p1>>=fun x3=>
 some (x3.kind==p2)
 else
 some false
 else
 some false
abbrev K77 (p0:List Ent) (p1 p2:Int) (r:Bool) (C:Cf):Prop:=C 77 [] [slv entL p0 .no,ai p1,ai p2] (ab r) [] 0
theorem q77:Qf 77 Tryz.f77:=⟨Tryz.func77,by kernel_rfl⟩
theorem k77{p0 p1 p2 r}(h:K77 p0 p1 p2 r Ci):K77 p0 p1 p2 r Ct:=⟨h,⟨⟨tv,dE _⟩,tv,tv,tv⟩,forall_nil,tv,forall_nil⟩
theorem c77{qq p0 p1 p2 r}(h:e77 qq p0 p1 p2=some r):K77 p0 p1 p2 r Ct:=by
 unfold e77 at h
 rcases spl h with⟨h1,h⟩|⟨h1,h⟩
 have k:=oB 0 h1 o0
 rcases spl h with⟨h2,h⟩|⟨h2,h⟩
 obtain⟨x3,h4,h⟩:=obind h
 obtain rfl:=sj h
 exact k77 (tF q77 2 [] (oA 0 (ix22 (o:=.no) h4)<|oB 1 h2 k))
 obtain rfl:=sj h
 exact k77 (tF q77 0 [] (oB 1 h2 k))
 obtain rfl:=sj h
 exact k77 (tF q77 0 [] (oB 0 h1 o0))
def e209Lct:Nat->(List Ent)->(List Int)->Int->Int->Int->Int->Option (Bool)
 |0,_,_,_,_,_,_=>none
 |qq+1,p0,p1,p2,p3,p4,v11=>
 if decide (v11<(List.length p1:Int))then
 gidx p1 v11>>=fun x2=>
 if x2 != (w64 (p2+v11))then
 some false
 else
 e77 qq p0 x2 p4>>=fun r5=>
 if r5 then
 gidx p0 x2>>=fun x8=>
 if x8.fam != p3 then
 some false
 else
 if x8.place != v11 then
 some false
 else
 e209Lct qq p0 p1 p2 p3 p4 (w64 (v11+1))
 else
 some false
 else
 some true
def e209(qq:Nat)(p0:List Ent)(p1:List Int)(p2 p3 p4:Int):Option (Bool):=
 e209Lct qq p0 p1 p2 p3 p4 0
def g209LctE0(j:Nat->Value)(p0:List Ent)(p1:List Int)(p2 p3 p4 v11:Int):=sp j 60 0 [(0,slv entL p0 .no),(1,slv intC p1 .no),(2,ai p2),(3,ai p3),(4,ai p4),(11,ai v11)]
def g209LctS0(p0:List Ent)(p1:List Int)(p2 p3 p4 v11:Int):LSt:=⟨[],0,[],0,[]⟩
abbrev K209 (p0:List Ent) (p1:List Int) (p2 p3 p4:Int) (r:Bool) (C:Cf):Prop:=C 209 [] [slv entL p0 .no,slv intC p1 .no,ai p2,ai p3,ai p4] (ab r) [] 0
theorem q209:Qf 209 Tryz.f209:=⟨Tryz.func209,by kernel_rfl⟩
theorem k209{p0 p1 p2 p3 p4 r}(h:K209 p0 p1 p2 p3 p4 r Ci):K209 p0 p1 p2 p3 p4 r Ct:=⟨h,⟨⟨tv,dE _⟩,⟨tv,dI _⟩,tv,tv,tv,tv⟩,forall_nil,tv,forall_nil⟩
theorem l209Lct:∀qq:Nat,(∀p0 p1 p2 p3 p4 v11 r,e209Lct qq p0 p1 p2 p3 p4 v11=some r->(∀j,Dl Tryz.prog 0 (inn (inn (rgt (lft (rgt (bod Tryz.f209)))))) (g209LctE0 j p0 p1 p2 p3 p4 v11) (g209LctS0 p0 p1 p2 p3 p4 v11) (frameQ Tryz.prog 0 (FinQ Tryz.prog 0 Tryz.f209 (ab r) [] 0) [.blk 0,.seq (rgt (rgt (bod Tryz.f209)))]))):=by
 intro qq
 induction qq with
 |zero=>
  exact fun _ _ _ _ _ _ _ h=>nn h
 |succ qq ih=>
  intro p0 p1 p2 p3 p4 v11 r h
  rw[e209Lct]at h
  rcases spl h with⟨h1,h⟩|⟨h1,h⟩
  obtain⟨x2,h3,h⟩:=obind h
  have k:=oA 0 (ix41 (o:=.no) h3)<|oB 1 h1 o0
  rcases spl h with⟨h4,h⟩|⟨h4,h⟩
  obtain rfl:=sj h
  exact fun j=>lF 0 [] (oB 2 h4 k)
  obtain⟨r5,h6,h⟩:=obind h
  have k:=oA 0 (ix41 (o:=.no) h3)<|oB 2 h4 k
  rcases spl h with⟨h7,h⟩|⟨h7,h⟩
  obtain⟨x8,h9,h⟩:=obind h
  have k:=oA 1 (ix22 (o:=.no) h9)<|oA 1 (ix41 (o:=.no) h3)<|oK 1 [] h7 (c77 h6) k
  rcases spl h with⟨h10,h⟩|⟨h10,h⟩
  obtain rfl:=sj h
  exact fun j=>lF 0 [] (oB 1 h10 k)
  have k:=oA 1 (ix22 (o:=.no) h9)<|oA 0 (ix41 (o:=.no) h3)<|oB 1 h10 k
  rcases spl h with⟨h11,h⟩|⟨h11,h⟩
  obtain rfl:=sj h
  exact fun j=>lF 0 [] (oB 1 h11 k)
  exact fun j=>lH 1 [] [] [] [0,1,2,3,4,11] (oD (dI p1)<|oD (dE p0)<|oB 1 h11 k) (ih _ _ _ _ _ _ _ h)
  obtain rfl:=sj h
  exact fun j=>lF 1 [] (oK 1 [] h7 (c77 h6) k)
  obtain rfl:=sj h
  exact fun j=>lF 0 [] (oB 1 h1 o0)
theorem c209{qq p0 p1 p2 p3 p4 r}(h:e209 qq p0 p1 p2 p3 p4=some r):K209 p0 p1 p2 p3 p4 r Ct:=by
 unfold e209 at h
 exact k209 (tH q209 0 [] [] [] [0,1,2,3,4,11] (oD (dI p1)<|oD (dE p0) o0) (l209Lct _ _ _ _ _ _ _ _ h))
def e76Lcu:Nat->Int->Int->(List Tm)->Option (Tm)
 |0,_,_,_=>none
 |qq+1,vb0_0,vb0_1,vb0_2=>
 if vb0_0==5 then
 gidx vb0_2 0>>=fun x2=>
 e76Lcu qq x2.k x2.n x2.sub
 else
 some (Tm.mk vb0_0 vb0_1 vb0_2)
def e76(qq:Nat)(p0:Tm):Option (Tm):=
 e76Lcu qq p0.k p0.n p0.sub
def g76LcuE0(j:Nat->Value)(vb0_0 vb0_1:Int)(vb0_2:List Tm):=sp j 11 0 [(1,.mp 0 0),(2,.mp 1 0)]
def g76LcuS0(vb0_0 vb0_1:Int)(vb0_2:List Tm):LSt:=⟨[(0,.cells [ai vb0_0,ai vb0_1,slv tmCells vb0_2 .no]),(1,.cells [ai 0,ai 0,slv tmCells ([]:List Tm) .nl])],2,[],0,[]⟩
abbrev K76 (p0 r:Tm) (C:Cf):Prop:=C 76 [] [tmA p0] (tmA r) [] 0
theorem q76:Qf 76 Tryz.f76:=⟨Tryz.func76,by kernel_rfl⟩
theorem k76{p0 r}(h:K76 p0 r Ci):K76 p0 r Ct:=⟨h,⟨⟨tv,tv,⟨tv,dT _⟩,tv⟩,tv⟩,forall_nil,⟨tv,tv,dT _,tv⟩,forall_nil⟩
theorem l76Lcu:∀qq:Nat,(∀vb0_0 vb0_1 vb0_2 r,e76Lcu qq vb0_0 vb0_1 vb0_2=some r->(∀j,Dl Tryz.prog 0 (inn (inn (lft (rgt (bod Tryz.f76))))) (g76LcuE0 j vb0_0 vb0_1 vb0_2) (g76LcuS0 vb0_0 vb0_1 vb0_2) (frameQ Tryz.prog 0 (FinQ Tryz.prog 0 Tryz.f76 (tmA r) [] 0) [.blk 0,.seq (rgt (rgt (bod Tryz.f76)))]))):=by
 intro qq
 induction qq with
 |zero=>
  exact fun _ _ _ _ h=>nn h
 |succ qq ih=>
  intro vb0_0 vb0_1 vb0_2 r h
  rw[e76Lcu]at h
  rcases spl h with⟨h1,h⟩|⟨h1,h⟩
  obtain⟨x2,h3,h⟩:=obind h
  exact fun j=>lH 2 [] [0,1] [] [1,2] (oD (dT ([]:List Tm))<|oD (dT x2.sub)<|oA 1 (ix23 (o:=.no) h3)<|oB 1 h1 o0) (ih _ _ _ _ h)
  obtain rfl:=sj h
  exact fun j=>lF 2 [] (oD (dT vb0_2)<|oB 1 h1 o0)
theorem c76{qq p0 r}(h:e76 qq p0=some r):K76 p0 r Ct:=by
 unfold e76 at h
 exact k76 (tH q76 0 [] [0,1] [] [1,2] (oD (dT ([]:List Tm))<|oD (dT p0.sub) o0) (l76Lcu _ _ _ _ _ h))
def e78:Nat->Tm->Option (List Tm)
 |0,_=>none
 |qq+1,p0=>
 if p0.k != 5 then
 some []
 else
 gidx p0.sub 0>>=fun x2=>
 e78 qq x2>>=fun r4=>
 gidx p0.sub 1>>=fun x6=>
 gapp 40 r4 [x6]>>=fun l8=>
 some l8
abbrev K78 (p0:Tm) (r:List Tm) (C:Cf):Prop:=C 78 [] [tmA p0] (slv tmCells r (.st 0 3)) [] 1
theorem q78:Qf 78 Tryz.f78:=⟨Tryz.func78,by kernel_rfl⟩
theorem k78{p0 r}(h:K78 p0 r Ci):K78 p0 r Ct:=⟨h,⟨⟨tv,tv,⟨tv,dT _⟩,tv⟩,tv⟩,forall_nil,dT _,forall_nil⟩
theorem a78:∀qq:Nat,(∀p0 r,e78 qq p0=some r->K78 p0 r Ct):=by
 intro qq
 induction qq with
 |zero=>
  exact fun _ _ h=>nn h
 |succ qq ih=>
  intro p0 r h
  rw[e78]at h
  rcases spl h with⟨h1,h⟩|⟨h1,h⟩
  obtain rfl:=sj h
  exact k78 (tG q78 1 [(none,2,3)] [] [0] true (oD (dT ([]:List Tm))<|oB 1 h1 o0))
  obtain⟨x2,h3,h⟩:=obind h
  obtain⟨r4,h5,h⟩:=obind h
  obtain⟨x6,h7,h⟩:=obind h
  obtain⟨l8,h9,h⟩:=obind h
  obtain rfl:=sj h
  exact k78 (tG q78 0 [] [] [1] true (oD (dT l8)<|oP 0 (apS23 h9 (by simp))<|oS 1 (obLitR tm_eq [x6])<|oA 1 (ix23 (o:=.no) h7)<|oC 1 [] (ih _ _ h5)<|oA 1 (ix23 (o:=.no) h3)<|oB 1 h1 o0))
theorem c78{qq p0 r}(h:e78 qq p0=some r):K78 p0 r Ct:=a78 _ _ _ h
def e79Lcv:Nat->(List Tm)->Int->Int->(List Tm)->Option (List Tm)
 |0,_,_,_,_=>none
 |qq+1,v3,vb0_0,vb0_1,vb0_2=>
 if vb0_0==3 then
 gidx vb0_2 0>>=fun x2=>
 gapp 40 v3 [x2]>>=fun l4=>
 gidx vb0_2 1>>=fun x6=>
 e79Lcv qq l4 x6.k x6.n x6.sub
 else
 some v3
def e79(qq:Nat)(p0:Tm):Option (List Tm):=
 e79Lcv qq [] p0.k p0.n p0.sub
def g79LcvE0(j:Nat->Value)(v3:List Tm)(vb0_0 vb0_1:Int)(vb0_2:List Tm):=sp j 20 0 [(1,.mp 0 0),(3,slv tmCells v3 (.st 0 3))]
def g79LcvS0(v3:List Tm)(vb0_0 vb0_1:Int)(vb0_2:List Tm):LSt:=⟨[(0,.cells [ai vb0_0,ai vb0_1,slv tmCells vb0_2 .no])],1,[0],1,[]⟩
abbrev K79 (p0:Tm) (r:List Tm) (C:Cf):Prop:=C 79 [] [tmA p0] (.sl (flat tmCells r) (List.length r) .no) [] 0
theorem q79:Qf 79 Tryz.f79:=⟨Tryz.func79,by kernel_rfl⟩
theorem k79{p0 r}(h:K79 p0 r Ci):K79 p0 r Ct:=⟨h,⟨⟨tv,tv,⟨tv,dT _⟩,tv⟩,tv⟩,forall_nil,dT _,forall_nil⟩
theorem l79Lcv:∀qq:Nat,(∀v3 vb0_0 vb0_1 vb0_2 r,e79Lcv qq v3 vb0_0 vb0_1 vb0_2=some r->(∀j,Dl Tryz.prog 0 (inn (inn (lft (rgt (rgt (bod Tryz.f79)))))) (g79LcvE0 j v3 vb0_0 vb0_1 vb0_2) (g79LcvS0 v3 vb0_0 vb0_1 vb0_2) (frameQ Tryz.prog 0 (FinQ Tryz.prog 0 Tryz.f79 (.sl (flat tmCells r) (List.length r) .no) [] 0) [.blk 0,.seq (rgt (rgt (rgt (bod Tryz.f79))))]))):=by
 intro qq
 induction qq with
 |zero=>
  exact fun _ _ _ _ _ h=>nn h
 |succ qq ih=>
  intro v3 vb0_0 vb0_1 vb0_2 r h
  rw[e79Lcv]at h
  rcases spl h with⟨h1,h⟩|⟨h1,h⟩
  obtain⟨x2,h3,h⟩:=obind h
  obtain⟨l4,h5,h⟩:=obind h
  obtain⟨x6,h7,h⟩:=obind h
  exact fun j=>lH 2 [] [0] [1] [1,3] (oD (dT l4)<|oD (dT x6.sub)<|oA 1 (ix23 (o:=.no) h7)<|oP 0 (apS23 h5 (by simp))<|oS 1 (obLitR tm_eq [x2])<|oA 1 (ix23 (o:=.no) h3)<|oB 1 h1 o0) (ih _ _ _ _ _ h)
  obtain rfl:=sj h
  exact fun j=>lF 0 [] (oD (dT v3)<|oB 1 h1 o0)
theorem c79{qq p0 r}(h:e79 qq p0=some r):K79 p0 r Ct:=by
 unfold e79 at h
 exact k79 (tH q79 1 [(none,3,3)] [0] [0] [1,3] (oD (dT ([]:List Tm))<|oD (dT p0.sub) o0) (l79Lcv _ _ _ _ _ _ h))
def e86Lcw:Nat->Int->Int->(List Tm)->Option (Tm)
 |0,_,_,_=>none
 |qq+1,vb0_0,vb0_1,vb0_2=>
 if vb0_0==3 then
 gidx vb0_2 1>>=fun x2=>
 e86Lcw qq x2.k x2.n x2.sub
 else
 some (Tm.mk vb0_0 vb0_1 vb0_2)
def e86(qq:Nat)(p0:Tm):Option (Tm):=
 e86Lcw qq p0.k p0.n p0.sub
def g86LcwE0(j:Nat->Value)(vb0_0 vb0_1:Int)(vb0_2:List Tm):=sp j 11 0 [(1,.mp 0 0),(2,.mp 1 0)]
def g86LcwS0(vb0_0 vb0_1:Int)(vb0_2:List Tm):LSt:=⟨[(0,.cells [ai vb0_0,ai vb0_1,slv tmCells vb0_2 .no]),(1,.cells [ai 0,ai 0,slv tmCells ([]:List Tm) .nl])],2,[],0,[]⟩
abbrev K86 (p0 r:Tm) (C:Cf):Prop:=C 86 [] [tmA p0] (tmA r) [] 0
theorem q86:Qf 86 Tryz.f86:=⟨Tryz.func86,by kernel_rfl⟩
theorem k86{p0 r}(h:K86 p0 r Ci):K86 p0 r Ct:=⟨h,⟨⟨tv,tv,⟨tv,dT _⟩,tv⟩,tv⟩,forall_nil,⟨tv,tv,dT _,tv⟩,forall_nil⟩
theorem l86Lcw:∀qq:Nat,(∀vb0_0 vb0_1 vb0_2 r,e86Lcw qq vb0_0 vb0_1 vb0_2=some r->(∀j,Dl Tryz.prog 0 (inn (inn (lft (rgt (bod Tryz.f86))))) (g86LcwE0 j vb0_0 vb0_1 vb0_2) (g86LcwS0 vb0_0 vb0_1 vb0_2) (frameQ Tryz.prog 0 (FinQ Tryz.prog 0 Tryz.f86 (tmA r) [] 0) [.blk 0,.seq (rgt (rgt (bod Tryz.f86)))]))):=by
 intro qq
 induction qq with
 |zero=>
  exact fun _ _ _ _ h=>nn h
 |succ qq ih=>
  intro vb0_0 vb0_1 vb0_2 r h
  rw[e86Lcw]at h
  rcases spl h with⟨h1,h⟩|⟨h1,h⟩
  obtain⟨x2,h3,h⟩:=obind h
  exact fun j=>lH 2 [] [0,1] [] [1,2] (oD (dT ([]:List Tm))<|oD (dT x2.sub)<|oA 1 (ix23 (o:=.no) h3)<|oB 1 h1 o0) (ih _ _ _ _ h)
  obtain rfl:=sj h
  exact fun j=>lF 2 [] (oD (dT vb0_2)<|oB 1 h1 o0)
theorem c86{qq p0 r}(h:e86 qq p0=some r):K86 p0 r Ct:=by
 unfold e86 at h
 exact k86 (tH q86 0 [] [0,1] [] [1,2] (oD (dT ([]:List Tm))<|oD (dT p0.sub) o0) (l86Lcw _ _ _ _ _ h))
def e87Lcx:Nat->Int->Int->(List Tm)->Int->Option (Bool)
 |0,_,_,_,_=>none
 |qq+1,p2,p4,r1,v13=>
 if decide (v13<p2)then
 gidx r1 v13>>=fun x9=>
 if x9.k != 1 then
 some false
 else
 if x9.n != (w64 ((w64 (p4-1))-v13))then
 some false
 else
 e87Lcx qq p2 p4 r1 (w64 (v13+1))
 else
 some true
def e87(qq:Nat)(p0:Tm)(p1 p2 p3 p4:Int):Option (Bool):=
 e78 qq p0>>=fun r1=>
 e76 qq p0>>=fun r3=>
 if r3.k != 6 then
 some false
 else
 if r3.n != p1 then
 some false
 else
 if (List.length r1:Int) != (w64 (p2+p3))then
 some false
 else
 e87Lcx qq p2 p4 r1 0
def g87LcxE0(j:Nat->Value)(p2 p4:Int)(r1:List Tm)(v13:Int):=sp j 58 0 [(2,ai p2),(4,ai p4),(11,slv tmCells r1 (.st 0 3)),(13,ai v13)]
def g87LcxS0(p2 p4:Int)(r1:List Tm)(v13:Int):LSt:=⟨[],0,[0],1,[]⟩
abbrev K87 (p0:Tm) (p1 p2 p3 p4:Int) (r:Bool) (C:Cf):Prop:=C 87 [] [tmA p0,ai p1,ai p2,ai p3,ai p4] (ab r) [] 0
theorem q87:Qf 87 Tryz.f87:=⟨Tryz.func87,by kernel_rfl⟩
theorem k87{p0 p1 p2 p3 p4 r}(h:K87 p0 p1 p2 p3 p4 r Ci):K87 p0 p1 p2 p3 p4 r Ct:=⟨h,⟨⟨tv,tv,⟨tv,dT _⟩,tv⟩,tv,tv,tv,tv,tv⟩,forall_nil,tv,forall_nil⟩
theorem l87Lcx:∀qq:Nat,(∀p2 p4 r1 v13 r,e87Lcx qq p2 p4 r1 v13=some r->(∀j,Dl Tryz.prog 0 (inn (inn (rgt (lft (rgt (rgt (rgt (rgt (bod Tryz.f87))))))))) (g87LcxE0 j p2 p4 r1 v13) (g87LcxS0 p2 p4 r1 v13) (frameQ Tryz.prog 0 (FinQ Tryz.prog 0 Tryz.f87 (ab r) [] 0) [.blk 0,.seq (rgt (rgt (rgt (rgt (rgt (bod Tryz.f87))))))]))):=by
 intro qq
 induction qq with
 |zero=>
  exact fun _ _ _ _ _ h=>nn h
 |succ qq ih=>
  intro p2 p4 r1 v13 r h
  rw[e87Lcx]at h
  rcases spl h with⟨h8,h⟩|⟨h8,h⟩
  obtain⟨x9,h10,h⟩:=obind h
  have k:=oA 0 (ix23 (o:=(.st 0 3)) h10)<|oB 0 h8 o0
  rcases spl h with⟨h11,h⟩|⟨h11,h⟩
  obtain rfl:=sj h
  exact fun j=>lF 0 [] (oB 1 h11 k)
  have k:=oA 0 (ix23 (o:=(.st 0 3)) h10)<|oB 1 h11 k
  rcases spl h with⟨h12,h⟩|⟨h12,h⟩
  obtain rfl:=sj h
  exact fun j=>lF 0 [] (oB 3 h12 k)
  exact fun j=>lH 1 [] [] [0] [2,4,11,13] (oD (dT r1)<|oB 3 h12 k) (ih _ _ _ _ _ h)
  obtain rfl:=sj h
  exact fun j=>lF 0 [] (oB 0 h8 o0)
theorem c87{qq p0 p1 p2 p3 p4 r}(h:e87 qq p0 p1 p2 p3 p4=some r):K87 p0 p1 p2 p3 p4 r Ct:=by
 unfold e87 at h
 obtain⟨r1,h2,h⟩:=obind h
 obtain⟨r3,h4,h⟩:=obind h
 have k:=oC 1 [] (c76 h4)<|oC 1 [] (c78 h2) o0
 rcases spl h with⟨h5,h⟩|⟨h5,h⟩
 obtain rfl:=sj h
 exact k87 (tF q87 0 [] (oB 2 h5 k))
 have k:=oB 2 h5 k
 rcases spl h with⟨h6,h⟩|⟨h6,h⟩
 obtain rfl:=sj h
 exact k87 (tF q87 0 [] (oB 1 h6 k))
 have k:=oB 1 h6 k
 rcases spl h with⟨h7,h⟩|⟨h7,h⟩
 obtain rfl:=sj h
 exact k87 (tF q87 0 [] (oB 2 h7 k))
 exact k87 (tH q87 0 [] [] [0] [2,4,11,13] (oD (dT r1)<|oB 2 h7 k) (l87Lcx _ _ _ _ _ _ h))
def Dc(f:Nat->Option Bool)(P:Prop):Prop:=∃b,Evt f b∧(b=true↔P)
section
variable {f g:Nat->Option Bool} {P Q:Prop} {α:Type}
theorem Dc.ret{b:Bool}(h:b=true↔P):Dc (fun _=>some b) P:=⟨b,Evt.ret,h⟩
theorem Dc.yes(h:P):Dc (fun _=>some true) P:=⟨true,Evt.ret,⟨fun _=>h,fun _=>rfl⟩⟩
theorem Dc.no(h:¬P):Dc (fun _=>some false) P:=⟨false,Evt.ret,⟨fun e=>(by cases e),fun e=>absurd e h⟩⟩
theorem Dc.ite{c:Bool}(h:c=true->Dc f P)(k:c=false->Dc g P):Dc (fun q=>if c=true then f q else g q) P:=by
 cases c with
 |true=>obtain⟨b,h1,h2⟩:=h rfl;exact⟨b,Evt.ifT rfl h1,h2⟩
 |false=>obtain⟨b,h1,h2⟩:=k rfl;exact⟨b,Evt.ifF rfl h1,h2⟩
theorem Dc.evt{x:Nat->Option α}{a:α}{c:Nat->α->Option Bool}(h:Evt x a)(k:Dc (fun q=>c q a) P):Dc (fun q=>x q>>=c q) P:=by
 obtain⟨b,h1,h2⟩:=k;exact⟨b,h.bind h1,h2⟩
theorem Dc.pure{x:Option α}{a:α}{c:Nat->α->Option Bool}(h:x=some a)(k:Dc (fun q=>c q a) P):Dc (fun q=>x>>=c q) P:=by
 obtain⟨b,h1,h2⟩:=k;exact⟨b,Evt.pure h h1,h2⟩
theorem Dc.bind{x:Nat->Option Bool}{c:Nat->Bool->Option Bool}(h:Dc x Q)(k:Q->Dc (fun q=>c q true) P)(k':¬Q->Dc (fun q=>c q false) P):Dc (fun q=>x q>>=c q) P:=by
 obtain⟨b,h1,h2⟩:=h
 cases b with
 |true=>exact Dc.evt h1 (k (h2.1 rfl))
 |false=>exact Dc.evt h1 (k' fun e=>by have:=h2.2 e;cases this)
theorem Dc.succ(h:Dc (fun q=>f (q+1)) P):Dc f P:=by obtain⟨b,h1,h2⟩:=h;exact⟨b,h1.succ,h2⟩
theorem Dc.iff(h:Dc f P)(k:P↔Q):Dc f Q:=by obtain⟨b,h1,h2⟩:=h;exact⟨b,h1,h2.trans k⟩
theorem Dc.of{b:Bool}(h:Evt f b):Dc f (b=true):=⟨b,h,Iff.rfl⟩
end
theorem tel_spec{t:Tm}(hg:goodT t=true):∃l y,splT (pisT t) t=some (l,y)∧l.length=pisT t∧y.k≠3∧goodT y=true∧y.nodes≤t.nodes∧y.high≤t.high∧∀x∈l,goodT x=true∧x.nodes≤t.nodes∧x.high≤t.high:=by
 obtain⟨r,hr⟩:=splT_all t hg _ (Nat.le_refl _)
 obtain⟨h1,h2,h3,h4⟩:=splT_spec _ t r hg hr
 refine⟨r.1,r.2,hr,h1,fun h=>?_,h3.1,h3.2.1,h3.2.2,h4⟩
 obtain⟨a,b,hx,-,-⟩:=pi_form h3.1 h
 rw[hx,pisT_pi]at h2
 omega
theorem ev_TeleL:∀(n:Nat) (t:Tm) (l:List Tm) (y:Tm) (acc:List Tm),goodT t=true->splT n t=some (l,y)->y.k≠3->acc.length+n≤100000->Evt (fun q=>e79Lcv q acc t.k t.n t.sub) (acc++l)
 |0,t,l,y,acc,_,h,hk,_=>by
  rw[splT]at h;cases h
  refine Evt.succ ?_
  simp only[e79Lcv]
  exact Evt.ifF (by simpa using hk) (Evt.ret.eq (by simp))
 |n+1,t,l,y,acc,hg,h,hk,hl=>by
  by_cases h3:t.k=3
  ·obtain⟨a,b,hx,hga,hgb⟩:=pi_form hg h3
   rw[hx,splT_pi]at h
   obtain⟨r',h1,h2⟩:=Option.map_eq_some_iff.1 h
   cases h2
   refine Evt.succ ?_
   simp only[e79Lcv]
   have hs:t.sub=[a,b]:=by rw[hx];rfl
   rw[hs]
   refine Evt.ifT (by simp[h3]) (Evt.pure (a:=a) rfl (Evt.pure (gapp_ok (by simp;omega)) (Evt.pure (a:=b) rfl ?_)))
   exact(ev_TeleL n b r'.1 r'.2 (acc++[a]) hgb h1 hk (by simp;omega)).eq (by simp)
  ·rw[splT_not h3]at h;cases h
theorem pis_le:∀(n:Nat) (t:Tm),t.nodes≤n->pisT t≤n
 |0,t,h=>by have:=nodes_pos t;omega
 |n+1,t,h=>by
  unfold pisT
  split
  ·rename_i k m a b
   rw[Tm.nodes,nodesL,nodesL,nodesL]at h
   have:=nodes_pos a
   split
   ·have:=pis_le n b (by omega);omega
   ·omega
  ·omega
theorem ev_Tele{t:Tm}(hg:goodT t=true)(hn:t.nodes≤8192){l:List Tm}{y:Tm}(h:splT (pisT t) t=some (l,y))(hk:y.k≠3):Evt (fun q=>e79 q t) l:=by
 simp only[e79]
 have:=pis_le t.nodes t (Nat.le_refl _)
 exact(ev_TeleL (pisT t) t l y [] hg h hk (by simp;omega)).eq (by simp)
theorem ev_Bene:∀(n:Nat) (t:Tm) (l:List Tm) (y:Tm),goodT t=true->splT n t=some (l,y)->y.k≠3->Evt (fun q=>e86Lcw q t.k t.n t.sub) y
 |0,t,l,y,_,h,hk=>by
  rw[splT]at h;cases h
  refine Evt.succ ?_
  simp only[e86Lcw]
  exact Evt.ifF (by simpa using hk) (Evt.ret.eq (tm_eta _))
 |n+1,t,l,y,hg,h,hk=>by
  by_cases h3:t.k=3
  ·obtain⟨a,b,hx,hga,hgb⟩:=pi_form hg h3
   rw[hx,splT_pi]at h
   obtain⟨r',h1,h2⟩:=Option.map_eq_some_iff.1 h
   cases h2
   refine Evt.succ ?_
   simp only[e86Lcw]
   have hs:t.sub=[a,b]:=by rw[hx];rfl
   rw[hs]
   exact Evt.ifT (by simp[h3]) (Evt.pure (a:=b) rfl (ev_Bene n b r'.1 r'.2 hgb h1 hk))
  ·rw[splT_not h3]at h;cases h
theorem app_form{t:Tm}(hg:goodT t=true)(h:t.k=5):∃a b,t = .mk 5 t.n [a,b]∧goodT a=true∧goodT b=true:=by
 obtain⟨k,n,l⟩:=t
 have hh:=goodT_mk hg
 replace h:k=5:=h
 subst h
 obtain⟨a,b,rfl⟩:=sub2 ((head_spec hh.1).2.2.2.2.2.1 (.inr (.inr rfl))).1
 have hc:=goodL_cons hh.2
 exact⟨a,b,rfl,hc.1,(goodL_cons hc.2).1⟩
theorem ar_le:∀(n:Nat) (t:Tm),goodT t=true->t.nodes≤n->(arT t).length≤n
 |0,t,_,h=>by have:=nodes_pos t;omega
 |n+1,t,hg,h=>by
  by_cases h5:t.k=5
  ·obtain⟨a,b,hx,hga,-⟩:=app_form hg h5
   rw[hx]at h ⊢
   rw[Tm.nodes,nodesL,nodesL,nodesL]at h
   rw[arT_app,List.length_append]
   have:=ar_le n a hga (by omega)
   have:=nodes_pos b
   simp;omega
  ·rw[arT_not h5];simp
theorem ev_rArgs:∀(n:Nat) (t:Tm),goodT t=true->t.nodes≤n->n≤8192->Evt (fun q=>e78 q t) (arT t)
 |0,t,_,h,_=>by have:=nodes_pos t;omega
 |n+1,t,hg,h,hn=>by
  refine Evt.succ ?_
  simp only[e78]
  by_cases h5:t.k=5
  ·obtain⟨a,b,hx,hga,-⟩:=app_form hg h5
   have hs:t.sub=[a,b]:=by rw[hx];rfl
   have hnn:=nodes_sub t
   rw[hs,nodesL,nodesL,nodesL]at hnn
   have:=nodes_pos b
   rw[hs]
   have hle:=ar_le n a hga (by omega)
   refine Evt.ifF (by simp[h5]) (Evt.pure (a:=a) rfl ((ev_rArgs n a hga (by omega) (by omega)).bind (Evt.pure (a:=b) rfl (Evt.pure (gapp_ok (by simp;omega)) (Evt.ret.eq ?_)))))
   rw[hx,arT_app]
  ·exact Evt.ifT (by simpa using h5) (Evt.ret.eq (arT_not h5).symm)
theorem ev_rHeadL:∀(n:Nat) (t:Tm),goodT t=true->t.nodes≤n->Evt (fun q=>e76Lcu q t.k t.n t.sub) (hdT t)
 |0,t,_,h=>by have:=nodes_pos t;omega
 |n+1,t,hg,h=>by
  refine Evt.succ ?_
  simp only[e76Lcu]
  by_cases h5:t.k=5
  ·obtain⟨a,b,hx,hga,-⟩:=app_form hg h5
   have hs:t.sub=[a,b]:=by rw[hx];rfl
   have hnn:=nodes_sub t
   rw[hs,nodesL,nodesL,nodesL]at hnn
   rw[hs]
   refine Evt.ifT (by simp[h5]) (Evt.pure (a:=a) rfl ((ev_rHeadL n a hga (by omega)).eq ?_))
   rw[hx,hdT_app]
  ·exact Evt.ifF (by simpa using h5) (Evt.ret.eq (by rw[hdT_not h5,tm_eta]))
theorem dc_appliedL(P:Nat)(binders:Int)(args:List Tm)(hP:P≤args.length)(hP2:P≤24)(hb:-1048576≤binders∧binders≤1048576):∀(m v:Nat),v+m=P->Dc (fun q=>e87Lcx q (P:Int) binders args (v:Int)) (varsD ((args.take P).drop v) (binders-1-v)=true)
 |0,v,hm=>by
  refine Dc.succ ?_
  simp only[e87Lcx]
  refine Dc.ite (fun h=>absurd (of_decide_eq_true h) (by omega)) fun _=>Dc.yes ?_
  rw[List.drop_eq_nil_of_le (by rw[List.length_take];omega)];rfl
 |m+1,v,hm=>by
  have hlt:v<args.length:=by omega
  have hd:(args.take P).drop v=args[v]::(args.take P).drop (v+1):=by
   have h2:v<(args.take P).length:=by rw[List.length_take];omega
   rw[List.drop_eq_getElem_cons h2];simp
  refine Dc.succ ?_
  simp only[e87Lcx]
  have hg:gidx args (v:Int)=some args[v]:=by unfold gidx;rw[if_pos (by omega),Int.toNat_natCast];exact List.getElem?_eq_getElem hlt
  rw[hd]
  refine Dc.ite (fun _=>Dc.pure hg (Dc.ite (fun h=>Dc.no ?_) fun h=>?_)) fun h=>absurd (of_decide_eq_false h) (by omega)
  ·rw[varsD];simp only[bne_iff_ne,ne_eq]at h;simp[h]
  ·have hk:args[v].k=1:=by simpa using h
   rw[w64_id (x:=binders-1) (by omega) (by omega),w64_id (x:=binders-1-v) (by omega) (by omega)]
   refine Dc.ite (fun h=>Dc.no ?_) fun h=>?_
   ·rw[varsD];simp only[bne_iff_ne,ne_eq]at h;simp[h]
   ·have hn:args[v].n=binders-1-v:=by simpa using h
    rw[w64_nat v (by omega)]
    refine(dc_appliedL P binders args hP hP2 hb m (v+1) (by omega)).iff ?_
    rw[varsD,hk,hn]
    simp only[beq_self_eq_true,Bool.true_and]
    rw[show binders-1-((v+1:Nat):Int)=binders-1-v-1 by omega]
theorem dc_applied(t:Tm)(of pars more binders:Int)(hg:goodT t=true)(hn:t.nodes≤8192)(h0:0≤pars∧pars≤24)(h1:0≤more∧more≤24)(hb:-1048576≤binders∧binders≤1048576):Dc (fun q=>e87 q t of pars more binders) (appliedT t of pars more binders=true):=by
 have hH:Evt (fun q=>e76 q t) (hdT t):=by simp only[e76];exact ev_rHeadL t.nodes t hg (Nat.le_refl _)
 simp only[e87]
 unfold appliedT
 refine Dc.evt (ev_rArgs t.nodes t hg (Nat.le_refl _) hn) (Dc.evt hH (Dc.ite (fun h=>Dc.no ?_) fun h=>Dc.ite (fun k=>Dc.no ?_) fun k=>?_))
 ·simp only[bne_iff_ne,ne_eq]at h;simp[h]
 ·simp only[bne_iff_ne,ne_eq]at k;simp[k]
 ·rw[w64_id (by omega) (by omega)]
  refine Dc.ite (fun j=>Dc.no ?_) fun j=>?_
  ·simp only[bne_iff_ne,ne_eq]at j;simp[j]
  ·have h':(hdT t).k=6:=by simpa using h
   have k':(hdT t).n=of:=by simpa using k
   have j':((arT t).length:Int)=pars+more:=by simpa using j
   have:=dc_appliedL pars.toNat binders (arT t) (by omega) (by omega) hb pars.toNat 0 (by omega)
   rw[show ((pars.toNat:Nat):Int)=pars by omega]at this
   refine this.iff ?_
   simp[h',k',j']
def RFam(l:List Ent)(i:Int):Prop:=famA (ent l i)=true∧famB (ent l i)=true∧famC l i (ent l i)=true∧((ent l i).fields.length=0∨((ent l i).inds=0∧(ent l i).cons.length=1∧runT (ent l i).fields (i+2)=true∧memT l i 4 (ent l i).fields 0=true∧shapedT (ent l (i+1)).type=true∧(pisT (ent l (i+1)).type:Int)=(ent l i).pars+(ent l i).fields.length))
def REnt(N:ByteArray->Bool)(l:List Ent)(i:Int):Prop:=N (ent l i).name=true∧closedT' (ent l i).type i=true∧(((ent l i).kind=1∧RFam l i)∨((ent l i).kind=2∧conT l i=true)∨((ent l i).kind=4∧projT l i=true)∨((ent l i).kind=3∧defT l i=true))
theorem ev_rIs(l:List Ent)(n kind:Int):Evt (fun q=>e77 q l n kind) (isT l n kind):=by
 simp only[e77]
 unfold isT
 by_cases h0:0≤n
 ·refine Evt.ifT (decide_eq_true h0) ?_
  by_cases h1:n<l.length
  ·exact Evt.ifT (decide_eq_true h1) (Evt.pure (gidx_ent h0 h1) (Evt.ret.eq (by simp[h0,h1])))
  ·exact Evt.ifF (decide_eq_false h1) (Evt.ret.eq (by simp[h1]))
 ·exact Evt.ifF (decide_eq_false h0) (Evt.ret.eq (by simp[h0]))
theorem ev_rzero(t:Tm):Evt (fun q=>e207 q t) (noneT t):=by
 simp only[e207]
 unfold noneT
 by_cases h0:t.k=0
 ·refine Evt.ifT (by simp[h0]) ?_
  by_cases h1:t.n=0
  ·exact Evt.ifT (by simp[h1]) (Evt.ret.eq (by simp[h0,h1]))
  ·exact Evt.ifF (by simp[h1]) (Evt.ret.eq (by simp[h1]))
 ·exact Evt.ifF (by simp[h0]) (Evt.ret.eq (by simp[h0]))
theorem dc_row(l:List Ent)(p:List Int)(f of kind:Int)(hf:0≤f∧f≤1048576)(hl:l.length≤65535)(hp:p.length≤1152921504606846976):∀(r:List Int) (v:Nat),p.drop v=r->Dc (fun q=>e209Lct q l p f of kind (v:Int)) (runT r (f+v)=true∧memT l of kind r v=true)
 | [],v,hd=>by
  refine Dc.succ ?_
  simp only[e209Lct]
  refine Dc.ite (fun h=>?_) fun _=>Dc.yes ⟨rfl,rfl⟩
  rw[drop_nil hd]at h;cases h
 |n::r,v,hd=>by
  have hlt:=drop_lt hd
  refine Dc.succ ?_
  simp only[e209Lct]
  rw[w64_id (x:=f+v) (by omega) (by omega)]
  refine Dc.ite (fun _=>Dc.pure (drop_idx hd) (Dc.ite (fun h=>Dc.no fun⟨a,_⟩=>?_) fun h=>?_)) fun h=>?_
  ·rw[runT]at a;simp only[Bool.and_eq_true,beq_iff_eq]at a;simp[a.1]at h
  ·have hn:n=f+v:=by simpa using h
   refine Dc.bind (Dc.of (ev_rIs l n kind)) (fun hi=>?_) fun hi=>Dc.ite (fun h=>(by cases h)) fun _=>Dc.no fun⟨_,a⟩=>?_
   ·have hs:=isT_spec hi
    refine Dc.ite (fun _=>Dc.pure (gidx_ent hs.1 hs.2.1) (Dc.ite (fun h=>Dc.no fun⟨_,a⟩=>?_) fun h=>Dc.ite (fun h=>Dc.no fun⟨_,a⟩=>?_) fun h2=>?_)) fun h=>(by cases h)
    ·rw[memT]at a;simp only[Bool.and_eq_true,beq_iff_eq]at a;simp[a.1.1.2]at h
    ·rw[memT]at a;simp only[Bool.and_eq_true,beq_iff_eq]at a;simp[a.1.2]at h
    ·rw[w64_nat v (by omega)]
     refine(dc_row l p f of kind hf hl hp r (v+1) (drop_next hd)).iff ?_
     have h3:(ent l n).fam=of:=by simpa using h
     have h4:(ent l n).place=v:=by simpa using h2
     rw[runT,memT,hi,h3,h4]
     simp only[beq_self_eq_true,Bool.true_and,Bool.and_eq_true,beq_iff_eq]
     rw[show f+((v+1:Nat):Int)=f+v+1 by omega,show ((v+1:Nat):Int)=(v:Int)+1 by omega]
     exact⟨fun⟨a,b⟩=>⟨⟨hn,a⟩,b⟩,fun⟨⟨_,a⟩,b⟩=>⟨a,b⟩⟩
   ·rw[memT]at a;simp only[Bool.and_eq_true]at a;exact hi a.1.1.1
  ·rw[drop_dec hd]at h;cases h
theorem ev_rSplitL(N:Nat)(hN:N≤24):∀(m v:Nat) (acc:List Tm) (x:Tm),v+m=N->goodT x=true->acc.length≤v->Evt (fun q=>e208Lcs q (N:Int) acc (v:Int) x.k x.n x.sub) (splR acc (splT m x)):=by
 intro m
 induction m with
 |zero=>
  intro v acc x hm hg ha
  refine Evt.succ ?_
  simp only[e208Lcs]
  refine Evt.ifF (decide_eq_false (by omega)) (Evt.ret.eq ?_)
  rw[splT,splR,tm_eta];simp
 |succ m ih=>
  intro v acc x hm hg ha
  refine Evt.succ ?_
  simp only[e208Lcs]
  refine Evt.ifT (decide_eq_true (by omega)) ?_
  by_cases h:x.k=3
  ·obtain⟨a,b,hx,hga,hgb⟩:=pi_form hg h
   refine Evt.ifF (by simp[h]) ?_
   have hs:x.sub=[a,b]:=by rw[hx];rfl
   rw[hs]
   refine Evt.pure (a:=a) rfl (Evt.pure (gapp_ok (by simp<;>omega)) (Evt.pure (a:=b) rfl ?_))
   rw[w64_nat v (by omega)]
   refine(ih (v+1) (acc++[a]) b (by omega) hgb (by simp<;>omega)).eq ?_
   rw[hx,splT_pi]
   cases splT m b<;>simp[splR]
  ·rw[splT_not h,splR]
   exact Evt.ifT (by simp[h]) Evt.ret
theorem ev_rSplit(t:Tm)(n:Int)(ho:t.Ok):Evt (fun q=>e208 q t n) (splitT t n):=by
 simp only[e208]
 unfold splitT
 refine(ev_rShaped t ho).bind ?_
 by_cases hs:shapedT t=true
 ·refine Evt.ifT hs ?_
  rw[if_pos hs]
  by_cases h0:n<0
  ·rw[if_pos h0];exact Evt.ifT (decide_eq_true h0) Evt.ret
  ·rw[if_neg h0]
   refine Evt.ifF (decide_eq_false h0) ?_
   by_cases h1:n>24
   ·rw[if_pos h1];exact Evt.ifT (decide_eq_true h1) Evt.ret
   ·rw[if_neg h1]
    refine Evt.ifF (decide_eq_false h1) ?_
    have:=ev_rSplitL n.toNat (by omega) n.toNat 0 [] t (by omega) (shapedT_spec hs).2.2 (by simp)
    rwa[show ((n.toNat:Nat):Int)=n by omega]at this
 ·rw[if_neg hs];exact Evt.ifF (by simpa using hs) Evt.ret
def e141(qq:Nat)(p0:List Ent)(p1:Int):Option (Bool):=
 gidx p0 p1>>=fun x1=>
 if decide (x1.pars<0)then
 some false
 else
 if decide (x1.inds<0)then
 some false
 else
 if decide (x1.pars>24)then
 some false
 else
 if decide (x1.inds>24)then
 some false
 else
 if decide ((w64 (x1.pars+x1.inds))>24)then
 some false
 else
 if x1.fam != 0 then
 some false
 else
 if x1.place != 0 then
 some false
 else
 e207 qq x1.body>>=fun r10=>
 if r10 then
 e208 qq x1.type (w64 (x1.pars+x1.inds))>>=fun r13=>
 if r13.2.2 != 0 then
 some false
 else
 if r13.2.1.k != 2 then
 some false
 else
 if r13.2.1.n != x1.level then
 some false
 else
 if decide ((List.length x1.cons:Int)>16)then
 some false
 else
 e209 qq p0 x1.cons (w64 (p1+1)) p1 2>>=fun r19=>
 if r19 then
 if (List.length x1.fields:Int)==0 then
 some true
 else
 if x1.inds==0 then
 if (List.length x1.cons:Int)==1 then
 e209 qq p0 x1.fields (w64 (p1+2)) p1 4>>=fun r25=>
 if r25 then
 gidx p0 (w64 (p1+1))>>=fun x28=>
 e18 qq x28.type>>=fun r30=>
 if r30 then
 e79 qq x28.type>>=fun r33=>
 some ((List.length r33:Int)==(w64 (x1.pars+(List.length x1.fields:Int))))
 else
 some false
 else
 some false
 else
 some false
 else
 some false
 else
 some false
 else
 some false
abbrev K141 (p0:List Ent) (p1:Int) (r:Bool) (C:Cf):Prop:=C 141 [] [slv entL p0 .no,ai p1] (ab r) [] 0
theorem q141:Qf 141 Tryz.f141:=⟨Tryz.func141,by kernel_rfl⟩
theorem k141{p0 p1 r}(h:K141 p0 p1 r Ci):K141 p0 p1 r Ct:=⟨h,⟨⟨tv,dE _⟩,tv,tv⟩,forall_nil,tv,forall_nil⟩
theorem c141{qq p0 p1 r}(h:e141 qq p0 p1=some r):K141 p0 p1 r Ct:=by
 unfold e141 at h
 obtain⟨x1,h2,h⟩:=obind h
 have k:=oA 0 (ix22 (o:=.no) h2) o0
 rcases spl h with⟨h3,h⟩|⟨h3,h⟩
 obtain rfl:=sj h
 exact k141 (tF q141 0 [] (oB 3 h3 k))
 have k:=oB 3 h3 k
 rcases spl h with⟨h4,h⟩|⟨h4,h⟩
 obtain rfl:=sj h
 exact k141 (tF q141 0 [] (oB 1 h4 k))
 have k:=oB 1 h4 k
 rcases spl h with⟨h5,h⟩|⟨h5,h⟩
 obtain rfl:=sj h
 exact k141 (tF q141 0 [] (oB 1 h5 k))
 have k:=oB 1 h5 k
 rcases spl h with⟨h6,h⟩|⟨h6,h⟩
 obtain rfl:=sj h
 exact k141 (tF q141 0 [] (oB 1 h6 k))
 have k:=oB 1 h6 k
 rcases spl h with⟨h7,h⟩|⟨h7,h⟩
 obtain rfl:=sj h
 exact k141 (tF q141 0 [] (oB 3 h7 k))
 have k:=oB 3 h7 k
 rcases spl h with⟨h8,h⟩|⟨h8,h⟩
 obtain rfl:=sj h
 exact k141 (tF q141 0 [] (oB 1 h8 k))
 have k:=oB 1 h8 k
 rcases spl h with⟨h9,h⟩|⟨h9,h⟩
 obtain rfl:=sj h
 exact k141 (tF q141 0 [] (oB 1 h9 k))
 obtain⟨r10,h11,h⟩:=obind h
 have k:=oB 1 h9 k
 rcases spl h with⟨h12,h⟩|⟨h12,h⟩
 obtain⟨r13,h14,h⟩:=obind h
 have k:=oC 5 [] (c208 h14)<|oK 1 [] h12 (c207 h11) k
 rcases spl h with⟨h15,h⟩|⟨h15,h⟩
 obtain rfl:=sj h
 exact k141 (tF q141 0 [] (oB 4 h15 k))
 have k:=oB 4 h15 k
 rcases spl h with⟨h16,h⟩|⟨h16,h⟩
 obtain rfl:=sj h
 exact k141 (tF q141 0 [] (oB 1 h16 k))
 have k:=oB 1 h16 k
 rcases spl h with⟨h17,h⟩|⟨h17,h⟩
 obtain rfl:=sj h
 exact k141 (tF q141 0 [] (oB 2 h17 k))
 have k:=oB 2 h17 k
 rcases spl h with⟨h18,h⟩|⟨h18,h⟩
 obtain rfl:=sj h
 exact k141 (tF q141 0 [] (oB 2 h18 k))
 obtain⟨r19,h20,h⟩:=obind h
 have k:=oB 2 h18 k
 rcases spl h with⟨h21,h⟩|⟨h21,h⟩
 have k:=oK 2 [] h21 (c209 h20) k
 rcases spl h with⟨h22,h⟩|⟨h22,h⟩
 obtain rfl:=sj h
 exact k141 (tF q141 0 [] (oB 3 h22 k))
 have k:=oB 3 h22 k
 rcases spl h with⟨h23,h⟩|⟨h23,h⟩
 have k:=oB 1 h23 k
 rcases spl h with⟨h24,h⟩|⟨h24,h⟩
 obtain⟨r25,h26,h⟩:=obind h
 have k:=oB 2 h24 k
 rcases spl h with⟨h27,h⟩|⟨h27,h⟩
 obtain⟨x28,h29,h⟩:=obind h
 obtain⟨r30,h31,h⟩:=obind h
 have k:=oA 1 (ix22 (o:=.no) h29)<|oK 2 [] h27 (c209 h26) k
 rcases spl h with⟨h32,h⟩|⟨h32,h⟩
 obtain⟨r33,h34,h⟩:=obind h
 obtain rfl:=sj h
 exact k141 (tF q141 6 [] (oC 1 [] (c79 h34)<|oA 1 (ix22 (o:=.no) h29)<|oK 1 [] h32 (c18 h31) k))
 obtain rfl:=sj h
 exact k141 (tF q141 0 [] (oK 1 [] h32 (c18 h31) k))
 obtain rfl:=sj h
 exact k141 (tF q141 0 [] (oK 2 [] h27 (c209 h26) k))
 obtain rfl:=sj h
 exact k141 (tF q141 0 [] (oB 2 h24 k))
 obtain rfl:=sj h
 exact k141 (tF q141 0 [] (oB 1 h23 k))
 obtain rfl:=sj h
 exact k141 (tF q141 1 [] (oK 2 [] h21 (c209 h20) k))
 obtain rfl:=sj h
 exact k141 (tF q141 1 [] (oK 1 [] h12 (c207 h11) k))
def e142Lcy:Nat->Int->Ent->(List Int)->Int->Option (Bool)
 |0,_,_,_,_=>none
 |qq+1,p1,x1,v6,v7=>
 if decide (v7<(List.length v6:Int))then
 gidx v6 v7>>=fun x19=>
 if x19==p1 then
 if x1.place==v7 then
 some true
 else
 e142Lcy qq p1 x1 v6 (w64 (v7+1))
 else
 e142Lcy qq p1 x1 v6 (w64 (v7+1))
 else
 some false
def e142(qq:Nat)(p0:List Ent)(p1:Int):Option (Bool):=
 gidx p0 p1>>=fun x1=>
 e77 qq p0 x1.fam 1>>=fun r3=>
 if r3 then
 if decide (x1.fam≥p1)then
 some false
 else
 e207 qq x1.body>>=fun r7=>
 if r7 then
 if x1.inds != 0 then
 some false
 else
 if x1.level != 0 then
 some false
 else
 if (List.length x1.cons:Int) != 0 then
 some false
 else
 if (List.length x1.fields:Int) != 0 then
 some false
 else
 gidx p0 x1.fam>>=fun x14=>
 if x1.pars != x14.pars then
 some false
 else
 if x1.kind==4 then
 e142Lcy qq p1 x1 x14.fields 0
 else
 e142Lcy qq p1 x1 x14.cons 0
 else
 some false
 else
 some false
def g142LcyE0(j:Nat->Value)(p1:Int)(x1:Ent)(v6:List Int)(v7:Int):=sp j 95 0 [(1,ai p1),(5,.mp 0 0),(6,slv intC v6 .no),(7,ai v7)]
def g142LcyS0(p1:Int)(x1:Ent)(v6:List Int)(v7:Int):LSt:=⟨[(0,.cells [ai x1.kind,at' x1.name,ai x1.type.k,ai x1.type.n,slv tmCells x1.type.sub .no,ai x1.body.k,ai x1.body.n,slv tmCells x1.body.sub .no,ai x1.fam,ai x1.place,ai x1.pars,ai x1.inds,ai x1.level,slv intC x1.cons .no,slv intC x1.fields .no])],1,[],0,[]⟩
abbrev K142 (p0:List Ent) (p1:Int) (r:Bool) (C:Cf):Prop:=C 142 [] [slv entL p0 .no,ai p1] (ab r) [] 0
theorem q142:Qf 142 Tryz.f142:=⟨Tryz.func142,by kernel_rfl⟩
theorem k142{p0 p1 r}(h:K142 p0 p1 r Ci):K142 p0 p1 r Ct:=⟨h,⟨⟨tv,dE _⟩,tv,tv⟩,forall_nil,tv,forall_nil⟩
theorem l142Lcy:∀qq:Nat,(∀p1 x1 v6 v7 r,e142Lcy qq p1 x1 v6 v7=some r->(∀j,Dl Tryz.prog 0 (inn (inn (rgt (lft (rgt (rgt (rgt (rgt (rgt (bod Tryz.f142)))))))))) (g142LcyE0 j p1 x1 v6 v7) (g142LcyS0 p1 x1 v6 v7) (frameQ Tryz.prog 0 (FinQ Tryz.prog 0 Tryz.f142 (ab r) [] 0) [.blk 0,.seq (rgt (rgt (rgt (rgt (rgt (rgt (bod Tryz.f142)))))))]))):=by
 intro qq
 induction qq with
 |zero=>
  exact fun _ _ _ _ _ h=>nn h
 |succ qq ih=>
  intro p1 x1 v6 v7 r h
  rw[e142Lcy]at h
  rcases spl h with⟨h18,h⟩|⟨h18,h⟩
  obtain⟨x19,h20,h⟩:=obind h
  have k:=oA 0 (ix41 (o:=.no) h20)<|oB 1 h18 o0
  rcases spl h with⟨h21,h⟩|⟨h21,h⟩
  have k:=oB 1 h21 k
  rcases spl h with⟨h22,h⟩|⟨h22,h⟩
  obtain rfl:=sj h
  exact fun j=>lF 0 [] (oB 1 h22 k)
  exact fun j=>lH 1 [] [0] [] [1,5,6,7] (oD (dI v6)<|oD (dI x1.fields)<|oD (dI x1.cons)<|oD (dT x1.body.sub)<|oD (dT x1.type.sub)<|oB 1 h22 k) (ih _ _ _ _ _ h)
  exact fun j=>lH 1 [] [0] [] [1,5,6,7] (oD (dI v6)<|oD (dI x1.fields)<|oD (dI x1.cons)<|oD (dT x1.body.sub)<|oD (dT x1.type.sub)<|oB 1 h21 k) (ih _ _ _ _ _ h)
  obtain rfl:=sj h
  exact fun j=>lF 0 [] (oB 1 h18 o0)
theorem c142{qq p0 p1 r}(h:e142 qq p0 p1=some r):K142 p0 p1 r Ct:=by
 unfold e142 at h
 obtain⟨x1,h2,h⟩:=obind h
 obtain⟨r3,h4,h⟩:=obind h
 have k:=oA 0 (ix22 (o:=.no) h2) o0
 rcases spl h with⟨h5,h⟩|⟨h5,h⟩
 have k:=oK 3 [] h5 (c77 h4) k
 rcases spl h with⟨h6,h⟩|⟨h6,h⟩
 obtain rfl:=sj h
 exact k142 (tF q142 0 [] (oB 2 h6 k))
 obtain⟨r7,h8,h⟩:=obind h
 have k:=oB 2 h6 k
 rcases spl h with⟨h9,h⟩|⟨h9,h⟩
 have k:=oK 1 [] h9 (c207 h8) k
 rcases spl h with⟨h10,h⟩|⟨h10,h⟩
 obtain rfl:=sj h
 exact k142 (tF q142 0 [] (oB 2 h10 k))
 have k:=oB 2 h10 k
 rcases spl h with⟨h11,h⟩|⟨h11,h⟩
 obtain rfl:=sj h
 exact k142 (tF q142 0 [] (oB 1 h11 k))
 have k:=oB 1 h11 k
 rcases spl h with⟨h12,h⟩|⟨h12,h⟩
 obtain rfl:=sj h
 exact k142 (tF q142 0 [] (oB 2 h12 k))
 have k:=oB 2 h12 k
 rcases spl h with⟨h13,h⟩|⟨h13,h⟩
 obtain rfl:=sj h
 exact k142 (tF q142 0 [] (oB 2 h13 k))
 obtain⟨x14,h15,h⟩:=obind h
 have k:=oA 2 (ix22 (o:=.no) h15)<|oB 2 h13 k
 rcases spl h with⟨h16,h⟩|⟨h16,h⟩
 obtain rfl:=sj h
 exact k142 (tF q142 0 [] (oB 1 h16 k))
 have k:=oA 1 (ix22 (o:=.no) h15)<|oB 1 h16 k
 rcases spl h with⟨h17,h⟩|⟨h17,h⟩
 exact k142 (tH q142 1 [] [0] [] [1,5,6,7] (oD (dI x14.fields)<|oD (dI x1.fields)<|oD (dI x1.cons)<|oD (dT x1.body.sub)<|oD (dT x1.type.sub)<|oA 1 (ix22 (o:=.no) h15)<|oB 2 h17 k) (l142Lcy _ _ _ _ _ _ h))
 exact k142 (tH q142 0 [] [0] [] [1,5,6,7] (oD (dI x14.cons)<|oD (dI x1.fields)<|oD (dI x1.cons)<|oD (dT x1.body.sub)<|oD (dT x1.type.sub)<|oB 2 h17 k) (l142Lcy _ _ _ _ _ _ h))
 obtain rfl:=sj h
 exact k142 (tF q142 1 [] (oK 1 [] h9 (c207 h8) k))
 obtain rfl:=sj h
 exact k142 (tF q142 1 [] (oK 3 [] h5 (c77 h4) k))
theorem rfam_spec{l:List Ent}{i:Int}(h:RFam l i):0≤(ent l i).pars∧0≤(ent l i).inds∧(ent l i).pars+(ent l i).inds≤24:=by
 have h1:=h.1
 unfold famA at h1
 simp only[Bool.and_eq_true,decide_eq_true_eq]at h1
 exact⟨by omega,by omega,by omega⟩
theorem dc_rfamily(l:List Ent)(i:Int)(h0:0≤i)(h1:i<l.length)(hl:l.length≤65535)(he:∀e∈l,EOk e):Dc (fun q=>e141 q l i) (RFam l i):=by
 have hx:=he _ (ent_mem h0 h1)
 simp only[e141]
 refine Dc.pure (gidx_ent h0 h1) ?_
 have no:(famA (ent l i)=false∨famB (ent l i)=false∨famC l i (ent l i)=false)->¬RFam l i:=fun h k=>by
  rcases h with h|h|h
  ·rw[k.1]at h;cases h
  ·rw[k.2.1]at h;cases h
  ·rw[k.2.2.1]at h;cases h
 refine Dc.ite (fun a=>Dc.no (no (.inl ?_))) fun a1=>Dc.ite (fun a=>Dc.no (no (.inl ?_))) fun a2=>Dc.ite (fun a=>Dc.no (no (.inl ?_))) fun a3=>Dc.ite (fun a=>Dc.no (no (.inl ?_))) fun a4=>?_
 ·have:=of_decide_eq_true a;unfold famA;rw[decide_eq_false (by omega)];simp
 ·have:=of_decide_eq_true a;unfold famA;rw[decide_eq_false (p:=0≤(ent l i).inds) (by omega)];simp
 ·have:=of_decide_eq_true a;unfold famA;rw[decide_eq_false (p:=(ent l i).pars≤24) (by omega)];simp
 ·have:=of_decide_eq_true a;have:=of_decide_eq_false a1;unfold famA;rw[decide_eq_false (p:=(ent l i).inds≤24-(ent l i).pars) (by omega)];simp
 have a1:=of_decide_eq_false a1
 have a2:=of_decide_eq_false a2
 have a3:=of_decide_eq_false a3
 have a4:=of_decide_eq_false a4
 rw[w64_id (x:=(ent l i).pars+(ent l i).inds) (by omega) (by omega)]
 refine Dc.ite (fun a=>Dc.no (no (.inl ?_))) fun a5=>Dc.ite (fun a=>Dc.no (no (.inl ?_))) fun a6=>Dc.ite (fun a=>Dc.no (no (.inl ?_))) fun a7=>?_
 ·have:=of_decide_eq_true a;unfold famA;rw[decide_eq_false (p:=(ent l i).inds≤24-(ent l i).pars) (by omega)];simp
 ·have:(ent l i).fam≠0:=by simpa using a
  unfold famA;rw[beq_eq_false_iff_ne.2 this];simp
 ·have:(ent l i).place≠0:=by simpa using a
  unfold famA;rw[beq_eq_false_iff_ne.2 this];simp
 have a5:=of_decide_eq_false a5
 refine Dc.bind (Dc.of (ev_rzero _)) (fun a8=>?_) fun a8=>Dc.ite (fun h=>(by cases h)) fun _=>Dc.no (no (.inl ?_))
 case refine_2=>unfold famA;rw[show noneT (ent l i).body=false by simpa using a8];simp
 have hA:famA (ent l i)=true:=by
  unfold famA
  have b6:(ent l i).fam=0:=by simpa using a6
  have b7:(ent l i).place=0:=by simpa using a7
  simp only[Bool.and_eq_true,decide_eq_true_eq,beq_iff_eq]
  exact⟨⟨⟨⟨⟨⟨by omega,by omega⟩,by omega⟩,by omega⟩,b6⟩,b7⟩,a8⟩
 refine Dc.ite (fun _=>?_) fun h=>(by cases h)
 refine Dc.evt (ev_rSplit _ _ hx.1) (Dc.ite (fun a=>Dc.no (no (.inr (.inl ?_)))) fun b1=>Dc.ite (fun a=>Dc.no (no (.inr (.inl ?_)))) fun b2=>Dc.ite (fun a=>Dc.no (no (.inr (.inl ?_)))) fun b3=>Dc.ite (fun a=>Dc.no (no (.inr (.inr ?_)))) fun b4=>?_)
 ·unfold famB;rw[show ((splitT (ent l i).type ((ent l i).pars+(ent l i).inds)).2.2==0)=false by rw[beq_eq_false_iff_ne];simpa using a];simp
 ·unfold famB;rw[show ((splitT (ent l i).type ((ent l i).pars+(ent l i).inds)).2.1.k==2)=false by rw[beq_eq_false_iff_ne];simpa using a];simp
 ·unfold famB;rw[show ((splitT (ent l i).type ((ent l i).pars+(ent l i).inds)).2.1.n==(ent l i).level)=false by rw[beq_eq_false_iff_ne];simpa using a];simp
 ·have:=of_decide_eq_true a;unfold famC;rw[decide_eq_false (by omega)];simp
 have hB:famB (ent l i)=true:=by
  unfold famB
  simp only[Bool.and_eq_true,beq_iff_eq]
  exact⟨⟨by simpa using b1,by simpa using b2⟩,by simpa using b3⟩
 have b4:=of_decide_eq_false b4
 rw[w64_id (x:=i+1) (by omega) (by omega)]
 have hrow:=dc_row l (ent l i).cons (i+1) i 2 (by omega) hl hx.2.2.1 (ent l i).cons 0 rfl
 refine Dc.bind (Q:=runT (ent l i).cons (i+1)=true∧memT l i 2 (ent l i).cons 0=true) (by simp only[e209];exact hrow.iff (by simp)) (fun b5=>?_) fun b5=>Dc.ite (fun h=>(by cases h)) fun _=>Dc.no (no (.inr (.inr ?_)))
 case refine_2=>
  unfold famC
  cases r1:runT (ent l i).cons (i+1)with
  |false=>simp
  |true=>rw[show memT l i 2 (ent l i).cons 0=false by cases r2:memT l i 2 (ent l i).cons 0 with|false=>rfl|true=>exact absurd ⟨r1,r2⟩ b5];simp
 have hC:famC l i (ent l i)=true:=by
  unfold famC
  simp only[Bool.and_eq_true,decide_eq_true_eq]
  exact⟨⟨by omega,b5.1⟩,b5.2⟩
 refine Dc.ite (fun _=>?_) fun h=>(by cases h)
 refine Dc.ite (fun c1=>Dc.yes ⟨hA,hB,hC,.inl ?_⟩) fun c1=>?_
 ·have:((ent l i).fields.length:Int)=0:=by simpa using c1
  omega
 have c1':¬(ent l i).fields.length=0:=fun h=>by rw[h]at c1;simp at c1
 have no2:∀ {P:Prop},(P->False)->(RFam l i->P)->¬RFam l i:=fun h k m=>h (k m)
 have rest:RFam l i->(ent l i).inds=0∧(ent l i).cons.length=1∧runT (ent l i).fields (i+2)=true∧memT l i 4 (ent l i).fields 0=true∧shapedT (ent l (i+1)).type=true∧(pisT (ent l (i+1)).type:Int)=(ent l i).pars+(ent l i).fields.length:=fun h=>h.2.2.2.resolve_left c1'
 refine Dc.ite (fun c2=>?_) fun c2=>Dc.no fun h=>?_
 case refine_2=>have:=(rest h).1;rw[this]at c2;simp at c2
 have c2':(ent l i).inds=0:=by simpa using c2
 refine Dc.ite (fun c3=>?_) fun c3=>Dc.no fun h=>?_
 case refine_2=>have:=(rest h).2.1;rw[this]at c3;simp at c3
 have c3':(ent l i).cons.length=1:=by have:((ent l i).cons.length:Int)=1:=(by simpa using c3);omega
 rw[w64_id (x:=i+2) (by omega) (by omega)]
 have hrow2:=dc_row l (ent l i).fields (i+2) i 4 (by omega) hl hx.2.2.2 (ent l i).fields 0 rfl
 refine Dc.bind (Q:=runT (ent l i).fields (i+2)=true∧memT l i 4 (ent l i).fields 0=true) (by simp only[e209];exact hrow2.iff (by simp)) (fun c4=>?_) fun c4=>Dc.ite (fun h=>(by cases h)) fun _=>Dc.no fun h=>c4 ⟨(rest h).2.2.1,(rest h).2.2.2.1⟩
 refine Dc.ite (fun _=>?_) fun h=>(by cases h)
 have hnext:i+1<l.length:=by
  have h5:=b5
  obtain⟨n,hn⟩:∃n,(ent l i).cons=[n]:=by
   rcases hc:(ent l i).cons with _|⟨n,_|⟨m,r⟩⟩
   ·rw[hc]at c3';simp at c3'
   ·exact⟨n,rfl⟩
   ·rw[hc]at c3';simp at c3'
  rw[hn,runT,memT]at h5
  simp only[Bool.and_eq_true,beq_iff_eq]at h5
  have:=isT_spec h5.2.1.1.1
  omega
 have hx1:=he _ (ent_mem (l:=l) (n:=i+1) (by omega) hnext)
 refine Dc.pure (gidx_ent (by omega) hnext) (Dc.bind (Dc.of (ev_rShaped _ hx1.1)) (fun c5=>?_) fun c5=>Dc.ite (fun h=>(by cases h)) fun _=>Dc.no fun h=>c5 (rest h).2.2.2.2.1)
 refine Dc.ite (fun _=>?_) fun h=>(by cases h)
 have hsp:=shapedT_spec c5
 obtain⟨L,y,hs,hL,hk,-⟩:=tel_spec hsp.2.2
 refine Dc.evt (ev_Tele hsp.2.2 hsp.1 hs hk) (Dc.ret ?_)
 have hw:w64 ((ent l i).pars+((ent l i).fields.length:Int))=(ent l i).pars+(ent l i).fields.length:=w64_id (by have:=hx.2.2.2;omega) (by have:=hx.2.2.2;omega)
 rw[hw,beq_iff_eq,hL]
 exact⟨fun h=>⟨hA,hB,hC,.inr ⟨c2',c3',c4.1,c4.2,c5,h⟩⟩,fun h=>(rest h).2.2.2.2.2⟩
theorem dc_ownedL(i p:Int)(L:List Int)(x:Ent)(hp:x.place=p)(hl:L.length≤1152921504606846976):∀(r:List Int) (v:Nat),L.drop v=r->Dc (fun q=>e142Lcy q i x L (v:Int)) (∃k:Nat,v≤k∧∃h:k<L.length,L[k]=i∧p=k)
 | [],v,hd=>by
  refine Dc.succ ?_
  simp only[e142Lcy]
  refine Dc.ite (fun h=>?_) fun _=>Dc.no fun⟨k,h1,h2,_⟩=>?_
  ·rw[drop_nil hd]at h;cases h
  ·have:=List.drop_eq_nil_iff.1 hd;omega
 |n::r,v,hd=>by
  have hlt:=drop_lt hd
  have hx:L[v]=n:=by
   have:=drop_idx hd
   unfold gidx at this
   rw[if_pos (by omega),Int.toNat_natCast,List.getElem?_eq_getElem hlt]at this
   exact Option.some.inj this
  have next:=dc_ownedL i p L x hp hl r (v+1) (drop_next hd)
  have go:¬(n=i∧p=v)->((∃k:Nat,v+1≤k∧∃h:k<L.length,L[k]=i∧p=k) ↔ ∃k:Nat,v≤k∧∃h:k<L.length,L[k]=i∧p=k):=fun hn=>⟨fun⟨k,a,b,c⟩=>⟨k,by omega,b,c⟩,fun⟨k,a,b,c,d⟩=>by
   by_cases e:k=v
   ·subst e;exact absurd ⟨by rw[←hx];exact c,d⟩ hn
   ·exact⟨k,by omega,b,c,d⟩⟩
  refine Dc.succ ?_
  simp only[e142Lcy]
  rw[w64_nat v (by omega)]
  refine Dc.ite (fun _=>Dc.pure (drop_idx hd) (Dc.ite (fun h=>Dc.ite (fun k=>Dc.yes ?_) fun k=>next.iff (go fun e=>?_)) fun h=>next.iff (go fun e=>?_))) fun h=>?_
  ·have h':n=i:=by simpa using h
   have k':x.place=v:=by simpa using k
   exact⟨v,Nat.le_refl _,hlt,by rw[hx,h'],by omega⟩
  ·have:x.place=v:=by omega
   rw[this]at k;simp at k
  ·rw[e.1]at h;simp at h
  ·rw[drop_dec hd]at h;cases h
theorem dc_rowned(l:List Ent)(i:Int)(h0:0≤i)(h1:i<l.length)(he:∀e∈l,EOk e)(hk:(ent l i).kind=2∨(ent l i).kind=4):Dc (fun q=>e142 q l i) (ownedT l i=true):=by
 have hx:=he _ (ent_mem h0 h1)
 simp only[e142]
 refine Dc.pure (gidx_ent h0 h1) ?_
 have need:ownedT l i=true->isT l (ent l i).fam 1=true∧(ent l i).fam<i∧(ent l i).pars=(ent l (ent l i).fam).pars∧noneT (ent l i).body=true∧(ent l i).inds=0∧(ent l i).level=0∧(ent l i).cons.length=0∧(ent l i).fields.length=0:=fun h=>by
  unfold ownedT ownA at h
  simp only[Bool.and_eq_true,decide_eq_true_eq,beq_iff_eq]at h
  exact⟨h.1.1.1.1.1.1.1.1,h.1.1.1.1.1.1.1.2,h.1.1.1.1.1.1.2,h.1.1.1.1.1.2,h.1.1.1.1.2,h.1.1.1.2,h.1.1.2,h.1.2⟩
 refine Dc.bind (Dc.of (ev_rIs l _ 1)) (fun a1=>?_) fun a1=>Dc.ite (fun h=>(by cases h)) fun _=>Dc.no fun h=>a1 (need h).1
 have hi:=isT_spec a1
 refine Dc.ite (fun _=>?_) fun h=>(by cases h)
 refine Dc.ite (fun a=>Dc.no fun h=>?_) fun a2=>?_
 ·have:=of_decide_eq_true a;have:=(need h).2.1;omega
 refine Dc.bind (Dc.of (ev_rzero _)) (fun a3=>?_) fun a3=>Dc.ite (fun h=>(by cases h)) fun _=>Dc.no fun h=>a3 (need h).2.2.2.1
 refine Dc.ite (fun _=>?_) fun h=>(by cases h)
 refine Dc.ite (fun a=>Dc.no fun h=>?_) fun a4=>Dc.ite (fun a=>Dc.no fun h=>?_) fun a5=>Dc.ite (fun a=>Dc.no fun h=>?_) fun a6=>Dc.ite (fun a=>Dc.no fun h=>?_) fun a7=>Dc.pure (gidx_ent hi.1 hi.2.1) (Dc.ite (fun a=>Dc.no fun h=>?_) fun a8=>?_)
 ·rw[(need h).2.2.2.2.1]at a;simp at a
 ·rw[(need h).2.2.2.2.2.1]at a;simp at a
 ·rw[(need h).2.2.2.2.2.2.1]at a;simp at a
 ·rw[(need h).2.2.2.2.2.2.2]at a;simp at a
 ·rw[(need h).2.2.1]at a;simp at a
 have hA:ownA l i (ent l i)=true:=by
  unfold ownA
  have b6:((ent l i).cons.length:Int)=0:=by simpa using a6
  have b7:((ent l i).fields.length:Int)=0:=by simpa using a7
  simp only[Bool.and_eq_true,decide_eq_true_eq,beq_iff_eq]
  exact⟨⟨⟨⟨⟨⟨⟨a1,by have:=of_decide_eq_false a2;omega⟩,by simpa using a8⟩,a3⟩,by simpa using a4⟩,by simpa using a5⟩,by omega⟩,by omega⟩
 have hf:=he _ (ent_mem hi.1 hi.2.1)
 have hB:∀L:List Int,L=ownL l (ent l i)->L.length≤1152921504606846976->Dc (fun q=>e142Lcy q i (ent l i) L 0) (ownedT l i=true):=fun L hL hl=>by
  refine(dc_ownedL i (ent l i).place L (ent l i) rfl hl L 0 rfl).iff ?_
  unfold ownedT ownB
  rw[hA,←hL]
  simp only[Bool.true_and,Bool.and_eq_true,decide_eq_true_eq,beq_iff_eq]
  constructor
  ·rintro ⟨k,-,hk,h1,h2⟩
   rw[h2]
   refine⟨⟨by omega,by omega⟩,?_⟩
   rw[Int.toNat_natCast,List.getElem?_eq_getElem hk];exact h1
  ·rintro ⟨⟨g0,g1⟩,g2⟩
   have hk:(ent l i).place.toNat<L.length:=by omega
   refine⟨(ent l i).place.toNat,Nat.zero_le _,hk,?_,by omega⟩
   rw[List.getElem?_eq_getElem hk]at g2;exact g2
 refine Dc.ite (fun k=>?_) fun k=>?_
 ·have k':(ent l i).kind=4:=by simpa using k
  exact hB _ (by unfold ownL;rw[if_pos k']) hf.2.2.2
 ·have k':(ent l i).kind≠4:=by simpa using k
  exact hB _ (by unfold ownL;rw[if_neg k']) hf.2.2.1
def e74Lcz:Nat->(List Ent)->(List ByteArray)->Int->Option (List ByteArray)
 |0,_,_,_=>none
 |qq+1,p0,v3,v4=>
 if decide (v4<(List.length p0:Int))then
 gidx p0 v4>>=fun x2=>
 gapp 16 v3 [x2.name]>>=fun l4=>
 e74Lcz qq p0 l4 (w64 (v4+1))
 else
 some v3
def e74(qq:Nat)(p0:List Ent):Option (List ByteArray):=
 e74Lcz qq p0 [] 0
def g74LczE0(j:Nat->Value)(p0:List Ent)(v3:List ByteArray)(v4:Int):=sp j 21 0 [(0,slv entL p0 .no),(3,slv strC v3 (.st 0 1)),(4,ai v4)]
def g74LczS0(p0:List Ent)(v3:List ByteArray)(v4:Int):LSt:=⟨[],0,[0],1,[]⟩
abbrev K74 (p0:List Ent) (r:List ByteArray) (C:Cf):Prop:=C 74 [] [slv entL p0 .no] (.sl (flat strC r) (List.length r) .no) [] 0
theorem q74:Qf 74 Tryz.f74:=⟨Tryz.func74,by kernel_rfl⟩
theorem k74{p0 r}(h:K74 p0 r Ci):K74 p0 r Ct:=⟨h,⟨⟨tv,dE _⟩,tv⟩,forall_nil,dS _,forall_nil⟩
theorem l74Lcz:∀qq:Nat,(∀p0 v3 v4 r,e74Lcz qq p0 v3 v4=some r->(∀j,Dl Tryz.prog 0 (inn (inn (rgt (lft (rgt (rgt (bod Tryz.f74))))))) (g74LczE0 j p0 v3 v4) (g74LczS0 p0 v3 v4) (frameQ Tryz.prog 0 (FinQ Tryz.prog 0 Tryz.f74 (.sl (flat strC r) (List.length r) .no) [] 0) [.blk 0,.seq (rgt (rgt (rgt (bod Tryz.f74))))]))):=by
 intro qq
 induction qq with
 |zero=>
  exact fun _ _ _ _ h=>nn h
 |succ qq ih=>
  intro p0 v3 v4 r h
  rw[e74Lcz]at h
  rcases spl h with⟨h1,h⟩|⟨h1,h⟩
  obtain⟨x2,h3,h⟩:=obind h
  obtain⟨l4,h5,h⟩:=obind h
  exact fun j=>lH 1 [] [] [1] [0,3,4] (oD (dS l4)<|oD (dE p0)<|oP 2 (apS141 h5 (by simp))<|oA 0 (ix22 (o:=.no) h3)<|oB 1 h1 o0) (ih _ _ _ _ h)
  obtain rfl:=sj h
  exact fun j=>lF 0 [] (oD (dS v3)<|oB 1 h1 o0)
theorem c74{qq p0 r}(h:e74 qq p0=some r):K74 p0 r Ct:=by
 unfold e74 at h
 exact k74 (tH q74 1 [(none,3,1)] [] [0] [0,3,4] (oD (dS ([]:List ByteArray))<|oD (dE p0) o0) (l74Lcz _ _ _ _ _ h))
def e75(qq:Nat)(p0:List Ent)(p1:Int):Option (Bool):=
 gidx p0 p1>>=fun x1=>
 e140 qq x1.name>>=fun r3=>
 if r3 then
 e116 qq x1.type p1>>=fun r6=>
 if r6 then
 e79 qq x1.type>>=fun r9=>
 if x1.kind==1 then
 e141 qq p0 p1>>=fun r12=>
 some r12
 else
 if x1.kind==3 then
 e116 qq x1.body p1>>=fun r15=>
 if r15 then
 if x1.fam==0 then
 if x1.place==0 then
 if x1.pars==0 then
 if x1.inds==0 then
 if x1.level==0 then
 if (List.length x1.cons:Int)==0 then
 some ((List.length x1.fields:Int)==0)
 else
 some false
 else
 some false
 else
 some false
 else
 some false
 else
 some false
 else
 some false
 else
 some false
 else
 if x1.kind != 2 then
 if x1.kind != 4 then
 some false
 else
 e142 qq p0 p1>>=fun r26=>
 if r26 then
 if x1.kind==2 then
 if decide ((List.length r9:Int)≤24)then
 if decide ((List.length r9:Int)≥x1.pars)then
 e86 qq x1.type>>=fun r32=>
 gidx p0 x1.fam>>=fun x34=>
 e87 qq r32 x1.fam x1.pars x34.inds (List.length r9:Int)>>=fun r36=>
 some r36
 else
 some false
 else
 some false
 else
 if decide ((w64 (x1.pars+1))≤24)then
 if decide ((List.length r9:Int)≥(w64 (x1.pars+1)))then
 gidx r9 x1.pars>>=fun x40=>
 e87 qq x40 x1.fam x1.pars 0 x1.pars>>=fun r42=>
 some r42
 else
 some false
 else
 some false
 else
 some false
 else
 e142 qq p0 p1>>=fun r44=>
 if r44 then
 if x1.kind==2 then
 if decide ((List.length r9:Int)≤24)then
 if decide ((List.length r9:Int)≥x1.pars)then
 e86 qq x1.type>>=fun r50=>
 gidx p0 x1.fam>>=fun x52=>
 e87 qq r50 x1.fam x1.pars x52.inds (List.length r9:Int)>>=fun r54=>
 some r54
 else
 some false
 else
 some false
 else
 if decide ((w64 (x1.pars+1))≤24)then
 if decide ((List.length r9:Int)≥(w64 (x1.pars+1)))then
 gidx r9 x1.pars>>=fun x58=>
 e87 qq x58 x1.fam x1.pars 0 x1.pars>>=fun r60=>
 some r60
 else
 some false
 else
 some false
 else
 some false
 else
 some false
 else
 some false
abbrev K75 (p0:List Ent) (p1:Int) (r:Bool) (C:Cf):Prop:=C 75 [] [slv entL p0 .no,ai p1] (ab r) [] 0
theorem q75:Qf 75 Tryz.f75:=⟨Tryz.func75,by kernel_rfl⟩
theorem k75{p0 p1 r}(h:K75 p0 p1 r Ci):K75 p0 p1 r Ct:=⟨h,⟨⟨tv,dE _⟩,tv,tv⟩,forall_nil,tv,forall_nil⟩
theorem c75{qq p0 p1 r}(h:e75 qq p0 p1=some r):K75 p0 p1 r Ct:=by
 unfold e75 at h
 obtain⟨x1,h2,h⟩:=obind h
 obtain⟨r3,h4,h⟩:=obind h
 have k:=oA 0 (ix22 (o:=.no) h2) o0
 rcases spl h with⟨h5,h⟩|⟨h5,h⟩
 obtain⟨r6,h7,h⟩:=obind h
 have k:=oK 3 [] h5 (c140 h4) k
 rcases spl h with⟨h8,h⟩|⟨h8,h⟩
 obtain⟨r9,h10,h⟩:=obind h
 have k:=oC 2 [] (c79 h10)<|oK 2 [] h8 (c116 h7) k
 rcases spl h with⟨h11,h⟩|⟨h11,h⟩
 obtain⟨r12,h13,h⟩:=obind h
 obtain rfl:=sj h
 exact k75 (tF q75 0 [] (oC 0 [] (c141 h13)<|oB 2 h11 k))
 have k:=oB 2 h11 k
 rcases spl h with⟨h14,h⟩|⟨h14,h⟩
 obtain⟨r15,h16,h⟩:=obind h
 have k:=oB 1 h14 k
 rcases spl h with⟨h17,h⟩|⟨h17,h⟩
 have k:=oK 1 [] h17 (c116 h16) k
 rcases spl h with⟨h18,h⟩|⟨h18,h⟩
 have k:=oB 1 h18 k
 rcases spl h with⟨h19,h⟩|⟨h19,h⟩
 have k:=oB 1 h19 k
 rcases spl h with⟨h20,h⟩|⟨h20,h⟩
 have k:=oB 1 h20 k
 rcases spl h with⟨h21,h⟩|⟨h21,h⟩
 have k:=oB 1 h21 k
 rcases spl h with⟨h22,h⟩|⟨h22,h⟩
 have k:=oB 1 h22 k
 rcases spl h with⟨h23,h⟩|⟨h23,h⟩
 obtain rfl:=sj h
 exact k75 (tF q75 3 [] (oB 2 h23 k))
 obtain rfl:=sj h
 exact k75 (tF q75 0 [] (oB 2 h23 k))
 obtain rfl:=sj h
 exact k75 (tF q75 0 [] (oB 1 h22 k))
 obtain rfl:=sj h
 exact k75 (tF q75 0 [] (oB 1 h21 k))
 obtain rfl:=sj h
 exact k75 (tF q75 0 [] (oB 1 h20 k))
 obtain rfl:=sj h
 exact k75 (tF q75 0 [] (oB 1 h19 k))
 obtain rfl:=sj h
 exact k75 (tF q75 0 [] (oB 1 h18 k))
 obtain rfl:=sj h
 exact k75 (tF q75 0 [] (oK 1 [] h17 (c116 h16) k))
 have k:=oB 1 h14 k
 rcases spl h with⟨h24,h⟩|⟨h24,h⟩
 have k:=oB 1 h24 k
 rcases spl h with⟨h25,h⟩|⟨h25,h⟩
 obtain rfl:=sj h
 exact k75 (tF q75 0 [] (oB 1 h25 k))
 obtain⟨r26,h27,h⟩:=obind h
 have k:=oB 1 h25 k
 rcases spl h with⟨h28,h⟩|⟨h28,h⟩
 have k:=oK 0 [] h28 (c142 h27) k
 rcases spl h with⟨h29,h⟩|⟨h29,h⟩
 have k:=oB 2 h29 k
 rcases spl h with⟨h30,h⟩|⟨h30,h⟩
 have k:=oB 0 h30 k
 rcases spl h with⟨h31,h⟩|⟨h31,h⟩
 obtain⟨r32,h33,h⟩:=obind h
 obtain⟨x34,h35,h⟩:=obind h
 obtain⟨r36,h37,h⟩:=obind h
 obtain rfl:=sj h
 exact k75 (tF q75 0 [] (oC 1 [] (c87 h37)<|oA 3 (ix22 (o:=.no) h35)<|oC 1 [] (c86 h33)<|oB 1 h31 k))
 obtain rfl:=sj h
 exact k75 (tF q75 0 [] (oB 1 h31 k))
 obtain rfl:=sj h
 exact k75 (tF q75 0 [] (oB 0 h30 k))
 have k:=oB 2 h29 k
 rcases spl h with⟨h38,h⟩|⟨h38,h⟩
 have k:=oB 2 h38 k
 rcases spl h with⟨h39,h⟩|⟨h39,h⟩
 obtain⟨x40,h41,h⟩:=obind h
 obtain⟨r42,h43,h⟩:=obind h
 obtain rfl:=sj h
 exact k75 (tF q75 0 [] (oC 4 [] (c87 h43)<|oA 1 (ix23 (o:=.no) h41)<|oC 1 [] (c79 h10)<|oB 2 h39 k))
 obtain rfl:=sj h
 exact k75 (tF q75 0 [] (oB 2 h39 k))
 obtain rfl:=sj h
 exact k75 (tF q75 0 [] (oB 2 h38 k))
 obtain rfl:=sj h
 exact k75 (tF q75 1 [] (oK 0 [] h28 (c142 h27) k))
 obtain⟨r44,h45,h⟩:=obind h
 have k:=oB 1 h24 k
 rcases spl h with⟨h46,h⟩|⟨h46,h⟩
 have k:=oK 0 [] h46 (c142 h45) k
 rcases spl h with⟨h47,h⟩|⟨h47,h⟩
 have k:=oB 2 h47 k
 rcases spl h with⟨h48,h⟩|⟨h48,h⟩
 have k:=oB 0 h48 k
 rcases spl h with⟨h49,h⟩|⟨h49,h⟩
 obtain⟨r50,h51,h⟩:=obind h
 obtain⟨x52,h53,h⟩:=obind h
 obtain⟨r54,h55,h⟩:=obind h
 obtain rfl:=sj h
 exact k75 (tF q75 0 [] (oC 1 [] (c87 h55)<|oA 3 (ix22 (o:=.no) h53)<|oC 1 [] (c86 h51)<|oB 1 h49 k))
 obtain rfl:=sj h
 exact k75 (tF q75 0 [] (oB 1 h49 k))
 obtain rfl:=sj h
 exact k75 (tF q75 0 [] (oB 0 h48 k))
 have k:=oB 2 h47 k
 rcases spl h with⟨h56,h⟩|⟨h56,h⟩
 have k:=oB 2 h56 k
 rcases spl h with⟨h57,h⟩|⟨h57,h⟩
 obtain⟨x58,h59,h⟩:=obind h
 obtain⟨r60,h61,h⟩:=obind h
 obtain rfl:=sj h
 exact k75 (tF q75 0 [] (oC 4 [] (c87 h61)<|oA 1 (ix23 (o:=.no) h59)<|oC 1 [] (c79 h10)<|oB 2 h57 k))
 obtain rfl:=sj h
 exact k75 (tF q75 0 [] (oB 2 h57 k))
 obtain rfl:=sj h
 exact k75 (tF q75 0 [] (oB 2 h56 k))
 obtain rfl:=sj h
 exact k75 (tF q75 1 [] (oK 0 [] h46 (c142 h45) k))
 obtain rfl:=sj h
 exact k75 (tF q75 1 [] (oK 2 [] h8 (c116 h7) k))
 obtain rfl:=sj h
 exact k75 (tF q75 1 [] (oK 3 [] h5 (c140 h4) k))
def e23Lda:Nat->(List Ent)->Int->Option (Bool)
 |0,_,_=>none
 |qq+1,p0,v3=>
 if decide (v3<(List.length p0:Int))then
 e75 qq p0 v3>>=fun r8=>
 if r8 then
 e23Lda qq p0 (w64 (v3+1))
 else
 some false
 else
 some true
def e23(qq:Nat)(p0:List Ent):Option (Bool):=
 if decide ((List.length p0:Int)>256)then
 some false
 else
 e74 qq p0>>=fun r2=>
 e73 qq r2>>=fun r4=>
 if r4 then
 e23Lda qq p0 0
 else
 some false
def g23LdaE0(j:Nat->Value)(p0:List Ent)(v3:Int):=sp j 23 0 [(0,slv entL p0 .no),(3,ai v3)]
def g23LdaS0(p0:List Ent)(v3:Int):LSt:=⟨[],0,[],0,[]⟩
abbrev K23 (p0:List Ent) (r:Bool) (C:Cf):Prop:=C 23 [] [slv entL p0 .no] (ab r) [] 0
theorem q23:Qf 23 Tryz.f23:=⟨Tryz.func23,by kernel_rfl⟩
theorem k23{p0 r}(h:K23 p0 r Ci):K23 p0 r Ct:=⟨h,⟨⟨tv,dE _⟩,tv⟩,forall_nil,tv,forall_nil⟩
theorem l23Lda:∀qq:Nat,(∀p0 v3 r,e23Lda qq p0 v3=some r->(∀j,Dl Tryz.prog 0 (inn (inn (rgt (lft (rgt (rgt (bod Tryz.f23))))))) (g23LdaE0 j p0 v3) (g23LdaS0 p0 v3) (frameQ Tryz.prog 0 (FinQ Tryz.prog 0 Tryz.f23 (ab r) [] 0) [.blk 0,.seq (rgt (rgt (rgt (bod Tryz.f23))))]))):=by
 intro qq
 induction qq with
 |zero=>
  exact fun _ _ _ h=>nn h
 |succ qq ih=>
  intro p0 v3 r h
  rw[e23Lda]at h
  rcases spl h with⟨h7,h⟩|⟨h7,h⟩
  obtain⟨r8,h9,h⟩:=obind h
  have k:=oB 1 h7 o0
  rcases spl h with⟨h10,h⟩|⟨h10,h⟩
  exact fun j=>lH 2 [] [] [] [0,3] (oD (dE p0)<|oK 0 [] h10 (c75 h9) k) (ih _ _ _ h)
  obtain rfl:=sj h
  exact fun j=>lF 1 [] (oK 0 [] h10 (c75 h9) k)
  obtain rfl:=sj h
  exact fun j=>lF 0 [] (oB 1 h7 o0)
theorem c23{qq p0 r}(h:e23 qq p0=some r):K23 p0 r Ct:=by
 unfold e23 at h
 rcases spl h with⟨h1,h⟩|⟨h1,h⟩
 obtain rfl:=sj h
 exact k23 (tF q23 0 [] (oB 1 h1 o0))
 obtain⟨r2,h3,h⟩:=obind h
 obtain⟨r4,h5,h⟩:=obind h
 have k:=oC 0 [] (c74 h3)<|oB 1 h1 o0
 rcases spl h with⟨h6,h⟩|⟨h6,h⟩
 exact k23 (tH q23 1 [] [] [] [0,3] (oD (dE p0)<|oK 0 [] h6 (c73 h5) k) (l23Lda _ _ _ _ h))
 obtain rfl:=sj h
 exact k23 (tF q23 1 [] (oK 0 [] h6 (c73 h5) k))
def FamsR(l:List Ent)(i:Int):Prop:=∀j,0≤j->j<i->(ent l j).kind=1->RFam l j
theorem closed_sh{t:Tm}{n:Int}(h:closedT' t n=true):shapedT t=true:=by
 unfold closedT' rightT at h
 simp only[Bool.and_eq_true]at h
 exact h.1.1.1
theorem split_tel{t:Tm}(hs:shapedT t=true){L:List Tm}{y:Tm}(h:splT (pisT t) t=some (L,y))(hp:pisT t≤24):wholeT t=(L,y,0):=by
 unfold wholeT splitT
 rw[if_pos hs,if_neg (by omega),if_neg (by omega),show (((min (pisT t) 25:Nat):Int)).toNat=pisT t by omega,h]
 rfl
theorem whole_long{t:Tm}(hp:¬pisT t≤24):(wholeT t).2.2≠0:=by
 unfold wholeT splitT
 rw[show ((min (pisT t) 25:Nat):Int)=25 by omega]
 split
 ·rw[if_neg (by omega),if_pos (by omega)];decide
 ·decide
theorem splT_take:∀(n m:Nat) (t:Tm) (L:List Tm) (y:Tm),goodT t=true->splT n t=some (L,y)->m≤n->∃z,splT m t=some (L.take m,z)
 |_,0,t,L,y,_,h,_=>⟨t,by rw[splT];simp⟩
 |0,m+1,_,_,_,_,_,hm=>by omega
 |n+1,m+1,t,L,y,hg,h,hm=>by
  by_cases h3:t.k=3
  ·obtain⟨a,b,hx,hga,hgb⟩:=pi_form hg h3
   rw[hx,splT_pi]at h
   obtain⟨r',h1,h2⟩:=Option.map_eq_some_iff.1 h
   cases h2
   obtain⟨z,hz⟩:=splT_take n m b r'.1 r'.2 hgb h1 (by omega)
   exact⟨z,by rw[hx,splT_pi,hz];rfl⟩
  ·rw[splT_not h3]at h;cases h
theorem split_pos{t:Tm}(hs:shapedT t=true){L:List Tm}{y:Tm}(h:splT (pisT t) t=some (L,y)){n:Nat}(hn:n≤24):((splitT t n).2.2=0↔n≤pisT t)∧(n≤pisT t->(splitT t n).1=L.take n):=by
 have hg:=(shapedT_spec hs).2.2
 have e:splitT t (n:Int)=splR [] (splT n t):=by
  unfold splitT
  rw[if_pos hs,if_neg (by omega),if_neg (by omega),Int.toNat_natCast]
 rw[e]
 by_cases hp:n≤pisT t
 ·obtain⟨z,hz⟩:=splT_take (pisT t) n t L y hg h hp
  rw[hz]
  exact⟨⟨fun _=>hp,fun _=>rfl⟩,fun _=>by simp[splR]⟩
 ·have hno:splT n t=none:=by
   cases hx:splT n t with
   |none=>rfl
   |some r=>have:=(splT_spec n t r hg hx).2.1;omega
  rw[hno]
  exact⟨⟨fun h=>(by simp[splR]at h),fun h=>absurd h hp⟩,fun h=>absurd h hp⟩
theorem dc_rentry{N:ByteArray->Bool}(hN:NamesBy N)(l:List Ent)(i:Int)(h0:0≤i)(h1:i<l.length)(hl:l.length≤65535)(he:∀e∈l,EOk e)(hF:FamsR l i):Dc (fun q=>e75 q l i) (REnt N l i):=by
 have hx:=he _ (ent_mem h0 h1)
 simp only[e75]
 refine Dc.pure (gidx_ent h0 h1) (Dc.bind (Dc.of (ev_refName hN _)) (fun a1=>?_) fun a1=>Dc.ite (fun h=>(by cases h)) fun _=>Dc.no fun h=>a1 h.1)
 refine Dc.ite (fun _=>?_) fun h=>(by cases h)
 refine Dc.bind (Q:=closedT' (ent l i).type i=true) (Dc.of (ev_rClosed _ i hx.1)) (fun a2=>?_) fun a2=>Dc.ite (fun h=>(by cases h)) fun _=>Dc.no fun h=>a2 h.2.1
 refine Dc.ite (fun _=>?_) fun h=>(by cases h)
 have hs:=closed_sh a2
 have hsp:=shapedT_spec hs
 obtain⟨L,y,hL,hlen,hyk,hyg,hyn,-,hLg⟩:=tel_spec hsp.2.2
 have hpis:=pis_le (ent l i).type.nodes (ent l i).type (Nat.le_refl _)
 have hBene:Evt (fun q=>e86 q (ent l i).type) y:=by simp only[e86];exact ev_Bene _ _ L y hsp.2.2 hL hyk
 refine Dc.evt (ev_Tele hsp.2.2 hsp.1 hL hyk) ?_
 have only:∀ {P:Prop} (n:Int),(ent l i).kind=n->(n=1->(RFam l i↔P))->(n=2->(conT l i=true↔P))->(n=4->(projT l i=true↔P))->(n=3->(defT l i=true↔P))->(¬(n=1∨n=2∨n=3∨n=4)->(False↔P))->(P↔REnt N l i):=fun {P} n hn k1 k2 k4 k3 k0=>by
  unfold REnt
  rw[hn]
  by_cases e1:n=1
  ·rw[←k1 e1];exact⟨fun h=>⟨a1,a2,.inl ⟨e1,h⟩⟩,fun h=>by rcases h.2.2 with h|h|h|h<;>first|exact h.2 | (have:=h.1;omega)⟩
  ·by_cases e2:n=2
   ·rw[←k2 e2];exact⟨fun h=>⟨a1,a2,.inr (.inl ⟨e2,h⟩)⟩,fun h=>by rcases h.2.2 with h|h|h|h<;>first|exact h.2 | (have:=h.1;omega)⟩
   ·by_cases e4:n=4
    ·rw[←k4 e4];exact⟨fun h=>⟨a1,a2,.inr (.inr (.inl ⟨e4,h⟩))⟩,fun h=>by rcases h.2.2 with h|h|h|h<;>first|exact h.2 | (have:=h.1;omega)⟩
    ·by_cases e3:n=3
     ·rw[←k3 e3];exact⟨fun h=>⟨a1,a2,.inr (.inr (.inr ⟨e3,h⟩))⟩,fun h=>by rcases h.2.2 with h|h|h|h<;>first|exact h.2 | (have:=h.1;omega)⟩
     ·rw[←k0 (by omega)];exact⟨False.elim,fun h=>by rcases h.2.2 with h|h|h|h<;>(have:=h.1;omega)⟩
 refine Dc.ite (fun k1=>?_) fun k1=>?_
 ·have k1':(ent l i).kind=1:=by simpa using k1
  have:Dc (fun q=>e141 q l i>>=fun r12=>some r12) (RFam l i):=by
   obtain⟨b,hb,hb'⟩:=dc_rfamily l i h0 h1 hl he
   exact⟨b,hb.bind Evt.ret,hb'⟩
  exact this.iff (only 1 k1' (fun _=>Iff.rfl) (fun h=>by omega) (fun h=>by omega) (fun h=>by omega) (fun h=>absurd (.inl rfl) h))
 have k1':(ent l i).kind≠1:=by simpa using k1
 refine Dc.ite (fun k3=>?_) fun k3=>?_
 ·have k3':(ent l i).kind=3:=by simpa using k3
  have dfn:∀ {P:Prop},(P↔defT l i=true)->(P↔REnt N l i):=fun hP=>hP.trans (only 3 k3' (fun h=>by omega) (fun h=>by omega) (fun h=>by omega) (fun _=>Iff.rfl) (fun h=>absurd (.inr (.inr (.inl rfl))) h))
  have need:defT l i=true->closedT' (ent l i).body i=true∧(ent l i).fam=0∧(ent l i).place=0∧(ent l i).pars=0∧(ent l i).inds=0∧(ent l i).level=0∧(ent l i).cons.length=0∧(ent l i).fields.length=0:=fun h=>by
   unfold defT at h
   simp only[Bool.and_eq_true,decide_eq_true_eq,beq_iff_eq]at h
   exact h
  refine Dc.iff (P:=defT l i=true) ?_ (dfn Iff.rfl)
  refine Dc.bind (Q:=closedT' (ent l i).body i=true) (Dc.of (ev_rClosed _ i hx.2.1)) (fun b1=>?_) fun b1=>Dc.ite (fun h=>(by cases h)) fun _=>Dc.no fun h=>b1 (need h).1
  refine Dc.ite (fun _=>?_) fun h=>(by cases h)
  refine Dc.ite (fun b2=>Dc.ite (fun b3=>Dc.ite (fun b4=>Dc.ite (fun b5=>Dc.ite (fun b6=>Dc.ite (fun b7=>Dc.ret ?_) fun h=>Dc.no fun k=>?_) fun h=>Dc.no fun k=>?_) fun h=>Dc.no fun k=>?_) fun h=>Dc.no fun k=>?_) fun h=>Dc.no fun k=>?_) fun h=>Dc.no fun k=>?_
  ·rw[beq_iff_eq]
   unfold defT
   simp only[beq_iff_eq]at b2 b3 b4 b5 b6 b7
   simp only[Bool.and_eq_true,decide_eq_true_eq,beq_iff_eq]
   exact⟨fun h=>⟨b1,b2,b3,b4,b5,b6,by omega,by omega⟩,fun h=>by have:=h.2.2.2.2.2.2.2;omega⟩
  ·rw[(need k).2.2.2.2.2.2.1]at h;simp at h
  ·rw[(need k).2.2.2.2.2.1]at h;simp at h
  ·rw[(need k).2.2.2.2.1]at h;simp at h
  ·rw[(need k).2.2.2.1]at h;simp at h
  ·rw[(need k).2.2.1]at h;simp at h
  ·rw[(need k).2.1]at h;simp at h
 have k3':(ent l i).kind≠3:=by simpa using k3
 have tail:((ent l i).kind=2∨(ent l i).kind=4)->Dc (fun q=>e142 q l i>>=fun r44=>if r44=true then(if ((ent l i).kind==2)=true then(if decide ((List.length L:Int)≤24)=true then(if decide ((List.length L:Int)≥(ent l i).pars)=true then(e86 q (ent l i).type>>=fun r50=>gidx l (ent l i).fam>>=fun x52=>e87 q r50 (ent l i).fam (ent l i).pars x52.inds (List.length L:Int)>>=fun r54=>some r54)else some false)else some false)
   else(if decide ((w64 ((ent l i).pars+1))≤24)=true then(if decide ((List.length L:Int)≥(w64 ((ent l i).pars+1)))=true then(gidx L (ent l i).pars>>=fun x58=>e87 q x58 (ent l i).fam (ent l i).pars 0 (ent l i).pars>>=fun r60=>some r60)else some false)else some false))else some false) (REnt N l i):=fun h24=>by
  have hown:REnt N l i->ownedT l i=true:=fun h=>by
   rcases h.2.2 with h|h|h|h
   ·exact absurd h.1 k1'
   ·have:=h.2;unfold conT at this;simp only[Bool.and_eq_true]at this;exact this.1
   ·have:=h.2;unfold projT at this;simp only[Bool.and_eq_true]at this;exact this.1
   ·exact absurd h.1 k3'
  refine Dc.bind (dc_rowned l i h0 h1 he h24) (fun ho=>?_) fun ho=>Dc.ite (fun h=>(by cases h)) fun _=>Dc.no fun h=>ho (hown h)
  refine Dc.ite (fun _=>?_) fun h=>(by cases h)
  have how:=ownedT_spec ho
  have hfam:=rfam_spec (hF _ how.1 how.2.1 how.2.2.1)
  refine Dc.ite (fun e2=>?_) fun e2=>?_
  ·have e2':(ent l i).kind=2:=by simpa using e2
   refine Dc.iff (P:=conT l i=true) ?_ (only 2 e2' (fun h=>by omega) (fun _=>Iff.rfl) (fun h=>by omega) (fun h=>by omega) (fun h=>absurd (.inr (.inl rfl)) h))
   refine Dc.ite (fun c1=>?_) fun c1=>Dc.no fun h=>?_
   case refine_2=>
    have:=of_decide_eq_false c1
    have hw:=whole_long (t:=(ent l i).type) (by omega)
    unfold conT at h
    simp only[Bool.and_eq_true,beq_iff_eq]at h
    exact hw h.2.1
   have c1':=of_decide_eq_true c1
   have hw:=split_tel hs hL (by omega)
   have hcon:conT l i=true↔(ent l i).pars≤L.length∧appliedT y (ent l i).fam (ent l i).pars (ent l (ent l i).fam).inds L.length=true:=by
    unfold conT
    rw[hw,ho]
    simp
   refine Dc.iff ?_ hcon.symm
   refine Dc.ite (fun c2=>?_) fun c2=>Dc.no fun h=>?_
   case refine_2=>have:=of_decide_eq_false c2;have:=h.1;omega
   have c2':=of_decide_eq_true c2
   refine Dc.evt hBene (Dc.pure (gidx_ent how.1 (by omega)) ?_)
   obtain⟨b,hb,hb'⟩:=dc_applied y (ent l i).fam (ent l i).pars (ent l (ent l i).fam).inds L.length hyg (by omega) (by omega) (by omega) (by omega)
   exact⟨b,hb.bind Evt.ret,hb'.trans ⟨fun h=>⟨c2',h⟩,fun h=>h.2⟩⟩
  ·have e4':(ent l i).kind=4:=by have:(ent l i).kind≠2:=(by simpa using e2);omega
   refine Dc.iff (P:=projT l i=true) ?_ (only 4 e4' (fun h=>by omega) (fun h=>by omega) (fun _=>Iff.rfl) (fun h=>by omega) (fun h=>absurd (.inr (.inr (.inr rfl))) h))
   rw[w64_id (x:=(ent l i).pars+1) (by omega) (by omega)]
   obtain⟨p,hp⟩:=Int.eq_ofNat_of_zero_le (a:=(ent l i).pars) (by omega)
   have long:¬(ent l i).pars+1≤24->(splitT (ent l i).type ((ent l i).pars+1)).2.2≠0:=fun h=>by
    unfold splitT
    rw[if_pos hs,if_neg (by omega),if_pos (by omega)];decide
   have need:projT l i=true->(splitT (ent l i).type ((ent l i).pars+1)).2.2=0∧appliedT (nth (splitT (ent l i).type ((ent l i).pars+1)).1 (ent l i).pars) (ent l i).fam (ent l i).pars 0 (ent l i).pars=true:=fun h=>by
    unfold projT at h
    simp only[Bool.and_eq_true,beq_iff_eq]at h
    exact h.2
   refine Dc.ite (fun c1=>?_) fun c1=>Dc.no fun h=>long (by simpa using of_decide_eq_false c1) (need h).1
   have c1':=of_decide_eq_true c1
   have hsp2:=split_pos hs hL (n:=p+1) (by omega)
   rw[show ((p+1:Nat):Int)=(ent l i).pars+1 by omega]at hsp2
   refine Dc.ite (fun c2=>?_) fun c2=>Dc.no fun h=>?_
   case refine_2=>have:=of_decide_eq_false c2;have:=hsp2.1.1 (need h).1;omega
   have c2':=of_decide_eq_true c2
   have hpl:p<L.length:=by omega
   have hgx:gidx L (ent l i).pars=some L[p]:=by unfold gidx;rw[if_pos (by omega),hp,Int.toNat_natCast];exact List.getElem?_eq_getElem hpl
   have hnth:nth (splitT (ent l i).type ((ent l i).pars+1)).1 (ent l i).pars=L[p]:=by
    rw[hsp2.2 (by omega)]
    unfold nth
    rw[hp,Int.toNat_natCast,List.getElem?_take,if_pos (by omega),List.getElem?_eq_getElem hpl];rfl
   have hxg:=hLg L[p] (List.getElem_mem hpl)
   refine Dc.pure hgx ?_
   obtain⟨b,hb,hb'⟩:=dc_applied L[p] (ent l i).fam (ent l i).pars 0 (ent l i).pars hxg.1 (by omega) (by omega) (by omega) (by omega)
   refine⟨b,hb.bind Evt.ret,hb'.trans ?_⟩
   unfold projT
   rw[hnth,ho,hsp2.1.2 (by omega)]
   simp
 refine Dc.ite (fun k2=>?_) fun k2=>?_
 ·have k2':(ent l i).kind≠2:=by simpa using k2
  refine Dc.ite (fun k4=>Dc.no fun h=>?_) fun k4=>tail (.inr (by simpa using k4))
  have k4':(ent l i).kind≠4:=by simpa using k4
  rcases h.2.2 with h|h|h|h<;>(have:=h.1;omega)
 ·exact tail (.inl (by simpa using k2))
theorem dc_rFormedL{N:ByteArray->Bool}(hN:NamesBy N)(l:List Ent)(hl:l.length≤65535)(he:∀e∈l,EOk e):∀(m v:Nat),v+m=l.length->FamsR l v->Dc (fun q=>e23Lda q l (v:Int)) (∀j:Int,v≤j->j<l.length->REnt N l j)
 |0,v,hm,_=>by
  refine Dc.succ ?_
  simp only[e23Lda]
  exact Dc.ite (fun h=>absurd (of_decide_eq_true h) (by omega)) fun _=>Dc.yes fun j h0 h1=>by omega
 |m+1,v,hm,hF=>by
  refine Dc.succ ?_
  simp only[e23Lda]
  refine Dc.ite (fun _=>Dc.bind (dc_rentry hN l v (by omega) (by omega) hl he hF) (fun hr=>?_) fun hr=>Dc.ite (fun h=>(by cases h)) fun _=>Dc.no fun h=>hr (h v (Int.le_refl _) (by omega))) fun h=>absurd (of_decide_eq_false h) (by omega)
  refine Dc.ite (fun _=>?_) fun h=>(by cases h)
  rw[w64_nat v (by omega)]
  refine(dc_rFormedL hN l hl he m (v+1) (by omega) fun j h0 h1 hk=>?_).iff ⟨fun h j h0 h1=>?_,fun h j h0 h1=>h j (by omega) h1⟩
  ·by_cases e:j=v
   ·subst e
    rcases hr.2.2 with h|h|h|h
    ·exact h.2
    ·have:=h.1;omega
    ·have:=h.1;omega
    ·have:=h.1;omega
   ·exact hF j h0 (by omega) hk
  ·by_cases e:j=v
   ·subst e;exact hr
   ·exact h j (by omega) h1
theorem ev_rNamesL:∀(r l:List Ent) (v:Nat) (acc:List ByteArray),l.drop v=r->l.length≤65535->acc.length≤v->Evt (fun q=>e74Lcz q l acc (v:Int)) (acc++r.map Ent.name)
 | [],l,v,acc,hd,hl,ha=>by
  refine Evt.succ ?_
  simp only[e74Lcz]
  exact Evt.ifF (drop_nil hd) (Evt.ret.eq (by simp))
 |e::r,l,v,acc,hd,hl,ha=>by
  have hlt:=drop_lt hd
  refine Evt.succ ?_
  simp only[e74Lcz]
  refine Evt.ifT (drop_dec hd) (Evt.pure (drop_idx hd) (Evt.pure (gapp_ok (by simp<;>omega)) ?_))
  rw[w64_nat v (by omega)]
  exact(ev_rNamesL r l (v+1) _ (drop_next hd) hl (by simp<;>omega)).eq (by simp)
theorem all_ent{N:ByteArray->Bool}{l:List Ent}(he:∀e∈l,EOk e):(∀j:Int,0≤j->j<l.length->REnt N l j) ↔ ∀j:Int,0≤j->j<l.length->entryT N l j=true:=by
 have ofP:∀j,0≤j->j<(l.length:Int)->entryT N l j=true->REnt N l j:=fun j h0 h1 h=>by
  have hs:=entryT_spec h
  have hn:N (ent l j).name=true:=by unfold entryT at h;simp only[Bool.and_eq_true]at h;exact h.1
  refine⟨hn,hs.1,?_⟩
  rcases hs.2.2.2.2.2 with k|k|k|k
  ·refine .inl ⟨k,?_⟩
   have hf:=hs.2.1 k
   unfold familyT at hf
   simp only[Bool.and_eq_true,Bool.or_eq_true,decide_eq_true_eq]at hf
   refine⟨hf.1.1.1,hf.1.1.2,hf.1.2,hf.2.imp id fun hd=>?_⟩
   unfold famD at hd
   simp only[Bool.and_eq_true,decide_eq_true_eq,beq_iff_eq]at hd
   obtain⟨⟨⟨⟨⟨d1,d2⟩,d3⟩,d4⟩,d5⟩,d6⟩:=hd
   have hw:wholeT (ent l (j+1)).type=((wholeT (ent l (j+1)).type).1,(wholeT (ent l (j+1)).type).2.1,0):=by rw[←d5]
   have hwo:=wholeT_ok hw
   exact⟨d1,d2,d3,d4,hwo.1,by rw[←hwo.2.1];exact d6⟩
  ·exact .inr (.inl ⟨k,hs.2.2.1 k⟩)
  ·exact .inr (.inr (.inr ⟨k,hs.2.2.2.2.1 k⟩))
  ·exact .inr (.inr (.inl ⟨k,hs.2.2.2.1 k⟩))
 refine⟨fun h j h0 h1=>?_,fun h j h0 h1=>ofP j h0 h1 (h j h0 h1)⟩
 obtain⟨r1,r2,r3⟩:=h j h0 h1
 unfold entryT
 rw[r1,r2]
 rcases r3 with⟨k,hf⟩|⟨k,hf⟩|⟨k,hf⟩|⟨k,hf⟩
 ·rw[if_pos k]
  obtain⟨f1,f2,f3,f4⟩:=hf
  unfold familyT
  rw[f1,f2,f3]
  rcases f4 with f4|⟨d1,d2,d3,d4,d5,d6⟩
  ·simp[f4]
  ·-- the constructor has at most 24 arguments
   have hnext:j+1<l.length∧(ent l (j+1)).kind=2:=by
    have h5:=f3
    unfold famC at h5
    obtain⟨n,hn⟩:∃n,(ent l j).cons=[n]:=by
     rcases hc:(ent l j).cons with _|⟨n,_|⟨m,r⟩⟩
     ·rw[hc]at d2;simp at d2
     ·exact⟨n,rfl⟩
     ·rw[hc]at d2;simp at d2
    rw[hn,runT,memT]at h5
    simp only[Bool.and_eq_true,beq_iff_eq]at h5
    have:=isT_spec h5.2.1.1.1
    have e:n=j+1:=h5.1.2.1
    rw[e]at this
    exact⟨this.2.1,this.2.2⟩
   have hc:conT l (j+1)=true:=by
    rcases(h (j+1) (by omega) hnext.1).2.2 with h|h|h|h
    ·have:=h.1;omega
    ·exact h.2
    ·have:=h.1;omega
    ·have:=h.1;omega
   unfold conT at hc
   simp only[Bool.and_eq_true,beq_iff_eq]at hc
   have hw0:=hc.2.1
   have hw:wholeT (ent l (j+1)).type=((wholeT (ent l (j+1)).type).1,(wholeT (ent l (j+1)).type).2.1,0):=by rw[←hw0]
   have hwo:=wholeT_ok hw
   have hD:famD l j (ent l j)=true:=by
    unfold famD
    simp only[Bool.and_eq_true,decide_eq_true_eq,beq_iff_eq]
    exact⟨⟨⟨⟨⟨d1,d2⟩,d3⟩,d4⟩,hw0⟩,by rw[hwo.2.1];exact d6⟩
   rw[hD];simp
 ·rw[if_neg (by omega),if_pos k,hf];rfl
 ·rw[if_neg (by omega),if_neg (by omega),if_pos k,hf];rfl
 ·rw[if_neg (by omega),if_neg (by omega),if_neg (by omega),if_pos k,hf];rfl
theorem ev_refFormed(l:List Ent)(hl:l.length≤65535)(he:∀e∈l,EOk e){b:Bool}(h:Evt (fun q=>e157 q l) b):Evt (fun q=>e23 q l) b:=by
 obtain⟨N,hN⟩:=names_by
 obtain⟨d,hd,hf⟩:=ev_Formed N hN l hl he
 have hb:=hf.det h
 have hRd:=ev_refDist (by simpa using hl) hd
 have key:Dc (fun q=>e23 q l) (formedT N d l=true):=by
  simp only[e23]
  have hNames:Evt (fun q=>e74 q l) (l.map Ent.name):=by simp only[e74];exact(ev_rNamesL l l 0 [] rfl hl (by simp)).eq (by simp)
  have hall:(∀j:Int,((0:Nat):Int)≤j->j<l.length->REnt N l j)↔allE N l l.length 0=true:=by
   refine(show _↔_ from⟨fun h j h0 h1=>h j (by omega) h1,fun h j h0 h1=>h j (by omega) h1⟩:(∀j:Int,((0:Nat):Int)≤j->j<l.length->REnt N l j) ↔ ∀j:Int,0≤j->j<l.length->REnt N l j).trans ((all_ent he).trans ?_)
   have back:∀(m v:Nat),v+m=l.length->((∀j:Int,v≤j->j<l.length->entryT N l j=true)↔allE N l m v=true):=by
    intro m
    induction m with
    |zero=>intro v hv;exact⟨fun _=>rfl,fun _ j h0 h1=>by omega⟩
    |succ m ih=>
     intro v hv
     rw[allE]
     simp only[Bool.and_eq_true]
     rw[←ih (v+1) (by omega)]
     refine⟨fun h=>⟨h v (Int.le_refl _) (by omega),fun j h0 h1=>h j (by omega) h1⟩,fun h j h0 h1=>?_⟩
     by_cases e:j=v
     ·subst e;exact h.1
     ·exact h.2 j (by omega) h1
   exact(show _↔_ from⟨fun h j h0 h1=>h j (by omega) h1,fun h j h0 h1=>h j (by omega) h1⟩:(∀j:Int,0≤j->j<l.length->entryT N l j=true) ↔ ∀j:Int,((0:Nat):Int)≤j->j<l.length->entryT N l j=true).trans (back l.length 0 (by omega))
  unfold formedT
  refine Dc.ite (fun h=>Dc.no ?_) fun h=>Dc.evt hNames (Dc.evt hRd ?_)
  ·have:=of_decide_eq_true h;rw[decide_eq_false (by omega)];simp
  ·have:=of_decide_eq_false h
   rw[decide_eq_true (by omega)]
   cases d with
   |false=>exact Dc.ite (fun h=>(by cases h)) fun _=>Dc.no (by simp)
   |true=>
    refine Dc.ite (fun _=>?_) fun h=>(by cases h)
    exact(dc_rFormedL hN l hl he l.length 0 (by omega) fun j h0 h1=>by omega).iff (hall.trans (by simp))
 obtain⟨b',h1,h2⟩:=key
 refine h1.eq ?_
 rw[←hb]
 rw[Bool.eq_iff_iff];exact h2
theorem ev_rTele2{t:Tm}(hs:shapedT t=true):∃L y,splT (pisT t) t=some (L,y)∧L.length=pisT t∧goodT y=true∧y.nodes≤8192∧shapedT y=true∧(∀x∈L,shapedT x=true)∧Evt (fun q=>e79 q t) L∧Evt (fun q=>e86 q t) y:=by
 have hsp:=shapedT_spec hs
 obtain⟨L,y,hL,hlen,hyk,hyg,hyn,hyh,hLg⟩:=tel_spec hsp.2.2
 refine⟨L,y,hL,hlen,hyg,by omega,shapedT_of (by omega) (by omega) hyg,fun x hx=>?_,ev_Tele hsp.2.2 hsp.1 hL hyk,?_⟩
 ·have:=hLg x hx;exact shapedT_of (by omega) (by omega) this.1
 ·simp only[e86];exact ev_Bene _ _ L y hsp.2.2 hL hyk
def e265(qq:Nat)(M:Mach)(q0_l:List Ent)(fl fu q0_e:Int)(p1:Tm):Option (Tm×Int×Int×Int):=
 e69 qq M p1 fl fu>>=fun r1=>
 if q0_e==0 then
 some (r1.1,r1.2.1,r1.2.2.1,r1.2.2.2)
 else
 some (r1.1,q0_e,r1.2.2.1,r1.2.2.2)
abbrev K265 (M:Mach) (q0_l:List Ent) (fl fu q0_e:Int) (p1:Tm) (r:Tm×Int×Int×Int) (C:Cf):Prop:=C 265 [.cells [.mp 1 0,slv entL q0_l .no,.mp 3 0,ai q0_e],mB M 2,mR M,.cells [ai fl,ai fu]] [.mp 0 0,tmA p1] (tmA r.1) [.cells [.mp 1 0,slv entL q0_l .no,.mp 3 0,ai r.2.1],mB M 2,mR M,.cells [ai r.2.2.1,ai r.2.2.2]] 0
theorem q265:Qf 265 Tryz.f265:=⟨Tryz.func265,by kernel_rfl⟩
theorem k265{M q0_l fl fu q0_e p1 r}(h:K265 M q0_l fl fu q0_e p1 r Ci):K265 M q0_l fl fu q0_e p1 r Ct:=⟨h,⟨(lz rfl),⟨tv,tv,⟨tv,dT _⟩,tv⟩,tv⟩,(forall_cons ⟨(lz rfl),⟨tv,dE _⟩,(lz rfl),tv,tv⟩ (forall_cons ⟨⟨tv,dE _⟩,(lz rfl),⟨tv,dI _⟩,⟨tv,dI _⟩,tv⟩ (forall_cons ⟨⟨tv,dE _⟩,⟨tv,dC _⟩,tv⟩ (forall_cons ⟨tv,tv,tv⟩ forall_nil)))),⟨tv,tv,dT _,tv⟩,(forall_cons ⟨(lz rfl),dE _,(lz rfl),tv,tv⟩ (forall_cons ⟨dE _,(lz rfl),dI _,dI _,tv⟩ (forall_cons ⟨dE _,dC _,tv⟩ (forall_cons ⟨tv,tv,tv⟩ forall_nil))))⟩
theorem c265{qq M q0_l fl fu q0_e p1 r}(h:e265 qq M q0_l fl fu q0_e p1=some r):K265 M q0_l fl fu q0_e p1 r Ct:=by
 unfold e265 at h
 obtain⟨r1,h2,h⟩:=obind h
 have k:=oC 3 [1,2,3] (c69 h2) o0
 rcases spl h with⟨h3,h⟩|⟨h3,h⟩
 obtain rfl:=sj h
 exact k265 (tF q265 3 [0,1,2,3] (oD (dT r1.1.sub)<|oD (dC M.parts)<|oD (dE M.rl)<|oD (dI M.own)<|oD (dI M.args)<|oD (dE M.l)<|oD (dE q0_l)<|oB 4 h3 k))
 obtain rfl:=sj h
 exact k265 (tF q265 2 [0,1,2,3] (oD (dT r1.1.sub)<|oD (dC M.parts)<|oD (dE M.rl)<|oD (dI M.own)<|oD (dI M.args)<|oD (dE M.l)<|oD (dE q0_l)<|oB 4 h3 k))
def e198(qq:Nat)(M:Mach)(q0_l:List Ent)(fl fu q0_e:Int)(p1 p2:Tm):Option (Tm×Tm×Bool×Int×Int×Int):=
 if q0_e != 0 then
 some (p1,p2,false,q0_e,fl,fu)
 else
 e265 qq M q0_l fl fu q0_e p1>>=fun r2=>
 if r2.2.1 != 0 then
 some (r2.1,p2,false,r2.2.1,r2.2.2.1,r2.2.2.2)
 else
 e265 qq M q0_l r2.2.2.1 r2.2.2.2 r2.2.1 p2>>=fun r5=>
 some (r2.1,r5.1,(r5.2.1==0),r5.2.1,r5.2.2.1,r5.2.2.2)
abbrev K198 (M:Mach) (q0_l:List Ent) (fl fu q0_e:Int) (p1 p2:Tm) (r:Tm×Tm×Bool×Int×Int×Int) (C:Cf):Prop:=C 198 [.cells [.mp 1 0,slv entL q0_l .no,.mp 3 0,ai q0_e],mB M 2,mR M,.cells [ai fl,ai fu]] [.mp 0 0,tmA p1,tmA p2] (.tup [tmA r.1,tmA r.2.1,ab r.2.2.1]) [.cells [.mp 1 0,slv entL q0_l .no,.mp 3 0,ai r.2.2.2.1],mB M 2,mR M,.cells [ai r.2.2.2.2.1,ai r.2.2.2.2.2]] 0
theorem q198:Qf 198 Tryz.f198:=⟨Tryz.func198,by kernel_rfl⟩
theorem k198{M q0_l fl fu q0_e p1 p2 r}(h:K198 M q0_l fl fu q0_e p1 p2 r Ci):K198 M q0_l fl fu q0_e p1 p2 r Ct:=⟨h,⟨(lz rfl),⟨tv,tv,⟨tv,dT _⟩,tv⟩,⟨tv,tv,⟨tv,dT _⟩,tv⟩,tv⟩,(forall_cons ⟨(lz rfl),⟨tv,dE _⟩,(lz rfl),tv,tv⟩ (forall_cons ⟨⟨tv,dE _⟩,(lz rfl),⟨tv,dI _⟩,⟨tv,dI _⟩,tv⟩ (forall_cons ⟨⟨tv,dE _⟩,⟨tv,dC _⟩,tv⟩ (forall_cons ⟨tv,tv,tv⟩ forall_nil)))),⟨⟨tv,tv,dT _,tv⟩,⟨tv,tv,dT _,tv⟩,tv,tv⟩,(forall_cons ⟨(lz rfl),dE _,(lz rfl),tv,tv⟩ (forall_cons ⟨dE _,(lz rfl),dI _,dI _,tv⟩ (forall_cons ⟨dE _,dC _,tv⟩ (forall_cons ⟨tv,tv,tv⟩ forall_nil))))⟩
theorem c198{qq M q0_l fl fu q0_e p1 p2 r}(h:e198 qq M q0_l fl fu q0_e p1 p2=some r):K198 M q0_l fl fu q0_e p1 p2 r Ct:=by
 unfold e198 at h
 rcases spl h with⟨h1,h⟩|⟨h1,h⟩
 obtain rfl:=sj h
 exact k198 (tF q198 4 [0,1,2,3] (oD (dT p2.sub)<|oD (dT p1.sub)<|oD (dC M.parts)<|oD (dE M.rl)<|oD (dI M.own)<|oD (dI M.args)<|oD (dE M.l)<|oD (dE q0_l)<|oB 1 h1 o0))
 obtain⟨r2,h3,h⟩:=obind h
 have k:=oC 1 [0,1,2,3] (c265 h3)<|oB 1 h1 o0
 rcases spl h with⟨h4,h⟩|⟨h4,h⟩
 obtain rfl:=sj h
 exact k198 (tF q198 4 [0,1,2,3] (oD (dT p2.sub)<|oD (dT r2.1.sub)<|oD (dC M.parts)<|oD (dE M.rl)<|oD (dI M.own)<|oD (dI M.args)<|oD (dE M.l)<|oD (dE q0_l)<|oB 2 h4 k))
 obtain⟨r5,h6,h⟩:=obind h
 obtain rfl:=sj h
 exact k198 (tF q198 7 [0,1,2,3] (oD (dT r5.1.sub)<|oD (dT r2.1.sub)<|oD (dC M.parts)<|oD (dE M.rl)<|oD (dI M.own)<|oD (dI M.args)<|oD (dE M.l)<|oD (dE q0_l)<|oC 1 [0,1,2,3] (c265 h6)<|oB 2 h4 k))
def e200(qq:Nat)(p0 p1:Int):Option (Bool):=
 some (p0==p1)
abbrev K200 (p0 p1:Int) (r:Bool) (C:Cf):Prop:=C 200 [] [ai p0,ai p1] (ab r) [] 0
theorem q200:Qf 200 Tryz.f200:=⟨Tryz.func200,by kernel_rfl⟩
theorem k200{p0 p1 r}(h:K200 p0 p1 r Ci):K200 p0 p1 r Ct:=⟨h,⟨tv,tv,tv⟩,forall_nil,tv,forall_nil⟩
theorem c200{qq p0 p1 r}(h:e200 qq p0 p1=some r):K200 p0 p1 r Ct:=by
 unfold e200 at h
 obtain rfl:=sj h
 exact k200 (tF q200 1 [] (o0))
def e266(qq:Nat)(M:Mach)(q0_l:List Ent)(fl fu q0_e:Int)(p1:Tm):Option (Tm×Int):=
 if p1.k==4 then
 gidx p1.sub 1>>=fun x2=>
 some (x2,q0_e)
 else
 e278 qq p1 1>>=fun r4=>
 e149 qq 0>>=fun r6=>
 e156 qq r4.1 r6>>=fun r8=>
 if r4.2==0 then
 e89 qq r8>>=fun r11=>
 if r11 then
 if q0_e==0 then
 some (r8,r4.2)
 else
 some (r8,q0_e)
 else
 if q0_e==0 then
 some (r8,2)
 else
 some (r8,q0_e)
 else
 if q0_e==0 then
 some (r8,r4.2)
 else
 some (r8,q0_e)
abbrev K266 (M:Mach) (q0_l:List Ent) (fl fu q0_e:Int) (p1:Tm) (r:Tm×Int) (C:Cf):Prop:=C 266 [.cells [.mp 1 0,slv entL q0_l .no,.mp 3 0,ai q0_e],mB M 2,mR M,.cells [ai fl,ai fu]] [.mp 0 0,tmA p1] (tmA r.1) [.cells [.mp 1 0,slv entL q0_l .no,.mp 3 0,ai r.2],mB M 2,mR M,.cells [ai fl,ai fu]] 0
theorem q266:Qf 266 Tryz.f266:=⟨Tryz.func266,by kernel_rfl⟩
theorem k266{M q0_l fl fu q0_e p1 r}(h:K266 M q0_l fl fu q0_e p1 r Ci):K266 M q0_l fl fu q0_e p1 r Ct:=⟨h,⟨(lz rfl),⟨tv,tv,⟨tv,dT _⟩,tv⟩,tv⟩,(forall_cons ⟨(lz rfl),⟨tv,dE _⟩,(lz rfl),tv,tv⟩ (forall_cons ⟨⟨tv,dE _⟩,(lz rfl),⟨tv,dI _⟩,⟨tv,dI _⟩,tv⟩ (forall_cons ⟨⟨tv,dE _⟩,⟨tv,dC _⟩,tv⟩ (forall_cons ⟨tv,tv,tv⟩ forall_nil)))),⟨tv,tv,dT _,tv⟩,(forall_cons ⟨(lz rfl),dE _,(lz rfl),tv,tv⟩ (forall_cons ⟨dE _,(lz rfl),dI _,dI _,tv⟩ (forall_cons ⟨dE _,dC _,tv⟩ (forall_cons ⟨tv,tv,tv⟩ forall_nil))))⟩
theorem c266{qq M q0_l fl fu q0_e p1 r}(h:e266 qq M q0_l fl fu q0_e p1=some r):K266 M q0_l fl fu q0_e p1 r Ct:=by
 unfold e266 at h
 rcases spl h with⟨h1,h⟩|⟨h1,h⟩
 obtain⟨x2,h3,h⟩:=obind h
 obtain rfl:=sj h
 exact k266 (tF q266 2 [0,1,2,3] (oD (dT x2.sub)<|oD (dC M.parts)<|oD (dE M.rl)<|oD (dI M.own)<|oD (dI M.args)<|oD (dE M.l)<|oD (dE q0_l)<|oA 1 (ix23 (o:=.no) h3)<|oB 1 h1 o0))
 obtain⟨r4,h5,h⟩:=obind h
 obtain⟨r6,h7,h⟩:=obind h
 obtain⟨r8,h9,h⟩:=obind h
 have k:=oC 0 [] (c156 h9)<|oC 4 [] (c149 h7)<|oC 1 [] (c278 h5)<|oB 1 h1 o0
 rcases spl h with⟨h10,h⟩|⟨h10,h⟩
 obtain⟨r11,h12,h⟩:=obind h
 have k:=oB 1 h10 k
 rcases spl h with⟨h13,h⟩|⟨h13,h⟩
 have k:=oK 1 [] h13 (c89 h12) k
 rcases spl h with⟨h14,h⟩|⟨h14,h⟩
 obtain rfl:=sj h
 exact k266 (tF q266 3 [0,1,2,3] (oD (dT r8.sub)<|oD (dC M.parts)<|oD (dE M.rl)<|oD (dI M.own)<|oD (dI M.args)<|oD (dE M.l)<|oD (dE q0_l)<|oB 2 h14 k))
 obtain rfl:=sj h
 exact k266 (tF q266 2 [0,1,2,3] (oD (dT r8.sub)<|oD (dC M.parts)<|oD (dE M.rl)<|oD (dI M.own)<|oD (dI M.args)<|oD (dE M.l)<|oD (dE q0_l)<|oB 2 h14 k))
 have k:=oK 1 [] h13 (c89 h12) k
 rcases spl h with⟨h15,h⟩|⟨h15,h⟩
 obtain rfl:=sj h
 exact k266 (tF q266 3 [0,1,2,3] (oD (dT r8.sub)<|oD (dC M.parts)<|oD (dE M.rl)<|oD (dI M.own)<|oD (dI M.args)<|oD (dE M.l)<|oD (dE q0_l)<|oB 2 h15 k))
 obtain rfl:=sj h
 exact k266 (tF q266 2 [0,1,2,3] (oD (dT r8.sub)<|oD (dC M.parts)<|oD (dE M.rl)<|oD (dI M.own)<|oD (dI M.args)<|oD (dE M.l)<|oD (dE q0_l)<|oB 2 h15 k))
 have k:=oB 1 h10 k
 rcases spl h with⟨h16,h⟩|⟨h16,h⟩
 obtain rfl:=sj h
 exact k266 (tF q266 3 [0,1,2,3] (oD (dT r8.sub)<|oD (dC M.parts)<|oD (dE M.rl)<|oD (dI M.own)<|oD (dI M.args)<|oD (dE M.l)<|oD (dE q0_l)<|oB 1 h16 k))
 obtain rfl:=sj h
 exact k266 (tF q266 2 [0,1,2,3] (oD (dT r8.sub)<|oD (dC M.parts)<|oD (dE M.rl)<|oD (dI M.own)<|oD (dI M.args)<|oD (dE M.l)<|oD (dE q0_l)<|oB 1 h16 k))
def e165(qq:Nat)(M:Mach)(p1:Tm):Option (Int×List Tm×Bool):=
 e89 qq p1>>=fun r1=>
 if r1 then
 e123 qq p1>>=fun r4=>
 e230 qq M r4>>=fun r6=>
 some (r6.1,r6.2.1,r6.2.2)
 else
 some (0,[],false)
abbrev K165 (M:Mach) (p1:Tm) (r:Int×List Tm×Bool) (C:Cf):Prop:=C 165 [mB M 1,mR M] [.mp 0 0,tmA p1] (.tup [ai r.1,.sl (flat tmCells r.2.1) (List.length r.2.1) .no,ab r.2.2]) [mB M 1,mR M] 0
theorem q165:Qf 165 Tryz.f165:=⟨Tryz.func165,by kernel_rfl⟩
theorem k165{M p1 r}(h:K165 M p1 r Ci):K165 M p1 r Ct:=⟨h,⟨(lz rfl),⟨tv,tv,⟨tv,dT _⟩,tv⟩,tv⟩,(forall_cons ⟨⟨tv,dE _⟩,(lz rfl),⟨tv,dI _⟩,⟨tv,dI _⟩,tv⟩ (forall_cons ⟨⟨tv,dE _⟩,⟨tv,dC _⟩,tv⟩ forall_nil)),⟨tv,dT _,tv,tv⟩,(forall_cons ⟨dE _,(lz rfl),dI _,dI _,tv⟩ (forall_cons ⟨dE _,dC _,tv⟩ forall_nil))⟩
theorem c165{qq M p1 r}(h:e165 qq M p1=some r):K165 M p1 r Ct:=by
 unfold e165 at h
 obtain⟨r1,h2,h⟩:=obind h
 rcases spl h with⟨h3,h⟩|⟨h3,h⟩
 obtain⟨r4,h5,h⟩:=obind h
 obtain⟨r6,h7,h⟩:=obind h
 obtain rfl:=sj h
 exact k165 (tF q165 3 [0,1] (oD (dT r6.2.1)<|oD (dC M.parts)<|oD (dE M.rl)<|oD (dI M.own)<|oD (dI M.args)<|oD (dE M.l)<|oC 0 [0,1] (c230 h7)<|oC 2 [] (c123 h5)<|oK 2 [] h3 (c89 h2) o0))
 obtain rfl:=sj h
 exact k165 (tF q165 1 [0,1] (oD (dT ([]:List Tm))<|oD (dC M.parts)<|oD (dE M.rl)<|oD (dI M.own)<|oD (dI M.args)<|oD (dE M.l)<|oK 2 [] h3 (c89 h2) o0))
def e267(qq:Nat)(M:Mach)(q0_l:List Ent)(fl fu q0_e:Int)(p1:Tm):Option (Int×List Tm×Bool):=
 e165 qq M p1>>=fun r1=>
 if r1.2.2 then
 gidx q0_l r1.1>>=fun x4=>
 gidx q0_l x4.fam>>=fun x6=>
 if (List.length x6.fields:Int)==0 then
 some (0,[],false)
 else
 some (r1.1,r1.2.1,true)
 else
 some (0,[],false)
abbrev K267 (M:Mach) (q0_l:List Ent) (fl fu q0_e:Int) (p1:Tm) (r:Int×List Tm×Bool) (C:Cf):Prop:=C 267 [.cells [.mp 1 0,slv entL q0_l .no,.mp 3 0,ai q0_e],mB M 2,mR M,.cells [ai fl,ai fu]] [.mp 0 0,tmA p1] (.tup [ai r.1,.sl (flat tmCells r.2.1) (List.length r.2.1) .no,ab r.2.2]) [.cells [.mp 1 0,slv entL q0_l .no,.mp 3 0,ai q0_e],mB M 2,mR M,.cells [ai fl,ai fu]] 0
theorem q267:Qf 267 Tryz.f267:=⟨Tryz.func267,by kernel_rfl⟩
theorem k267{M q0_l fl fu q0_e p1 r}(h:K267 M q0_l fl fu q0_e p1 r Ci):K267 M q0_l fl fu q0_e p1 r Ct:=⟨h,⟨(lz rfl),⟨tv,tv,⟨tv,dT _⟩,tv⟩,tv⟩,(forall_cons ⟨(lz rfl),⟨tv,dE _⟩,(lz rfl),tv,tv⟩ (forall_cons ⟨⟨tv,dE _⟩,(lz rfl),⟨tv,dI _⟩,⟨tv,dI _⟩,tv⟩ (forall_cons ⟨⟨tv,dE _⟩,⟨tv,dC _⟩,tv⟩ (forall_cons ⟨tv,tv,tv⟩ forall_nil)))),⟨tv,dT _,tv,tv⟩,(forall_cons ⟨(lz rfl),dE _,(lz rfl),tv,tv⟩ (forall_cons ⟨dE _,(lz rfl),dI _,dI _,tv⟩ (forall_cons ⟨dE _,dC _,tv⟩ (forall_cons ⟨tv,tv,tv⟩ forall_nil))))⟩
theorem c267{qq M q0_l fl fu q0_e p1 r}(h:e267 qq M q0_l fl fu q0_e p1=some r):K267 M q0_l fl fu q0_e p1 r Ct:=by
 unfold e267 at h
 obtain⟨r1,h2,h⟩:=obind h
 have k:=oC 2 [1,2] (c165 h2) o0
 rcases spl h with⟨h3,h⟩|⟨h3,h⟩
 obtain⟨x4,h5,h⟩:=obind h
 obtain⟨x6,h7,h⟩:=obind h
 have k:=oA 1 (ix22 (o:=.no) h7)<|oA 3 (ix22 (o:=.no) h5)<|oB 2 h3 k
 rcases spl h with⟨h8,h⟩|⟨h8,h⟩
 obtain rfl:=sj h
 exact k267 (tF q267 0 [0,1,2,3] (oD (dT ([]:List Tm))<|oD (dC M.parts)<|oD (dE M.rl)<|oD (dI M.own)<|oD (dI M.args)<|oD (dE M.l)<|oD (dE q0_l)<|oB 2 h8 k))
 obtain rfl:=sj h
 exact k267 (tF q267 0 [0,1,2,3] (oD (dT r1.2.1)<|oD (dC M.parts)<|oD (dE M.rl)<|oD (dI M.own)<|oD (dI M.args)<|oD (dE M.l)<|oD (dE q0_l)<|oB 2 h8 k))
 obtain rfl:=sj h
 exact k267 (tF q267 1 [0,1,2,3] (oD (dT ([]:List Tm))<|oD (dC M.parts)<|oD (dE M.rl)<|oD (dI M.own)<|oD (dI M.args)<|oD (dE M.l)<|oD (dE q0_l)<|oB 2 h3 k))
def e152(qq:Nat)(p0:Int):Option (Tm):=
 e219 qq 6 p0 []>>=fun r1=>
 some r1
abbrev K152 (p0:Int) (r:Tm) (C:Cf):Prop:=C 152 [] [ai p0] (tmA r) [] 0
theorem q152:Qf 152 Tryz.f152:=⟨Tryz.func152,by kernel_rfl⟩
theorem k152{p0 r}(h:K152 p0 r Ci):K152 p0 r Ct:=⟨h,⟨tv,tv⟩,forall_nil,⟨tv,tv,dT _,tv⟩,forall_nil⟩
theorem c152{qq p0 r}(h:e152 qq p0=some r):K152 p0 r Ct:=by
 unfold e152 at h
 obtain⟨r1,h2,h⟩:=obind h
 obtain rfl:=sj h
 exact k152 (tF q152 1 [] (oD (dT r1.sub)<|oC 0 [] (c219 h2) o0))
def e313(qq:Nat)(M:Mach)(q0_l:List Ent)(fl fu q0_e:Int)(p1:Tm)(p2 p3:Int)(p4:List Tm):Option (Tm×Int):=
 e267 qq M q0_l fl fu q0_e p1>>=fun r1=>
 if r1.2.2 then
 if r1.1==p2 then
 gidx r1.2.1 (w64 ((List.length p4:Int)+p3))>>=fun x5=>
 some (x5,q0_e)
 else
 gidx q0_l p2>>=fun x7=>
 gidx q0_l x7.fam>>=fun x9=>
 gidx x9.fields p3>>=fun x11=>
 e152 qq x11>>=fun r13=>
 e151 qq r13 p4>>=fun r15=>
 e156 qq r15 p1>>=fun r17=>
 if q0_e==0 then
 e89 qq r17>>=fun r20=>
 if r20 then
 some (r17,q0_e)
 else
 some (r17,2)
 else
 some (r17,q0_e)
 else
 gidx q0_l p2>>=fun x23=>
 gidx q0_l x23.fam>>=fun x25=>
 gidx x25.fields p3>>=fun x27=>
 e152 qq x27>>=fun r29=>
 e151 qq r29 p4>>=fun r31=>
 e156 qq r31 p1>>=fun r33=>
 if q0_e==0 then
 e89 qq r33>>=fun r36=>
 if r36 then
 some (r33,q0_e)
 else
 some (r33,2)
 else
 some (r33,q0_e)
abbrev K313 (M:Mach) (q0_l:List Ent) (fl fu q0_e:Int) (p1:Tm) (p2 p3:Int) (p4:List Tm) (r:Tm×Int) (C:Cf):Prop:=C 313 [.cells [.mp 1 0,slv entL q0_l .no,.mp 3 0,ai q0_e],mB M 2,mR M,.cells [ai fl,ai fu]] [.mp 0 0,tmA p1,ai p2,ai p3,slv tmCells p4 .no] (tmA r.1) [.cells [.mp 1 0,slv entL q0_l .no,.mp 3 0,ai r.2],mB M 2,mR M,.cells [ai fl,ai fu]] 0
theorem q313:Qf 313 Tryz.f313:=⟨Tryz.func313,by kernel_rfl⟩
theorem k313{M q0_l fl fu q0_e p1 p2 p3 p4 r}(h:K313 M q0_l fl fu q0_e p1 p2 p3 p4 r Ci):K313 M q0_l fl fu q0_e p1 p2 p3 p4 r Ct:=⟨h,⟨(lz rfl),⟨tv,tv,⟨tv,dT _⟩,tv⟩,tv,tv,⟨tv,dT _⟩,tv⟩,(forall_cons ⟨(lz rfl),⟨tv,dE _⟩,(lz rfl),tv,tv⟩ (forall_cons ⟨⟨tv,dE _⟩,(lz rfl),⟨tv,dI _⟩,⟨tv,dI _⟩,tv⟩ (forall_cons ⟨⟨tv,dE _⟩,⟨tv,dC _⟩,tv⟩ (forall_cons ⟨tv,tv,tv⟩ forall_nil)))),⟨tv,tv,dT _,tv⟩,(forall_cons ⟨(lz rfl),dE _,(lz rfl),tv,tv⟩ (forall_cons ⟨dE _,(lz rfl),dI _,dI _,tv⟩ (forall_cons ⟨dE _,dC _,tv⟩ (forall_cons ⟨tv,tv,tv⟩ forall_nil))))⟩
theorem c313{qq M q0_l fl fu q0_e p1 p2 p3 p4 r}(h:e313 qq M q0_l fl fu q0_e p1 p2 p3 p4=some r):K313 M q0_l fl fu q0_e p1 p2 p3 p4 r Ct:=by
 unfold e313 at h
 obtain⟨r1,h2,h⟩:=obind h
 have k:=oC 1 [0,1,2,3] (c267 h2) o0
 rcases spl h with⟨h3,h⟩|⟨h3,h⟩
 have k:=oB 2 h3 k
 rcases spl h with⟨h4,h⟩|⟨h4,h⟩
 obtain⟨x5,h6,h⟩:=obind h
 obtain rfl:=sj h
 exact k313 (tF q313 2 [0,1,2,3] (oD (dT x5.sub)<|oD (dC M.parts)<|oD (dE M.rl)<|oD (dI M.own)<|oD (dI M.args)<|oD (dE M.l)<|oD (dE q0_l)<|oA 2 (ix23 (o:=.no) h6)<|oB 0 h4 k))
 obtain⟨x7,h8,h⟩:=obind h
 obtain⟨x9,h10,h⟩:=obind h
 obtain⟨x11,h12,h⟩:=obind h
 obtain⟨r13,h14,h⟩:=obind h
 obtain⟨r15,h16,h⟩:=obind h
 obtain⟨r17,h18,h⟩:=obind h
 have k:=oC 1 [] (c156 h18)<|oC 0 [] (c151 h16)<|oC 1 [] (c152 h14)<|oA 1 (ix41 (o:=.no) h12)<|oA 1 (ix22 (o:=.no) h10)<|oA 2 (ix22 (o:=.no) h8)<|oB 0 h4 k
 rcases spl h with⟨h19,h⟩|⟨h19,h⟩
 obtain⟨r20,h21,h⟩:=obind h
 have k:=oB 2 h19 k
 rcases spl h with⟨h22,h⟩|⟨h22,h⟩
 obtain rfl:=sj h
 exact k313 (tF q313 3 [0,1,2,3] (oD (dT r17.sub)<|oD (dC M.parts)<|oD (dE M.rl)<|oD (dI M.own)<|oD (dI M.args)<|oD (dE M.l)<|oD (dE q0_l)<|oK 1 [] h22 (c89 h21) k))
 obtain rfl:=sj h
 exact k313 (tF q313 4 [0,1,2,3] (oD (dT r17.sub)<|oD (dC M.parts)<|oD (dE M.rl)<|oD (dI M.own)<|oD (dI M.args)<|oD (dE M.l)<|oD (dE q0_l)<|oK 1 [] h22 (c89 h21) k))
 obtain rfl:=sj h
 exact k313 (tF q313 2 [0,1,2,3] (oD (dT r17.sub)<|oD (dC M.parts)<|oD (dE M.rl)<|oD (dI M.own)<|oD (dI M.args)<|oD (dE M.l)<|oD (dE q0_l)<|oB 2 h19 k))
 obtain⟨x23,h24,h⟩:=obind h
 obtain⟨x25,h26,h⟩:=obind h
 obtain⟨x27,h28,h⟩:=obind h
 obtain⟨r29,h30,h⟩:=obind h
 obtain⟨r31,h32,h⟩:=obind h
 obtain⟨r33,h34,h⟩:=obind h
 have k:=oC 1 [] (c156 h34)<|oC 0 [] (c151 h32)<|oC 1 [] (c152 h30)<|oA 1 (ix41 (o:=.no) h28)<|oA 1 (ix22 (o:=.no) h26)<|oA 2 (ix22 (o:=.no) h24)<|oB 2 h3 k
 rcases spl h with⟨h35,h⟩|⟨h35,h⟩
 obtain⟨r36,h37,h⟩:=obind h
 have k:=oB 2 h35 k
 rcases spl h with⟨h38,h⟩|⟨h38,h⟩
 obtain rfl:=sj h
 exact k313 (tF q313 3 [0,1,2,3] (oD (dT r33.sub)<|oD (dC M.parts)<|oD (dE M.rl)<|oD (dI M.own)<|oD (dI M.args)<|oD (dE M.l)<|oD (dE q0_l)<|oK 1 [] h38 (c89 h37) k))
 obtain rfl:=sj h
 exact k313 (tF q313 4 [0,1,2,3] (oD (dT r33.sub)<|oD (dC M.parts)<|oD (dE M.rl)<|oD (dI M.own)<|oD (dI M.args)<|oD (dE M.l)<|oD (dE q0_l)<|oK 1 [] h38 (c89 h37) k))
 obtain rfl:=sj h
 exact k313 (tF q313 2 [0,1,2,3] (oD (dT r33.sub)<|oD (dC M.parts)<|oD (dE M.rl)<|oD (dI M.own)<|oD (dI M.args)<|oD (dE M.l)<|oD (dE q0_l)<|oB 2 h35 k))
end Go.Proofs.YtmfcobjnlabpoaaGreat
