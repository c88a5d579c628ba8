/- Parts of the proof that the law returns true: walks of the functions, plain laws. -/
import Derived.ChangeArms
import Derived.ChangeShapes
import Derived.IntWalk
import Derived.OpenShut
import Derived.Test.YtcckelpaoefonaaGreatAbB2
set_option linter.unusedVariables false
set_option linter.unusedSimpArgs false
set_option linter.unusedSectionVars false
namespace Go.Ab
open Go Go.RowKit
structure Sub (G G':Gh) (p:Nat->Prop):Prop where
 F:G'.F=G.F
 ρ:∀i b,p i->G.ρ i=some b->G'.ρ i=some b
 τ:∀k q,G.τ k=some q->G'.τ k=some q
 L:∀b o,G.L b o->G'.L b o
 N:∀i,p i->G.N i->G'.N i
mutual
theorem V.less{G G':Gh}{w:World}{p:Nat->Prop}(h:Sub G G' p):∀(a:AV) (u:Value),a.fine p->V G w a u->V G' w a u
 | .val v,u,_,hv=>by simpa only[V]using hv
 | .agg cs,u,hi,hv=>by
  simp only[V,AV.fine]at hi hv ⊢
  obtain⟨vs,rfl,hl⟩:=hv
  exact⟨vs,rfl,VL.less h cs vs hi hl⟩
 | .tup cs,u,hi,hv=>by
  simp only[V,AV.fine]at hi hv ⊢
  obtain⟨vs,rfl,hl⟩:=hv
  exact⟨vs,rfl,VL.less h cs vs hi hl⟩
 | .sl es n o,u,hi,hv=>by
  simp only[V,AV.fine]at hi hv ⊢
  obtain⟨cap,hc,hh⟩:=hv
  refine⟨cap,hc,?_⟩
  rcases hh with⟨rfl,h2,h3,h4,h5⟩|⟨b,off,hu,hcells,ho⟩
  ·exact .inl ⟨rfl,h2,h3,h4,h5.mono h.τ⟩
  ·exact .inr ⟨b,off,hu,VC.data h.L es b off hi hcells,ho.mono h.F h.τ⟩
 | .ip es,u,hi,hv=>by
  simp only[V,AV.fine]at hi hv ⊢
  obtain⟨b,off,hu,hcells⟩:=hv
  exact⟨b,off,hu,VC.data h.L es b off hi hcells⟩
 | .mp i off,u,hi,hv=>by
  simp only[V,AV.fine]at hi hv ⊢
  obtain⟨b,hb,hu⟩:=hv
  exact⟨b,h.ρ _ _ hi hb,hu⟩
 | .ms i off n c sz,u,hi,hv=>by
  simp only[V,AV.fine]at hi hv ⊢
  rcases hv with⟨b,cap,hb,hu⟩|⟨hn,hN,hu⟩
  ·exact .inl ⟨b,cap,h.ρ _ _ hi hb,hu⟩
  ·exact .inr ⟨hn,h.N _ hi hN,hu⟩
 | .obj i,u,hi,hv=>by
  simp only[V,AV.fine]at hi hv ⊢
  obtain⟨b,hb,hu⟩:=hv
  exact⟨b,h.ρ _ _ hi hb,hu⟩
 | .clo g fs cs,u,hi,hv=>by
  simp only[V,AV.fine]at hi hv ⊢
  obtain⟨l,r',hu,h1,h2⟩:=hv
  exact⟨l,r',hu,VL.less h fs l hi.1 h1,VL.less h cs r' hi.2 h2⟩
theorem VL.less{G G':Gh}{w:World}{p:Nat->Prop}(h:Sub G G' p):∀(as0:List AV) (us:List Value),AV.fineL p as0->VL G w as0 us->VL G' w as0 us
 | [],[],_,_=>by simp only[VL]
 |a::as0,u::us,hi,hv=>by
  simp only[VL,AV.fineL]at hi hv ⊢
  exact⟨V.less h a u hi.1 hv.1,VL.less h as0 us hi.2 hv.2⟩
 | [],_::_,_,hv=>by simp only[VL]at hv
 |_::_,[],_,hv=>by simp only[VL]at hv
end
mutual
def AV.fz(m:Nat)(cs:List AV):AV->AV
 | .val v=>.val v
 | .agg l=>.agg (AV.fzL m cs l)
 | .tup l=>.tup (AV.fzL m cs l)
 | .sl es n o=>.sl es n o
 | .ip es=>.ip es
 | .mp i off=>.mp i off
 | .ms i off n c sz=>bif Nat.beq i m then .sl (cs.drop off) n .no else .ms i off n c sz
 | .obj i=>.obj i
 | .clo g a b=>.clo g a b
def AV.fzL(m:Nat)(cs:List AV):List AV->List AV
 | []=>[]
 |a::l=>AV.fz m cs a::AV.fzL m cs l
end
mutual
def AV.fzOk(m:Nat):AV->Prop
 | .val _=>True
 | .agg l=>AV.fzOkL m l
 | .tup l=>AV.fzOkL m l
 | .sl es _ _=>AV.DataL es
 | .ip es=>AV.DataL es
 | .mp i _=>i<m
 | .ms i off _ _ _=>(i=m∧off=0)∨i<m
 | .obj i=>i<m
 | .clo _ a b=>AV.fineL (fun i=>i<m) a∧AV.fineL (fun i=>i<m) b
def AV.fzOkL(m:Nat):List AV->Prop
 | []=>True
 |a::l=>AV.fzOk m a∧AV.fzOkL m l
end
theorem P4:∀(l:List AV) (n:Nat),AV.DataL l->AV.DataL (l.drop n)
 |l,0,h=>by simpa using h
 | [],_+1,_=>trivial
 |_::l,n+1,h=>by simpa using P4 l n h.2
mutual
theorem AV.fz_fine{m:Nat}{cs:List AV}(hc:AV.DataL cs):∀a:AV,a.fzOk m->(a.fz m cs).fine (fun i=>i<m)
 | .val _,_=>trivial
 | .agg l,h=>AV.fzL_fine hc l h
 | .tup l,h=>AV.fzL_fine hc l h
 | .sl _ _ _,h=>h
 | .ip _,h=>h
 | .mp _ _,h=>h
 | .ms i off n c sz,h=>by
  simp only[AV.fz]
  cases hb:Nat.beq i m with
  |true=>exact P4 _ _ hc
  |false=>
   rcases h with⟨rfl,_⟩|h
   ·simp at hb
   ·exact h
 | .obj _,h=>h
 | .clo _ _ _,h=>h
theorem AV.fzL_fine{m:Nat}{cs:List AV}(hc:AV.DataL cs):∀l:List AV,AV.fzOkL m l->AV.fineL (fun i=>i<m) (AV.fzL m cs l)
 | [],_=>trivial
 |a::l,h=>⟨AV.fz_fine hc a h.1,AV.fzL_fine hc l h.2⟩
end
mutual
theorem V.fz{G G':Gh}{w:World}{m:Nat}{cs:List AV}(h:Sub G G' (fun i=>i<m))(hm:∀b,G.ρ m=some b->VC G' w cs b 0)(hc:G.N m->cs=[]):∀(a:AV) (u:Value),a.fzOk m->V G w a u->V G' w (a.fz m cs) u
 | .val v,u,_,hv=>by simpa only[AV.fz,V]using hv
 | .agg l,u,hi,hv=>by
  simp only[V,AV.fzOk,AV.fz]at hi hv ⊢
  obtain⟨vs,rfl,hl⟩:=hv
  exact⟨vs,rfl,VL.fz h hm hc l vs hi hl⟩
 | .tup l,u,hi,hv=>by
  simp only[V,AV.fzOk,AV.fz]at hi hv ⊢
  obtain⟨vs,rfl,hl⟩:=hv
  exact⟨vs,rfl,VL.fz h hm hc l vs hi hl⟩
 | .sl es n o,u,hi,hv=>V.less h (.sl es n o) u hi hv
 | .ip es,u,hi,hv=>V.less h (.ip es) u hi hv
 | .mp i off,u,hi,hv=>V.less h (.mp i off) u hi hv
 | .ms i off n c sz,u,hi,hv=>by
  simp only[AV.fz]
  cases hb:Nat.beq i m with
  |false=>
   rcases hi with⟨rfl,_⟩|hi
   ·simp at hb
   ·exact V.less h (.ms i off n c sz) u hi hv
  |true=>
   have:=Nat.eq_of_beq_eq_true hb
   subst this
   simp only[V,cond_true]at hv ⊢
   rcases hi with⟨_,e0⟩|hi
   ·subst e0
    rcases hv with⟨b,cap,hb',hn,o,rfl,hro⟩|⟨⟨e1,_⟩,hN,p,rfl⟩
    ·rcases hro with⟨eo,_⟩|⟨_,h0⟩
     ·subst eo
      exact⟨cap,Nat.le_trans hn.1 hn.2,.inr ⟨b,_,rfl,by simpa using hm b hb',trivial⟩⟩
     ·exact absurd h0 (Nat.lt_irrefl _)
    ·rw[hc hN]
     subst e1
     exact⟨0,Nat.le_refl 0,.inl ⟨rfl,(by first|rfl|trivial),(by first|rfl|trivial),rfl,trivial⟩⟩
   ·exact absurd hi (Nat.lt_irrefl _)
 | .obj i,u,hi,hv=>V.less h (.obj i) u hi hv
 | .clo g a b,u,hi,hv=>V.less h (.clo g a b) u hi hv
theorem VL.fz{G G':Gh}{w:World}{m:Nat}{cs:List AV}(h:Sub G G' (fun i=>i<m))(hm:∀b,G.ρ m=some b->VC G' w cs b 0)(hc:G.N m->cs=[]):∀(as0:List AV) (us:List Value),AV.fzOkL m as0->VL G w as0 us->VL G' w (AV.fzL m cs as0) us
 | [],[],_,_=>by simp only[AV.fzL,VL]
 |a::as0,u::us,hi,hv=>by
  simp only[VL,AV.fzOkL,AV.fzL]at hi hv ⊢
  exact⟨V.fz h hm hc a u hi.1 hv.1,VL.fz h hm hc as0 us hi.2 hv.2⟩
 | [],_::_,_,hv=>by simp only[VL]at hv
 |_::_,[],_,hv=>by simp only[VL]at hv
end
def zCF(m:Nat):List (Nat×yP)->List (Nat×yP)
 | []=>[]
 |p::l=>bif Nat.blt p.1 m then p::zCF m l else zCF m l
theorem gN{m:Nat}:∀(l:List (Nat×yP)) (i:Nat),look (zCF m l) i=if i<m then look l i else none
 | [],i=>by simp[zCF,look]
 |p::l,i=>by
  simp only[zCF]
  cases hb:Nat.blt p.1 m with
  |true=>
   have hb':p.1<m:=Nat.le_of_ble_eq_true hb
   simp only[cond_true,look,gN l i]
   cases he:Nat.beq i p.1 with
   |true=>have:=Nat.eq_of_beq_eq_true he;simp only[cond_true];rw[if_pos (by omega)]
   |false=>simp only[cond_false]
  |false=>
   have hb':¬p.1<m:=by intro h;rw[Nat.blt,Nat.ble_eq_true_of_le h]at hb;cases hb
   simp only[cond_false,look,gN l i]
   cases he:Nat.beq i p.1 with
   |true=>have:=Nat.eq_of_beq_eq_true he;rw[if_neg (by omega),if_neg (by omega)]
   |false=>simp only[cond_false]
def yP.alive:yP->Bool
 | .dead=>false
 |_=>true
theorem uN.freeze{P:Program}{f:FuncId}{H0 H1:List yP}{args cs:List AV}{res:AV}{nst:Nat}(h:uN P f H0 args res (H1++[.row cs]) nst)(hle:H0.length≤H1.length)(hH1:∀X∈H1,X.fine (fun i=>i<H1.length))(hcs:AV.DataL cs)(hr:res.fzOk H1.length)(hnd:H1.all yP.alive=true) :
  uN P f H0 args (res.fz H1.length cs) H1 nst:=by
 intro G0 W cargs hB hR hv
 refine(h G0 W cargs hB hR hv).mono ?_
 rintro e W' ⟨u,G',s',rfl,hE,hR',hu,hb,ho⟩
 have hm:look s'.H H1.length=some (.row cs):=hb H1.length _ (by simp)
 have hm':(yS (wQ 0) s').H H1.length=some (.row cs):=by rw[xF];exact hm
 have real:∀b,G'.ρ H1.length=some b->¬G'.F b∧∃us:List Value,us.length=cs.length∧VL G' W' cs us∧∀i (hi:i<us.length),W'.cell? ⟨b,0+i,none⟩=some us[i]:=by
  intro b hρ
  obtain⟨hF,vs,T,hh,us,rest,hus,hvl⟩:=hR'.blk H1.length b _ hρ hm'
  refine⟨hF,us,VL.length _ _ hvl,hvl,fun i hi=>?_⟩
  have:vs[i]? = some us[i]:=by
   have h1:vs.toList[i]? = some us[i]:=by rw[hus,List.getElem?_append_left hi,List.getElem?_eq_getElem hi]
   simpa using h1
  rw[Nat.zero_add]
  simp[World.cell?,hh,this]
 have hNn:G'.N H1.length->cs=[]:=fun e=>yP.void_row (hR'.Nvoid e hm')
 let G'':Gh:={ G' with ρ:=fun i=>if i<H1.length then G'.ρ i else none,L:=fun c o=>G'.L c o∨(G'.ρ H1.length=some c∧o<cs.length),N:=fun i=>i<H1.length∧G'.N i }
 have hS:Sub G' G'' (fun i=>i<H1.length):=⟨rfl,fun i b hi e=>by show (if i<H1.length then G'.ρ i else none)=_;rw[if_pos hi];exact e,fun _ _ e=>e,fun _ _ e=>.inl e,fun _ hi e=>⟨hi,e⟩⟩
 have hC:∀b,G'.ρ H1.length=some b->VC G'' W' cs b 0:=fun b hρ=>by
  obtain⟨_,us,hlen,hvl,hcell⟩:=real b hρ
  exact VC.of_cells cs us b 0 (VL.data hS.L cs us hcs hvl) (fun i hi=>.inr ⟨hρ,by omega⟩) hcell
 have hσ:∀i,(yS (wQ 0) { s' with H:=zCF H1.length s'.H }).H i=if i<H1.length then look s'.H i else none:=fun i=>by rw[xF];exact gN _ _
 have hσ':∀i,(yS (wQ 0) s').H i=look s'.H i:=fun i=>xF _ _
 refine⟨u,G'',{ s' with H:=zCF H1.length s'.H },rfl,⟨fun i c hc=>?_,hE.τ,fun c o e=>.inl (hE.L c o e),hE.cell,hE.w0,hE.F,fun c o e=>?_,hE.room,fun i e=>?_⟩,⟨fun i=>?_,⟨H1.length,fun i hi=>?_⟩,fun i j c hi hj=>?_,fun i c X hi hX=>?_,fun c o hL=>?_,hR'.τns,fun k hk=>?_,hR'.ownd,hR'.below,hR'.base⟩,V.fz hS hC hNn _ _ hr hu,fun i X hX=>?_,ho⟩
 ·have hi:i<H0.length:=Nat.lt_of_not_le fun hge=>by rw[(hB.ρ i hge).1]at hc;cases hc
  show (if i<H1.length then G'.ρ i else none)=_
  rw[if_pos (by omega)];exact hE.ρ i c hc
 ·rcases e with e|⟨e,_⟩
  ·exact hE.newL c o e
  ·exact .inr (by rw[←hE.F];exact(real c e).1)
 ·have hi:i<H0.length:=Nat.lt_of_not_le fun hge=>(hB.ρ i hge).2 e
  exact⟨by omega,hE.N i e⟩
 ·rw[hσ]
  show mX (if i<H1.length then G'.ρ i else none) (i<H1.length∧G'.N i) _
  have hd:=hR'.dom i
  rw[hσ']at hd
  split
  ·rename_i hi
   exact⟨fun q=>(hd.1 q).imp (fun r=>⟨hi,r⟩) id,fun q=>⟨(hd.2.1 q).1,fun r=>(hd.2.1 q).2 r.2⟩,fun r=>hd.2.2 r.2⟩
  ·rename_i hi
   exact⟨fun _=>.inr rfl,fun _=>⟨rfl,fun r=>hi r.1⟩,fun r=>absurd r.1 hi⟩
 ·rw[hσ,if_neg (by omega)]
 ·have hi':(if i<H1.length then G'.ρ i else none)=some c:=hi
  have hj':(if j<H1.length then G'.ρ j else none)=some c:=hj
  split at hi'
  ·split at hj'
   ·rename_i h1 h2
    rw[hσ,hσ,if_pos h1,if_pos h2,←hσ',←hσ']
    exact hR'.inj i j c hi' hj'
   ·cases hj'
  ·cases hi'
 ·have hi':(if i<H1.length then G'.ρ i else none)=some c:=hi
  split at hi'
  ·rename_i hlt
   rw[hσ,if_pos hlt]at hX
   obtain⟨q1,q2⟩:=hR'.blk i c X hi' (by rw[hσ'];exact hX)
   refine⟨q1,?_⟩
   have hget:(H1++[.row cs])[i]? = some H1[i]:=by rw[List.getElem?_append_left hlt,List.getElem?_eq_getElem hlt]
   have:=hb i _ hget
   rw[this]at hX;cases hX
   have hf:=hH1 _ (List.getElem_mem hlt)
   cases hY:H1[i]with
   |cells ds=>
    rw[hY]at q2 hf
    obtain⟨vs',T',q3,q4⟩:=q2
    exact⟨vs',T',q3,q4.imp fun us=>VL.less hS _ us hf⟩
   |obj o=>rw[hY]at q2;exact q2
   |row ds=>
    rw[hY]at q2 hf
    obtain⟨vs',T',q3,q4⟩:=q2
    exact⟨vs',T',q3,q4.imp fun us=>VL.data hS.L _ us hf⟩
   |dead=>rw[hY]at q2;exact q2
  ·cases hi'
 ·rcases hL with hL|⟨hρ,hlt⟩
  ·obtain⟨q1,q2⟩:=hR'.live c o hL
   refine⟨q1,fun i hi=>?_⟩
   have hi':(if i<H1.length then G'.ρ i else none)=some c:=hi
   split at hi'
   ·exact q2 i hi'
   ·cases hi'
  ·obtain⟨_,us,hlen,hvl,hcell⟩:=real c hρ
   refine⟨⟨us[o]'(by omega),?_⟩,fun i hi=>?_⟩
   ·have:=hcell o (by omega)
    rwa[Nat.zero_add]at this
   ·have hi':(if i<H1.length then G'.ρ i else none)=some c:=hi
    split at hi'
    ·rename_i hlt'
     have hi2:look s'.H i=some H1[i]:=hb i _ (by rw[List.getElem?_append_left hlt',List.getElem?_eq_getElem hlt'])
     rcases hR'.inj i H1.length c hi' hρ with this|this|this
     ·omega
     ·rw[hσ',hi2]at this
      have h3:=List.all_eq_true.1 hnd _ (List.getElem_mem hlt')
      rw[Option.some.inj this]at h3
      cases h3
     ·rw[hσ',hm]at this;cases this
    ·cases hi'
 ·obtain⟨c,f1,t,q1,q2|⟨q2,q3,q4,q5⟩⟩:=hR'.own k hk
  ·exact⟨c,f1,t,q1,.inl q2⟩
  ·refine⟨c,f1,t,q1,.inr ⟨q2,fun i hi=>?_,fun o h1 h2 hL=>?_,q5⟩⟩
   ·have hi':(if i<H1.length then G'.ρ i else none)=some c:=hi
    split at hi'
    ·exact q3 i hi'
    ·cases hi'
   ·rcases hL with hL|⟨hρ,_⟩
    ·exact q4 o h1 h2 hL
    ·exact q3 _ hρ
 ·have hlt:=(List.getElem?_eq_some_iff.1 hX).1
  show look (zCF H1.length s'.H) i=some X
  rw[gN,if_pos hlt]
  exact hb i X (by rw[List.getElem?_append_left hlt];exact hX)
theorem CT.freeze{P:Program}{f:FuncId}{H0 H1:List yP}{args cs:List AV}{res res':AV}{nst:Nat}(h:CT P f H0 args res (H1++[.row cs]) nst)(hle:H0.length≤H1.length)(hH1:∀X∈H1,X.fine (fun i=>i<H1.length))(hcs:AV.DataL cs)(hr:res.fzOk H1.length)(hnd:H1.all yP.alive=true)(e:res.fz H1.length cs=res') :
  CT P f H0 args res' H1 nst:=by
 subst e
 exact⟨h.tri.freeze hle hH1 hcs hr hnd,h.args,h.H0,AV.fz_fine hcs _ hr,hH1⟩
theorem zJu{G0 G':Gh}{W W':World}{s':yW}{u:Value}(sz:Nat)(hB:lR (0:Nat) G0)(hE:wF G0 W G' W')(hR':yI G' (yS (wQ 0) s') W')(hu:∃cap b o,(cap=0)∧(u = .slice (jK u) 0 0∨u = .slice (some ⟨b,o,none⟩) 0 cap)) :
  ∃u' G'' s'',Ending.returned u = .returned u'∧wF G0 W G'' W'∧yI G'' (yS (wQ 0) s'') W'∧V G'' W' (.sl [] 0 (.st 0 sz)) u'∧(∀i X,([]:List yP)[i]? = some X->look s''.H i=some X)∧∀k,k<1->s''.own.any (Nat.beq k)=true:=by
 let G'':Gh:={ G' with ρ:=fun _=>none,τ:=fun k=>if k=0 then some (0,1,0)else none,N:=fun _=>False }
 refine⟨u,G'',{ s' with H:=[],own:=[0],ns:=1 },rfl,⟨fun i c hc=>?_,fun k r hk=>?_,hE.L,hE.cell,hE.w0,hE.F,hE.newL,fun i c m hc=>?_,fun i e=>absurd e (hB.ρ i (Nat.zero_le _)).2⟩,⟨fun i=>?_,⟨0,fun i _=>?_⟩,fun i j c hi=>?_,fun i c X hi=>?_,fun c o hL=>?_,fun k hk=>?_,fun k hk=>?_,fun k k' _ _ _ _ _ hk hk'=>?_,hR'.below,hR'.base⟩,?_,fun i X hX=>?_,fun k hk=>?_⟩
 ·rw[(hB.ρ i (Nat.zero_le _)).1]at hc;cases hc
 ·rw[hB.τ k]at hk;cases hk
 ·rw[(hB.ρ i (Nat.zero_le _)).1]at hc;cases hc
 ·rw[xF];exact⟨fun _=>.inr rfl,fun _=>⟨rfl,id⟩,fun e=>e.elim⟩
 ·rw[xF];rfl
 ·cases hi
 ·cases hi
 ·exact⟨(hR'.live c o hL).1,fun i hi=>by cases hi⟩
 ·have hk1:1≤k:=hk
  show (if k=0 then some (0,1,0)else none)=none
  rw[if_neg (by omega)]
 ·rw[uZ]at hk
  have e:k=0:=by simpa using hk
  subst e
  exact⟨0,1,0,rfl,.inl (by decide)⟩
 ·rw[uZ]at hk hk'
  have e:k=0:=by simpa using hk
  have e':k'=0:=by simpa using hk'
  intros;omega
 ·obtain⟨cap,b,o,rfl,hu|rfl⟩:=hu
  ·simp only[V]
   exact⟨0,Nat.le_refl 0,.inl ⟨(by trivial),(by trivial),(by trivial),hu,_,rfl⟩⟩
  ·simp only[V]
   exact⟨0,Nat.le_refl 0,.inl ⟨(by trivial),(by trivial),(by trivial),(by first|rfl|trivial),_,rfl⟩⟩
 ·cases hX
 ·have:k=0:=by omega
  subst this;rfl
theorem uN.freezeZ{P:Program}{f:FuncId}{args cs:List AV}{n c sz:Nat}(h:uN P f [] args (.ms 0 0 n c sz) [.row cs] 0)(hn0:n=0) :
  uN P f [] args (.sl [] 0 (.st 0 sz)) [] 1:=by
 intro G0 W cargs hB hR hv
 refine(h G0 W cargs hB hR hv).mono ?_
 rintro e W' ⟨u,G',s',rfl,hE,hR',hu,hb,-⟩
 have hm:look s'.H 0=some (.row cs):=hb 0 _ (by simp)
 have hm':(yS (wQ 0) s').H 0=some (.row cs):=by rw[xF];exact hm
 simp only[V]at hu
 rcases hu with⟨b,cap,hρ,hn,o,rfl,hro⟩|⟨⟨e0,_⟩,hN,p,rfl⟩
 rotate_left
 ·have hcs0:=yP.void_row (hR'.Nvoid hN hm')
  subst e0
  try subst hcs0
  exact zJu sz hB hE hR' ⟨0,0,0,rfl,.inl rfl⟩
 obtain⟨hF,vs,T,hh,us,rest,hus,hvl⟩:=hR'.blk 0 b _ hρ hm'
 have hlen:=VL.length _ _ hvl
 rcases hro with⟨rfl,vs2,T2,hh2,hroom⟩|⟨_,h0⟩
 rotate_left
 ·exact absurd h0 (Nat.lt_irrefl _)
 rw[hh]at hh2;cases hh2
 let G'':Gh:={ G' with ρ:=fun _=>none,τ:=fun k=>if k=0 then some (b,0+0,0+cap*sz)else none,N:=fun _=>False }
 refine⟨_,G'',{ s' with H:=[],own:=[0],ns:=1 },rfl,⟨fun i c hc=>?_,fun k r hk=>?_,hE.L,hE.cell,hE.w0,hE.F,hE.newL,fun i c m hc=>?_,fun i e=>absurd e (hB.ρ i (Nat.zero_le _)).2⟩,⟨fun i=>?_,⟨0,fun i _=>?_⟩,fun i j c hi=>?_,fun i c X hi=>?_,fun c o hL=>?_,fun k hk=>?_,fun k hk=>?_,fun k k' _ _ _ _ _ hk hk'=>?_,hR'.below,hR'.base⟩,?_,fun i X hX=>?_,fun k hk=>?_⟩
 ·rw[(hB.ρ i (Nat.zero_le _)).1]at hc;cases hc
 ·rw[hB.τ k]at hk;cases hk
 ·rw[(hB.ρ i (Nat.zero_le _)).1]at hc;cases hc
 ·rw[xF];exact⟨fun _=>.inr rfl,fun _=>⟨rfl,id⟩,fun e=>e.elim⟩
 ·rw[xF];rfl
 ·cases hi
 ·cases hi
 ·exact⟨(hR'.live c o hL).1,fun i hi=>by cases hi⟩
 ·have hk1:1≤k:=hk
  show (if k=0 then some (b,0+0,0+cap*sz)else none)=none
  rw[if_neg (by omega)]
 ·rw[uZ]at hk
  have e:k=0:=by simpa using hk
  subst e
  exact⟨b,0+0,0+cap*sz,rfl,.inr ⟨hF,fun i hi=>(by cases hi),fun o h1 h2 hL=>(hR'.live b o hL).2 0 hρ,vs,T,hh,hroom⟩⟩
 ·rw[uZ]at hk hk'
  have e:k=0:=by simpa using hk
  have e':k'=0:=by simpa using hk'
  intros;omega
 ·simp only[V]
  subst hn0
  exact⟨cap,Nat.zero_le _,.inr ⟨b,0,rfl,by simp only[VC],⟨_,rfl⟩,.inr ⟨by simp,hF,rfl⟩⟩⟩
 ·cases hX
 ·have:k=0:=by omega
  subst this;rfl
theorem CT.freezeZ{P:Program}{f:FuncId}{args cs:List AV}{n c sz:Nat}(h:CT P f [] args (.ms 0 0 n c sz) [.row cs] 0)(hn0:n=0):CT P f [] args (.sl [] 0 (.st 0 sz)) [] 1:=
 ⟨h.tri.freezeZ hn0,h.args,h.H0,trivial,fun _ h=>nomatch h⟩
def gmk{α:Type}(B:Int)(d:α)(n:Int):Option (List α):=if 0≤n∧n*B≤140737488355328 then some (List.replicate n.toNat d)else none
def zLe(n:Nat)(i:Int):Option Nat:=if 0≤i∧i<n then some i.toNat else none
def zLd{α:Type}(l:List α)(k:Nat)(x:α):Option (List α):=if k<l.length then some (l.set k x)else none
def gfz{α:Type}(n:Nat)(l:List α):Option (List α):=if l.length=n then some l else none
theorem P5{α:Type}{n:Nat}{l r:List α}(h:gfz n l=some r):r=l∧n=r.length:=by
 unfold gfz at h
 split at h
 ·rename_i e;cases h;exact⟨rfl,e.symm⟩
 ·cases h
theorem v6{f:Nat->AV}{s:Nat}(hs:0<s):∀n:Nat,(List.range (n*s)).map (fun j=>f (j % s))=(List.replicate n ((List.range s).map f)).flatten
 |0=>by simp
 |n+1=>by
  rw[Nat.add_mul,Nat.one_mul,List.range_add,List.map_append,v6 hs n,List.replicate_succ',List.flatten_append]
  congr 1
  simp only[List.map_map,List.flatten_cons,List.flatten_nil,List.append_nil]
  apply List.map_congr_left
  intro j hj
  have:j<s:=List.mem_range.1 hj
  simp[Function.comp,Nat.add_comm (n*s) j,Nat.mod_eq_of_lt this]
theorem zCG{α:Type}{c:α->List AV}{d:α}:∀n:Nat,(List.replicate n (c d)).flatten=zG c (List.replicate n d)
 |0=>rfl
 |n+1=>by simp only[List.replicate_succ,List.flatten_cons,zG,List.flatMap_cons];rw[zCG n];rfl
theorem zSi{P:Program}{α:Type}{c:α->List AV}{sz:Nat}{t e:TypeId}{ie:TypeInfo}{z:Value}(ht:P.underlying t=some (.slice e))(hi:P.info? e=some ie)(hs:ie.size=sz)(hz:ie.zero=some z)(hzs:z.cells.size=sz)(h1:1≤sz){B:Nat}(hb:ie.bytes=B)(hB:1≤B){d:α}
  (hd:(List.range sz).map (fun j=>(ofV 8 (z.cells.getD j undef)).frz)=c d) {n:Int} {l:List α} (h:gmk (B:Int) d n=some l):Ob.ok P (.mk (qM P t (ai n) (ai n)) (zG c l) l.length):=by
 unfold gmk at h
 split at h
 ·rename_i hc
  cases h
  show qM P t (ai n) (ai n)=some (zG c (List.replicate n.toNat d),(List.replicate n.toNat d).length)
  unfold qM
  simp only[ht,hi,hz]
  have hb':(B:Int)≥1:=by omega
  have hn:n≤n*B:=by
   have:=Int.mul_le_mul_of_nonneg_left hb' hc.1
   simpa using this
  rw[if_pos ⟨trivial,hc.1,by rw[hb];exact hc.2,by omega,by rw[hzs,hs],by rw[hs];exact h1⟩]
  simp only[List.length_replicate,Option.some.injEq,Prod.mk.injEq,and_true]
  rw[hs,hzs,v6 h1 (f:=fun j=>(ofV 8 (z.cells.getD j undef)).frz),hd,zCG]
 ·cases h
theorem zTr{P:Program}{t e:TypeId}{ie:TypeInfo}(ht:P.underlying t=some (.slice e))(hi:P.info? e=some ie){sz:Nat}(hs:ie.size=sz){b n k c z:Nat}{i:Int}(h:zLe n i=some k) :
  xW P t (.ms b 0 n c z) (ai i)=some (.mp b (k*sz)):=by
 unfold zLe at h
 split at h
 ·rename_i hc
  cases h
  unfold xW
  simp only[ht,hi]
  rw[if_pos hc,hs,Nat.zero_add]
 ·cases h
theorem zCH{α:Type}{c:α->List AV}{sz:Nat}(hc:∀x,(c x).length=sz):∀(l:List α) (k:Nat) (x:α),k<l.length->splice (zG c l) (k*sz) (c x)=zG c (l.set k x)
 | [],k,x,h=>by simp at h
 |y::l,0,x,h=>by
  simp only[splice,Nat.zero_mul,List.take_zero,List.nil_append,Nat.zero_add,zG,List.flatMap_cons,List.set_cons_zero]
  rw[List.drop_left' (by rw[hc,hc])]
 |y::l,k+1,x,h=>by
  have ih:=zCH hc l k x (by simpa using h)
  simp only[splice,zG]at ih
  simp only[splice,zG,List.flatMap_cons,List.set_cons_succ]
  rw[←ih]
  have e:(k+1)*sz=sz+k*sz:=by rw[Nat.add_mul,Nat.one_mul,Nat.add_comm]
  rw[e,List.take_append,List.take_of_length_le (by rw[hc];omega),hc,Nat.add_sub_cancel_left,show sz+k*sz+(c x).length=sz+(k*sz+(c x).length) by omega,←List.drop_drop,List.drop_left' (hc y)]
  simp only[List.append_assoc]
theorem zOX{P:Program}{α:Type}{c:α->List AV}{sz:Nat}(hc:vS c sz){l l2:List α}{k:Nat}{x:α}(h:zLd l k x=some l2):Ob.ok P (.wt (zG c l) (k*sz) (.agg (c x)) sz (zG c l2)):=by
 unfold zLd at h
 split at h
 ·rename_i hk
  cases h
  refine⟨hc.one x,hc.len x,?_,zCH hc.len l k x hk⟩
  rw[uD hc.len]
  have:=Nat.mul_le_mul_right sz (show k+1≤l.length from hk)
  rw[Nat.add_mul,Nat.one_mul]at this
  exact this
 ·cases h
theorem zCI{P:Program}{α:Type}{c:α->List AV}{sz:Nat}(hc:vS c sz){t e:TypeId}{ie:TypeInfo}(ht:P.underlying t=some (.slice e))(hi:P.info? e=some ie)(hs:ie.size=sz){l r:List α}{b:Int}{k k':IntKind}
  {o:sD} (h:nE l 0 b=some r):vL P t (.sl (zG c l) l.length o) none (some (.val (.int k b))) (some (.val (.int k' b)))=some (.sl (zG c r) r.length .full):=by
 obtain⟨_,h1,h2,rfl⟩:=O6 h
 subst hs
 have key:vL P t (.sl (zG c l) l.length o) none (some (.val (.int k b))) (some (.val (.int k' b)))=some (.sl (zG c (l.take b.toNat)) (l.take b.toNat).length (o.cut 0 b.toNat (Nat.beq b.toNat l.length) (Nat.beq b.toNat b.toNat))):=by
  unfold vL
  simp only[ht,hi,amx,A6,xX]
  rw[if_pos ⟨h1,h2⟩]
  simp only[Option.map_some]
  have hbb:(0≤b∧b≤(b.toNat:Nat)):=⟨h1,by omega⟩
  rw[if_pos hbb]
  simp only[Option.isSome_some,Option.isNone_some,Bool.false_eq_true,and_false,if_false]
  rw[if_pos (by rw[uD hc.len];simp)]
  simp only[Nat.sub_zero,Nat.zero_mul,List.drop_zero,Bool.true_and]
  rw[gM hc.len]
  have hl:(l.take b.toNat).length=b.toNat:=by simp;omega
  rw[hl]
 rw[key]
 simp only[sD.cut,Nat.beq_refl,if_true,Int.sub_zero,Int.toNat_zero,List.drop_zero]
def zLc(n:Nat)(a b:Int):Option (Nat×Nat):=if 0≤a∧a≤b∧b≤n then some (a.toNat,(b-a).toNat)else none
theorem zJt{n:Nat}{a b:Int}{r:Nat×Nat}(h:zLc n a b=some r):0≤a∧a≤b∧b≤n∧r.1=a.toNat∧r.2=b.toNat-a.toNat:=by
 unfold zLc at h
 split at h
 ·rename_i q
  cases h
  exact⟨q.1,q.2.1,q.2.2,rfl,by show (b-a).toNat=_;omega⟩
 ·cases h
theorem zLb{P:Program}{t e:TypeId}{ie:TypeInfo}(ht:P.underlying t=some (.slice e))(hi:P.info? e=some ie){sz:Nat}(hs:ie.size=sz)(h1:1≤sz){b off n c:Nat}{y:Int}{r:Nat×Nat}(h:zLc c 0 y=some r) :
  vL P t (.ms b off n c sz) none (some (ai y)) none=some (.ms b off r.2 c sz):=by
 obtain⟨q1,q2,q3,q4,q5⟩:=zJt h
 subst hs
 have h2:xX c c (some (ai y))=some y.toNat:=by
  show (if 0≤y∧y≤(c:Int)then some y.toNat else none)=_
  rw[if_pos ⟨by omega,q3⟩]
 unfold vL
 simp only[ht,hi,amx,show msb n c (some (ai y)) none=c from rfl,h2]
 rw[if_neg (by simp)]
 simp only[xX]
 rw[if_pos ⟨trivial,h1⟩,q5]
 simp
theorem wtE{P:Program}{α:Type}{c:α->List AV}{sz:Nat}(hc:vS c sz){l l2:List α}{k:Nat}{x:α}{cs:List AV}(he:c x=cs)(h:zLd l k x=some l2):Ob.ok P (.wt (zG c l) (k*sz) (.agg cs) sz (zG c l2)):=he▸zOX hc h
theorem zJs{P:Program}{α:Type}{c:α->List AV}{sz:Nat}(hc:vS c sz){t e:TypeId}{ie:TypeInfo}{z:Value}(ht:P.underlying t=some (.slice e))(hi:P.info? e=some ie)(hs:ie.size=sz)(hz:ie.zero=some z)(hzs:z.cells.size=sz)(h1:1≤sz){B:Nat}(hb:ie.bytes=B)(hB:1≤B)
  {l m r:List α} (h:xB B l m=some r) (hm:m.length≠0) (z1:Option Nat) (hz1:∀q,z1=some q->q=sz) (src:Option (Nat×Nat×Nat)) (hsrc:∀q,src=some q->q.2.2=sz) :
  zAq P t t z1 (zG c l) l.length src (zG c m) m.length=some (zG c r,r.length):=by
 obtain⟨h2,rfl⟩:=rC h
 subst hs
 subst hb
 have h3:(l.length+m.length)*1≤(l.length+m.length)*ie.bytes:=Nat.mul_le_mul_left _ hB
 unfold zAq
 simp only[ht,hi,hz]
 rw[if_pos ⟨trivial,uD hc.len l,uD hc.len m,h1,hzs,h2,by omega,O4 hc.one m,hm,hz1,hsrc⟩,O5,List.length_append]
theorem zLa{P:Program}{α:Type}{c:α->List AV}{sz:Nat}(hc:vS c sz){t e:TypeId}{ie:TypeInfo}{z:Value}(ht:P.underlying t=some (.slice e))(hi:P.info? e=some ie)(hs:ie.size=sz)(hz:ie.zero=some z)(hzs:z.cells.size=sz)(h1:1≤sz){B:Nat}(hb:ie.bytes=B)(hB:1≤B)
  {m r:List α} (h:xB B ([]:List α) m=some r) (hm:m.length≠0):Ob.ok P (.mk (zAq P t t none [] 0 none (zG c m) m.length) (zG c r) r.length):=
 zJs hc ht hi hs hz hzs h1 hb hB h hm none (fun _ h=>nomatch h) none (fun _ h=>nomatch h)
theorem zOY{P:Program}{t e:TypeId}{ie:TypeInfo}(ht:P.underlying t=some (.slice e))(hi:P.info? e=some ie){n:Nat}(h:n=0):Ob.ok P (.same t t n):=⟨rfl,h,e,ie,ht,hi⟩
abbrev zH {α:Type} (c:α->List AV) (l:List α) (o:sD):AV:=.sl (zG c l) l.length o
abbrev A5 (n:Nat):List lS:=List.replicate n .no
structure OL (P:Program) (os:List lS) (ob:List Ob):Prop where
 ok:yF P ob
theorem yF.rev{P:Program}:∀(a b:List Ob),yF P a->yF P b->yF P (a.reverseAux b)
 | [],_,_,k=>k
 |x::a,b,h,k=>yF.rev a (x::b) h.2 ⟨h.1,k⟩
section
variable {P:Program} {os:List lS} {ob:List Ob}
theorem OL.nil:OL P [] []:=⟨trivial⟩
theorem oB{b b':Bool}(n:Nat)(h:b=b')(k:OL P os ob):OL P (.bit b'::(A5 n++os)) (.bit b b'::ob):=⟨⟨h,k.ok⟩⟩
theorem oA{x:Option AV}{a:AV}(n:Nat)(h:x=some a)(k:OL P os ob):OL P (.av a::(A5 n++os)) (.av x a::ob):=⟨⟨h,k.ok⟩⟩
theorem oC{f:FuncId}{H0:List yP}{args:List AV}{res:AV}{H1:List yP}{nst:Nat}(n:Nat)(ι:List Nat)(h:CT P f H0 args res H1 nst)(k:OL P os ob):OL P (.call ι H1 nst res none::(A5 n++os)) (.call f H0 args res H1 nst::ob):=⟨⟨h,k.ok⟩⟩
theorem oK{b b':Bool}{f:FuncId}{H0:List yP}{args:List AV}{res:AV}{H1:List yP}{nst:Nat}(n:Nat)(ι:List Nat)(hb:b=b')(h:CT P f H0 args res H1 nst)(k:OL P os ob):OL P (.call ι H1 nst res (some b')::(A5 n++os)) (.call f H0 args res H1 nst :: .bit b b'::ob):=⟨⟨h,hb,k.ok⟩⟩
theorem oF{x:Option AV}{a:AV}(n:Nat)(h:∃a0,x=some a0∧a0.frz=a)(k:OL P os ob):OL P (.fz a::(A5 n++os)) (.fz x a::ob):=⟨⟨h,k.ok⟩⟩
theorem oP{t t2:TypeId}{es es2 es':List AV}{n1 n2 n' sz:Nat}{e:Bool}(n:Nat)(h:Ob.ok P (.app t t2 es es2 es' n1 n2 n' sz e))(k:OL P os ob):OL P (.app es' n' sz e::(A5 n++os)) (.app t t2 es es2 es' n1 n2 n' sz e::ob):=⟨⟨h,k.ok⟩⟩
theorem oS{cs es:List AV}{l m:Nat}(n:Nat)(h:Ob.ok P (.cells cs es l m))(k:OL P os ob):OL P (.sl es m::(A5 n++os)) (.cells cs es l m::ob):=⟨⟨h,k.ok⟩⟩
theorem oL{t:TypeId}{X:yP}{key:AV}{o:Bool}{a:AV}(n:Nat)(h:Ob.ok P (.lk t X key o a))(k:OL P os ob):OL P (.lk a::(A5 n++os)) (.lk t X key o a::ob):=⟨⟨h,k.ok⟩⟩
theorem oU{t:TypeId}{X Y:yP}{key v:AV}(n:Nat)(h:Ob.ok P (.mu t X key v Y))(k:OL P os ob):OL P (.mu Y::(A5 n++os)) (.mu t X key v Y::ob):=⟨⟨h,k.ok⟩⟩
theorem oM{x:Option (List AV×Nat)}{cs:List AV}{m:Nat}(n:Nat)(h:Ob.ok P (.mk x cs m))(k:OL P os ob):OL P (.mk cs m::(A5 n++os)) (.mk x cs m::ob):=⟨⟨h,k.ok⟩⟩
theorem oMc{x:Option (List AV×Nat)}{cs:List AV}{m:Nat}(n:Nat)(h:Ob.ok P (.mk x cs m))(k:OL P os ob):OL P (.mkc cs m::(A5 n++os)) (.mk x cs m::ob):=⟨⟨h,k.ok⟩⟩
theorem oW{cs:List AV}{off:Nat}{v:AV}{sz:Nat}{cs':List AV}(n:Nat)(h:Ob.ok P (.wt cs off v sz cs'))(k:OL P os ob):OL P (.wt cs'::(A5 n++os)) (.wt cs off v sz cs'::ob):=⟨⟨h,k.ok⟩⟩
theorem oQ{t t2:TypeId}{m:Nat}(n:Nat)(h:Ob.ok P (.same t t2 m))(k:OL P os ob):OL P (.same::(A5 n++os)) (.same t t2 m::ob):=⟨⟨h,k.ok⟩⟩
theorem oD{es:List AV}(h:AV.DataL es)(k:OL P os ob):OL P os (.data es::ob):=⟨⟨h,k.ok⟩⟩
end
theorem zK{α:Type}{b:Bool}{x y:Option α}{r:α}(h:(if b=true then x else y)=some r):(b=true∧x=some r)∨(b=false∧y=some r):=by
 cases b
 ·exact .inr ⟨rfl,by simpa using h⟩
 ·exact .inl ⟨rfl,by simpa using h⟩
theorem sO{α:Type}{b:Bool}{x:Option α}{r:α}(h:(if b=true then x else none)=some r):b=true∧x=some r:=by
 rcases zK h with h|⟨_,h⟩
 ·exact h
 ·cases h
theorem yY{α:Type}{b:Bool}{x:Option α}{r:α}(h:(if b=true then none else x)=some r):b=false∧x=some r:=by
 rcases zK h with⟨_,h⟩|h
 ·cases h
 ·exact h
theorem nn{α:Type}{r:α}{p:Prop}(h:(none:Option α)=some r):p:=nomatch h
theorem zOZ{α:Type}{b:Bool}{x y:α}(h:b=true):(if b=true then x else y)=x:=if_pos h
theorem zLA{α:Type}{b:Bool}{x y:α}(h:b=false):(if b=true then x else y)=y:=by subst h;rfl
theorem sj{α:Type}{x y:α}(h:some x=some y):x=y:=Option.some.inj h
def sp(j:Nat->Value):Nat->Nat->List (Nat×AV)->List AV
 |0,_,_=>[]
 |n+1,i,l=>match l with
  | []=>.val (j i)::sp j n (i+1) []
  | (m,a)::l'=>bif Nat.beq m i then a::sp j n (i+1) l' else .val (j i)::sp j n (i+1) l
section
variable {P:Program} {pr:FuncId->List AV->yW->Option LA} (hp:qL P pr) (hm:P.follows .mixedOrders=true) {na:Nb} {fn:Func} {f:FuncId}
include hp hm
theorem OL.toHead{H0 H1:List yP}{args:List AV}{res:AV}{nst:Nat}(q:P.funcs[f]? = some fn∧fn.body.isNone=false)(m:Nat)(rs:List (Option Nat×Nat×Nat))(keep ks live:List Nat){os:List lS}{ob:List Ob}(k:OL P os ob){c:Code}{fs':List Fr}{E:(Nat->Value)->List AV}{S:yW}
  (hk:∀j,Dl P H0.length c (E j) S (vE P H0.length (O3 P H0.length fn res H1 nst) fs'))
  (h:∀j,iA P pr H0.length 3000 (.run (vI fn)) [] (args++List.replicate (fn.ntmps-args.length) (.val undef)) (F4 H0) ((A5 m++os).reverseAux []) rs keep ks live j=some (c,fs',E j,S,ob.reverseAux [])):uN P f H0 args res H1 nst:=
 uN.toHead hp hm q.1 q.2 3000 _ rs keep ks live h (yF.rev _ _ k.ok trivial) hk
theorem OL.toFin{H0 H1:List yP}{args:List AV}{res:AV}{nst:Nat}(q:P.funcs[f]? = some fn∧fn.body.isNone=false)(m:Nat)(rs:List (Option Nat×Nat×Nat))(keep ks:List Nat)(own:Bool){os:List lS}{ob:List Ob}(k:OL P os ob)
  (h:eK P pr H0.length fn 3000 (.run (vI fn)) [] (args++List.replicate (fn.ntmps-args.length) (.val undef)) (F4 H0) ((A5 m++os).reverseAux []) rs keep ks own=some (res,H1,ob.reverseAux [])) (hn:nst≤ks.length):uN P f H0 args res H1 nst:=
 uN.toFin hp hm q.1 q.2 3000 _ rs keep ks own h (yF.rev _ _ k.ok trivial) hn
theorem OL.lHead{Q:AX->List AV->yW->Prop}{c c':Code}{fs fs':List Fr}{env:List AV}{s S:yW}(m:Nat)(rs:List (Option Nat×Nat×Nat))(keep ks live:List Nat){os:List lS}{ob:List Ob}(k:OL P os ob){E:(Nat->Value)->List AV}
  (hk:∀j,Dl P na c' (E j) S (vE P na Q fs')) (h:∀j,iA P pr na.n 3000 (.run c) (.loop c::fs) env s ((A5 m++os).reverseAux []) rs keep ks live j=some (c',fs',E j,S,ob.reverseAux [])):Dl P na c env s (vE P na Q fs):=
 Dl.toHead hp hm 3000 _ rs keep ks live h (yF.rev _ _ k.ok trivial) hk
theorem OL.lFin{c:Code}{fs:List Fr}{env:List AV}{s:yW}{res:AV}{H1:List yP}{nst:Nat}(m:Nat)(rs:List (Option Nat×Nat×Nat))(keep ks:List Nat)(own:Bool){os:List lS}{ob:List Ob}(k:OL P os ob)
  (h:eK P pr na.n fn 3000 (.run c) (.loop c::fs) env s ((A5 m++os).reverseAux []) rs keep ks own=some (res,H1,ob.reverseAux [])) (hn:nst≤ks.length):Dl P na c env s (vE P na (O3 P na fn res H1 nst) fs):=
 Dl.toFin hp hm 3000 _ rs keep ks own h (yF.rev _ _ k.ok trivial) hn
end
def gbs(s:ByteArray):List U8:=s.data.toList.map fun b=>(b.toNat:Int)
theorem cY(s:ByteArray):(gbs s).length=s.size:=by unfold gbs;rw[List.length_map,Array.length_toList];rfl
theorem zFm(s:ByteArray):pF s=zG fE (gbs s):=by
 unfold pF gbs
 generalize s.data.toList=l
 induction l with
 |nil=>rfl
 |cons b l ih=>
  unfold zG at ih ⊢
  rw[List.map_cons,List.map_cons,List.flatMap_cons,ih];rfl
def zTq(a b:ByteArray):Option ByteArray:=if a.size+b.size≤4294967296 then some (a++b)else none
theorem zTp{P:Program}{t:TypeId}{a b r:ByteArray}(h:zTq a b=some r):M6 P .add t (at' a) (at' b)=some (at' r):=by
 unfold zTq at h
 split at h
 ·rename_i hc
  cases h
  unfold M6 zSS
  simp only[at',if_pos hc]
 ·cases h
section
variable {P:Program} {t t2 e:TypeId} {ie:TypeInfo} {z:Value}
theorem zCJ(ht:P.underlying t=some (.slice e))(hu:P.underlying t2=some .string)(hi:P.info? e=some ie)(hs:ie.size=1)(hz:ie.zero=some z)(hzs:z.cells.size=1)(hb:ie.bytes=1)
  {l r:List U8} {bs:ByteArray} (h:xB 1 l (gbs bs)=some r) {o:sD} {s:yW} {ev:Operand->AV} :
  rI P t t2 ev (.sl (zG fE l) l.length o) bs s=bif Nat.beq bs.size 0 then some { ev:=ev,v:=.sl (zG fE l) l.length o }
     else
      match o with
      | .full=>some { ev:=ev,ns:=s.ns,new:=1,v:=.sl (zG fE r) r.length (.st s.ns 1) }
      | .nl=>some { ev:=ev,ns:=s.ns,new:=1,v:=.sl (zG fE r) r.length (.st s.ns 1) }
      | .st k sz'=>bif s.own.any (Nat.beq k)&&Nat.beq sz' 1 then some { ev:=ev,use:=[k],ns:=s.ns,new:=1,v:=.sl (zG fE r) r.length (.st s.ns 1) }else none
      |_=>none:=by
 obtain⟨h2,rfl⟩:=rC h
 rw[cY]at h2
 unfold rI
 simp only[ht,hu,hi,hz,hs,hb]
 have hcond:(Nat.beq (zG fE l).length (l.length*1)&&Nat.beq 1 1&&Nat.beq z.cells.size 1&&Nat.ble ((l.length+bs.size)*1) 140737488355328&&Nat.ble (l.length+bs.size) 4611686018427387904)=true:=by
  simp only[Bool.and_eq_true]
  exact⟨⟨⟨⟨by rw[uD zAn.len];simp,rfl⟩,by rw[hzs];rfl⟩,by simpa using h2⟩,by simp;omega⟩
 rw[hcond]
 simp only[cond_true,O5,List.length_append,cY,zFm]
 cases o<;>rfl
theorem zLB(ht:P.underlying t=some (.slice e))(hu:P.underlying t2=some .string)(hi:P.info? e=some ie)(hs:ie.size=1)(hz:ie.zero=some z)(hzs:z.cells.size=1)(hb:ie.bytes=1)
  {l r:List U8} {bs:ByteArray} (h:xB 1 l (gbs bs)=some r) (hm:bs.size≠0):Ob.ok P (.aps t t2 (zG fE l) bs (zG fE r) l.length r.length 1 false):=by
 intro ev s o
 rw[zCJ ht hu hi hs hz hzs hb h]
 cases hn:Nat.beq bs.size 0 with
 |true=>exact absurd (Nat.eq_of_beq_eq_true hn) hm
 |false=>cases o<;>rfl
theorem zLC(ht:P.underlying t=some (.slice e))(hu:P.underlying t2=some .string)(hi:P.info? e=some ie)(hs:ie.size=1)(hz:ie.zero=some z)(hzs:z.cells.size=1)(hb:ie.bytes=1)
  {l r:List U8} {bs:ByteArray} (h:xB 1 l (gbs bs)=some r) (hm:bs.size=0):Ob.ok P (.aps t t2 (zG fE l) bs (zG fE r) l.length r.length 1 true):=by
 intro ev s o
 rw[zCJ ht hu hi hs hz hzs hb h]
 obtain⟨_,rfl⟩:=rC h
 have:gbs bs=[]:=List.length_eq_zero_iff.1 (by rw[cY,hm])
 rw[hm,this,List.append_nil];rfl
end
section
variable {P:Program} {os:List lS} {ob:List Ob}
theorem zPz{s:ByteArray}{p:Nat}(h:p<s.size):Ob.ok P (.nx (.obj (.stringIter s p)) (.tup [ab true,ai (p:Int),.val (.int .i32 ((Utf8.decode s p).1:Nat))]) (some (.obj (.stringIter s (p+(Utf8.decode s p).2))))):=by
 intro ev i st hl
 unfold F1
 have hb:Nat.blt p s.size=true:=Nat.ble_eq_true_of_le h
 simp only[hl,hb,cond_true]
 rfl
theorem zPy{s:ByteArray}{p:Nat}(h:¬p<s.size):Ob.ok P (.nx (.obj (.stringIter s p)) (.tup [ab false]) none):=by
 intro ev i st hl
 unfold F1
 have hb:Nat.blt p s.size=false:=by
  cases hc:Nat.blt p s.size with
  |false=>rfl
  |true=>exact absurd (Nat.le_of_ble_eq_true hc) h
 simp only[hl,hb,cond_false]
 rfl
theorem oMz{x:Option (List AV×Nat)}{cs:List AV}{m:Nat}(n:Nat)(h:Ob.ok P (.mk x cs m))(k:OL P os ob):OL P (.mz cs m::(A5 n++os)) (.mk x cs m::ob):=⟨⟨h,k.ok⟩⟩
theorem oCx{f:FuncId}{H0:List yP}{args:List AV}{res:AV}{H1:List yP}{nst:Nat}(n:Nat)(ι:List Nat)(h:CT P f H0 args res H1 nst)(k:OL P os ob):OL P (.callx ι H1 nst res none::(A5 n++os)) (.call f H0 args res H1 nst::ob):=⟨⟨h,k.ok⟩⟩
theorem cD(n:Nat)(k:OL P os ob):OL P (.cl::(A5 n++os)) ob:=⟨k.ok⟩
theorem zXk{t t2:TypeId}{k:IntKind}(h2:P.underlying t2=some (.int k)){n:Int}(hp:n>0){cs:List AV}{m:Nat}(h:Ob.ok P (.mk (qM P t (ai n) (ai n)) cs m)):Ob.ok P (.mk (N7 P t t2 (ai n)) cs m):=by
 show N7 P t t2 (ai n)=some (cs,m)
 unfold N7
 rw[h2]
 simp only
 rw[if_pos (by omega)]
 exact h
theorem oX{X:yP}{v:AV}{Y:Option yP}(n:Nat)(h:Ob.ok P (.nx X v Y))(k:OL P os ob):OL P (.nx v Y::(A5 n++os)) (.nx X v Y::ob):=⟨⟨h,k.ok⟩⟩
theorem oPs{t t2:TypeId}{es es':List AV}{bs:ByteArray}{n1 n' sz:Nat}{e:Bool}(n:Nat)(h:Ob.ok P (.aps t t2 es bs es' n1 n' sz e))(k:OL P os ob):OL P (.app es' n' sz e::(A5 n++os)) (.aps t t2 es bs es' n1 n' sz e::ob):=⟨⟨h,k.ok⟩⟩
end
end Go.Ab
set_option linter.unusedSimpArgs false
namespace Go.Ab
open Go Go.RowKit
def slC{α:Type}(c:α->List AV)(l:List α):List AV:=[.sl (zG c l) l.length .no]
theorem zSh{α:Type}{c:α->List AV}{n:Nat}(h:vS c n):vS (slC c) 1:=⟨fun _=>rfl,fun l=>⟨⟨trivial,wP h.data l⟩,trivial⟩,fun _=>rfl⟩
theorem dSl{α:Type}{c:α->List AV}{n:Nat}(h:vS c n)(l:List (List α)):AV.DataL (zG (slC c) l):=wP (zSh h).data l
theorem wC{P:Program}{α:Type}{C L:α->List AV}(he:∀t,C t=L t)(l:List α):Ob.ok P (.cells (zG L l) (zG C l) l.length l.length):=⟨by rw[show L=C from funext fun t=>(he t).symm],rfl⟩
theorem zLD{P:Program}(cs:List AV)(n:Nat):Ob.ok P (.mk (some (cs,n)) cs n):=rfl
inductive zS where
 |mk (kind_:Int) (at_:Int) (name_:ByteArray) (n_:Int) (sub_:List zS)
def zS.kind_:zS->Int | .mk x _ _ _ _=>x
def zS.at_:zS->Int | .mk _ x _ _ _=>x
def zS.name_:zS->ByteArray | .mk _ _ x _ _=>x
def zS.n_:zS->Int | .mk _ _ _ x _=>x
def zS.sub_:zS->List zS | .mk _ _ _ _ x=>x
instance:Inhabited zS:=⟨.mk default default ⟨#[]⟩ default default⟩
mutual
def xI:zS->List AV
 | .mk kind_ at_ name_ n_ sub_=>[ai kind_,ai at_,at' name_,ai n_,.sl (qG sub_) sub_.length .no]
def qG:List zS->List AV
 | []=>[]
 |t::l=>xI t++qG l
end
theorem iC:∀l:List zS,qG l=zG xI l
 | []=>rfl
 |t::l=>by simp only[qG,iC l,zG,List.flatMap_cons]
def B6(x:zS):List AV:=[ai x.kind_,ai x.at_,at' x.name_,ai x.n_,zH xI x.sub_ .no]
theorem F7(x:zS):xI x=B6 x:=by
 cases x;simp only[xI,B6,zS.kind_,zS.at_,zS.name_,zS.n_,zS.sub_,iC,List.cons_append,List.nil_append]
def xV(x:zS):AV:=.agg (B6 x)
mutual
theorem fU:∀t:zS,AV.DataL (xI t)
 | .mk kind_ at_ name_ n_ sub_=>by rw[xI];exact⟨trivial,trivial,trivial,trivial,⟨trivial,iD sub_⟩,trivial⟩
theorem iD:∀l:List zS,AV.DataL (qG l)
 | []=>trivial
 |t::l=>by rw[qG];exact pK (fU t) (iD l)
end
theorem X9:vS xI 5:=⟨fun x=>by rw[F7];rfl,fU,fun x=>by rw[F7];rfl⟩
theorem zQ(l:List zS):AV.DataL (zG xI l):=wP X9.data l
structure yK where
 name_:ByteArray
 at_:Int
 type_:zS
instance:Inhabited yK:=⟨⟨⟨#[]⟩,default,default⟩⟩
def yQ(x:yK):List AV:=[at' x.name_,ai x.at_,ai x.type_.kind_,ai x.type_.at_,at' x.type_.name_,ai x.type_.n_,zH xI x.type_.sub_ .no]
def v7(x:yK):AV:=.agg (yQ x)
theorem qN:vS yQ 7:=⟨fun _=>rfl,fun _=>⟨trivial,trivial,trivial,trivial,trivial,trivial,⟨trivial,zQ _⟩,trivial⟩,fun _=>rfl⟩
theorem zN(l:List yK):AV.DataL (zG yQ l):=wP qN.data l
structure uE where
 at_:Int
 pats_:List zS
 has_:Bool
 body_:zS
instance:Inhabited uE:=⟨⟨default,default,default,default⟩⟩
def sP(x:uE):List AV:=[ai x.at_,zH xI x.pats_ .no,ab x.has_,ai x.body_.kind_,ai x.body_.at_,at' x.body_.name_,ai x.body_.n_,zH xI x.body_.sub_ .no]
theorem zAh:vS sP 8:=⟨fun _=>rfl,fun _=>⟨trivial,⟨trivial,zQ _⟩,trivial,trivial,trivial,trivial,trivial,⟨trivial,zQ _⟩,trivial⟩,fun _=>rfl⟩
theorem xD(l:List uE):AV.DataL (zG sP l):=wP zAh.data l
structure xG where
 kind_:Int
 at_:Int
 name_:ByteArray
 tele_:List yK
 type_:zS
 cons_:List yK
 rows_:List uE
instance:Inhabited xG:=⟨⟨default,default,⟨#[]⟩,default,default,default,default⟩⟩
def uC(x:xG):List AV:=[ai x.kind_,ai x.at_,at' x.name_,zH yQ x.tele_ .no,ai x.type_.kind_,ai x.type_.at_,at' x.type_.name_,ai x.type_.n_,zH xI x.type_.sub_ .no,zH yQ x.cons_ .no,zH sP x.rows_ .no]
def B7(x:xG):AV:=.agg (uC x)
theorem mJ:vS uC 11:=⟨fun _=>rfl,fun _=>⟨trivial,trivial,trivial,⟨trivial,zN _⟩,trivial,trivial,trivial,trivial,⟨trivial,zQ _⟩,⟨trivial,zN _⟩,⟨trivial,xD _⟩,trivial⟩,fun _=>rfl⟩
theorem gO(l:List xG):AV.DataL (zG uC l):=wP mJ.data l
structure zZ where
 kind_:Int
 text_:ByteArray
 at_:Int
instance:Inhabited zZ:=⟨⟨default,⟨#[]⟩,default⟩⟩
def zO(x:zZ):List AV:=[ai x.kind_,at' x.text_,ai x.at_]
def F8(x:zZ):AV:=.agg (zO x)
theorem pC:vS zO 3:=⟨fun _=>rfl,fun _=>⟨trivial,trivial,trivial,trivial⟩,fun _=>rfl⟩
theorem zL(l:List zZ):AV.DataL (zG zO l):=wP pC.data l
structure zCK where
 l_:List zZ
 i_:Int
 at_:Int
 bad_:Int
instance:Inhabited zCK:=⟨⟨default,default,default,default⟩⟩
structure zJr where
 l_:List yE
 parts_:List sF
instance:Inhabited zJr:=⟨⟨default,default⟩⟩
structure zCL where
 signs_:List Int
 at_:List Int
 i_:Int
instance:Inhabited zCL:=⟨⟨default,default,default⟩⟩
structure zCM where
 l_:List yE
 e_:Int
 at_:Int
instance:Inhabited zCM:=⟨⟨default,default,default⟩⟩
structure zJq where
 e_:Int
instance:Inhabited zJq:=⟨⟨default⟩⟩
end Go.Ab
namespace Go.Proofs.YtcckelpaoefonaaGreat
open Go Go.Ab Go.Proofs.Tryz
theorem P6(b:Bool):b=true∨b=false:=by cases b<;>simp
theorem zA{α:Type}{p:α->Prop}:∀x∈([]:List α),p x:=fun _ h=>nomatch h
theorem zD{α:Type}{p:α->Prop}{a:α}{l:List α}(h:p a)(k:∀x∈l,p x):∀x∈a::l,p x:=by
 intro x hx
 rcases List.mem_cons.1 hx with rfl|hx
 ·exact h
 ·exact k x hx
theorem o0:OL prog [] []:=OL.nil
abbrev mB (M:wV) (i:Nat):yP:=.cells [zH yA M.l .no,.mp i 0,zH zU M.args .no,zH zU M.own .no]
abbrev mR (M:wV):yP:=.cells [zH yA M.rl .no,zH qT M.parts .no]
theorem tv:True:=trivial
theorem lz{a b:Nat}(h:Nat.ble (a+1) b=true):a<b:=Nat.le_of_ble_eq_true h
abbrev Ct:=CT prog
abbrev Ci:=uN prog
abbrev Cf:=FuncId->List yP->List AV->AV->List yP->Nat->Prop
abbrev Qf (f:FuncId) (fn:Func):Prop:=prog.funcs[f]? = some fn∧fn.body.isNone=false
section
variable {f:FuncId} {fn:Func} {H0 H1:List yP} {args:List AV} {res:AV} {nst:Nat} {os:List lS} {ob:List Ob}
theorem tF(q:Qf f fn)(m:Nat)(keep:List Nat)(k:OL prog os ob)(h:eK prog rJ H0.length fn 3000 (.run (vI fn)) [] (args++List.replicate (fn.ntmps-args.length) (.val undef)) (F4 H0) ((A5 m++os).reverseAux []) [] keep [] false=some (res,H1,ob.reverseAux []):=by kernel_rfl):uN prog f H0 args res H1 0:=OL.toFin wD mixed q m [] keep [] false k h (Nat.le_refl _)
theorem tG(q:Qf f fn)(m:Nat)(rs:List (Option Nat×Nat×Nat))(keep ks:List Nat)(own:Bool)(k:OL prog os ob)(h:eK prog rJ H0.length fn 3000 (.run (vI fn)) [] (args++List.replicate (fn.ntmps-args.length) (.val undef)) (F4 H0) ((A5 m++os).reverseAux []) rs keep ks own=some (res,H1,ob.reverseAux []):=by kernel_rfl)(hn:nst≤ks.length:=by decide):uN prog f H0 args res H1 nst:=OL.toFin wD mixed q m rs keep ks own k h hn
theorem tH(q:Qf f fn)(m:Nat)(rs:List (Option Nat×Nat×Nat))(keep ks live:List Nat)(k:OL prog os ob){c:Code}{fs':List Fr}{E:(Nat->Value)->List AV}{S:yW}(hk:∀j,Dl prog H0.length c (E j) S (vE prog H0.length (O3 prog H0.length fn res H1 nst) fs'))(h:∀j,iA prog rJ H0.length 3000 (.run (vI fn)) [] (args++List.replicate (fn.ntmps-args.length) (.val undef)) (F4 H0) ((A5 m++os).reverseAux []) rs keep ks live j=some (c,fs',E j,S,ob.reverseAux []):=by intro j;kernel_rfl):uN prog f H0 args res H1 nst:=OL.toHead wD mixed q m rs keep ks live k hk h
variable {na:Nb} {Q:AX->List AV->yW->Prop} {c c':Code} {fs fs':List Fr} {env:List AV} {s S:yW}
theorem lH(m:Nat)(rs:List (Option Nat×Nat×Nat))(keep ks live:List Nat)(k:OL prog os ob){E:(Nat->Value)->List AV}(hk:∀j,Dl prog na c' (E j) S (vE prog na Q fs'))(h:∀j,iA prog rJ na.n 3000 (.run c) (.loop c::fs) env s ((A5 m++os).reverseAux []) rs keep ks live j=some (c',fs',E j,S,ob.reverseAux []):=by intro j;kernel_rfl):Dl prog na c env s (vE prog na Q fs):=OL.lHead wD mixed m rs keep ks live k hk h
theorem lF(m:Nat)(keep:List Nat)(k:OL prog os ob)(h:eK prog rJ na.n fn 3000 (.run c) (.loop c::fs) env s ((A5 m++os).reverseAux []) [] keep [] false=some (res,H1,ob.reverseAux []):=by kernel_rfl):Dl prog na c env s (vE prog na (O3 prog na fn res H1 0) fs):=OL.lFin wD mixed m [] keep [] false k h (Nat.le_refl _)
theorem lG(m:Nat)(rs:List (Option Nat×Nat×Nat))(keep ks:List Nat)(own:Bool)(k:OL prog os ob)(h:eK prog rJ na.n fn 3000 (.run c) (.loop c::fs) env s ((A5 m++os).reverseAux []) rs keep ks own=some (res,H1,ob.reverseAux []):=by kernel_rfl)(hn:nst≤ks.length:=by decide):Dl prog na c env s (vE prog na (O3 prog na fn res H1 nst) fs):=OL.lFin wD mixed m rs keep ks own k h hn
end
theorem mK:prog.info? 27=some Tryz.t27:=by kernel_rfl
theorem P7:prog.info? 36=some Tryz.t36:=by kernel_rfl
theorem zXj{l m r:List yE}(h:xB 192 l m=some r)(hm:m.length=0):Ob.ok prog (.app 22 22 (zG yA l) (zG yA m) (zG yA r) l.length m.length r.length 15 true):=pV qE Tryz.underlying22 P7 rfl rfl rfl (by decide) rfl (by decide) h hm
theorem jI{l m r:List Tm}(h:xB 40 l m=some r)(hm:m.length=0):Ob.ok prog (.app 23 23 (zG zC l) (zG zC m) (zG zC r) l.length m.length r.length 3 true):=pV qD Tryz.underlying23 mK rfl rfl rfl (by decide) rfl (by decide) h hm
theorem zHu:prog.info? 5=some Tryz.t5:=by kernel_rfl
theorem zFl{l m r:List U8}(h:xB 1 l m=some r)(hm:m.length=0):Ob.ok prog (.app 270 270 (zG fE l) (zG fE m) (zG fE r) l.length m.length r.length 1 true):=pV zAn Tryz.underlying270 zHu rfl rfl rfl (by decide) rfl (by decide) h hm
theorem zCN:prog.info? 3=some Tryz.t3:=by kernel_rfl
theorem zLE{l m r:List Int}(h:xB 8 l m=some r)(hm:m.length=0):Ob.ok prog (.app 34 34 (zG zU l) (zG zU m) (zG zU r) l.length m.length r.length 1 true):=pV eL Tryz.underlying34 zCN rfl rfl rfl (by decide) rfl (by decide) h hm
theorem zLF:prog.info? 9=some Tryz.t9:=by kernel_rfl
theorem zXi{l m r:List ByteArray}(h:xB 16 l m=some r)(hm:m.length=0):Ob.ok prog (.app 54 54 (zG xJ l) (zG xJ m) (zG xJ r) l.length m.length r.length 1 true):=pV zAm Tryz.underlying54 zLF rfl rfl rfl (by decide) rfl (by decide) h hm
theorem zAg:prog.info? 175=some Tryz.t175:=by kernel_rfl
theorem zXh{l m r:List yK}(h:xB 88 l m=some r)(hm:m.length=0):Ob.ok prog (.app 72 72 (zG yQ l) (zG yQ m) (zG yQ r) l.length m.length r.length 7 true):=pV qN Tryz.underlying72 zAg rfl rfl rfl (by decide) rfl (by decide) h hm
theorem zXg{n:Nat}(h:n=0):Ob.ok prog (.same 23 23 n):=zOY Tryz.underlying23 mK h
theorem zHt:prog.info? 115=some Tryz.t115:=by kernel_rfl
theorem zLG{l m r:List zZ}(h:xB 32 l m=some r)(hm:m.length≠0):Ob.ok prog (.app 111 111 (zG zO l) (zG zO m) (zG zO r) l.length m.length r.length 3 false):=sM pC Tryz.underlying111 zHt rfl rfl rfl (by decide) rfl (by decide) h hm
theorem zHs:prog.info? 239=some Tryz.t239:=by kernel_rfl
theorem zTo{l m r:List sE}(h:xB 56 l m=some r)(hm:m.length≠0):Ob.ok prog (.app 196 196 (zG cR l) (zG cR m) (zG cR r) l.length m.length r.length 3 false):=sM zFs Tryz.underlying196 zHs rfl rfl rfl (by decide) rfl (by decide) h hm
theorem zSf{l m r:List yE}(h:xB 192 l m=some r)(hm:m.length≠0):Ob.ok prog (.app 22 22 (zG yA l) (zG yA m) (zG yA r) l.length m.length r.length 15 false):=sM qE Tryz.underlying22 P7 rfl rfl rfl (by decide) rfl (by decide) h hm
theorem vF{l m r:List Tm}(h:xB 40 l m=some r)(hm:m.length≠0):Ob.ok prog (.app 23 23 (zG zC l) (zG zC m) (zG zC r) l.length m.length r.length 3 false):=sM qD Tryz.underlying23 mK rfl rfl rfl (by decide) rfl (by decide) h hm
theorem zAf{l m r:List U8}(h:xB 1 l m=some r)(hm:m.length≠0):Ob.ok prog (.app 270 270 (zG fE l) (zG fE m) (zG fE r) l.length m.length r.length 1 false):=sM zAn Tryz.underlying270 zHu rfl rfl rfl (by decide) rfl (by decide) h hm
theorem tN{l m r:List Int}(h:xB 8 l m=some r)(hm:m.length≠0):Ob.ok prog (.app 34 34 (zG zU l) (zG zU m) (zG zU r) l.length m.length r.length 1 false):=sM eL Tryz.underlying34 zCN rfl rfl rfl (by decide) rfl (by decide) h hm
theorem P8{l m r:List ByteArray}(h:xB 16 l m=some r)(hm:m.length≠0):Ob.ok prog (.app 54 54 (zG xJ l) (zG xJ m) (zG xJ r) l.length m.length r.length 1 false):=sM zAm Tryz.underlying54 zLF rfl rfl rfl (by decide) rfl (by decide) h hm
theorem zLH:prog.info? 78=some Tryz.t78:=by kernel_rfl
theorem zXf{l m r:List xG}(h:xB 168 l m=some r)(hm:m.length≠0):Ob.ok prog (.app 68 68 (zG uC l) (zG uC m) (zG uC r) l.length m.length r.length 11 false):=sM mJ Tryz.underlying68 zLH rfl rfl rfl (by decide) rfl (by decide) h hm
theorem zSe{l m r:List yK}(h:xB 88 l m=some r)(hm:m.length≠0):Ob.ok prog (.app 72 72 (zG yQ l) (zG yQ m) (zG yQ r) l.length m.length r.length 7 false):=sM qN Tryz.underlying72 zAg rfl rfl rfl (by decide) rfl (by decide) h hm
theorem zLI{l r:List U8}{bs:ByteArray}(h:xB 1 l (gbs bs)=some r)(hm:(gbs bs).length≠0):Ob.ok prog (.aps 270 9 (zG fE l) bs (zG fE r) l.length r.length 1 false):=zLB Tryz.underlying270 Tryz.underlying9 zHu rfl rfl rfl rfl h (by rwa[cY]at hm)
theorem zJp{l r:List U8}{bs:ByteArray}(h:xB 1 l (gbs bs)=some r)(hm:(gbs bs).length=0):Ob.ok prog (.aps 270 9 (zG fE l) bs (zG fE r) l.length r.length 1 true):=zLC Tryz.underlying270 Tryz.underlying9 zHu rfl rfl rfl rfl h (by rwa[cY]at hm)
theorem zXe{m r:List Tm}(h:xB 40 ([]:List Tm) m=some r)(hm:m.length≠0):Ob.ok prog (.mk (zAq prog 23 23 (none) [] 0 none (zG zC m) m.length) (zG zC r) r.length):=zLa qD Tryz.underlying23 mK rfl rfl rfl (by decide) rfl (by decide) h hm
theorem sG(l:List U8){o:sD}:mY prog 270 9 (.sl (zG fE l) l.length o)=some (at' (jQ l)):=zLf Tryz.underlying270 Tryz.underlying9 Tryz.underlying5 l
theorem zXd{l:List zZ}{i:Int}{o:sD}{x:zZ}(h:zP l i=some x):xW prog 111 (.sl (zG zO l) l.length o) (ai i)=some (.ip (zO x++zG zO (l.drop (i.toNat+1)))):=by
 have:=fS pC (k:=.i64) Tryz.underlying111 zHt rfl h (o:=o)
 exact this
theorem zAe:prog.info? 198=some Tryz.t198:=by kernel_rfl
theorem zXc{l:List sF}{i:Int}{o:sD}{x:sF}(h:zP l i=some x):xW prog 138 (.sl (zG qT l) l.length o) (ai i)=some (.ip (qT x++zG qT (l.drop (i.toNat+1)))):=by
 have:=fS zFr (k:=.i64) Tryz.underlying138 zAe rfl h (o:=o)
 exact this
theorem zXb{l:List sE}{i:Int}{o:sD}{x:sE}(h:zP l i=some x):xW prog 196 (.sl (zG cR l) l.length o) (ai i)=some (.ip (cR x++zG cR (l.drop (i.toNat+1)))):=by
 have:=fS zFs (k:=.i64) Tryz.underlying196 zHs rfl h (o:=o)
 exact this
theorem xK{l:List yE}{i:Int}{o:sD}{x:yE}(h:zP l i=some x):xW prog 22 (.sl (zG yA l) l.length o) (ai i)=some (.ip (yA x++zG yA (l.drop (i.toNat+1)))):=by
 have:=fS qE (k:=.i64) Tryz.underlying22 P7 rfl h (o:=o)
 exact this
theorem xH{l:List Tm}{i:Int}{o:sD}{x:Tm}(h:zP l i=some x):xW prog 23 (.sl (zG zC l) l.length o) (ai i)=some (.ip (fD x++zG zC (l.drop (i.toNat+1)))):=by
 have:=fS qD (k:=.i64) Tryz.underlying23 mK rfl h (o:=o)
 rw[wL]at this
 exact this
theorem zTn:prog.info? 22=some Tryz.t22:=by kernel_rfl
theorem zSd{l:List (List yE)}{i:Int}{o:sD}{x:List yE}(h:zP l i=some x):xW prog 230 (.sl (zG (slC yA) l) l.length o) (ai i)=some (.ip ((slC yA) x++zG (slC yA) (l.drop (i.toNat+1)))):=by
 have:=fS (zSh qE) (k:=.i64) Tryz.underlying230 zTn rfl h (o:=o)
 exact this
theorem uH{l:List Int}{i:Int}{o:sD}{x:Int}(h:zP l i=some x):xW prog 34 (.sl (zG zU l) l.length o) (ai i)=some (.ip (zU x++zG zU (l.drop (i.toNat+1)))):=by
 have:=fS eL (k:=.i64) Tryz.underlying34 zCN rfl h (o:=o)
 exact this
theorem zJo{l:List ByteArray}{i:Int}{o:sD}{x:ByteArray}(h:zP l i=some x):xW prog 54 (.sl (zG xJ l) l.length o) (ai i)=some (.ip (xJ x++zG xJ (l.drop (i.toNat+1)))):=by
 have:=fS zAm (k:=.i64) Tryz.underlying54 zLF rfl h (o:=o)
 exact this
theorem yAA{l:List xG}{i:Int}{o:sD}{x:xG}(h:zP l i=some x):xW prog 68 (.sl (zG uC l) l.length o) (ai i)=some (.ip (uC x++zG uC (l.drop (i.toNat+1)))):=by
 have:=fS mJ (k:=.i64) Tryz.underlying68 zLH rfl h (o:=o)
 exact this
theorem zCO{l:List yK}{i:Int}{o:sD}{x:yK}(h:zP l i=some x):xW prog 72 (.sl (zG yQ l) l.length o) (ai i)=some (.ip (yQ x++zG yQ (l.drop (i.toNat+1)))):=by
 have:=fS qN (k:=.i64) Tryz.underlying72 zAg rfl h (o:=o)
 exact this
theorem zCP{l:List Int}{i x:Int}(h:zP l i=some x)(hl:l.length=9):mE prog 190 (.agg (zG zU l)) (ai i)=some (ai x):=zCe (k:=.i64) Tryz.underlying190 (q:=(false,1)) (by kernel_rfl) rfl hl h
theorem zLJ{l:List Int}{i x:Int}(h:zP l i=some x)(hl:l.length=11):mE prog 284 (.agg (zG zU l)) (ai i)=some (ai x):=zCe (k:=.i64) Tryz.underlying284 (q:=(false,1)) (by kernel_rfl) rfl hl h
theorem zTm{b n k c z:Nat}{i:Int}(h:zLe n i=some k):xW prog 138 (.ms b 0 n c z) (ai i)=some (.mp b (k*3)):=zTr Tryz.underlying138 zAe rfl h
theorem P9{s:ByteArray}{i x:Int}(h:pG s i=some x):mE prog 9 (at' s) (ai i)=some (.val (.int .u8 x)):=zLh Tryz.underlying9 h
theorem zLK(m:List (ByteArray×Int))(k:ByteArray):Ob.ok prog (.lk 126 (P3 m) (at' k) false (ai (oJ m k))):=zXn Tryz.underlying126 Tryz.underlying9 zCN rfl m k
theorem zLL{n:Int}{l:List sF}(h:gmk 72 (default:sF) n=some l):Ob.ok prog (.mk (qM prog 138 (ai n) (ai n)) (zG qT l) l.length):=zSi Tryz.underlying138 zAe rfl rfl rfl (by decide) rfl (by decide) (by rfl) h
theorem zXa(m:List (ByteArray×Int))(k:ByteArray)(v:Int):Ob.ok prog (.mu 126 (P3 m) (at' k) (ai v) (P3 (cX m k v))):=zXm Tryz.underlying126 Tryz.underlying9 m k v
theorem zXA{l r:List Int}{a b:Int}(h:nE l a b=some r):vL prog 34 (.sl (zG zU l) l.length .no) (some (ai a)) (some (ai b)) none=some (.sl (zG zU r) r.length .no):=zLm eL Tryz.underlying34 zCN rfl h
theorem qV{l r:List Tm}{a:Int}(h:nE l a l.length=some r):vL prog 23 (.sl (zG zC l) l.length .no) (some (ai a)) none none=some (.sl (zG zC r) r.length .no):=zAl qD Tryz.underlying23 mK rfl h
theorem zPw{b off n c:Nat}{y:Int}{r:Nat×Nat}(h:zLc c 0 y=some r):vL prog 22 (.ms b off n c 15) none (some (ai y)) none=some (.ms b off r.2 c 15):=zLb Tryz.underlying22 P7 rfl (by decide) h
theorem zTl{s r:ByteArray}{a b:Int}(h:zJv s a b=some r):vL prog 9 (at' s) (some (ai a)) (some (ai b)) none=some (at' r):=zLg Tryz.underlying9 h
theorem oN{l r:List Tm}{b:Int}(h:nE l 0 b=some r):vL prog 23 (.sl (zG zC l) l.length .no) none (some (ai b)) none=some (.sl (zG zC r) r.length .no):=zFq qD Tryz.underlying23 mK rfl h
theorem cZ{l r:List Tm}{b:Int}{o:sD}(h:nE l 0 b=some r):vL prog 23 (.sl (zG zC l) l.length o) none (some (ai b)) (some (ai b))=some (.sl (zG zC r) r.length .full):=zCI qD Tryz.underlying23 mK rfl h
theorem zHr{l r:List Tm}{b:Int}{o:sD}(h:nE l 0 b=some r):∃a0,vL prog 23 (.sl (zG zC l) l.length o) none (some (ai b)) none=some a0∧a0.frz = .sl (zG zC r) r.length .no:=zCc qD Tryz.underlying23 mK rfl h
theorem zPv{n:Int}{l:List yE}(hp:n>0)(h:gmk 192 (default:yE) n=some l):Ob.ok prog (.mk (N7 prog 22 3 (ai n)) (zG yA l) l.length):=zXk Tryz.underlying3 hp (zSi Tryz.underlying22 P7 rfl rfl rfl (by decide) rfl (by decide) (by rfl) h)
def ptG:Nat->Nat->Func->Code
 |0,_,f=>vI f
 |k+1,n,f=>if n=0 then vI f else if n % 4=1 then cP (ptG k (n / 4) f)else if n % 4=2 then rF (ptG k (n / 4) f)else xE (ptG k (n / 4) f)
abbrev pt:=ptG 99
abbrev Oz:=OL prog
abbrev dL:=Dl prog
abbrev fQ:=vE prog
abbrev nQ:=O3 prog
abbrev qB (q0:List yE) (m:Nat) (q3 q4:List Int):yP:=.cells [zH yA q0 .no,.mp m 0,zH zU q3 .no,zH zU q4 .no]
abbrev qR (q1:List yE) (q2:List sF):yP:=.cells [zH yA q1 .no,zH qT q2 .no]
theorem oDm{os:List lS}{ob:List Ob}(q0 q1:List yE)(q2:List sF)(q3 q4:List Int)(k:Oz os ob):Oz os (.data (zG qT q2) :: .data (zG yA q1) :: .data (zG zU q4) :: .data (zG zU q3) :: .data (zG yA q0)::ob):=oD (dC q2)<|oD (dE q1)<|oD (dI q4)<|oD (dI q3)<|oD (dE q0) k
theorem pW{os:List lS}{ob:List Ob}(M:wV)(k:Oz os ob):Oz os (.data (zG qT M.parts) :: .data (zG yA M.rl) :: .data (zG zU M.own) :: .data (zG zU M.args) :: .data (zG yA M.l)::ob):=oDm M.l M.rl M.parts M.args M.own k
theorem bA{n m:Nat}{q0 q1:List yE}{q2:List sF}{q3 q4:List Int}{l:List yP}(h:m<n)(k:∀X∈l,X.arg (fun i=>i<n)):∀X∈qB q0 m q3 q4::qR q1 q2::l,X.arg (fun i=>i<n):=zD ⟨⟨tv,dE _⟩,h,⟨tv,dI _⟩,⟨tv,dI _⟩,tv⟩ (zD ⟨⟨tv,dE _⟩,⟨tv,dC _⟩,tv⟩ k)
theorem cE{n m:Nat}{q0 q1:List yE}{q2:List sF}{q3 q4:List Int}{l:List yP}(h:m<n)(k:∀X∈l,X.fine (fun i=>i<n)):∀X∈qB q0 m q3 q4::qR q1 q2::l,X.fine (fun i=>i<n):=zD ⟨dE _,h,dI _,dI _,tv⟩ (zD ⟨dE _,dC _,tv⟩ k)
abbrev zR:=List Tm
abbrev yD:=List Int
abbrev zY:=List yE
abbrev tP:=List sF
abbrev rB (a:List yE) (b c:Int) (d:ByteArray) (e:List yK) (f g:Int) (h:ByteArray) (i:Int) (j:List zS) (k:List yK) (l:List uE) (m n o p:AV) (q r s:Int):yP:=.cells [zH yA a .no,ai b,ai c,at' d,zH yQ e .no,ai f,ai g,at' h,ai i,zH xI j .no,zH yQ k .no,zH sP l .no,m,n,o,p,ai q,ai r,ai s]
abbrev rD (a:List yE) (d:xG) (m n o p:AV) (q r s:Int):yP:=rB a d.kind_ d.at_ d.name_ d.tele_ d.type_.kind_ d.type_.at_ d.type_.name_ d.type_.n_ d.type_.sub_ d.cons_ d.rows_ m n o p q r s
theorem eP{os:List lS}{ob:List Ob}(a:List yE)(e:List yK)(j:List zS)(k:List yK)(l:List uE)(z:Oz os ob):Oz os (.data (zG sP l) :: .data (zG yQ k) :: .data (zG xI j) :: .data (zG yQ e) :: .data (zG yA a)::ob):=oD (xD l)<|oD (zN k)<|oD (zQ j)<|oD (zN e)<|oD (dE a) z
end Go.Proofs.YtcckelpaoefonaaGreat
namespace Go.Ab
open Go
def zF{α:Type}(f:Nat->Option α)(r:α):Prop:=∃n,∀q,n≤q->f q=some r
section
variable {α β:Type} {f:Nat->Option α} {r a:α} {b:β}
theorem zF.mk(h:∀q,f q=some r):zF f r:=⟨0,fun q _=>h q⟩
theorem zF.ret{r:α}:zF (fun _=>some r) r:=⟨0,fun _ _=>rfl⟩
theorem zF.succ(h:zF (fun q=>f (q+1)) r):zF f r:=by
 obtain⟨n,h⟩:=h
 refine⟨n+1,fun q hq=>?_⟩
 obtain⟨k,rfl⟩:∃k,q=k+1:=⟨q-1,by omega⟩
 exact h k (by omega)
theorem zF.bind{k:Nat->α->Option β}(h:zF f a)(g:zF (fun q=>k q a) b):zF (fun q=>f q>>=k q) b:=by
 obtain⟨n,h⟩:=h;obtain⟨m,g⟩:=g
 refine⟨max n m,fun q hq=>?_⟩
 dsimp only
 rw[h q (by omega)]
 exact g q (by omega)
theorem zF.pure{x:Option α}{k:Nat->α->Option β}(h:x=some a)(g:zF (fun q=>k q a) b):zF (fun q=>x>>=k q) b:=by
 subst h;exact g
theorem zF.ifT{c:Bool}{g:Nat->Option α}(h:c=true)(k:zF f r):zF (fun q=>if c=true then f q else g q) r:=by
 simpa[h]using k
theorem zF.ifF{c:Bool}{g:Nat->Option α}(h:c=false)(k:zF g r):zF (fun q=>if c=true then f q else g q) r:=by
 simpa[h]using k
theorem zF.iff{c:Bool}{g:Nat->Option α}(h:c=true->zF f r)(k:c=false->zF g r):zF (fun q=>if c=true then f q else g q) r:=by
 cases c
 ·simpa using k rfl
 ·simpa using h rfl
theorem zF.det(h:zF f r)(k:zF f a):r=a:=by
 obtain⟨n,h⟩:=h;obtain⟨m,k⟩:=k
 have:=h (max n m) (by omega)
 rw[k _ (by omega)]at this
 exact(Option.some.inj this).symm
theorem zF.at(h:zF f r):∃q,f q=some r:=by obtain⟨n,h⟩:=h;exact⟨n,h n (Nat.le_refl _)⟩
theorem zF.eq{s:α}(h:zF f r)(e:r=s):zF f s:=e▸h
end
def yJ{α:Type}(f:Nat->Option α)(P:α->Prop):Prop:=∃r,zF f r∧P r
section
variable {α β:Type} {f:Nat->Option α} {P:α->Prop} {Q:β->Prop}
theorem zF.tot{r:α}(h:zF f r)(k:P r):yJ f P:=⟨r,h,k⟩
theorem yJ.ret{r:α}(k:P r):yJ (fun _=>some r) P:=⟨r,zF.ret,k⟩
theorem yJ.succ(h:yJ (fun q=>f (q+1)) P):yJ f P:=by obtain⟨r,h,k⟩:=h;exact⟨r,h.succ,k⟩
theorem yJ.bind{k:Nat->α->Option β}(h:yJ f P)(g:∀a,P a->yJ (fun q=>k q a) Q):yJ (fun q=>f q>>=k q) Q:=by
 obtain⟨a,h,p⟩:=h;obtain⟨b,h2,k⟩:=g a p
 exact⟨b,h.bind h2,k⟩
theorem yJ.pure{x:Option α}{a:α}{k:Nat->α->Option β}(h:x=some a)(g:yJ (fun q=>k q a) Q):yJ (fun q=>x>>=k q) Q:=by
 subst h;exact g
theorem yJ.ite{c:Bool}{g:Nat->Option α}(h:c=true->yJ f P)(k:c=false->yJ g P):yJ (fun q=>if c=true then f q else g q) P:=by
 cases c
 ·simpa using k rfl
 ·simpa using h rfl
theorem yJ.mono{P':α->Prop}(h:yJ f P)(k:∀r,P r->P' r):yJ f P':=by obtain⟨r,h,p⟩:=h;exact⟨r,h,k r p⟩
end
theorem zW{x:Int}(h0:-9223372036854775808≤x)(h1:x≤9223372036854775807):yN x=x:=by
 show IntKind.i64.wrap x=x
 exact IntWalk.i64_in x ⟨h0,h1⟩
theorem yB(v:Nat)(h:v<9223372036854775807):yN ((v:Int)+1)=((v+1:Nat):Int):=by
 rw[zW (by omega) (by omega)];simp
section
variable {α:Type} {l:List α} {v:Nat} {x:α} {r:List α}
theorem yT(h:l.drop v=x::r):v<l.length:=by
 rcases Nat.lt_or_ge v l.length with h1|h1
 ·exact h1
 ·rw[List.drop_eq_nil_of_le h1]at h;cases h
theorem yL(h:l.drop v=x::r):decide ((v:Int)<(l.length:Int))=true:=by
 have:=yT h;simp;exact this
theorem yO(h:l.drop v=[]):decide ((v:Int)<(l.length:Int))=false:=by
 have:l.length≤v:=List.drop_eq_nil_iff.1 h
 simp;exact this
theorem yC(h:l.drop v=x::r):zP l (v:Int)=some x:=by
 have h1:=yT h
 have:l[v]? = some x:=by
  have:=congrArg (fun z=>z[0]?) h
  simpa using this
 unfold zP
 rw[if_pos (by omega)];simpa using this
theorem zV(h:l.drop v=x::r):l.drop (v+1)=r:=by
 have:=congrArg List.tail h
 simpa using this
end
theorem yU{α:Type}{B:Nat}{l m:List α}(h:(l.length+m.length)*B≤140737488355328):xB B l m=some (l++m):=by unfold xB;rw[if_pos h]
mutual
def Tm.nodes:Tm->Nat
 | .mk _ _ l=>1+yM l
def yM:List Tm->Nat
 | []=>0
 |t::l=>t.nodes+yM l
end
mutual
def Tm.high:Tm->Nat
 | .mk _ _ l=>1+vB l
def vB:List Tm->Nat
 | []=>0
 |t::l=>max t.high (vB l)
end
mutual
def Tm.Ok:Tm->Prop
 | .mk _ _ l=>l.length<9223372036854775808∧nF l
def nF:List Tm->Prop
 | []=>True
 |t::l=>t.Ok∧nF l
end
mutual
def X1:Tm->Int->Int
 | .mk _ _ l,h=>szL l (h+1)
def szL:List Tm->Int->Int
 | [],h=>h
 |t::l,h=>if h>8192 then h else szL l (X1 t h)
end
mutual
theorem zCQ:∀(t:Tm) (h:Int),0≤h->h≤8192->h+1≤X1 t h∧X1 t h≤8193
 | .mk _ _ l,h,h0,h1=>by
  rw[X1]
  exact zSc l (h+1) (by omega) (by omega)
theorem zSc:∀(l:List Tm) (h:Int),0≤h->h≤8193->h≤szL l h∧szL l h≤8193
 | [],h,h0,h1=>by rw[szL];omega
 |t::l,h,h0,h1=>by
  rw[szL]
  split
  ·omega
  ·have:=zCQ t h h0 (by omega)
   have:=zSc l (X1 t h) (by omega) (by omega)
   omega
end
theorem wZ(t:Tm):1≤t.nodes:=by cases t;rw[Tm.nodes];omega
mutual
theorem zLM:∀(t:Tm) (h:Int),0≤h->h≤8192->(h+t.nodes≤8192->X1 t h=h+t.nodes)∧(8192<h+t.nodes->X1 t h=8193)
 | .mk _ _ l,h,h0,h1=>by
  rw[X1,Tm.nodes]
  have:=zLN l (h+1) (by omega) (by omega)
  constructor
  ·intro h2;rw[this.1 (by omega)];omega
  ·intro h2;exact this.2 (by omega)
theorem zLN:∀(l:List Tm) (h:Int),0≤h->h≤8193->(h+yM l≤8192->szL l h=h+yM l)∧(8192<h+yM l->szL l h=8193)
 | [],h,h0,h1=>by rw[szL,yM];omega
 |t::l,h,h0,h1=>by
  rw[szL,yM]
  have hp:=wZ t
  split
  ·omega
  ·have ht:=zLM t h h0 (by omega)
   have hb:=zCQ t h h0 (by omega)
   have hl:=zLN l (X1 t h) (by omega) (by omega)
   constructor
   ·intro h2
    have e:=ht.1 (by omega)
    rw[e]at hl ⊢
    rw[hl.1 (by omega)];omega
   ·intro h2
    by_cases h3:h+t.nodes≤8192
    ·have e:=ht.1 h3
     rw[e]at hl ⊢
     exact hl.2 (by omega)
    ·exact hl.2 (by rw[ht.2 (by omega)];omega)
end
mutual
def dpT:Tm->Int->Int
 | .mk _ _ l,a=>if a>128 then a else dpL l a a
def dpL:List Tm->Int->Int->Int
 | [],_,m=>m
 |t::l,a,m=>dpL l a (lT m (dpT t (a+1)))
end
mutual
theorem zSb:∀(t:Tm) (a:Int),0≤a->a≤129->a≤dpT t a∧dpT t a≤129
 | .mk _ _ l,a,h0,h1=>by
  rw[dpT]
  split
  ·omega
  ·exact zSa l a a h0 (by omega) (by omega) (by omega)
theorem zSa:∀(l:List Tm) (a m:Int),0≤a->a≤128->a≤m->m≤129->m≤dpL l a m∧dpL l a m≤129
 | [],a,m,h0,h1,h2,h3=>by rw[dpL];omega
 |t::l,a,m,h0,h1,h2,h3=>by
  rw[dpL]
  have:=zSb t (a+1) (by omega) (by omega)
  have:=zSa l a (lT m (dpT t (a+1))) h0 h1 (by unfold lT;split<;>omega) (by unfold lT;split<;>omega)
  unfold lT at this ⊢
  split at this<;>split<;>omega
end
mutual
theorem zLO:∀(t:Tm) (a:Int),0≤a->a≤129->(a+t.high≤129->dpT t a=a+t.high-1)∧(129<a+t.high->dpT t a=129)
 | .mk _ _ l,a,h0,h1=>by
  rw[dpT,Tm.high]
  split
  ·omega
  ·have:=zLP l a a h0 (by omega) (by omega) (by omega)
   constructor
   ·intro h2;rw[this.1 (by omega) (by omega)];omega
   ·intro h2;exact this.2 (.inr (by omega))
theorem zLP:∀(l:List Tm) (a m:Int),0≤a->a≤128->a≤m->m≤129->(m≤128->a+vB l≤128->dpL l a m=max m (a+vB l))∧((m=129∨128<a+vB l)->dpL l a m=129)
 | [],a,m,h0,h1,h2,h3=>by rw[dpL,vB];omega
 |t::l,a,m,h0,h1,h2,h3=>by
  rw[dpL,vB]
  have ht:=zLO t (a+1) (by omega) (by omega)
  have hb:=zSb t (a+1) (by omega) (by omega)
  have hm:a≤lT m (dpT t (a+1))∧lT m (dpT t (a+1))≤129:=by unfold lT;split<;>omega
  have hl:=zLP l a (lT m (dpT t (a+1))) h0 h1 hm.1 hm.2
  have hh:1≤t.high:=by cases t;rw[Tm.high];omega
  constructor
  ·intro h4 h5
   have e:=ht.1 (by omega)
   rw[e]at hl ⊢
   have hi:lT m (a+1+t.high-1)=max m (a+t.high):=by unfold lT;split<;>omega
   rw[hi]at hl ⊢
   rw[hl.1 (by omega) (by omega)];omega
  ·intro h4
   refine hl.2 ?_
   rcases h4 with h4|h4
   ·exact .inl (by unfold lT;split<;>omega)
   ·by_cases h5:128<a+vB l
    ·exact .inr h5
    ·refine .inl ?_
     have e:dpT t (a+1)=129:=by
      by_cases h6:a+1+t.high≤129
      ·omega
      ·exact ht.2 (by omega)
     rw[e];unfold lT;split<;>omega
end
def tU(t:Tm):Bool:=
  decide (1≤t.k)&&decide (t.k≤8)&&decide (0≤t.n) &&
  (if t.k=3∨t.k=4∨t.k=5 then decide (t.sub.length=2)&&decide (t.n≤0)
   else if t.k=7 then decide (t.sub.length=1)&&decide (t.n≤1048576)&&(t.sub.head?.any fun x=>x.k==2)
   else decide (t.sub.length=0)&&(if t.k=2 then decide (t.n≤7)else decide (t.n≤1048576)))
theorem uO{t:Tm}(h:tU t=true):1≤t.k∧t.k≤8∧0≤t.n∧t.n≤1048576∧t.sub.length≤2 ∧
  (t.k=3∨t.k=4∨t.k=5->t.sub.length=2∧t.n≤0)∧(t.k=7->∃x,t.sub=[x]∧x.k=2)∧(t.k=1∨t.k=2∨t.k=6∨t.k=8->t.sub=[])∧(t.k=2->t.n≤7):=by
 unfold tU at h
 revert h
 generalize t.k=k
 generalize t.n=n
 generalize t.sub=l
 intro h
 simp only[Bool.and_eq_true,decide_eq_true_eq]at h
 obtain⟨⟨⟨h1,h2⟩,h3⟩,h4⟩:=h
 split at h4
 ·simp only[Bool.and_eq_true,decide_eq_true_eq]at h4
  refine⟨h1,h2,h3,by omega,by omega,fun _=>h4,by omega,by omega,by omega⟩
 ·split at h4
  ·simp only[Bool.and_eq_true,decide_eq_true_eq]at h4
   obtain⟨⟨h5,h6⟩,h7⟩:=h4
   obtain⟨x,rfl⟩:∃x,l=[x]:=by
    rcases l with _|⟨x,_|⟨y,l⟩⟩<;>simp at h5
    exact⟨x,rfl⟩
   refine⟨h1,h2,h3,h6,by simp,by omega,fun _=>⟨x,rfl,by simpa using h7⟩,by omega,by omega⟩
  ·simp only[Bool.and_eq_true,decide_eq_true_eq]at h4
   have hl:l=[]:=List.length_eq_zero_iff.1 h4.1
   refine⟨h1,h2,h3,?_,by omega,by omega,by omega,fun _=>hl,fun h8=>?_⟩
   ·have:=h4.2
    split at this<;>(simp at this;omega)
   ·have:=h4.2
    rw[if_pos h8]at this
    simpa using this
mutual
def xC:Tm->Bool
 | .mk k n l=>tU (.mk k n l)&&wM l
def wM:List Tm->Bool
 | []=>true
 |t::l=>xC t&&wM l
end
def zI(t:Tm):Bool:=decide (t.nodes≤8192)&&decide (t.high≤128)&&xC t
def bB(k:Int)(i:Nat):Int:=if i=1∧(k=3∨k=4)then 1 else 0
mutual
def bC:Tm->Int->Int
 | .mk k n l,b=>if k=1 then max 0 (n+1-b)else fF l k 0 b
def fF:List Tm->Int->Nat->Int->Int
 | [],_,_,_=>0
 |t::l,k,i,b=>max (bC t (b+bB k i)) (fF l k (i+1) b)
end
mutual
def nG:Tm->Int->Int->List Int
 | .mk k n l,a,b=>(if k=a∨k=b then [n]else [])++bD l a b
def bD:List Tm->Int->Int->List Int
 | [],_,_=>[]
 |t::l,a,b=>nG t a b++bD l a b
end
open Go.RowKit
def I6(W:World):Gh:=⟨fun _=>none,fun _=>none,fun b o=>∃v,W.cell? ⟨b,o,none⟩=some v,W,fun b=>b<W.heap.size,fun _=>False⟩
theorem zTk(W:World):yI (I6 W) (yS (wQ 0) (F4 [])) W:=by
 refine⟨fun _=>⟨fun _=>.inr rfl,fun _=>⟨rfl,id⟩,fun e=>e.elim⟩,⟨0,fun _ _=>rfl⟩,fun _ _ _ h=>?_,fun _ _ _ h=>?_,fun _ _ h=>⟨h,fun i e=>by cases e⟩,fun _ _=>rfl,fun _ h=>?_,fun _ _ _ _ _ _ _ h=>?_,vK.refl _ _,fun _ h=>h⟩
 ·cases h
 ·cases h
 ·cases h
 ·cases h
theorem zPu(W:World):lR (0:Nat) (I6 W):=⟨fun _ _=>⟨rfl,id⟩,fun _=>rfl,fun _ _ ⟨_,h⟩=>World.block_lt_of_cell? W _ h,trivial⟩
theorem Q0{W:World}:∀(xs:List AV) (cs:List Value) (b off:Nat),VL (I6 W) W xs cs->(∀i,i<xs.length->W.cell? ⟨b,off+i,none⟩=cs[i]?)->VC (I6 W) W xs b off
 | [],_,_,_,_,_=>by simp only[VC]
 |a::xs,c::cs,b,off,hv,h=>by
  simp only[VL]at hv
  have h0:=h 0 (by simp)
  simp only[Nat.add_zero,List.getElem?_cons_zero]at h0
  simp only[VC]
  refine⟨⟨c,h0⟩,⟨c,h0,hv.1⟩,Q0 xs cs b (off+1) hv.2 fun i hi=>?_⟩
  have:=h (i+1) (by simp;omega)
  simpa[Nat.add_assoc,Nat.add_comm 1 i]using this
 |_::_,[],_,_,hv,_=>by simp only[VL]at hv
theorem zCR{W:World}{b:Nat}:∀(n off:Nat),(∀i,i<n->∃(cs:List Value) (t:Tm),(∀j,j<3->W.cell? ⟨b,off+i*3+j,none⟩=cs[j]?)∧VL (I6 W) W (fD t) cs∧t.Ok) ->
  ∃l:List Tm,l.length=n∧VC (I6 W) W (zG zC l) b off∧nF l
 |0,off,_=>⟨[],rfl,by simp[zG,VC],by rw[nF];trivial⟩
 |n+1,off,h=>by
  obtain⟨cs,t,hc,ht,hto⟩:=h 0 (by omega)
  obtain⟨l,hl,hV,hlo⟩:=zCR (W:=W) (b:=b) n (off+3) fun i hi=>by
   obtain⟨cs,t,hc,ht,hto⟩:=h (i+1) (by omega)
   refine⟨cs,t,fun j hj=>?_,ht,hto⟩
   rw[←hc j hj]
   congr 2
   omega
  refine⟨t::l,by simp[hl],?_,by rw[nF];exact⟨hto,hlo⟩⟩
  have e:zG zC (t::l)=fD t++zG zC l:=by simp only[zG,List.flatMap_cons,wL]
  rw[e]
  refine VC.append _ _ _ _ (Q0 _ cs _ _ ht fun i hi=>?_) (by simpa[fD]using hV)
  simpa using hc i (by simpa[fD]using hi)
end Go.Ab
namespace Go.Proofs.YtcckelpaoefonaaGreat
open Go Go.Ab Go.RowKit Go.Proofs Go.Proofs.Tryz
theorem zAd{H:Type}{enc:TypeId×Value->H}{W:World}{n:Nat}{c2:Value}{x:DataW H×List MemPlace}
  (ih:∀m,n=m+1->∀(cs:List Value) (x:DataW H×List MemPlace),DataW.trod enc prog W 0 (fun _=>true) true m 27 cs=some x->∃t:Tm,VL (I6 W) W (fD t) cs∧t.Ok)
  (f2:DataW.trod enc prog W 0 (fun _=>true) true n 23 [c2]=some x):∃l:List Tm,V (I6 W) W (.sl (zG zC l) l.length .no) c2∧nF l∧l.length<9223372036854775808:=by
 rcases DataW.trod_slice Tryz.underlying23 f2 with⟨e2,-⟩|⟨a,len,cap,elems,rest,m,hm,e2,-,-,hle,hmx,hel,hE,hR,-⟩
 ·cases e2
  exact⟨[],by simp only[V];exact⟨0,Nat.le_refl _,.inl ⟨rfl,rfl,rfl,rfl,trivial⟩⟩,by rw[nF];trivial,by simp⟩
 ·cases e2
  have rd:∀i,i<cap->∃(cs:List Value) (t:Tm),W.cells? 0 (a.add (i*3)) 3=some cs∧VL (I6 W) W (fD t) cs∧t.Ok:=by
   intro i hi
   have got:∃y,(W.cells? 0 (a.add (i*3)) 3).bind (DataW.trod enc prog W 0 (fun _=>true) true m 27)=some y:=by
    rw[←z7]
    rcases Nat.lt_or_ge i len with hlt|hge
    ·rw[hE i hlt];exact⟨_,List.getElem?_eq_getElem (by omega)⟩
    ·obtain⟨r1,r2⟩:=hR rfl
     have:=r2 (i-len) (by omega)
     rw[show len+(i-len)=i by omega]at this
     rw[this];exact⟨_,List.getElem?_eq_getElem (by omega)⟩
   obtain⟨y,hy⟩:=got
   obtain⟨cs,h1,h2⟩:=Option.bind_eq_some_iff.1 hy
   obtain⟨t,ht⟩:=ih m hm cs y h2
   exact⟨cs,t,h1,ht⟩
  rcases Nat.eq_zero_or_pos cap with e|hpos
  ·subst e
   have:len=0:=by omega
   subst this
   exact⟨[],by simp only[V];exact⟨0,Nat.le_refl _,.inl ⟨rfl,rfl,rfl,rfl,trivial⟩⟩,by rw[nF];trivial,by simp⟩
  ·obtain⟨b,off,spot⟩:=a
   have hsp:spot=none:=by
    obtain⟨cs,t,h1,h2⟩:=rd 0 hpos
    obtain⟨_,hl,hc⟩:=World.cells?_some h1
    have g0:=hc 0 (by omega)
    obtain⟨c0,hc0⟩:∃c0,cs[0]? = some c0:=⟨_,List.getElem?_eq_getElem (by omega)⟩
    rw[hc0]at g0
    simpa[Addr.add]using World.cell?_spot g0
   subst hsp
   obtain⟨l,hl,hV,hlo⟩:=zCR (W:=W) (b:=b) len off fun i hi=>by
    obtain⟨cs,t,h1,h2⟩:=rd i (by omega)
    obtain⟨_,_,hc⟩:=World.cells?_some h1
    exact⟨cs,t,fun j hj=>by have:=hc j hj;simpa[Addr.add_lit]using this,h2⟩
   refine⟨l,?_,hlo,by have:maxLen=9223372036854775807:=rfl;omega⟩
   simp only[V]
   exact⟨cap,by omega,.inr ⟨b,off,by rw[hl],hV,trivial⟩⟩
theorem I7{H:Type}{enc:TypeId×Value->H}{W:World}:∀(fuel:Nat) (cs:List Value) (x:DataW H×List MemPlace),DataW.trod enc prog W 0 (fun _=>true) true fuel 27 cs=some x->∃t:Tm,VL (I6 W) W (fD t) cs∧t.Ok:=by
 intro fuel
 induction fuel using Nat.strongRecOn with
 |ind fuel ih=>
  intro cs x h
  obtain⟨xs,n,hn,-,hlen,hxs,hf⟩:=DataW.trod_struct Tryz.underlying27 h
  have hlen:cs.length=3:=hlen.trans z7
  obtain⟨c0,c1,c2,rfl⟩:∃c0 c1 c2,cs=[c0,c1,c2]:=by
   rcases cs with _|⟨a,_|⟨b,_|⟨c,_|⟨e,cs⟩⟩⟩⟩<;>simp only[List.length_nil,List.length_cons]at hlen<;>first|exact⟨a,b,c,rfl⟩|omega
  have c3:prog.cellsOf 3=1:=by kernel_rfl
  have c30:prog.cellsOf 23=1:=by kernel_rfl
  have f0:DataW.trod enc prog W 0 (fun _=>true) true n 3 ((List.drop 0 [c0,c1,c2]).take (prog.cellsOf 3))=xs[0]?:=hf 0 _ rfl
  have f1:DataW.trod enc prog W 0 (fun _=>true) true n 3 ((List.drop 1 [c0,c1,c2]).take (prog.cellsOf 3))=xs[1]?:=hf 1 _ rfl
  have f2:DataW.trod enc prog W 0 (fun _=>true) true n 23 ((List.drop 2 [c0,c1,c2]).take (prog.cellsOf 23))=xs[2]?:=hf 2 _ rfl
  rw[c3]at f0 f1
  rw[c30]at f2
  replace f0:DataW.trod enc prog W 0 (fun _=>true) true n 3 [c0]=xs[0]?:=f0
  replace f1:DataW.trod enc prog W 0 (fun _=>true) true n 3 [c1]=xs[1]?:=f1
  replace f2:DataW.trod enc prog W 0 (fun _=>true) true n 23 [c2]=xs[2]?:=f2
  have hsz:xs.length=3:=hxs
  obtain⟨y0,y1,y2,rfl⟩:∃y0 y1 y2,xs=[y0,y1,y2]:=by
   rcases xs with _|⟨a,_|⟨b,_|⟨c,_|⟨e,xs⟩⟩⟩⟩<;>simp only[List.length_nil,List.length_cons]at hsz<;>first|exact⟨a,b,c,rfl⟩|omega
  simp only[List.getElem?_cons_zero,List.getElem?_cons_succ]at f0 f1 f2
  obtain⟨k0,e0,-,-⟩:=DataW.trod_int Tryz.underlying3 f0
  obtain⟨k1,e1,-,-⟩:=DataW.trod_int Tryz.underlying3 f1
  cases e0;cases e1
  have key:=zAd (W:=W) (n:=n) (fun m hm cs x hx=>ih m (by omega) cs x hx) f2
  obtain⟨l,hl,ho,hlen⟩:=key
  refine⟨.mk k0 k1 l,?_,by rw[Tm.Ok];exact⟨hlen,ho⟩⟩
  simp only[fD,Tm.k,Tm.n,Tm.sub,VL]
  exact⟨by simp only[V],by simp only[V],hl,trivial⟩
end Go.Proofs.YtcckelpaoefonaaGreat
namespace Go.Ab
open Go Go.RowKit
def Wt{H:Type}(P:Program)(t:TypeId)(d:DataW H):Prop:=∀w∈d.weights P t,w≤reachBytes
theorem zAc{H:Type}{P:Program}:∀(ts:List TypeId) (ds:List (DataW H)) (i:Nat) (t:TypeId) (d:DataW H),ts[i]? = some t->ds[i]? = some d->∀w∈d.weights P t,w∈DataW.weightsEach P ts ds
 | [],_,i,t,d,h,_,w,_=>by simp at h
 |_::_,[],i,t,d,_,h,w,_=>by simp at h
 |t0::ts,d0::ds,0,t,d,h,k,w,hw=>by
  simp only[List.getElem?_cons_zero,Option.some.injEq]at h k
  subst h;subst k
  rw[DataW.weightsEach];exact List.mem_append_left _ hw
 |t0::ts,d0::ds,i+1,t,d,h,k,w,hw=>by
  rw[DataW.weightsEach]
  exact List.mem_append_right _ (zAc ts ds i t d (by simpa using h) (by simpa using k) w hw)
theorem zFj{H:Type}{P:Program}{e:TypeId}:∀(ds:List (DataW H)) (d:DataW H),d∈ds->∀w∈d.weights P e,w∈DataW.weightsAll P e ds
 |d0::ds,d,h,w,hw=>by
  rw[DataW.weightsAll]
  rcases List.mem_cons.1 h with rfl|h
  ·exact List.mem_append_left _ hw
  ·exact List.mem_append_right _ (zFj ds d h w hw)
theorem zCS{H:Type}{P:Program}{t:TypeId}{fs:Array Field}(ht:P.underlying t=some (.struct fs)){parts:List (DataW H)}(h:Wt P t (.agg parts)){i:Nat}{f:Field}{d:DataW H}(hf:fs[i]? = some f)(hd:parts[i]? = some d):Wt P f.type d:=fun w hw=>by
 refine h w ?_
 rw[DataW.weights,ht]
 exact zAc _ _ i f.type d (by rw[List.getElem?_map,Array.getElem?_toList,hf];rfl) hd w hw
theorem zLQ{H:Type}{P:Program}{t e:TypeId}(ht:P.underlying t=some (.slice e)){es rs:List (DataW H)}(h:Wt P t (.slice es rs)):(es.length+rs.length)*P.bytesOf e≤reachBytes∧(∀d∈es,Wt P e d)∧∀d∈rs,Wt P e d:=by
 unfold Wt at h
 rw[DataW.weights,ht]at h
 refine⟨h _ (by simp),fun d hd w hw=>h w ?_,fun d hd w hw=>h w ?_⟩
 ·exact List.mem_cons_of_mem _ (List.mem_append_left _ (zFj es d hd w hw))
 ·exact List.mem_cons_of_mem _ (List.mem_append_right _ (zFj rs d hd w hw))
theorem v8{α:Type}(cells:α->List AV)(c:Nat)(hcl:∀x,(cells x).length=c){W:World}{b:Nat}{Q:α->Prop}:∀(n off:Nat),(∀i,i<n->∃(cs:List Value) (x:α),(∀j,j<c->W.cell? ⟨b,off+i*c+j,none⟩=cs[j]?)∧VL (I6 W) W (cells x) cs∧Q x) ->
  ∃l:List α,l.length=n∧VC (I6 W) W (zG cells l) b off∧∀x∈l,Q x
 |0,off,_=>⟨[],rfl,by simp[zG,VC],fun _ h=>nomatch h⟩
 |n+1,off,h=>by
  obtain⟨cs,t,hc,ht,hq⟩:=h 0 (by omega)
  obtain⟨l,hl,hV,hlo⟩:=v8 cells c hcl (W:=W) (b:=b) (Q:=Q) n (off+c) fun i hi=>by
   obtain⟨cs,t,hc,ht,hto⟩:=h (i+1) (by omega)
   refine⟨cs,t,fun j hj=>?_,ht,hto⟩
   rw[←hc j hj]
   congr 2
   rw[Nat.succ_mul];omega
  refine⟨t::l,by simp[hl],?_,fun x hx=>(List.mem_cons.1 hx).elim (fun e=>e▸hq) (hlo x)⟩
  have e:zG cells (t::l)=cells t++zG cells l:=by simp only[zG,List.flatMap_cons]
  rw[e]
  refine VC.append _ _ _ _ (Q0 _ cs _ _ ht fun i hi=>?_) (by rw[hcl];exact hV)
  rw[hcl]at hi
  simpa using hc i hi
theorem u5{α:Type}(cells:α->List AV)(c:Nat)(hcl:∀x,(cells x).length=c)(hpos:0<c){H:Type}{enc:TypeId×Value->H}{P:Program}{W:World}{n:Nat}{t e:TypeId}{c2:Value}{x:DataW H×List MemPlace}{Q:α->Prop}
  (ht:P.underlying t=some (.slice e)) (hc:P.cellsOf e=c)
  (ih:∀m,n=m+1->∀(cs:List Value) (x:DataW H×List MemPlace),DataW.trod enc P W 0 (fun _=>true) true m e cs=some x->Wt P e x.1->∃a:α,VL (I6 W) W (cells a) cs∧Q a)
  (f2:DataW.trod enc P W 0 (fun _=>true) true n t [c2]=some x) (hw:Wt P t x.1):∃l:List α,V (I6 W) W (.sl (zG cells l) l.length .no) c2∧(∀a∈l,Q a)∧l.length*P.bytesOf e≤reachBytes:=by
 rcases DataW.trod_slice ht f2 with⟨e2,-⟩|⟨a,len,cap,elems,rest,m,hm,e2,hx,-,hle,hmx,hel,hE,hR,-⟩
 ·cases e2
  exact⟨[],by simp only[V];exact⟨0,Nat.le_refl _,.inl ⟨rfl,rfl,rfl,rfl,trivial⟩⟩,fun _ h=>(nomatch h),by simp⟩
 ·cases e2
  rw[hx]at hw
  obtain⟨w1,w2,w3⟩:=zLQ ht hw
  rw[hc]at hE hR
  have rd:∀i,i<cap->∃(cs:List Value) (t:α),W.cells? 0 (a.add (i*c)) c=some cs∧VL (I6 W) W (cells t) cs∧Q t:=by
   intro i hi
   have got:∃y,(W.cells? 0 (a.add (i*c)) c).bind (DataW.trod enc P W 0 (fun _=>true) true m e)=some y∧Wt P e y.1:=by
    rcases Nat.lt_or_ge i len with hlt|hge
    ·rw[hE i hlt];exact⟨_,List.getElem?_eq_getElem (by omega),w2 _ (List.mem_map_of_mem (List.getElem_mem _))⟩
    ·obtain⟨r1,r2⟩:=hR rfl
     have:=r2 (i-len) (by omega)
     rw[show len+(i-len)=i by omega]at this
     rw[this];exact⟨_,List.getElem?_eq_getElem (by omega),w3 _ (List.mem_map_of_mem (List.getElem_mem _))⟩
   obtain⟨y,hy,hyw⟩:=got
   obtain⟨cs,h1,h2⟩:=Option.bind_eq_some_iff.1 hy
   obtain⟨t,ht⟩:=ih m hm cs y h2 hyw
   exact⟨cs,t,h1,ht⟩
  rcases Nat.eq_zero_or_pos cap with e0|hp
  ·subst e0
   have:len=0:=by omega
   subst this
   exact⟨[],by simp only[V];exact⟨0,Nat.le_refl _,.inl ⟨rfl,rfl,rfl,rfl,trivial⟩⟩,fun _ h=>(nomatch h),by simp⟩
  ·obtain⟨b,off,spot⟩:=a
   have hsp:spot=none:=by
    obtain⟨cs,t,h1,h2⟩:=rd 0 hp
    obtain⟨_,hl,hcc⟩:=World.cells?_some h1
    have g0:=hcc 0 (by omega)
    obtain⟨c0,hc0⟩:∃c0,cs[0]? = some c0:=⟨_,List.getElem?_eq_getElem (by omega)⟩
    rw[hc0]at g0
    simpa[Addr.add]using World.cell?_spot g0
   subst hsp
   obtain⟨l,hl,hV,hlo⟩:=v8 cells c hcl (W:=W) (b:=b) (Q:=Q) len off fun i hi=>by
    obtain⟨cs,t,h1,h2⟩:=rd i (by omega)
    obtain⟨_,_,hcc⟩:=World.cells?_some h1
    exact⟨cs,t,fun j hj=>by have:=hcc j hj;simpa[Addr.add_lit]using this,h2⟩
   refine⟨l,?_,hlo,?_⟩
   ·simp only[V]
    exact⟨cap,by omega,.inr ⟨b,off,by rw[hl],hV,trivial⟩⟩
   ·rw[List.length_map,List.length_map,hel]at w1
    rw[hl]
    exact Nat.le_trans (Nat.mul_le_mul_right _ (Nat.le_add_right _ _)) w1
end Go.Ab
namespace Go.Proofs.YtcckelpaoefonaaGreat
open Go Go.Ab Go.RowKit Go.Proofs Go.Proofs.Tryz
def RdE(e:yE):Prop:=e.type.Ok∧e.body.Ok∧e.cons.length≤17592186044416∧e.fields.length≤17592186044416
theorem zHq{H:Type}{enc:TypeId×Value->H}{W:World}{n:Nat}{c2:Value}{x:DataW H×List MemPlace}(f2:DataW.trod enc prog W 0 (fun _=>true) true n 34 [c2]=some x)(hw:Wt prog 34 x.1) :
  ∃l:List Int,V (I6 W) W (.sl (zG zU l) l.length .no) c2∧l.length≤17592186044416:=by
 obtain⟨l,h1,-,h2⟩:=u5 zU 1 (fun _=>rfl) (by omega) (Q:=fun _=>True) Tryz.underlying34 (by kernel_rfl) (fun m _ cs x h _=>by
  obtain⟨k,e,-⟩:=DataW.trod_int Tryz.underlying3 h
  subst e
  exact⟨k,by simp only[zU,VL,V,and_true],trivial⟩) f2 hw
 refine⟨l,h1,?_⟩
 have:prog.bytesOf 3=8:=by kernel_rfl
 rw[this]at h2
 have:reachBytes=140737488351232:=rfl
 omega
theorem zTi{α:Type}(l:List α)(h:l.length=15):∃c0 c1 c2 c3 c4 c5 c6 c7 c8 c9 u6 c11 c12 c13 c14,l=[c0,c1,c2,c3,c4,c5,c6,c7,c8,c9,u6,c11,c12,c13,c14]:=by
 rcases l with _|⟨c0,_|⟨c1,_|⟨c2,_|⟨c3,_|⟨c4,_|⟨c5,_|⟨c6,_|⟨c7,_|⟨c8,_|⟨c9,_|⟨u6,_|⟨c11,_|⟨c12,_|⟨c13,_|⟨c14,_|⟨zz,zs⟩⟩⟩⟩⟩⟩⟩⟩⟩⟩⟩⟩⟩⟩⟩⟩<;>simp only[List.length_nil,List.length_cons]at h<;>first|exact⟨c0,c1,c2,c3,c4,c5,c6,c7,c8,c9,u6,c11,c12,c13,c14,rfl⟩|omega
theorem zTh{α:Type}(l:List α)(h:l.length=11):∃y0 y1 y2 y3 y4 y5 y6 y7 y8 y9 y10,l=[y0,y1,y2,y3,y4,y5,y6,y7,y8,y9,y10]:=by
 rcases l with _|⟨y0,_|⟨y1,_|⟨y2,_|⟨y3,_|⟨y4,_|⟨y5,_|⟨y6,_|⟨y7,_|⟨y8,_|⟨y9,_|⟨y10,_|⟨zz,zs⟩⟩⟩⟩⟩⟩⟩⟩⟩⟩⟩⟩<;>simp only[List.length_nil,List.length_cons]at h<;>first|exact⟨y0,y1,y2,y3,y4,y5,y6,y7,y8,y9,y10,rfl⟩|omega
theorem zLR{H:Type}{enc:TypeId×Value->H}{W:World}(fuel:Nat)(cs:List Value)(x:DataW H×List MemPlace)(h:DataW.trod enc prog W 0 (fun _=>true) true fuel 36 cs=some x)(hw:Wt prog 36 x.1):∃e:yE,VL (I6 W) W (yA e) cs∧RdE e:=by
 obtain⟨xs,n,hn,hx,hlen,hxs,hf⟩:=DataW.trod_struct Tryz.underlying36 h
 rw[hx]at hw
 have c15:prog.cellsOf 36=15:=by kernel_rfl
 obtain⟨c0,c1,c2,c3,c4,c5,c6,c7,c8,c9,u6,c11,c12,c13,c14,rfl⟩:=zTi cs (hlen.trans c15)
 obtain⟨y0,y1,y2,y3,y4,y5,y6,y7,y8,y9,y10,rfl⟩:=zTh xs hxs
 have kINT:prog.cellsOf 3=1:=by kernel_rfl
 have kSTR:prog.cellsOf 9=1:=by kernel_rfl
 have kTERM:prog.cellsOf 27=3:=by kernel_rfl
 have kINTS:prog.cellsOf 34=1:=by kernel_rfl
 have f0:DataW.trod enc prog W 0 (fun _=>true) true n 3 ((List.drop 0 [c0,c1,c2,c3,c4,c5,c6,c7,c8,c9,u6,c11,c12,c13,c14]).take (prog.cellsOf 3))=some y0:=hf 0 _ rfl
 rw[kINT]at f0
 replace f0:DataW.trod enc prog W 0 (fun _=>true) true n 3 [c0]=some y0:=f0
 have f1:DataW.trod enc prog W 0 (fun _=>true) true n 9 ((List.drop 1 [c0,c1,c2,c3,c4,c5,c6,c7,c8,c9,u6,c11,c12,c13,c14]).take (prog.cellsOf 9))=some y1:=hf 1 _ rfl
 rw[kSTR]at f1
 replace f1:DataW.trod enc prog W 0 (fun _=>true) true n 9 [c1]=some y1:=f1
 have f2:DataW.trod enc prog W 0 (fun _=>true) true n 27 ((List.drop 2 [c0,c1,c2,c3,c4,c5,c6,c7,c8,c9,u6,c11,c12,c13,c14]).take (prog.cellsOf 27))=some y2:=hf 2 _ rfl
 rw[kTERM]at f2
 replace f2:DataW.trod enc prog W 0 (fun _=>true) true n 27 [c2,c3,c4]=some y2:=f2
 have f3:DataW.trod enc prog W 0 (fun _=>true) true n 27 ((List.drop 5 [c0,c1,c2,c3,c4,c5,c6,c7,c8,c9,u6,c11,c12,c13,c14]).take (prog.cellsOf 27))=some y3:=hf 3 _ rfl
 rw[kTERM]at f3
 replace f3:DataW.trod enc prog W 0 (fun _=>true) true n 27 [c5,c6,c7]=some y3:=f3
 have f4:DataW.trod enc prog W 0 (fun _=>true) true n 3 ((List.drop 8 [c0,c1,c2,c3,c4,c5,c6,c7,c8,c9,u6,c11,c12,c13,c14]).take (prog.cellsOf 3))=some y4:=hf 4 _ rfl
 rw[kINT]at f4
 replace f4:DataW.trod enc prog W 0 (fun _=>true) true n 3 [c8]=some y4:=f4
 have f5:DataW.trod enc prog W 0 (fun _=>true) true n 3 ((List.drop 9 [c0,c1,c2,c3,c4,c5,c6,c7,c8,c9,u6,c11,c12,c13,c14]).take (prog.cellsOf 3))=some y5:=hf 5 _ rfl
 rw[kINT]at f5
 replace f5:DataW.trod enc prog W 0 (fun _=>true) true n 3 [c9]=some y5:=f5
 have f6:DataW.trod enc prog W 0 (fun _=>true) true n 3 ((List.drop 10 [c0,c1,c2,c3,c4,c5,c6,c7,c8,c9,u6,c11,c12,c13,c14]).take (prog.cellsOf 3))=some y6:=hf 6 _ rfl
 rw[kINT]at f6
 replace f6:DataW.trod enc prog W 0 (fun _=>true) true n 3 [u6]=some y6:=f6
 have f7:DataW.trod enc prog W 0 (fun _=>true) true n 3 ((List.drop 11 [c0,c1,c2,c3,c4,c5,c6,c7,c8,c9,u6,c11,c12,c13,c14]).take (prog.cellsOf 3))=some y7:=hf 7 _ rfl
 rw[kINT]at f7
 replace f7:DataW.trod enc prog W 0 (fun _=>true) true n 3 [c11]=some y7:=f7
 have f8:DataW.trod enc prog W 0 (fun _=>true) true n 3 ((List.drop 12 [c0,c1,c2,c3,c4,c5,c6,c7,c8,c9,u6,c11,c12,c13,c14]).take (prog.cellsOf 3))=some y8:=hf 8 _ rfl
 rw[kINT]at f8
 replace f8:DataW.trod enc prog W 0 (fun _=>true) true n 3 [c12]=some y8:=f8
 have f9:DataW.trod enc prog W 0 (fun _=>true) true n 34 ((List.drop 13 [c0,c1,c2,c3,c4,c5,c6,c7,c8,c9,u6,c11,c12,c13,c14]).take (prog.cellsOf 34))=some y9:=hf 9 _ rfl
 rw[kINTS]at f9
 replace f9:DataW.trod enc prog W 0 (fun _=>true) true n 34 [c13]=some y9:=f9
 have f10:DataW.trod enc prog W 0 (fun _=>true) true n 34 ((List.drop 14 [c0,c1,c2,c3,c4,c5,c6,c7,c8,c9,u6,c11,c12,c13,c14]).take (prog.cellsOf 34))=some y10:=hf 10 _ rfl
 rw[kINTS]at f10
 replace f10:DataW.trod enc prog W 0 (fun _=>true) true n 34 [c14]=some y10:=f10
 obtain⟨n0,e0,-,-⟩:=DataW.trod_int Tryz.underlying3 f0
 cases e0
 obtain⟨n1,e1,-,-⟩:=DataW.trod_string Tryz.underlying9 f1
 cases e1
 obtain⟨t2,v2,o2⟩:=I7 _ _ _ f2
 obtain⟨t3,v3,o3⟩:=I7 _ _ _ f3
 obtain⟨n4,e4,-,-⟩:=DataW.trod_int Tryz.underlying3 f4
 cases e4
 obtain⟨n5,e5,-,-⟩:=DataW.trod_int Tryz.underlying3 f5
 cases e5
 obtain⟨n6,e6,-,-⟩:=DataW.trod_int Tryz.underlying3 f6
 cases e6
 obtain⟨n7,e7,-,-⟩:=DataW.trod_int Tryz.underlying3 f7
 cases e7
 obtain⟨n8,e8,-,-⟩:=DataW.trod_int Tryz.underlying3 f8
 cases e8
 obtain⟨l9,v9,o9⟩:=zHq f9 (zCS Tryz.underlying36 hw (i:=9) rfl rfl)
 obtain⟨l10,v10,o10⟩:=zHq f10 (zCS Tryz.underlying36 hw (i:=10) rfl rfl)
 simp only[fD,VL]at v2 v3
 refine⟨yE.mk n0 n1 t2 t3 n4 n5 n6 n7 n8 l9 l10,?_,o2,o3,o9,o10⟩
 simp only[yA,VL]
 exact⟨by simp only[V],by simp only[V],v2.1,v2.2.1,v2.2.2.1,v3.1,v3.2.1,v3.2.2.1,by simp only[V],by simp only[V],by simp only[V],by simp only[V],by simp only[V],v9,v10,trivial⟩
theorem zPt{H:Type}{enc:TypeId×Value->H}{W:World}{v:Value}{d:DataW H}{p:List MemPlace}(hv:∃(q:Option Addr) (m c:Nat),v = .slice q m c)
  (h:DataW.Trod enc prog W 0 (fun _=>true) true 22 v d p) (hw:Wt prog 22 d):∃l:List yE,V (I6 W) W (.sl (zG yA l) l.length .no) v∧∀e∈l,RdE e:=by
 obtain⟨q,m,c,rfl⟩:=hv
 obtain⟨fuel,hf⟩:=h
 obtain⟨l,h1,h2,-⟩:=u5 yA 15 (fun _=>rfl) (by omega) (Q:=RdE) Tryz.underlying22 (by kernel_rfl) (fun m _ cs x h hw=>zLR m cs x h hw) (n:=fuel) (by simpa[Value.cells]using hf) hw
 exact⟨l,h1,h2⟩
theorem zTg{G:Gh}{W:World}{cs:List AV}{w:List Value}{v:Value}(hw:v.cells.toList=w)(hl:w.length≠1)(hV:VL G W cs w):V G W (.agg cs) v:=by
 cases v with
 |agg us=>simp only[V];exact⟨_,rfl,by rw[show us.toList=w from hw];exact hV⟩
 |_=>exact absurd (by rw[←hw];simp[Value.cells]) hl
theorem zLS{H:Type}{enc:TypeId×Value->H}{P:Program}{W:World}{fuel:Nat}{t e k:Nat}{cs:List Value}{x:DataW H×List MemPlace}(ht:P.underlying t=some (.array 2 e))(he:P.cellsOf e=k)(h:DataW.trod enc P W 0 (fun _=>true) true fuel t cs=some x) :
  cs.length=P.cellsOf t∧∃(y0 y1:DataW H×List MemPlace) (m:Nat),DataW.trod enc P W 0 (fun _=>true) true m e (cs.take k)=some y0∧DataW.trod enc P W 0 (fun _=>true) true m e ((cs.drop k).take k)=some y1:=by
 obtain⟨xs,m,hn,-,hlen,hxs,hf⟩:=DataW.trod_array ht h
 subst he
 obtain⟨y0,y1,rfl⟩:∃y0 y1,xs=[y0,y1]:=by
  rcases xs with _|⟨a,_|⟨b,_|⟨c,xs⟩⟩⟩<;>simp only[List.length_nil,List.length_cons]at hxs<;>first|exact⟨a,b,rfl⟩|omega
 refine⟨hlen,y0,y1,m,?_,?_⟩
 ·have:=hf 0 (by omega)
  simpa using this
 ·have:=hf 1 (by omega)
  simpa using this
theorem zXB{α:Type}(l:List α)(h:l.length=2):∃c0 c1,l=[c0,c1]:=by
 rcases l with _|⟨c0,_|⟨c1,_|⟨zz,zs⟩⟩⟩<;>simp only[List.length_nil,List.length_cons]at h<;>first|exact⟨c0,c1,rfl⟩|omega
def zLT(x:Two):Prop:=(nF x.a∧x.a.length<9223372036854775808)∧nF x.b∧x.b.length<9223372036854775808
theorem zPs{H:Type}{enc:TypeId×Value->H}{W:World}{v:Value}{d:DataW H}{p:List MemPlace}(h:DataW.Trod enc prog W 0 (fun _=>true) true 24 v d p):∃e:Two,V (I6 W) W (.agg (zIW e)) v∧zLT e:=by
 obtain⟨fuel,hf⟩:=h
 have cc:prog.cellsOf 24=2:=by kernel_rfl
 have ce:prog.cellsOf 23=1:=by kernel_rfl
 obtain⟨hlen,y0,y1,n,f0,f1⟩:=zLS Tryz.underlying24 ce hf
 have hv:∃w:List Value,v.cells.toList=w:=⟨_,rfl⟩
 obtain⟨w,hw⟩:=hv
 rw[hw]at hlen f0 f1
 obtain⟨c0,c1,rfl⟩:=zXB w (hlen.trans cc)
 replace f0:DataW.trod enc prog W 0 (fun _=>true) true n 23 [c0]=some y0:=f0
 replace f1:DataW.trod enc prog W 0 (fun _=>true) true n 23 [c1]=some y1:=f1
 obtain⟨l0,v0,o0⟩:=zAd (n:=n) (fun m _ cs x hx=>I7 m cs x hx) f0
 obtain⟨l1,v1,o1⟩:=zAd (n:=n) (fun m _ cs x hx=>I7 m cs x hx) f1
 have hV:VL (I6 W) W (zIW ⟨l0,l1⟩) [c0,c1]:=by
  simp only[zIW,VL]
  exact⟨v0,v1,trivial⟩
 exact⟨⟨l0,l1⟩,zTg hw (by simp) hV,o0,o1⟩
mutual
def zFi:Nat->Tm->Int->Option Int
 |0,_,_=>none
 |c+1,a,d=>
 lY c a (yN (d+1)) 0
def lY:Nat->Tm->Int->Int->Option Int
 |0,_,_,_=>none
 |c+1,a,e,b=>
 if decide (b<(a.sub.length:Int))then
 zP a.sub b>>=fun x2=>
 if decide (e>8192)then
 some e
 else
 zFi c x2 e>>=fun r5=>
 lY c a r5 (yN (b+1))
 else
 some e
end
abbrev zXC (a:Tm) (d r:Int) (C:Cf):Prop:=C 151 [] [yV a,ai d] (ai r) [] 0
theorem zCT:∀c:Nat,(∀ {a d r},zFi c a d=some r->zXC a d r Ct)∧(∀ {a e b r},lY c a e b=some r->(∀j,dL 0 (pt 4021 f151) (sp j 23 0 [(1,ai e),(10,zH zC a.sub .no),(11,ai (a.sub.length:Int)),(12,ai b)]) (⟨[],0,[],0,[]⟩) (fQ 0 (nQ 0 f151 (ai r) [] 0) [.blk 0,.seq (pt 63 f151)]))):=by
 intro c
 induction c with
 |zero=>
  exact⟨fun h=>nn h,fun h=>nn h⟩
 |succ c ih=>
  obtain⟨zXD,zCU⟩:=ih
  refine⟨?_,?_⟩
  intro a d r h
  rw[zFi]at h
  exact⟨tH ⟨func151,rfl⟩ 3 [] [] [] [1,10,11,12] (oD (dT a.sub) o0) (zCU h),⟨⟨tv,tv,⟨tv,dT _⟩,tv⟩,tv,tv⟩,zA,tv,zA⟩
  intro a e b r h
  rw[lY]at h
  obtain⟨h1,h⟩|⟨h1,h⟩:=zK h
  obtain⟨x2,h3,h⟩:=zB h
  have k:=oA 0 (xH (o:=.no) h3)<|oB 0 h1 o0
  obtain⟨h4,h⟩|⟨h4,h⟩:=zK h
  obtain rfl:=sj h
  exact fun j=>lF 0 [] (oB 2 h4 k)
  obtain⟨r5,h6,h⟩:=zB h
  exact fun j=>lH 1 [] [] [] [1,10,11,12] (oD (dT a.sub)<|oC 1 [] (zXD h6)<|oB 2 h4 k) (zCU h)
  obtain rfl:=sj h
  exact fun j=>lF 0 [] (oB 0 h1 o0)
theorem yAC{c a d r}(h:zFi c a d=some r):zXC a d r Ct:=(zCT _).1 h
def e85(b:Nat)(a:Tm):Option Int:=
 zFi b a 0>>=fun r1=>
 some r1
theorem c85{b a r}(h:e85 b a=some r):Ct 85 [] [yV a] (ai r) [] 0:=⟨by
 unfold e85 at h
 obtain⟨r1,h2,h⟩:=zB h
 obtain rfl:=sj h
 exact tF ⟨func85,rfl⟩ 0 [] (oC 1 [] (yAC h2) o0),⟨⟨tv,tv,⟨tv,dT _⟩,tv⟩,tv⟩,zA,tv,zA⟩
mutual
def e86:Nat->Tm->Int->Option Int
 |0,_,_=>none
 |d+1,a,b=>
 if decide (b>128)then
 some b
 else
 eQ d a b 0 b
def eQ:Nat->Tm->Int->Int->Int->Option Int
 |0,_,_,_,_=>none
 |d+1,a,b,c,e=>
 if decide (c<(a.sub.length:Int))then
 zP a.sub c>>=fun x3=>
 e86 d x3 (yN (b+1))>>=fun r5=>
 eQ d a b (yN (c+1)) (lT e r5)
 else
 some e
end
abbrev K86 (a:Tm) (b r:Int) (C:Cf):Prop:=C 86 [] [yV a,ai b] (ai r) [] 0
theorem q86:Qf 86 f86:=⟨func86,rfl⟩
theorem zJl:∀d:Nat,(∀ {a b r},e86 d a b=some r->K86 a b r Ct)∧(∀ {a b c e r},eQ d a b c e=some r->(∀j,dL 0 (pt 16309 f86) (sp j 27 0 [(1,ai b),(5,ai e),(13,zH zC a.sub .no),(14,ai (a.sub.length:Int)),(15,ai c)]) (⟨[],0,[],0,[]⟩) (fQ 0 (nQ 0 f86 (ai r) [] 0) [.blk 0,.seq (pt 255 f86)]))):=by
 intro d
 induction d with
 |zero=>
  exact⟨fun h=>nn h,fun h=>nn h⟩
 |succ d ih=>
  obtain⟨yAD,zHp⟩:=ih
  refine⟨?_,?_⟩
  intro a b r h
  rw[e86]at h
  obtain⟨h1,h⟩|⟨h1,h⟩:=zK h
  obtain rfl:=sj h
  exact⟨tF q86 0 [] (oB 0 h1 o0),⟨⟨tv,tv,⟨tv,dT _⟩,tv⟩,tv,tv⟩,zA,tv,zA⟩
  exact⟨tH q86 2 [] [] [] [1,5,13,14,15] (oD (dT a.sub)<|oB 0 h1 o0) (zHp h),⟨⟨tv,tv,⟨tv,dT _⟩,tv⟩,tv,tv⟩,zA,tv,zA⟩
  intro a b c e r h
  rw[eQ]at h
  obtain⟨h2,h⟩|⟨h2,h⟩:=zK h
  obtain⟨x3,h4,h⟩:=zB h
  obtain⟨r5,h6,h⟩:=zB h
  exact fun j=>lH 2 [] [] [] [1,5,13,14,15] (oD (dT a.sub)<|oC 4 [] (yAD h6)<|oA 0 (xH (o:=.no) h4)<|oB 0 h2 o0) (zHp h)
  obtain rfl:=sj h
  exact fun j=>lF 0 [] (oB 0 h2 o0)
theorem c86{d a b r}(h:e86 d a b=some r):K86 a b r Ct:=(zJl _).1 h
def e43(b:Nat)(a:Tm):Option Int:=
 e85 b a>>=fun r1=>
 if decide (r1>8192)then
 some 129
 else
 e86 b a 1>>=fun r4=>
 some r4
theorem q43:Qf 43 Tryz.f43:=⟨func43,rfl⟩
theorem c43{b a r}(h:e43 b a=some r):Ct 43 [] [yV a] (ai r) [] 0:=⟨by
 unfold e43 at h
 obtain⟨r1,h2,h⟩:=zB h
 have k:=oC 1 [] (c85 h2) o0
 obtain⟨h3,h⟩|⟨h3,h⟩:=zK h
 obtain rfl:=sj h
 exact tF q43 0 [] (oB 0 h3 k)
 obtain⟨r4,h5,h⟩:=zB h
 obtain rfl:=sj h
 exact tF q43 0 [] (oC 1 [] (c86 h5)<|oB 0 h3 k),⟨⟨tv,tv,⟨tv,dT _⟩,tv⟩,tv⟩,zA,tv,zA⟩
def e87(b:Nat)(a:Tm):Option Bool:=
 if decide (a.k<1)then
 some false
 else
 if decide (a.k>8)then
 some false
 else
 zP ([0,0,0,2,2,2,0,1,0]:yD) a.k>>=fun x3=>
 zP ([0,1048576,7,0,0,0,1048576,1048576,1048576]:yD) a.k>>=fun x5=>
 if (a.sub.length:Int)==x3 then
 if decide (a.n≥0)then
 if decide (a.n≤x5)then
 if a.k != 7 then
 some true
 else
 zP a.sub 0>>=fun x11=>
 some (x11.k==2)
 else
 some false
 else
 some false
 else
 some false
theorem q87:Qf 87 f87:=⟨func87,rfl⟩
theorem c87{b a r}(h:e87 b a=some r):Ct 87 [] [yV a] (ab r) [] 0:=⟨by
 unfold e87 at h
 obtain⟨h1,h⟩|⟨h1,h⟩:=zK h
 cases h
 exact tF q87 0 [] (oB 1 h1 o0)
 have k:=oB 1 h1 o0
 obtain⟨h2,h⟩|⟨h2,h⟩:=zK h
 cases h
 exact tF q87 0 [] (oB 1 h2 k)
 obtain⟨x3,h4,h⟩:=zB h
 obtain⟨x5,h6,h⟩:=zB h
 have k:=oA 1 (zCP h6 rfl)<|oA 1 (zCP h4 rfl)<|oB 1 h2 k
 obtain⟨h7,h⟩|⟨h7,h⟩:=zK h
 have k:=oB 2 h7 k
 obtain⟨h8,h⟩|⟨h8,h⟩:=zK h
 have k:=oB 1 h8 k
 obtain⟨h9,h⟩|⟨h9,h⟩:=zK h
 have k:=oB 1 h9 k
 obtain⟨h10,h⟩|⟨h10,h⟩:=zK h
 cases h
 exact tF q87 0 [] (oB 1 h10 k)
 obtain⟨x11,h12,h⟩:=zB h
 cases h
 exact tF q87 2 [] (oA 1 (xH (o:=.no) h12)<|oB 1 h10 k)
 cases h
 exact tF q87 0 [] (oB 1 h9 k)
 cases h
 exact tF q87 0 [] (oB 1 h8 k)
 cases h
 exact tF q87 0 [] (oB 2 h7 k),⟨⟨tv,tv,⟨tv,dT _⟩,tv⟩,tv⟩,zA,tv,zA⟩
mutual
def e44:Nat->Tm->Option Bool
 |0,_=>none
 |c+1,a=>
 e87 c a>>=fun r1=>
 if r1 then
 eR c a 0
 else
 some false
def eR:Nat->Tm->Int->Option Bool
 |0,_,_=>none
 |c+1,a,b=>
 if decide (b<(a.sub.length:Int))then
 zP a.sub b>>=fun x5=>
 e44 c x5>>=fun r7=>
 if r7 then
 eR c a (yN (b+1))
 else
 some false
 else
 some true
end
abbrev K44 (a:Tm) (r:Bool) (C:Cf):Prop:=C 44 [] [yV a] (ab r) [] 0
theorem q44:Qf 44 f44:=⟨func44,rfl⟩
theorem zJk:∀c:Nat,(∀ {a r},e44 c a=some r->K44 a r Ct)∧(∀ {a b r},eR c a b=some r->(∀j,dL 0 (pt 4021 f44) (sp j 19 0 [(9,zH zC a.sub .no),(10,ai (a.sub.length:Int)),(11,ai b)]) (⟨[],0,[],0,[]⟩) (fQ 0 (nQ 0 f44 (ab r) [] 0) [.blk 0,.seq (pt 63 f44)]))):=by
 intro c
 induction c with
 |zero=>
  exact⟨fun h=>nn h,fun h=>nn h⟩
 |succ c ih=>
  obtain⟨zXG,zHo⟩:=ih
  refine⟨?_,?_⟩
  intro a r h
  rw[e44]at h
  obtain⟨r1,h2,h⟩:=zB h
  obtain⟨h3,h⟩|⟨h3,h⟩:=zK h
  exact⟨tH q44 3 [] [] [] [9,10,11] (oD (dT a.sub)<|oK 1 [] h3 (c87 h2) o0) (zHo h),⟨⟨tv,tv,⟨tv,dT _⟩,tv⟩,tv⟩,zA,tv,zA⟩
  cases h
  exact⟨tF q44 1 [] (oK 1 [] h3 (c87 h2) o0),⟨⟨tv,tv,⟨tv,dT _⟩,tv⟩,tv⟩,zA,tv,zA⟩
  intro a b r h
  rw[eR]at h
  obtain⟨h4,h⟩|⟨h4,h⟩:=zK h
  obtain⟨x5,h6,h⟩:=zB h
  obtain⟨r7,h8,h⟩:=zB h
  have k:=oA 0 (xH (o:=.no) h6)<|oB 0 h4 o0
  obtain⟨h9,h⟩|⟨h9,h⟩:=zK h
  exact fun j=>lH 2 [] [] [] [9,10,11] (oD (dT a.sub)<|oK 3 [] h9 (zXG h8) k) (zHo h)
  cases h
  exact fun j=>lF 1 [] (oK 3 [] h9 (zXG h8) k)
  cases h
  exact fun j=>lF 0 [] (oB 0 h4 o0)
theorem c44{c a r}(h:e44 c a=some r):K44 a r Ct:=(zJk _).1 h
def fV(b:Nat)(a:Tm):Option Bool:=
 e43 b a>>=fun r1=>
 if decide (r1≤128)then
 e44 b a>>=fun r4=>
 some r4
 else
 some false
theorem q20:Qf 20 Tryz.f20:=⟨func20,rfl⟩
theorem qW{b a r}(h:fV b a=some r):Ct 20 [] [yV a] (ab r) [] 0:=⟨by
 unfold fV at h
 obtain⟨r1,h2,h⟩:=zB h
 have k:=oC 1 [] (c43 h2) o0
 obtain⟨h3,h⟩|⟨h3,h⟩:=zK h
 obtain⟨r4,h5,h⟩:=zB h
 obtain rfl:=sj h
 exact tF q20 0 [] (oC 1 [] (c44 h5)<|oB 0 h3 k)
 obtain rfl:=sj h
 exact tF q20 0 [] (oB 0 h3 k),⟨⟨tv,tv,⟨tv,dT _⟩,tv⟩,tv⟩,zA,tv,zA⟩
mutual
theorem zHn:∀(t:Tm) (h:Int),t.Ok->0≤h->h≤8192->zF (fun q=>zFi q t h) (X1 t h)
 | .mk k n l,h,ho,h0,h1=>by
  refine zF.succ ?_
  simp only[zFi]
  rw[zW (by omega) (by omega),X1]
  exact zCV l (.mk k n l) 0 (h+1) rfl ho.1 ho.2 (by omega) (by omega)
theorem zCV:∀(l:List Tm) (p:Tm) (v:Nat) (h:Int),p.sub.drop v=l->p.sub.length<9223372036854775808->nF l->0≤h->h≤8193->zF (fun q=>lY q p h (v:Int)) (szL l h)
 | [],p,v,h,hd,hl,ho,h0,h1=>by
  refine zF.succ ?_
  simp only[lY]
  rw[szL]
  exact zF.ifF (yO hd) zF.ret
 |t::l,p,v,h,hd,hl,ho,h0,h1=>by
  refine zF.succ ?_
  simp only[lY]
  refine zF.ifT (yL hd) (zF.pure (yC hd) ?_)
  rw[szL]
  by_cases h2:h>8192
  ·rw[if_pos h2];exact zF.ifT (by simpa using h2) zF.ret
  ·rw[if_neg h2]
   refine zF.ifF (by simpa using h2) ((zHn t h ho.1 h0 (by omega)).bind ?_)
   rw[yB v (by have:=yT hd;omega)]
   have:=zCQ t h h0 (by omega)
   exact zCV l p (v+1) (X1 t h) (zV hd) hl ho.2 (by omega) (by omega)
end
theorem zHm(t:Tm)(ho:t.Ok):zF (fun q=>e85 q t) (X1 t 0):=by
 simp only[e85]
 exact(zHn t 0 ho (by omega) (by omega)).bind zF.ret
mutual
theorem zHl:∀(t:Tm) (a:Int),t.Ok->0≤a->a≤129->zF (fun q=>e86 q t a) (dpT t a)
 | .mk k n l,a,ho,h0,h1=>by
  refine zF.succ ?_
  simp only[e86]
  rw[dpT]
  by_cases h2:a>128
  ·rw[if_pos h2];exact zF.ifT (by simpa using h2) zF.ret
  ·rw[if_neg h2];exact zF.ifF (by simpa using h2) (zCW l (.mk k n l) 0 a a rfl ho.1 ho.2 h0 (by omega))
theorem zCW:∀(l:List Tm) (p:Tm) (v:Nat) (a m:Int),p.sub.drop v=l->p.sub.length<9223372036854775808->nF l->0≤a->a≤128->zF (fun q=>eQ q p a (v:Int) m) (dpL l a m)
 | [],p,v,a,m,hd,hl,ho,h0,h1=>by
  refine zF.succ ?_
  simp only[eQ]
  rw[dpL]
  exact zF.ifF (yO hd) zF.ret
 |t::l,p,v,a,m,hd,hl,ho,h0,h1=>by
  refine zF.succ ?_
  simp only[eQ]
  refine zF.ifT (yL hd) (zF.pure (yC hd) ?_)
  rw[dpL,zW (x:=a+1) (by omega) (by omega)]
  refine(zHl t (a+1) ho.1 (by omega) (by omega)).bind ?_
  rw[yB v (by have:=yT hd;omega)]
  exact zCW l p (v+1) a _ (zV hd) hl ho.2 h0 h1
end
def zLU(t:Tm):Int:=if X1 t 0>8192 then 129 else dpT t 1
theorem zLV(t:Tm)(ho:t.Ok):zF (fun q=>e43 q t) (zLU t):=by
 simp only[e43]
 refine(zHm t ho).bind ?_
 unfold zLU
 by_cases h:X1 t 0>8192
 ·rw[if_pos h];exact zF.ifT (by simpa using h) zF.ret
 ·rw[if_neg h];exact zF.ifF (by simpa using h) ((zHl t 1 ho (by omega) (by omega)).bind zF.ret)
theorem zPr(t:Tm):zLU t≤128↔t.nodes≤8192∧t.high≤128:=by
 have h1:=zLM t 0 (by omega) (by omega)
 have h2:=zLO t 1 (by omega) (by omega)
 unfold zLU
 by_cases h3:t.nodes≤8192
 ·rw[if_neg (by rw[h1.1 (by omega)];omega)]
  by_cases h4:t.high≤128
  ·rw[h2.1 (by omega)];omega
  ·rw[h2.2 (by omega)];omega
 ·rw[if_pos (by rw[h1.2 (by omega)];omega)];omega
theorem zPq(t:Tm):zF (fun q=>e87 q t) (tU t):=by
 refine zF.mk fun q=>?_
 unfold e87 tU
 generalize t.k=k
 generalize t.n=n
 generalize t.sub=l
 by_cases h1:k<1
 ·rw[zOZ (decide_eq_true h1)];simp;omega
 ·by_cases h2:k>8
  ·rw[zLA (decide_eq_false h1),zOZ (decide_eq_true h2)];simp;omega
  ·rw[zLA (decide_eq_false h1),zLA (decide_eq_false h2)]
   have:k=1∨k=2∨k=3∨k=4∨k=5∨k=6∨k=7∨k=8:=by omega
   rcases this with rfl|rfl|rfl|rfl|rfl|rfl|rfl|rfl
   case inr.inr.inr.inr.inr.inr.inl=>
    rcases l with _|⟨x,_|⟨y,l⟩⟩<;>simp[zP]<;>grind
   case inr.inr.inl|inr.inr.inr.inl|inr.inr.inr.inr.inl=>
    by_cases hl:l.length=2
    ·simp[zP,hl];grind
    ·have h':¬((l.length:Int)=2):=by omega
     simp[zP,hl,h']
   all_goals (simp[zP];grind)
mutual
theorem zHk:∀(t:Tm),t.Ok->zF (fun q=>e44 q t) (xC t)
 | .mk k n l,ho=>by
  refine zF.succ ?_
  simp only[e44]
  refine(zPq (.mk k n l)).bind ?_
  rw[xC]
  cases tU (.mk k n l)with
  |false=>exact zF.ifF rfl zF.ret
  |true=>exact zF.ifT rfl (zCX l (.mk k n l) 0 rfl ho.1 ho.2)
theorem zCX:∀(l:List Tm) (p:Tm) (v:Nat),p.sub.drop v=l->p.sub.length<9223372036854775808->nF l->zF (fun q=>eR q p (v:Int)) (wM l)
 | [],p,v,hd,hl,ho=>by
  refine zF.succ ?_
  simp only[eR]
  rw[wM]
  exact zF.ifF (yO hd) zF.ret
 |t::l,p,v,hd,hl,ho=>by
  refine zF.succ ?_
  simp only[eR]
  refine zF.ifT (yL hd) (zF.pure (yC hd) ((zHk t ho.1).bind ?_))
  rw[wM]
  cases xC t with
  |false=>exact zF.ifF rfl zF.ret
  |true=>
   refine zF.ifT rfl ?_
   rw[yB v (by have:=yT hd;omega)]
   exact zCX l p (v+1) (zV hd) hl ho.2
end
theorem xS(t:Tm)(ho:t.Ok):zF (fun q=>fV q t) (zI t):=by
 simp only[fV]
 refine(zLV t ho).bind ?_
 have h:=zPr t
 unfold zI
 by_cases h1:zLU t≤128
 ·refine zF.ifT (by simpa using h1) (((zHk t ho).bind zF.ret).eq ?_)
  have:=h.1 h1
  simp[this.1,this.2]
 ·refine zF.ifF (by simpa using h1) (zF.ret.eq ?_)
  by_cases h2:t.nodes≤8192
  ·by_cases h3:t.high≤128
   ·exact absurd (h.2 ⟨h2,h3⟩) h1
   ·simp[h3]
  ·simp[h2]
def zLW(c:Nat)(a:Tm)(b:Int):Option Int:=
 if b==1 then
 if a.k==3 then
 some 1
 else
 if a.k==4 then
 some 1
 else
 some 0
 else
 some 0
theorem zPp:Qf 207 f207:=⟨func207,rfl⟩
theorem yAE{c a b r}(h:zLW c a b=some r):Ct 207 [] [yV a,ai b] (ai r) [] 0:=⟨by
 unfold zLW at h
 obtain⟨h1,h⟩|⟨h1,h⟩:=zK h
 have k:=oB 0 h1 o0
 obtain⟨h2,h⟩|⟨h2,h⟩:=zK h
 cases h
 exact tF zPp 0 [] (oB 1 h2 k)
 have k:=oB 1 h2 k
 obtain⟨h3,h⟩|⟨h3,h⟩:=zK h
 cases h
 exact tF zPp 0 [] (oB 1 h3 k)
 cases h
 exact tF zPp 0 [] (oB 1 h3 k)
 cases h
 exact tF zPp 0 [] (oB 0 h1 o0),⟨⟨tv,tv,⟨tv,dT _⟩,tv⟩,tv,tv⟩,zA,tv,zA⟩
mutual
def zFh:Nat->Tm->Int->Option Int
 |0,_,_=>none
 |d+1,a,b=>
 if a.k==1 then
 some (lT 0 (yN ((yN (a.n+1))-b)))
 else
 lZ d a b 0 0
def lZ:Nat->Tm->Int->Int->Int->Option Int
 |0,_,_,_,_=>none
 |d+1,a,b,c,e=>
 if decide (c<(a.sub.length:Int))then
 zP a.sub c>>=fun x3=>
 zLW d a c>>=fun r5=>
 zFh d x3 (yN (b+r5))>>=fun r7=>
 lZ d a b (yN (c+1)) (lT e r7)
 else
 some e
end
abbrev zXH (a:Tm) (b r:Int) (C:Cf):Prop:=C 159 [] [yV a,ai b] (ai r) [] 0
theorem zXI:Qf 159 f159:=⟨func159,rfl⟩
theorem zCY:∀d:Nat,(∀ {a b r},zFh d a b=some r->zXH a b r Ct)∧(∀ {a b c e r},lZ d a b c e=some r->(∀j,dL 0 (pt 16309 f159) (sp j 36 0 [(1,ai b),(2,.mp 0 0),(5,ai e),(18,zH zC a.sub .no),(19,ai (a.sub.length:Int)),(20,ai c)]) (⟨[(0,.cells [ai a.k,ai a.n,zH zC a.sub .no])],1,[],0,[]⟩) (fQ 0 (nQ 0 f159 (ai r) [] 0) [.blk 0,.seq (pt 255 f159)]))):=by
 intro d
 induction d with
 |zero=>
  exact⟨fun h=>nn h,fun h=>nn h⟩
 |succ d ih=>
  obtain⟨zXJ,zCZ⟩:=ih
  refine⟨?_,?_⟩
  intro a b r h
  rw[zFh]at h
  obtain⟨h1,h⟩|⟨h1,h⟩:=zK h
  obtain rfl:=sj h
  exact⟨tF zXI 4 [] (oB 1 h1 o0),⟨⟨tv,tv,⟨tv,dT _⟩,tv⟩,tv,tv⟩,zA,tv,zA⟩
  exact⟨tH zXI 2 [] [0] [] [1,2,5,18,19,20] (oD (dT a.sub)<|oD (dT a.sub)<|oB 1 h1 o0) (zCZ h),⟨⟨tv,tv,⟨tv,dT _⟩,tv⟩,tv,tv⟩,zA,tv,zA⟩
  intro a b c e r h
  rw[lZ]at h
  obtain⟨h2,h⟩|⟨h2,h⟩:=zK h
  obtain⟨x3,h4,h⟩:=zB h
  obtain⟨r5,h6,h⟩:=zB h
  obtain⟨r7,h8,h⟩:=zB h
  exact fun j=>lH 2 [] [0] [] [1,2,5,18,19,20] (oD (dT a.sub)<|oD (dT a.sub)<|oC 1 [] (zXJ h8)<|oC 4 [] (yAE h6)<|oA 0 (xH (o:=.no) h4)<|oB 0 h2 o0) (zCZ h)
  obtain rfl:=sj h
  exact fun j=>lF 0 [] (oB 0 h2 o0)
theorem yAF{d a b r}(h:zFh d a b=some r):zXH a b r Ct:=(zCY _).1 h
mutual
def zDz:Nat->Tm->Int->Int->Option yD
 |0,_,_,_=>none
 |e+1,a,b,c=>
 if a.k==b then
 xB 8 ([]:yD) [a.n]>>=fun l2=>
 pL e a b c 0 l2
 else
 if a.k==c then
 xB 8 ([]:yD) [a.n]>>=fun l5=>
 pL e a b c 0 l5
 else
 pL e a b c 0 []
def pL:Nat->Tm->Int->Int->Int->yD->Option yD
 |0,_,_,_,_,_=>none
 |e+1,a,b,c,d,f=>
 if decide (d<(a.sub.length:Int))then
 zP a.sub d>>=fun x5=>
 zDz e x5 b c>>=fun r7=>
 xB 8 f r7>>=fun l9=>
 pL e a b c (yN (d+1)) l9
 else
 some f
end
abbrev zPo (a:Tm) (b c:Int) (r:yD) (C:Cf):Prop:=C 198 [] [yV a,ai b,ai c] (zH zU r (.st 0 1)) [] 1
theorem zTc:Qf 198 f198:=⟨func198,rfl⟩
theorem zTb{a b c r}(h:zPo a b c r Ci):zPo a b c r Ct:=⟨h,⟨⟨tv,tv,⟨tv,dT _⟩,tv⟩,tv,tv,tv⟩,zA,dI _,zA⟩
theorem zDy:∀e:Nat,(∀ {a b c r},zDz e a b c=some r->zPo a b c r Ct)∧(∀ {a b c d f r},pL e a b c d f=some r->(∀j,dL 0 (pt 16309 f198) (sp j 40 0 [(1,ai b),(2,ai c),(7,zH zU f (.st 0 1)),(26,zH zC a.sub .no),(27,ai (a.sub.length:Int)),(28,ai d)]) (⟨[],0,[0],1,[]⟩) (fQ 0 (nQ 0 f198 (zH zU r (.st 0 1)) [] 1) [.blk 0,.seq (pt 255 f198)]))∧(∀j,dL 0 (pt 16309 f198) (sp j 40 0 [(1,ai b),(2,ai c),(7,zH zU f .nl),(26,zH zC a.sub .no),(27,ai (a.sub.length:Int)),(28,ai d)]) (⟨[],0,[],0,[]⟩) (fQ 0 (nQ 0 f198 (zH zU r (.st 0 1)) [] 1) [.blk 0,.seq (pt 255 f198)]))):=by
 intro e
 induction e with
 |zero=>
  exact⟨fun h=>nn h,fun h=>nn h⟩
 |succ e ih=>
  obtain⟨zSA,oO⟩:=ih
  refine⟨?_,?_⟩
  intro a b c r h
  rw[zDz]at h
  obtain⟨h1,h⟩|⟨h1,h⟩:=zK h
  obtain⟨l2,h3,h⟩:=zB h
  exact zTb (tH zTc 2 [] [] [0] [1,2,7,26,27,28] (oD (dT a.sub)<|oD (dI l2)<|oP 2 (tN h3 (by simp))<|oB 1 h1 o0) ((oO h).1))
  have k:=oB 1 h1 o0
  obtain⟨h4,h⟩|⟨h4,h⟩:=zK h
  obtain⟨l5,h6,h⟩:=zB h
  exact zTb (tH zTc 2 [] [] [0] [1,2,7,26,27,28] (oD (dT a.sub)<|oD (dI l5)<|oP 2 (tN h6 (by simp))<|oB 1 h4 k) ((oO h).1))
  exact zTb (tH zTc 2 [] [] [] [1,2,7,26,27,28] (oD (dT a.sub)<|oD (dI ([]:yD))<|oB 1 h4 k) ((oO h).2))
  intro a b c d f r h
  rw[pL]at h
  refine⟨?_,?_⟩
  obtain⟨h4,h⟩|⟨h4,h⟩:=zK h
  obtain⟨x5,h6,h⟩:=zB h
  obtain⟨r7,h8,h⟩:=zB h
  obtain⟨l9,h10,h⟩:=zB h
  have k:=oC 3 [] (zSA h8)<|oA 0 (xH (o:=.no) h6)<|oB 0 h4 o0
  by_cases h11:List.length r7=0
  exact fun j=>lH 1 [] [] [0] [1,2,7,26,27,28] (oD (dT a.sub)<|oD (dI l9)<|oP 0 (zLE h10 h11) k) ((oO h).1)
  exact fun j=>lH 1 [] [] [2] [1,2,7,26,27,28] (oD (dT a.sub)<|oD (dI l9)<|oP 0 (tN h10 h11) k) ((oO h).1)
  obtain rfl:=sj h
  exact fun j=>lG 0 [] [] [0] true (oD (dI f)<|oB 0 h4 o0)
  obtain⟨h4,h⟩|⟨h4,h⟩:=zK h
  obtain⟨x5,h6,h⟩:=zB h
  obtain⟨r7,h8,h⟩:=zB h
  obtain⟨l9,h10,h⟩:=zB h
  have k:=oC 3 [] (zSA h8)<|oA 0 (xH (o:=.no) h6)<|oB 0 h4 o0
  by_cases h11:List.length r7=0
  exact fun j=>lH 1 [] [] [] [1,2,7,26,27,28] (oD (dT a.sub)<|oD (dI l9)<|oP 0 (zLE h10 h11) k) ((oO h).2)
  exact fun j=>lH 1 [] [] [1] [1,2,7,26,27,28] (oD (dT a.sub)<|oD (dI l9)<|oP 0 (tN h10 h11) k) ((oO h).1)
  obtain rfl:=sj h
  exact fun j=>lG 0 [(none,6,1)] [] [0] true (oD (dI f)<|oB 0 h4 o0)
theorem zXK{e a b c r}(h:zDz e a b c=some r):zPo a b c r Ct:=(zDy _).1 h
def zLX(c:Nat)(a:Tm):Option yD:=
 (fV c a)>>=fun r1=>
 if r1=true then
  (zDz c a 6 7)>>=fun r4=>
  if decide (List.length r4<4611686018427387904)=true then some (wY r4)else none
 else
  some []
theorem yAG{c:Nat}{a:Tm}{r:yD}(h:zLX c a=some r):CT prog 160 [] [yV a] (.sl (zG zU r) r.length .no) [] 0:=by
 unfold zLX at h
 obtain⟨r1,h2,h⟩:=zB h
 rcases P6 r1 with h3|h3
 ·replace h:=ifT h3 h
  obtain⟨l,h5,h⟩:=zB h
  rcases P6 (decide (List.length l<4611686018427387904))with h6|h6
  ·replace h:=ifT h6 h
   replace h:=Option.some.inj h
   subst h
   subst h3
   have hsz:List.length l<4611686018427387904:=by simpa using h6
   refine⟨?_,⟨⟨trivial,trivial,⟨trivial,dT _⟩,trivial⟩,trivial⟩,(fun _ h=>nomatch h),dI _,(fun _ h=>nomatch h)⟩
   have k0:knd (vI f160)=1:=by kernel_rfl
   have k1:knd (xE (vI f160))=1:=by kernel_rfl
   have k2:knd (xE (xE (vI f160)))=1:=by kernel_rfl
   have k3:cS (rF (xE (xE (vI f160))))=true:=by kernel_rfl
   have k4:zAk (wH (rF (xE (xE (vI f160)))))[2]? = some (some 8,197,#[.tmp 7]):=by kernel_rfl
   have k5:(f197.name == "runtime.NumGoroutine")=false:=by kernel_rfl
   have k6:f197.body.isNone=false:=by kernel_rfl
   have x1:rW prog rJ 3000 (.run (rF (vI f160))) [] ([yV a]++List.replicate (f160.ntmps-1) (.val undef)) (F4 []) []=some (.fin .normal,[yV a,.mp 0 0,.sl [] 0 .nl,.val undef,.val undef,.val undef,.val undef,.val undef,.val undef],⟨[(0,.cells (fD a))],1,[],0,[]⟩,[],[]):=by kernel_rfl
   have x2:rW prog rJ 3000 (.run (rF (xE (vI f160)))) [] [yV a,.mp 0 0,.sl [] 0 .nl,.val undef,.val undef,.val undef,.val undef,.val undef,.val undef] ⟨[(0,.cells (fD a))],1,[],0,[]⟩ [.no,.call [] [] 0 (ab true) (some true),.no]=some (.fin .normal,[yV a,.mp 0 0,.sl [] 0 .nl,yV a,ab true,ab false,.val undef,.val undef,.val undef],⟨[(0,.cells (fD a))],1,[],0,[]⟩,[],[.bit true true,.call 20 [] [yV a] (ab true) [] 0]):=by kernel_rfl
   have x3:(fC prog rJ (wH (rF (xE (xE (vI f160))))) ((wH (rF (xE (xE (vI f160))))).toList.take 2) 0 [yV a,.mp 0 0,.sl [] 0 .nl,yV a,ab true,ab false,.val undef,.val undef,.val undef] ⟨[(0,.cells (fD a))],1,[],0,[]⟩ [.no,.call [] [] 1 (.sl (zG zU l) l.length (.st 0 1)) none]).map Prod.snd=some ([yV a,.mp 0 0,.sl [] 0 .nl,yV a,ab true,ab false,yV a,.sl (zG zU l) l.length (.st 0 1),.val undef],⟨[(0,.cells (fD a))],1,[0],1,[]⟩,[],[.call 198 [] [yV a,ai 6,ai 7] (.sl (zG zU l) l.length (.st 0 1)) [] 1]):=by kernel_rfl
   have x4:∀j:Nat->Value,(fC prog rJ (wH (rF (xE (xE (vI f160))))) ((wH (rF (xE (xE (vI f160))))).toList.drop 3) 3 (eset (tells [] (mutEnv [] j [yV a,.mp 0 0,.sl [] 0 .nl,yV a,ab true,ab false,yV a,.sl (zG zU l) l.length (.st 0 1),.val undef] 0)) (some 8) (.sl (zG zU (wY l)) (wY l).length .no)) (pB [] ⟨[(0,.cells (fD a))],1,[0],1,[]⟩) []).map Prod.snd=some ([.val (j 0),.val (j 1),.sl (zG zU (wY l)) (wY l).length .no,.val (j 3),ab true,ab false,.val (j 6),.val (j 7),.sl (zG zU (wY l)) (wY l).length .no],⟨[],1,[],0,[]⟩,[],[]):=fun j=>by kernel_rfl
   have x5:∀j:Nat->Value,eK prog rJ 0 f160 3000 (.run (xE (xE (xE (vI f160))))) [] [.val (j 0),.val (j 1),.sl (zG zU (wY l)) (wY l).length .no,.val (j 3),ab true,ab false,.val (j 6),.val (j 7),.sl (zG zU (wY l)) (wY l).length .no] ⟨[],1,[],0,[]⟩ [] [] [] [] false=some (.sl (zG zU (wY l)) (wY l).length .no,[],[.data (zG zU (wY l))]):=fun j=>by kernel_rfl
   refine uN.body func160 (by kernel_rfl) ?_
   refine Dv.seqP k0 ?_
   refine nO (Q:=_) wD mixed 3000 (.run (rF (vI f160))) [] _ _ _ _ _ _ _ _ x1 yF.nil ?_
   refine Dv.seqP k1 ?_
   refine nO (Q:=_) wD mixed 3000 (.run (rF (xE (vI f160)))) [] _ _ _ _ _ _ _ _ x2 (yF.cons (lE rfl) (yF.cons (B4 (qW h2)) yF.nil)) ?_
   refine Dv.seqP k2 ?_
   obtain⟨id,k7⟩:=zOV k3
   rw[k7]
   refine Dv.mut wD (na:=(0:Nat)) rfl 2 [] [] _ x3 (yF.cons (B4 (zXK h5)) yF.nil) k4 func197 k5 k6 (fun i X h=>by cases h) ?_ x4 yF.nil ?_
   ·intro G0 W hB G w hE hR u hu
    refine(w9 hR (by rfl) hsz hu).mono ?_
    rintro e w' ⟨v,b,S,z1,z2,z3,z4,z5,z6⟩
    exact⟨v,b,S,z1,z2,z3,z4,z5,fun G' _ _ hS=>⟨z6 G' hS,fun q hq=>by cases hq⟩⟩
   ·intro j
    exact gK (na:=(0:Nat)) wD mixed (x5 j) (yF.cons (rK (dI _)) yF.nil) (by decide)
  ·replace h:=ifF h6 h
   cases h
 ·replace h:=ifF h3 h
  replace h:=Option.some.inj h
  subst h
  exact⟨uN.toFin wD mixed func160 (by kernel_rfl) 3000 [.no,.call [] [] 0 (ab r1) (some false),.no] [] [] [] false (by kernel_rfl) (yF.cons (lE h3) (yF.cons (B4 (qW h2)) (yF.cons (rK (dI ([]:yD))) yF.nil))) (by decide),⟨⟨trivial,trivial,⟨trivial,dT _⟩,trivial⟩,trivial⟩,(fun _ h=>nomatch h),dI _,(fun _ h=>nomatch h)⟩
def zAB(b:Nat)(a:Tm)(c d:Int):Option Bool:=
 fV b a>>=fun r1=>
 if r1 then
 zFh b a 0>>=fun r4=>
 if decide (r4>c)then
 some false
 else
 zLX b a>>=fun r7=>
 if (r7.length:Int)==0 then
 some true
 else
 zP r7 (yN ((r7.length:Int)-1))>>=fun x10=>
 some (decide (x10<d))
 else
 some false
theorem zPn:Qf 104 f104:=⟨func104,rfl⟩
theorem zDx{b a c d r}(h:zAB b a c d=some r):Ct 104 [] [yV a,ai c,ai d] (ab r) [] 0:=⟨by
 unfold zAB at h
 obtain⟨r1,h2,h⟩:=zB h
 obtain⟨h3,h⟩|⟨h3,h⟩:=zK h
 obtain⟨r4,h5,h⟩:=zB h
 have k:=oC 2 [] (yAF h5)<|oK 1 [] h3 (qW h2) o0
 obtain⟨h6,h⟩|⟨h6,h⟩:=zK h
 cases h
 exact tF zPn 0 [] (oB 0 h6 k)
 obtain⟨r7,h8,h⟩:=zB h
 have k:=oC 1 [] (yAG h8)<|oB 0 h6 k
 obtain⟨h9,h⟩|⟨h9,h⟩:=zK h
 cases h
 exact tF zPn 0 [] (oB 1 h9 k)
 obtain⟨x10,h11,h⟩:=zB h
 cases h
 exact tF zPn 2 [] (oA 2 (uH (o:=.no) h11)<|oB 1 h9 k)
 cases h
 exact tF zPn 1 [] (oK 1 [] h3 (qW h2) o0),⟨⟨tv,tv,⟨tv,dT _⟩,tv⟩,tv,tv,tv⟩,zA,tv,zA⟩
def zLY(c:Nat)(a:Tm):Option yD:=
 (fV c a)>>=fun r1=>
 if r1=true then
  (zDz c a 8 8)>>=fun r4=>
  if decide (List.length r4<4611686018427387904)=true then some (wY r4)else none
 else
  some []
theorem yAH{c:Nat}{a:Tm}{r:yD}(h:zLY c a=some r):CT prog 143 [] [yV a] (.sl (zG zU r) r.length .no) [] 0:=by
 unfold zLY at h
 obtain⟨r1,h2,h⟩:=zB h
 rcases P6 r1 with h3|h3
 ·replace h:=ifT h3 h
  obtain⟨l,h5,h⟩:=zB h
  rcases P6 (decide (List.length l<4611686018427387904))with h6|h6
  ·replace h:=ifT h6 h
   replace h:=Option.some.inj h
   subst h
   subst h3
   have hsz:List.length l<4611686018427387904:=by simpa using h6
   refine⟨?_,⟨⟨trivial,trivial,⟨trivial,dT _⟩,trivial⟩,trivial⟩,(fun _ h=>nomatch h),dI _,(fun _ h=>nomatch h)⟩
   have k0:knd (vI f143)=1:=by kernel_rfl
   have k1:knd (xE (vI f143))=1:=by kernel_rfl
   have k2:knd (xE (xE (vI f143)))=1:=by kernel_rfl
   have k3:cS (rF (xE (xE (vI f143))))=true:=by kernel_rfl
   have k4:zAk (wH (rF (xE (xE (vI f143)))))[2]? = some (some 8,197,#[.tmp 7]):=by kernel_rfl
   have k5:(f197.name == "runtime.NumGoroutine")=false:=by kernel_rfl
   have k6:f197.body.isNone=false:=by kernel_rfl
   have x1:rW prog rJ 3000 (.run (rF (vI f143))) [] ([yV a]++List.replicate (f143.ntmps-1) (.val undef)) (F4 []) []=some (.fin .normal,[yV a,.mp 0 0,.sl [] 0 .nl,.val undef,.val undef,.val undef,.val undef,.val undef,.val undef],⟨[(0,.cells (fD a))],1,[],0,[]⟩,[],[]):=by kernel_rfl
   have x2:rW prog rJ 3000 (.run (rF (xE (vI f143)))) [] [yV a,.mp 0 0,.sl [] 0 .nl,.val undef,.val undef,.val undef,.val undef,.val undef,.val undef] ⟨[(0,.cells (fD a))],1,[],0,[]⟩ [.no,.call [] [] 0 (ab true) (some true),.no]=some (.fin .normal,[yV a,.mp 0 0,.sl [] 0 .nl,yV a,ab true,ab false,.val undef,.val undef,.val undef],⟨[(0,.cells (fD a))],1,[],0,[]⟩,[],[.bit true true,.call 20 [] [yV a] (ab true) [] 0]):=by kernel_rfl
   have x3:(fC prog rJ (wH (rF (xE (xE (vI f143))))) ((wH (rF (xE (xE (vI f143))))).toList.take 2) 0 [yV a,.mp 0 0,.sl [] 0 .nl,yV a,ab true,ab false,.val undef,.val undef,.val undef] ⟨[(0,.cells (fD a))],1,[],0,[]⟩ [.no,.call [] [] 1 (.sl (zG zU l) l.length (.st 0 1)) none]).map Prod.snd=some ([yV a,.mp 0 0,.sl [] 0 .nl,yV a,ab true,ab false,yV a,.sl (zG zU l) l.length (.st 0 1),.val undef],⟨[(0,.cells (fD a))],1,[0],1,[]⟩,[],[.call 198 [] [yV a,ai 8,ai 8] (.sl (zG zU l) l.length (.st 0 1)) [] 1]):=by kernel_rfl
   have x4:∀j:Nat->Value,(fC prog rJ (wH (rF (xE (xE (vI f143))))) ((wH (rF (xE (xE (vI f143))))).toList.drop 3) 3 (eset (tells [] (mutEnv [] j [yV a,.mp 0 0,.sl [] 0 .nl,yV a,ab true,ab false,yV a,.sl (zG zU l) l.length (.st 0 1),.val undef] 0)) (some 8) (.sl (zG zU (wY l)) (wY l).length .no)) (pB [] ⟨[(0,.cells (fD a))],1,[0],1,[]⟩) []).map Prod.snd=some ([.val (j 0),.val (j 1),.sl (zG zU (wY l)) (wY l).length .no,.val (j 3),ab true,ab false,.val (j 6),.val (j 7),.sl (zG zU (wY l)) (wY l).length .no],⟨[],1,[],0,[]⟩,[],[]):=fun j=>by kernel_rfl
   have x5:∀j:Nat->Value,eK prog rJ 0 f143 3000 (.run (xE (xE (xE (vI f143))))) [] [.val (j 0),.val (j 1),.sl (zG zU (wY l)) (wY l).length .no,.val (j 3),ab true,ab false,.val (j 6),.val (j 7),.sl (zG zU (wY l)) (wY l).length .no] ⟨[],1,[],0,[]⟩ [] [] [] [] false=some (.sl (zG zU (wY l)) (wY l).length .no,[],[.data (zG zU (wY l))]):=fun j=>by kernel_rfl
   refine uN.body func143 (by kernel_rfl) ?_
   refine Dv.seqP k0 ?_
   refine nO (Q:=_) wD mixed 3000 (.run (rF (vI f143))) [] _ _ _ _ _ _ _ _ x1 yF.nil ?_
   refine Dv.seqP k1 ?_
   refine nO (Q:=_) wD mixed 3000 (.run (rF (xE (vI f143)))) [] _ _ _ _ _ _ _ _ x2 (yF.cons (lE rfl) (yF.cons (B4 (qW h2)) yF.nil)) ?_
   refine Dv.seqP k2 ?_
   obtain⟨id,k7⟩:=zOV k3
   rw[k7]
   refine Dv.mut wD (na:=(0:Nat)) rfl 2 [] [] _ x3 (yF.cons (B4 (zXK h5)) yF.nil) k4 func197 k5 k6 (fun i X h=>by cases h) ?_ x4 yF.nil ?_
   ·intro G0 W hB G w hE hR u hu
    refine(w9 hR (by rfl) hsz hu).mono ?_
    rintro e w' ⟨v,b,S,z1,z2,z3,z4,z5,z6⟩
    exact⟨v,b,S,z1,z2,z3,z4,z5,fun G' _ _ hS=>⟨z6 G' hS,fun q hq=>by cases hq⟩⟩
   ·intro j
    exact gK (na:=(0:Nat)) wD mixed (x5 j) (yF.cons (rK (dI _)) yF.nil) (by decide)
  ·replace h:=ifF h6 h
   cases h
 ·replace h:=ifF h3 h
  replace h:=Option.some.inj h
  subst h
  exact⟨uN.toFin wD mixed func143 (by kernel_rfl) 3000 [.no,.call [] [] 0 (ab r1) (some false),.no] [] [] [] false (by kernel_rfl) (yF.cons (lE h3) (yF.cons (B4 (qW h2)) (yF.cons (rK (dI ([]:yD))) yF.nil))) (by decide),⟨⟨trivial,trivial,⟨trivial,dT _⟩,trivial⟩,trivial⟩,(fun _ h=>nomatch h),dI _,(fun _ h=>nomatch h)⟩
theorem zAC(a b:Int):lT a b=max a b:=by unfold lT;split<;>omega
theorem wW{k n:Int}{l:List Tm}(h:xC (.mk k n l)=true):tU (.mk k n l)=true∧wM l=true:=by
 rw[xC]at h;simpa using h
theorem xY{t:Tm}{l:List Tm}(h:wM (t::l)=true):xC t=true∧wM l=true:=by
 rw[wM]at h;simpa using h
theorem kA{k n:Int}{l:List Tm}(h:tU (.mk k n l)=true):0≤n∧n≤1048576∧1≤k∧k≤8∧l.length≤2:=by
 have:=uO h
 exact⟨this.2.2.1,this.2.2.2.1,this.1,this.2.1,this.2.2.2.2.1⟩
mutual
theorem sS:∀t:Tm,xC t=true->t.Ok
 | .mk k n l,h=>by
  have h1:=wW h
  rw[Tm.Ok]
  exact⟨by have:=(kA h1.1).2.2.2.2;omega,zDw l h1.2⟩
theorem zDw:∀l:List Tm,wM l=true->nF l
 | [],_=>by rw[nF];trivial
 |t::l,h=>by
  have:=xY h
  rw[nF]
  exact⟨sS t this.1,zDw l this.2⟩
end
mutual
theorem zPm:∀(t:Tm) (b:Int),0≤bC t b
 | .mk k n l,b=>by
  rw[bC];split
  ·omega
  ·exact zAD l k 0 b
theorem zAD:∀(l:List Tm) (k:Int) (i:Nat) (b:Int),0≤fF l k i b
 | [],k,i,b=>by rw[fF];omega
 |t::l,k,i,b=>by rw[fF];have:=zPm t (b+bB k i);omega
end
theorem zLZ(t:Tm)(i:Nat):zF (fun q=>zLW q t (i:Int)) (bB t.k i):=by
 refine zF.mk fun q=>?_
 simp only[zLW,bB]
 by_cases h1:i=1
 ·subst h1;simp;by_cases h3:t.k=3<;>by_cases h4:t.k=4<;>simp[h3,h4]
 ·have:¬((i:Int)=1):=by omega
  simp[h1,this]
theorem zAE(k:Int)(i:Nat):0≤bB k i∧bB k i≤1:=by unfold bB;split<;>omega
mutual
theorem zDv:∀(t:Tm) (b:Int),xC t=true->0≤b->b+t.high≤4611686018427387904->zF (fun q=>zFh q t b) (bC t b)
 | .mk k n l,b,hg,h0,h1=>by
  refine zF.succ ?_
  simp only[zFh,Tm.k,Tm.n]
  have hh:=wW hg
  have hn:=kA hh.1
  rw[bC]
  by_cases hk:k=1
  ·rw[if_pos hk]
   rw[Tm.high]at h1
   refine zF.ifT (by simpa using hk) (zF.ret.eq ?_)
   rw[zW (x:=n+1) (by omega) (by omega),zW (by omega) (by omega),zAC]
  ·rw[if_neg hk]
   refine zF.ifF (by simpa using hk) ?_
   rw[Tm.high]at h1
   exact(u7 l (.mk k n l) 0 b 0 rfl (by have:=hn.2.2.2.2;simp only[Tm.sub];omega) hh.2 h0 (by omega) (by omega)).eq (by have:=zAD l k 0 b;simp only[Tm.k];omega)
theorem u7:∀(l:List Tm) (p:Tm) (v:Nat) (b m:Int),p.sub.drop v=l->p.sub.length<9223372036854775808->wM l=true->0≤b->0≤m->b+1+vB l≤4611686018427387904->zF (fun q=>lZ q p b (v:Int) m) (max m (fF l p.k v b))
 | [],p,v,b,m,hd,hl,ho,h0,hm,h1=>by
  refine zF.succ ?_
  simp only[lZ]
  rw[fF]
  exact zF.ifF (yO hd) (zF.ret.eq (by omega))
 |t::l,p,v,b,m,hd,hl,ho,h0,hm,h1=>by
  refine zF.succ ?_
  simp only[lZ]
  have hg:=xY ho
  have hu:=zAE p.k v
  rw[vB]at h1
  refine zF.ifT (yL hd) (zF.pure (yC hd) ((zLZ p v).bind ?_))
  rw[zW (x:=b+bB p.k v) (by omega) (by omega)]
  refine(zDv t (b+bB p.k v) hg.1 (by omega) (by omega)).bind ?_
  rw[yB v (by have:=yT hd;omega),zAC]
  refine(u7 l p (v+1) b _ (zV hd) hl hg.2 h0 (by omega) (by omega)).eq ?_
  rw[fF];omega
end
mutual
theorem bE:∀(t:Tm) (a b:Int),(nG t a b).length≤t.nodes
 | .mk k n l,a,b=>by
  rw[nG,Tm.nodes]
  have:=zDu l a b
  split<;>simp<;>omega
theorem zDu:∀(l:List Tm) (a b:Int),(bD l a b).length≤yM l
 | [],a,b=>by rw[bD,yM];simp
 |t::l,a,b=>by
  rw[bD,yM]
  have:=bE t a b
  have:=zDu l a b
  simp;omega
end
mutual
theorem eS:∀(t:Tm) (a b:Int),t.Ok->t.nodes≤8192->zF (fun q=>zDz q t a b) (nG t a b)
 | .mk k n l,a,b,ho,hn=>by
  refine zF.succ ?_
  simp only[zDz,Tm.k,Tm.n]
  rw[nG]
  rw[Tm.nodes]at hn
  by_cases ha:k=a
  ·refine zF.ifT (by simpa using ha) (zF.pure (yU (by simp)) ?_)
   rw[if_pos (.inl ha)]
   exact nR l (.mk k n l) 0 a b [n] rfl ho.1 ho.2 (by simp;omega)
  ·refine zF.ifF (by simpa using ha) ?_
   by_cases hb:k=b
   ·refine zF.ifT (by simpa using hb) (zF.pure (yU (by simp)) ?_)
    rw[if_pos (.inr hb)]
    exact nR l (.mk k n l) 0 a b [n] rfl ho.1 ho.2 (by simp;omega)
   ·refine zF.ifF (by simpa using hb) ?_
    rw[if_neg (by simp[ha,hb])]
    exact nR l (.mk k n l) 0 a b [] rfl ho.1 ho.2 (by simp;omega)
theorem nR:∀(l:List Tm) (p:Tm) (v:Nat) (a b:Int) (m:List Int),p.sub.drop v=l->p.sub.length<9223372036854775808->nF l->m.length+yM l≤8192->zF (fun q=>pL q p a b (v:Int) m) (m++bD l a b)
 | [],p,v,a,b,m,hd,hl,ho,hn=>by
  refine zF.succ ?_
  simp only[pL]
  rw[bD]
  exact zF.ifF (yO hd) (zF.ret.eq (by simp))
 |t::l,p,v,a,b,m,hd,hl,ho,hn=>by
  refine zF.succ ?_
  simp only[pL]
  rw[yM]at hn
  have hc:=bE t a b
  refine zF.ifT (yL hd) (zF.pure (yC hd) ((eS t a b ho.1 (by omega)).bind (zF.pure (yU (by omega)) ?_)))
  rw[yB v (by have:=yT hd;omega)]
  refine(nR l p (v+1) a b _ (zV hd) hl ho.2 (by simp;omega)).eq ?_
  rw[bD];simp
end
theorem zM{t:Tm}(h:zI t=true):t.nodes≤8192∧t.high≤128∧xC t=true:=by
 unfold zI at h;simp at h;exact⟨h.1.1,h.1.2,h.2⟩
def u9(t:Tm)(a b:Int):List Int:=if zI t=true then wY (nG t a b)else []
theorem zMz(t:Tm)(ho:t.Ok):zF (fun q=>zLY q t) (u9 t 8 8):=by
 simp only[zLY]
 refine(xS t ho).bind ?_
 unfold u9
 by_cases h:zI t=true
 ·have hs:=zM h
  have:=bE t 8 8
  rw[if_pos h]
  refine zF.ifT h ((eS t 8 8 ho hs.1).bind (zF.mk fun q=>?_))
  rw[if_pos (by simp;omega)]
 ·rw[if_neg h];exact zF.ifF (by simpa using h) zF.ret
theorem zFg(t:Tm)(ho:t.Ok):zF (fun q=>zLX q t) (u9 t 6 7):=by
 simp only[zLX]
 refine(xS t ho).bind ?_
 unfold u9
 by_cases h:zI t=true
 ·have hs:=zM h
  have:=bE t 6 7
  rw[if_pos h]
  refine zF.ifT h ((eS t 6 7 ho hs.1).bind (zF.mk fun q=>?_))
  rw[if_pos (by simp;omega)]
 ·rw[if_neg h];exact zF.ifF (by simpa using h) zF.ret
theorem Q1(x:Int):∀l:List Int,x∈qU l↔x∈l
 | []=>by simp[qU]
 | [y]=>by simp[qU]
 |y::z::l=>by
  rw[qF]
  have:=Q1 x (z::l)
  split
  ·subst_vars;rw[this];simp
  ·rw[List.mem_cons,this];simp
theorem bF(x:Int)(l:List Int):x∈wY l↔x∈l:=by
 unfold wY
 rw[Q1]
 exact(lV l).mem_iff
theorem F9:∀l:List Int,l.Pairwise (· ≤ ·)->(qU l).Pairwise (· ≤ ·)
 | [],_=>by simp[qU]
 | [y],_=>by simp[qU]
 |y::z::l,h=>by
  rw[qF]
  have h2:=F9 (z::l) (List.pairwise_cons.1 h).2
  split
  ·exact h2
  ·refine List.pairwise_cons.2 ⟨fun w hw=>?_,h2⟩
   exact(List.pairwise_cons.1 h).1 w ((Q1 w _).1 hw)
theorem zDt(l:List Int):(wY l).Pairwise (· ≤ ·):=F9 _ (lW l)
theorem zDs:∀(l:List Int) (h:l≠[]),l.Pairwise (· ≤ ·)->∀x∈l,x≤l.getLast h
 | [y],_,_,x,hx=>by simp at hx;simp[hx]
 |y::z::l,_,hp,x,hx=>by
  rw[List.getLast_cons (by simp)]
  have h2:=List.pairwise_cons.1 hp
  rcases List.mem_cons.1 hx with rfl|hx
  ·exact h2.1 _ (List.getLast_mem _)
  ·exact zDs (z::l) (by simp) h2.2 x hx
def tL(t:Tm)(f n:Int):Bool:=zI t&&decide (bC t 0≤f)&&(nG t 6 7).all fun x=>decide (x<n)
theorem bG(t:Tm)(f n:Int)(ho:t.Ok):zF (fun q=>zAB q t f n) (tL t f n):=by
 simp only[zAB]
 refine(xS t ho).bind ?_
 unfold tL
 by_cases h:zI t=true
 ·have hs:=zM h
  have hlen:=bE t 6 7
  refine zF.ifT h ((zDv t 0 hs.2.2 (by omega) (by omega)).bind ?_)
  rw[h]
  by_cases h2:bC t 0>f
  ·exact zF.ifT (by simpa using h2) (zF.ret.eq (by simp;omega))
  ·refine zF.ifF (by simpa using h2) ((zFg t ho).bind ?_)
   have h2':decide (bC t 0≤f)=true:=by simp;omega
   rw[h2']
   unfold u9
   rw[if_pos h]
   have hr:=P1 (nG t 6 7)
   by_cases h3:wY (nG t 6 7)=[]
   ·refine zF.ifT (by rw[h3];rfl) (zF.ret.eq ?_)
    symm
    simp only[Bool.true_and,List.all_eq_true]
    intro x hx
    rw[←bF,h3]at hx;cases hx
   ·have hpos:0<(wY (nG t 6 7)).length:=List.length_pos_iff.2 h3
    refine zF.ifF (by simp;omega) (zF.pure (a:=(wY (nG t 6 7)).getLast h3) ?_ (zF.ret.eq ?_))
    ·rw[zW (by omega) (by omega)]
     unfold zP
     rw[if_pos (by omega),List.getLast_eq_getElem,show ((wY (nG t 6 7)).length-1:Int).toNat=(wY (nG t 6 7)).length-1 by omega]
     exact List.getElem?_eq_getElem _
    ·have hm:=zDs _ h3 (zDt _)
     rw[Bool.eq_iff_iff]
     simp only[decide_eq_true_eq,Bool.true_and,List.all_eq_true]
     constructor
     ·intro h4 x hx
      have:=hm x ((bF x _).2 hx)
      omega
     ·intro h4
      exact h4 _ ((bF _ _).1 (List.getLast_mem h3))
 ·exact zF.ifF (by simpa using h) (zF.ret.eq (by simp[h]))
mutual
def zFf:Nat->Tm->Option Tm
 |0,_=>none
 |d+1,b=>
 kB d b 0 []
def kB:Nat->Tm->Int->zR->Option Tm
 |0,_,_,_=>none
 |d+1,b,c,a=>
 if decide (c<(b.sub.length:Int))then
 zP b.sub c>>=fun x2=>
 zFf d x2>>=fun r4=>
 xB 40 a [r4]>>=fun l6=>
 kB d b (yN (c+1)) l6
 else
 some (Tm.mk b.k b.n a)
end
abbrev zXL (b r:Tm) (C:Cf):Prop:=C 106 [] [yV b] (yV r) [] 0
theorem zDr:∀d:Nat,(∀ {b r},zFf d b=some r->zXL b r Ct)∧(∀ {b c a r},kB d b c a=some r->(∀j,dL 0 (pt 4021 f106) (sp j 27 0 [(2,.mp 0 0),(3,.mp 1 0),(12,zH zC b.sub .no),(13,ai (b.sub.length:Int)),(14,ai c)]) (⟨[(0,.cells [ai 0,ai 0,zH zC ([]:zR) .nl]),(1,.cells [ai b.k,ai b.n,zH zC a (.st 0 3)])],2,[0],1,[]⟩) (fQ 0 (nQ 0 f106 (yV r) [] 0) [.blk 0,.seq (pt 63 f106)]))):=by
 intro d
 induction d with
 |zero=>
  exact⟨fun h=>nn h,fun h=>nn h⟩
 |succ d ih=>
  obtain⟨zXM,zDq⟩:=ih
  refine⟨?_,?_⟩
  intro b r h
  rw[zFf]at h
  exact⟨tH ⟨func106,rfl⟩ 5 [(some 2,2,3)] [1,2] [0] [2,3,12,13,14] (oD (dT b.sub)<|oD (dT ([]:zR))<|oD (dT ([]:zR)) o0) (zDq h),⟨⟨tv,tv,⟨tv,dT _⟩,tv⟩,tv⟩,zA,⟨tv,tv,dT _,tv⟩,zA⟩
  intro b c a r h
  rw[kB]at h
  obtain⟨h1,h⟩|⟨h1,h⟩:=zK h
  obtain⟨x2,h3,h⟩:=zB h
  obtain⟨r4,h5,h⟩:=zB h
  obtain⟨l6,h7,h⟩:=zB h
  exact fun j=>lH 2 [] [0,1] [1] [2,3,12,13,14] (oD (dT b.sub)<|oD (dT l6)<|oD (dT ([]:zR))<|oP 0 (vF h7 (by simp))<|oS 0 (wC wL [r4])<|oC 1 [] (zXM h5)<|cD 2<|oA 0 (xH (o:=.no) h3)<|oB 0 h1 o0) (zDq h)
  cases h
  exact fun j=>lF 2 [] (oD (dT a)<|oB 0 h1 o0)
theorem yAI{d b r}(h:zFf d b=some r):zXL b r Ct:=(zDr _).1 h
abbrev kAP (f:Func):Code:=cP (cP (rF (xE (xE (xE (vI f))))))
abbrev kCP (f:Func):Code:=xE (xE (xE (xE (vI f))))
abbrev s4P (j:Nat->Value) (ls:List L3) (r:List (Nat×AV)):List AV:=sp j 35 0 ((1,.mp 0 0)::(2,.mp 1 0)::(4,.sl (zG c3 ls) ls.length (.st 0 3))::(5,.mp 2 0)::r)
abbrev sSP (a b:List AV):yW:=⟨[(0,.cells a),(1,.cells [ai 0,ai 0,.sl [] 0 .nl]),(2,.cells b)],3,[0],1,[]⟩
abbrev lt3 (x:Tm) (q:Option Addr×Nat×Nat):List AV:=[.val (.int .i64 x.k),.val (.int .i64 x.n),.val (.slice q.1 q.2.1 q.2.2)]
abbrev Q3 (G0:Gh):Nb:=⟨0,fun G=>G=G0⟩
abbrev Q4 (x:Tm) (vs:List Value) (o:sD):List AV:=[ai x.k,ai x.n,.sl (vs.map .val) x.sub.length o]
theorem yAJ(j:Nat->Value)(ls:List L3)(x:Tm)(u:List AV)(vs:List Value)(o:sD):rW prog rJ 3000 (.run (cP (cP (rF (xE (xE (xE (vI f161)))))))) [] (s4P j ls []) (sSP u (Q4 x vs o)) [.no,.bit false]=some (.fin (.exit 0),(s4P j ls [(7,.mp 2 0),(8,ai x.k),(9,ab false),(10,ab false),(11,.val undef),(12,.val undef),(13,.val undef),(14,.val undef),(15,ab false)]),(sSP u (Q4 x vs o)),[],[.bit (x.k==5) false]):=by kernel_rfl
theorem yAK(j:Nat->Value)(ls:List L3)(x:Tm)(u:List AV)(vs:List Value)(o:sD):(fC prog rJ (wH (rF (xE (xE (xE (xE (vI f161))))))) ((wH (rF (xE (xE (xE (xE (vI f161))))))).toList.take 1) 0 (s4P j ls [(7,.mp 2 0),(8,ai x.k),(9,ab false),(10,ab false),(11,.val undef),(12,.val undef),(13,.val undef),(14,.val undef),(15,ab false)]) (sSP u (Q4 x vs o)) []).map Prod.snd=some ((s4P j ls [(7,.mp 2 0),(8,ai x.k),(9,ab false),(10,ab false),(11,.val undef),(12,.val undef),(13,.val undef),(14,.val undef),(15,ab false),(31,.sl (zG c3 ls) ls.length (.st 0 3))]),(sSP u (Q4 x vs o)),[],[]):=by kernel_rfl
theorem yAL(j i:Nat->Value)(ls:List L3)(l:zR)(x:Tm)(u:List AV)(vs:List Value)(o:sD):(fC prog rJ (wH (rF (xE (xE (xE (xE (vI f161))))))) ((wH (rF (xE (xE (xE (xE (vI f161))))))).toList.drop 2) 2 (eset (tells [(4,.sl (zG zC l.reverse) l.length .no)] (mutEnv [1,2] i (s4P j ls [(7,.mp 2 0),(8,ai x.k),(9,ab false),(10,ab false),(11,.val undef),(12,.val undef),(13,.val undef),(14,.val undef),(15,ab false),(31,.sl (zG c3 ls) ls.length (.st 0 3))]) 0)) (some 32) (.tup [])) (pB [1,2] (sSP u (Q4 x vs o))) []).map Prod.snd=some ((sp j 35 0 [(1,.val (i 1)),(2,.mp 1 0),(4,.sl (zG zC l.reverse) l.length .no),(5,.mp 2 0),(7,.mp 2 0),(8,ai x.k),(9,ab false),(10,ab false),(11,.val undef),(12,.val undef),(13,.val undef),(14,.val undef),(15,ab false),(31,.val (i 31)),(32,.tup [])]),⟨[(1,.cells [ai 0,ai 0,.sl [] 0 .nl]),(2,.cells (Q4 x vs o))],3,[],0,[]⟩,[],[]):=by kernel_rfl
theorem yAM(j i:Nat->Value)(l:zR)(x:Tm)(vs:List Value)(o:sD):eK prog rJ 0 f161 3000 (.run (xE (xE (xE (xE (xE (vI f161))))))) [] (sp j 35 0 [(1,.val (i 1)),(2,.mp 1 0),(4,.sl (zG zC l.reverse) l.length .no),(5,.mp 2 0),(7,.mp 2 0),(8,ai x.k),(9,ab false),(10,ab false),(11,.val undef),(12,.val undef),(13,.val undef),(14,.val undef),(15,ab false),(31,.val (i 31)),(32,.tup [])]) ⟨[(1,.cells [ai 0,ai 0,.sl [] 0 .nl]),(2,.cells (Q4 x vs o))],3,[],0,[]⟩ [.no,.no] [] [] [] false=some (.tup [.agg [ai x.k,ai x.n,.sl (vs.map .val) x.sub.length .no],.sl (zG zC l.reverse) l.length .no],[],[.data (vs.map .val),.data (zG zC l.reverse)]):=by kernel_rfl
theorem yAN(j:Nat->Value)(ls:List L3)(x:Tm)(u:List AV)(vs:List Value)(o:sD):rW prog rJ 3000 (.run (cP (cP (rF (xE (xE (xE (vI f161)))))))) [] (s4P j ls []) (sSP u (Q4 x vs o)) [.no,.bit true,.no,.no,.bit false]=some (.fin (.exit 0),(s4P j ls [(7,.mp 2 0),(8,ai x.k),(9,ab true),(10,ab true),(11,.mp 2 2),(12,.sl (vs.map .val) x.sub.length o),(13,ai (x.sub.length:Int)),(14,ab false),(15,ab false)]),(sSP u (Q4 x vs o)),[],[.bit (x.k==5) true,.bit ((x.sub.length:Int)==2) false]):=by kernel_rfl
theorem yAO(j:Nat->Value)(ls:List L3)(x:Tm)(u:List AV)(vs:List Value)(o:sD):(fC prog rJ (wH (rF (xE (xE (xE (xE (vI f161))))))) ((wH (rF (xE (xE (xE (xE (vI f161))))))).toList.take 1) 0 (s4P j ls [(7,.mp 2 0),(8,ai x.k),(9,ab true),(10,ab true),(11,.mp 2 2),(12,.sl (vs.map .val) x.sub.length o),(13,ai (x.sub.length:Int)),(14,ab false),(15,ab false)]) (sSP u (Q4 x vs o)) []).map Prod.snd=some ((s4P j ls [(7,.mp 2 0),(8,ai x.k),(9,ab true),(10,ab true),(11,.mp 2 2),(12,.sl (vs.map .val) x.sub.length o),(13,ai (x.sub.length:Int)),(14,ab false),(15,ab false),(31,.sl (zG c3 ls) ls.length (.st 0 3))]),(sSP u (Q4 x vs o)),[],[]):=by kernel_rfl
theorem yAP(j i:Nat->Value)(ls:List L3)(l:zR)(x:Tm)(u:List AV)(vs:List Value)(o:sD):(fC prog rJ (wH (rF (xE (xE (xE (xE (vI f161))))))) ((wH (rF (xE (xE (xE (xE (vI f161))))))).toList.drop 2) 2 (eset (tells [(4,.sl (zG zC l.reverse) l.length .no)] (mutEnv [1,2] i (s4P j ls [(7,.mp 2 0),(8,ai x.k),(9,ab true),(10,ab true),(11,.mp 2 2),(12,.sl (vs.map .val) x.sub.length o),(13,ai (x.sub.length:Int)),(14,ab false),(15,ab false),(31,.sl (zG c3 ls) ls.length (.st 0 3))]) 0)) (some 32) (.tup [])) (pB [1,2] (sSP u (Q4 x vs o))) []).map Prod.snd=some ((sp j 35 0 [(1,.val (i 1)),(2,.mp 1 0),(4,.sl (zG zC l.reverse) l.length .no),(5,.mp 2 0),(7,.mp 2 0),(8,ai x.k),(9,ab true),(10,ab true),(11,.mp 2 2),(12,.val (i 12)),(13,ai (x.sub.length:Int)),(14,ab false),(15,ab false),(31,.val (i 31)),(32,.tup [])]),⟨[(1,.cells [ai 0,ai 0,.sl [] 0 .nl]),(2,.cells (Q4 x vs o))],3,[],0,[]⟩,[],[]):=by kernel_rfl
theorem yAQ(j i:Nat->Value)(l:zR)(x:Tm)(vs:List Value)(o:sD):eK prog rJ 0 f161 3000 (.run (xE (xE (xE (xE (xE (vI f161))))))) [] (sp j 35 0 [(1,.val (i 1)),(2,.mp 1 0),(4,.sl (zG zC l.reverse) l.length .no),(5,.mp 2 0),(7,.mp 2 0),(8,ai x.k),(9,ab true),(10,ab true),(11,.mp 2 2),(12,.val (i 12)),(13,ai (x.sub.length:Int)),(14,ab false),(15,ab false),(31,.val (i 31)),(32,.tup [])]) ⟨[(1,.cells [ai 0,ai 0,.sl [] 0 .nl]),(2,.cells (Q4 x vs o))],3,[],0,[]⟩ [.no,.no] [] [] [] false=some (.tup [.agg [ai x.k,ai x.n,.sl (vs.map .val) x.sub.length .no],.sl (zG zC l.reverse) l.length .no],[],[.data (vs.map .val),.data (zG zC l.reverse)]):=by kernel_rfl
theorem spC(j:Nat->Value)(p0:Tm)(q0:Option Addr×Nat×Nat)(ls:List L3)(x:Tm)(vs:List Value)(o:sD):eK prog rJ 0 f161 3000 (.run (cP (cP (rF (xE (xE (xE (vI f161)))))))) [.loop (cP (cP (rF (xE (xE (xE (vI f161))))))),.blk 0,.seq (xE (xE (xE (xE (vI f161)))))] (s4P j ls []) (sSP (lt3 p0 q0) (Q4 x vs o)) [.no,.bit true,.no,.no,.bit true,.no,.bit true,.no,.no] [] [] [] false=some (.tup [.agg (lt3 p0 q0),.sl [] 0 .no],[],[.bit (x.k==5) true,.bit ((x.sub.length:Int)==2) true,.bit (decide ((ls.length:Int)≥8192)) true,.data []]):=by kernel_rfl
theorem spD(i j:Nat->Value)(k n:Int)(a b:Tm)(qa qb:Option Addr×Nat×Nat)(u0 u1 u2:Value)(ls ls2:List L3)(o:sD):iA prog rJ 0 3000 (.run (cP (cP (rF (xE (xE (xE (vI f161)))))))) [.loop (cP (cP (rF (xE (xE (xE (vI f161))))))),.blk 0,.seq (xE (xE (xE (xE (vI f161)))))] (s4P j ls []) (sSP [.val u0,.val u1,.val u2] [ai k,ai n,.sl [.val (.int .i64 a.k),.val (.int .i64 a.n),.val (.slice qa.1 qa.2.1 qa.2.2),.val (.int .i64 b.k),.val (.int .i64 b.n),.val (.slice qb.1 qb.2.1 qb.2.2)] 2 o]) [.no,.bit true,.no,.no,.bit true,.no,.bit false,.no,.no,.no,.no,.app (zG c3 ls2) ls2.length 3 false,.no,.no,.no,.no] [] [0,1,2] [1] [1,2,4,5] i=some (cP (cP (rF (xE (xE (xE (vI f161)))))),[.blk 0,.seq (xE (xE (xE (xE (vI f161)))))],(s4P i ls2 []),(sSP [.val u0,.val u1,.val u2] [.val (.int .i64 a.k),.val (.int .i64 a.n),.val (.slice qa.1 qa.2.1 qa.2.2)]),[.bit (k==5) true,.bit ((2:Int)==2) true,.bit (decide ((ls.length:Int)≥8192)) false,.app 23 23 (zG c3 ls) [.val (.int .i64 b.k),.val (.int .i64 b.n),.val (.slice qb.1 qb.2.1 qb.2.2)] (zG c3 ls2) ls.length 1 ls2.length 3 false,.data [],.data (zG c3 ls2)]):=by kernel_rfl
theorem spE(i:Nat->Value)(u0 u1:Int)(u2:Option Addr×Nat×Nat):iA prog rJ 0 3000 (.run (vI f161)) [] ([.agg [.val (.int .i64 u0),.val (.int .i64 u1),.val (.slice u2.1 u2.2.1 u2.2.2)]]++List.replicate (f161.ntmps-1) (.val undef)) (F4 []) [.no,.no] [(none,4,3)] [0,1,2] [0] [1,2,4,5] i=some (cP (cP (rF (xE (xE (xE (vI f161)))))),[.blk 0,.seq (xE (xE (xE (xE (vI f161)))))],(sp i 35 0 [(1,.mp 0 0),(2,.mp 1 0),(4,.sl [] 0 (.st 0 3)),(5,.mp 2 0)]),⟨[(0,.cells [.val (.int .i64 u0),.val (.int .i64 u1),.val (.slice u2.1 u2.2.1 u2.2.2)]),(1,.cells [ai 0,ai 0,.sl [] 0 .nl]),(2,.cells [.val (.int .i64 u0),.val (.int .i64 u1),.val (.slice u2.1 u2.2.1 u2.2.2)])],3,[0],1,[]⟩,[.data [],.data []]):=by kernel_rfl
def sv(x:Tm)(q:Option Addr×Nat×Nat):List Value:=[.int .i64 x.k,.int .i64 x.n,.slice q.1 q.2.1 q.2.2]
def sv3(x:Tm)(q:Option Addr×Nat×Nat):L3:=⟨.int .i64 x.k,.int .i64 x.n,.slice q.1 q.2.1 q.2.2,rfl,rfl,rfl⟩
theorem VL.split{G:Gh}{w:World}:∀(cs bs:List AV) (us:List Value),VL G w (cs++bs) us->∃u1 u2,us=u1++u2∧VL G w cs u1∧VL G w bs u2
 | [],bs,us,h=>⟨[],us,rfl,by simp only[VL],h⟩
 |a::cs,bs,[],h=>by simp only[List.cons_append,VL]at h
 |a::cs,bs,u::us,h=>by
  simp only[List.cons_append,VL]at h
  obtain⟨u1,u2,rfl,h1,h2⟩:=VL.split cs bs us h.2
  exact⟨u::u1,u2,rfl,by simp only[VL];exact⟨h.1,h1⟩,h2⟩
theorem zMy{G:Gh}{w:World}{x:Tm}{us:List Value}(h:VL G w (fD x) us):∃q,us=sv x q:=by
 unfold fD at h
 match us,h with
 | [],h=>simp only[VL]at h
 | [_],h=>simp only[VL,and_false]at h
 | [_,_],h=>simp only[VL,and_false]at h
 | [u0,u1,u2],h=>
  simp only[VL,and_true]at h
  obtain⟨h0,h1,h2⟩:=h
  simp only[V]at h0 h1 h2
  obtain⟨cap,_,⟨_,_,_,h,_⟩|⟨b,off,h,_⟩⟩:=h2
  ·obtain⟨p,h⟩:∃p,u2 = .slice p 0 0:=⟨_,h⟩
   exact⟨(p,0,0),by simp[sv,h0,h1,h]⟩
  ·exact⟨(some ⟨b,off,none⟩,x.sub.length,cap),by simp[sv,h0,h1,h]⟩
 |_::_::_::_::_,h=>simp only[VL,and_false]at h
theorem VC.lit{G G':Gh}{w w':World}(b:Nat)(hL:∀o,G.L b o->G'.L b o)(hc:∀o,w'.cell? ⟨b,o,none⟩=w.cell? ⟨b,o,none⟩):∀(vs:List Value) (off:Nat),VC G w (vs.map .val) b off->VC G' w' (vs.map .val) b off
 | [],_,_=>by simp only[List.map_nil,VC]
 |v::vs,off,h=>by
  simp only[List.map_cons,VC]at h ⊢
  obtain⟨h1,⟨u,h2,h3⟩,h4⟩:=h
  exact⟨hL _ h1,⟨u,(hc _).trans h2,by simpa only[V]using h3⟩,VC.lit b hL hc vs (off+1) h4⟩
theorem zXN{G:Gh}{w:World}{vs:List Value}{n:Nat}{o:sD}{u:Value}{es:List AV}(h:V G w (.sl (vs.map .val) n o) u)(he:VL G w es vs):V G w (.sl es n .no) u:=by
 simp only[V]at h ⊢
 obtain⟨cap,hc,⟨h1,h2,h3,h4,_⟩|⟨b,off,h1,h2,_⟩⟩:=h
 ·have hv:vs=[]:=by simpa using h1
  subst hv
  have:=VL.length _ _ he
  exact⟨cap,hc,.inl ⟨List.length_eq_zero_iff.1 this.symm,h2,h3,h4,trivial⟩⟩
 ·refine⟨cap,hc,.inr ⟨b,off,h1,?_,trivial⟩⟩
  obtain⟨us,q1,q2⟩:=VC.cells _ _ _ h2
  have:=VL.litEq _ _ q1
  subst this
  exact VC.of_cells es us b off he (fun i hi=>(VC.cell _ _ _ i (.val us[i]) h2 (by simp[hi])).1) q2
theorem zPl{na:Nb}{G0:Gh}{w:World}(hB:lR na G0){x:Tm}{q:Option Addr×Nat×Nat}(h:VL G0 w (fD x) (sv x q)) :
  ∃(vs:List Value) (o:sD),VL G0 w (zG zC x.sub) vs∧VL G0 w (Q4 x vs o) (sv x q)∧yP.lit (.cells (Q4 x vs o)):=by
 unfold fD sv at h
 simp only[VL,and_true]at h
 obtain⟨_,_,h2⟩:=h
 have key:∃(vs:List Value) (o:sD),VL G0 w (zG zC x.sub) vs∧V G0 w (.sl (vs.map .val) x.sub.length o) (.slice q.1 q.2.1 q.2.2) ∧
   ∀(G G':Gh) (w w':World) (u:Value),G'.F=G.F->(∀b o,G.F b->G.L b o->G'.L b o)->(∀b o,G.F b->w'.cell? ⟨b,o,none⟩=w.cell? ⟨b,o,none⟩)->V G w (.sl (vs.map .val) x.sub.length o) u->V G' w' (.sl (vs.map .val) x.sub.length o) u:=by
  simp only[V]at h2
  obtain⟨cap,hc,⟨h1,h2,h3,h4,_⟩|⟨b,off,h1,h2,_⟩⟩:=h2
  ·refine⟨[],.no,by rw[h1];simp only[VL],?_,?_⟩
   ·simp only[V];exact⟨cap,hc,.inl ⟨rfl,h2,h3,h4,trivial⟩⟩
   ·intro G G' w w' u _ _ _ hu
    rw[h2]at hu ⊢
    exact V.none hu
  ·obtain⟨vs,q1,q2⟩:=VC.cells _ _ _ h2
   have hL:∀i,i<vs.length->G0.L b (off+i):=by
    intro i hi
    have hl:=VL.length _ _ q1
    exact(VC.cell _ _ _ i ((zG zC x.sub)[i]'(by omega)) h2 (by rw[List.getElem?_eq_getElem])).1
   have hcl:VC G0 w (vs.map .val) b off:=VC.of_cells _ vs b off (VL.lits vs) hL q2
   by_cases hs:vs=[]
   ·subst hs
    have hl:=VL.length _ _ q1
    have hfl:=uD qD.len x.sub
    have h0:x.sub.length=0:=by simp at hl;omega
    refine⟨[],.no,q1,?_,?_⟩
    ·simp only[V];exact⟨cap,hc,.inr ⟨b,off,h1,hcl,trivial⟩⟩
    ·intro G G' w w' u _ _ _ hu
     rw[h0]at hu ⊢
     exact V.none hu
   ·have hF:G0.F b:=hB.LF b (off+0) (hL 0 (List.length_pos_iff.2 hs))
    refine⟨vs,.fr,q1,?_,?_⟩
    ·simp only[V];exact⟨cap,hc,.inr ⟨b,off,h1,hcl,hF⟩⟩
    ·intro G G' w w' u e1 e2 e3 hu
     simp only[V]at hu ⊢
     obtain⟨cap',hc',⟨p1,p2,p3,p4,_⟩|⟨b',off',p1,p2,p3⟩⟩:=hu
     ·exact⟨cap',hc',.inl ⟨p1,p2,p3,p4,trivial⟩⟩
     ·have p3':G.F b':=p3
      exact⟨cap',hc',.inr ⟨b',off',p1,VC.lit b' (fun o h=>e2 b' o p3' h) (fun o=>e3 b' o p3') vs off' p2,by show G'.F b';rw[e1];exact p3'⟩⟩
 obtain⟨vs,o,k1,k2,k3⟩:=key
 refine⟨vs,o,k1,?_,?_⟩
 ·simp only[sv,VL,V];simp only[V]at k2;exact⟨trivial,trivial,k2,trivial⟩
 ·intro G G' w w' us e1 e2 e3 hu
  match us,hu with
  | [],hu=>simp only[VL]at hu
  | [_],hu=>simp only[VL,and_false]at hu
  | [_,_],hu=>simp only[VL,and_false]at hu
  | [u0,u1,u2],hu=>
   simp only[VL,and_true]at hu ⊢
   exact⟨by simpa only[V]using hu.1,by simpa only[V]using hu.2.1,k3 G G' w w' u2 e1 e2 e3 hu.2.2⟩
  |_::_::_::_::_,hu=>simp only[VL,and_false]at hu
theorem zXO:yP.lit (.cells [ai 0,ai 0,.sl [] 0 .nl]):=by
 intro G G' w w' us e1 e2 e3 hu
 match us,hu with
 | [],hu=>simp only[VL]at hu
 | [_],hu=>simp only[VL,and_false]at hu
 | [_,_],hu=>simp only[VL,and_false]at hu
 | [u0,u1,u2],hu=>
  simp only[VL,and_true]at hu ⊢
  refine⟨by simpa only[V]using hu.1,by simpa only[V]using hu.2.1,?_⟩
  have:=hu.2.2
  simp only[V]at this ⊢
  obtain⟨cap,h1,⟨_,_,h2,h3,h4⟩|⟨b,off,h2,_,h3⟩⟩:=this
  ·exact⟨cap,h1,.inl ⟨trivial,trivial,h2,h3,h4⟩⟩
  ·exact h3.elim
 |_::_::_::_::_,hu=>simp only[VL,and_false]at hu
def zTa(G0:Gh)(res:AV)(r:Tm×zR):Prop:=∀W G' W',wF G0 W G' W'->vK G'.F G'.w0 W'->∀u,V G' W' res u->V G' W' (.tup [yV r.1,.sl (zG zC r.2) r.2.length .no]) u
def qH(p0:Tm):Tm->zR->Option (Tm×zR)
 | .mk k n [a,b],l=>
  if (k==5)=true then
   if decide ((l.length:Int)≥8192)=true then some (p0,[])else(xB 40 l [b])>>=fun l2=>qH p0 a l2
  else some (.mk k n [a,b],l.reverse)
 |x,l=>some (x,l.reverse)
def zXP(p0:Tm):Option (Tm×zR):=qH p0 p0 []
theorem zMx:∀vs:List Value,AV.DataL (vs.map .val)
 | []=>trivial
 |_::vs=>⟨trivial,zMx vs⟩
theorem VL.rev{G:Gh}{w:World}:∀(l:zR) (ls:List L3),VL G w (zG zC l) (sN ls)->ls.length=l.length->VL G w (zG zC l.reverse) (sN ls.reverse)
 | [],[],_,_=>by simp[zG,sN,VL]
 |x::l,y::ls,h,hl=>by
  simp only[zG,sN,List.flatMap_cons]at h
  obtain⟨u1,u2,e,h1,h2⟩:=VL.split _ _ _ h
  have n1:=VL.length _ _ h1
  rw[qD.len]at n1
  obtain⟨rfl,rfl⟩:=List.append_inj e (by rw[n1];rfl)
  have ih:=VL.rev l ls h2 (by simpa using hl)
  simp only[List.reverse_cons,zG,sN,List.flatMap_append,List.flatMap_cons,List.flatMap_nil,List.append_nil]
  exact VL.append _ _ _ _ ih h1
 | [],_::_,_,h=>by simp at h
 |_::_,[],_,h=>by simp at h
theorem t6{na:Nb}{G0:Gh}(hB:lR na G0){x:Tm}{l:zR}{vs:List Value}(v1:VL G0 G0.w0 (zG zC x.sub) vs)(hn:na.n=0:=by first|rfl|assumption):zTa G0 (.tup [.agg [ai x.k,ai x.n,.sl (vs.map .val) x.sub.length .no],.sl (zG zC l.reverse) l.length .no]) (x,l.reverse):=by
 intro W G' W' hE hK u hu
 have v:=VL.later hB hE hK v1
 simp only[V,VL]at hu
 obtain⟨us,rfl,hus⟩:=hu
 match us,hus with
 | [],h=>simp only[VL]at h
 | [_],h=>simp only[VL,and_false]at h
 | [ua,ub],h=>
  simp only[VL,and_true]at h
  obtain⟨h1,h2⟩:=h
  simp only[V]at h1
  obtain⟨ws,rfl,hws⟩:=h1
  match ws,hws with
  | [],h=>simp only[VL]at h
  | [_],h=>simp only[VL,and_false]at h
  | [_,_],h=>simp only[VL,and_false]at h
  | [w0,w1,w2],h=>
   simp only[VL,and_true]at h
   obtain⟨g0,g1,g2⟩:=h
   have g3:=zXN g2 v
   simp only[V]
   refine⟨[.agg #[w0,w1,w2],ub],rfl,?_⟩
   simp only[VL,and_true]
   refine⟨?_,by simpa using h2⟩
   simp only[yV,V]
   exact⟨[w0,w1,w2],rfl,by simp only[fD,VL,and_true];exact⟨g0,g1,g3⟩⟩
  |_::_::_::_::_,h=>simp only[VL,and_false]at h
 |_::_::_::_,h=>simp only[VL,and_false]at h
theorem zJj{na:Nb}{G0:Gh}(hB:lR na G0){x:Tm}{q:Option Addr×Nat×Nat}(h0:VL G0 G0.w0 (fD x) (sv x q))(hn:na.n=0:=by first|rfl|assumption):zTa G0 (.tup [.agg (lt3 x q),.sl [] 0 .no]) (x,[]):=by
 intro W G' W' hE hK u hu
 have v:=VL.later hB hE hK h0
 simp only[V,VL]at hu
 obtain⟨us,rfl,hus⟩:=hu
 match us,hus with
 | [],h=>simp only[VL]at h
 | [_],h=>simp only[VL,and_false]at h
 | [ua,ub],h=>
  simp only[VL,and_true]at h
  obtain⟨h1,h2⟩:=h
  simp only[V]at h1
  obtain⟨ws,rfl,hws⟩:=h1
  have hw:ws=sv x q:=VL.litEq (sv x q) ws hws
  subst hw
  simp only[V]
  refine⟨[.agg (sv x q).toArray,ub],rfl,?_⟩
  simp only[VL,and_true]
  refine⟨?_,by simpa[zG]using h2⟩
  simp only[yV,V]
  exact⟨sv x q,rfl,v⟩
 |_::_::_::_,h=>simp only[VL,and_false]at h
theorem yAR{G0:Gh}{p0 x:Tm}{q0:Option Addr×Nat×Nat}{l:zR}{ls:List L3}{vs:List Value}{o:sD}(j:Nat->Value)(hlit:yP.lit (.cells (Q4 x vs o)))(hl:VL G0 G0.w0 (zG zC l) (sN ls))(hlen:ls.length=l.length)(h8:l.length≤8192) :
  Dv prog (Q3 G0) (xE (xE (xE (xE (vI f161))))) (s4P j ls [(7,.mp 2 0),(8,ai x.k),(9,ab false),(10,ab false),(11,.val undef),(12,.val undef),(13,.val undef),(14,.val undef),(15,ab false)]) (sSP (lt3 p0 q0) (Q4 x vs o)) (nQ (Q3 G0) f161 (.tup [.agg [ai x.k,ai x.n,.sl (vs.map .val) x.sub.length .no],.sl (zG zC l.reverse) l.length .no]) [] 0):=by
 have k1:knd (xE (xE (xE (xE (vI f161)))))=1:=by kernel_rfl
 have k3:cS (rF (xE (xE (xE (xE (vI f161))))))=true:=by kernel_rfl
 have k4:zAk (wH (rF (xE (xE (xE (xE (vI f161)))))))[1]? = some (some 32,208,#[.tmp 31]):=by kernel_rfl
 have k5:(f208.name == "runtime.NumGoroutine")=false:=by kernel_rfl
 have k6:f208.body.isNone=false:=by kernel_rfl
 refine Dv.seqP k1 ?_
 obtain⟨id,k7⟩:=zOV k3
 rw[k7]
 refine Dv.mut wD (na:=(Q3 G0)) rfl 1 [1,2] [(4,.sl (zG zC l.reverse) l.length .no)] (.tup []) (yAK j ls x _ vs o) yF.nil k4 func208 k5 k6 ?_ ?_ (fun i=>yAL j i ls l x _ vs o) yF.nil ?_
 ·intro i X hm hX
  have:i=1∨i=2:=by simpa using wT.1 hm
  rcases this with rfl|rfl
  ·cases hX;exact zXO
  ·cases hX;exact hlit
 ·intro G1 W hB' G w hE hR u hu
  have e:=hB'.κ
  subst e
  refine(zCB (l:=ls) hR (by rfl) (by omega) hu).mono ?_
  rintro e w' ⟨v,b,S,e1,e2,e3,e4,e5,e6,e7⟩
  refine⟨v,b,S,e1,e2,e3,e4,e5,fun G' hE' hK' hS=>⟨by subst e6;simp only[V];exact⟨[],rfl,by simp only[VL]⟩,?_⟩⟩
  intro p hp u' hu'
  have hp':=List.mem_singleton.1 hp
  subst hp'
  have:=e7 G' hS _ (VL.later hB' hE' hK' (VL.rev l ls hl hlen)) u' hu'
  rw[hlen]at this
  exact this
 ·intro i
  exact gK (na:=(Q3 G0)) wD mixed (yAM j i l x vs o) (yF.cons (rK (zMx vs)) (yF.cons (rK (dT _)) yF.nil)) (by decide)
theorem yAS{G0:Gh}{p0 x:Tm}{q0:Option Addr×Nat×Nat}{l:zR}{ls:List L3}{vs:List Value}{o:sD}(j:Nat->Value)(hlit:yP.lit (.cells (Q4 x vs o)))(hl:VL G0 G0.w0 (zG zC l) (sN ls))(hlen:ls.length=l.length)(h8:l.length≤8192) :
  Dv prog (Q3 G0) (xE (xE (xE (xE (vI f161))))) (s4P j ls [(7,.mp 2 0),(8,ai x.k),(9,ab true),(10,ab true),(11,.mp 2 2),(12,.sl (vs.map .val) x.sub.length o),(13,ai (x.sub.length:Int)),(14,ab false),(15,ab false)]) (sSP (lt3 p0 q0) (Q4 x vs o)) (nQ (Q3 G0) f161 (.tup [.agg [ai x.k,ai x.n,.sl (vs.map .val) x.sub.length .no],.sl (zG zC l.reverse) l.length .no]) [] 0):=by
 have k1:knd (xE (xE (xE (xE (vI f161)))))=1:=by kernel_rfl
 have k3:cS (rF (xE (xE (xE (xE (vI f161))))))=true:=by kernel_rfl
 have k4:zAk (wH (rF (xE (xE (xE (xE (vI f161)))))))[1]? = some (some 32,208,#[.tmp 31]):=by kernel_rfl
 have k5:(f208.name == "runtime.NumGoroutine")=false:=by kernel_rfl
 have k6:f208.body.isNone=false:=by kernel_rfl
 refine Dv.seqP k1 ?_
 obtain⟨id,k7⟩:=zOV k3
 rw[k7]
 refine Dv.mut wD (na:=(Q3 G0)) rfl 1 [1,2] [(4,.sl (zG zC l.reverse) l.length .no)] (.tup []) (yAO j ls x _ vs o) yF.nil k4 func208 k5 k6 ?_ ?_ (fun i=>yAP j i ls l x _ vs o) yF.nil ?_
 ·intro i X hm hX
  have:i=1∨i=2:=by simpa using wT.1 hm
  rcases this with rfl|rfl
  ·cases hX;exact zXO
  ·cases hX;exact hlit
 ·intro G1 W hB' G w hE hR u hu
  have e:=hB'.κ
  subst e
  refine(zCB (l:=ls) hR (by rfl) (by omega) hu).mono ?_
  rintro e w' ⟨v,b,S,e1,e2,e3,e4,e5,e6,e7⟩
  refine⟨v,b,S,e1,e2,e3,e4,e5,fun G' hE' hK' hS=>⟨by subst e6;simp only[V];exact⟨[],rfl,by simp only[VL]⟩,?_⟩⟩
  intro p hp u' hu'
  have hp':=List.mem_singleton.1 hp
  subst hp'
  have:=e7 G' hS _ (VL.later hB' hE' hK' (VL.rev l ls hl hlen)) u' hu'
  rw[hlen]at this
  exact this
 ·intro i
  exact gK (na:=(Q3 G0)) wD mixed (yAQ j i l x vs o) (yF.cons (rK (zMx vs)) (yF.cons (rK (dT _)) yF.nil)) (by decide)
theorem zXQ{l m r:List L3}(h:xB 40 l m=some r)(hm:m.length≠0):Ob.ok prog (.app 23 23 (zG c3 l) (zG c3 m) (zG c3 r) l.length m.length r.length 3 false):=sM zFp Tryz.underlying23 mK rfl rfl rfl (by decide) rfl (by decide) h hm
theorem t7{p0 x:Tm}{l:zR}{r:Tm×zR}(h:qH p0 x l=some r)(hx:¬((x.k==5)=true∧x.sub.length=2)):r=(x,l.reverse):=by
 obtain⟨k,n,sub⟩:=x
 unfold qH at h
 split at h
 ·rename_i k' n' a b e
  cases e
  split at h
  ·rename_i hk
   exact(hx ⟨hk,rfl⟩).elim
  ·cases h;rfl
 ·cases h;rfl
theorem zFe{p0:Tm}{q0:Option Addr×Nat×Nat}{G0:Gh}(hB:lR (Q3 G0) G0)(h0:VL G0 G0.w0 (fD p0) (sv p0 q0)):∀(N:Nat) (x:Tm) (l:zR) (r:Tm×zR) (hN:SizeOf.sizeOf x≤N) (h:qH p0 x l=some r) (h8:l.length≤8192) (q:Option Addr×Nat×Nat) (ls:List L3)
  (hx:VL G0 G0.w0 (fD x) (sv x q)) (hl:VL G0 G0.w0 (zG zC l) (sN ls)) (hlen:ls.length=l.length),∃res,zTa G0 res r∧∀j:Nat->Value,dL (Q3 G0) (cP (cP (rF (xE (xE (xE (vI f161))))))) (s4P j ls []) (sSP (lt3 p0 q0) (lt3 x q)) (fQ (Q3 G0) (nQ (Q3 G0) f161 res [] 0) [.blk 0,.seq (xE (xE (xE (xE (vI f161)))))]):=by
 intro N
 induction N with
 |zero=>
  intro x l r hN
  obtain⟨k,n,sub⟩:=x
  simp at hN
 |succ N spine_ih=>
 intro x l r hN h h8 q ls hx hl hlen
 obtain⟨vs,o,v1,v2,v3⟩:=zPl hB hx
 have hopen:∀ {res:AV} (j:Nat->Value),dL (Q3 G0) (cP (cP (rF (xE (xE (xE (vI f161))))))) (s4P j ls []) (sSP (lt3 p0 q0) (Q4 x vs o)) (fQ (Q3 G0) (nQ (Q3 G0) f161 res [] 0) [.blk 0,.seq (xE (xE (xE (xE (vI f161)))))])->dL (Q3 G0) (cP (cP (rF (xE (xE (xE (vI f161))))))) (s4P j ls []) (sSP (lt3 p0 q0) (lt3 x q)) (fQ (Q3 G0) (nQ (Q3 G0) f161 res [] 0) [.blk 0,.seq (xE (xE (xE (xE (vI f161)))))]):=by
  intro res j hd
  refine Dl.openB (b:=2) (cs:=(lt3 x q)) (cs':=(Q4 x vs o)) rfl (fun G1 W hB' G w hE hK us hus=>?_) hd
  have e:=hB'.κ
  subst e
  have hu:us=sv x q:=VL.litEq (sv x q) us hus
  subst hu
  exact VL.later hB' hE hK v2
 by_cases hk:(x.k==5)=true
 ·by_cases h2:x.sub.length=2
  ·obtain⟨k,n,sub⟩:=x
   match sub,h2 with
   | [a,b],_=>
   rw[qH]at h
   replace h:=ifT hk h
   rcases P6 (decide ((l.length:Int)≥8192))with h3|h3
   ·replace h:=ifT h3 h
    cases h
    exact⟨_,zJj hB h0,fun j=>hopen j (Dl.toFin (na:=(Q3 G0)) wD mixed 3000 _ _ _ _ _ (spC j p0 q0 ls (.mk k n [a,b]) vs o) (yF.cons (lE hk) (yF.cons (lE rfl) (yF.cons (lE (by rw[hlen];exact h3)) (yF.cons (rK trivial) yF.nil)))) (by decide))⟩
   ·replace h:=ifF h3 h
    obtain⟨l2,hg,h⟩:=zB h
    obtain⟨hg1,rfl⟩:=rC hg
    have w1:VL G0 G0.w0 (zC a++(zC b++[])) vs:=v1
    obtain⟨ua,u2,rfl,wa,w2⟩:=VL.split _ _ _ w1
    obtain⟨ub,u3,rfl,wb,w3⟩:=VL.split _ _ _ w2
    have e3:u3=[]:=by
     have:=VL.length _ _ w3
     exact List.length_eq_zero_iff.1 this
    subst e3
    rw[wL]at wa wb
    obtain⟨qa,rfl⟩:=zMy wa
    obtain⟨qb,rfl⟩:=zMy wb
    have h3':List.length l<8192:=by
     have:=of_decide_eq_false h3
     omega
    have hl2:VL G0 G0.w0 (zG zC (l++[b])) (sN (ls++[sv3 b qb])):=by
     simp only[zG,sN,List.flatMap_append,List.flatMap_cons,List.flatMap_nil,List.append_nil]
     refine VL.append _ _ _ _ hl ?_
     rw[wL];exact wb
    have hga:xB 40 ls [sv3 b qb]=some (ls++[sv3 b qb]):=by
     unfold xB
     rw[if_pos]
     simp only[List.length_cons,List.length_nil]at hg1 ⊢
     rw[hlen];exact hg1
    obtain⟨res,hgood,hdl⟩:=spine_ih a (l++[b]) r (by simp at hN;omega) h (by simp;omega) qa (ls++[sv3 b qb]) wa hl2 (by simp[hlen])
    refine⟨res,hgood,fun j=>hopen j (Dl.toHead (na:=(Q3 G0)) wD mixed 3000 _ _ _ _ _ (fun i=>spD i j k n a b qa qb _ _ _ ls (ls++[sv3 b qb]) o) ?_ fun i=>hdl i)⟩
    exact yF.cons (lE hk) (yF.cons (lE rfl) (yF.cons (lE (by rw[hlen];exact h3)) (yF.cons (zXQ (m:=[sv3 b qb]) hga (by simp)) (yF.cons (rK trivial) (yF.cons (rK (wP zFp.data _)) yF.nil)))))
  ·have hr:=t7 h (fun e=>h2 e.2)
   subst hr
   refine⟨.tup [.agg [ai x.k,ai x.n,.sl (vs.map .val) x.sub.length .no],.sl (zG zC l.reverse) l.length .no],t6 hB v1,fun j=>hopen j (Dl.step ?_)⟩
   have hx1:=yAS (G0:=G0) (p0:=p0) (q0:=q0) j v3 hl hlen h8
   refine nO (Q:=_) wD mixed 3000 (.run (cP (cP (rF (xE (xE (xE (vI f161)))))))) [] _ _ _ _ _ _ _ _ (yAN j ls x _ vs o) (yF.cons (lE hk) (yF.cons (lE (by simp;omega)) yF.nil)) ?_
   simp only[KQ,zEZ,vE,B1,if_true]
   exact hx1
 ·have hr:=t7 h (fun e=>hk e.1)
  subst hr
  ·refine⟨.tup [.agg [ai x.k,ai x.n,.sl (vs.map .val) x.sub.length .no],.sl (zG zC l.reverse) l.length .no],t6 hB v1,fun j=>hopen j (Dl.step ?_)⟩
   have hx1:=yAR (G0:=G0) (p0:=p0) (q0:=q0) j v3 hl hlen h8
   refine nO (Q:=_) wD mixed 3000 (.run (cP (cP (rF (xE (xE (xE (vI f161)))))))) [] _ _ _ _ _ _ _ _ (yAJ j ls x _ vs o) (yF.cons (lE (by simpa using hk)) yF.nil) ?_
   simp only[KQ,zEZ,vE,B1,if_true]
   exact hx1
theorem zXR{p0:Tm}{r:Tm×zR}(h:zXP p0=some r):CT prog 161 [] [yV p0] (.tup [yV r.1,.sl (zG zC r.2) r.2.length .no]) [] 0:=by
 refine⟨?_,⟨⟨trivial,trivial,⟨trivial,dT _⟩,trivial⟩,trivial⟩,(fun _ h=>nomatch h),⟨⟨trivial,trivial,dT _,trivial⟩,dT _,trivial⟩,(fun _ h=>nomatch h)⟩
 intro G0 W cargs hB hR hv
 cases hc:cargs.toList with
 |nil=>rw[hc]at hv;simp only[VL]at hv
 |cons u us=>
  rw[hc]at hv
  simp only[VL]at hv
  obtain⟨hu,hus⟩:=hv
  have hus':us=[]:=by
   have:=VL.length _ _ hus
   exact List.length_eq_zero_iff.1 this
  subst hus'
  simp only[yV,V]at hu
  obtain⟨ws,rfl,hws⟩:=hu
  obtain⟨q0,rfl⟩:=zMy hws
  have hBK:lR (Q3 G0) G0:=⟨hB.ρ,hB.τ,hB.LF,rfl⟩
  have h0:=VL.back hB hR hws
  obtain⟨res,hgood,hdl⟩:=zFe hBK h0 _ p0 [] r (Nat.le_refl _) h (by simp) q0 [] h0 (by simp[zG,sN,VL]) rfl
  have hv2:VL G0 W [.agg (lt3 p0 q0)] cargs.toList:=by
   rw[hc]
   simp only[VL,V,and_true]
   exact⟨sv p0 q0,rfl,VL.lits (sv p0 q0)⟩
  have hb:=zOT (na:=(Q3 G0)) (res:=res) (H1:=[]) (nst:=0) rfl func161 (by kernel_rfl) (O2 (na:=(Q3 G0)) (m:=.run (vI f161)) (fs:=[]) wD mixed (fun i=>spE i p0.k p0.n q0) (yF.cons (rK trivial) (yF.cons (rK trivial) yF.nil)) fun i=>hdl i) hBK hR hv2
  refine hb.mono ?_
  rintro e W' ⟨u,G',s',rfl,hE,hR',hu,h1,h2⟩
  exact⟨u,G',s',rfl,hE,hR',hgood W G' W' hE hR'.below u hu,h1,h2⟩
def Q5(_qq:Nat)(p0:Tm):Option (Tm×zR):=zXP p0
theorem zFd{qq:Nat}{p0:Tm}{r:Tm×zR}(h:Q5 qq p0=some r):CT prog 161 [] [yV p0] (.tup [yV r.1,.sl (zG zC r.2) r.2.length .no]) [] 0:=zXR h
def e45(d:Nat)(b c:Int)(a:zR):Option Tm:=
 some (Tm.mk b c a)
theorem c45{d b c a r}(h:e45 d b c a=some r):Ct 45 [] [ai b,ai c,zH zC a .no] (yV r) [] 0:=⟨by
 unfold e45 at h
 cases h
 exact tF ⟨func45,rfl⟩ 1 [] (oD (dT a) o0),⟨tv,tv,⟨tv,dT _⟩,tv⟩,zA,⟨tv,tv,dT _,tv⟩,zA⟩
def e23(c:Nat)(a b:Tm):Option Tm:=
 e45 c 5 0 [a,b]>>=fun r1=>
 some r1
theorem c23{c a b r}(h:e23 c a b=some r):Ct 23 [] [yV a,yV b] (yV r) [] 0:=⟨by
 unfold e23 at h
 obtain⟨r1,h2,h⟩:=zB h
 obtain rfl:=sj h
 exact tF ⟨func23,rfl⟩ 1 [] (oD (dT r1.sub)<|oC 0 [] (c45 h2)<|oS 2 (wC wL [a,b]) o0),⟨⟨tv,tv,⟨tv,dT _⟩,tv⟩,⟨tv,tv,⟨tv,dT _⟩,tv⟩,tv⟩,zA,⟨tv,tv,dT _,tv⟩,zA⟩
def eT:Nat->zR->Int->Int->Int->zR->Option Tm
 |0,_,_,_,_,_=>none
 |e+1,d,f,b,c,a=>
 if decide (f<(d.length:Int))then
 zP d f>>=fun x2=>
 e23 e (Tm.mk b c a) x2>>=fun r4=>
 eT e d (yN (f+1)) r4.k r4.n r4.sub
 else
 some (Tm.mk b c a)
def e21(e:Nat)(g:Tm)(d:zR):Option Tm:=
 eT e d 0 g.k g.n g.sub
theorem zTB:∀e:Nat,(∀ {d f b c a r},eT e d f b c a=some r->(∀j,dL 0 (pt 949 f21) (sp j 18 0 [(2,.mp 0 0),(4,.mp 1 0),(7,zH zC d .no),(8,ai (d.length:Int)),(9,ai f)]) (⟨[(0,.cells [ai b,ai c,zH zC a .no]),(1,.cells [ai 0,ai 0,zH zC ([]:zR) .nl])],2,[],0,[]⟩) (fQ 0 (nQ 0 f21 (yV r) [] 0) [.blk 0,.seq (pt 15 f21)]))):=by
 intro e
 induction e with
 |zero=>
  exact fun h=>nn h
 |succ e ih=>
  intro d f b c a r h
  rw[eT]at h
  obtain⟨h1,h⟩|⟨h1,h⟩:=zK h
  obtain⟨x2,h3,h⟩:=zB h
  obtain⟨r4,h5,h⟩:=zB h
  exact fun j=>lH 2 [] [0,1] [] [2,4,7,8,9] (oD (dT d)<|oD (dT ([]:zR))<|oD (dT r4.sub)<|oC 4 [] (c23 h5)<|oA 0 (xH (o:=.no) h3)<|oB 0 h1 o0) (ih h)
  cases h
  exact fun j=>lF 2 [] (oD (dT a)<|oB 0 h1 o0)
theorem c21{e g d r}(h:e21 e g d=some r):Ct 21 [] [yV g,zH zC d .no] (yV r) [] 0:=⟨by
 unfold e21 at h
 exact tH ⟨func21,rfl⟩ 1 [] [0,1] [] [2,4,7,8,9] (oD (dT d)<|oD (dT ([]:zR))<|oD (dT g.sub) o0) (zTB _ h),⟨⟨tv,tv,⟨tv,dT _⟩,tv⟩,⟨tv,dT _⟩,tv⟩,zA,⟨tv,tv,dT _,tv⟩,zA⟩
def e65(b:Nat)(a:Tm):Option Tm:=
 fV b a>>=fun r1=>
 if r1 then
 zFf b a>>=fun r4=>
 some r4
 else
 some (Tm.mk 0 0 [])
theorem q65:Qf 65 f65:=⟨func65,rfl⟩
theorem c65{b a r}(h:e65 b a=some r):Ct 65 [] [yV a] (yV r) [] 0:=⟨by
 unfold e65 at h
 obtain⟨r1,h2,h⟩:=zB h
 obtain⟨h3,h⟩|⟨h3,h⟩:=zK h
 obtain⟨r4,h5,h⟩:=zB h
 obtain rfl:=sj h
 exact tF q65 1 [] (oD (dT r4.sub)<|oC 2 [] (yAI h5)<|oK 1 [] h3 (qW h2) o0)
 obtain rfl:=sj h
 exact tF q65 2 [] (oD (dT ([]:zR))<|oK 1 [] h3 (qW h2) o0),⟨⟨tv,tv,⟨tv,dT _⟩,tv⟩,tv⟩,zA,⟨tv,tv,dT _,tv⟩,zA⟩
theorem vW(t:Tm):Tm.mk t.k t.n t.sub=t:=by cases t;rfl
theorem Q6{α:Type}{l:List α}{v:Nat}{x:α}{r:List α}(h:l.drop v=x::r):l.take (v+1)=l.take v++[x]:=by
 have:l[v]? = some x:=by
  have:=congrArg (fun z=>z[0]?) h
  simpa using this
 rw[List.take_add_one,this];rfl
mutual
theorem t8:∀(t:Tm),xC t=true->zF (fun q=>zFf q t) t
 | .mk k n l,hg=>by
  refine zF.succ ?_
  simp only[zFf]
  have hh:=wW hg
  exact Q7 l (.mk k n l) 0 [] rfl hh.2 (by have:=(kA hh.1).2.2.2.2;exact this) rfl
theorem Q7:∀(l:List Tm) (p:Tm) (v:Nat) (acc:List Tm),p.sub.drop v=l->wM l=true->p.sub.length≤2->acc=p.sub.take v->zF (fun q=>kB q p (v:Int) acc) p
 | [],p,v,acc,hd,hg,hl,ha=>by
  refine zF.succ ?_
  simp only[kB]
  refine zF.ifF (yO hd) (zF.ret.eq ?_)
  have:p.sub.length≤v:=List.drop_eq_nil_iff.1 hd
  rw[ha,List.take_of_length_le this,vW]
 |t::l,p,v,acc,hd,hg,hl,ha=>by
  have hlt:=yT hd
  have hc:=xY hg
  refine zF.succ ?_
  simp only[kB]
  refine zF.ifT (yL hd) (zF.pure (yC hd) ((t8 t hc.1).bind (zF.pure (yU (by rw[ha];simp<;>omega)) ?_)))
  rw[yB v (by omega)]
  exact Q7 l p (v+1) _ (zV hd) hc.2 hl (by rw[ha,Q6 hd])
end
def iE(t:Tm):Tm:=if zI t=true then t else .mk 0 0 []
theorem gP(t:Tm)(ho:t.Ok):zF (fun q=>e65 q t) (iE t):=by
 simp only[e65]
 refine(xS t ho).bind ?_
 unfold iE
 by_cases h:zI t=true
 ·rw[if_pos h];exact zF.ifT h ((t8 t (zM h).2.2).bind zF.ret)
 ·rw[if_neg h];exact zF.ifF (by simpa using h) zF.ret
def zX:Tm->Tm
 | .mk k n [a,b]=>if k=5 then zX a else .mk k n [a,b]
 |x=>x
def yX:Tm->List Tm
 | .mk k _ [a,b]=>if k=5 then yX a++[b]else []
 |_=>[]
theorem zMv{l:List Tm}(h:l.length=2):∃a b,l=[a,b]:=by
 rcases l with _|⟨a,_|⟨b,_|⟨c,l⟩⟩⟩<;>simp at h
 exact⟨a,b,rfl⟩
theorem kC(n:Int)(a b:Tm):zX (.mk 5 n [a,b])=zX a:=by rw[zX];simp
theorem qO(n:Int)(a b:Tm):yX (.mk 5 n [a,b])=yX a++[b]:=by rw[yX];simp
theorem rL{t:Tm}(h:t.k≠5):zX t=t:=by
 unfold zX
 split
 ·exact if_neg h
 ·rfl
theorem tO{t:Tm}(h:t.k≠5):yX t=[]:=by
 unfold yX
 split
 ·exact if_neg h
 ·rfl
theorem bH{P:Tm->Prop}(h0:∀t,xC t=true->t.k≠5->P t)(h1:∀n a b,xC (.mk 5 n [a,b])=true->xC a=true->xC b=true->P a->P (.mk 5 n [a,b])):∀t:Tm,xC t=true->P t:=by
 intro t
 induction hn:t.nodes using Nat.strongRecOn generalizing t with
 |ind m ih=>
  intro hg
  by_cases h:t.k=5
  ·obtain⟨k,n,l⟩:=t
   have hh:=wW hg
   have hs:=uO hh.1
   simp only[Tm.k]at h
   subst h
   obtain⟨a,b,rfl⟩:=zMv (hs.2.2.2.2.2.1 (.inr (.inr rfl))).1
   have hc:=xY hh.2
   have hc2:=xY hc.2
   refine h1 n a b hg hc.1 hc2.1 (ih a.nodes ?_ a rfl hc.1)
   rw[Tm.nodes,yM]at hn;omega
  ·exact h0 t hg h
theorem zMu(p0:Tm):∀t:Tm,xC t=true->∀l:List Tm,l.length+t.nodes≤8192->qH p0 t l=some (zX t,yX t++l.reverse):=by
 refine bH ?_ ?_
 ·intro t hg hk l hl
  rw[rL hk,tO hk]
  obtain⟨k,n,ls⟩:=t
  replace hk:¬k=5:=hk
  rcases ls with _|⟨a,_|⟨b,_|⟨c,ls⟩⟩⟩<;>unfold qH<;>simp[hk]
 ·intro n a b hg ha hb ih l hl
  rw[Tm.nodes,yM,yM,yM]at hl
  rw[kC,qO]
  unfold qH
  rw[zOZ (show ((5:Int)==5)=true from rfl),zLA (by simp<;>omega),yU (by simp<;>omega)]
  show qH p0 a (l++[b])=_
  rw[ih (l++[b]) (by simp<;>omega)]
  simp
theorem lI(t:Tm)(hs:zI t=true):zF (fun q=>Q5 q t) (zX t,yX t):=by
 refine zF.mk fun q=>?_
 have h:=zM hs
 show qH t t []=_
 rw[zMu t t h.2.2 [] (by simpa using h.1)];simp
theorem gQ:∀t:Tm,xC t=true->xC (zX t)=true∧(zX t).k≠5∧(zX t).nodes≤t.nodes∧(zX t).high≤t.high∧∀x∈yX t,xC x=true∧x.nodes<t.nodes∧x.high<t.high:=by
 refine bH ?_ ?_
 ·intro t hg hk
  rw[rL hk,tO hk]
  exact⟨hg,hk,Nat.le_refl _,Nat.le_refl _,fun x hx=>by cases hx⟩
 ·intro n a b hg ha hb ih
  rw[kC,qO]
  simp only[Tm.nodes,yM,Tm.high,vB]
  refine⟨ih.1,ih.2.1,by omega,by omega,fun x hx=>?_⟩
  rcases List.mem_append.1 hx with hx|hx
  ·have:=ih.2.2.2.2 x hx;exact⟨this.1,by omega,by omega⟩
  ·simp at hx;subst hx;exact⟨hb,by omega,by omega⟩
theorem oR{t:Tm}(h1:t.nodes≤8192)(h2:t.high≤128)(h3:xC t=true):zI t=true:=by
 unfold zI;simp[h1,h2,h3]
theorem xT{t x:Tm}(h:zI t=true)(hx:x∈yX t):zI x=true:=by
 have hs:=zM h
 have:=(gQ t hs.2.2).2.2.2.2 x hx
 exact oR (by omega) (by omega) this.1
theorem uP{t:Tm}(h:zI t=true):zI (zX t)=true:=by
 have hs:=zM h
 have:=gQ t hs.2.2
 exact oR (by omega) (by omega) this.1
theorem sX:∀t:Tm,xC t=true->(yX t).length<t.nodes:=by
 refine bH ?_ ?_
 ·intro t hg hk
  rw[tO hk];have:=wZ t;simp;omega
 ·intro n a b hg ha hb ih
  rw[qO,Tm.nodes,yM,yM,yM];simp;omega
def uI(f:Tm):List Tm->Tm
 | []=>f
 |a::l=>uI (.mk 5 0 [f,a]) l
theorem iF(f a:Tm):zF (fun q=>e23 q f a) (.mk 5 0 [f,a]):=zF.mk fun _=>rfl
theorem s4:∀(l p:List Tm) (v:Nat) (f:Tm),p.drop v=l->p.length<9223372036854775808->zF (fun q=>eT q p (v:Int) f.k f.n f.sub) (uI f l)
 | [],p,v,f,hd,hl=>by
  refine zF.succ ?_
  simp only[eT]
  exact zF.ifF (yO hd) (zF.ret.eq (by rw[vW,uI]))
 |a::l,p,v,f,hd,hl=>by
  have hlt:=yT hd
  refine zF.succ ?_
  simp only[eT]
  rw[vW]
  refine zF.ifT (yL hd) (zF.pure (yC hd) ((iF f a).bind ?_))
  rw[yB v (by omega),uI]
  exact s4 l p (v+1) (.mk 5 0 [f,a]) (zV hd) hl
theorem sQ(f:Tm)(l:List Tm)(h:l.length<9223372036854775808):zF (fun q=>e21 q f l) (uI f l):=by
 simp only[e21]
 exact s4 l l 0 f rfl h
theorem rM:∀(l:List Tm) (f:Tm),f.Ok->(∀x∈l,x.Ok)->(uI f l).Ok
 | [],f,hf,_=>by rw[uI];exact hf
 |a::l,f,hf,hl=>by
  rw[uI]
  refine rM l _ ?_ fun x hx=>hl x (by simp[hx])
  rw[Tm.Ok,nF,nF,nF]
  exact⟨by simp,hf,hl a (by simp),trivial⟩
def zJh(b:Nat)(a:Int):Option Bool:=
 if decide (a≥0)then
 some (decide (a≤1048576))
 else
 some false
theorem zXS:Qf 199 f199:=⟨func199,rfl⟩
theorem zPj{b a r}(h:zJh b a=some r):Ct 199 [] [ai a] (ab r) [] 0:=⟨by
 unfold zJh at h
 obtain⟨h1,h⟩|⟨h1,h⟩:=zK h
 cases h
 exact tF zXS 1 [] (oB 0 h1 o0)
 cases h
 exact tF zXS 0 [] (oB 0 h1 o0),⟨tv,tv⟩,zA,tv,zA⟩
def bI(d:Nat)(a b c:Int):Option Int:=
 if decide (a<b)then
 some a
 else
 some (yN (a+c))
theorem zDp:Qf 201 f201:=⟨func201,rfl⟩
theorem zMt{d a b c r}(h:bI d a b c=some r):Ct 201 [.cells [ai b],.cells [ai c]] [ai a,.mp 0 0,.mp 1 0] (ai r) [.cells [ai b],.cells [ai c]] 0:=⟨by
 unfold bI at h
 obtain⟨h1,h⟩|⟨h1,h⟩:=zK h
 obtain rfl:=sj h
 exact tF zDp 0 [0,1] (oB 1 h1 o0)
 obtain rfl:=sj h
 exact tF zDp 2 [0,1] (oB 1 h1 o0),⟨tv,(lz rfl),(lz rfl),tv⟩,(zD ⟨tv,tv⟩ (zD ⟨tv,tv⟩ zA)),tv,(zD ⟨tv,tv⟩ (zD ⟨tv,tv⟩ zA))⟩
def e51(b:Nat)(a:Int):Option Tm:=
 e45 b 1 a []>>=fun r1=>
 some r1
theorem c51{b a r}(h:e51 b a=some r):Ct 51 [] [ai a] (yV r) [] 0:=⟨by
 unfold e51 at h
 obtain⟨r1,h2,h⟩:=zB h
 obtain rfl:=sj h
 exact tF ⟨func51,rfl⟩ 1 [] (oD (dT r1.sub)<|oC 0 [] (c45 h2) o0),⟨tv,tv⟩,zA,⟨tv,tv,dT _,tv⟩,zA⟩
mutual
def rN:Nat->Tm->Int->Int->Int->Option Tm
 |0,_,_,_,_=>none
 |g+1,a,c,d,e=>
 if a.k==1 then
 if decide (a.n≥c)then
 bI g (yN (a.n-c)) d e>>=fun r3=>
 e51 g (yN (r3+c))>>=fun r5=>
 some r5
 else
 e51 g a.n>>=fun r7=>
 some r7
 else
 vT g a c d e 0 []
def vT:Nat->Tm->Int->Int->Int->Int->zR->Option Tm
 |0,_,_,_,_,_,_=>none
 |g+1,a,c,d,e,f,b=>
 if decide (f<(a.sub.length:Int))then
 zP a.sub f>>=fun x10=>
 if f==1 then
 if a.k != 5 then
 rN g x10 (yN (c+1)) d e>>=fun r14=>
 xB 40 b [r14]>>=fun l16=>
 vT g a c d e (yN (f+1)) l16
 else
 rN g x10 c d e>>=fun r18=>
 xB 40 b [r18]>>=fun l20=>
 vT g a c d e (yN (f+1)) l20
 else
 rN g x10 c d e>>=fun r22=>
 xB 40 b [r22]>>=fun l24=>
 vT g a c d e (yN (f+1)) l24
 else
 some (Tm.mk a.k a.n b)
end
abbrev bJ (a:Tm) (c d e:Int) (r:Tm) (C:Cf):Prop:=C 200 [.cells [ai d],.cells [ai e]] [yV a,ai c,.clo 201 [] [.mp 0 0,.mp 1 0]] (yV r) [.cells [ai d],.cells [ai e]] 0
theorem Q8:Qf 200 f200:=⟨func200,rfl⟩
theorem Q9{a c d e r}(h:bJ a c d e r Ci):bJ a c d e r Ct:=⟨h,⟨⟨tv,tv,⟨tv,dT _⟩,tv⟩,tv,⟨tv,⟨(lz rfl),(lz rfl),tv⟩⟩,tv⟩,(zD ⟨tv,tv⟩ (zD ⟨tv,tv⟩ zA)),⟨tv,tv,dT _,tv⟩,(zD ⟨tv,tv⟩ (zD ⟨tv,tv⟩ zA))⟩
theorem fG:∀g:Nat,(∀ {a c d e r},rN g a c d e=some r->bJ a c d e r Ct)∧(∀ {a c d e f b r},vT g a c d e f b=some r->(∀j,dL 2 (pt 16309 f200) (sp j 64 0 [(1,ai c),(2,.clo 201 [] [.mp 0 0,.mp 1 0]),(3,.mp 2 0),(6,.mp 3 0),(7,.mp 4 0),(36,zH zC a.sub .no),(37,ai (a.sub.length:Int)),(38,ai f)]) (⟨[(0,.cells [ai d]),(1,.cells [ai e]),(2,.cells [ai a.k,ai a.n,zH zC a.sub .no]),(3,.cells [ai 0,ai 0,zH zC ([]:zR) .nl]),(4,.cells [ai a.k,ai a.n,zH zC b (.st 0 3)])],5,[0],1,[]⟩) (fQ 2 (nQ 2 f200 (yV r) [.cells [ai d],.cells [ai e]] 0) [.blk 0,.seq (pt 255 f200)]))):=by
 intro g
 induction g with
 |zero=>
  exact⟨fun h=>nn h,fun h=>nn h⟩
 |succ g ih=>
  obtain⟨B8,pM⟩:=ih
  refine⟨?_,?_⟩
  intro a c d e r h
  rw[rN]at h
  obtain⟨h1,h⟩|⟨h1,h⟩:=zK h
  have k:=oB 1 h1 o0
  obtain⟨h2,h⟩|⟨h2,h⟩:=zK h
  obtain⟨r3,h4,h⟩:=zB h
  obtain⟨r5,h6,h⟩:=zB h
  obtain rfl:=sj h
  exact Q9 (tF Q8 1 [0,1] (oD (dT r5.sub)<|oC 1 [] (c51 h6)<|oC 2 [0,1] (zMt h4)<|oB 1 h2 k))
  obtain⟨r7,h8,h⟩:=zB h
  obtain rfl:=sj h
  exact Q9 (tF Q8 1 [0,1] (oD (dT r7.sub)<|oC 1 [] (c51 h8)<|oB 1 h2 k))
  exact Q9 (tH Q8 5 [(some 4,2,3)] [0,1,2,3,4] [0] [1,2,3,6,7,36,37,38] (oD (dT a.sub)<|oD (dT ([]:zR))<|oD (dT ([]:zR))<|oD (dT a.sub)<|oB 1 h1 o0) (pM h))
  intro a c d e f b r h
  rw[vT]at h
  have z {os ob} (k:Oz os ob):=oD (dT ([]:zR))<|oD (dT a.sub)<|k
  obtain⟨h9,h⟩|⟨h9,h⟩:=zK h
  obtain⟨x10,h11,h⟩:=zB h
  have k:=oA 0 (xH (o:=.no) h11)<|oB 0 h9 o0
  obtain⟨h12,h⟩|⟨h12,h⟩:=zK h
  have k:=oB 2 h12 k
  obtain⟨h13,h⟩|⟨h13,h⟩:=zK h
  obtain⟨r14,h15,h⟩:=zB h
  obtain⟨l16,h17,h⟩:=zB h
  exact fun j=>lH 2 [] [0,1,2,3,4] [1] [1,2,3,6,7,36,37,38] (oD (dT a.sub)<|oD (dT l16)<|z<|oP 0 (vF h17 (by simp))<|oS 0 (wC wL [r14])<|oC 1 [0,1] (B8 h15)<|cD 1<|oB 1 h13 k) (pM h)
  obtain⟨r18,h19,h⟩:=zB h
  obtain⟨l20,h21,h⟩:=zB h
  exact fun j=>lH 2 [] [0,1,2,3,4] [1] [1,2,3,6,7,36,37,38] (oD (dT a.sub)<|oD (dT l20)<|z<|oP 0 (vF h21 (by simp))<|oS 0 (wC wL [r18])<|oC 1 [0,1] (B8 h19)<|cD 0<|oB 1 h13 k) (pM h)
  obtain⟨r22,h23,h⟩:=zB h
  obtain⟨l24,h25,h⟩:=zB h
  exact fun j=>lH 2 [] [0,1,2,3,4] [1] [1,2,3,6,7,36,37,38] (oD (dT a.sub)<|oD (dT l24)<|z<|oP 0 (vF h25 (by simp))<|oS 0 (wC wL [r22])<|oC 1 [0,1] (B8 h23)<|cD 0<|oB 2 h12 k) (pM h)
  obtain rfl:=sj h
  exact fun j=>lF 2 [0,1] (oD (dT b)<|oB 0 h9 o0)
theorem zMr{g a c d e r}(h:rN g a c d e=some r):bJ a c d e r Ct:=(fG _).1 h
def zJg(a:Nat)(b:Tm)(c d:Int):Option (Tm×Int):=
 fV a b>>=fun r1=>
 if r1 then
 zJh a c>>=fun r4=>
 if r4 then
 zJh a d>>=fun r7=>
 if r7 then
 rN a b 0 d c>>=fun r10=>
 fV a r10>>=fun r12=>
 if r12 then
 some (r10,0)
 else
 some ((Tm.mk 0 0 []),2)
 else
 some ((Tm.mk 0 0 []),5)
 else
 some ((Tm.mk 0 0 []),5)
 else
 some ((Tm.mk 0 0 []),5)
theorem zMq:Qf 152 f152:=⟨func152,rfl⟩
theorem zXT{a b c d r}(h:zJg a b c d=some r):Ct 152 [] [yV b,ai c,ai d] (.tup [yV r.1,ai r.2]) [] 0:=⟨by
 unfold zJg at h
 obtain⟨r1,h2,h⟩:=zB h
 obtain⟨h3,h⟩|⟨h3,h⟩:=zK h
 obtain⟨r4,h5,h⟩:=zB h
 have k:=oK 1 [] h3 (qW h2) o0
 obtain⟨h6,h⟩|⟨h6,h⟩:=zK h
 obtain⟨r7,h8,h⟩:=zB h
 have k:=oK 2 [] h6 (zPj h5) k
 obtain⟨h9,h⟩|⟨h9,h⟩:=zK h
 obtain⟨r10,h11,h⟩:=zB h
 obtain⟨r12,h13,h⟩:=zB h
 have k:=oC 2 [2,1] (zMr h11)<|oK 2 [] h9 (zPj h8) k
 obtain⟨h14,h⟩|⟨h14,h⟩:=zK h
 cases h
 exact tF zMq 3 [] (oD (dT r10.sub)<|oK 2 [] h14 (qW h13) k)
 cases h
 exact tF zMq 2 [] (oD (dT ([]:zR))<|oK 2 [] h14 (qW h13) k)
 cases h
 exact tF zMq 2 [] (oD (dT ([]:zR))<|oK 2 [] h9 (zPj h8) k)
 cases h
 exact tF zMq 2 [] (oD (dT ([]:zR))<|oK 2 [] h6 (zPj h5) k)
 cases h
 exact tF zMq 2 [] (oD (dT ([]:zR))<|oK 1 [] h3 (qW h2) o0),⟨⟨tv,tv,⟨tv,dT _⟩,tv⟩,tv,tv,tv⟩,zA,⟨⟨tv,tv,dT _,tv⟩,tv,tv⟩,zA⟩
def e89(b:Nat)(a:Int):Option Tm:=
 e45 b 2 a []>>=fun r1=>
 some r1
theorem c89{b a r}(h:e89 b a=some r):Ct 89 [] [ai a] (yV r) [] 0:=⟨by
 unfold e89 at h
 obtain⟨r1,h2,h⟩:=zB h
 obtain rfl:=sj h
 exact tF ⟨func89,rfl⟩ 1 [] (oD (dT r1.sub)<|oC 0 [] (c45 h2) o0),⟨tv,tv⟩,zA,⟨tv,tv,dT _,tv⟩,zA⟩
def e90(c:Nat)(a:Tm)(b:Int):Option (Tm×Int):=
 zJg c a b 0>>=fun r1=>
 some (r1.1,r1.2)
theorem c90{c a b r}(h:e90 c a b=some r):Ct 90 [] [yV a,ai b] (.tup [yV r.1,ai r.2]) [] 0:=⟨by
 unfold e90 at h
 obtain⟨r1,h2,h⟩:=zB h
 cases h
 exact tF ⟨func90,rfl⟩ 3 [] (oD (dT r1.1.sub)<|oC 1 [] (zXT h2) o0),⟨⟨tv,tv,⟨tv,dT _⟩,tv⟩,tv,tv⟩,zA,⟨⟨tv,tv,dT _,tv⟩,tv,tv⟩,zA⟩
def tV(k:Int)(i:Nat)(b:Int):Int:=if i=1∧k≠5 then b+1 else b
mutual
def I8:Tm->Int->Int->Int->Tm
 | .mk kd n l,b,c,k=>if kd=1 then .mk 1 (if b≤n then(if n-b<c then n-b else n-b+k)+b else n) []else .mk kd n (lfL l kd 0 b c k)
def lfL:List Tm->Int->Nat->Int->Int->Int->List Tm
 | [],_,_,_,_,_=>[]
 |t::l,kd,i,b,c,k=>I8 t (tV kd i b) c k::lfL l kd (i+1) b c k
end
theorem zHh:∀(l:List Tm) (kd:Int) (i:Nat) (b c k:Int),(lfL l kd i b c k).length=l.length
 | [],_,_,_,_,_=>by rw[lfL]
 |t::l,kd,i,b,c,k=>by rw[lfL];exact congrArg (· + 1) (zHh l kd (i+1) b c k)
theorem B9(n:Int):zF (fun q=>e51 q n) (.mk 1 n []):=zF.mk fun _=>rfl
theorem zAG(n:Int):zF (fun q=>e89 q n) (.mk 2 n []):=zF.mk fun _=>rfl
mutual
theorem I9:∀(t:Tm) (b c k:Int),xC t=true->0≤b->b+t.high≤1152921504606846976->0≤c->c≤1048576->0≤k->k≤1048576->zF (fun q=>rN q t b c k) (I8 t b c k)
 | .mk kd n l,b,c,k,hg,hb,hb2,hc,hc2,hk,hk2=>by
  refine zF.succ ?_
  simp only[rN]
  have hh:=wW hg
  have hn:=kA hh.1
  rw[Tm.high]at hb2
  rw[I8]
  by_cases h1:kd=1
  ·rw[if_pos h1]
   refine zF.ifT (by simpa[Tm.k]using h1) ?_
   simp only[Tm.n]
   by_cases h2:n≥b
   ·refine zF.ifT (by simpa using h2) ?_
    rw[if_pos h2,zW (x:=n-b) (by omega) (by omega)]
    refine zF.bind (a:=if n-b<c then n-b else n-b+k) ?_ ?_
    ·refine zF.mk fun q=>?_
     unfold bI
     by_cases h3:n-b<c
     ·simp[h3]
     ·simp[h3];exact zW (by omega) (by omega)
    ·rw[zW (by split<;>omega) (by split<;>omega)]
     exact(B9 _).bind zF.ret
   ·refine zF.ifF (by simpa using h2) ?_
    rw[if_neg h2]
    exact(B9 _).bind zF.ret
  ·rw[if_neg h1]
   refine zF.ifF (by simpa[Tm.k]using h1) ?_
   exact zDo l (.mk kd n l) 0 b c k [] rfl hh.2 (by have:=hn.2.2.2.2;exact this) hb (by omega) hc hc2 hk hk2 (by simp)
theorem zDo:∀(l:List Tm) (p:Tm) (v:Nat) (b c k:Int) (acc:List Tm),p.sub.drop v=l->wM l=true->p.sub.length≤2->0≤b->b+1+vB l≤1152921504606846976->0≤c->c≤1048576->0≤k->k≤1048576->acc.length≤v ->
  zF (fun q=>vT q p b c k (v:Int) acc) (.mk p.k p.n (acc++lfL l p.k v b c k))
 | [],p,v,b,c,k,acc,hd,hg,hl,hb,hb2,hc,hc2,hk,hk2,ha=>by
  refine zF.succ ?_
  simp only[vT]
  exact zF.ifF (yO hd) (zF.ret.eq (by rw[lfL];simp))
 |t::l,p,v,b,c,k,acc,hd,hg,hl,hb,hb2,hc,hc2,hk,hk2,ha=>by
  have hlt:=yT hd
  have hgc:=xY hg
  rw[vB]at hb2
  refine zF.succ ?_
  simp only[vT]
  refine zF.ifT (yL hd) (zF.pure (yC hd) ?_)
  have next:∀(x:Tm),zF (fun q=>xB 40 acc [x]>>=fun l16=>vT q p b c k (yN ((v:Int)+1)) l16) (.mk p.k p.n (acc++x::lfL l p.k (v+1) b c k)):=fun x=>by
   refine zF.pure (yU (by simp<;>omega)) ?_
   rw[yB v (by omega)]
   refine(zDo l p (v+1) b c k (acc++[x]) (zV hd) hgc.2 hl hb (by omega) hc hc2 hk hk2 (by simp<;>omega)).eq (by simp)
  rw[lfL]
  by_cases h1:v=1
  ·subst h1
   refine zF.ifT rfl ?_
   by_cases h5:p.k=5
   ·refine zF.ifF (by simp[h5]) ?_
    have e:tV p.k 1 b=b:=by unfold tV;simp[h5]
    rw[e]
    exact(I9 t b c k hgc.1 hb (by omega) hc hc2 hk hk2).bind (next _)
   ·refine zF.ifT (by simp[h5]) ?_
    have e:tV p.k 1 b=b+1:=by unfold tV;simp[h5]
    rw[e,zW (x:=b+1) (by omega) (by omega)]
    exact(I9 t (b+1) c k hgc.1 (by omega) (by omega) hc hc2 hk hk2).bind (next _)
  ·refine zF.ifF (by simp<;>omega) ?_
   have e:tV p.k v b=b:=by unfold tV;simp[h1]
   rw[e]
   exact(I9 t b c k hgc.1 hb (by omega) hc hc2 hk hk2).bind (next _)
end
mutual
theorem zFc:∀(t:Tm) (b c k:Int),t.Ok->(I8 t b c k).Ok
 | .mk kd n l,b,c,k,h=>by
  rw[I8]
  split
  ·rw[Tm.Ok,nF];simp
  ·rw[Tm.Ok]at h ⊢
   rw[zHh]
   exact⟨h.1,zMp l kd 0 b c k h.2⟩
theorem zMp:∀(l:List Tm) (kd:Int) (i:Nat) (b c k:Int),nF l->nF (lfL l kd i b c k)
 | [],_,_,_,_,_,_=>by rw[lfL,nF];trivial
 |t::l,kd,i,b,c,k,h=>by
  rw[nF]at h
  rw[lfL,nF]
  exact⟨zFc t _ c k h.1,zMp l kd (i+1) b c k h.2⟩
end
def fW(n:Int):Bool:=decide (0≤n)&&decide (n≤1048576)
theorem zHg(n:Int):zF (fun q=>zJh q n) (fW n):=by
 refine zF.mk fun q=>?_
 unfold zJh fW
 by_cases h:n≥0
 ·rw[zOZ (decide_eq_true h)];simp[show 0≤n from h]
 ·rw[zLA (decide_eq_false h)];simp[show ¬0≤n from h]
def zT:Tm:=.mk 0 0 []
def vX(t:Tm)(k c:Int):Tm×Int:=
 if zI t=true∧fW k=true∧fW c=true then(if zI (I8 t 0 c k)=true then(I8 t 0 c k,0)else(zT,2))else(zT,5)
theorem zHf(t:Tm)(k c:Int)(ho:t.Ok):zF (fun q=>zJg q t k c) (vX t k c):=by
 simp only[zJg]
 refine(xS t ho).bind ?_
 unfold vX
 by_cases h1:zI t=true
 ·refine zF.ifT h1 ((zHg k).bind ?_)
  by_cases h2:fW k=true
  ·refine zF.ifT h2 ((zHg c).bind ?_)
   by_cases h3:fW c=true
   ·rw[if_pos ⟨h1,h2,h3⟩]
    have hs:=zM h1
    have h2':=h2;have h3':=h3
    unfold fW at h2' h3'
    simp only[Bool.and_eq_true,decide_eq_true_eq]at h2' h3'
    refine zF.ifT h3 ((I9 t 0 c k hs.2.2 (by omega) (by omega) h3'.1 h3'.2 h2'.1 h2'.2).bind ((xS _ (zFc t 0 c k ho)).bind ?_))
    by_cases h4:zI (I8 t 0 c k)=true
    ·rw[if_pos h4,if_pos h4];exact zF.ret
    ·rw[if_neg h4,if_neg h4];exact zF.ret
   ·rw[if_neg (fun h=>h3 h.2.2)];exact zF.ifF (by simpa using h3) zF.ret
  ·rw[if_neg (fun h=>h2 h.2.1)];exact zF.ifF (by simpa using h2) zF.ret
 ·rw[if_neg (fun h=>h1 h.1)];exact zF.ifF (by simpa using h1) zF.ret
theorem iG(t:Tm)(k c:Int)(ho:t.Ok):(vX t k c).1.Ok:=by
 have hz:zT.Ok:=by unfold zT;rw[Tm.Ok,nF];simp
 unfold vX
 split
 ·split
  ·exact zFc t 0 c k ho
  ·exact hz
 ·exact hz
theorem zMo(t:Tm)(k:Int)(ho:t.Ok):zF (fun q=>e90 q t k) (vX t k 0):=by
 simp only[e90]
 exact(zHf t k 0 ho).bind zF.ret
def raT(a:Tm)(by' left:Int)(long:Bool):Tm×Int×Bool:=
 if left-X1 a 0<0 then(.mk 2 0 [],left-X1 a 0,true)
 else if (vX a by' 0).2≠0 then(.mk 2 0 [],left-X1 a 0,true)else((vX a by' 0).1,left-X1 a 0,long)
mutual
def fX(ls:List Tm):Tm->Int->Int->Bool->Tm×Int×Bool
 | .mk kd n l,b,left,long=>
  if long=true then(.mk 2 0 [],left,long)
  else if kd=1∧b≤n then
   (if h:(n-b).toNat<ls.length then raT (ls[(n-b).toNat]) b left long else(.mk 1 (n-ls.length) [],left,long))
  else
   let r:=bK ls l kd 0 b (left-1) (decide (left-1<0))
   (.mk kd n r.1,r.2.1,r.2.2)
def bK(ls:List Tm):List Tm->Int->Nat->Int->Int->Bool->List Tm×Int×Bool
 | [],_,_,_,left,long=>([],left,long)
 |t::l,kd,i,b,left,long=>
  let x:=fX ls t (tV kd i b) left long
  let r:=bK ls l kd (i+1) b x.2.1 x.2.2
  (x.1::r.1,r.2.1,r.2.2)
end
def oT(left:Int)(long:Bool):Prop:=-8193≤left∧left≤8192∧(long=false->0≤left)
theorem zMn{a:Tm}{by' left:Int}(h:oT left false):oT (raT a by' left false).2.1 (raT a by' left false).2.2:=by
 have:=zCQ a 0 (by omega) (by omega)
 have h0:=h.2.2 rfl
 have h1:=h.2.1
 unfold raT oT
 split
 ·exact⟨by simp only;omega,by simp only;omega,fun h=>by cases h⟩
 ·split
  ·exact⟨by simp only;omega,by simp only;omega,fun h=>by cases h⟩
  ·exact⟨by simp only;omega,by simp only;omega,fun _=>by simp only;omega⟩
def zAH(d:Nat)(b:Int)(c:Bool)(a:zR):Option Unit:=
 some ()
theorem zPi{d b c a r}(h:zAH d b c a=some r):Ct 47 [.cells [ai b,ab c,.val .nilFunc],.cells [zH zC a .no]] [.mp 0 0,.mp 1 0] (.clo 48 [] [.mp 1 0,.mp 2 0]) [.cells [ai b,ab c,.val .nilFunc],.cells [zH zC a .no],.cells [.mp 0 0]] 0:=⟨by
 unfold zAH at h
 cases h
 exact tF ⟨func47,rfl⟩ 0 [0,1,2] (oD (dT a) o0),⟨(lz rfl),(lz rfl),tv⟩,(zD ⟨tv,tv,tv,tv⟩ (zD ⟨⟨tv,dT _⟩,tv⟩ zA)),⟨tv,⟨(lz rfl),(lz rfl),tv⟩⟩,(zD ⟨tv,tv,tv,tv⟩ (zD ⟨dT _,tv⟩ (zD ⟨(lz rfl),tv⟩ zA)))⟩
def e49(c:Nat)(a:Tm)(b:Int):Option Int:=
 if a.k != 1 then
 some (-1)
 else
 if decide (a.n<b)then
 some (-1)
 else
 some (yN (a.n-b))
theorem q49:Qf 49 f49:=⟨func49,rfl⟩
theorem c49{c a b r}(h:e49 c a b=some r):Ct 49 [] [yV a,ai b] (ai r) [] 0:=⟨by
 unfold e49 at h
 obtain⟨h1,h⟩|⟨h1,h⟩:=zK h
 cases h
 exact tF q49 0 [] (oB 1 h1 o0)
 have k:=oB 1 h1 o0
 obtain⟨h2,h⟩|⟨h2,h⟩:=zK h
 cases h
 exact tF q49 0 [] (oB 1 h2 k)
 cases h
 exact tF q49 2 [] (oB 1 h2 k),⟨⟨tv,tv,⟨tv,dT _⟩,tv⟩,tv,tv⟩,zA,tv,zA⟩
def bL(c:Nat)(a:Int)(e:Bool)(b:zR)(d:Tm)(f:Int):Option (Tm×Int×Bool):=
 e85 c d>>=fun r1=>
 if decide ((yN (a-r1))<0)then
 e89 c 0>>=fun r4=>
 some (r4,(yN (a-r1)),true)
 else
 e90 c d f>>=fun r6=>
 if r6.2 != 0 then
 e89 c 0>>=fun r9=>
 some (r9,(yN (a-r1)),true)
 else
 some (r6.1,(yN (a-r1)),e)
theorem zAI:Qf 50 f50:=⟨func50,rfl⟩
theorem zPh{c a e b d f r}(h:bL c a e b d f=some r):Ct 50 [.cells [ai a,ab e,.clo 48 [] [.mp 1 0,.mp 2 0]],.cells [zH zC b .no],.cells [.mp 0 0]] [.mp 0 0,yV d,ai f] (yV r.1) [.cells [ai r.2.1,ab r.2.2,.clo 48 [] [.mp 1 0,.mp 2 0]],.cells [zH zC b .no],.cells [.mp 0 0]] 0:=⟨by
 unfold bL at h
 obtain⟨r1,h2,h⟩:=zB h
 have k:=oC 1 [] (c85 h2)<|cD 0 o0
 obtain⟨h3,h⟩|⟨h3,h⟩:=zK h
 obtain⟨r4,h5,h⟩:=zB h
 cases h
 exact tF zAI 1 [0,1,2] (oD (dT r4.sub)<|oD (dT b)<|oC 1 [] (c89 h5)<|oB 3 h3 k)
 obtain⟨r6,h7,h⟩:=zB h
 have k:=oC 1 [] (c90 h7)<|oB 3 h3 k
 obtain⟨h8,h⟩|⟨h8,h⟩:=zK h
 obtain⟨r9,h10,h⟩:=zB h
 cases h
 exact tF zAI 1 [0,1,2] (oD (dT r9.sub)<|oD (dT b)<|oC 1 [] (c89 h10)<|oB 3 h8 k)
 cases h
 exact tF zAI 2 [0,1,2] (oD (dT r6.1.sub)<|oD (dT b)<|oB 3 h8 k),⟨(lz rfl),⟨tv,tv,⟨tv,dT _⟩,tv⟩,tv,tv⟩,(zD ⟨tv,tv,⟨tv,⟨(lz rfl),(lz rfl),tv⟩⟩,tv⟩ (zD ⟨⟨tv,dT _⟩,tv⟩ (zD ⟨(lz rfl),tv⟩ zA))),⟨tv,tv,dT _,tv⟩,(zD ⟨tv,tv,⟨tv,⟨(lz rfl),(lz rfl),tv⟩⟩,tv⟩ (zD ⟨dT _,tv⟩ (zD ⟨(lz rfl),tv⟩ zA)))⟩
def kD(d:Nat)(e:Tm)(f:Int)(a:zR)(b:Int)(c:Bool):Option (Tm×Bool×Int×Bool):=
 e49 d e f>>=fun r1=>
 if decide (r1<0)then
 some ((Tm.mk 0 0 []),false,b,c)
 else
 if decide (r1<(a.length:Int))then
 zP a r1>>=fun x5=>
 bL d b c a x5 f>>=fun r7=>
 some (r7.1,true,r7.2.1,r7.2.2)
 else
 e51 d (yN (e.n-(a.length:Int)))>>=fun r9=>
 some (r9,true,b,c)
theorem zAJ:Qf 48 f48:=⟨func48,rfl⟩
theorem zPg{d e f a b c r}(h:kD d e f a b c=some r):Ct 48 [.cells [zH zC a .no],.cells [.mp 2 0],.cells [ai b,ab c,.clo 48 [] [.mp 0 0,.mp 1 0]]] [yV e,ai f,.mp 0 0,.mp 1 0] (.tup [yV r.1,ab r.2.1]) [.cells [zH zC a .no],.cells [.mp 2 0],.cells [ai r.2.2.1,ab r.2.2.2,.clo 48 [] [.mp 0 0,.mp 1 0]]] 0:=⟨by
 unfold kD at h
 obtain⟨r1,h2,h⟩:=zB h
 have k:=oC 1 [] (c49 h2) o0
 obtain⟨h3,h⟩|⟨h3,h⟩:=zK h
 cases h
 exact tF zAJ 1 [0,1,2] (oD (dT ([]:zR))<|oD (dT a)<|oB 0 h3 k)
 have k:=oB 0 h3 k
 obtain⟨h4,h⟩|⟨h4,h⟩:=zK h
 obtain⟨x5,h6,h⟩:=zB h
 obtain⟨r7,h8,h⟩:=zB h
 cases h
 exact tF zAJ 1 [0,1,2] (oD (dT r7.1.sub)<|oD (dT a)<|oC 1 [2,0,1] (zPh h8)<|oA 2 (xH (o:=.no) h6)<|oB 2 h4 k)
 obtain⟨r9,h10,h⟩:=zB h
 cases h
 exact tF zAJ 1 [0,1,2] (oD (dT r9.sub)<|oD (dT a)<|oC 4 [] (c51 h10)<|oB 2 h4 k),⟨⟨tv,tv,⟨tv,dT _⟩,tv⟩,tv,(lz rfl),(lz rfl),tv⟩,(zD ⟨⟨tv,dT _⟩,tv⟩ (zD ⟨(lz rfl),tv⟩ (zD ⟨tv,tv,⟨tv,⟨(lz rfl),(lz rfl),tv⟩⟩,tv⟩ zA))),⟨⟨tv,tv,dT _,tv⟩,tv,tv⟩,(zD ⟨dT _,tv⟩ (zD ⟨(lz rfl),tv⟩ (zD ⟨tv,tv,⟨tv,⟨(lz rfl),(lz rfl),tv⟩⟩,tv⟩ zA)))⟩
mutual
def pN:Nat->Int->Bool->zR->Tm->Int->Option (Tm×Int×Bool)
 |0,_,_,_,_,_=>none
 |m+1,q,p,e,a,f=>
 if p then
 e89 m 0>>=fun r2=>
 some (r2,q,p)
 else
 kD m a f e q p>>=fun r4=>
 if r4.2.1 then
 some (r4.1,r4.2.2.1,r4.2.2.2)
 else
 if decide ((yN (r4.2.2.1-1))<0)then
 vM m e a f 0 (yN (r4.2.2.1-1)) true []
 else
 vM m e a f 0 (yN (r4.2.2.1-1)) r4.2.2.2 []
def vM:Nat->zR->Tm->Int->Int->Int->Bool->zR->Option (Tm×Int×Bool)
 |0,_,_,_,_,_,_,_=>none
 |m+1,e,a,f,g,c,d,b=>
 if decide (g<(a.sub.length:Int))then
 zP a.sub g>>=fun x9=>
 if g==1 then
 if a.k != 5 then
 pN m c d e x9 (yN (f+1))>>=fun r13=>
 xB 40 b [r13.1]>>=fun l15=>
 vM m e a f (yN (g+1)) r13.2.1 r13.2.2 l15
 else
 pN m c d e x9 f>>=fun r17=>
 xB 40 b [r17.1]>>=fun l19=>
 vM m e a f (yN (g+1)) r17.2.1 r17.2.2 l19
 else
 pN m c d e x9 f>>=fun r21=>
 xB 40 b [r21.1]>>=fun l23=>
 vM m e a f (yN (g+1)) r21.2.1 r21.2.2 l23
 else
 some ((Tm.mk a.k a.n b),c,d)
end
abbrev J0 (q:Int) (p:Bool) (e:zR) (a:Tm) (f:Int) (r:Tm×Int×Bool) (C:Cf):Prop:=C 88 [.cells [ai q,ab p,.clo 48 [] [.mp 1 0,.mp 2 0]],.cells [zH zC e .no],.cells [.mp 0 0]] [.mp 0 0,yV a,ai f] (yV r.1) [.cells [ai r.2.1,ab r.2.2,.clo 48 [] [.mp 1 0,.mp 2 0]],.cells [zH zC e .no],.cells [.mp 0 0]] 0
theorem J1:Qf 88 f88:=⟨func88,rfl⟩
theorem J2{q p e a f r}(h:J0 q p e a f r Ci):J0 q p e a f r Ct:=⟨h,⟨(lz rfl),⟨tv,tv,⟨tv,dT _⟩,tv⟩,tv,tv⟩,(zD ⟨tv,tv,⟨tv,⟨(lz rfl),(lz rfl),tv⟩⟩,tv⟩ (zD ⟨⟨tv,dT _⟩,tv⟩ (zD ⟨(lz rfl),tv⟩ zA))),⟨tv,tv,dT _,tv⟩,(zD ⟨tv,tv,⟨tv,⟨(lz rfl),(lz rfl),tv⟩⟩,tv⟩ (zD ⟨dT _,tv⟩ (zD ⟨(lz rfl),tv⟩ zA)))⟩
theorem bM:∀m:Nat,(∀ {q p e a f r},pN m q p e a f=some r->J0 q p e a f r Ct)∧(∀ {e a f g c d b r},vM m e a f g c d b=some r->(∀j,dL 3 (pt 262069 f88) (sp j 79 0 [(0,.mp 0 0),(2,ai f),(4,.mp 3 0),(6,.mp 4 0),(9,.mp 5 0),(51,zH zC a.sub .no),(52,ai (a.sub.length:Int)),(53,ai g)]) (⟨[(0,.cells [ai c,ab d,.clo 48 [] [.mp 1 0,.mp 2 0]]),(1,.cells [zH zC e .no]),(2,.cells [.mp 0 0]),(3,.cells [ai a.k,ai a.n,zH zC a.sub .no]),(4,.cells [ai 0,ai 0,zH zC ([]:zR) .nl]),(5,.cells [ai a.k,ai a.n,zH zC b (.st 0 3)])],6,[0],1,[]⟩) (fQ 3 (nQ 3 f88 (yV r.1) [.cells [ai r.2.1,ab r.2.2,.clo 48 [] [.mp 1 0,.mp 2 0]],.cells [zH zC e .no],.cells [.mp 0 0]] 0) [.blk 0,.seq (pt 4095 f88)]))):=by
 intro m
 induction m with
 |zero=>
  exact⟨fun h=>nn h,fun h=>nn h⟩
 |succ m ih=>
  obtain⟨R0,qX⟩:=ih
  refine⟨?_,?_⟩
  intro q p e a f r h
  rw[pN]at h
  have z {os ob} (k:Oz os ob):=oD (dT a.sub)<|oD (dT ([]:zR))<|oD (dT ([]:zR))<|oD (dT a.sub)<|oD (dT e)<|k
  obtain⟨h1,h⟩|⟨h1,h⟩:=zK h
  obtain⟨r2,h3,h⟩:=zB h
  cases h
  exact J2 (tF J1 1 [0,1,2] (oD (dT r2.sub)<|oD (dT e)<|oC 0 [] (c89 h3)<|oB 0 h1 o0))
  obtain⟨r4,h5,h⟩:=zB h
  have k:=oC 2 [1,2,0] (zPg h5)<|oB 0 h1 o0
  obtain⟨h6,h⟩|⟨h6,h⟩:=zK h
  cases h
  exact J2 (tF J1 3 [0,1,2] (oD (dT r4.1.sub)<|oD (dT e)<|oB 1 h6 k))
  have k:=oB 1 h6 k
  obtain⟨h7,h⟩|⟨h7,h⟩:=zK h
  exact J2 (tH J1 6 [(some 6,2,3)] [0,1,2,3,4,6] [0] [0,2,4,6,9,51,52,53] (z<|oB 5 h7 k) (qX h))
  exact J2 (tH J1 5 [(some 6,2,3)] [0,1,2,3,4,6] [0] [0,2,4,6,9,51,52,53] (z<|oB 5 h7 k) (qX h))
  intro e a f g c d b r h
  rw[vM]at h
  have z {os ob} (k:Oz os ob):=oD (dT ([]:zR))<|oD (dT a.sub)<|oD (dT e)<|k
  obtain⟨h8,h⟩|⟨h8,h⟩:=zK h
  obtain⟨x9,h10,h⟩:=zB h
  have k:=oA 0 (xH (o:=.no) h10)<|oB 0 h8 o0
  obtain⟨h11,h⟩|⟨h11,h⟩:=zK h
  have k:=oB 2 h11 k
  obtain⟨h12,h⟩|⟨h12,h⟩:=zK h
  obtain⟨r13,h14,h⟩:=zB h
  obtain⟨l15,h16,h⟩:=zB h
  exact fun j=>lH 2 [] [0,1,2,3,4,5] [1] [0,2,4,6,9,51,52,53] (oD (dT a.sub)<|oD (dT l15)<|z<|oP 0 (vF h16 (by simp))<|oS 0 (wC wL [r13.1])<|oC 1 [0,1,2] (R0 h14)<|cD 1<|oB 1 h12 k) (qX h)
  obtain⟨r17,h18,h⟩:=zB h
  obtain⟨l19,h20,h⟩:=zB h
  exact fun j=>lH 2 [] [0,1,2,3,4,5] [1] [0,2,4,6,9,51,52,53] (oD (dT a.sub)<|oD (dT l19)<|z<|oP 0 (vF h20 (by simp))<|oS 0 (wC wL [r17.1])<|oC 1 [0,1,2] (R0 h18)<|cD 0<|oB 1 h12 k) (qX h)
  obtain⟨r21,h22,h⟩:=zB h
  obtain⟨l23,h24,h⟩:=zB h
  exact fun j=>lH 2 [] [0,1,2,3,4,5] [1] [0,2,4,6,9,51,52,53] (oD (dT a.sub)<|oD (dT l23)<|z<|oP 0 (vF h24 (by simp))<|oS 0 (wC wL [r21.1])<|oC 1 [0,1,2] (R0 h22)<|cD 0<|oB 2 h11 k) (qX h)
  cases h
  exact fun j=>lF 2 [0,1,2] (oD (dT b)<|oD (dT e)<|oB 0 h8 o0)
theorem zPf{m q p e a f r}(h:pN m q p e a f=some r):J0 q p e a f r Ct:=(bM _).1 h
def bN(b:Nat)(c:Tm)(a:zR):Option (Tm×Int):=
 zAH b 8192 false a>>=fun r1=>
 pN b 8192 false a c 0>>=fun r3=>
 if r3.2.2 then
 some ((Tm.mk 0 0 []),2)
 else
 fV b r3.1>>=fun r6=>
 if r6 then
 some (r3.1,0)
 else
 some ((Tm.mk 0 0 []),2)
theorem zAK:Qf 46 f46:=⟨func46,rfl⟩
theorem zPe{b c a r}(h:bN b c a=some r):Ct 46 [.cells [zH zC a .no]] [yV c,.clo 47 [] [.mp 0 0]] (.tup [yV r.1,ai r.2]) [.cells [zH zC a .no]] 0:=⟨by
 unfold bN at h
 obtain⟨r1,h2,h⟩:=zB h
 obtain⟨r3,h4,h⟩:=zB h
 have k:=oC 2 [3,0,4] (zPf h4)<|oC 0 [3,0] (zPi h2) o0
 obtain⟨h5,h⟩|⟨h5,h⟩:=zK h
 cases h
 exact tF zAK 1 [0] (oD (dT ([]:zR))<|oD (dT a)<|oB 1 h5 k)
 obtain⟨r6,h7,h⟩:=zB h
 have k:=oB 1 h5 k
 obtain⟨h8,h⟩|⟨h8,h⟩:=zK h
 cases h
 exact tF zAK 3 [0] (oD (dT r3.1.sub)<|oD (dT a)<|oK 1 [] h8 (qW h7) k)
 cases h
 exact tF zAK 2 [0] (oD (dT ([]:zR))<|oD (dT a)<|oK 1 [] h8 (qW h7) k),⟨⟨tv,tv,⟨tv,dT _⟩,tv⟩,⟨tv,⟨(lz rfl),tv⟩⟩,tv⟩,(zD ⟨⟨tv,dT _⟩,tv⟩ zA),⟨⟨tv,tv,dT _,tv⟩,tv,tv⟩,(zD ⟨dT _,tv⟩ zA)⟩
def eU:Nat->Tm->zR->Int->Option (Tm×Int)
 |0,_,_,_=>none
 |d+1,b,a,c=>
 if decide (c<(a.length:Int))then
 zP a c>>=fun x5=>
 fV d x5>>=fun r7=>
 if r7 then
 eU d b a (yN (c+1))
 else
 some ((Tm.mk 0 0 []),5)
 else
 bN d b a>>=fun r10=>
 some (r10.1,r10.2)
def e24(d:Nat)(b:Tm)(a:zR):Option (Tm×Int):=
 fV d b>>=fun r1=>
 if r1 then
 eU d b a 0
 else
 some ((Tm.mk 0 0 []),5)
theorem q24:Qf 24 f24:=⟨func24,rfl⟩
theorem zTE:∀d:Nat,(∀ {b a c r},eU d b a c=some r->(∀j,dL 0 (pt 4021 f24) (sp j 28 0 [(2,.mp 0 0),(3,.mp 1 0),(4,.mp 2 0),(12,zH zC a .no),(13,ai (a.length:Int)),(14,ai c)]) (⟨[(0,.cells [ai b.k,ai b.n,zH zC b.sub .no]),(1,.cells [zH zC a .no]),(2,.cells [ai 0,ai 0,zH zC ([]:zR) .nl])],3,[],0,[]⟩) (fQ 0 (nQ 0 f24 (.tup [yV r.1,ai r.2]) [] 0) [.blk 0,.seq (pt 63 f24)]))):=by
 intro d
 induction d with
 |zero=>
  exact fun h=>nn h
 |succ d ih=>
  intro b a c r h
  rw[eU]at h
  obtain⟨h4,h⟩|⟨h4,h⟩:=zK h
  obtain⟨x5,h6,h⟩:=zB h
  obtain⟨r7,h8,h⟩:=zB h
  have k:=oA 0 (xH (o:=.no) h6)<|oB 0 h4 o0
  obtain⟨h9,h⟩|⟨h9,h⟩:=zK h
  exact fun j=>lH 2 [] [0,1,2] [] [2,3,4,12,13,14] (oD (dT a)<|oD (dT ([]:zR))<|oD (dT a)<|oD (dT b.sub)<|oK 3 [] h9 (qW h8) k) (ih h)
  cases h
  exact fun j=>lF 2 [] (oD (dT ([]:zR))<|oK 3 [] h9 (qW h8) k)
  obtain⟨r10,h11,h⟩:=zB h
  cases h
  exact fun j=>lF 3 [] (oD (dT r10.1.sub)<|oC 1 [1] (zPe h11)<|oB 0 h4 o0)
theorem c24{d b a r}(h:e24 d b a=some r):Ct 24 [] [yV b,zH zC a .no] (.tup [yV r.1,ai r.2]) [] 0:=⟨by
 unfold e24 at h
 obtain⟨r1,h2,h⟩:=zB h
 obtain⟨h3,h⟩|⟨h3,h⟩:=zK h
 exact tH q24 3 [] [0,1,2] [] [2,3,4,12,13,14] (oD (dT a)<|oD (dT ([]:zR))<|oD (dT a)<|oD (dT b.sub)<|oK 1 [] h3 (qW h2) o0) (zTE _ h)
 cases h
 exact tF q24 2 [] (oD (dT ([]:zR))<|oK 1 [] h3 (qW h2) o0),⟨⟨tv,tv,⟨tv,dT _⟩,tv⟩,⟨tv,dT _⟩,tv⟩,zA,⟨⟨tv,tv,dT _,tv⟩,tv,tv⟩,zA⟩
def zMm(c:Nat)(b a:Tm):Option (Tm×Int):=
 e24 c b [a]>>=fun r1=>
 some (r1.1,r1.2)
theorem yAU{c b a r}(h:zMm c b a=some r):Ct 162 [] [yV b,yV a] (.tup [yV r.1,ai r.2]) [] 0:=⟨by
 unfold zMm at h
 obtain⟨r1,h2,h⟩:=zB h
 cases h
 exact tF ⟨func162,rfl⟩ 3 [] (oD (dT r1.1.sub)<|oC 0 [] (c24 h2)<|oS 2 (wC wL [a]) o0),⟨⟨tv,tv,⟨tv,dT _⟩,tv⟩,⟨tv,tv,⟨tv,dT _⟩,tv⟩,tv⟩,zA,⟨⟨tv,tv,dT _,tv⟩,tv,tv⟩,zA⟩
theorem zHe:zT.Ok:=by unfold zT;rw[Tm.Ok,nF];simp
theorem wU(k n:Int):(Tm.mk k n []).Ok:=by rw[Tm.Ok,nF];simp
theorem zJf(ls:List Tm)(a:Tm)(b left:Int)(long:Bool)(ho:a.Ok)(hl:oT left long):zF (fun q=>bL q left long ls a b) (raT a b left long):=by
 simp only[bL]
 have hs:=zCQ a 0 (by omega) (by omega)
 have h1:=hl.1
 have h2:=hl.2.1
 refine(zHm a ho).bind ?_
 rw[zW (x:=left-X1 a 0) (by omega) (by omega)]
 unfold raT
 by_cases h:left-X1 a 0<0
 ·rw[if_pos h];exact zF.ifT (decide_eq_true h) ((zAG 0).bind zF.ret)
 ·rw[if_neg h]
  refine zF.ifF (decide_eq_false h) ((zMo a b ho).bind ?_)
  by_cases h3:(vX a b 0).2≠0
  ·rw[if_pos h3];exact zF.ifT (by simpa using h3) ((zAG 0).bind zF.ret)
  ·rw[if_neg h3];exact zF.ifF (by simpa using h3) zF.ret
mutual
theorem J3(ls:List Tm):∀(t:Tm) (b left:Int) (long:Bool),oT left long->oT (fX ls t b left long).2.1 (fX ls t b left long).2.2
 | .mk kd n l,b,left,long,h=>by
  rw[fX]
  cases long with
  |true=>simpa using h
  |false=>
   rw[if_neg (by simp)]
   split
   ·split
    ·exact zMn h
    ·exact h
   ·have h0:=h.2.2 rfl
    have h1:=h.2.1
    refine zDn ls l kd 0 b _ _ ⟨by omega,by omega,fun h2=>?_⟩
    simp at h2;omega
theorem zDn(ls:List Tm):∀(l:List Tm) (kd:Int) (i:Nat) (b left:Int) (long:Bool),oT left long->oT (bK ls l kd i b left long).2.1 (bK ls l kd i b left long).2.2
 | [],kd,i,b,left,long,h=>by rw[bK];exact h
 |t::l,kd,i,b,left,long,h=>by
  rw[bK]
  exact zDn ls l kd (i+1) b _ _ (J3 ls t _ left long h)
end
theorem zHd(ls:List Tm):∀(l:List Tm) (kd:Int) (i:Nat) (b left:Int) (long:Bool),(bK ls l kd i b left long).1.length=l.length
 | [],_,_,_,_,_=>by rw[bK]
 |t::l,kd,i,b,left,long=>by rw[bK];exact congrArg (· + 1) (zHd ls l kd (i+1) b _ _)
theorem zTF(a:Tm)(b left:Int)(long:Bool)(h:a.Ok):(raT a b left long).1.Ok:=by
 unfold raT
 split
 ·exact wU _ _
 ·split
  ·exact wU _ _
  ·exact iG a b 0 h
mutual
theorem zFb(ls:List Tm)(hls:∀a∈ls,a.Ok):∀(t:Tm) (b left:Int) (long:Bool),t.Ok->(fX ls t b left long).1.Ok
 | .mk kd n l,b,left,long,h=>by
  rw[fX]
  split
  ·exact wU _ _
  ·split
   ·split
    ·exact zTF _ _ _ _ (hls _ (List.getElem_mem _))
    ·exact wU _ _
   ·rw[Tm.Ok]at h ⊢
    rw[zHd]
    exact⟨h.1,zMl ls hls l kd 0 b _ _ h.2⟩
theorem zMl(ls:List Tm)(hls:∀a∈ls,a.Ok):∀(l:List Tm) (kd:Int) (i:Nat) (b left:Int) (long:Bool),nF l->nF (bK ls l kd i b left long).1
 | [],_,_,_,_,_,_=>by rw[bK,nF];trivial
 |t::l,kd,i,b,left,long,h=>by
  rw[nF]at h
  rw[bK,nF]
  exact⟨zFb ls hls t _ _ _ h.1,zMl ls hls l kd (i+1) b _ _ h.2⟩
end
mutual
theorem zHc(ls:List Tm)(hls:∀a∈ls,a.Ok)(hlen:ls.length≤1152921504606846976):∀(t:Tm) (b left:Int) (long:Bool),xC t=true->0≤b->b+t.high≤1152921504606846976->oT left long->zF (fun q=>pN q left long ls t b) (fX ls t b left long)
 | .mk kd n l,b,left,long,hg,hb,hb2,hl=>by
  refine zF.succ ?_
  simp only[pN]
  have hh:=wW hg
  have hn:=kA hh.1
  rw[Tm.high]at hb2
  rw[fX]
  cases long with
  |true=>exact zF.ifT rfl ((zAG 0).bind (zF.ret.eq (by simp)))
  |false=>
   refine zF.ifF rfl ?_
   rw[if_neg (by simp)]
   have hloose:zF (fun q=>e49 q (.mk kd n l) b) (if kd=1∧b≤n then n-b else -1):=by
    refine zF.mk fun q=>?_
    unfold e49
    simp only[Tm.k,Tm.n]
    by_cases h1:kd=1
    ·by_cases h2:n<b
     ·simp[h1,h2,show ¬b≤n by omega]
     ·simp[h1,h2,show b≤n by omega]
      exact zW (by omega) (by omega)
    ·simp[h1]
   by_cases h1:kd=1∧b≤n
   ·rw[if_pos h1]at hloose ⊢
    have hleaf:zF (fun q=>kD q (.mk kd n l) b ls left false) (let r:=(if h:(n-b).toNat<ls.length then raT (ls[(n-b).toNat]) b left false else(.mk 1 (n-ls.length) [],left,false));(r.1,true,r.2.1,r.2.2)):=by
     simp only[kD]
     refine hloose.bind (zF.ifF (decide_eq_false (by omega)) ?_)
     by_cases h2:(n-b).toNat<ls.length
     ·rw[dif_pos h2]
      refine zF.ifT (decide_eq_true (by omega)) (zF.pure (a:=ls[(n-b).toNat]) ?_ ((zJf ls _ b left false (hls _ (List.getElem_mem _)) hl).bind zF.ret))
      unfold zP
      rw[if_pos (by omega)]
      exact List.getElem?_eq_getElem h2
     ·rw[dif_neg h2]
      refine zF.ifF (decide_eq_false (by omega)) ?_
      simp only[Tm.n]
      rw[zW (by omega) (by omega)]
      exact(B9 _).bind zF.ret
    exact hleaf.bind (zF.ifT rfl zF.ret)
   ·rw[if_neg h1]at hloose ⊢
    have hleaf:zF (fun q=>kD q (.mk kd n l) b ls left false) (.mk 0 0 [],false,left,false):=by
     simp only[kD]
     exact hloose.bind (zF.ifT rfl zF.ret)
    refine hleaf.bind (zF.ifF rfl ?_)
    have h0:=hl.2.2 rfl
    have h3:=hl.2.1
    rw[zW (x:=left-1) (by omega) (by omega)]
    have go:∀lg:Bool,lg=decide (left-1<0)->zF (fun q=>vM q ls (.mk kd n l) b 0 (left-1) lg []) (let r:=bK ls l kd 0 b (left-1) (decide (left-1<0));(.mk kd n r.1,r.2.1,r.2.2)):=fun lg hlg=>by
     subst hlg
     refine(zMk ls hls hlen l (.mk kd n l) 0 b (left-1) _ [] rfl hh.2 (by have:=hn.2.2.2.2;exact this) hb (by omega) ⟨by omega,by omega,fun h2=>?_⟩ (by simp)).eq (by simp[Tm.k,Tm.n])
     simp at h2;omega
    by_cases h4:left-1<0
    ·exact zF.ifT (decide_eq_true h4) (go true (by simp[h4]))
    ·exact zF.ifF (decide_eq_false h4) (go false (by simp[h4]))
theorem zMk(ls:List Tm)(hls:∀a∈ls,a.Ok)(hlen:ls.length≤1152921504606846976):∀(l:List Tm) (p:Tm) (v:Nat) (b left:Int) (long:Bool) (acc:List Tm),p.sub.drop v=l->wM l=true->p.sub.length≤2->0≤b->b+1+vB l≤1152921504606846976->oT left long->acc.length≤v ->
  zF (fun q=>vM q ls p b (v:Int) left long acc) (.mk p.k p.n (acc++(bK ls l p.k v b left long).1),(bK ls l p.k v b left long).2.1,(bK ls l p.k v b left long).2.2)
 | [],p,v,b,left,long,acc,hd,hg,hl2,hb,hb2,hl,ha=>by
  refine zF.succ ?_
  simp only[vM]
  exact zF.ifF (yO hd) (zF.ret.eq (by rw[bK];simp))
 |t::l,p,v,b,left,long,acc,hd,hg,hl2,hb,hb2,hl,ha=>by
  have hlt:=yT hd
  have hgc:=xY hg
  rw[vB]at hb2
  refine zF.succ ?_
  simp only[vM]
  refine zF.ifT (yL hd) (zF.pure (yC hd) ?_)
  have next:∀x:Tm×Int×Bool,oT x.2.1 x.2.2->zF (fun q=>xB 40 acc [x.1]>>=fun l15=>vM q ls p b (yN ((v:Int)+1)) x.2.1 x.2.2 l15)
    (.mk p.k p.n (acc++x.1::(bK ls l p.k (v+1) b x.2.1 x.2.2).1),(bK ls l p.k (v+1) b x.2.1 x.2.2).2.1,(bK ls l p.k (v+1) b x.2.1 x.2.2).2.2):=fun x hx=>by
   refine zF.pure (yU (by simp<;>omega)) ?_
   rw[yB v (by omega)]
   exact(zMk ls hls hlen l p (v+1) b x.2.1 x.2.2 (acc++[x.1]) (zV hd) hgc.2 hl2 hb (by omega) hx (by simp<;>omega)).eq (by simp)
  rw[bK]
  by_cases h1:v=1
  ·subst h1
   refine zF.ifT rfl ?_
   by_cases h5:p.k=5
   ·refine zF.ifF (by simp[h5]) ?_
    have e:tV p.k 1 b=b:=by unfold tV;simp[h5]
    rw[e]
    exact(zHc ls hls hlen t b left long hgc.1 hb (by omega) hl).bind (next _ (J3 ls t b left long hl))
   ·refine zF.ifT (by simp[h5]) ?_
    have e:tV p.k 1 b=b+1:=by unfold tV;simp[h5]
    rw[e,zW (x:=b+1) (by omega) (by omega)]
    exact(zHc ls hls hlen t (b+1) left long hgc.1 (by omega) (by omega) hl).bind (next _ (J3 ls t (b+1) left long hl))
  ·refine zF.ifF (by simp<;>omega) ?_
   have e:tV p.k v b=b:=by unfold tV;simp[h1]
   rw[e]
   exact(zHc ls hls hlen t b left long hgc.1 hb (by omega) hl).bind (next _ (J3 ls t b left long hl))
end
def kE(t:Tm)(ls:List Tm):Tm×Int:=
 if zI t=true∧(ls.all zI)=true then
  (if (fX ls t 0 8192 false).2.2=true then(zT,2)else if zI (fX ls t 0 8192 false).1=true then((fX ls t 0 8192 false).1,0)else(zT,2))
 else(zT,5)
theorem zTG(t:Tm)(ls:List Tm)(h:zI t=true)(ho:t.Ok)(hls:∀a∈ls,a.Ok)(hlen:ls.length≤1152921504606846976) :
  zF (fun q=>bN q t ls) (if (fX ls t 0 8192 false).2.2=true then(zT,2)else if zI (fX ls t 0 8192 false).1=true then((fX ls t 0 8192 false).1,0)else(zT,2)):=by
 simp only[bN]
 have hs:=zM h
 refine zF.bind (a:=()) (zF.mk fun _=>rfl) ((zHc ls hls hlen t 0 8192 false hs.2.2 (by omega) (by omega) ⟨by omega,by omega,fun _=>by omega⟩).bind ?_)
 by_cases h1:(fX ls t 0 8192 false).2.2=true
 ·rw[if_pos h1];exact zF.ifT h1 zF.ret
 ·rw[if_neg h1]
  refine zF.ifF (by simpa using h1) ((xS _ (zFb ls hls t 0 8192 false ho)).bind ?_)
  by_cases h2:zI (fX ls t 0 8192 false).1=true
  ·rw[if_pos h2,if_pos h2];exact zF.ret
  ·rw[if_neg h2,if_neg h2];exact zF.ret
theorem zDm(t:Tm)(ls:List Tm)(h:zI t=true)(ho:t.Ok)(hls:∀a∈ls,a.Ok)(hlen:ls.length≤1152921504606846976):∀(r:List Tm) (v:Nat),ls.drop v=r ->
  zF (fun q=>eU q t ls (v:Int)) (if (r.all zI)=true then(if (fX ls t 0 8192 false).2.2=true then(zT,2)else if zI (fX ls t 0 8192 false).1=true then((fX ls t 0 8192 false).1,0)else(zT,2))else(zT,5))
 | [],v,hd=>by
  refine zF.succ ?_
  simp only[eU]
  exact zF.ifF (yO hd) ((zTG t ls h ho hls hlen).bind (zF.ret.eq (by simp)))
 |x::r,v,hd=>by
  have hlt:=yT hd
  have hx:x∈ls:=by
   have:x∈ls.drop v:=by rw[hd];simp
   exact List.mem_of_mem_drop this
  refine zF.succ ?_
  simp only[eU]
  refine zF.ifT (yL hd) (zF.pure (yC hd) ((xS x (hls x hx)).bind ?_))
  by_cases h1:zI x=true
  ·refine zF.ifT h1 ?_
   rw[yB v (by omega)]
   exact(zDm t ls h ho hls hlen r (v+1) (zV hd)).eq (by simp[h1])
  ·exact zF.ifF (by simpa using h1) (zF.ret.eq (by simp[h1,zT]))
theorem zAL(t:Tm)(ls:List Tm)(ho:t.Ok)(hls:∀a∈ls,a.Ok)(hlen:ls.length≤1152921504606846976):zF (fun q=>e24 q t ls) (kE t ls):=by
 simp only[e24]
 refine(xS t ho).bind ?_
 unfold kE
 by_cases h:zI t=true
 ·refine zF.ifT h ((zDm t ls h ho hls hlen ls 0 rfl).eq ?_)
  simp[h]
 ·exact zF.ifF (by simpa using h) (zF.ret.eq (by simp[h,zT]))
theorem zTH(t a:Tm)(ho:t.Ok)(ha:a.Ok):zF (fun q=>zMm q t a) (kE t [a]):=by
 simp only[zMm]
 exact(zAL t [a] ho (by simpa using ha) (by simp)).bind zF.ret
theorem zHb(t:Tm)(ls:List Tm)(ho:t.Ok)(hls:∀a∈ls,a.Ok):(kE t ls).1.Ok:=by
 unfold kE
 split
 ·split
  ·exact zHe
  ·split
   ·exact zFb ls hls t 0 8192 false ho
   ·exact zHe
 ·exact zHe
def kF:Nat->Int->Int->zR->Int->Int->zR->Option (zR×Tm×Int)
 |0,_,_,_,_,_,_=>none
 |f+1,d,e,g,b,c,a=>
 if decide (e<d)then
 if b != 3 then
 some ([],(Tm.mk 0 0 []),6)
 else
 zP a 0>>=fun x10=>
 xB 40 g [x10]>>=fun l12=>
 zP a 1>>=fun x14=>
 kF f d (yN (e+1)) l12 x14.k x14.n x14.sub
 else
 some (g,(Tm.mk b c a),0)
def R1(f:Nat)(m:Tm)(d:Int):Option (zR×Tm×Int):=
 fV f m>>=fun r1=>
 if r1 then
 if decide (d<0)then
 some ([],(Tm.mk 0 0 []),5)
 else
 if decide (d>24)then
 some ([],(Tm.mk 0 0 []),2)
 else
 e65 f m>>=fun r6=>
 kF f d 0 [] r6.k r6.n r6.sub
 else
 some ([],(Tm.mk 0 0 []),5)
theorem zPc:Qf 145 f145:=⟨func145,rfl⟩
theorem zPb:∀f:Nat,(∀ {d e g b c a r},kF f d e g b c a=some r->(∀j,dL 0 (pt 65461 f145) (sp j 45 0 [(5,.mp 0 0),(7,zH zC g (.st 0 3)),(8,.mp 1 0),(24,ai d),(25,ai e)]) (⟨[(0,.cells [ai 0,ai 0,zH zC ([]:zR) .nl]),(1,.cells [ai b,ai c,zH zC a .no])],2,[0],1,[]⟩) (fQ 0 (nQ 0 f145 (.tup [.sl (zG zC r.1) r.1.length .no,yV r.2.1,ai r.2.2]) [] 0) [.blk 1,.seq (pt 1023 f145)]))):=by
 intro f
 induction f with
 |zero=>
  exact fun h=>nn h
 |succ f ih=>
  intro d e g b c a r h
  rw[kF]at h
  obtain⟨h8,h⟩|⟨h8,h⟩:=zK h
  have k:=oB 0 h8 o0
  obtain⟨h9,h⟩|⟨h9,h⟩:=zK h
  cases h
  exact fun j=>lF 1 [] (oD (dT ([]:zR))<|oD (dT ([]:zR))<|oB 1 h9 k)
  obtain⟨x10,h11,h⟩:=zB h
  obtain⟨l12,h13,h⟩:=zB h
  obtain⟨x14,h15,h⟩:=zB h
  exact fun j=>lH 3 [] [0,1] [1] [5,7,8,24,25] (oD (dT l12)<|oD (dT x14.sub)<|oD (dT ([]:zR))<|oA 1 (xH (o:=.no) h15)<|oP 0 (vF h13 (by simp))<|oS 1 (wC wL [x10])<|oA 1 (xH (o:=.no) h11)<|oB 1 h9 k) (ih h)
  cases h
  exact fun j=>lF 2 [] (oD (dT a)<|oD (dT g)<|oB 0 h8 o0)
theorem zMj{f m d r}(h:R1 f m d=some r):Ct 145 [] [yV m,ai d] (.tup [.sl (zG zC r.1) r.1.length .no,yV r.2.1,ai r.2.2]) [] 0:=⟨by
 unfold R1 at h
 have z {os ob} (k:Oz os ob):=oD (dT ([]:zR))<|oD (dT ([]:zR))<|k
 obtain⟨r1,h2,h⟩:=zB h
 obtain⟨h3,h⟩|⟨h3,h⟩:=zK h
 have k:=oK 1 [] h3 (qW h2) o0
 obtain⟨h4,h⟩|⟨h4,h⟩:=zK h
 cases h
 exact tF zPc 1 [] (z<|oB 1 h4 k)
 have k:=oB 1 h4 k
 obtain⟨h5,h⟩|⟨h5,h⟩:=zK h
 cases h
 exact tF zPc 1 [] (z<|oB 0 h5 k)
 obtain⟨r6,h7,h⟩:=zB h
 exact tH zPc 1 [(none,7,3)] [1,2] [0] [5,7,8,24,25] (oD (dT ([]:zR))<|oD (dT r6.sub)<|oD (dT ([]:zR))<|oC 1 [] (c65 h7)<|oB 0 h5 k) (zPb _ h)
 cases h
 exact tF zPc 2 [] (z<|oK 1 [] h3 (qW h2) o0),⟨⟨tv,tv,⟨tv,dT _⟩,tv⟩,tv,tv⟩,zA,⟨dT _,⟨tv,tv,dT _,tv⟩,tv,tv⟩,zA⟩
def kG:Nat->Tm->Int->Int->Int->zR->Option (zR×Tm×Int)
 |0,_,_,_,_,_=>none
 |e+1,c,f,b,d,a=>
 if b==3 then
 if (a.length:Int)==2 then
 if decide (f≤24)then
 zP a 1>>=fun x4=>
 kG e c (yN (f+1)) x4.k x4.n x4.sub
 else
 R1 e c f>>=fun r6=>
 some (r6.1,r6.2.1,r6.2.2)
 else
 R1 e c f>>=fun r8=>
 some (r8.1,r8.2.1,r8.2.2)
 else
 R1 e c f>>=fun r10=>
 some (r10.1,r10.2.1,r10.2.2)
def zDl(e:Nat)(c:Tm):Option (zR×Tm×Int):=
 kG e c 0 c.k c.n c.sub
theorem zPa:∀e:Nat,(∀ {c f b d a r},kG e c f b d a=some r->(∀j,dL 0 (pt 4021 f148) (sp j 34 0 [(1,.mp 0 0),(3,.mp 1 0),(5,ai f),(6,.mp 2 0)]) (⟨[(0,.cells [ai c.k,ai c.n,zH zC c.sub .no]),(1,.cells [ai 0,ai 0,zH zC ([]:zR) .nl]),(2,.cells [ai b,ai d,zH zC a .no])],3,[],0,[]⟩) (fQ 0 (nQ 0 f148 (.tup [.sl (zG zC r.1) r.1.length .no,yV r.2.1,ai r.2.2]) [] 0) [.blk 0,.seq (pt 63 f148)]))):=by
 intro e
 induction e with
 |zero=>
  exact fun h=>nn h
 |succ e ih=>
  intro c f b d a r h
  rw[kG]at h
  obtain⟨h1,h⟩|⟨h1,h⟩:=zK h
  have k:=oB 1 h1 o0
  obtain⟨h2,h⟩|⟨h2,h⟩:=zK h
  have k:=oB 2 h2 k
  obtain⟨h3,h⟩|⟨h3,h⟩:=zK h
  obtain⟨x4,h5,h⟩:=zB h
  exact fun j=>lH 2 [] [0,1,3] [] [1,3,5,6] (oD (dT x4.sub)<|oD (dT ([]:zR))<|oD (dT c.sub)<|oA 4 (xH (o:=.no) h5)<|oB 0 h3 k) (ih h)
  obtain⟨r6,h7,h⟩:=zB h
  cases h
  exact fun j=>lF 4 [] (oD (dT r6.2.1.sub)<|oD (dT r6.1)<|oC 1 [] (zMj h7)<|oB 0 h3 k)
  obtain⟨r8,h9,h⟩:=zB h
  cases h
  exact fun j=>lF 4 [] (oD (dT r8.2.1.sub)<|oD (dT r8.1)<|oC 1 [] (zMj h9)<|oB 2 h2 k)
  obtain⟨r10,h11,h⟩:=zB h
  cases h
  exact fun j=>lF 4 [] (oD (dT r10.2.1.sub)<|oD (dT r10.1)<|oC 1 [] (zMj h11)<|oB 1 h1 o0)
theorem zPA{e c r}(h:zDl e c=some r):Ct 148 [] [yV c] (.tup [.sl (zG zC r.1) r.1.length .no,yV r.2.1,ai r.2.2]) [] 0:=⟨by
 unfold zDl at h
 exact tH ⟨func148,rfl⟩ 2 [] [0,1,2] [] [1,3,5,6] (oD (dT c.sub)<|oD (dT ([]:zR))<|oD (dT c.sub) o0) (zPa _ h),⟨⟨tv,tv,⟨tv,dT _⟩,tv⟩,tv⟩,zA,⟨dT _,⟨tv,tv,dT _,tv⟩,tv,tv⟩,zA⟩
def kH:Nat->Int->Int->(Tm×zR)->Int->Option Bool
 |0,_,_,_,_=>none
 |c+1,b,d,r1,a=>
 if decide (a<b)then
 zP r1.2 a>>=fun x7=>
 if x7.k != 1 then
 some false
 else
 if x7.n != (yN ((yN (d-1))-a))then
 some false
 else
 kH c b d r1 (yN (a+1))
 else
 some true
def zFa(c:Nat)(e:Tm)(f b g d:Int):Option Bool:=
 Q5 c e>>=fun r1=>
 if r1.1.k != 6 then
 some false
 else
 if r1.1.n != f then
 some false
 else
 if (r1.2.length:Int) != (yN (b+g))then
 some false
 else
 kH c b d r1 0
theorem zPB:Qf 150 f150:=⟨func150,rfl⟩
theorem zPC:∀c:Nat,(∀ {b d r1 a r},kH c b d r1 a=some r->(∀j,dL 0 (pt 16309 f150) (sp j 59 0 [(4,ai d),(12,zH zC r1.2 .no),(36,ai b),(37,ai a)]) (⟨[],0,[],0,[]⟩) (fQ 0 (nQ 0 f150 (ab r) [] 0) [.blk 0,.seq (pt 255 f150)]))):=by
 intro c
 induction c with
 |zero=>
  exact fun h=>nn h
 |succ c ih=>
  intro b d r1 a r h
  rw[kH]at h
  obtain⟨h6,h⟩|⟨h6,h⟩:=zK h
  obtain⟨x7,h8,h⟩:=zB h
  have k:=oA 0 (xH (o:=.no) h8)<|oB 0 h6 o0
  obtain⟨h9,h⟩|⟨h9,h⟩:=zK h
  cases h
  exact fun j=>lF 0 [] (oB 1 h9 k)
  have k:=oA 0 (xH (o:=.no) h8)<|oB 1 h9 k
  obtain⟨h10,h⟩|⟨h10,h⟩:=zK h
  cases h
  exact fun j=>lF 0 [] (oB 3 h10 k)
  exact fun j=>lH 1 [] [] [] [4,12,36,37] (oD (dT r1.2)<|oB 3 h10 k) (ih h)
  cases h
  exact fun j=>lF 0 [] (oB 0 h6 o0)
theorem zPD{c e f b g d r}(h:zFa c e f b g d=some r):Ct 150 [] [yV e,ai f,ai b,ai g,ai d] (ab r) [] 0:=⟨by
 unfold zFa at h
 obtain⟨r1,h2,h⟩:=zB h
 have k:=oC 1 [] (zFd h2) o0
 obtain⟨h3,h⟩|⟨h3,h⟩:=zK h
 cases h
 exact tF zPB 0 [] (oB 4 h3 k)
 have k:=oB 4 h3 k
 obtain⟨h4,h⟩|⟨h4,h⟩:=zK h
 cases h
 exact tF zPB 0 [] (oB 1 h4 k)
 have k:=oB 1 h4 k
 obtain⟨h5,h⟩|⟨h5,h⟩:=zK h
 cases h
 exact tF zPB 0 [] (oB 2 h5 k)
 exact tH zPB 0 [] [] [] [4,12,36,37] (oD (dT r1.2)<|oB 2 h5 k) (zPC _ h),⟨⟨tv,tv,⟨tv,dT _⟩,tv⟩,tv,tv,tv,tv,tv⟩,zA,tv,zA⟩
def tQ:Nat->Tm->Option (List Tm×Tm)
 |0,t=>some ([],t)
 |n+1,.mk k _ [a,b]=>if k=3 then(tQ n b).map fun r=>(a::r.1,r.2)else none
 |_+1,_=>none
theorem pO(n:Nat)(m:Int)(a b:Tm):tQ (n+1) (.mk 3 m [a,b])=(tQ n b).map fun r=>(a::r.1,r.2):=by rw[tQ,if_pos rfl]
theorem oV{n:Nat}{t:Tm}(h:t.k≠3):tQ (n+1) t=none:=by
 unfold tQ
 split
 ·rename_i h1;cases h1
 ·rename_i h1;exact if_neg h
 ·rfl
theorem rO{t:Tm}(hg:xC t=true)(h:t.k=3):∃a b,t = .mk 3 t.n [a,b]∧xC a=true∧xC b=true:=by
 obtain⟨k,n,l⟩:=t
 have hh:=wW hg
 have hs:=uO hh.1
 replace h:k=3:=h
 subst h
 obtain⟨a,b,rfl⟩:=zMv (hs.2.2.2.2.2.1 (.inl rfl)).1
 have hc:=xY hh.2
 exact⟨a,b,rfl,hc.1,(xY hc.2).1⟩
def fH(acc:List Tm):Option (List Tm×Tm)->List Tm×Tm×Int
 |none=>([],zT,6)
 |some r=>(acc++r.1,r.2,0)
theorem zJe(N:Nat)(hN:N≤24):∀(m v:Nat) (acc:List Tm) (x:Tm),v+m=N->xC x=true->acc.length≤v->zF (fun q=>kF q (N:Int) (v:Int) acc x.k x.n x.sub) (fH acc (tQ m x)):=by
 intro m
 induction m with
 |zero=>
  intro v acc x hm hg ha
  refine zF.succ ?_
  simp only[kF]
  refine zF.ifF (decide_eq_false (by omega)) (zF.ret.eq ?_)
  rw[tQ,fH,vW];simp
 |succ m ih=>
  intro v acc x hm hg ha
  refine zF.succ ?_
  simp only[kF]
  refine zF.ifT (decide_eq_true (by omega)) ?_
  by_cases h:x.k=3
  ·obtain⟨a,b,hx,hga,hgb⟩:=rO hg h
   refine zF.ifF (by simp[h]) ?_
   rw[hx,pO]
   refine zF.pure (a:=a) rfl (zF.pure (yU (by simp<;>omega)) (zF.pure (a:=b) rfl ?_))
   rw[yB v (by omega)]
   refine(ih (v+1) (acc++[a]) b (by omega) hgb (by simp<;>omega)).eq ?_
   cases tQ m b<;>simp[fH]
  ·rw[oV h,fH]
   exact zF.ifT (by simp[h]) zF.ret
def xR(t:Tm)(n:Int):List Tm×Tm×Int:=
 if zI t=true then(if n<0 then([],zT,5)else if n>24 then([],zT,2)else fH [] (tQ n.toNat t))else([],zT,5)
theorem bO(t:Tm)(n:Int)(ho:t.Ok):zF (fun q=>R1 q t n) (xR t n):=by
 simp only[R1]
 refine(xS t ho).bind ?_
 unfold xR
 by_cases h:zI t=true
 ·rw[if_pos h]
  refine zF.ifT h ?_
  by_cases h1:n<0
  ·rw[if_pos h1];exact zF.ifT (decide_eq_true h1) zF.ret
  ·rw[if_neg h1]
   refine zF.ifF (decide_eq_false h1) ?_
   by_cases h2:n>24
   ·rw[if_pos h2];exact zF.ifT (decide_eq_true h2) zF.ret
   ·rw[if_neg h2]
    refine zF.ifF (decide_eq_false h2) ((gP t ho).bind ?_)
    unfold iE
    rw[if_pos h]
    have:=zJe n.toNat (by omega) n.toNat 0 [] t (by omega) (zM h).2.2 (by simp)
    rw[show ((n.toNat:Nat):Int)=n by omega]at this
    exact this
 ·rw[if_neg h];exact zF.ifF (by simpa using h) zF.ret
def wK:Tm->Nat
 | .mk k _ [_,b]=>if k=3 then wK b+1 else 0
 |_=>0
theorem gR(m:Int)(a b:Tm):wK (.mk 3 m [a,b])=wK b+1:=by rw[wK,if_pos rfl]
theorem zAM{t:Tm}(h:t.k≠3):wK t=0:=by
 unfold wK
 split
 ·exact if_neg h
 ·rfl
theorem zMi{t:Tm}(h:t.sub.length≠2):wK t=0:=by
 unfold wK
 split
 ·exact absurd rfl h
 ·rfl
def yR(t:Tm):List Tm×Tm×Int:=xR t ((min (wK t) 25:Nat):Int)
theorem zJd(p:Tm)(ho:p.Ok):∀(m v:Nat) (x:Tm),v+m=25->zF (fun q=>kG q p (v:Int) x.k x.n x.sub) (xR p ((min (v+wK x) 25:Nat):Int)):=by
 intro m
 induction m with
 |zero=>
  intro v x hm
  refine zF.succ ?_
  simp only[kG]
  have hv:v=25:=by omega
  subst hv
  have hsp:zF (fun q=>R1 q p ((25:Nat):Int)>>=fun r6=>some (r6.1,r6.2.1,r6.2.2)) (xR p ((min (25+wK x) 25:Nat):Int)):=
   ((bO p _ ho).bind zF.ret).eq (by rw[show min (25+wK x) 25=25 by omega])
  exact zF.iff (fun _=>zF.iff (fun _=>zF.ifF rfl hsp) fun _=>hsp) fun _=>hsp
 |succ m ih=>
  intro v x hm
  refine zF.succ ?_
  simp only[kG]
  have hsp:wK x=0->zF (fun q=>R1 q p (v:Int)>>=fun r6=>some (r6.1,r6.2.1,r6.2.2)) (xR p ((min (v+wK x) 25:Nat):Int)):=fun h=>
   ((bO p _ ho).bind zF.ret).eq (by rw[h,show min (v+0) 25=v by omega])
  by_cases h3:x.k=3
  ·refine zF.ifT (by simp[h3]) ?_
   by_cases h2:x.sub.length=2
   ·refine zF.ifT (by simp[h2]) (zF.ifT (decide_eq_true (by omega)) ?_)
    obtain⟨k,n,l⟩:=x
    replace h3:k=3:=h3
    subst h3
    obtain⟨a,b,rfl⟩:=zMv h2
    refine zF.pure (a:=b) rfl ?_
    rw[yB v (by omega),gR]
    exact(ih (v+1) b (by omega)).eq (by rw[show v+1+wK b=v+(wK b+1) by omega])
   ·exact zF.ifF (by simp<;>omega) (hsp (zMi h2))
  ·exact zF.ifF (by simp[h3]) (hsp (zAM h3))
theorem bP(t:Tm)(ho:t.Ok):zF (fun q=>zDl q t) (yR t):=by
 simp only[zDl]
 exact(zJd t ho 25 0 t rfl).eq (by unfold yR;simp)
theorem gS:∀(n:Nat) (t:Tm) (r:List Tm×Tm),xC t=true->tQ n t=some r->r.1.length=n∧wK t=n+wK r.2∧(xC r.2=true∧r.2.nodes≤t.nodes∧r.2.high≤t.high)∧∀x∈r.1,xC x=true∧x.nodes≤t.nodes∧x.high≤t.high
 |0,t,r,hg,h=>by
  rw[tQ]at h;cases h
  exact⟨rfl,by simp,⟨hg,Nat.le_refl _,Nat.le_refl _⟩,fun x hx=>by cases hx⟩
 |n+1,t,r,hg,h=>by
  by_cases h3:t.k=3
  ·obtain⟨a,b,hx,hga,hgb⟩:=rO hg h3
   rw[hx]at h ⊢
   rw[pO]at h
   obtain⟨r',h1,rfl⟩:=Option.map_eq_some_iff.1 h
   have ih:=gS n b r' hgb h1
   rw[gR]
   simp only[Tm.nodes,yM,Tm.high,vB]
   refine⟨by simp[ih.1],by omega,⟨ih.2.2.1.1,by omega,by omega⟩,fun x hx=>?_⟩
   rcases List.mem_cons.1 hx with rfl|hx
   ·exact⟨hga,by omega,by omega⟩
   ·have:=ih.2.2.2 x hx;exact⟨this.1,by omega,by omega⟩
  ·rw[oV h3]at h;cases h
theorem zMh:∀t:Tm,xC t=true->∀n≤wK t,∃r,tQ n t=some r:=by
 intro t hg n
 induction n generalizing t with
 |zero=>intro _;exact⟨_,rfl⟩
 |succ n ih=>
  intro h
  by_cases h3:t.k=3
  ·obtain⟨a,b,hx,hga,hgb⟩:=rO hg h3
   rw[hx,gR]at h
   obtain⟨r,hr⟩:=ih b hgb (by omega)
   exact⟨_,by rw[hx,pO,hr];rfl⟩
  ·rw[zAM h3]at h;omega
theorem s5{t:Tm}{n:Int}{l:List Tm}{y:Tm}(h:xR t n=(l,y,0)):zI t=true∧0≤n∧n≤24∧(l.length:Int)=n∧wK t=l.length+wK y∧zI y=true∧∀x∈l,zI x=true:=by
 unfold xR at h
 split at h
 ·rename_i hs
  split at h
  ·simp at h
  ·split at h
   ·simp at h
   ·cases hr:tQ n.toNat t with
    |none=>rw[hr]at h;simp[fH]at h
    |some r=>
     rw[hr]at h
     simp only[fH,List.nil_append,Prod.mk.injEq,and_true]at h
     obtain⟨rfl,rfl⟩:=h
     have hsp:=zM hs
     have:=gS _ _ _ hsp.2.2 hr
     refine⟨hs,by omega,by omega,by omega,by omega,oR (by omega) (by omega) this.2.2.1.1,fun x hx=>?_⟩
     have hx:=this.2.2.2 x hx
     exact oR (by omega) (by omega) hx.1
 ·simp at h
theorem tJ{t:Tm}{l:List Tm}{y:Tm}(h:yR t=(l,y,0)):zI t=true∧l.length=wK t∧l.length≤24∧wK y=0∧zI y=true∧∀x∈l,zI x=true:=by
 have:=s5 h
 refine⟨this.1,by omega,by omega,by omega,this.2.2.2.2.2.1,this.2.2.2.2.2.2⟩
def bQ:List Tm->Int->Bool
 | [],_=>true
 |a::l,n=>a.k==1&&a.n==n&&bQ l (n-1)
def uQ(t:Tm)(of pars more binders:Int):Bool:=
 (zX t).k==6&&(zX t).n==of&&((yX t).length:Int)==pars+more&&bQ ((yX t).take pars.toNat) (binders-1)
theorem zDk(p:Tm×List Tm)(P:Nat)(binders:Int)(hP:P≤p.2.length)(hl:p.2.length≤8192)(hb:-1152921504606846976≤binders∧binders≤1152921504606846976):∀(m v:Nat),v+m=P ->
  zF (fun q=>kH q (P:Int) binders p (v:Int)) (bQ ((p.2.take P).drop v) (binders-1-v)):=by
 intro m
 induction m with
 |zero=>
  intro v hm
  refine zF.succ ?_
  simp only[kH]
  refine zF.ifF (decide_eq_false (by omega)) (zF.ret.eq ?_)
  rw[List.drop_eq_nil_of_le (by simp<;>omega),bQ]
 |succ m ih=>
  intro v hm
  refine zF.succ ?_
  simp only[kH]
  have hv:v<(p.2.take P).length:=by simp<;>omega
  have hd:=List.drop_eq_getElem_cons hv
  have hg:zP p.2 (v:Int)=some (p.2.take P)[v]:=by
   unfold zP
   rw[if_pos (by omega),show (v:Int).toNat=v by omega,List.getElem?_eq_getElem (by omega)]
   simp
  generalize (p.2.take P)[v]=x at hd hg
  refine zF.ifT (decide_eq_true (by omega)) (zF.pure hg ?_)
  rw[hd,bQ,zW (x:=binders-1) (by omega) (by omega),zW (x:=binders-1-v) (by omega) (by omega)]
  by_cases h1:x.k=1
  ·refine zF.ifF (by simp[h1]) ?_
   by_cases h2:x.n=binders-1-v
   ·refine zF.ifF (by simp[h2]) ?_
    rw[yB v (by omega)]
    refine(ih (v+1) (by omega)).eq ?_
    rw[show binders-1-((v+1:Nat):Int)=binders-1-v-1 by omega]
    simp[h1,h2]
   ·exact zF.ifT (by simp[h2]) (zF.ret.eq (by simp[h2]))
  ·exact zF.ifT (by simp[h1]) (zF.ret.eq (by simp[h1]))
theorem eV(t:Tm)(of pars more binders:Int)(hs:zI t=true)(h0:0≤pars∧pars≤1152921504606846976)(h1:0≤more∧more≤1152921504606846976)(hb:-1152921504606846976≤binders∧binders≤1152921504606846976) :
  zF (fun q=>zFa q t of pars more binders) (uQ t of pars more binders):=by
 simp only[zFa]
 refine(lI t hs).bind ?_
 unfold uQ
 by_cases h2:(zX t).k=6
 ·refine zF.ifF (by simp[h2]) ?_
  by_cases h3:(zX t).n=of
  ·refine zF.ifF (by simp[h3]) ?_
   rw[zW (x:=pars+more) (by omega) (by omega)]
   by_cases h4:((yX t).length:Int)=pars+more
   ·refine zF.ifF (by simp[h4]) ?_
    have hl:=sX t (zM hs).2.2
    have hn:=(zM hs).1
    have:=zDk (zX t,yX t) pars.toNat binders (by show _≤(yX t).length;omega) (by show (yX t).length≤_;omega) hb pars.toNat 0 (by omega)
    rw[show ((pars.toNat:Nat):Int)=pars by omega]at this
    exact this.eq (by simp[h2,h3,h4])
   ·exact zF.ifT (by simp[h4]) (zF.ret.eq (by simp[h4]))
  ·exact zF.ifT (by simp[h3]) (zF.ret.eq (by simp[h3]))
 ·exact zF.ifT (by simp[h2]) (zF.ret.eq (by simp[h2]))
def Y0(b:Nat)(a:Int):Option Bool:=
 if decide (a≥0)then
 if decide (a≤1114111)then
 if decide (a<55296)then
 some true
 else
 some (decide (a>57343))
 else
 some false
 else
 some false
theorem zPE:Qf 195 f195:=⟨func195,rfl⟩
theorem zJc{b a r}(h:Y0 b a=some r):Ct 195 [] [ai a] (ab r) [] 0:=⟨by
 unfold Y0 at h
 obtain⟨h1,h⟩|⟨h1,h⟩:=zK h
 have k:=oB 0 h1 o0
 obtain⟨h2,h⟩|⟨h2,h⟩:=zK h
 have k:=oB 0 h2 k
 obtain⟨h3,h⟩|⟨h3,h⟩:=zK h
 cases h
 exact tF zPE 0 [] (oB 0 h3 k)
 cases h
 exact tF zPE 1 [] (oB 0 h3 k)
 cases h
 exact tF zPE 0 [] (oB 0 h2 k)
 cases h
 exact tF zPE 0 [] (oB 0 h1 o0),⟨tv,tv⟩,zA,tv,zA⟩
def zFA(b:Nat)(a:U8):Option (Int×Int):=
 if decide (a<128)then
 some (1,(yN (a)))
 else
 if decide (a≥192)then
 if decide (a<224)then
 some (2,(yN ((IntKind.u8.wrap ((BitVec.ofInt (IntKind.bits .u8) a &&& BitVec.ofInt (IntKind.bits .u8) 31).toNat:Nat)))))
 else
 if decide (a≥224)then
 if decide (a<240)then
 some (3,(yN ((IntKind.u8.wrap ((BitVec.ofInt (IntKind.bits .u8) a &&& BitVec.ofInt (IntKind.bits .u8) 15).toNat:Nat)))))
 else
 if decide (a≥240)then
 if decide (a<248)then
 some (4,(yN ((IntKind.u8.wrap ((BitVec.ofInt (IntKind.bits .u8) a &&& BitVec.ofInt (IntKind.bits .u8) 7).toNat:Nat)))))
 else
 some (0,0)
 else
 some (0,0)
 else
 if decide (a≥240)then
 if decide (a<248)then
 some (4,(yN ((IntKind.u8.wrap ((BitVec.ofInt (IntKind.bits .u8) a &&& BitVec.ofInt (IntKind.bits .u8) 7).toNat:Nat)))))
 else
 some (0,0)
 else
 some (0,0)
 else
 if decide (a≥224)then
 if decide (a<240)then
 some (3,(yN ((IntKind.u8.wrap ((BitVec.ofInt (IntKind.bits .u8) a &&& BitVec.ofInt (IntKind.bits .u8) 15).toNat:Nat)))))
 else
 if decide (a≥240)then
 if decide (a<248)then
 some (4,(yN ((IntKind.u8.wrap ((BitVec.ofInt (IntKind.bits .u8) a &&& BitVec.ofInt (IntKind.bits .u8) 7).toNat:Nat)))))
 else
 some (0,0)
 else
 some (0,0)
 else
 if decide (a≥240)then
 if decide (a<248)then
 some (4,(yN ((IntKind.u8.wrap ((BitVec.ofInt (IntKind.bits .u8) a &&& BitVec.ofInt (IntKind.bits .u8) 7).toNat:Nat)))))
 else
 some (0,0)
 else
 some (0,0)
theorem fI:Qf 237 f237:=⟨func237,rfl⟩
theorem yAV{b a r}(h:zFA b a=some r):Ct 237 [] [.val (.int .u8 a)] (.tup [ai r.1,ai r.2]) [] 0:=⟨by
 unfold zFA at h
 obtain⟨h1,h⟩|⟨h1,h⟩:=zK h
 cases h
 exact tF fI 1 [] (oB 0 h1 o0)
 have k:=oB 0 h1 o0
 obtain⟨h2,h⟩|⟨h2,h⟩:=zK h
 have k:=oB 0 h2 k
 obtain⟨h3,h⟩|⟨h3,h⟩:=zK h
 cases h
 exact tF fI 2 [] (oB 0 h3 k)
 have k:=oB 0 h3 k
 obtain⟨h4,h⟩|⟨h4,h⟩:=zK h
 have k:=oB 0 h4 k
 obtain⟨h5,h⟩|⟨h5,h⟩:=zK h
 cases h
 exact tF fI 2 [] (oB 0 h5 k)
 have k:=oB 0 h5 k
 obtain⟨h6,h⟩|⟨h6,h⟩:=zK h
 have k:=oB 0 h6 k
 obtain⟨h7,h⟩|⟨h7,h⟩:=zK h
 cases h
 exact tF fI 2 [] (oB 0 h7 k)
 cases h
 exact tF fI 0 [] (oB 0 h7 k)
 cases h
 exact tF fI 0 [] (oB 0 h6 k)
 have k:=oB 0 h4 k
 obtain⟨h8,h⟩|⟨h8,h⟩:=zK h
 have k:=oB 0 h8 k
 obtain⟨h9,h⟩|⟨h9,h⟩:=zK h
 cases h
 exact tF fI 2 [] (oB 0 h9 k)
 cases h
 exact tF fI 0 [] (oB 0 h9 k)
 cases h
 exact tF fI 0 [] (oB 0 h8 k)
 have k:=oB 0 h2 k
 obtain⟨h10,h⟩|⟨h10,h⟩:=zK h
 have k:=oB 0 h10 k
 obtain⟨h11,h⟩|⟨h11,h⟩:=zK h
 cases h
 exact tF fI 2 [] (oB 0 h11 k)
 have k:=oB 0 h11 k
 obtain⟨h12,h⟩|⟨h12,h⟩:=zK h
 have k:=oB 0 h12 k
 obtain⟨h13,h⟩|⟨h13,h⟩:=zK h
 cases h
 exact tF fI 2 [] (oB 0 h13 k)
 cases h
 exact tF fI 0 [] (oB 0 h13 k)
 cases h
 exact tF fI 0 [] (oB 0 h12 k)
 have k:=oB 0 h10 k
 obtain⟨h14,h⟩|⟨h14,h⟩:=zK h
 have k:=oB 0 h14 k
 obtain⟨h15,h⟩|⟨h15,h⟩:=zK h
 cases h
 exact tF fI 2 [] (oB 0 h15 k)
 cases h
 exact tF fI 0 [] (oB 0 h15 k)
 cases h
 exact tF fI 0 [] (oB 0 h14 k),⟨tv,tv⟩,zA,⟨tv,tv,tv⟩,zA⟩
def zDj(b:Nat)(a:Int):Option Int:=
 if decide (a≥65536)then
 some 4
 else
 if decide (a≥2048)then
 some 3
 else
 if decide (a≥128)then
 some 2
 else
 some 1
theorem zPF:Qf 238 f238:=⟨func238,rfl⟩
theorem zXW{b a r}(h:zDj b a=some r):Ct 238 [] [ai a] (ai r) [] 0:=⟨by
 unfold zDj at h
 obtain⟨h1,h⟩|⟨h1,h⟩:=zK h
 cases h
 exact tF zPF 3 [] (oB 0 h1 o0)
 have k:=oB 0 h1 o0
 obtain⟨h2,h⟩|⟨h2,h⟩:=zK h
 cases h
 exact tF zPF 2 [] (oB 0 h2 k)
 have k:=oB 0 h2 k
 obtain⟨h3,h⟩|⟨h3,h⟩:=zK h
 cases h
 exact tF zPF 1 [] (oB 0 h3 k)
 cases h
 exact tF zPF 0 [] (oB 0 h3 k),⟨tv,tv⟩,zA,tv,zA⟩
def rP:Nat->ByteArray->Int->(Int×Int)->Int->Int->Option (Int×Int×Int)
 |0,_,_,_,_,_=>none
 |c+1,b,a,r5,d,e=>
 if decide (e<r5.1)then
 pG b (yN (a+e))>>=fun x10=>
 if (IntKind.u8.wrap ((BitVec.ofInt (IntKind.bits .u8) x10 &&& BitVec.ofInt (IntKind.bits .u8) 192).toNat:Nat)) != 128 then
 some (0,0,1)
 else
 rP c b a r5 (IntKind.i64.wrap ((BitVec.ofInt (IntKind.bits .i64) (yN (d*2 ^ (min (Int.toNat 6) (IntKind.bits .i64)))) ||| BitVec.ofInt (IntKind.bits .i64) (yN ((IntKind.u8.wrap ((BitVec.ofInt (IntKind.bits .u8) x10 &&& BitVec.ofInt (IntKind.bits .u8) 63).toNat:Nat))))).toNat:Nat)) (yN (e+1))
 else
 Y0 c d>>=fun r13=>
 if r13 then
 zDj c d>>=fun r16=>
 if r16 != r5.1 then
 some (0,0,1)
 else
 some (d,r5.1,0)
 else
 some (0,0,1)
def zFB(c:Nat)(b:ByteArray)(a:Int):Option (Int×Int×Int):=
 if decide (a<0)then
 some (0,0,1)
 else
 if decide (a≥(b.size:Int))then
 some (0,0,1)
 else
 pG b a>>=fun x3=>
 zFA c x3>>=fun r5=>
 if r5.1==0 then
 some (0,0,1)
 else
 if decide (r5.1>(yN ((b.size:Int)-a)))then
 some (0,0,1)
 else
 rP c b a r5 r5.2 1
theorem zMg:Qf 193 f193:=⟨func193,rfl⟩
theorem zPG:∀c:Nat,(∀ {b a r5 d e r},rP c b a r5 d e=some r->(∀j,dL 0 (pt 65461 f193) (sp j 66 0 [(0,at' b),(1,ai a),(7,ai r5.1),(8,ai d),(9,ai e)]) (⟨[],0,[],0,[]⟩) (fQ 0 (nQ 0 f193 (.tup [ai r.1,ai r.2.1,ai r.2.2]) [] 0) [.blk 0,.seq (pt 1023 f193)]))):=by
 intro c
 induction c with
 |zero=>
  exact fun h=>nn h
 |succ c ih=>
  intro b a r5 d e r h
  rw[rP]at h
  obtain⟨h9,h⟩|⟨h9,h⟩:=zK h
  obtain⟨x10,h11,h⟩:=zB h
  have k:=oA 1 (P9 h11)<|oB 0 h9 o0
  obtain⟨h12,h⟩|⟨h12,h⟩:=zK h
  cases h
  exact fun j=>lF 0 [] (oB 1 h12 k)
  exact fun j=>lH 5 [] [] [] [0,1,7,8,9] (oB 1 h12 k) (ih h)
  obtain⟨r13,h14,h⟩:=zB h
  have k:=oB 0 h9 o0
  obtain⟨h15,h⟩|⟨h15,h⟩:=zK h
  obtain⟨r16,h17,h⟩:=zB h
  have k:=oC 1 [] (zXW h17)<|oK 0 [] h15 (zJc h14) k
  obtain⟨h18,h⟩|⟨h18,h⟩:=zK h
  cases h
  exact fun j=>lF 0 [] (oB 0 h18 k)
  cases h
  exact fun j=>lF 0 [] (oB 0 h18 k)
  cases h
  exact fun j=>lF 1 [] (oK 0 [] h15 (zJc h14) k)
theorem yAW{c b a r}(h:zFB c b a=some r):Ct 193 [] [at' b,ai a] (.tup [ai r.1,ai r.2.1,ai r.2.2]) [] 0:=⟨by
 unfold zFB at h
 obtain⟨h1,h⟩|⟨h1,h⟩:=zK h
 cases h
 exact tF zMg 0 [] (oB 0 h1 o0)
 have k:=oB 0 h1 o0
 obtain⟨h2,h⟩|⟨h2,h⟩:=zK h
 cases h
 exact tF zMg 0 [] (oB 1 h2 k)
 obtain⟨x3,h4,h⟩:=zB h
 obtain⟨r5,h6,h⟩:=zB h
 have k:=oC 0 [] (yAV h6)<|oA 0 (P9 h4)<|oB 1 h2 k
 obtain⟨h7,h⟩|⟨h7,h⟩:=zK h
 cases h
 exact tF zMg 0 [] (oB 2 h7 k)
 have k:=oB 2 h7 k
 obtain⟨h8,h⟩|⟨h8,h⟩:=zK h
 cases h
 exact tF zMg 0 [] (oB 2 h8 k)
 exact tH zMg 0 [] [] [] [0,1,7,8,9] (oB 2 h8 k) (zPG _ h),⟨tv,tv,tv⟩,zA,⟨tv,tv,tv,tv⟩,zA⟩
def sT:Nat->ByteArray->yD->Int->Option (yD×Int×Int)
 |0,_,_,_=>none
 |b+1,a,d,c=>
 if decide (c<(a.size:Int))then
 zFB b a c>>=fun r3=>
 if r3.2.2 != 0 then
 some ([],c,r3.2.2)
 else
 xB 8 d [r3.1]>>=fun l6=>
 sT b a l6 (yN (c+r3.2.1))
 else
 some (d,(a.size:Int),0)
def zAN(b:Nat)(a:ByteArray):Option (yD×Int×Int):=
 if decide ((a.size:Int)>65535)then
 some ([],0,2)
 else
 sT b a [] 0
theorem zXX:Qf 139 f139:=⟨func139,rfl⟩
theorem zPH:∀b:Nat,(∀ {a d c r},sT b a d c=some r->(∀j,dL 0 (pt 16309 f139) (sp j 38 0 [(0,at' a),(5,zH zU d (.st 0 1)),(6,ai c)]) (⟨[],0,[0],1,[]⟩) (fQ 0 (nQ 0 f139 (.tup [.sl (zG zU r.1) r.1.length .no,ai r.2.1,ai r.2.2]) [] 0) [.blk 0,.seq (pt 255 f139)]))):=by
 intro b
 induction b with
 |zero=>
  exact fun h=>nn h
 |succ b ih=>
  intro a d c r h
  rw[sT]at h
  obtain⟨h2,h⟩|⟨h2,h⟩:=zK h
  obtain⟨r3,h4,h⟩:=zB h
  have k:=oC 0 [] (yAW h4)<|oB 1 h2 o0
  obtain⟨h5,h⟩|⟨h5,h⟩:=zK h
  cases h
  exact fun j=>lF 0 [] (oD (dI ([]:yD))<|oB 3 h5 k)
  obtain⟨l6,h7,h⟩:=zB h
  exact fun j=>lH 1 [] [] [1] [0,5,6] (oD (dI l6)<|oP 1 (tN h7 (by simp))<|oB 3 h5 k) (ih h)
  cases h
  exact fun j=>lF 1 [] (oD (dI d)<|oB 1 h2 o0)
theorem zXY{b a r}(h:zAN b a=some r):Ct 139 [] [at' a] (.tup [.sl (zG zU r.1) r.1.length .no,ai r.2.1,ai r.2.2]) [] 0:=⟨by
 unfold zAN at h
 obtain⟨h1,h⟩|⟨h1,h⟩:=zK h
 cases h
 exact tF zXX 0 [] (oD (dI ([]:yD))<|oB 1 h1 o0)
 exact tH zXX 0 [(none,5,1)] [] [0] [0,5,6] (oD (dI ([]:yD))<|oB 1 h1 o0) (zPH _ h),⟨tv,tv⟩,zA,⟨dI _,tv,tv,tv⟩,zA⟩
def zDi(b:Nat)(a:ByteArray):Option Bool:=
 if a.toList==(⟨#[100,97,116,97]⟩:ByteArray).toList then
 some true
 else
 if a.toList==(⟨#[114,101,99,111,114,100]⟩:ByteArray).toList then
 some true
 else
 if a.toList==(⟨#[100,101,102]⟩:ByteArray).toList then
 some true
 else
 if a.toList==(⟨#[83,101,116]⟩:ByteArray).toList then
 some true
 else
 some false
theorem zMf:Qf 140 f140:=⟨func140,rfl⟩
theorem zPI{b a r}(h:zDi b a=some r):Ct 140 [] [at' a] (ab r) [] 0:=⟨by
 unfold zDi at h
 obtain⟨h1,h⟩|⟨h1,h⟩:=zK h
 cases h
 exact tF zMf 0 [] (oB 0 h1 o0)
 have k:=oB 0 h1 o0
 obtain⟨h2,h⟩|⟨h2,h⟩:=zK h
 cases h
 exact tF zMf 0 [] (oB 0 h2 k)
 have k:=oB 0 h2 k
 obtain⟨h3,h⟩|⟨h3,h⟩:=zK h
 cases h
 exact tF zMf 0 [] (oB 0 h3 k)
 have k:=oB 0 h3 k
 obtain⟨h4,h⟩|⟨h4,h⟩:=zK h
 cases h
 exact tF zMf 0 [] (oB 0 h4 k)
 cases h
 exact tF zMf 0 [] (oB 0 h4 k),⟨tv,tv⟩,zA,tv,zA⟩
def zFC(b:Nat)(a:Int):Option Bool:=
 if a==40 then
 some true
 else
 if a==41 then
 some true
 else
 if a==123 then
 some true
 else
 if a==125 then
 some true
 else
 if a==58 then
 some true
 else
 if a==61 then
 some true
 else
 if a==46 then
 some true
 else
 if a==44 then
 some true
 else
 if a==59 then
 some true
 else
 if a==124 then
 some true
 else
 if a==92 then
 some true
 else
 if a==45 then
 some true
 else
 if a==62 then
 some true
 else
 if a==955 then
 some true
 else
 if a==8594 then
 some true
 else
 some false
theorem fJ:Qf 196 f196:=⟨func196,rfl⟩
theorem zXZ{b a r}(h:zFC b a=some r):Ct 196 [] [ai a] (ab r) [] 0:=⟨by
 unfold zFC at h
 obtain⟨h1,h⟩|⟨h1,h⟩:=zK h
 cases h
 exact tF fJ 0 [] (oB 0 h1 o0)
 have k:=oB 0 h1 o0
 obtain⟨h2,h⟩|⟨h2,h⟩:=zK h
 cases h
 exact tF fJ 0 [] (oB 0 h2 k)
 have k:=oB 0 h2 k
 obtain⟨h3,h⟩|⟨h3,h⟩:=zK h
 cases h
 exact tF fJ 0 [] (oB 0 h3 k)
 have k:=oB 0 h3 k
 obtain⟨h4,h⟩|⟨h4,h⟩:=zK h
 cases h
 exact tF fJ 0 [] (oB 0 h4 k)
 have k:=oB 0 h4 k
 obtain⟨h5,h⟩|⟨h5,h⟩:=zK h
 cases h
 exact tF fJ 0 [] (oB 0 h5 k)
 have k:=oB 0 h5 k
 obtain⟨h6,h⟩|⟨h6,h⟩:=zK h
 cases h
 exact tF fJ 0 [] (oB 0 h6 k)
 have k:=oB 0 h6 k
 obtain⟨h7,h⟩|⟨h7,h⟩:=zK h
 cases h
 exact tF fJ 0 [] (oB 0 h7 k)
 have k:=oB 0 h7 k
 obtain⟨h8,h⟩|⟨h8,h⟩:=zK h
 cases h
 exact tF fJ 0 [] (oB 0 h8 k)
 have k:=oB 0 h8 k
 obtain⟨h9,h⟩|⟨h9,h⟩:=zK h
 cases h
 exact tF fJ 0 [] (oB 0 h9 k)
 have k:=oB 0 h9 k
 obtain⟨h10,h⟩|⟨h10,h⟩:=zK h
 cases h
 exact tF fJ 0 [] (oB 0 h10 k)
 have k:=oB 0 h10 k
 obtain⟨h11,h⟩|⟨h11,h⟩:=zK h
 cases h
 exact tF fJ 0 [] (oB 0 h11 k)
 have k:=oB 0 h11 k
 obtain⟨h12,h⟩|⟨h12,h⟩:=zK h
 cases h
 exact tF fJ 0 [] (oB 0 h12 k)
 have k:=oB 0 h12 k
 obtain⟨h13,h⟩|⟨h13,h⟩:=zK h
 cases h
 exact tF fJ 0 [] (oB 0 h13 k)
 have k:=oB 0 h13 k
 obtain⟨h14,h⟩|⟨h14,h⟩:=zK h
 cases h
 exact tF fJ 0 [] (oB 0 h14 k)
 have k:=oB 0 h14 k
 obtain⟨h15,h⟩|⟨h15,h⟩:=zK h
 cases h
 exact tF fJ 0 [] (oB 0 h15 k)
 cases h
 exact tF fJ 0 [] (oB 0 h15 k),⟨tv,tv⟩,zA,tv,zA⟩
def Y1(b:Nat)(a:Int):Option Bool:=
 if decide (a<128)then
 if decide (a≥97)then
 if decide (a≤122)then
 some true
 else
 if decide (a≥65)then
 some (decide (a≤90))
 else
 some false
 else
 if decide (a≥65)then
 some (decide (a≤90))
 else
 some false
 else
 Y0 b a>>=fun r6=>
 if r6 then
 zFC b a>>=fun r9=>
 if r9 then
 some false
 else
 if a != 160 then
 if decide (a<8192)then
 some true
 else
 some (decide (a>8303))
 else
 some false
 else
 some false
theorem Y2:Qf 142 f142:=⟨func142,rfl⟩
theorem zDh{b a r}(h:Y1 b a=some r):Ct 142 [] [ai a] (ab r) [] 0:=⟨by
 unfold Y1 at h
 obtain⟨h1,h⟩|⟨h1,h⟩:=zK h
 have k:=oB 0 h1 o0
 obtain⟨h2,h⟩|⟨h2,h⟩:=zK h
 have k:=oB 0 h2 k
 obtain⟨h3,h⟩|⟨h3,h⟩:=zK h
 cases h
 exact tF Y2 0 [] (oB 0 h3 k)
 have k:=oB 0 h3 k
 obtain⟨h4,h⟩|⟨h4,h⟩:=zK h
 cases h
 exact tF Y2 1 [] (oB 0 h4 k)
 cases h
 exact tF Y2 0 [] (oB 0 h4 k)
 have k:=oB 0 h2 k
 obtain⟨h5,h⟩|⟨h5,h⟩:=zK h
 cases h
 exact tF Y2 1 [] (oB 0 h5 k)
 cases h
 exact tF Y2 0 [] (oB 0 h5 k)
 obtain⟨r6,h7,h⟩:=zB h
 have k:=oB 0 h1 o0
 obtain⟨h8,h⟩|⟨h8,h⟩:=zK h
 obtain⟨r9,h10,h⟩:=zB h
 have k:=oK 0 [] h8 (zJc h7) k
 obtain⟨h11,h⟩|⟨h11,h⟩:=zK h
 cases h
 exact tF Y2 1 [] (oK 0 [] h11 (zXZ h10) k)
 have k:=oK 0 [] h11 (zXZ h10) k
 obtain⟨h12,h⟩|⟨h12,h⟩:=zK h
 have k:=oB 1 h12 k
 obtain⟨h13,h⟩|⟨h13,h⟩:=zK h
 cases h
 exact tF Y2 0 [] (oB 0 h13 k)
 cases h
 exact tF Y2 1 [] (oB 0 h13 k)
 cases h
 exact tF Y2 0 [] (oB 1 h12 k)
 cases h
 exact tF Y2 0 [] (oK 0 [] h8 (zJc h7) k),⟨tv,tv⟩,zA,tv,zA⟩
def R2(b:Nat)(a:Int):Option Bool:=
 if decide (a≥48)then
 some (decide (a≤57))
 else
 some false
theorem zYz:Qf 194 f194:=⟨func194,rfl⟩
theorem zDg{b a r}(h:R2 b a=some r):Ct 194 [] [ai a] (ab r) [] 0:=⟨by
 unfold R2 at h
 obtain⟨h1,h⟩|⟨h1,h⟩:=zK h
 cases h
 exact tF zYz 1 [] (oB 0 h1 o0)
 cases h
 exact tF zYz 0 [] (oB 0 h1 o0),⟨tv,tv⟩,zA,tv,zA⟩
def zFD(b:Nat)(a:Int):Option Bool:=
 Y1 b a>>=fun r1=>
 if r1 then
 some true
 else
 R2 b a>>=fun r4=>
 if r4 then
 some true
 else
 if a==95 then
 some true
 else
 some (a==39)
theorem zPJ:Qf 141 f141:=⟨func141,rfl⟩
theorem zYy{b a r}(h:zFD b a=some r):Ct 141 [] [ai a] (ab r) [] 0:=⟨by
 unfold zFD at h
 obtain⟨r1,h2,h⟩:=zB h
 obtain⟨h3,h⟩|⟨h3,h⟩:=zK h
 cases h
 exact tF zPJ 0 [] (oK 0 [] h3 (zDh h2) o0)
 obtain⟨r4,h5,h⟩:=zB h
 have k:=oK 0 [] h3 (zDh h2) o0
 obtain⟨h6,h⟩|⟨h6,h⟩:=zK h
 cases h
 exact tF zPJ 0 [] (oK 0 [] h6 (zDg h5) k)
 have k:=oK 0 [] h6 (zDg h5) k
 obtain⟨h7,h⟩|⟨h7,h⟩:=zK h
 cases h
 exact tF zPJ 0 [] (oB 0 h7 k)
 cases h
 exact tF zPJ 1 [] (oB 0 h7 k),⟨tv,tv⟩,zA,tv,zA⟩
def mL:Nat->List ByteArray->Int->(List (ByteArray×Int))->Option Bool
 |0,_,_,_=>none
 |c+1,b,d,a=>
 if decide (d<(b.length:Int))then
 zP b d>>=fun x2=>
 if decide ((oJ a x2)>0)then
 some false
 else
 mL c b (yN (d+1)) (cX a x2 (yN ((oJ a x2)+1)))
 else
 some true
def e39(c:Nat)(b:List ByteArray):Option Bool:=
 mL c b 0 ([]:List (ByteArray×Int))
theorem zTI:∀c:Nat,(∀ {b d a r},mL c b d a=some r->(∀j,dL 0 (pt 4021 f39) (sp j 22 0 [(3,.obj 0),(7,zH xJ b .no),(8,ai (b.length:Int)),(9,ai d)]) (⟨[(0,P3 a)],1,[],0,[]⟩) (fQ 0 (nQ 0 f39 (ab r) [] 0) [.blk 0,.seq (pt 63 f39)]))):=by
 intro c
 induction c with
 |zero=>
  exact fun h=>nn h
 |succ c ih=>
  intro b d a r h
  rw[mL]at h
  obtain⟨h1,h⟩|⟨h1,h⟩:=zK h
  obtain⟨x2,h3,h⟩:=zB h
  have k:=oL 1 (zLK a x2)<|oA 0 (zJo (o:=.no) h3)<|oB 0 h1 o0
  obtain⟨h4,h⟩|⟨h4,h⟩:=zK h
  cases h
  exact fun j=>lF 0 [] (oB 0 h4 k)
  exact fun j=>lH 1 [] [0] [] [3,7,8,9] (oD (dS b)<|oU 1 (zXa a x2 (yN ((oJ a x2)+1)))<|oL 0 (zLK a x2)<|oB 0 h4 k) (ih h)
  cases h
  exact fun j=>lF 0 [] (oB 0 h1 o0)
theorem c39{c b r}(h:e39 c b=some r):Ct 39 [] [zH xJ b .no] (ab r) [] 0:=⟨by
 unfold e39 at h
 exact tH ⟨func39,rfl⟩ 1 [] [0] [] [3,7,8,9] (oD (dS b) o0) (zTI _ h),⟨⟨tv,dS _⟩,tv⟩,zA,tv,zA⟩
def mM:Nat->(yD×Int×Int)->Int->Option Bool
 |0,_,_=>none
 |b+1,r1,a=>
 if decide (a<(r1.1.length:Int))then
 zP r1.1 a>>=fun x10=>
 zFD b x10>>=fun r12=>
 if r12 then
 mM b r1 (yN (a+1))
 else
 some false
 else
 zP r1.1 0>>=fun x15=>
 Y1 b x15>>=fun r17=>
 if r17 then
 some true
 else
 if x15==95 then
 some (decide ((r1.1.length:Int)>1))
 else
 some false
def e79(b:Nat)(c:ByteArray):Option Bool:=
 zAN b c>>=fun r1=>
 if r1.2.2 != 0 then
 some false
 else
 if (r1.1.length:Int)==0 then
 some false
 else
 if decide ((c.size:Int)>40)then
 some false
 else
 zDi b c>>=fun r6=>
 if r6 then
 some false
 else
 mM b r1 0
theorem q79:Qf 79 f79:=⟨func79,rfl⟩
theorem zTJ:∀b:Nat,(∀ {r1 a r},mM b r1 a=some r->(∀j,dL 0 (pt 16309 f79) (sp j 55 0 [(3,zH zU r1.1 .no),(30,zH zU r1.1 .no),(31,ai (r1.1.length:Int)),(32,ai a)]) (⟨[],0,[],0,[]⟩) (fQ 0 (nQ 0 f79 (ab r) [] 0) [.blk 0,.seq (pt 255 f79)]))):=by
 intro b
 induction b with
 |zero=>
  exact fun h=>nn h
 |succ b ih=>
  intro r1 a r h
  rw[mM]at h
  obtain⟨h9,h⟩|⟨h9,h⟩:=zK h
  obtain⟨x10,h11,h⟩:=zB h
  obtain⟨r12,h13,h⟩:=zB h
  have k:=oA 0 (uH (o:=.no) h11)<|oB 0 h9 o0
  obtain⟨h14,h⟩|⟨h14,h⟩:=zK h
  exact fun j=>lH 2 [] [] [] [3,30,31,32] (oD (dI r1.1)<|oD (dI r1.1)<|oK 1 [] h14 (zYy h13) k) (ih h)
  cases h
  exact fun j=>lF 1 [] (oK 1 [] h14 (zYy h13) k)
  obtain⟨x15,h16,h⟩:=zB h
  obtain⟨r17,h18,h⟩:=zB h
  have k:=oA 0 (uH (o:=.no) h16)<|oB 0 h9 o0
  obtain⟨h19,h⟩|⟨h19,h⟩:=zK h
  cases h
  exact fun j=>lF 0 [] (oK 1 [] h19 (zDh h18) k)
  have k:=oA 0 (uH (o:=.no) h16)<|oK 1 [] h19 (zDh h18) k
  obtain⟨h20,h⟩|⟨h20,h⟩:=zK h
  cases h
  exact fun j=>lF 2 [] (oB 1 h20 k)
  cases h
  exact fun j=>lF 0 [] (oB 1 h20 k)
theorem c79{b c r}(h:e79 b c=some r):Ct 79 [] [at' c] (ab r) [] 0:=⟨by
 unfold e79 at h
 obtain⟨r1,h2,h⟩:=zB h
 have k:=oC 0 [] (zXY h2) o0
 obtain⟨h3,h⟩|⟨h3,h⟩:=zK h
 cases h
 exact tF q79 0 [] (oB 3 h3 k)
 have k:=oB 3 h3 k
 obtain⟨h4,h⟩|⟨h4,h⟩:=zK h
 cases h
 exact tF q79 0 [] (oB 1 h4 k)
 have k:=oB 1 h4 k
 obtain⟨h5,h⟩|⟨h5,h⟩:=zK h
 cases h
 exact tF q79 0 [] (oB 1 h5 k)
 obtain⟨r6,h7,h⟩:=zB h
 have k:=oB 1 h5 k
 obtain⟨h8,h⟩|⟨h8,h⟩:=zK h
 cases h
 exact tF q79 0 [] (oK 0 [] h8 (zPI h7) k)
 exact tH q79 1 [] [] [] [3,30,31,32] (oD (dI r1.1)<|oD (dI r1.1)<|oK 0 [] h8 (zPI h7) k) (zTJ _ h),⟨tv,tv⟩,zA,tv,zA⟩
theorem zMe(c:Int):yJ (fun q=>zFA q c) fun r=>0≤r.1∧r.1≤4:=by
 simp only[zFA]
 repeat' (first|exact yJ.ret ⟨by simp,by simp⟩|refine yJ.ite (fun _=>?_) (fun _=>?_))
theorem zJb(n:Int):yJ (fun q=>zDj q n) fun _=>True:=by
 simp only[zDj]
 repeat' (first|exact yJ.ret trivial|refine yJ.ite (fun _=>?_) (fun _=>?_))
theorem R3(n:Int):yJ (fun q=>Y0 q n) fun _=>True:=by
 simp only[Y0]
 repeat' (first|exact yJ.ret trivial|refine yJ.ite (fun _=>?_) (fun _=>?_))
theorem zDf{s:ByteArray}{i:Int}(h0:0≤i)(h1:i<s.size):∃c,pG s i=some c:=by
 unfold pG
 simp[h0,h1]
theorem zJa(s:ByteArray)(a:Int)(w:Int×Int)(ha:0≤a)(hs:s.size≤65535)(hw:a+w.1≤s.size)(hw1:1≤w.1):∀(m:Nat) (i n:Int),1≤i->i+m=w.1->yJ (fun q=>rP q s a w n i) fun r=>r.2.2=0->r.2.1=w.1:=by
 intro m
 induction m with
 |zero=>
  intro i n hi hm
  refine yJ.succ ?_
  simp only[rP]
  refine yJ.ite (fun h=>absurd (of_decide_eq_true h) (by omega)) fun _=>(R3 n).bind fun b _=>?_
  refine yJ.ite (fun _=>(zJb n).bind fun c _=>yJ.ite (fun _=>yJ.ret (by simp)) fun _=>yJ.ret (by simp)) fun _=>yJ.ret (by simp)
 |succ m ih=>
  intro i n hi hm
  refine yJ.succ ?_
  simp only[rP]
  obtain⟨c,hc⟩:=zDf (s:=s) (i:=a+i) (by omega) (by omega)
  refine yJ.ite (fun _=>yJ.pure (a:=c) (by rw[zW (by omega) (by omega)];exact hc) (yJ.ite (fun _=>yJ.ret (by simp)) fun _=>?_)) fun h=>absurd (of_decide_eq_false h) (by omega)
  rw[zW (x:=i+1) (by omega) (by omega)]
  exact ih (i+1) _ (by omega) (by omega)
theorem zMd(s:ByteArray)(a:Int)(ha:0≤a)(hs:s.size≤65535):yJ (fun q=>zFB q s a) fun r=>r.2.2=0->1≤r.2.1∧a+r.2.1≤s.size:=by
 simp only[zFB]
 refine yJ.ite (fun _=>yJ.ret (by simp)) fun _=>yJ.ite (fun _=>yJ.ret (by simp)) fun h=>?_
 have h1:=of_decide_eq_false h
 obtain⟨c,hc⟩:=zDf (s:=s) (i:=a) ha (by omega)
 refine yJ.pure hc ((zMe c).bind fun w hw=>yJ.ite (fun _=>yJ.ret (by simp)) fun h2=>yJ.ite (fun _=>yJ.ret (by simp)) fun h3=>?_)
 have h4:=of_decide_eq_false h3
 rw[zW (by omega) (by omega)]at h4
 have h5:w.1≠0:=by simpa using h2
 refine(zJa s a w ha hs (by omega) (by omega) (w.1-1).toNat 1 w.2 (by omega) (by omega)).mono fun r hr h6=>?_
 have:=hr h6
 omega
theorem zMc(s:ByteArray)(hs:s.size≤65535):∀(m:Nat) (a:Int) (acc:List Int),0≤a->a≤s.size->(s.size:Int)-a≤m->(acc.length:Int)≤a->yJ (fun q=>sT q s acc a) fun r=>r.1.length≤65535:=by
 intro m
 induction m with
 |zero=>
  intro a acc h0 h1 hm hl
  refine yJ.succ ?_
  simp only[sT]
  refine yJ.ite (fun h=>absurd (of_decide_eq_true h) (by omega)) fun _=>yJ.ret (by show acc.length≤65535;omega)
 |succ m ih=>
  intro a acc h0 h1 hm hl
  refine yJ.succ ?_
  simp only[sT]
  refine yJ.ite (fun _=>(zMd s a h0 hs).bind fun r hr=>yJ.ite (fun _=>yJ.ret (by simp)) fun h=>yJ.pure (yU (by simp<;>omega)) ?_) fun _=>yJ.ret (by show acc.length≤65535;omega)
  have:=hr (by simpa using h)
  rw[zW (by omega) (by omega)]
  exact ih (a+r.2.1) _ (by omega) (by omega) (by omega) (by simp;omega)
theorem zPL(s:ByteArray):yJ (fun q=>zAN q s) fun r=>r.1.length≤65535:=by
 simp only[zAN]
 refine yJ.ite (fun _=>yJ.ret (by simp)) fun h=>?_
 have:=of_decide_eq_false h
 exact zMc s (by omega) s.size 0 [] (by omega) (by omega) (by omega) (by simp)
theorem zMb(n:Int):yJ (fun q=>zFC q n) fun _=>True:=by
 simp only[zFC]
 repeat' (first|exact yJ.ret trivial|refine yJ.ite (fun _=>?_) (fun _=>?_))
theorem R4(n:Int):yJ (fun q=>Y1 q n) fun _=>True:=by
 simp only[Y1]
 repeat' (first|exact yJ.ret trivial|refine yJ.ite (fun _=>?_) (fun _=>?_)|refine yJ.bind (R3 n) (fun _ _=>?_)|refine yJ.bind (zMb n) (fun _ _=>?_))
theorem zJA(n:Int):yJ (fun q=>R2 q n) fun _=>True:=by
 simp only[R2]
 repeat' (first|exact yJ.ret trivial|refine yJ.ite (fun _=>?_) (fun _=>?_))
theorem zJB(n:Int):yJ (fun q=>zFD q n) fun _=>True:=by
 simp only[zFD]
 repeat' (first|exact yJ.ret trivial|refine yJ.ite (fun _=>?_) (fun _=>?_)|refine yJ.bind (R4 n) (fun _ _=>?_)|refine yJ.bind (zJA n) (fun _ _=>?_))
theorem zDe(s:ByteArray):yJ (fun q=>zDi q s) fun _=>True:=by
 simp only[zDi]
 repeat' (first|exact yJ.ret trivial|refine yJ.ite (fun _=>?_) (fun _=>?_))
theorem G3(r1:List Int×Int×Int)(h0:0<r1.1.length)(h1:r1.1.length≤65535):∀(l:List Int) (v:Nat),r1.1.drop v=l->yJ (fun q=>mM q r1 (v:Int)) fun _=>True
 | [],v,hd=>by
  refine yJ.succ ?_
  simp only[mM]
  obtain⟨y,hy⟩:∃y,zP r1.1 0=some y:=⟨_,by unfold zP;rw[if_pos (by omega)];exact List.getElem?_eq_getElem h0⟩
  refine yJ.ite (fun h=>?_) fun _=>yJ.pure hy ?_
  ·rw[yO hd]at h;cases h
  ·repeat' (first|exact yJ.ret trivial|refine yJ.ite (fun _=>?_) (fun _=>?_)|refine yJ.bind (R4 y) (fun _ _=>?_))
 |x::l,v,hd=>by
  have hlt:=yT hd
  refine yJ.succ ?_
  simp only[mM]
  refine yJ.ite (fun _=>yJ.pure (yC hd) ((zJB x).bind fun b _=>yJ.ite (fun _=>?_) fun _=>yJ.ret trivial)) fun h=>?_
  ·rw[yB v (by omega)]
   exact G3 r1 h0 h1 l (v+1) (zV hd)
  ·rw[yL hd]at h;cases h
theorem zFE(s:ByteArray):yJ (fun q=>e79 q s) fun _=>True:=by
 simp only[e79]
 refine(zPL s).bind fun r hr=>yJ.ite (fun _=>yJ.ret trivial) fun _=>yJ.ite (fun _=>yJ.ret trivial) fun h=>yJ.ite (fun _=>yJ.ret trivial) fun _=>(zDe s).bind fun _ _=>yJ.ite (fun _=>yJ.ret trivial) fun _=>?_
 exact G3 r (by simp at h;exact List.length_pos_iff.2 h) hr r.1 0 rfl
theorem fY:∀(r l:List ByteArray) (v:Nat) (m:List (ByteArray×Int)),l.drop v=r->l.length≤65535->yJ (fun q=>mL q l (v:Int) m) fun _=>True
 | [],l,v,m,hd,hl=>by
  refine yJ.succ ?_
  simp only[mL]
  refine yJ.ite (fun h=>?_) fun _=>yJ.ret trivial
  rw[yO hd]at h;cases h
 |x::r,l,v,m,hd,hl=>by
  have hlt:=yT hd
  refine yJ.succ ?_
  simp only[mL]
  refine yJ.ite (fun _=>yJ.pure (yC hd) (yJ.ite (fun _=>yJ.ret trivial) fun _=>?_)) fun h=>?_
  ·rw[yB v (by omega)]
   exact fY r l (v+1) _ (zV hd) hl
  ·rw[yL hd]at h;cases h
theorem zAO(l:List ByteArray)(hl:l.length≤65535):yJ (fun q=>e39 q l) fun _=>True:=by
 simp only[e39]
 exact fY l l 0 _ rfl hl
def zJC(b:Nat)(a:Tm):Option Bool:=
 if a.k==0 then
 if a.n==0 then
 some ((a.sub.length:Int)==0)
 else
 some false
 else
 some false
theorem zTK:Qf 144 f144:=⟨func144,rfl⟩
theorem zPM{b a r}(h:zJC b a=some r):Ct 144 [] [yV a] (ab r) [] 0:=⟨by
 unfold zJC at h
 obtain⟨h1,h⟩|⟨h1,h⟩:=zK h
 have k:=oB 1 h1 o0
 obtain⟨h2,h⟩|⟨h2,h⟩:=zK h
 cases h
 exact tF zTK 3 [] (oB 1 h2 k)
 cases h
 exact tF zTK 0 [] (oB 1 h2 k)
 cases h
 exact tF zTK 0 [] (oB 1 h1 o0),⟨⟨tv,tv,⟨tv,dT _⟩,tv⟩,tv⟩,zA,tv,zA⟩
def kI:Nat->yD->Int->Int->Option Bool
 |0,_,_,_=>none
 |c+1,a,b,d=>
 if decide (d<(a.length:Int))then
 zP a d>>=fun x2=>
 if x2 != (yN (b+d))then
 some false
 else
 kI c a b (yN (d+1))
 else
 some true
def zJD(c:Nat)(a:yD)(b:Int):Option Bool:=
 kI c a b 0
theorem zPN:∀c:Nat,(∀ {a b d r},kI c a b d=some r->(∀j,dL 0 (pt 949 f146) (sp j 20 0 [(1,ai b),(7,zH zU a .no),(8,ai (a.length:Int)),(9,ai d)]) (⟨[],0,[],0,[]⟩) (fQ 0 (nQ 0 f146 (ab r) [] 0) [.blk 0,.seq (pt 15 f146)]))):=by
 intro c
 induction c with
 |zero=>
  exact fun h=>nn h
 |succ c ih=>
  intro a b d r h
  rw[kI]at h
  obtain⟨h1,h⟩|⟨h1,h⟩:=zK h
  obtain⟨x2,h3,h⟩:=zB h
  have k:=oA 0 (uH (o:=.no) h3)<|oB 0 h1 o0
  obtain⟨h4,h⟩|⟨h4,h⟩:=zK h
  cases h
  exact fun j=>lF 0 [] (oB 2 h4 k)
  exact fun j=>lH 1 [] [] [] [1,7,8,9] (oD (dI a)<|oB 2 h4 k) (ih h)
  cases h
  exact fun j=>lF 0 [] (oB 0 h1 o0)
theorem zPO{c a b r}(h:zJD c a b=some r):Ct 146 [] [zH zU a .no,ai b] (ab r) [] 0:=⟨by
 unfold zJD at h
 exact tH ⟨func146,rfl⟩ 1 [] [] [] [1,7,8,9] (oD (dI a) o0) (zPN _ h),⟨⟨tv,dI _⟩,tv,tv⟩,zA,tv,zA⟩
def e42(d:Nat)(b:zY)(a c:Int):Option Bool:=
 if decide (a≥0)then
 if decide (a<(b.length:Int))then
 zP b a>>=fun x3=>
 some (x3.kind==c)
 else
 some false
 else
 some false
theorem q42:Qf 42 f42:=⟨func42,rfl⟩
theorem c42{d b a c r}(h:e42 d b a c=some r):Ct 42 [] [zH yA b .no,ai a,ai c] (ab r) [] 0:=⟨by
 unfold e42 at h
 obtain⟨h1,h⟩|⟨h1,h⟩:=zK h
 have k:=oB 0 h1 o0
 obtain⟨h2,h⟩|⟨h2,h⟩:=zK h
 obtain⟨x3,h4,h⟩:=zB h
 cases h
 exact tF q42 2 [] (oA 0 (xK (o:=.no) h4)<|oB 1 h2 k)
 cases h
 exact tF q42 0 [] (oB 1 h2 k)
 cases h
 exact tF q42 0 [] (oB 0 h1 o0),⟨⟨tv,dE _⟩,tv,tv,tv⟩,zA,tv,zA⟩
def kJ:Nat->zY->Int->yD->Int->Int->Option Bool
 |0,_,_,_,_,_=>none
 |d+1,c,e,b,f,a=>
 if decide (a<(b.length:Int))then
 zP b a>>=fun x2=>
 e42 d c x2 f>>=fun r4=>
 if r4 then
 zP c x2>>=fun x7=>
 if x7.fam != e then
 some false
 else
 if x7.place != a then
 some false
 else
 kJ d c e b f (yN (a+1))
 else
 some false
 else
 some true
def zJE(d:Nat)(c:zY)(e:Int)(b:yD)(f:Int):Option Bool:=
 kJ d c e b f 0
theorem zPP:∀d:Nat,(∀ {c e b f a r},kJ d c e b f a=some r->(∀j,dL 0 (pt 949 f147) (sp j 42 0 [(0,zH yA c .no),(1,ai e),(3,ai f),(11,zH zU b .no),(12,ai (b.length:Int)),(13,ai a)]) (⟨[],0,[],0,[]⟩) (fQ 0 (nQ 0 f147 (ab r) [] 0) [.blk 0,.seq (pt 15 f147)]))):=by
 intro d
 induction d with
 |zero=>
  exact fun h=>nn h
 |succ d ih=>
  intro c e b f a r h
  rw[kJ]at h
  obtain⟨h1,h⟩|⟨h1,h⟩:=zK h
  obtain⟨x2,h3,h⟩:=zB h
  obtain⟨r4,h5,h⟩:=zB h
  have k:=oA 0 (uH (o:=.no) h3)<|oB 0 h1 o0
  obtain⟨h6,h⟩|⟨h6,h⟩:=zK h
  obtain⟨x7,h8,h⟩:=zB h
  have k:=oA 1 (xK (o:=.no) h8)<|oK 1 [] h6 (c42 h5) k
  obtain⟨h9,h⟩|⟨h9,h⟩:=zK h
  cases h
  exact fun j=>lF 0 [] (oB 1 h9 k)
  have k:=oA 0 (xK (o:=.no) h8)<|oB 1 h9 k
  obtain⟨h10,h⟩|⟨h10,h⟩:=zK h
  cases h
  exact fun j=>lF 0 [] (oB 1 h10 k)
  exact fun j=>lH 1 [] [] [] [0,1,3,11,12,13] (oD (dI b)<|oD (dE c)<|oB 1 h10 k) (ih h)
  cases h
  exact fun j=>lF 1 [] (oK 1 [] h6 (c42 h5) k)
  cases h
  exact fun j=>lF 0 [] (oB 0 h1 o0)
theorem zPQ{d c e b f r}(h:zJE d c e b f=some r):Ct 147 [] [zH yA c .no,ai e,zH zU b .no,ai f] (ab r) [] 0:=⟨by
 unfold zJE at h
 exact tH ⟨func147,rfl⟩ 1 [] [] [] [0,1,3,11,12,13] (oD (dI b)<|oD (dE c) o0) (zPP _ h),⟨⟨tv,dE _⟩,tv,⟨tv,dI _⟩,tv,tv⟩,zA,tv,zA⟩
def e80(b:Nat)(a:Tm)(c:Int):Option Bool:=
 zAB b a 0 c>>=fun r1=>
 if r1 then
 zLY b a>>=fun r4=>
 some ((r4.length:Int)==0)
 else
 some false
theorem q80:Qf 80 f80:=⟨func80,rfl⟩
theorem c80{b a c r}(h:e80 b a c=some r):Ct 80 [] [yV a,ai c] (ab r) [] 0:=⟨by
 unfold e80 at h
 obtain⟨r1,h2,h⟩:=zB h
 obtain⟨h3,h⟩|⟨h3,h⟩:=zK h
 obtain⟨r4,h5,h⟩:=zB h
 cases h
 exact tF q80 2 [] (oC 1 [] (yAH h5)<|oK 1 [] h3 (zDx h2) o0)
 cases h
 exact tF q80 0 [] (oK 1 [] h3 (zDx h2) o0),⟨⟨tv,tv,⟨tv,dT _⟩,tv⟩,tv,tv⟩,zA,tv,zA⟩
def e81(a:Nat)(c:zY)(b:Int):Option Bool:=
 zP c b>>=fun x1=>
 if decide (x1.pars<0)then
 some false
 else
 if decide (x1.inds<0)then
 some false
 else
 if decide (x1.pars>24)then
 some false
 else
 if decide (x1.inds>(yN (24-x1.pars)))then
 some false
 else
 if x1.fam != 0 then
 some false
 else
 if x1.place != 0 then
 some false
 else
 zJC a x1.body>>=fun r9=>
 if r9 then
 R1 a x1.type (yN (x1.pars+x1.inds))>>=fun r12=>
 if r12.2.2 != 0 then
 some false
 else
 if r12.2.1.k != 2 then
 some false
 else
 if r12.2.1.n != x1.level then
 some false
 else
 if decide ((x1.cons.length:Int)>16)then
 some false
 else
 zJD a x1.cons (yN (b+1))>>=fun r18=>
 if r18 then
 zJE a c b x1.cons 2>>=fun r21=>
 if r21 then
 if (x1.fields.length:Int)==0 then
 some true
 else
 if x1.inds != 0 then
 some false
 else
 if (x1.cons.length:Int) != 1 then
 some false
 else
 zJD a x1.fields (yN (b+2))>>=fun r27=>
 if r27 then
 zJE a c b x1.fields 4>>=fun r30=>
 if r30 then
 zP c (yN (b+1))>>=fun x33=>
 zDl a x33.type>>=fun r35=>
 if r35.2.2==0 then
 some ((r35.1.length:Int)==(yN (x1.pars+(x1.fields.length:Int))))
 else
 some false
 else
 some false
 else
 some false
 else
 some false
 else
 some false
 else
 some false
theorem s6:Qf 81 f81:=⟨func81,rfl⟩
theorem c81{a c b r}(h:e81 a c b=some r):Ct 81 [] [zH yA c .no,ai b] (ab r) [] 0:=⟨by
 unfold e81 at h
 obtain⟨x1,h2,h⟩:=zB h
 have k:=oA 0 (xK (o:=.no) h2) o0
 obtain⟨h3,h⟩|⟨h3,h⟩:=zK h
 cases h
 exact tF s6 0 [] (oB 3 h3 k)
 have k:=oB 3 h3 k
 obtain⟨h4,h⟩|⟨h4,h⟩:=zK h
 cases h
 exact tF s6 0 [] (oB 1 h4 k)
 have k:=oB 1 h4 k
 obtain⟨h5,h⟩|⟨h5,h⟩:=zK h
 cases h
 exact tF s6 0 [] (oB 1 h5 k)
 have k:=oB 1 h5 k
 obtain⟨h6,h⟩|⟨h6,h⟩:=zK h
 cases h
 exact tF s6 0 [] (oB 3 h6 k)
 have k:=oB 3 h6 k
 obtain⟨h7,h⟩|⟨h7,h⟩:=zK h
 cases h
 exact tF s6 0 [] (oB 1 h7 k)
 have k:=oB 1 h7 k
 obtain⟨h8,h⟩|⟨h8,h⟩:=zK h
 cases h
 exact tF s6 0 [] (oB 1 h8 k)
 obtain⟨r9,h10,h⟩:=zB h
 have k:=oB 1 h8 k
 obtain⟨h11,h⟩|⟨h11,h⟩:=zK h
 obtain⟨r12,h13,h⟩:=zB h
 have k:=oC 5 [] (zMj h13)<|oK 1 [] h11 (zPM h10) k
 obtain⟨h14,h⟩|⟨h14,h⟩:=zK h
 cases h
 exact tF s6 0 [] (oB 4 h14 k)
 have k:=oB 4 h14 k
 obtain⟨h15,h⟩|⟨h15,h⟩:=zK h
 cases h
 exact tF s6 0 [] (oB 1 h15 k)
 have k:=oB 1 h15 k
 obtain⟨h16,h⟩|⟨h16,h⟩:=zK h
 cases h
 exact tF s6 0 [] (oB 2 h16 k)
 have k:=oB 2 h16 k
 obtain⟨h17,h⟩|⟨h17,h⟩:=zK h
 cases h
 exact tF s6 0 [] (oB 2 h17 k)
 obtain⟨r18,h19,h⟩:=zB h
 have k:=oB 2 h17 k
 obtain⟨h20,h⟩|⟨h20,h⟩:=zK h
 obtain⟨r21,h22,h⟩:=zB h
 have k:=oK 2 [] h20 (zPO h19) k
 obtain⟨h23,h⟩|⟨h23,h⟩:=zK h
 have k:=oK 2 [] h23 (zPQ h22) k
 obtain⟨h24,h⟩|⟨h24,h⟩:=zK h
 cases h
 exact tF s6 0 [] (oB 3 h24 k)
 have k:=oB 3 h24 k
 obtain⟨h25,h⟩|⟨h25,h⟩:=zK h
 cases h
 exact tF s6 0 [] (oB 1 h25 k)
 have k:=oB 1 h25 k
 obtain⟨h26,h⟩|⟨h26,h⟩:=zK h
 cases h
 exact tF s6 0 [] (oB 2 h26 k)
 obtain⟨r27,h28,h⟩:=zB h
 have k:=oB 2 h26 k
 obtain⟨h29,h⟩|⟨h29,h⟩:=zK h
 obtain⟨r30,h31,h⟩:=zB h
 have k:=oK 2 [] h29 (zPO h28) k
 obtain⟨h32,h⟩|⟨h32,h⟩:=zK h
 obtain⟨x33,h34,h⟩:=zB h
 obtain⟨r35,h36,h⟩:=zB h
 have k:=oC 1 [] (zPA h36)<|oA 2 (xK (o:=.no) h34)<|oK 2 [] h32 (zPQ h31) k
 obtain⟨h37,h⟩|⟨h37,h⟩:=zK h
 cases h
 exact tF s6 6 [] (oB 4 h37 k)
 cases h
 exact tF s6 0 [] (oB 4 h37 k)
 cases h
 exact tF s6 1 [] (oK 2 [] h32 (zPQ h31) k)
 cases h
 exact tF s6 1 [] (oK 2 [] h29 (zPO h28) k)
 cases h
 exact tF s6 1 [] (oK 2 [] h23 (zPQ h22) k)
 cases h
 exact tF s6 1 [] (oK 2 [] h20 (zPO h19) k)
 cases h
 exact tF s6 1 [] (oK 1 [] h11 (zPM h10) k),⟨⟨tv,dE _⟩,tv,tv⟩,zA,tv,zA⟩
def iH(e:yE):Prop:=e.type.Ok∧e.body.Ok∧e.cons.length≤1152921504606846976∧e.fields.length≤1152921504606846976
def zE:yE:=yE.mk 0 ⟨#[]⟩ zT zT 0 0 0 0 0 [] []
def zJ(l:List yE)(n:Int):yE:=(l[n.toNat]?).getD zE
theorem yH{l:List yE}{n:Int}(h0:0≤n)(h1:n<l.length):zP l n=some (zJ l n):=by
 unfold zP zJ
 rw[if_pos h0]
 have:n.toNat<l.length:=by omega
 rw[List.getElem?_eq_getElem this];rfl
theorem uW{l:List yE}{n:Int}(h0:0≤n)(h1:n<l.length):zJ l n∈l:=by
 unfold zJ
 have:n.toNat<l.length:=by omega
 rw[List.getElem?_eq_getElem this]
 exact List.getElem_mem this
def mN(l:List yE)(n kind:Int):Bool:=decide (0≤n)&&decide (n<l.length)&&(zJ l n).kind==kind
theorem xM{l:List yE}{n kind:Int}(h:mN l n kind=true):0≤n∧n<l.length∧(zJ l n).kind=kind:=by
 unfold mN at h
 simp only[Bool.and_eq_true,decide_eq_true_eq,beq_iff_eq]at h
 exact⟨h.1.1,h.1.2,h.2⟩
theorem zMa(l:List yE)(n kind:Int):zF (fun q=>e42 q l n kind) (mN l n kind):=by
 simp only[e42]
 unfold mN
 by_cases h0:n≥0
 ·refine zF.ifT (decide_eq_true h0) ?_
  by_cases h1:n<l.length
  ·exact zF.ifT (decide_eq_true h1) (zF.pure (yH h0 h1) (zF.ret.eq (by simp[show 0≤n from h0,h1])))
  ·exact zF.ifF (decide_eq_false h1) (zF.ret.eq (by simp[h1]))
 ·exact zF.ifF (decide_eq_false h0) (zF.ret.eq (by simp[show ¬0≤n from h0]))
def nS(t:Tm):Bool:=t.k==0&&t.n==0&&(t.sub.length:Int)==0
theorem zAP(t:Tm):zF (fun q=>zJC q t) (nS t):=by
 refine zF.mk fun q=>?_
 unfold zJC nS
 by_cases h1:t.k=0<;>by_cases h2:t.n=0<;>by_cases h3:t.sub.length=0<;>simp[h1,h2,h3]
def wX(t:Tm)(n:Int):Bool:=tL t 0 n&&(nG t 8 8).isEmpty
theorem R5(t:Tm)(n:Int)(ho:t.Ok):zF (fun q=>e80 q t n) (wX t n):=by
 simp only[e80]
 refine(bG t 0 n ho).bind ?_
 unfold wX
 by_cases h:tL t 0 n=true
 ·refine zF.ifT h ((zMz t ho).bind (zF.ret.eq ?_))
  have hs:zI t=true:=by
   unfold tL at h;simp at h;exact h.1.1
  unfold u9
  rw[if_pos hs,h,Bool.true_and,Bool.eq_iff_iff]
  simp only[beq_iff_eq,List.isEmpty_iff]
  constructor
  ·intro h6
   have h6':wY (nG t 8 8)=[]:=List.length_eq_zero_iff.1 (by omega)
   refine List.eq_nil_iff_forall_not_mem.2 fun x hx=>?_
   rw[←bF,h6']at hx;cases hx
  ·intro h6
   rw[h6];rfl
 ·exact zF.ifF (by simpa using h) (zF.ret.eq (by simp[h]))
def mO:List Int->Int->Bool
 | [],_=>true
 |n::r,m=>n==m&&mO r (m+1)
theorem zDd(l:List Int)(f:Int)(hf:0≤f∧f≤1048576)(hl:l.length≤1152921504606846976):∀(r:List Int) (v:Nat),l.drop v=r->zF (fun q=>kI q l f (v:Int)) (mO r (f+v))
 | [],v,hd=>by
  refine zF.succ ?_
  simp only[kI]
  exact zF.ifF (yO hd) zF.ret
 |n::r,v,hd=>by
  have hlt:=yT hd
  refine zF.succ ?_
  simp only[kI]
  refine zF.ifT (yL hd) (zF.pure (yC hd) ?_)
  rw[zW (x:=f+v) (by omega) (by omega),mO]
  by_cases h:n=f+v
  ·refine zF.ifF (by simp[h]) ?_
   rw[yB v (by omega)]
   exact(zDd l f hf hl r (v+1) (zV hd)).eq (by rw[show f+((v+1:Nat):Int)=f+v+1 by omega];simp[h])
  ·exact zF.ifT (by simp[h]) (zF.ret.eq (by simp[h]))
theorem zHa(l:List Int)(f:Int)(hf:0≤f∧f≤1048576)(hl:l.length≤1152921504606846976):zF (fun q=>zJD q l f) (mO l f):=by
 simp only[zJD]
 exact(zDd l f hf hl l 0 rfl).eq (by simp)
def qY(l:List yE)(of kind:Int):List Int->Int->Bool
 | [],_=>true
 |n::r,k=>mN l n kind&&(zJ l n).fam==of&&(zJ l n).place==k&&qY l of kind r (k+1)
theorem G5(l:List yE)(of kind:Int)(p:List Int)(hp:p.length≤1152921504606846976):∀(r:List Int) (v:Nat),p.drop v=r->zF (fun q=>kJ q l of p kind (v:Int)) (qY l of kind r v)
 | [],v,hd=>by
  refine zF.succ ?_
  simp only[kJ]
  exact zF.ifF (yO hd) zF.ret
 |n::r,v,hd=>by
  have hlt:=yT hd
  refine zF.succ ?_
  simp only[kJ]
  refine zF.ifT (yL hd) (zF.pure (yC hd) ((zMa l n kind).bind ?_))
  rw[qY]
  by_cases h:mN l n kind=true
  ·have hs:=xM h
   refine zF.ifT h (zF.pure (yH hs.1 hs.2.1) ?_)
   by_cases h2:(zJ l n).fam=of
   ·refine zF.ifF (by simp[h2]) ?_
    by_cases h3:(zJ l n).place=v
    ·refine zF.ifF (by simp[h3]) ?_
     rw[yB v (by omega)]
     exact(G5 l of kind p hp r (v+1) (zV hd)).eq (by simp[h,h2,h3])
    ·exact zF.ifT (by simp[h3]) (zF.ret.eq (by simp[h3]))
   ·exact zF.ifT (by simp[h2]) (zF.ret.eq (by simp[h2]))
  ·exact zF.ifF (by simpa using h) (zF.ret.eq (by simp[h]))
theorem R6(l:List yE)(of kind:Int)(p:List Int)(hp:p.length≤1152921504606846976):zF (fun q=>zJE q l of p kind) (qY l of kind p 0):=by
 simp only[zJE]
 exact(G5 l of kind p hp p 0 rfl).eq (by simp)
def lJ(x:yE):Bool:=
 decide (0≤x.pars)&&decide (0≤x.inds)&&decide (x.pars≤24)&&decide (x.inds≤24-x.pars)&&x.fam==0&&x.place==0&&nS x.body
def C0(x:yE):Bool:=
 (xR x.type (x.pars+x.inds)).2.2==0&&(xR x.type (x.pars+x.inds)).2.1.k==2&&(xR x.type (x.pars+x.inds)).2.1.n==x.level
def fK(l:List yE)(i:Int)(x:yE):Bool:=
 decide (x.cons.length≤16)&&mO x.cons (i+1)&&qY l i 2 x.cons 0
def zFF(l:List yE)(i:Int)(x:yE):Bool:=
 x.inds==0&&decide (x.cons.length=1)&&mO x.fields (i+2)&&qY l i 4 x.fields 0&&(yR (zJ l (i+1)).type).2.2==0&&((yR (zJ l (i+1)).type).1.length:Int)==x.pars+x.fields.length
def sU(l:List yE)(i:Int):Bool:=
 lJ (zJ l i)&&C0 (zJ l i)&&fK l i (zJ l i)&&(decide ((zJ l i).fields.length=0)||zFF l i (zJ l i))
theorem zJF(l:List yE)(i:Int)(h0:0≤i)(h1:i<l.length)(hl:l.length≤65535)(he:∀e∈l,iH e):zF (fun q=>e81 q l i) (sU l i):=by
 simp only[e81]
 refine zF.pure (yH h0 h1) ?_
 have hx:=he _ (uW h0 h1)
 have hfl:(zJ l i).fields.length≤1152921504606846976:=hx.2.2.2
 unfold sU
 by_cases hA:lJ (zJ l i)=true
 ·have hA':=hA
  unfold lJ at hA'
  simp only[Bool.and_eq_true,decide_eq_true_eq,beq_iff_eq]at hA'
  obtain⟨⟨⟨⟨⟨⟨a1,a2⟩,a3⟩,a4⟩,a5⟩,a6⟩,a7⟩:=hA'
  refine zF.ifF (decide_eq_false (by omega)) (zF.ifF (decide_eq_false (by omega)) (zF.ifF (decide_eq_false (by omega)) (zF.ifF (decide_eq_false (by rw[zW (by omega) (by omega)];omega)) (zF.ifF (by simp[a5]) (zF.ifF (by simp[a6]) (((zAP _).eq a7).bind (zF.ifT rfl ?_)))))))
  rw[zW (by omega) (by omega)]
  refine(bO (zJ l i).type _ hx.1).bind ?_
  rw[hA]
  by_cases b1:(xR (zJ l i).type ((zJ l i).pars+(zJ l i).inds)).2.2=0
  ·refine zF.ifF (by simp[b1]) ?_
   by_cases b2:(xR (zJ l i).type ((zJ l i).pars+(zJ l i).inds)).2.1.k=2
   ·refine zF.ifF (by simp[b2]) ?_
    by_cases b3:(xR (zJ l i).type ((zJ l i).pars+(zJ l i).inds)).2.1.n=(zJ l i).level
    ·refine zF.ifF (by simp[b3]) ?_
     have hB:C0 (zJ l i)=true:=by unfold C0;simp[b1,b2,b3]
     rw[hB]
     by_cases c1:(zJ l i).cons.length≤16
     ·refine zF.ifF (decide_eq_false (by omega)) ?_
      rw[zW (x:=i+1) (by omega) (by omega)]
      refine(zHa (zJ l i).cons (i+1) (by omega) (by omega)).bind ?_
      by_cases c2:mO (zJ l i).cons (i+1)=true
      ·refine zF.ifT c2 ((R6 l i 2 (zJ l i).cons (by omega)).bind ?_)
       by_cases c3:qY l i 2 (zJ l i).cons 0=true
       ·refine zF.ifT c3 ?_
        have hC:fK l i (zJ l i)=true:=by unfold fK;simp[c1,c2,c3]
        rw[hC]
        by_cases d0:(zJ l i).fields.length=0
        ·exact zF.ifT (by simp[d0]) (zF.ret.eq (by simp[d0]))
        ·refine zF.ifF (by have h:((zJ l i).fields.length:Int)≠0:=(by omega);simpa using h) ?_
         rw[show decide ((zJ l i).fields.length=0)=false by simp[d0]]
         simp only[Bool.true_and,Bool.false_or]
         unfold zFF
         by_cases d1:(zJ l i).inds=0
         ·refine zF.ifF (by simp[d1]) ?_
          by_cases d2:(zJ l i).cons.length=1
          ·refine zF.ifF (by simp[d2]) ?_
           rw[zW (x:=i+2) (by omega) (by omega)]
           refine(zHa (zJ l i).fields (i+2) (by omega) hx.2.2.2).bind ?_
           by_cases d3:mO (zJ l i).fields (i+2)=true
           ·refine zF.ifT d3 ((R6 l i 4 (zJ l i).fields hx.2.2.2).bind ?_)
            by_cases d4:qY l i 4 (zJ l i).fields 0=true
            ·have hi:i+1<l.length:=by
              obtain⟨y,hy⟩:∃y,(zJ l i).cons=[y]:=by
               rcases hc:(zJ l i).cons with _|⟨y,_|⟨z,r⟩⟩<;>rw[hc]at d2<;>simp at d2
               exact⟨y,rfl⟩
              rw[hy]at c2 c3
              rw[mO]at c2
              rw[qY]at c3
              simp only[Bool.and_eq_true,beq_iff_eq]at c2 c3
              have:=xM c3.1.1.1
              omega
             refine zF.ifT d4 (zF.pure (yH (by omega) hi) ((bP _ (he _ (uW (by omega) hi)).1).bind ?_))
             by_cases d5:(yR (zJ l (i+1)).type).2.2=0
             ·refine zF.ifT (by simp[d5]) (zF.ret.eq ?_)
              rw[zW (x:=(zJ l i).pars+((zJ l i).fields.length:Int)) (by omega) (by omega)]
              simp[d1,d2,d3,d4,d5]
             ·exact zF.ifF (by simp[d5]) (zF.ret.eq (by simp[d5]))
            ·exact zF.ifF (by simpa using d4) (zF.ret.eq (by simp[d4]))
           ·exact zF.ifF (by simpa using d3) (zF.ret.eq (by simp[d3]))
          ·exact zF.ifT (by simp<;>omega) (zF.ret.eq (by simp[d2]))
         ·exact zF.ifT (by simp[d1]) (zF.ret.eq (by simp[d1]))
       ·refine zF.ifF (by simpa using c3) (zF.ret.eq ?_)
        unfold fK;simp[c3]
      ·refine zF.ifF (by simpa using c2) (zF.ret.eq ?_)
       unfold fK;simp[c2]
     ·refine zF.ifT (decide_eq_true (by omega)) (zF.ret.eq ?_)
      unfold fK;simp[c1]
    ·refine zF.ifT (by simp[b3]) (zF.ret.eq ?_)
     unfold C0;simp[b3]
   ·refine zF.ifT (by simp[b2]) (zF.ret.eq ?_)
    unfold C0;simp[b2]
  ·refine zF.ifT (by simp[b1]) (zF.ret.eq ?_)
   unfold C0;simp[b1]
 ·rw[show lJ (zJ l i)=false by simpa using hA]
  unfold lJ at hA
  simp only[Bool.and_eq_true,decide_eq_true_eq,beq_iff_eq]at hA
  by_cases a1:(zJ l i).pars<0
  ·exact zF.ifT (decide_eq_true a1) zF.ret
  refine zF.ifF (decide_eq_false a1) ?_
  by_cases a2:(zJ l i).inds<0
  ·exact zF.ifT (decide_eq_true a2) zF.ret
  refine zF.ifF (decide_eq_false a2) ?_
  by_cases a3:(zJ l i).pars>24
  ·exact zF.ifT (decide_eq_true a3) zF.ret
  refine zF.ifF (decide_eq_false a3) ?_
  rw[zW (x:=24-(zJ l i).pars) (by omega) (by omega)]
  by_cases a4:(zJ l i).inds>24-(zJ l i).pars
  ·exact zF.ifT (decide_eq_true a4) zF.ret
  refine zF.ifF (decide_eq_false a4) ?_
  by_cases a5:(zJ l i).fam=0
  ·refine zF.ifF (by simp[a5]) ?_
   by_cases a6:(zJ l i).place=0
   ·refine zF.ifF (by simp[a6]) ((zAP _).bind ?_)
    by_cases a7:nS (zJ l i).body=true
    ·exact absurd ⟨⟨⟨⟨⟨⟨by omega,by omega⟩,by omega⟩,by omega⟩,a5⟩,a6⟩,a7⟩ hA
    ·exact zF.ifF (by simpa using a7) zF.ret
   ·exact zF.ifT (by simp[a6]) zF.ret
  ·exact zF.ifT (by simp[a5]) zF.ret
def zJG(c:Nat)(b:zY)(a:Int):Option Bool:=
 zP b a>>=fun x1=>
 e42 c b x1.fam 1>>=fun r3=>
 if r3 then
 if decide (x1.fam≥a)then
 some false
 else
 zP b x1.fam>>=fun x7=>
 if x1.pars != x7.pars then
 some false
 else
 zJC c x1.body>>=fun r10=>
 if r10 then
 if x1.inds != 0 then
 some false
 else
 if x1.level != 0 then
 some false
 else
 if decide ((yN ((x1.cons.length:Int)+(x1.fields.length:Int)))>0)then
 some false
 else
 if x1.kind==4 then
 if decide (x1.place≥0)then
 if decide (x1.place<(x7.fields.length:Int))then
 zP x7.fields x1.place>>=fun x19=>
 some (x19==a)
 else
 some false
 else
 some false
 else
 if decide (x1.place≥0)then
 if decide (x1.place<(x7.cons.length:Int))then
 zP x7.cons x1.place>>=fun x23=>
 some (x23==a)
 else
 some false
 else
 some false
 else
 some false
 else
 some false
theorem C1:Qf 149 f149:=⟨func149,rfl⟩
theorem zPR{c b a r}(h:zJG c b a=some r):Ct 149 [] [zH yA b .no,ai a] (ab r) [] 0:=⟨by
 unfold zJG at h
 obtain⟨x1,h2,h⟩:=zB h
 obtain⟨r3,h4,h⟩:=zB h
 have k:=oA 0 (xK (o:=.no) h2) o0
 obtain⟨h5,h⟩|⟨h5,h⟩:=zK h
 have k:=oK 3 [] h5 (c42 h4) k
 obtain⟨h6,h⟩|⟨h6,h⟩:=zK h
 cases h
 exact tF C1 0 [] (oB 2 h6 k)
 obtain⟨x7,h8,h⟩:=zB h
 have k:=oA 2 (xK (o:=.no) h8)<|oB 2 h6 k
 obtain⟨h9,h⟩|⟨h9,h⟩:=zK h
 cases h
 exact tF C1 0 [] (oB 1 h9 k)
 obtain⟨r10,h11,h⟩:=zB h
 have k:=oB 1 h9 k
 obtain⟨h12,h⟩|⟨h12,h⟩:=zK h
 have k:=oK 1 [] h12 (zPM h11) k
 obtain⟨h13,h⟩|⟨h13,h⟩:=zK h
 cases h
 exact tF C1 0 [] (oB 2 h13 k)
 have k:=oB 2 h13 k
 obtain⟨h14,h⟩|⟨h14,h⟩:=zK h
 cases h
 exact tF C1 0 [] (oB 1 h14 k)
 have k:=oB 1 h14 k
 obtain⟨h15,h⟩|⟨h15,h⟩:=zK h
 cases h
 exact tF C1 0 [] (oB 5 h15 k)
 have k:=oA 1 (xK (o:=.no) h8)<|oB 5 h15 k
 obtain⟨h16,h⟩|⟨h16,h⟩:=zK h
 have k:=oA 1 (xK (o:=.no) h8)<|oB 2 h16 k
 obtain⟨h17,h⟩|⟨h17,h⟩:=zK h
 have k:=oB 2 h17 k
 obtain⟨h18,h⟩|⟨h18,h⟩:=zK h
 obtain⟨x19,h20,h⟩:=zB h
 cases h
 exact tF C1 2 [] (oA 1 (uH (o:=.no) h20)<|oB 2 h18 k)
 cases h
 exact tF C1 0 [] (oB 2 h18 k)
 cases h
 exact tF C1 0 [] (oB 2 h17 k)
 have k:=oB 2 h16 k
 obtain⟨h21,h⟩|⟨h21,h⟩:=zK h
 have k:=oB 1 h21 k
 obtain⟨h22,h⟩|⟨h22,h⟩:=zK h
 obtain⟨x23,h24,h⟩:=zB h
 cases h
 exact tF C1 2 [] (oA 1 (uH (o:=.no) h24)<|oB 2 h22 k)
 cases h
 exact tF C1 0 [] (oB 2 h22 k)
 cases h
 exact tF C1 0 [] (oB 1 h21 k)
 cases h
 exact tF C1 1 [] (oK 1 [] h12 (zPM h11) k)
 cases h
 exact tF C1 1 [] (oK 3 [] h5 (c42 h4) k),⟨⟨tv,dE _⟩,tv,tv⟩,zA,tv,zA⟩
def e82(b:Nat)(a:zY)(c:Int):Option Bool:=
 zP a c>>=fun x1=>
 zDl b x1.type>>=fun r3=>
 zJG b a c>>=fun r5=>
 if r5 then
 if r3.2.2==0 then
 if decide ((r3.1.length:Int)≥x1.pars)then
 zP a x1.fam>>=fun x10=>
 zFa b r3.2.1 x1.fam x1.pars x10.inds (r3.1.length:Int)>>=fun r12=>
 some r12
 else
 some false
 else
 some false
 else
 some false
theorem q82:Qf 82 f82:=⟨func82,rfl⟩
theorem c82{b a c r}(h:e82 b a c=some r):Ct 82 [] [zH yA a .no,ai c] (ab r) [] 0:=⟨by
 unfold e82 at h
 obtain⟨x1,h2,h⟩:=zB h
 obtain⟨r3,h4,h⟩:=zB h
 obtain⟨r5,h6,h⟩:=zB h
 have k:=oC 1 [] (zPA h4)<|oA 0 (xK (o:=.no) h2) o0
 obtain⟨h7,h⟩|⟨h7,h⟩:=zK h
 have k:=oK 4 [] h7 (zPR h6) k
 obtain⟨h8,h⟩|⟨h8,h⟩:=zK h
 have k:=oA 1 (xK (o:=.no) h2)<|oB 0 h8 k
 obtain⟨h9,h⟩|⟨h9,h⟩:=zK h
 obtain⟨x10,h11,h⟩:=zB h
 obtain⟨r12,h13,h⟩:=zB h
 obtain rfl:=sj h
 exact tF q82 0 [] (oC 2 [] (zPD h13)<|oA 1 (xK (o:=.no) h11)<|oA 1 (xK (o:=.no) h2)<|oA 1 (xK (o:=.no) h2)<|oA 1 (xK (o:=.no) h2)<|oB 1 h9 k)
 obtain rfl:=sj h
 exact tF q82 0 [] (oB 1 h9 k)
 obtain rfl:=sj h
 exact tF q82 0 [] (oB 0 h8 k)
 obtain rfl:=sj h
 exact tF q82 0 [] (oK 4 [] h7 (zPR h6) k),⟨⟨tv,dE _⟩,tv,tv⟩,zA,tv,zA⟩
def e83(a:Nat)(b:zY)(c:Int):Option Bool:=
 zJG a b c>>=fun r1=>
 if r1 then
 zP b c>>=fun x4=>
 R1 a x4.type (yN (x4.pars+1))>>=fun r6=>
 if r6.2.2==0 then
 zP r6.1 x4.pars>>=fun x9=>
 zFa a x9 x4.fam x4.pars 0 x4.pars>>=fun r11=>
 some r11
 else
 some false
 else
 some false
theorem q83:Qf 83 f83:=⟨func83,rfl⟩
theorem c83{a b c r}(h:e83 a b c=some r):Ct 83 [] [zH yA b .no,ai c] (ab r) [] 0:=⟨by
 unfold e83 at h
 obtain⟨r1,h2,h⟩:=zB h
 obtain⟨h3,h⟩|⟨h3,h⟩:=zK h
 obtain⟨x4,h5,h⟩:=zB h
 obtain⟨r6,h7,h⟩:=zB h
 have k:=oC 2 [] (zMj h7)<|oA 1 (xK (o:=.no) h5)<|oA 1 (xK (o:=.no) h5)<|oK 0 [] h3 (zPR h2) o0
 obtain⟨h8,h⟩|⟨h8,h⟩:=zK h
 obtain⟨x9,h10,h⟩:=zB h
 obtain⟨r11,h12,h⟩:=zB h
 obtain rfl:=sj h
 exact tF q83 0 [] (oC 1 [] (zPD h12)<|oA 1 (xK (o:=.no) h5)<|oA 1 (xK (o:=.no) h5)<|oA 1 (xK (o:=.no) h5)<|oA 1 (xH (o:=.no) h10)<|oA 0 (xK (o:=.no) h5)<|oB 4 h8 k)
 obtain rfl:=sj h
 exact tF q83 0 [] (oB 4 h8 k)
 obtain rfl:=sj h
 exact tF q83 1 [] (oK 0 [] h3 (zPR h2) o0),⟨⟨tv,dE _⟩,tv,tv⟩,zA,tv,zA⟩
def e84(c:Nat)(b:zY)(a:Int):Option Bool:=
 zP b a>>=fun x1=>
 e80 c x1.body a>>=fun r3=>
 if r3 then
 if x1.fam==0 then
 if x1.place==0 then
 if x1.pars==0 then
 if x1.inds==0 then
 if x1.level==0 then
 some ((yN ((x1.cons.length:Int)+(x1.fields.length:Int)))==0)
 else
 some false
 else
 some false
 else
 some false
 else
 some false
 else
 some false
 else
 some false
theorem q84:Qf 84 f84:=⟨func84,rfl⟩
theorem c84{c b a r}(h:e84 c b a=some r):Ct 84 [] [zH yA b .no,ai a] (ab r) [] 0:=⟨by
 unfold e84 at h
 obtain⟨x1,h2,h⟩:=zB h
 obtain⟨r3,h4,h⟩:=zB h
 have k:=oA 0 (xK (o:=.no) h2) o0
 obtain⟨h5,h⟩|⟨h5,h⟩:=zK h
 have k:=oK 3 [] h5 (c80 h4) k
 obtain⟨h6,h⟩|⟨h6,h⟩:=zK h
 have k:=oB 1 h6 k
 obtain⟨h7,h⟩|⟨h7,h⟩:=zK h
 have k:=oB 1 h7 k
 obtain⟨h8,h⟩|⟨h8,h⟩:=zK h
 have k:=oB 1 h8 k
 obtain⟨h9,h⟩|⟨h9,h⟩:=zK h
 have k:=oB 1 h9 k
 obtain⟨h10,h⟩|⟨h10,h⟩:=zK h
 cases h
 exact tF q84 6 [] (oB 1 h10 k)
 cases h
 exact tF q84 0 [] (oB 1 h10 k)
 cases h
 exact tF q84 0 [] (oB 1 h9 k)
 cases h
 exact tF q84 0 [] (oB 1 h8 k)
 cases h
 exact tF q84 0 [] (oB 1 h7 k)
 cases h
 exact tF q84 0 [] (oB 1 h6 k)
 cases h
 exact tF q84 0 [] (oK 3 [] h5 (c80 h4) k),⟨⟨tv,dE _⟩,tv,tv⟩,zA,tv,zA⟩
end Go.Proofs.YtcckelpaoefonaaGreat
