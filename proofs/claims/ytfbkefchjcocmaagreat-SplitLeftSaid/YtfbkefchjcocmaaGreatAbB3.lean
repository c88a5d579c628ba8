/- Parts of the proof that the law returns true: walks of the functions, plain laws. -/
import Derived.ChangeArms
import Derived.ChangeShapes
import Derived.IntWalk
import Derived.Test.YtfbkefchjcocmaaGreatAbB2
set_option linter.unusedVariables false
set_option linter.unusedSimpArgs false
set_option linter.unusedSectionVars false
namespace Go.Ab
open Go Go.RowKit
structure Sub (G G':Gh) (p:Nat->Prop):Prop where
 F:G'.F=G.F
 ρ:∀i b,p i->G.ρ i=some b->G'.ρ i=some b
 τ:∀k q,G.τ k=some q->G'.τ k=some q
 L:∀b o,G.L b o->G'.L b o
 N:∀i,p i->G.N i->G'.N i
mutual
theorem V.less{G G':Gh}{w:World}{p:Nat->Prop}(h:Sub G G' p):∀(a:AV) (u:Value),a.fine p->V G w a u->V G' w a u
 | .val v,u,_,hv=>by simpa only[V]using hv
 | .agg cs,u,hi,hv=>by
  simp only[V,AV.fine]at hi hv ⊢
  obtain⟨vs,rfl,hl⟩:=hv
  exact⟨vs,rfl,VL.less h cs vs hi hl⟩
 | .tup cs,u,hi,hv=>by
  simp only[V,AV.fine]at hi hv ⊢
  obtain⟨vs,rfl,hl⟩:=hv
  exact⟨vs,rfl,VL.less h cs vs hi hl⟩
 | .sl es n o,u,hi,hv=>by
  simp only[V,AV.fine]at hi hv ⊢
  obtain⟨cap,hc,hh⟩:=hv
  refine⟨cap,hc,?_⟩
  rcases hh with⟨rfl,h2,h3,h4,h5⟩|⟨b,off,hu,hcells,ho⟩
  ·exact .inl ⟨rfl,h2,h3,h4,h5.mono h.τ⟩
  ·exact .inr ⟨b,off,hu,VC.data h.L es b off hi hcells,ho.mono h.F h.τ⟩
 | .ip es,u,hi,hv=>by
  simp only[V,AV.fine]at hi hv ⊢
  obtain⟨b,off,hu,hcells⟩:=hv
  exact⟨b,off,hu,VC.data h.L es b off hi hcells⟩
 | .mp i off,u,hi,hv=>by
  simp only[V,AV.fine]at hi hv ⊢
  obtain⟨b,hb,hu⟩:=hv
  exact⟨b,h.ρ _ _ hi hb,hu⟩
 | .ms i off n c sz,u,hi,hv=>by
  simp only[V,AV.fine]at hi hv ⊢
  rcases hv with⟨b,cap,hb,hu⟩|⟨hn,hN,hu⟩
  ·exact .inl ⟨b,cap,h.ρ _ _ hi hb,hu⟩
  ·exact .inr ⟨hn,h.N _ hi hN,hu⟩
 | .obj i,u,hi,hv=>by
  simp only[V,AV.fine]at hi hv ⊢
  obtain⟨b,hb,hu⟩:=hv
  exact⟨b,h.ρ _ _ hi hb,hu⟩
 | .clo g fs cs,u,hi,hv=>by
  simp only[V,AV.fine]at hi hv ⊢
  obtain⟨l,r',hu,h1,h2⟩:=hv
  exact⟨l,r',hu,VL.less h fs l hi.1 h1,VL.less h cs r' hi.2 h2⟩
theorem VL.less{G G':Gh}{w:World}{p:Nat->Prop}(h:Sub G G' p):∀(as0:List AV) (us:List Value),AV.fineL p as0->VL G w as0 us->VL G' w as0 us
 | [],[],_,_=>by simp only[VL]
 |a::as0,u::us,hi,hv=>by
  simp only[VL,AV.fineL]at hi hv ⊢
  exact⟨V.less h a u hi.1 hv.1,VL.less h as0 us hi.2 hv.2⟩
 | [],_::_,_,hv=>by simp only[VL]at hv
 |_::_,[],_,hv=>by simp only[VL]at hv
end
mutual
def AV.fz(m:Nat)(cs:List AV):AV->AV
 | .val v=>.val v
 | .agg l=>.agg (AV.fzL m cs l)
 | .tup l=>.tup (AV.fzL m cs l)
 | .sl es n o=>.sl es n o
 | .ip es=>.ip es
 | .mp i off=>.mp i off
 | .ms i off n c sz=>bif Nat.beq i m then .sl (cs.drop off) n .no else .ms i off n c sz
 | .obj i=>.obj i
 | .clo g a b=>.clo g a b
def AV.fzL(m:Nat)(cs:List AV):List AV->List AV
 | []=>[]
 |a::l=>AV.fz m cs a::AV.fzL m cs l
end
mutual
def AV.fzOk(m:Nat):AV->Prop
 | .val _=>True
 | .agg l=>AV.fzOkL m l
 | .tup l=>AV.fzOkL m l
 | .sl es _ _=>AV.DataL es
 | .ip es=>AV.DataL es
 | .mp i _=>i<m
 | .ms i off _ _ _=>(i=m∧off=0)∨i<m
 | .obj i=>i<m
 | .clo _ a b=>AV.fineL (fun i=>i<m) a∧AV.fineL (fun i=>i<m) b
def AV.fzOkL(m:Nat):List AV->Prop
 | []=>True
 |a::l=>AV.fzOk m a∧AV.fzOkL m l
end
theorem R9:∀(l:List AV) (n:Nat),AV.DataL l->AV.DataL (l.drop n)
 |l,0,h=>by simpa using h
 | [],_+1,_=>trivial
 |_::l,n+1,h=>by simpa using R9 l n h.2
mutual
theorem AV.fz_fine{m:Nat}{cs:List AV}(hc:AV.DataL cs):∀a:AV,a.fzOk m->(a.fz m cs).fine (fun i=>i<m)
 | .val _,_=>trivial
 | .agg l,h=>AV.fzL_fine hc l h
 | .tup l,h=>AV.fzL_fine hc l h
 | .sl _ _ _,h=>h
 | .ip _,h=>h
 | .mp _ _,h=>h
 | .ms i off n c sz,h=>by
  simp only[AV.fz]
  cases hb:Nat.beq i m with
  |true=>exact R9 _ _ hc
  |false=>
   rcases h with⟨rfl,_⟩|h
   ·simp at hb
   ·exact h
 | .obj _,h=>h
 | .clo _ _ _,h=>h
theorem AV.fzL_fine{m:Nat}{cs:List AV}(hc:AV.DataL cs):∀l:List AV,AV.fzOkL m l->AV.fineL (fun i=>i<m) (AV.fzL m cs l)
 | [],_=>trivial
 |a::l,h=>⟨AV.fz_fine hc a h.1,AV.fzL_fine hc l h.2⟩
end
mutual
theorem V.fz{G G':Gh}{w:World}{m:Nat}{cs:List AV}(h:Sub G G' (fun i=>i<m))(hm:∀b,G.ρ m=some b->VC G' w cs b 0)(hc:G.N m->cs=[]):∀(a:AV) (u:Value),a.fzOk m->V G w a u->V G' w (a.fz m cs) u
 | .val v,u,_,hv=>by simpa only[AV.fz,V]using hv
 | .agg l,u,hi,hv=>by
  simp only[V,AV.fzOk,AV.fz]at hi hv ⊢
  obtain⟨vs,rfl,hl⟩:=hv
  exact⟨vs,rfl,VL.fz h hm hc l vs hi hl⟩
 | .tup l,u,hi,hv=>by
  simp only[V,AV.fzOk,AV.fz]at hi hv ⊢
  obtain⟨vs,rfl,hl⟩:=hv
  exact⟨vs,rfl,VL.fz h hm hc l vs hi hl⟩
 | .sl es n o,u,hi,hv=>V.less h (.sl es n o) u hi hv
 | .ip es,u,hi,hv=>V.less h (.ip es) u hi hv
 | .mp i off,u,hi,hv=>V.less h (.mp i off) u hi hv
 | .ms i off n c sz,u,hi,hv=>by
  simp only[AV.fz]
  cases hb:Nat.beq i m with
  |false=>
   rcases hi with⟨rfl,_⟩|hi
   ·simp at hb
   ·exact V.less h (.ms i off n c sz) u hi hv
  |true=>
   have:=Nat.eq_of_beq_eq_true hb
   subst this
   simp only[V,cond_true]at hv ⊢
   rcases hi with⟨_,e0⟩|hi
   ·subst e0
    rcases hv with⟨b,cap,hb',hn,o,rfl,hro⟩|⟨⟨e1,_⟩,hN,p,rfl⟩
    ·rcases hro with⟨eo,_⟩|⟨_,h0⟩
     ·subst eo
      exact⟨cap,Nat.le_trans hn.1 hn.2,.inr ⟨b,_,rfl,by simpa using hm b hb',trivial⟩⟩
     ·exact absurd h0 (Nat.lt_irrefl _)
    ·rw[hc hN]
     subst e1
     exact⟨0,Nat.le_refl 0,.inl ⟨rfl,(by first|rfl|trivial),(by first|rfl|trivial),rfl,trivial⟩⟩
   ·exact absurd hi (Nat.lt_irrefl _)
 | .obj i,u,hi,hv=>V.less h (.obj i) u hi hv
 | .clo g a b,u,hi,hv=>V.less h (.clo g a b) u hi hv
theorem VL.fz{G G':Gh}{w:World}{m:Nat}{cs:List AV}(h:Sub G G' (fun i=>i<m))(hm:∀b,G.ρ m=some b->VC G' w cs b 0)(hc:G.N m->cs=[]):∀(as0:List AV) (us:List Value),AV.fzOkL m as0->VL G w as0 us->VL G' w (AV.fzL m cs as0) us
 | [],[],_,_=>by simp only[AV.fzL,VL]
 |a::as0,u::us,hi,hv=>by
  simp only[VL,AV.fzOkL,AV.fzL]at hi hv ⊢
  exact⟨V.fz h hm hc a u hi.1 hv.1,VL.fz h hm hc as0 us hi.2 hv.2⟩
 | [],_::_,_,hv=>by simp only[VL]at hv
 |_::_,[],_,hv=>by simp only[VL]at hv
end
def zCC(m:Nat):List (Nat×Blk)->List (Nat×Blk)
 | []=>[]
 |p::l=>bif Nat.blt p.1 m then p::zCC m l else zCC m l
theorem fP{m:Nat}:∀(l:List (Nat×Blk)) (i:Nat),look (zCC m l) i=if i<m then look l i else none
 | [],i=>by simp[zCC,look]
 |p::l,i=>by
  simp only[zCC]
  cases hb:Nat.blt p.1 m with
  |true=>
   have hb':p.1<m:=Nat.le_of_ble_eq_true hb
   simp only[cond_true,look,fP l i]
   cases he:Nat.beq i p.1 with
   |true=>have:=Nat.eq_of_beq_eq_true he;simp only[cond_true];rw[if_pos (by omega)]
   |false=>simp only[cond_false]
  |false=>
   have hb':¬p.1<m:=by intro h;rw[Nat.blt,Nat.ble_eq_true_of_le h]at hb;cases hb
   simp only[cond_false,look,fP l i]
   cases he:Nat.beq i p.1 with
   |true=>have:=Nat.eq_of_beq_eq_true he;rw[if_neg (by omega),if_neg (by omega)]
   |false=>simp only[cond_false]
def Blk.alive:Blk->Bool
 | .dead=>false
 |_=>true
theorem uG.freeze{P:Program}{f:FuncId}{H0 H1:List Blk}{args cs:List AV}{res:AV}{nst:Nat}(h:uG P f H0 args res (H1++[.row cs]) nst)(hle:H0.length≤H1.length)(hH1:∀X∈H1,X.fine (fun i=>i<H1.length))(hcs:AV.DataL cs)(hr:res.fzOk H1.length)(hnd:H1.all Blk.alive=true) :
  uG P f H0 args (res.fz H1.length cs) H1 nst:=by
 intro G0 W cargs hB hR hv
 refine(h G0 W cargs hB hR hv).mono ?_
 rintro e W' ⟨u,G',s',rfl,hE,hR',hu,hb,ho⟩
 have hm:look s'.H H1.length=some (.row cs):=hb H1.length _ (by simp)
 have hm':(yK (Emp 0) s').H H1.length=some (.row cs):=by rw[yW];exact hm
 have real:∀b,G'.ρ H1.length=some b->¬G'.F b∧∃us:List Value,us.length=cs.length∧VL G' W' cs us∧∀i (hi:i<us.length),W'.cell? ⟨b,0+i,none⟩=some us[i]:=by
  intro b hρ
  obtain⟨hF,vs,T,hh,us,rest,hus,hvl⟩:=hR'.blk H1.length b _ hρ hm'
  refine⟨hF,us,VL.length _ _ hvl,hvl,fun i hi=>?_⟩
  have:vs[i]? = some us[i]:=by
   have h1:vs.toList[i]? = some us[i]:=by rw[hus,List.getElem?_append_left hi,List.getElem?_eq_getElem hi]
   simpa using h1
  rw[Nat.zero_add]
  simp[World.cell?,hh,this]
 have hNn:G'.N H1.length->cs=[]:=fun e=>Blk.void_row (hR'.Nvoid e hm')
 let G'':Gh:={ G' with ρ:=fun i=>if i<H1.length then G'.ρ i else none,L:=fun c o=>G'.L c o∨(G'.ρ H1.length=some c∧o<cs.length),N:=fun i=>i<H1.length∧G'.N i }
 have hS:Sub G' G'' (fun i=>i<H1.length):=⟨rfl,fun i b hi e=>by show (if i<H1.length then G'.ρ i else none)=_;rw[if_pos hi];exact e,fun _ _ e=>e,fun _ _ e=>.inl e,fun _ hi e=>⟨hi,e⟩⟩
 have hC:∀b,G'.ρ H1.length=some b->VC G'' W' cs b 0:=fun b hρ=>by
  obtain⟨_,us,hlen,hvl,hcell⟩:=real b hρ
  exact VC.of_cells cs us b 0 (VL.data hS.L cs us hcs hvl) (fun i hi=>.inr ⟨hρ,by omega⟩) hcell
 have hσ:∀i,(yK (Emp 0) { s' with H:=zCC H1.length s'.H }).H i=if i<H1.length then look s'.H i else none:=fun i=>by rw[yW];exact fP _ _
 have hσ':∀i,(yK (Emp 0) s').H i=look s'.H i:=fun i=>yW _ _
 refine⟨u,G'',{ s' with H:=zCC H1.length s'.H },rfl,⟨fun i c hc=>?_,hE.τ,fun c o e=>.inl (hE.L c o e),hE.cell,hE.w0,hE.F,fun c o e=>?_,hE.room,fun i e=>?_⟩,⟨fun i=>?_,⟨H1.length,fun i hi=>?_⟩,fun i j c hi hj=>?_,fun i c X hi hX=>?_,fun c o hL=>?_,hR'.τns,fun k hk=>?_,hR'.ownd,hR'.below,hR'.base⟩,V.fz hS hC hNn _ _ hr hu,fun i X hX=>?_,ho⟩
 ·have hi:i<H0.length:=Nat.lt_of_not_le fun hge=>by rw[(hB.ρ i hge).1]at hc;cases hc
  show (if i<H1.length then G'.ρ i else none)=_
  rw[if_pos (by omega)];exact hE.ρ i c hc
 ·rcases e with e|⟨e,_⟩
  ·exact hE.newL c o e
  ·exact .inr (by rw[←hE.F];exact(real c e).1)
 ·have hi:i<H0.length:=Nat.lt_of_not_le fun hge=>(hB.ρ i hge).2 e
  exact⟨by omega,hE.N i e⟩
 ·rw[hσ]
  show lZ (if i<H1.length then G'.ρ i else none) (i<H1.length∧G'.N i) _
  have hd:=hR'.dom i
  rw[hσ']at hd
  split
  ·rename_i hi
   exact⟨fun q=>(hd.1 q).imp (fun r=>⟨hi,r⟩) id,fun q=>⟨(hd.2.1 q).1,fun r=>(hd.2.1 q).2 r.2⟩,fun r=>hd.2.2 r.2⟩
  ·rename_i hi
   exact⟨fun _=>.inr rfl,fun _=>⟨rfl,fun r=>hi r.1⟩,fun r=>absurd r.1 hi⟩
 ·rw[hσ,if_neg (by omega)]
 ·have hi':(if i<H1.length then G'.ρ i else none)=some c:=hi
  have hj':(if j<H1.length then G'.ρ j else none)=some c:=hj
  split at hi'
  ·split at hj'
   ·rename_i h1 h2
    rw[hσ,hσ,if_pos h1,if_pos h2,←hσ',←hσ']
    exact hR'.inj i j c hi' hj'
   ·cases hj'
  ·cases hi'
 ·have hi':(if i<H1.length then G'.ρ i else none)=some c:=hi
  split at hi'
  ·rename_i hlt
   rw[hσ,if_pos hlt]at hX
   obtain⟨q1,q2⟩:=hR'.blk i c X hi' (by rw[hσ'];exact hX)
   refine⟨q1,?_⟩
   have hget:(H1++[.row cs])[i]? = some H1[i]:=by rw[List.getElem?_append_left hlt,List.getElem?_eq_getElem hlt]
   have:=hb i _ hget
   rw[this]at hX;cases hX
   have hf:=hH1 _ (List.getElem_mem hlt)
   cases hY:H1[i]with
   |cells ds=>
    rw[hY]at q2 hf
    obtain⟨vs',T',q3,q4⟩:=q2
    exact⟨vs',T',q3,q4.imp fun us=>VL.less hS _ us hf⟩
   |obj o=>rw[hY]at q2;exact q2
   |row ds=>
    rw[hY]at q2 hf
    obtain⟨vs',T',q3,q4⟩:=q2
    exact⟨vs',T',q3,q4.imp fun us=>VL.data hS.L _ us hf⟩
   |dead=>rw[hY]at q2;exact q2
  ·cases hi'
 ·rcases hL with hL|⟨hρ,hlt⟩
  ·obtain⟨q1,q2⟩:=hR'.live c o hL
   refine⟨q1,fun i hi=>?_⟩
   have hi':(if i<H1.length then G'.ρ i else none)=some c:=hi
   split at hi'
   ·exact q2 i hi'
   ·cases hi'
  ·obtain⟨_,us,hlen,hvl,hcell⟩:=real c hρ
   refine⟨⟨us[o]'(by omega),?_⟩,fun i hi=>?_⟩
   ·have:=hcell o (by omega)
    rwa[Nat.zero_add]at this
   ·have hi':(if i<H1.length then G'.ρ i else none)=some c:=hi
    split at hi'
    ·rename_i hlt'
     have hi2:look s'.H i=some H1[i]:=hb i _ (by rw[List.getElem?_append_left hlt',List.getElem?_eq_getElem hlt'])
     rcases hR'.inj i H1.length c hi' hρ with this|this|this
     ·omega
     ·rw[hσ',hi2]at this
      have h3:=List.all_eq_true.1 hnd _ (List.getElem_mem hlt')
      rw[Option.some.inj this]at h3
      cases h3
     ·rw[hσ',hm]at this;cases this
    ·cases hi'
 ·obtain⟨c,f1,t,q1,q2|⟨q2,q3,q4,q5⟩⟩:=hR'.own k hk
  ·exact⟨c,f1,t,q1,.inl q2⟩
  ·refine⟨c,f1,t,q1,.inr ⟨q2,fun i hi=>?_,fun o h1 h2 hL=>?_,q5⟩⟩
   ·have hi':(if i<H1.length then G'.ρ i else none)=some c:=hi
    split at hi'
    ·exact q3 i hi'
    ·cases hi'
   ·rcases hL with hL|⟨hρ,_⟩
    ·exact q4 o h1 h2 hL
    ·exact q3 _ hρ
 ·have hlt:=(List.getElem?_eq_some_iff.1 hX).1
  show look (zCC H1.length s'.H) i=some X
  rw[fP,if_pos hlt]
  exact hb i X (by rw[List.getElem?_append_left hlt];exact hX)
theorem CT.freeze{P:Program}{f:FuncId}{H0 H1:List Blk}{args cs:List AV}{res res':AV}{nst:Nat}(h:CT P f H0 args res (H1++[.row cs]) nst)(hle:H0.length≤H1.length)(hH1:∀X∈H1,X.fine (fun i=>i<H1.length))(hcs:AV.DataL cs)(hr:res.fzOk H1.length)(hnd:H1.all Blk.alive=true)(e:res.fz H1.length cs=res') :
  CT P f H0 args res' H1 nst:=by
 subst e
 exact⟨h.tri.freeze hle hH1 hcs hr hnd,h.args,h.H0,AV.fz_fine hcs _ hr,hH1⟩
theorem o5{G0 G':Gh}{W W':World}{s':LSt}{u:Value}(sz:Nat)(hB:kE (0:Nat) G0)(hE:Ext G0 W G' W')(hR':yH G' (yK (Emp 0) s') W')(hu:∃cap b o,(cap=0)∧(u = .slice (dF u) 0 0∨u = .slice (some ⟨b,o,none⟩) 0 cap)) :
  ∃u' G'' s'',Ending.returned u = .returned u'∧Ext G0 W G'' W'∧yH G'' (yK (Emp 0) s'') W'∧V G'' W' (.sl [] 0 (.st 0 sz)) u'∧(∀i X,([]:List Blk)[i]? = some X->look s''.H i=some X)∧∀k,k<1->s''.own.any (Nat.beq k)=true:=by
 let G'':Gh:={ G' with ρ:=fun _=>none,τ:=fun k=>if k=0 then some (0,1,0)else none,N:=fun _=>False }
 refine⟨u,G'',{ s' with H:=[],own:=[0],ns:=1 },rfl,⟨fun i c hc=>?_,fun k r hk=>?_,hE.L,hE.cell,hE.w0,hE.F,hE.newL,fun i c m hc=>?_,fun i e=>absurd e (hB.ρ i (Nat.zero_le _)).2⟩,⟨fun i=>?_,⟨0,fun i _=>?_⟩,fun i j c hi=>?_,fun i c X hi=>?_,fun c o hL=>?_,fun k hk=>?_,fun k hk=>?_,fun k k' _ _ _ _ _ hk hk'=>?_,hR'.below,hR'.base⟩,?_,fun i X hX=>?_,fun k hk=>?_⟩
 ·rw[(hB.ρ i (Nat.zero_le _)).1]at hc;cases hc
 ·rw[hB.τ k]at hk;cases hk
 ·rw[(hB.ρ i (Nat.zero_le _)).1]at hc;cases hc
 ·rw[yW];exact⟨fun _=>.inr rfl,fun _=>⟨rfl,id⟩,fun e=>e.elim⟩
 ·rw[yW];rfl
 ·cases hi
 ·cases hi
 ·exact⟨(hR'.live c o hL).1,fun i hi=>by cases hi⟩
 ·have hk1:1≤k:=hk
  show (if k=0 then some (0,1,0)else none)=none
  rw[if_neg (by omega)]
 ·rw[tK]at hk
  have e:k=0:=by simpa using hk
  subst e
  exact⟨0,1,0,rfl,.inl (by decide)⟩
 ·rw[tK]at hk hk'
  have e:k=0:=by simpa using hk
  have e':k'=0:=by simpa using hk'
  intros;omega
 ·obtain⟨cap,b,o,rfl,hu|rfl⟩:=hu
  ·simp only[V]
   exact⟨0,Nat.le_refl 0,.inl ⟨(by trivial),(by trivial),(by trivial),hu,_,rfl⟩⟩
  ·simp only[V]
   exact⟨0,Nat.le_refl 0,.inl ⟨(by trivial),(by trivial),(by trivial),(by first|rfl|trivial),_,rfl⟩⟩
 ·cases hX
 ·have:k=0:=by omega
  subst this;rfl
theorem uG.freezeS{P:Program}{f:FuncId}{args cs:List AV}{n c sz:Nat}(h:uG P f [] args (.ms 0 0 n c sz) [.row cs] 0)(hcs:AV.DataL cs)(hl:cs.length=n*sz) :
  uG P f [] args (.sl cs n (.st 0 sz)) [] 1:=by
 intro G0 W cargs hB hR hv
 refine(h G0 W cargs hB hR hv).mono ?_
 rintro e W' ⟨u,G',s',rfl,hE,hR',hu,hb,-⟩
 have hm:look s'.H 0=some (.row cs):=hb 0 _ (by simp)
 have hm':(yK (Emp 0) s').H 0=some (.row cs):=by rw[yW];exact hm
 simp only[V]at hu
 rcases hu with⟨b,cap,hρ,hn,o,rfl,hro⟩|⟨⟨e0,_⟩,hN,p,rfl⟩
 rotate_left
 ·have hcs0:=Blk.void_row (hR'.Nvoid hN hm')
  subst e0
  try subst hcs0
  exact o5 sz hB hE hR' ⟨0,0,0,rfl,.inl rfl⟩
 obtain⟨hF,vs,T,hh,us,rest,hus,hvl⟩:=hR'.blk 0 b _ hρ hm'
 have hlen:=VL.length _ _ hvl
 rcases hro with⟨rfl,vs2,T2,hh2,hroom⟩|⟨_,h0⟩
 rotate_left
 ·exact absurd h0 (Nat.lt_irrefl _)
 rw[hh]at hh2;cases hh2
 let G'':Gh:={ G' with ρ:=fun _=>none,τ:=fun k=>if k=0 then some (b,0+cs.length,0+cap*sz)else none,L:=fun c o=>G'.L c o∨(c=b∧o<cs.length),N:=fun _=>False }
 have hcell:∀i (hi:i<us.length),W'.cell? ⟨b,0+i,none⟩=some us[i]:=by
  intro i hi
  have:vs[i]? = some us[i]:=by
   have h1:vs.toList[i]? = some us[i]:=by rw[hus,List.getElem?_append_left hi,List.getElem?_eq_getElem hi]
   simpa using h1
  rw[Nat.zero_add]
  simp[World.cell?,hh,this]
 have hC:VC G'' W' cs b 0:=VC.of_cells cs us b 0 (VL.data (G':=G'') (fun c o e=>Or.inl e) cs us hcs hvl) (fun i hi=>.inr ⟨rfl,by omega⟩) hcell
 refine⟨_,G'',{ s' with H:=[],own:=[0],ns:=1 },rfl,⟨fun i c hc=>?_,fun k r hk=>?_,fun c o e=>.inl (hE.L c o e),hE.cell,hE.w0,hE.F,fun c o e=>?_,fun i c m hc=>?_,fun i e=>absurd e (hB.ρ i (Nat.zero_le _)).2⟩,⟨fun i=>?_,⟨0,fun i _=>?_⟩,fun i j c hi=>?_,fun i c X hi=>?_,fun c o hL=>?_,fun k hk=>?_,fun k hk=>?_,fun k k' _ _ _ _ _ hk hk'=>?_,hR'.below,hR'.base⟩,?_,fun i X hX=>?_,fun k hk=>?_⟩
 ·rw[(hB.ρ i (Nat.zero_le _)).1]at hc;cases hc
 ·rw[hB.τ k]at hk;cases hk
 ·rcases e with e|⟨rfl,_⟩
  ·exact hE.newL c o e
  ·exact .inr (by rw[←hE.F];exact hF)
 ·rw[(hB.ρ i (Nat.zero_le _)).1]at hc;cases hc
 ·rw[yW];exact⟨fun _=>.inr rfl,fun _=>⟨rfl,id⟩,fun e=>e.elim⟩
 ·rw[yW];rfl
 ·cases hi
 ·cases hi
 ·rcases hL with hL|⟨rfl,hlt⟩
  ·exact⟨(hR'.live c o hL).1,fun i hi=>by cases hi⟩
  ·refine⟨⟨us[o]'(by omega),?_⟩,fun i hi=>by cases hi⟩
   have:=hcell o (by omega)
   rwa[Nat.zero_add]at this
 ·have hk1:1≤k:=hk
  show (if k=0 then some (b,0+cs.length,0+cap*sz)else none)=none
  rw[if_neg (by omega)]
 ·rw[tK]at hk
  have e:k=0:=by simpa using hk
  subst e
  refine⟨b,0+cs.length,0+cap*sz,rfl,.inr ⟨hF,fun i hi=>(by cases hi),fun o h1 h2 hL=>?_,vs,T,hh,hroom⟩⟩
  rcases hL with hL|⟨_,h3⟩
  ·exact(hR'.live b o hL).2 0 hρ
  ·omega
 ·rw[tK]at hk hk'
  have e:k=0:=by simpa using hk
  have e':k'=0:=by simpa using hk'
  intros;omega
 ·simp only[V]
  exact⟨cap,Nat.le_trans hn.1 hn.2,.inr ⟨b,0,rfl,hC,⟨_,rfl⟩,.inr ⟨hl,hF,rfl⟩⟩⟩
 ·cases hX
 ·have:k=0:=by omega
  subst this;rfl
theorem uG.stampNil{P:Program}{f:FuncId}{args:List AV}{sz:Nat}(h:uG P f [] args (.sl [] 0 .full) [] 0):uG P f [] args (.sl [] 0 (.st 0 sz)) [] 1:=by
 intro G0 W cargs hB hR hv
 refine(h G0 W cargs hB hR hv).mono ?_
 rintro e W' ⟨u,G',s',rfl,hE,hR',hu,hb,-⟩
 refine o5 sz hB hE hR' ?_
 simp only[V]at hu
 obtain⟨cap,hc,⟨_,_,h3,h4,_⟩|⟨b,off,rfl,_,ho⟩⟩:=hu
 ·exact⟨0,0,0,rfl,.inl h4⟩
 ·exact⟨cap,b,off,ho,.inr rfl⟩
theorem CT.freezeS{P:Program}{f:FuncId}{args cs:List AV}{n c sz:Nat}(h:CT P f [] args (.ms 0 0 n c sz) [.row cs] 0)(hcs:AV.DataL cs)(hl:cs.length=n*sz):CT P f [] args (.sl cs n (.st 0 sz)) [] 1:=
 ⟨h.tri.freezeS hcs hl,h.args,h.H0,hcs,fun _ h=>nomatch h⟩
theorem CT.stampNil{P:Program}{f:FuncId}{args:List AV}{sz:Nat}(h:CT P f [] args (.sl [] 0 .full) [] 0):CT P f [] args (.sl [] 0 (.st 0 sz)) [] 1:=
 ⟨h.tri.stampNil,h.args,h.H0,trivial,fun _ h=>nomatch h⟩
def gmk{α:Type}(B:Int)(d:α)(n:Int):Option (List α):=if 0≤n∧n*B≤140737488355328 then some (List.replicate n.toNat d)else none
def nT(n:Nat)(i:Int):Option Nat:=if 0≤i∧i<n then some i.toNat else none
def iZ{α:Type}(l:List α)(k:Nat)(x:α):Option (List α):=if k<l.length then some (l.set k x)else none
def gfz{α:Type}(n:Nat)(l:List α):Option (List α):=if l.length=n then some l else none
theorem sA{α:Type}{n:Nat}{l r:List α}(h:gfz n l=some r):r=l∧n=r.length:=by
 unfold gfz at h
 split at h
 ·rename_i e;cases h;exact⟨rfl,e.symm⟩
 ·cases h
theorem o6{f:Nat->AV}{s:Nat}(hs:0<s):∀n:Nat,(List.range (n*s)).map (fun j=>f (j % s))=(List.replicate n ((List.range s).map f)).flatten
 |0=>by simp
 |n+1=>by
  rw[Nat.add_mul,Nat.one_mul,List.range_add,List.map_append,o6 hs n,List.replicate_succ',List.flatten_append]
  congr 1
  simp only[List.map_map,List.flatten_cons,List.flatten_nil,List.append_nil]
  apply List.map_congr_left
  intro j hj
  have:j<s:=List.mem_range.1 hj
  simp[Function.comp,Nat.add_comm (n*s) j,Nat.mod_eq_of_lt this]
theorem zCD{α:Type}{c:α->List AV}{d:α}:∀n:Nat,(List.replicate n (c d)).flatten=zK c (List.replicate n d)
 |0=>rfl
 |n+1=>by simp only[List.replicate_succ,List.flatten_cons,zK,List.flatMap_cons];rw[zCD n];rfl
theorem zUi{P:Program}{α:Type}{c:α->List AV}{sz:Nat}{t e:TypeId}{ie:TypeInfo}{z:Value}(ht:P.underlying t=some (.slice e))(hi:P.info? e=some ie)(hs:ie.size=sz)(hz:ie.zero=some z)(hzs:z.cells.size=sz)(h1:1≤sz){B:Nat}(hb:ie.bytes=B)(hB:1≤B){d:α}
  (hd:(List.range sz).map (fun j=>(ofV 8 (z.cells.getD j undef)).frz)=c d) {n:Int} {l:List α} (h:gmk (B:Int) d n=some l):Ob.ok P (.mk (kF P t (ai n) (ai n)) (zK c l) l.length):=by
 unfold gmk at h
 split at h
 ·rename_i hc
  cases h
  show kF P t (ai n) (ai n)=some (zK c (List.replicate n.toNat d),(List.replicate n.toNat d).length)
  unfold kF
  simp only[ht,hi,hz]
  have hb':(B:Int)≥1:=by omega
  have hn:n≤n*B:=by
   have:=Int.mul_le_mul_of_nonneg_left hb' hc.1
   simpa using this
  rw[if_pos ⟨trivial,hc.1,by rw[hb];exact hc.2,by omega,by rw[hzs,hs],by rw[hs];exact h1⟩]
  simp only[List.length_replicate,Option.some.injEq,Prod.mk.injEq,and_true]
  rw[hs,hzs,o6 h1 (f:=fun j=>(ofV 8 (z.cells.getD j undef)).frz),hd,zCD]
 ·cases h
theorem zAN{P:Program}{t e:TypeId}{ie:TypeInfo}(ht:P.underlying t=some (.slice e))(hi:P.info? e=some ie){sz:Nat}(hs:ie.size=sz){b n k c z:Nat}{i:Int}(h:nT n i=some k) :
  yU P t (.ms b 0 n c z) (ai i)=some (.mp b (k*sz)):=by
 unfold nT at h
 split at h
 ·rename_i hc
  cases h
  unfold yU
  simp only[ht,hi]
  rw[if_pos hc,hs,Nat.zero_add]
 ·cases h
theorem zHz{α:Type}{c:α->List AV}{sz:Nat}(hc:wQ c sz){l:List α}{k:Nat}{x:α}(h:zS l (k:Int)=some x):(zK c l).drop (k*sz)=c x++zK c (l.drop (k+1)):=by
 obtain⟨_,_,h2⟩:=fN h
 exact zAH hc.len (by simpa using h2)
theorem zLh{α:Type}{c:α->List AV}{sz:Nat}(hc:wQ c sz){l:List α}{k off:Nat}{x:α}(h:zS l (k:Int)=some x):(zK c l).drop (k*sz+off)=(c x++zK c (l.drop (k+1))).drop off:=by
 rw[←List.drop_drop,zHz hc h]
theorem zCE{α:Type}{c:α->List AV}{sz:Nat}(hc:∀x,(c x).length=sz):∀(l:List α) (k:Nat) (x:α),k<l.length->splice (zK c l) (k*sz) (c x)=zK c (l.set k x)
 | [],k,x,h=>by simp at h
 |y::l,0,x,h=>by
  simp only[splice,Nat.zero_mul,List.take_zero,List.nil_append,Nat.zero_add,zK,List.flatMap_cons,List.set_cons_zero]
  rw[List.drop_left' (by rw[hc,hc])]
 |y::l,k+1,x,h=>by
  have ih:=zCE hc l k x (by simpa using h)
  simp only[splice,zK]at ih
  simp only[splice,zK,List.flatMap_cons,List.set_cons_succ]
  rw[←ih]
  have e:(k+1)*sz=sz+k*sz:=by rw[Nat.add_mul,Nat.one_mul,Nat.add_comm]
  rw[e,List.take_append,List.take_of_length_le (by rw[hc];omega),hc,Nat.add_sub_cancel_left,show sz+k*sz+(c x).length=sz+(k*sz+(c x).length) by omega,←List.drop_drop,List.drop_left' (hc y)]
  simp only[List.append_assoc]
theorem zOX{P:Program}{α:Type}{c:α->List AV}{sz:Nat}(hc:wQ c sz){l l2:List α}{k:Nat}{x:α}(h:iZ l k x=some l2):Ob.ok P (.wt (zK c l) (k*sz) (.agg (c x)) sz (zK c l2)):=by
 unfold iZ at h
 split at h
 ·rename_i hk
  cases h
  refine⟨hc.one x,hc.len x,?_,zCE hc.len l k x hk⟩
  rw[xZ hc.len]
  have:=Nat.mul_le_mul_right sz (show k+1≤l.length from hk)
  rw[Nat.add_mul,Nat.one_mul]at this
  exact this
 ·cases h
theorem zCF{P:Program}{α:Type}{c:α->List AV}{sz:Nat}(hc:wQ c sz){t e:TypeId}{ie:TypeInfo}(ht:P.underlying t=some (.slice e))(hi:P.info? e=some ie)(hs:ie.size=sz){l r:List α}{b:Int}{k k':IntKind}
  {o:Own} (h:gsl l 0 b=some r):xV P t (.sl (zK c l) l.length o) none (some (.val (.int k b))) (some (.val (.int k' b)))=some (.sl (zK c r) r.length .full):=by
 obtain⟨_,h1,h2,rfl⟩:=R0 h
 subst hs
 have key:xV P t (.sl (zK c l) l.length o) none (some (.val (.int k b))) (some (.val (.int k' b)))=some (.sl (zK c (l.take b.toNat)) (l.take b.toNat).length (o.cut 0 b.toNat (Nat.beq b.toNat l.length) (Nat.beq b.toNat b.toNat))):=by
  unfold xV
  simp only[ht,hi,amx,dH,yZ]
  rw[if_pos ⟨h1,h2⟩]
  simp only[Option.map_some]
  have hbb:(0≤b∧b≤(b.toNat:Nat)):=⟨h1,by omega⟩
  rw[if_pos hbb]
  simp only[Option.isSome_some,Option.isNone_some,Bool.false_eq_true,and_false,if_false]
  rw[if_pos (by rw[xZ hc.len];simp)]
  simp only[Nat.sub_zero,Nat.zero_mul,List.drop_zero,Bool.true_and]
  rw[oJ hc.len]
  have hl:(l.take b.toNat).length=b.toNat:=by simp;omega
  rw[hl]
 rw[key]
 simp only[Own.cut,Nat.beq_refl,if_true,Int.sub_zero,Int.toNat_zero,List.drop_zero]
theorem zOY{P:Program}{t e:TypeId}{ie:TypeInfo}(ht:P.underlying t=some (.slice e))(hi:P.info? e=some ie){sz:Nat}(hs:ie.size=sz){b o n k c z:Nat}{i:Int}(h:nT n i=some k) :
  yU P t (.ms b (o*sz) n c z) (ai i)=some (.mp b ((o+k)*sz)):=by
 unfold nT at h
 split at h
 ·rename_i hc
  cases h
  unfold yU
  simp only[ht,hi]
  rw[if_pos hc,hs,Nat.add_mul]
 ·cases h
def mQ(n:Nat)(a b:Int):Option (Nat×Nat):=if 0≤a∧a≤b∧b≤n then some (a.toNat,(b-a).toNat)else none
theorem D8{n:Nat}{a b:Int}{r:Nat×Nat}(h:mQ n a b=some r):0≤a∧a≤b∧b≤n∧r.1=a.toNat∧r.2=b.toNat-a.toNat:=by
 unfold mQ at h
 split at h
 ·rename_i q
  cases h
  exact⟨q.1,q.2.1,q.2.2,rfl,by show (b-a).toNat=_;omega⟩
 ·cases h
theorem zCG{P:Program}{t e:TypeId}{ie:TypeInfo}(ht:P.underlying t=some (.slice e))(hi:P.info? e=some ie){sz:Nat}(hs:ie.size=sz)(h1:1≤sz){b o n c m:Nat}{x y:Int}{r:Nat×Nat}{lo hi':Option AV}(hm:msb n c hi' none=m)(h:mQ m x y=some r)
  (hlo:∀h,yZ h 0 lo=if 0≤x∧x≤h then some x.toNat else none) (hhi:yZ m m hi'=if 0≤y∧y≤m then some y.toNat else none) :
  xV P t (.ms b (o*sz) n c sz) lo hi' none=some (.ms b ((o+r.1)*sz) r.2 (c-r.1) sz):=by
 obtain⟨q1,q2,q3,q4,q5⟩:=D8 h
 subst hs
 unfold xV
 simp only[ht,hi,amx,hm,hhi]
 rw[if_pos ⟨by omega,q3⟩]
 simp only[hlo]
 rw[if_neg (by simp),if_pos ⟨q1,by omega⟩]
 simp only
 rw[if_pos ⟨trivial,h1⟩,q4,q5,Nat.add_mul]
 rfl
theorem zSs{P:Program}{t e:TypeId}{ie:TypeInfo}(ht:P.underlying t=some (.slice e))(hi:P.info? e=some ie){sz:Nat}(hs:ie.size=sz)(h1:1≤sz){b o n c:Nat}{x y:Int}{r:Nat×Nat}(h:mQ c x y=some r) :
  xV P t (.ms b (o*sz) n c sz) (some (ai x)) (some (ai y)) none=some (.ms b ((o+r.1)*sz) r.2 (c-r.1) sz):=zCG ht hi hs h1 rfl h (fun _=>rfl) rfl
theorem S0{P:Program}{t e:TypeId}{ie:TypeInfo}(ht:P.underlying t=some (.slice e))(hi:P.info? e=some ie){sz:Nat}(hs:ie.size=sz)(h1:1≤sz){b o n c:Nat}{x:Int}{r:Nat×Nat}(h:mQ n x n=some r) :
  xV P t (.ms b (o*sz) n c sz) (some (ai x)) none none=some (.ms b ((o+r.1)*sz) r.2 (c-r.1) sz):=zCG ht hi hs h1 rfl h (fun _=>rfl) (by simp[yZ,msb])
theorem zLg{P:Program}{t e:TypeId}{ie:TypeInfo}(ht:P.underlying t=some (.slice e))(hi:P.info? e=some ie){sz:Nat}(hs:ie.size=sz)(h1:1≤sz){b off n c:Nat}{y:Int}{r:Nat×Nat}(h:mQ c 0 y=some r) :
  xV P t (.ms b off n c sz) none (some (ai y)) none=some (.ms b off r.2 c sz):=by
 obtain⟨q1,q2,q3,q4,q5⟩:=D8 h
 subst hs
 have h2:yZ c c (some (ai y))=some y.toNat:=by
  show (if 0≤y∧y≤(c:Int)then some y.toNat else none)=_
  rw[if_pos ⟨by omega,q3⟩]
 unfold xV
 simp only[ht,hi,amx,show msb n c (some (ai y)) none=c from rfl,h2]
 rw[if_neg (by simp)]
 simp only[yZ]
 rw[if_pos ⟨trivial,h1⟩,q5]
 simp
theorem zIZ{P:Program}{t e:TypeId}{ie:TypeInfo}(ht:P.underlying t=some (.slice e))(hi:P.info? e=some ie){sz:Nat}(hs:ie.size=sz)(h1:1≤sz)(b off n c:Nat) :
  xV P t (.ms b off n c sz) none (some (ai (n:Int))) (some (ai (n:Int)))=some (.ms b off n n sz):=by
 subst hs
 have hc:dH n (ai (n:Int))=some n:=by
  show (if 0≤(n:Int)∧(n:Int)≤(n:Int)then some (n:Int).toNat else none)=_
  rw[if_pos ⟨by omega,by omega⟩,Int.toNat_natCast]
 have hd:yZ n n (some (ai (n:Int)))=some n:=hc
 unfold xV
 simp only[ht,hi,show msb n c (some (ai (n:Int))) (some (ai (n:Int)))=n from rfl,amx,hc,Option.map_some,hd]
 rw[if_neg (by simp)]
 simp only[yZ]
 rw[if_pos ⟨trivial,h1⟩]
 simp
theorem zOZ{P:Program}{t e:TypeId}{ie:TypeInfo}(ht:P.underlying t=some (.slice e))(hi:P.info? e=some ie){sz:Nat}(hs:ie.size=sz)(h1:1≤sz){b o n c:Nat}{x y:Int}{r:Nat×Nat}(h:mQ n x y=some r) :
  xV P t (.ms b (o*sz) n c sz) (some (ai x)) (some (ai y)) (some (ai (n:Int)))=some (.ms b ((o+r.1)*sz) r.2 (n-r.1) sz):=by
 obtain⟨q1,q2,q3,q4,q5⟩:=D8 h
 subst hs
 have hc:dH n (ai (n:Int))=some n:=by
  show (if 0≤(n:Int)∧(n:Int)≤(n:Int)then some (n:Int).toNat else none)=_
  rw[if_pos ⟨by omega,by omega⟩,Int.toNat_natCast]
 have hd:yZ n n (some (ai y))=some y.toNat:=by
  show (if 0≤y∧y≤(n:Int)then some y.toNat else none)=_
  rw[if_pos ⟨by omega,q3⟩]
 have he:yZ y.toNat 0 (some (ai x))=some x.toNat:=by
  show (if 0≤x∧x≤(y.toNat:Int)then some x.toNat else none)=_
  rw[if_pos ⟨q1,by omega⟩]
 unfold xV
 simp only[ht,hi,show msb n c (some (ai y)) (some (ai (n:Int)))=n from rfl,amx,hc,Option.map_some,hd]
 rw[if_neg (by simp)]
 simp only[he]
 rw[if_pos ⟨trivial,h1⟩,q4,q5,Nat.add_mul]
 rfl
theorem ldF{P:Program}{α:Type}{c:α->List AV}{sz:Nat}(hc:wQ c sz){l:List α}{k:Nat}{x:α}(h:zS l (k:Int)=some x)(off:Nat)(q:Bool×Nat){val:AV}(e:rG q ((c x++zK c (l.drop (k+1))).drop off)=some val) :
  Ob.ok P (.ld (rG q ((zK c l).drop (k*sz+off))) val):=by
 show rG q _=some val
 rw[zLh hc h,e]
theorem ldE{P:Program}{α:Type}{c:α->List AV}{sz:Nat}(hc:wQ c sz){l:List α}{k:Nat}{x:α}(h:zS l (k:Int)=some x)(q:Bool×Nat){val:AV}(e:rG q (c x++zK c (l.drop (k+1)))=some val) :
  Ob.ok P (.ld (rG q ((zK c l).drop (k*sz))) val):=by
 show rG q _=some val
 rw[zHz hc h,e]
theorem zJz{α:Type}{c:α->List AV}{sz:Nat}(hc:∀x,(c x).length=sz){l:List α}{k off:Nat}{x x':α}{vs:List AV}(h:l[k]? = some x)(hv:off+vs.length≤sz)(e:splice (c x) off vs=c x') :
  splice (zK c l) (k*sz+off) vs=zK c (l.set k x'):=by
 obtain⟨hk,hx⟩:=List.getElem?_eq_some_iff.1 h
 have h1:l=l.take k++x::l.drop (k+1):=by
  rw[←hx];simp
 have h2:l.set k x'=l.take k++x'::l.drop (k+1):=List.set_eq_take_append_cons_drop.trans (by rw[if_pos hk])
 have hlen:(zK c (l.take k)).length=k*sz:=by rw[xZ hc,List.length_take,Nat.min_eq_left (Nat.le_of_lt hk)]
 have e1:zK c l=zK c (l.take k)++(c x++zK c (l.drop (k+1))):=by
  conv=>lhs;rw[h1]
  rw[←iY];simp[zK]
 have e2:zK c (l.set k x')=zK c (l.take k)++(c x'++zK c (l.drop (k+1))):=by
  rw[h2,←iY];simp[zK]
 rw[e1,e2,←e]
 clear e1 e2 h1 h2
 generalize zK c (l.drop (k+1))=R
 generalize zK c (l.take k)=A at hlen ⊢
 simp only[splice]
 rw[List.take_append,List.take_of_length_le (by rw[hlen];omega),hlen,Nat.add_sub_cancel_left,show k*sz+off+vs.length=k*sz+(off+vs.length) by omega,List.drop_append,List.drop_of_length_le (by rw[hlen];omega),hlen,Nat.add_sub_cancel_left]
 rw[List.take_append_of_le_length (by rw[hc];omega),List.drop_append_of_le_length (by rw[hc];omega)]
 simp
theorem wtF{P:Program}{α:Type}{c:α->List AV}{sz:Nat}(hc:wQ c sz){l l2:List α}{k:Nat}{x x':α}(hx:zS l (k:Int)=some x)(h:iZ l k x'=some l2)(off m:Nat)(v:AV)(hs:v.sound=true)(hm:(tX v).length=m)(ho:off+m≤sz)(e:splice (c x) off (tX v)=c x') :
  Ob.ok P (.wt (zK c l) (k*sz+off) v m (zK c l2)):=by
 unfold iZ at h
 split at h
 ·rename_i hk
  cases h
  obtain⟨_,_,h2⟩:=fN hx
  refine⟨hs,hm,?_,zJz hc.len (by simpa using h2) (by omega) e⟩
  rw[xZ hc.len]
  have:=Nat.mul_le_mul_right sz (show k+1≤l.length from hk)
  rw[Nat.add_mul,Nat.one_mul]at this
  omega
 ·cases h
theorem wtE{P:Program}{α:Type}{c:α->List AV}{sz:Nat}(hc:wQ c sz){l l2:List α}{k:Nat}{x:α}{cs:List AV}(he:c x=cs)(h:iZ l k x=some l2):Ob.ok P (.wt (zK c l) (k*sz) (.agg cs) sz (zK c l2)):=he▸zOX hc h
def eV{α:Type}(l:List α)(o n:Nat):Option (List α):=if o+n≤l.length then some ((l.drop o).take n)else none
theorem dW{α:Type}{l r:List α}{o n:Nat}(h:eV l o n=some r):r=(l.drop o).take n∧r.length=n:=by
 unfold eV at h
 split at h
 ·cases h
  exact⟨rfl,by rw[List.length_take,List.length_drop];omega⟩
 ·cases h
theorem D9{P:Program}{α:Type}{c:α->List AV}{sz:Nat}(hc:wQ c sz){t e:TypeId}{ie:TypeInfo}{z:Value}(ht:P.underlying t=some (.slice e))(hi:P.info? e=some ie)(hs:ie.size=sz)(hz:ie.zero=some z)(hzs:z.cells.size=sz)(h1:1≤sz){B:Nat}(hb:ie.bytes=B)(hB:1≤B)
  {l m r:List α} (h:yN B l m=some r) (hm:m.length≠0) (z1:Option Nat) (hz1:∀q,z1=some q->q=sz) (src:Option (Nat×Nat×Nat)) (hsrc:∀q,src=some q->q.2.2=sz) :
  iR P t t z1 (zK c l) l.length src (zK c m) m.length=some (zK c r,r.length):=by
 obtain⟨h2,rfl⟩:=qP h
 subst hs
 subst hb
 have h3:(l.length+m.length)*1≤(l.length+m.length)*ie.bytes:=Nat.mul_le_mul_left _ hB
 unfold iR
 simp only[ht,hi,hz]
 rw[if_pos ⟨trivial,xZ hc.len l,xZ hc.len m,h1,hzs,h2,by omega,bR hc.one m,hm,hz1,hsrc⟩,iY,List.length_append]
theorem S1{α:Type}{c:α->List AV}{sz:Nat}(hc:∀x,(c x).length=sz)(l:List α)(o n:Nat):eS (zK c l) (o*sz) n sz=zK c ((l.drop o).take n):=by
 unfold eS
 rw[lB hc,oJ hc]
theorem zCH{P:Program}{α:Type}{c:α->List AV}{sz:Nat}(hc:wQ c sz){t e:TypeId}{ie:TypeInfo}{z:Value}(ht:P.underlying t=some (.slice e))(hi:P.info? e=some ie)(hs:ie.size=sz)(hz:ie.zero=some z)(hzs:z.cells.size=sz)(h1:1≤sz){B:Nat}(hb:ie.bytes=B)(hB:1≤B)
  {m r:List α} (h:yN B ([]:List α) m=some r) (hm:m.length≠0):Ob.ok P (.mk (iR P t t none [] 0 none (zK c m) m.length) (zK c r) r.length):=
 D9 hc ht hi hs hz hzs h1 hb hB h hm none (fun _ h=>nomatch h) none (fun _ h=>nomatch h)
theorem gA{P:Program}{α:Type}{c:α->List AV}{sz:Nat}(hc:wQ c sz){t e:TypeId}{ie:TypeInfo}{z:Value}(ht:P.underlying t=some (.slice e))(hi:P.info? e=some ie)(hs:ie.size=sz)(hz:ie.zero=some z)(hzs:z.cells.size=sz)(h1:1≤sz){B:Nat}(hb:ie.bytes=B)(hB:1≤B)
  {l m r:List α} (h:yN B l m=some r) (hm:m.length≠0):Ob.ok P (.mk (iR P t t (some sz) (zK c l) l.length none (zK c m) m.length) (zK c r) r.length):=
 D9 hc ht hi hs hz hzs h1 hb hB h hm _ (fun _ h=>(Option.some.inj h).symm) none (fun _ h=>nomatch h)
theorem zJy{P:Program}{α:Type}{c:α->List AV}{sz:Nat}(hc:wQ c sz){t e:TypeId}{ie:TypeInfo}{z:Value}(ht:P.underlying t=some (.slice e))(hi:P.info? e=some ie)(hs:ie.size=sz)(hz:ie.zero=some z)(hzs:z.cells.size=sz)(h1:1≤sz){B:Nat}(hb:ie.bytes=B)(hB:1≤B)
  {l l' m r:List α} {n:Nat} (hf:gfz n l=some l') (h:yN B l' m=some r) (hm:m.length≠0):Ob.ok P (.mk (iR P t t (some sz) (zK c l) n none (zK c m) m.length) (zK c r) r.length):=by
 obtain⟨rfl,rfl⟩:=sA hf
 exact gA hc ht hi hs hz hzs h1 hb hB h hm
theorem zLf{P:Program}{α:Type}{c:α->List AV}{sz:Nat}(hc:wQ c sz){t e:TypeId}{ie:TypeInfo}{z:Value}(ht:P.underlying t=some (.slice e))(hi:P.info? e=some ie)(hs:ie.size=sz)(hz:ie.zero=some z)(hzs:z.cells.size=sz)(h1:1≤sz){B:Nat}(hb:ie.bytes=B)(hB:1≤B)
  {l m' m r:List α} {o n j:Nat} (hp:eV m' o n=some m) (h:yN B l m=some r) (hm:m.length≠0):Ob.ok P (.mk (iR P t t (some sz) (zK c l) l.length (some (j,j,sz)) (eS (zK c m') (o*sz) n sz) n) (zK c r) r.length):=by
 obtain⟨rfl,hn⟩:=dW hp
 rw[S1 hc.len]
 have:=D9 hc ht hi hs hz hzs h1 hb hB h hm (some sz) (fun _ h=>(Option.some.inj h).symm) (some (j,j,sz)) (fun _ h=>by cases h;rfl)
 rw[hn]at this
 exact this
theorem zPz{P:Program}{α:Type}{c:α->List AV}{sz:Nat}(hc:wQ c sz){t e:TypeId}{ie:TypeInfo}(ht:P.underlying t=some (.slice e))(hi:P.info? e=some ie)(hs:ie.size=sz){l m r:List α}{n k:Nat}(hr:r=l.take n++m)(hn:n≤l.length)(hk:n+m.length≤k)(src:Option Nat)(hsrc:∀q,src=some q->q=sz) :
  zFy P t t sz (zK c l) n k src (zK c m) m.length=some (zK c r):=by
 subst hs
 subst hr
 unfold zFy
 simp only[ht,hi]
 rw[if_pos ⟨trivial,trivial,by rw[xZ hc.len];exact Nat.mul_le_mul_right _ hn,xZ hc.len m,hk,bR hc.one m,hsrc⟩,oJ hc.len,iY]
def zJx{α:Type}(c n:Nat)(l m:List α):Option (List α):=if n+m.length≤c∧n≤l.length then some (l.take n++m)else none
theorem zJw{α:Type}{c n:Nat}{l m r:List α}(h:zJx c n l m=some r):r=l.take n++m∧n≤l.length∧n+m.length≤c:=by
 unfold zJx at h
 split at h
 ·rename_i q;cases h;exact⟨rfl,q.2,q.1⟩
 ·cases h
theorem zLe{P:Program}{α:Type}{c:α->List AV}{sz:Nat}(hc:wQ c sz){t e:TypeId}{ie:TypeInfo}(ht:P.underlying t=some (.slice e))(hi:P.info? e=some ie)(hs:ie.size=sz){l m' m r:List α}{n k o n2:Nat}(hp:eV m' o n2=some m)(h:zJx k n l m=some r) :
  Ob.ok P (.inp (zFy P t t sz (zK c l) n k (some sz) (eS (zK c m') (o*sz) n2 sz) n2) (zK c r)):=by
 obtain⟨rfl,hn⟩:=dW hp
 obtain⟨q1,q2,q3⟩:=zJw h
 rw[S1 hc.len]
 have:=zPz hc ht hi hs q1 q2 q3 (some sz) (fun _ h=>(Option.some.inj h).symm)
 rw[hn]at this
 exact this
def gle(a b:Nat):Option Unit:=if a≤b then some ()else none
theorem zLd{a b:Nat}{u:Unit}(h:gle a b=some u):a≤b:=by
 unfold gle at h
 split at h
 ·assumption
 ·cases h
theorem zSr{P:Program}{t e:TypeId}{ie:TypeInfo}{zv:Value}(ht:P.underlying t=some (.slice e))(hi:P.info? e=some ie)(hz:ie.zero=some zv){sz:Nat}(hzs:zv.cells.size=sz)(h1:zv.cells.toList.all Value.oneCell'=true){l off:Nat}(h:l≤off):Ob.ok P (.clr t l off sz):=
 ⟨h,e,ie,zv,ht,hi,hz,hzs,h1⟩
theorem zWc{P:Program}{α:Type}{c:α->List AV}{sz:Nat}(hc:wQ c sz){t e:TypeId}{ie:TypeInfo}{zv:Value}(ht:P.underlying t=some (.slice e))(hi:P.info? e=some ie)(hz:ie.zero=some zv)(hzs:zv.cells.size=sz)(h1:zv.cells.toList.all Value.oneCell'=true){l:List α}{o:Nat}{u:Unit}(h:gle l.length o=some u):Ob.ok P (.clr t (zK c l).length (o*sz) sz):=
 zSr ht hi hz hzs h1 (by rw[xZ hc.len];exact Nat.mul_le_mul_right _ (zLd h))
theorem zAO{P:Program}{t e:TypeId}{ie:TypeInfo}(ht:P.underlying t=some (.slice e))(hi:P.info? e=some ie){n:Nat}(h:n=0):Ob.ok P (.same t t n):=⟨rfl,h,e,ie,ht,hi⟩
def pO:List (Int×Int)->Nat->List MapEntry
 | [],_=>[]
 |p::m,c=>{ key:=.int .i64 p.1,val:=.int .i64 p.2,born:=c } :: pO m (c+1)
def dX(m:List (Int×Int)):Blk:=.obj (.map ⟨pO m 0⟩ m.length)
def iJ:List (Int×Int)->Int->Option Int
 | [],_=>none
 |p::m,k=>if (k==p.1)=true then some p.2 else iJ m k
def zFi(m:List (Int×Int))(k:Int):Int:=match iJ m k with|some v=>v|none=>0
def E0(m:List (Int×Int))(k:Int):Bool:=match iJ m k with|some _=>true|none=>false
def eG:List (Int×Int)->Int->Int->List (Int×Int)
 | [],k,v=>[(k,v)]
 |p::m,k,v=>if (k==p.1)=true then(k,v)::m else p::eG m k v
def bX:List (Int×Int)->Int->Nat->Option (Nat×Value)
 | [],_,_=>none
 |p::m,k,i=>if (k==p.1)=true then some (i,.int .i64 p.2)else bX m k (i+1)
theorem kL(k:Int):∀(m:List (Int×Int)) (c i:Nat),Instr.findNow (.int .i64) (.int .i64 k) (pO m c) i=some (bX m k i)
 | [],_,_=>rfl
 |p::m,c,i=>by
  simp only[pO,Instr.findNow,Instr.sameNow,bX,if_true]
  cases hb:(k==p.1)with
  |true=>rfl
  |false=>simp only[Bool.false_eq_true,if_false];exact kL k m (c+1) (i+1)
theorem S2(k:Int):∀(m:List (Int×Int)) (i:Nat),(bX m k i).map Prod.snd=(iJ m k).map (Value.int .i64)
 | [],_=>rfl
 |p::m,i=>by
  simp only[bX,iJ]
  cases hb:(k==p.1)with
  |true=>rfl
  |false=>simp only[Bool.false_eq_true,if_false];exact S2 k m (i+1)
theorem zLc(k:Int)(m:List (Int×Int)):zID (bX m k 0) (.int .i64 0)=ai (zFi m k):=by
 have h:=S2 k m 0
 unfold zFi
 cases h1:bX m k 0<;>cases h2:iJ m k<;>rw[h1,h2]at h
 ·rfl
 ·cases h
 ·cases h
 ·simp only[Option.map_some,Option.some.injEq]at h
  rename_i q v
  obtain⟨j,u⟩:=q
  simp only at h
  subst h
  rfl
theorem zLb(k:Int)(m:List (Int×Int)):(bX m k 0).isSome=E0 m k:=by
 have h:=S2 k m 0
 unfold E0
 cases h1:bX m k 0<;>cases h2:iJ m k<;>rw[h1,h2]at h
 ·rfl
 ·cases h
 ·cases h
 ·rfl
theorem bY:∀(m:List (Int×Int)) (c:Nat),(pO m c).length=m.length
 | [],_=>rfl
 |_::m,c=>by simp[pO,bY m (c+1)]
theorem zCI(k v:Int):∀(m:List (Int×Int)) (c i:Nat),
    (match bX m k i with
      |some (j,_)=>i≤j∧(pO m c).modify (j-i) (fun e=>{ e with key:=.int .i64 k,val:=.int .i64 v })=pO (eG m k v) c∧(eG m k v).length=m.length
      |none=>pO m c++[{ key:=.int .i64 k,val:=.int .i64 v,born:=c+m.length }]=pO (eG m k v) c∧(eG m k v).length=m.length+1)
  | [],c,i=>by simp[bX,eG,pO]
  |p::m,c,i=>by
    simp only[bX,eG]
    cases hb:(k==p.1)with
    |true=>simp[pO]
    |false=>
      simp only[Bool.false_eq_true,if_false]
      have ih:=zCI k v m (c+1) (i+1)
      cases hm:bX m k (i+1)with
      |none=>
        rw[hm]at ih
        simp only at ih ⊢
        refine⟨?_,by simp[ih.2]⟩
        simp only[pO,List.cons_append,List.length_cons]
        rw[←ih.1,show c+(m.length+1)=c+1+m.length by omega]
      |some q=>
        obtain⟨j,u⟩:=q
        rw[hm]at ih
        simp only at ih ⊢
        refine⟨by omega,?_,by simp[ih.2.2]⟩
        simp only[pO]
        rw[show j-i=(j-(i+1))+1 by omega,List.modify_succ_cons,ih.2.1]
variable {P:Program} {t kt et:TypeId} {ie:TypeInfo}
theorem zSq(ht:P.underlying t=some (.map kt et))(hk:P.underlying kt=some (.int .i64))(he:P.info? et=some ie)(hz:ie.zero=some (.int .i64 0))(m:List (Int×Int))(k:Int) :
  Ob.ok P (.lk t (dX m) (ai k) true (.tup [ai (zFi m k),ab (E0 m k)])):=by
 intro ev i s hl
 unfold nW
 simp only[ht,ai,hk,he,dX]at hl ⊢
 simp only[hl,hz,kL,tJ,cond_true,if_true,zLc,zLb]
theorem zSp(ht:P.underlying t=some (.map kt et))(hk:P.underlying kt=some (.int .i64))(m:List (Int×Int))(k v:Int) :
  Ob.ok P (.mu t (dX m) (ai k) (ai v) (dX (eG m k v))):=by
 intro ev i s hl
 unfold tY
 simp only[ht,ai,hk,dX]at hl ⊢
 simp only[hl,kL,tJ,cond_true]
 have h:=zCI k v m 0 0
 cases hm:bX m k 0 with
 |none=>
  rw[hm]at h
  simp only[Nat.zero_add]at h ⊢
  rw[h.2,←h.1]
  simp
 |some q=>
  obtain⟨j,u⟩:=q
  rw[hm]at h
  simp only[Nat.sub_zero]at h ⊢
  have e:(⟨pO m 0⟩:Array MapEntry).modify j (fun e=>{ e with key:=.int .i64 k,val:=.int .i64 v })=⟨pO (eG m k v) 0⟩:=by
   apply Array.ext'
   rw[Array.toList_modify]
   exact h.2.1
  rw[h.2.2,e]
theorem zSo(ht:P.underlying t=some (.map kt et))(m:List (Int×Int)):Ob.ok P (.ln t (dX m) (ai (m.length:Int))):=
 ⟨_,_,_,_,rfl,ht,by simp[goInt,bY]⟩
end Go.Ab
namespace Go.Ab
open Go Go.RowKit
abbrev slv {α:Type} (c:α->List AV) (l:List α) (o:Own):AV:=.sl (zK c l) l.length o
abbrev nos (n:Nat):List Orc:=List.replicate n .no
structure OL (P:Program) (os:List Orc) (ob:List Ob):Prop where
 ok:yD P ob
theorem yD.rev{P:Program}:∀(a b:List Ob),yD P a->yD P b->yD P (a.reverseAux b)
 | [],_,_,k=>k
 |x::a,b,h,k=>yD.rev a (x::b) h.2 ⟨h.1,k⟩
section
variable {P:Program} {os:List Orc} {ob:List Ob}
theorem OL.nil:OL P [] []:=⟨trivial⟩
theorem oB{b b':Bool}(n:Nat)(h:b=b')(k:OL P os ob):OL P (.bit b'::(nos n++os)) (.bit b b'::ob):=⟨⟨h,k.ok⟩⟩
theorem oA{x:Option AV}{a:AV}(n:Nat)(h:x=some a)(k:OL P os ob):OL P (.av a::(nos n++os)) (.av x a::ob):=⟨⟨h,k.ok⟩⟩
theorem oC{f:FuncId}{H0:List Blk}{args:List AV}{res:AV}{H1:List Blk}{nst:Nat}(n:Nat)(ι:List Nat)(h:CT P f H0 args res H1 nst)(k:OL P os ob):OL P (.call ι H1 nst res none::(nos n++os)) (.call f H0 args res H1 nst::ob):=⟨⟨h,k.ok⟩⟩
theorem oK{b b':Bool}{f:FuncId}{H0:List Blk}{args:List AV}{res:AV}{H1:List Blk}{nst:Nat}(n:Nat)(ι:List Nat)(hb:b=b')(h:CT P f H0 args res H1 nst)(k:OL P os ob):OL P (.call ι H1 nst res (some b')::(nos n++os)) (.call f H0 args res H1 nst :: .bit b b'::ob):=⟨⟨h,hb,k.ok⟩⟩
theorem oF{x:Option AV}{a:AV}(n:Nat)(h:∃a0,x=some a0∧a0.frz=a)(k:OL P os ob):OL P (.fz a::(nos n++os)) (.fz x a::ob):=⟨⟨h,k.ok⟩⟩
theorem oP{t t2:TypeId}{es es2 es':List AV}{n1 n2 n' sz:Nat}{e:Bool}(n:Nat)(h:Ob.ok P (.app t t2 es es2 es' n1 n2 n' sz e))(k:OL P os ob):OL P (.app es' n' sz e::(nos n++os)) (.app t t2 es es2 es' n1 n2 n' sz e::ob):=⟨⟨h,k.ok⟩⟩
theorem oS{cs es:List AV}{l m:Nat}(n:Nat)(h:Ob.ok P (.cells cs es l m))(k:OL P os ob):OL P (.sl es m::(nos n++os)) (.cells cs es l m::ob):=⟨⟨h,k.ok⟩⟩
theorem oL{t:TypeId}{X:Blk}{key:AV}{o:Bool}{a:AV}(n:Nat)(h:Ob.ok P (.lk t X key o a))(k:OL P os ob):OL P (.lk a::(nos n++os)) (.lk t X key o a::ob):=⟨⟨h,k.ok⟩⟩
theorem oU{t:TypeId}{X Y:Blk}{key v:AV}(n:Nat)(h:Ob.ok P (.mu t X key v Y))(k:OL P os ob):OL P (.mu Y::(nos n++os)) (.mu t X key v Y::ob):=⟨⟨h,k.ok⟩⟩
theorem oM{x:Option (List AV×Nat)}{cs:List AV}{m:Nat}(n:Nat)(h:Ob.ok P (.mk x cs m))(k:OL P os ob):OL P (.mk cs m::(nos n++os)) (.mk x cs m::ob):=⟨⟨h,k.ok⟩⟩
theorem oG{x:Option AV}{a:AV}(n:Nat)(h:Ob.ok P (.ld x a))(k:OL P os ob):OL P (.ld a::(nos n++os)) (.ld x a::ob):=⟨⟨h,k.ok⟩⟩
theorem oW{cs:List AV}{off:Nat}{v:AV}{sz:Nat}{cs':List AV}(n:Nat)(h:Ob.ok P (.wt cs off v sz cs'))(k:OL P os ob):OL P (.wt cs'::(nos n++os)) (.wt cs off v sz cs'::ob):=⟨⟨h,k.ok⟩⟩
theorem oN{t:TypeId}{X:Blk}{a:AV}(n:Nat)(h:Ob.ok P (.ln t X a))(k:OL P os ob):OL P (.lk a::(nos n++os)) (.ln t X a::ob):=⟨⟨h,k.ok⟩⟩
theorem oI{x:Option (List AV)}{cs:List AV}(n:Nat)(h:Ob.ok P (.inp x cs))(k:OL P os ob):OL P (.inp cs::(nos n++os)) (.inp x cs::ob):=⟨⟨h,k.ok⟩⟩
theorem oQ{t t2:TypeId}{m:Nat}(n:Nat)(h:Ob.ok P (.same t t2 m))(k:OL P os ob):OL P (.same::(nos n++os)) (.same t t2 m::ob):=⟨⟨h,k.ok⟩⟩
theorem oR{t:TypeId}{l off z:Nat}(n:Nat)(h:Ob.ok P (.clr t l off z))(k:OL P os ob):OL P (.clr::(nos n++os)) (.clr t l off z::ob):=⟨⟨h,k.ok⟩⟩
theorem oD{es:List AV}(h:AV.DataL es)(k:OL P os ob):OL P os (.data es::ob):=⟨⟨h,k.ok⟩⟩
end
theorem spl{α:Type}{b:Bool}{x y:Option α}{r:α}(h:(if b=true then x else y)=some r):(b=true∧x=some r)∨(b=false∧y=some r):=by
 cases b
 ·exact .inr ⟨rfl,by simpa using h⟩
 ·exact .inl ⟨rfl,by simpa using h⟩
theorem spT{α:Type}{b:Bool}{x:Option α}{r:α}(h:(if b=true then x else none)=some r):b=true∧x=some r:=by
 rcases spl h with h|⟨_,h⟩
 ·exact h
 ·cases h
theorem zSn{α:Type}{b:Bool}{x:Option α}{r:α}(h:(if b=true then none else x)=some r):b=false∧x=some r:=by
 rcases spl h with⟨_,h⟩|h
 ·cases h
 ·exact h
theorem nn{α:Type}{r:α}{p:Prop}(h:(none:Option α)=some r):p:=nomatch h
theorem zPy{α:Type}{b:Bool}{x y:α}(h:b=true):(if b=true then x else y)=x:=if_pos h
theorem zLa{α:Type}{b:Bool}{x y:α}(h:b=false):(if b=true then x else y)=y:=by subst h;rfl
theorem sj{α:Type}{x y:α}(h:some x=some y):x=y:=Option.some.inj h
def sp(j:Nat->Value):Nat->Nat->List (Nat×AV)->List AV
 |0,_,_=>[]
 |n+1,i,l=>match l with
  | []=>.val (j i)::sp j n (i+1) []
  | (m,a)::l'=>bif Nat.beq m i then a::sp j n (i+1) l' else .val (j i)::sp j n (i+1) l
section
variable {P:Program} {pr:FuncId->List AV->LSt->Option LA} (hp:pA P pr) (hm:P.follows .mixedOrders=true) {na:Nb} {fn:Func} {f:FuncId}
include hp hm
theorem OL.toHead{H0 H1:List Blk}{args:List AV}{res:AV}{nst:Nat}(q:P.funcs[f]? = some fn∧fn.body.isNone=false)(m:Nat)(rs:List (Option Nat×Nat×Nat))(keep ks live:List Nat){os:List Orc}{ob:List Ob}(k:OL P os ob){c:Code}{fs':List Fr}{E:(Nat->Value)->List AV}{S:LSt}
  (hk:∀j,Dl P H0.length c (E j) S (vC P H0.length (Q9 P H0.length fn res H1 nst) fs'))
  (h:∀j,iW P pr H0.length 3000 (.run (bod fn)) [] (args++List.replicate (fn.ntmps-args.length) (.val undef)) (st0 H0) ((nos m++os).reverseAux []) rs keep ks live j=some (c,fs',E j,S,ob.reverseAux [])):uG P f H0 args res H1 nst:=
 uG.toHead hp hm q.1 q.2 3000 _ rs keep ks live h (yD.rev _ _ k.ok trivial) hk
theorem OL.toFin{H0 H1:List Blk}{args:List AV}{res:AV}{nst:Nat}(q:P.funcs[f]? = some fn∧fn.body.isNone=false)(m:Nat)(rs:List (Option Nat×Nat×Nat))(keep ks:List Nat)(own:Bool){os:List Orc}{ob:List Ob}(k:OL P os ob)
  (h:dP P pr H0.length fn 3000 (.run (bod fn)) [] (args++List.replicate (fn.ntmps-args.length) (.val undef)) (st0 H0) ((nos m++os).reverseAux []) rs keep ks own=some (res,H1,ob.reverseAux [])) (hn:nst≤ks.length):uG P f H0 args res H1 nst:=
 uG.toFin hp hm q.1 q.2 3000 _ rs keep ks own h (yD.rev _ _ k.ok trivial) hn
theorem OL.lHead{Q:AX->List AV->LSt->Prop}{c c':Code}{fs fs':List Fr}{env:List AV}{s S:LSt}(m:Nat)(rs:List (Option Nat×Nat×Nat))(keep ks live:List Nat){os:List Orc}{ob:List Ob}(k:OL P os ob){E:(Nat->Value)->List AV}
  (hk:∀j,Dl P na c' (E j) S (vC P na Q fs')) (h:∀j,iW P pr na.n 3000 (.run c) (.loop c::fs) env s ((nos m++os).reverseAux []) rs keep ks live j=some (c',fs',E j,S,ob.reverseAux [])):Dl P na c env s (vC P na Q fs):=
 Dl.toHead hp hm 3000 _ rs keep ks live h (yD.rev _ _ k.ok trivial) hk
theorem OL.lFin{c:Code}{fs:List Fr}{env:List AV}{s:LSt}{res:AV}{H1:List Blk}{nst:Nat}(m:Nat)(rs:List (Option Nat×Nat×Nat))(keep ks:List Nat)(own:Bool){os:List Orc}{ob:List Ob}(k:OL P os ob)
  (h:dP P pr na.n fn 3000 (.run c) (.loop c::fs) env s ((nos m++os).reverseAux []) rs keep ks own=some (res,H1,ob.reverseAux [])) (hn:nst≤ks.length):Dl P na c env s (vC P na (Q9 P na fn res H1 nst) fs):=
 Dl.toFin hp hm 3000 _ rs keep ks own h (yD.rev _ _ k.ok trivial) hn
end
section
variable {P:Program} {os:List Orc} {ob:List Ob}
theorem oCl(n:Nat)(k:OL P os ob):OL P (.cl::(nos n++os)) ob:=⟨k.ok⟩
theorem oCk{f:FuncId}{H0:List Blk}{args:List AV}{res:AV}{H1:List Blk}{nst:Nat}(n:Nat)(ι:List Nat)(kp:List (Nat×Nat))(h:CT P f H0 args res H1 nst)(hk:zFw H0 H1 kp)(k:OL P os ob):OL P (.callk kp ι H1 nst res::(nos n++os)) (.call f H0 args res H1 nst :: .kp H0 H1 kp::ob):=⟨⟨h,hk,k.ok⟩⟩
end
end Go.Ab
set_option linter.unusedSimpArgs false
namespace Go.Ab
open Go Go.RowKit
theorem xI{P:Program}{α:Type}{C L:α->List AV}(he:∀t,C t=L t)(l:List α):Ob.ok P (.cells (zK L l) (zK C l) l.length l.length):=⟨by rw[show L=C from funext fun t=>(he t).symm],rfl⟩
structure zD where
 n_:Int
 type_:Tm
instance:Inhabited zD:=⟨⟨default,default⟩⟩
def zJ(x:zD):List AV:=[ai x.n_,ai x.type_.k,ai x.type_.n,slv zG x.type_.sub .no]
def zLA(x:zD):AV:=.agg (zJ x)
theorem xJ:wQ zJ 4:=⟨fun _=>rfl,fun _=>⟨trivial,trivial,trivial,⟨trivial,dT _⟩,trivial⟩,fun _=>rfl⟩
theorem zF(l:List zD):AV.DataL (zK zJ l):=vX xJ.data l
structure zI where
 n_:Int
 t_:Tm
instance:Inhabited zI:=⟨⟨default,default⟩⟩
def zO(x:zI):List AV:=[ai x.n_,ai x.t_.k,ai x.t_.n,slv zG x.t_.sub .no]
theorem xT:wQ zO 4:=⟨fun _=>rfl,fun _=>⟨trivial,trivial,trivial,⟨trivial,dT _⟩,trivial⟩,fun _=>rfl⟩
theorem zM(l:List zI):AV.DataL (zK zO l):=vX xT.data l
structure xG where
 yes_:Bool
 vars_:List zD
 solved_:List zI
 steps_:List Int
instance:Inhabited xG:=⟨⟨default,default,default,default⟩⟩
def zAP(x:xG):List AV:=[ab x.yes_,slv zJ x.vars_ .no,slv zO x.solved_ .no,slv yB x.steps_ .no]
def vP(x:xG):AV:=.agg (zAP x)
structure xD where
 n_:Int
 type_:Tm
instance:Inhabited xD:=⟨⟨default,default⟩⟩
def wT(x:xD):List AV:=[ai x.n_,ai x.type_.k,ai x.type_.n,slv zG x.type_.sub .no]
theorem gB:wQ wT 4:=⟨fun _=>rfl,fun _=>⟨trivial,trivial,trivial,⟨trivial,dT _⟩,trivial⟩,fun _=>rfl⟩
theorem wN(l:List xD):AV.DataL (zK wT l):=vX gB.data l
structure zR where
 con_:Int
 yes_:Bool
 args_:List Int
 vars_:List zD
 solved_:List zI
instance:Inhabited zR:=⟨⟨default,default,default,default,default⟩⟩
def yE(x:zR):List AV:=[ai x.con_,ab x.yes_,slv yB x.args_ .no,slv zJ x.vars_ .no,slv zO x.solved_ .no]
def bZ(x:zR):AV:=.agg (yE x)
theorem qS:wQ yE 5:=⟨fun _=>rfl,fun _=>⟨trivial,trivial,⟨trivial,dI _⟩,⟨trivial,zF _⟩,⟨trivial,zM _⟩,trivial⟩,fun _=>rfl⟩
theorem yF(l:List zR):AV.DataL (zK yE l):=vX qS.data l
structure zJv where
 l_:List Ent
 parts_:List yX
instance:Inhabited zJv:=⟨⟨default,default⟩⟩
structure zH where
 a_:Tm
 b_:Tm
instance:Inhabited zH:=⟨⟨default,default⟩⟩
def zP(x:zH):List AV:=[ai x.a_.k,ai x.a_.n,slv zG x.a_.sub .no,ai x.b_.k,ai x.b_.n,slv zG x.b_.sub .no]
def uS(x:zH):AV:=.agg (zP x)
theorem wX:wQ zP 6:=⟨fun _=>rfl,fun _=>⟨trivial,trivial,⟨trivial,dT _⟩,trivial,trivial,⟨trivial,dT _⟩,trivial⟩,fun _=>rfl⟩
theorem zN(l:List zH):AV.DataL (zK zP l):=vX wX.data l
structure zJu where
 e_:Int
instance:Inhabited zJu:=⟨⟨default⟩⟩
end Go.Ab
namespace Go.Proofs.YtfbkefchjcocmaaGreat
open Go Go.Ab
theorem S3(b:Bool):b=true∨b=false:=by cases b<;>simp
theorem zB{α:Type}{p:α->Prop}:∀x∈([]:List α),p x:=fun _ h=>nomatch h
theorem zA{α:Type}{p:α->Prop}{a:α}{l:List α}(h:p a)(k:∀x∈l,p x):∀x∈a::l,p x:=by
 intro x hx
 rcases List.mem_cons.1 hx with rfl|hx
 ·exact h
 ·exact k x hx
theorem o0:OL Tryz.prog [] []:=OL.nil
abbrev mB (M:yY) (i:Nat):Blk:=.cells [slv yP M.l .no,.mp i 0,slv yB M.args .no,slv yB M.own .no]
abbrev mR (M:yY):Blk:=.cells [slv yP M.rl .no,slv pH M.parts .no]
theorem tv:True:=trivial
theorem lz{a b:Nat}(h:Nat.ble (a+1) b=true):a<b:=Nat.le_of_ble_eq_true h
abbrev Ct:=CT Tryz.prog
abbrev Ci:=uG Tryz.prog
abbrev Cf:=FuncId->List Blk->List AV->AV->List Blk->Nat->Prop
abbrev Qf (f:FuncId) (fn:Func):Prop:=Tryz.prog.funcs[f]? = some fn∧fn.body.isNone=false
section
variable {f:FuncId} {fn:Func} {H0 H1:List Blk} {args:List AV} {res:AV} {nst:Nat} {os:List Orc} {ob:List Ob}
theorem tF(q:Qf f fn)(m:Nat)(keep:List Nat)(k:OL Tryz.prog os ob)(h:dP Tryz.prog rQ H0.length fn 3000 (.run (bod fn)) [] (args++List.replicate (fn.ntmps-args.length) (.val undef)) (st0 H0) ((nos m++os).reverseAux []) [] keep [] false=some (res,H1,ob.reverseAux []):=by kernel_rfl):uG Tryz.prog f H0 args res H1 0:=OL.toFin xX mixed q m [] keep [] false k h (Nat.le_refl _)
theorem tG(q:Qf f fn)(m:Nat)(rs:List (Option Nat×Nat×Nat))(keep ks:List Nat)(own:Bool)(k:OL Tryz.prog os ob)(h:dP Tryz.prog rQ H0.length fn 3000 (.run (bod fn)) [] (args++List.replicate (fn.ntmps-args.length) (.val undef)) (st0 H0) ((nos m++os).reverseAux []) rs keep ks own=some (res,H1,ob.reverseAux []):=by kernel_rfl)(hn:nst≤ks.length:=by decide):uG Tryz.prog f H0 args res H1 nst:=OL.toFin xX mixed q m rs keep ks own k h hn
theorem tH(q:Qf f fn)(m:Nat)(rs:List (Option Nat×Nat×Nat))(keep ks live:List Nat)(k:OL Tryz.prog os ob){c:Code}{fs':List Fr}{E:(Nat->Value)->List AV}{S:LSt}(hk:∀j,Dl Tryz.prog H0.length c (E j) S (vC Tryz.prog H0.length (Q9 Tryz.prog H0.length fn res H1 nst) fs'))(h:∀j,iW Tryz.prog rQ H0.length 3000 (.run (bod fn)) [] (args++List.replicate (fn.ntmps-args.length) (.val undef)) (st0 H0) ((nos m++os).reverseAux []) rs keep ks live j=some (c,fs',E j,S,ob.reverseAux []):=by intro j;kernel_rfl):uG Tryz.prog f H0 args res H1 nst:=OL.toHead xX mixed q m rs keep ks live k hk h
variable {na:Nb} {Q:AX->List AV->LSt->Prop} {c c':Code} {fs fs':List Fr} {env:List AV} {s S:LSt}
theorem lH(m:Nat)(rs:List (Option Nat×Nat×Nat))(keep ks live:List Nat)(k:OL Tryz.prog os ob){E:(Nat->Value)->List AV}(hk:∀j,Dl Tryz.prog na c' (E j) S (vC Tryz.prog na Q fs'))(h:∀j,iW Tryz.prog rQ na.n 3000 (.run c) (.loop c::fs) env s ((nos m++os).reverseAux []) rs keep ks live j=some (c',fs',E j,S,ob.reverseAux []):=by intro j;kernel_rfl):Dl Tryz.prog na c env s (vC Tryz.prog na Q fs):=OL.lHead xX mixed m rs keep ks live k hk h
theorem lF(m:Nat)(keep:List Nat)(k:OL Tryz.prog os ob)(h:dP Tryz.prog rQ na.n fn 3000 (.run c) (.loop c::fs) env s ((nos m++os).reverseAux []) [] keep [] false=some (res,H1,ob.reverseAux []):=by kernel_rfl):Dl Tryz.prog na c env s (vC Tryz.prog na (Q9 Tryz.prog na fn res H1 0) fs):=OL.lFin xX mixed m [] keep [] false k h (Nat.le_refl _)
theorem lG(m:Nat)(rs:List (Option Nat×Nat×Nat))(keep ks:List Nat)(own:Bool)(k:OL Tryz.prog os ob)(h:dP Tryz.prog rQ na.n fn 3000 (.run c) (.loop c::fs) env s ((nos m++os).reverseAux []) rs keep ks own=some (res,H1,ob.reverseAux []):=by kernel_rfl)(hn:nst≤ks.length:=by decide):Dl Tryz.prog na c env s (vC Tryz.prog na (Q9 Tryz.prog na fn res H1 nst) fs):=OL.lFin xX mixed m rs keep ks own k h hn
end
theorem oZ:Tryz.prog.info? 39=some Tryz.t39:=by kernel_rfl
theorem qT:Tryz.prog.info? 77=some Tryz.t77:=by kernel_rfl
theorem zSm{l m' m r:List zD}{n k o n2:Nat}(hp:eV m' o n2=some m)(h:zJx k n l m=some r):Ob.ok Tryz.prog (.inp (zFy Tryz.prog 23 23 4 (zK zJ l) n k (some 4) (eS (zK zJ m') (o*4) n2 4) n2) (zK zJ r)):=zLe xJ Tryz.underlying23 qT rfl hp h
theorem zUh{l m r:List zD}(h:yN 48 l m=some r)(hm:m.length=0):Ob.ok Tryz.prog (.app 23 23 (zK zJ l) (zK zJ m) (zK zJ r) l.length m.length r.length 4 true):=fO xJ Tryz.underlying23 qT rfl rfl rfl (by decide) rfl (by decide) h hm
theorem pP{l m r:List Tm}(h:yN 40 l m=some r)(hm:m.length=0):Ob.ok Tryz.prog (.app 24 24 (zK zG l) (zK zG m) (zK zG r) l.length m.length r.length 3 true):=fO tU Tryz.underlying24 oZ rfl rfl rfl (by decide) rfl (by decide) h hm
theorem S4:Tryz.prog.info? 41=some Tryz.t41:=by kernel_rfl
theorem zHy{l m r:List zI}(h:yN 48 l m=some r)(hm:m.length=0):Ob.ok Tryz.prog (.app 29 29 (zK zO l) (zK zO m) (zK zO r) l.length m.length r.length 4 true):=fO xT Tryz.underlying29 S4 rfl rfl rfl (by decide) rfl (by decide) h hm
theorem o7:Tryz.prog.info? 3=some Tryz.t3:=by kernel_rfl
theorem zLB{l m r:List Int}(h:yN 8 l m=some r)(hm:m.length=0):Ob.ok Tryz.prog (.app 30 30 (zK yB l) (zK yB m) (zK yB r) l.length m.length r.length 1 true):=fO dQ Tryz.underlying30 o7 rfl rfl rfl (by decide) rfl (by decide) h hm
theorem fR:Tryz.prog.info? 158=some Tryz.t158:=by kernel_rfl
theorem zSl{n:Nat}(h:n=0):Ob.ok Tryz.prog (.same 122 122 n):=zAO Tryz.underlying122 fR h
theorem zUg{n:Nat}(h:n=0):Ob.ok Tryz.prog (.same 23 23 n):=zAO Tryz.underlying23 qT h
theorem zUf{n:Nat}(h:n=0):Ob.ok Tryz.prog (.same 24 24 n):=zAO Tryz.underlying24 oZ h
theorem zLC{l m r:List zH}(h:yN 80 l m=some r)(hm:m.length≠0):Ob.ok Tryz.prog (.mk (iR Tryz.prog 122 122 (some 6) (zK zP l) l.length none (zK zP m) m.length) (zK zP r) r.length):=gA wX Tryz.underlying122 fR rfl rfl rfl (by decide) rfl (by decide) h hm
theorem zUe{l m r:List zD}(h:yN 48 l m=some r)(hm:m.length≠0):Ob.ok Tryz.prog (.mk (iR Tryz.prog 23 23 (some 4) (zK zJ l) l.length none (zK zJ m) m.length) (zK zJ r) r.length):=gA xJ Tryz.underlying23 qT rfl rfl rfl (by decide) rfl (by decide) h hm
theorem zRC{l m r:List Int}(h:yN 8 l m=some r)(hm:m.length≠0):Ob.ok Tryz.prog (.mk (iR Tryz.prog 30 30 (some 1) (zK yB l) l.length none (zK yB m) m.length) (zK yB r) r.length):=gA dQ Tryz.underlying30 o7 rfl rfl rfl (by decide) rfl (by decide) h hm
theorem zLD:Tryz.prog.info? 71=some Tryz.t71:=by kernel_rfl
theorem zUd{l m r:List zR}(h:yN 88 l m=some r)(hm:m.length≠0):Ob.ok Tryz.prog (.mk (iR Tryz.prog 67 67 (some 5) (zK yE l) l.length none (zK yE m) m.length) (zK yE r) r.length):=gA qS Tryz.underlying67 zLD rfl rfl rfl (by decide) rfl (by decide) h hm
theorem zPx{l m' m r:List zH}{o n j:Nat}(hp:eV m' o n=some m)(h:yN 80 l m=some r)(hm:m.length≠0):Ob.ok Tryz.prog (.mk (iR Tryz.prog 122 122 (some 6) (zK zP l) l.length (some (j,j,6)) (eS (zK zP m') (o*6) n 6) n) (zK zP r) r.length):=zLf wX Tryz.underlying122 fR rfl rfl rfl (by decide) rfl (by decide) hp h hm
theorem zSk{l l' m r:List zI}{n:Nat}(hf:gfz n l=some l')(h:yN 48 l' m=some r)(hm:m.length≠0):Ob.ok Tryz.prog (.mk (iR Tryz.prog 29 29 (some 4) (zK zO l) n none (zK zO m) m.length) (zK zO r) r.length):=zJy xT Tryz.underlying29 S4 rfl rfl rfl (by decide) rfl (by decide) hf h hm
theorem zRD:Tryz.prog.info? 9=some Tryz.t9:=by kernel_rfl
theorem zSj{l m r:List ByteArray}(h:yN 16 l m=some r)(hm:m.length≠0):Ob.ok Tryz.prog (.app 177 177 (zK D5 l) (zK D5 m) (zK D5 r) l.length m.length r.length 1 false):=rR zFq Tryz.underlying177 zRD rfl rfl rfl (by decide) rfl (by decide) h hm
theorem zHx:Tryz.prog.info? 216=some Tryz.t216:=by kernel_rfl
theorem zSi{l m r:List tL}(h:yN 56 l m=some r)(hm:m.length≠0):Ob.ok Tryz.prog (.app 180 180 (zK bQ l) (zK bQ m) (zK bQ r) l.length m.length r.length 3 false):=rR zFo Tryz.underlying180 zHx rfl rfl rfl (by decide) rfl (by decide) h hm
theorem zLE:Tryz.prog.info? 81=some Tryz.t81:=by kernel_rfl
theorem zUc{l m r:List Ent}(h:yN 192 l m=some r)(hm:m.length≠0):Ob.ok Tryz.prog (.app 22 22 (zK yP l) (zK yP m) (zK yP r) l.length m.length r.length 15 false):=rR zFp Tryz.underlying22 zLE rfl rfl rfl (by decide) rfl (by decide) h hm
theorem zHw{l m r:List zD}(h:yN 48 l m=some r)(hm:m.length≠0):Ob.ok Tryz.prog (.app 23 23 (zK zJ l) (zK zJ m) (zK zJ r) l.length m.length r.length 4 false):=rR xJ Tryz.underlying23 qT rfl rfl rfl (by decide) rfl (by decide) h hm
theorem vD{l m r:List Tm}(h:yN 40 l m=some r)(hm:m.length≠0):Ob.ok Tryz.prog (.app 24 24 (zK zG l) (zK zG m) (zK zG r) l.length m.length r.length 3 false):=rR tU Tryz.underlying24 oZ rfl rfl rfl (by decide) rfl (by decide) h hm
theorem zHv{l m r:List zI}(h:yN 48 l m=some r)(hm:m.length≠0):Ob.ok Tryz.prog (.app 29 29 (zK zO l) (zK zO m) (zK zO r) l.length m.length r.length 4 false):=rR xT Tryz.underlying29 S4 rfl rfl rfl (by decide) rfl (by decide) h hm
theorem lD{l m r:List Int}(h:yN 8 l m=some r)(hm:m.length≠0):Ob.ok Tryz.prog (.app 30 30 (zK yB l) (zK yB m) (zK yB r) l.length m.length r.length 1 false):=rR dQ Tryz.underlying30 o7 rfl rfl rfl (by decide) rfl (by decide) h hm
theorem zLF:Tryz.prog.info? 43=some Tryz.t43:=by kernel_rfl
theorem zUb{l m r:List xD}(h:yN 48 l m=some r)(hm:m.length≠0):Ob.ok Tryz.prog (.app 36 36 (zK wT l) (zK wT m) (zK wT r) l.length m.length r.length 4 false):=rR gB Tryz.underlying36 zLF rfl rfl rfl (by decide) rfl (by decide) h hm
theorem zUa{m r:List zD}(h:yN 48 ([]:List zD) m=some r)(hm:m.length≠0):Ob.ok Tryz.prog (.mk (iR Tryz.prog 23 23 (none) [] 0 none (zK zJ m) m.length) (zK zJ r) r.length):=zCH xJ Tryz.underlying23 qT rfl rfl rfl (by decide) rfl (by decide) h hm
theorem zUA{m r:List Tm}(h:yN 40 ([]:List Tm) m=some r)(hm:m.length≠0):Ob.ok Tryz.prog (.mk (iR Tryz.prog 24 24 (none) [] 0 none (zK zG m) m.length) (zK zG r) r.length):=zCH tU Tryz.underlying24 oZ rfl rfl rfl (by decide) rfl (by decide) h hm
theorem zUB{l:List zD}{o:Nat}{u:Unit}(h:gle l.length o=some u):Ob.ok Tryz.prog (.clr 23 (zK zJ l).length (o*4) 4):=zWc xJ Tryz.underlying23 qT rfl rfl (by rfl) h
theorem zAQ:Tryz.prog.info? 182=some Tryz.t182:=by kernel_rfl
theorem zUC{l:List yX}{i:Int}{o:Own}{x:yX}(h:zS l i=some x):yU Tryz.prog 141 (.sl (zK pH l) l.length o) (ai i)=some (.ip (pH x++zK pH (l.drop (i.toNat+1)))):=by
 have:=eT zFn (k:=.i64) Tryz.underlying141 zAQ rfl h (o:=o)
 exact this
theorem zUD{l:List ByteArray}{i:Int}{o:Own}{x:ByteArray}(h:zS l i=some x):yU Tryz.prog 177 (.sl (zK D5 l) l.length o) (ai i)=some (.ip (D5 x++zK D5 (l.drop (i.toNat+1)))):=by
 have:=eT zFq (k:=.i64) Tryz.underlying177 zRD rfl h (o:=o)
 exact this
theorem zUE{l:List tL}{i:Int}{o:Own}{x:tL}(h:zS l i=some x):yU Tryz.prog 180 (.sl (zK bQ l) l.length o) (ai i)=some (.ip (bQ x++zK bQ (l.drop (i.toNat+1)))):=by
 have:=eT zFo (k:=.i64) Tryz.underlying180 zHx rfl h (o:=o)
 exact this
theorem xL{l:List Ent}{i:Int}{o:Own}{x:Ent}(h:zS l i=some x):yU Tryz.prog 22 (.sl (zK yP l) l.length o) (ai i)=some (.ip (yP x++zK yP (l.drop (i.toNat+1)))):=by
 have:=eT zFp (k:=.i64) Tryz.underlying22 zLE rfl h (o:=o)
 exact this
theorem E1{l:List zD}{i:Int}{o:Own}{x:zD}(h:zS l i=some x):yU Tryz.prog 23 (.sl (zK zJ l) l.length o) (ai i)=some (.ip (zJ x++zK zJ (l.drop (i.toNat+1)))):=by
 have:=eT xJ (k:=.i64) Tryz.underlying23 qT rfl h (o:=o)
 exact this
theorem xB{l:List Tm}{i:Int}{o:Own}{x:Tm}(h:zS l i=some x):yU Tryz.prog 24 (.sl (zK zG l) l.length o) (ai i)=some (.ip (tmL x++zK zG (l.drop (i.toNat+1)))):=by
 have:=eT tU (k:=.i64) Tryz.underlying24 oZ rfl h (o:=o)
 rw[xN]at this
 exact this
theorem zPw{l:List zI}{i:Int}{o:Own}{x:zI}(h:zS l i=some x):yU Tryz.prog 29 (.sl (zK zO l) l.length o) (ai i)=some (.ip (zO x++zK zO (l.drop (i.toNat+1)))):=by
 have:=eT xT (k:=.i64) Tryz.underlying29 S4 rfl h (o:=o)
 exact this
theorem nU{l:List Int}{i:Int}{o:Own}{x:Int}(h:zS l i=some x):yU Tryz.prog 30 (.sl (zK yB l) l.length o) (ai i)=some (.ip (yB x++zK yB (l.drop (i.toNat+1)))):=by
 have:=eT dQ (k:=.i64) Tryz.underlying30 o7 rfl h (o:=o)
 exact this
theorem zAR{l:List xD}{i:Int}{o:Own}{x:xD}(h:zS l i=some x):yU Tryz.prog 36 (.sl (zK wT l) l.length o) (ai i)=some (.ip (wT x++zK wT (l.drop (i.toNat+1)))):=by
 have:=eT gB (k:=.i64) Tryz.underlying36 zLF rfl h (o:=o)
 exact this
theorem nA{l:List zR}{i:Int}{o:Own}{x:zR}(h:zS l i=some x):yU Tryz.prog 67 (.sl (zK yE l) l.length o) (ai i)=some (.ip (yE x++zK yE (l.drop (i.toNat+1)))):=by
 have:=eT qS (k:=.i64) Tryz.underlying67 zLD rfl h (o:=o)
 exact this
theorem zCJ{l:List Int}{i x:Int}(h:zS l i=some x)(hl:l.length=9):kA Tryz.prog 203 (.agg (zK yB l)) (ai i)=some (ai x):=zLn (k:=.i64) Tryz.underlying203 (q:=(false,1)) (by kernel_rfl) rfl hl h
theorem zSh{b n k c z:Nat}{i:Int}(h:nT n i=some k):yU Tryz.prog 141 (.ms b 0 n c z) (ai i)=some (.mp b (k*3)):=zAN Tryz.underlying141 zAQ rfl h
theorem zHu{b n k c z:Nat}{i:Int}(h:nT n i=some k):yU Tryz.prog 23 (.ms b 0 n c z) (ai i)=some (.mp b (k*4)):=zAN Tryz.underlying23 qT rfl h
theorem zHt{b n k c z:Nat}{i:Int}(h:nT n i=some k):yU Tryz.prog 24 (.ms b 0 n c z) (ai i)=some (.mp b (k*3)):=zAN Tryz.underlying24 oZ rfl h
theorem zHs{b n k c z:Nat}{i:Int}(h:nT n i=some k):yU Tryz.prog 29 (.ms b 0 n c z) (ai i)=some (.mp b (k*4)):=zAN Tryz.underlying29 S4 rfl h
theorem zFh{b o n k c z:Nat}{i:Int}(h:nT n i=some k):yU Tryz.prog 122 (.ms b (o*6) n c z) (ai i)=some (.mp b ((o+k)*6)):=zOY Tryz.underlying122 fR rfl h
theorem zLG{s:ByteArray}{i x:Int}(h:R8 s i=some x):kA Tryz.prog 9 (at' s) (ai i)=some (.val (.int .u8 x)):=zLi Tryz.underlying9 h
theorem zRE(m:List (ByteArray×Int))(k:ByteArray):Ob.ok Tryz.prog (.lk 210 (zAM m) (at' k) false (ai (zCa m k))):=zUk Tryz.underlying210 Tryz.underlying9 o7 rfl m k
theorem zLH(m:List (Int×Int))(k:Int):Ob.ok Tryz.prog (.lk 195 (dX m) (ai k) true (.tup [ai (zFi m k),ab (E0 m k)])):=zSq Tryz.underlying195 Tryz.underlying3 o7 rfl m k
theorem zLI(m:List (Int×Int)):Ob.ok Tryz.prog (.ln 195 (dX m) (ai (m.length:Int))):=zSo Tryz.underlying195 m
theorem zLJ{n:Int}{l:List yX}(h:gmk 72 (default:yX) n=some l):Ob.ok Tryz.prog (.mk (kF Tryz.prog 141 (ai n) (ai n)) (zK pH l) l.length):=zUi Tryz.underlying141 zAQ rfl rfl rfl (by decide) rfl (by decide) (by rfl) h
theorem zUF(m:List (ByteArray×Int))(k:ByteArray)(v:Int):Ob.ok Tryz.prog (.mu 210 (zAM m) (at' k) (ai v) (zAM (R7 m k v))):=zUj Tryz.underlying210 Tryz.underlying9 m k v
theorem zSg(m:List (Int×Int))(k v:Int):Ob.ok Tryz.prog (.mu 195 (dX m) (ai k) (ai v) (dX (eG m k v))):=zSp Tryz.underlying195 Tryz.underlying3 m k v
theorem sX{l r:List Tm}{a:Int}(h:gsl l a l.length=some r):xV Tryz.prog 24 (.sl (zK zG l) l.length .no) (some (ai a)) none none=some (.sl (zK zG r) r.length .no):=zAI tU Tryz.underlying24 oZ rfl h
theorem zUG{b o n c:Nat}{x y:Int}{r:Nat×Nat}(h:mQ c x y=some r):xV Tryz.prog 23 (.ms b (o*4) n c 4) (some (ai x)) (some (ai y)) none=some (.ms b ((o+r.1)*4) r.2 (c-r.1) 4):=zSs Tryz.underlying23 qT rfl (by decide) h
theorem zPv{b o n c:Nat}{x y:Int}{r:Nat×Nat}(h:mQ n x y=some r):xV Tryz.prog 23 (.ms b (o*4) n c 4) (some (ai x)) (some (ai y)) (some (ai (n:Int)))=some (.ms b ((o+r.1)*4) r.2 (n-r.1) 4):=zOZ Tryz.underlying23 qT rfl (by decide) h
theorem zJt(b off n c:Nat):xV Tryz.prog 122 (.ms b off n c 6) none (some (ai (n:Int))) (some (ai (n:Int)))=some (.ms b off n n 6):=zIZ Tryz.underlying122 fR rfl (by decide) b off n c
theorem zFg{b o n c:Nat}{x:Int}{r:Nat×Nat}(h:mQ n x n=some r):xV Tryz.prog 122 (.ms b (o*6) n c 6) (some (ai x)) none none=some (.ms b ((o+r.1)*6) r.2 (c-r.1) 6):=S0 Tryz.underlying122 fR rfl (by decide) h
theorem zJs{b o n c:Nat}{x:Int}{r:Nat×Nat}(h:mQ n x n=some r):xV Tryz.prog 23 (.ms b (o*4) n c 4) (some (ai x)) none none=some (.ms b ((o+r.1)*4) r.2 (c-r.1) 4):=S0 Tryz.underlying23 qT rfl (by decide) h
theorem zPu{b off n c:Nat}{y:Int}{r:Nat×Nat}(h:mQ c 0 y=some r):xV Tryz.prog 23 (.ms b off n c 4) none (some (ai y)) none=some (.ms b off r.2 c 4):=zLg Tryz.underlying23 qT rfl (by decide) h
theorem nB{l r:List Tm}{b:Int}(h:gsl l 0 b=some r):xV Tryz.prog 24 (.sl (zK zG l) l.length .no) none (some (ai b)) none=some (.sl (zK zG r) r.length .no):=zFm tU Tryz.underlying24 oZ rfl h
theorem zLK{l r:List Tm}{b:Int}{o:Own}(h:gsl l 0 b=some r):xV Tryz.prog 24 (.sl (zK zG l) l.length o) none (some (ai b)) (some (ai b))=some (.sl (zK zG r) r.length .full):=zCF tU Tryz.underlying24 oZ rfl h
theorem zHr{l r:List Tm}{b:Int}{o:Own}(h:gsl l 0 b=some r):∃a0,xV Tryz.prog 24 (.sl (zK zG l) l.length o) none (some (ai b)) none=some a0∧a0.frz = .sl (zK zG r) r.length .no:=zCf tU Tryz.underlying24 oZ rfl h
def ptG:Nat->Nat->Func->Code
 |0,_,f=>bod f
 |k+1,n,f=>if n=0 then bod f else if n % 4=1 then inn (ptG k (n / 4) f)else if n % 4=2 then lft (ptG k (n / 4) f)else rgt (ptG k (n / 4) f)
abbrev pt:=ptG 99
abbrev Oz:=OL Tryz.prog
abbrev dL:=Dl Tryz.prog
abbrev fQ:=vC Tryz.prog
abbrev nQ:=Q9 Tryz.prog
abbrev qB (q0:List Ent) (m:Nat) (q3 q4:List Int):Blk:=.cells [slv yP q0 .no,.mp m 0,slv yB q3 .no,slv yB q4 .no]
abbrev qR (q1:List Ent) (q2:List yX):Blk:=.cells [slv yP q1 .no,slv pH q2 .no]
theorem oDm{os:List Orc}{ob:List Ob}(q0 q1:List Ent)(q2:List yX)(q3 q4:List Int)(k:Oz os ob):Oz os (.data (zK pH q2) :: .data (zK yP q1) :: .data (zK yB q4) :: .data (zK yB q3) :: .data (zK yP q0)::ob):=oD (dC q2)<|oD (dE q1)<|oD (dI q4)<|oD (dI q3)<|oD (dE q0) k
theorem oDM{os:List Orc}{ob:List Ob}(M:yY)(k:Oz os ob):Oz os (.data (zK pH M.parts) :: .data (zK yP M.rl) :: .data (zK yB M.own) :: .data (zK yB M.args) :: .data (zK yP M.l)::ob):=oDm M.l M.rl M.parts M.args M.own k
theorem fMa{n m:Nat}{q0 q1:List Ent}{q2:List yX}{q3 q4:List Int}{l:List Blk}(h:m<n)(k:∀X∈l,X.arg (fun i=>i<n)):∀X∈qB q0 m q3 q4::qR q1 q2::l,X.arg (fun i=>i<n):=zA ⟨⟨tv,dE _⟩,h,⟨tv,dI _⟩,⟨tv,dI _⟩,tv⟩ (zA ⟨⟨tv,dE _⟩,⟨tv,dC _⟩,tv⟩ k)
theorem fMf{n m:Nat}{q0 q1:List Ent}{q2:List yX}{q3 q4:List Int}{l:List Blk}(h:m<n)(k:∀X∈l,X.fine (fun i=>i<n)):∀X∈qB q0 m q3 q4::qR q1 q2::l,X.fine (fun i=>i<n):=zA ⟨dE _,h,dI _,dI _,tv⟩ (zA ⟨dE _,dC _,tv⟩ k)
end Go.Proofs.YtfbkefchjcocmaaGreat
namespace Go.Ab
open Go
def Evt{α:Type}(f:Nat->Option α)(r:α):Prop:=∃n,∀q,n≤q->f q=some r
section
variable {α β:Type} {f:Nat->Option α} {r a:α} {b:β}
theorem Evt.mk(h:∀q,f q=some r):Evt f r:=⟨0,fun q _=>h q⟩
theorem Evt.ret{r:α}:Evt (fun _=>some r) r:=⟨0,fun _ _=>rfl⟩
theorem Evt.succ(h:Evt (fun q=>f (q+1)) r):Evt f r:=by
 obtain⟨n,h⟩:=h
 refine⟨n+1,fun q hq=>?_⟩
 obtain⟨k,rfl⟩:∃k,q=k+1:=⟨q-1,by omega⟩
 exact h k (by omega)
theorem Evt.bind{k:Nat->α->Option β}(h:Evt f a)(g:Evt (fun q=>k q a) b):Evt (fun q=>f q>>=k q) b:=by
 obtain⟨n,h⟩:=h;obtain⟨m,g⟩:=g
 refine⟨max n m,fun q hq=>?_⟩
 dsimp only
 rw[h q (by omega)]
 exact g q (by omega)
theorem Evt.pure{x:Option α}{k:Nat->α->Option β}(h:x=some a)(g:Evt (fun q=>k q a) b):Evt (fun q=>x>>=k q) b:=by
 subst h;exact g
theorem Evt.ifT{c:Bool}{g:Nat->Option α}(h:c=true)(k:Evt f r):Evt (fun q=>if c=true then f q else g q) r:=by
 simpa[h]using k
theorem Evt.ifF{c:Bool}{g:Nat->Option α}(h:c=false)(k:Evt g r):Evt (fun q=>if c=true then f q else g q) r:=by
 simpa[h]using k
theorem Evt.iff{c:Bool}{g:Nat->Option α}(h:c=true->Evt f r)(k:c=false->Evt g r):Evt (fun q=>if c=true then f q else g q) r:=by
 cases c
 ·simpa using k rfl
 ·simpa using h rfl
theorem Evt.det(h:Evt f r)(k:Evt f a):r=a:=by
 obtain⟨n,h⟩:=h;obtain⟨m,k⟩:=k
 have:=h (max n m) (by omega)
 rw[k _ (by omega)]at this
 exact(Option.some.inj this).symm
theorem Evt.at(h:Evt f r):∃q,f q=some r:=by obtain⟨n,h⟩:=h;exact⟨n,h n (Nat.le_refl _)⟩
theorem Evt.eq{s:α}(h:Evt f r)(e:r=s):Evt f s:=e▸h
end
def Tot{α:Type}(f:Nat->Option α)(P:α->Prop):Prop:=∃r,Evt f r∧P r
section
variable {α β:Type} {f:Nat->Option α} {P:α->Prop} {Q:β->Prop}
theorem Evt.tot{r:α}(h:Evt f r)(k:P r):Tot f P:=⟨r,h,k⟩
theorem Tot.ret{r:α}(k:P r):Tot (fun _=>some r) P:=⟨r,Evt.ret,k⟩
theorem Tot.succ(h:Tot (fun q=>f (q+1)) P):Tot f P:=by obtain⟨r,h,k⟩:=h;exact⟨r,h.succ,k⟩
theorem Tot.bind{k:Nat->α->Option β}(h:Tot f P)(g:∀a,P a->Tot (fun q=>k q a) Q):Tot (fun q=>f q>>=k q) Q:=by
 obtain⟨a,h,p⟩:=h;obtain⟨b,h2,k⟩:=g a p
 exact⟨b,h.bind h2,k⟩
theorem Tot.pure{x:Option α}{a:α}{k:Nat->α->Option β}(h:x=some a)(g:Tot (fun q=>k q a) Q):Tot (fun q=>x>>=k q) Q:=by
 subst h;exact g
theorem Tot.ite{c:Bool}{g:Nat->Option α}(h:c=true->Tot f P)(k:c=false->Tot g P):Tot (fun q=>if c=true then f q else g q) P:=by
 cases c
 ·simpa using k rfl
 ·simpa using h rfl
theorem Tot.mono{P':α->Prop}(h:Tot f P)(k:∀r,P r->P' r):Tot f P':=by obtain⟨r,h,p⟩:=h;exact⟨r,h,k r p⟩
end
theorem yJ{x:Int}(h0:-9223372036854775808≤x)(h1:x≤9223372036854775807):w64 x=x:=by
 show IntKind.i64.wrap x=x
 exact IntWalk.i64_in x ⟨h0,h1⟩
theorem zW(v:Nat)(h:v<9223372036854775807):w64 ((v:Int)+1)=((v+1:Nat):Int):=by
 rw[yJ (by omega) (by omega)];simp
section
variable {α:Type} {l:List α} {v:Nat} {x:α} {r:List α}
theorem yC(h:l.drop v=x::r):v<l.length:=by
 rcases Nat.lt_or_ge v l.length with h1|h1
 ·exact h1
 ·rw[List.drop_eq_nil_of_le h1]at h;cases h
theorem zY(h:l.drop v=x::r):decide ((v:Int)<(l.length:Int))=true:=by
 have:=yC h;simp;exact this
theorem zZ(h:l.drop v=[]):decide ((v:Int)<(l.length:Int))=false:=by
 have:l.length≤v:=List.drop_eq_nil_iff.1 h
 simp;exact this
theorem zX(h:l.drop v=x::r):zS l (v:Int)=some x:=by
 have h1:=yC h
 have:l[v]? = some x:=by
  have:=congrArg (fun z=>z[0]?) h
  simpa using this
 unfold zS
 rw[if_pos (by omega)];simpa using this
theorem zU(h:l.drop v=x::r):l.drop (v+1)=r:=by
 have:=congrArg List.tail h
 simpa using this
end
theorem yG{α:Type}{B:Nat}{l m:List α}(h:(l.length+m.length)*B≤140737488355328):yN B l m=some (l++m):=by unfold yN;rw[if_pos h]
mutual
def Tm.nodes:Tm->Nat
 | .mk _ _ l=>1+yQ l
def yQ:List Tm->Nat
 | []=>0
 |t::l=>t.nodes+yQ l
end
mutual
def Tm.high:Tm->Nat
 | .mk _ _ l=>1+wY l
def wY:List Tm->Nat
 | []=>0
 |t::l=>max t.high (wY l)
end
mutual
def Tm.Ok:Tm->Prop
 | .mk _ _ l=>l.length<9223372036854775808∧OkL l
def OkL:List Tm->Prop
 | []=>True
 |t::l=>t.Ok∧OkL l
end
mutual
def szT:Tm->Int->Int
 | .mk _ _ l,h=>szL l (h+1)
def szL:List Tm->Int->Int
 | [],h=>h
 |t::l,h=>if h>8192 then h else szL l (szT t h)
end
mutual
theorem zCK:∀(t:Tm) (h:Int),0≤h->h≤8192->h+1≤szT t h∧szT t h≤8193
 | .mk _ _ l,h,h0,h1=>by
  rw[szT]
  exact zRF l (h+1) (by omega) (by omega)
theorem zRF:∀(l:List Tm) (h:Int),0≤h->h≤8193->h≤szL l h∧szL l h≤8193
 | [],h,h0,h1=>by rw[szL];omega
 |t::l,h,h0,h1=>by
  rw[szL]
  split
  ·omega
  ·have:=zCK t h h0 (by omega)
   have:=zRF l (szT t h) (by omega) (by omega)
   omega
end
theorem rJ(t:Tm):1≤t.nodes:=by cases t;rw[Tm.nodes];omega
mutual
theorem zLL:∀(t:Tm) (h:Int),0≤h->h≤8192->(h+t.nodes≤8192->szT t h=h+t.nodes)∧(8192<h+t.nodes->szT t h=8193)
 | .mk _ _ l,h,h0,h1=>by
  rw[szT,Tm.nodes]
  have:=zLM l (h+1) (by omega) (by omega)
  constructor
  ·intro h2;rw[this.1 (by omega)];omega
  ·intro h2;exact this.2 (by omega)
theorem zLM:∀(l:List Tm) (h:Int),0≤h->h≤8193->(h+yQ l≤8192->szL l h=h+yQ l)∧(8192<h+yQ l->szL l h=8193)
 | [],h,h0,h1=>by rw[szL,yQ];omega
 |t::l,h,h0,h1=>by
  rw[szL,yQ]
  have hp:=rJ t
  split
  ·omega
  ·have ht:=zLL t h h0 (by omega)
   have hb:=zCK t h h0 (by omega)
   have hl:=zLM l (szT t h) (by omega) (by omega)
   constructor
   ·intro h2
    have e:=ht.1 (by omega)
    rw[e]at hl ⊢
    rw[hl.1 (by omega)];omega
   ·intro h2
    by_cases h3:h+t.nodes≤8192
    ·have e:=ht.1 h3
     rw[e]at hl ⊢
     exact hl.2 (by omega)
    ·exact hl.2 (by rw[ht.2 (by omega)];omega)
end
mutual
def dpT:Tm->Int->Int
 | .mk _ _ l,a=>if a>128 then a else dpL l a a
def dpL:List Tm->Int->Int->Int
 | [],_,m=>m
 |t::l,a,m=>dpL l a (mP m (dpT t (a+1)))
end
mutual
theorem zRG:∀(t:Tm) (a:Int),0≤a->a≤129->a≤dpT t a∧dpT t a≤129
 | .mk _ _ l,a,h0,h1=>by
  rw[dpT]
  split
  ·omega
  ·exact zRH l a a h0 (by omega) (by omega) (by omega)
theorem zRH:∀(l:List Tm) (a m:Int),0≤a->a≤128->a≤m->m≤129->m≤dpL l a m∧dpL l a m≤129
 | [],a,m,h0,h1,h2,h3=>by rw[dpL];omega
 |t::l,a,m,h0,h1,h2,h3=>by
  rw[dpL]
  have:=zRG t (a+1) (by omega) (by omega)
  have:=zRH l a (mP m (dpT t (a+1))) h0 h1 (by unfold mP;split<;>omega) (by unfold mP;split<;>omega)
  unfold mP at this ⊢
  split at this<;>split<;>omega
end
mutual
theorem zLN:∀(t:Tm) (a:Int),0≤a->a≤129->(a+t.high≤129->dpT t a=a+t.high-1)∧(129<a+t.high->dpT t a=129)
 | .mk _ _ l,a,h0,h1=>by
  rw[dpT,Tm.high]
  split
  ·omega
  ·have:=zLO l a a h0 (by omega) (by omega) (by omega)
   constructor
   ·intro h2;rw[this.1 (by omega) (by omega)];omega
   ·intro h2;exact this.2 (.inr (by omega))
theorem zLO:∀(l:List Tm) (a m:Int),0≤a->a≤128->a≤m->m≤129->(m≤128->a+wY l≤128->dpL l a m=max m (a+wY l))∧((m=129∨128<a+wY l)->dpL l a m=129)
 | [],a,m,h0,h1,h2,h3=>by rw[dpL,wY];omega
 |t::l,a,m,h0,h1,h2,h3=>by
  rw[dpL,wY]
  have ht:=zLN t (a+1) (by omega) (by omega)
  have hb:=zRG t (a+1) (by omega) (by omega)
  have hm:a≤mP m (dpT t (a+1))∧mP m (dpT t (a+1))≤129:=by unfold mP;split<;>omega
  have hl:=zLO l a (mP m (dpT t (a+1))) h0 h1 hm.1 hm.2
  have hh:1≤t.high:=by cases t;rw[Tm.high];omega
  constructor
  ·intro h4 h5
   have e:=ht.1 (by omega)
   rw[e]at hl ⊢
   have hi:mP m (a+1+t.high-1)=max m (a+t.high):=by unfold mP;split<;>omega
   rw[hi]at hl ⊢
   rw[hl.1 (by omega) (by omega)];omega
  ·intro h4
   refine hl.2 ?_
   rcases h4 with h4|h4
   ·exact .inl (by unfold mP;split<;>omega)
   ·by_cases h5:128<a+wY l
    ·exact .inr h5
    ·refine .inl ?_
     have e:dpT t (a+1)=129:=by
      by_cases h6:a+1+t.high≤129
      ·omega
      ·exact ht.2 (by omega)
     rw[e];unfold mP;split<;>omega
end
def sB(t:Tm):Bool:=
  decide (1≤t.k)&&decide (t.k≤8)&&decide (0≤t.n) &&
  (if t.k=3∨t.k=4∨t.k=5 then decide (t.sub.length=2)&&decide (t.n≤0)
   else if t.k=7 then decide (t.sub.length=1)&&decide (t.n≤1048576)&&(t.sub.head?.any fun x=>x.k==2)
   else decide (t.sub.length=0)&&(if t.k=2 then decide (t.n≤7)else decide (t.n≤1048576)))
theorem uT{t:Tm}(h:sB t=true):1≤t.k∧t.k≤8∧0≤t.n∧t.n≤1048576∧t.sub.length≤2 ∧
  (t.k=3∨t.k=4∨t.k=5->t.sub.length=2∧t.n≤0)∧(t.k=7->∃x,t.sub=[x]∧x.k=2)∧(t.k=1∨t.k=2∨t.k=6∨t.k=8->t.sub=[])∧(t.k=2->t.n≤7):=by
 unfold sB at h
 revert h
 generalize t.k=k
 generalize t.n=n
 generalize t.sub=l
 intro h
 simp only[Bool.and_eq_true,decide_eq_true_eq]at h
 obtain⟨⟨⟨h1,h2⟩,h3⟩,h4⟩:=h
 split at h4
 ·simp only[Bool.and_eq_true,decide_eq_true_eq]at h4
  refine⟨h1,h2,h3,by omega,by omega,fun _=>h4,by omega,by omega,by omega⟩
 ·split at h4
  ·simp only[Bool.and_eq_true,decide_eq_true_eq]at h4
   obtain⟨⟨h5,h6⟩,h7⟩:=h4
   obtain⟨x,rfl⟩:∃x,l=[x]:=by
    rcases l with _|⟨x,_|⟨y,l⟩⟩<;>simp at h5
    exact⟨x,rfl⟩
   refine⟨h1,h2,h3,h6,by simp,by omega,fun _=>⟨x,rfl,by simpa using h7⟩,by omega,by omega⟩
  ·simp only[Bool.and_eq_true,decide_eq_true_eq]at h4
   have hl:l=[]:=List.length_eq_zero_iff.1 h4.1
   refine⟨h1,h2,h3,?_,by omega,by omega,by omega,fun _=>hl,fun h8=>?_⟩
   ·have:=h4.2
    split at this<;>(simp at this;omega)
   ·have:=h4.2
    rw[if_pos h8]at this
    simpa using this
mutual
def xA:Tm->Bool
 | .mk k n l=>sB (.mk k n l)&&wK l
def wK:List Tm->Bool
 | []=>true
 |t::l=>xA t&&wK l
end
def zL(t:Tm):Bool:=decide (t.nodes≤8192)&&decide (t.high≤128)&&xA t
def dY(k:Int)(i:Nat):Int:=if i=1∧(k=3∨k=4)then 1 else 0
mutual
def nC:Tm->Int->Int
 | .mk k n l,b=>if k=1 then max 0 (n+1-b)else iK l k 0 b
def iK:List Tm->Int->Nat->Int->Int
 | [],_,_,_=>0
 |t::l,k,i,b=>max (nC t (b+dY k i)) (iK l k (i+1) b)
end
mutual
def sQ:Tm->Int->Int->List Int
 | .mk k n l,a,b=>(if k=a∨k=b then [n]else [])++aA l a b
def aA:List Tm->Int->Int->List Int
 | [],_,_=>[]
 |t::l,a,b=>sQ t a b++aA l a b
end
open Go.RowKit
def rdG(W:World):Gh:=⟨fun _=>none,fun _=>none,fun b o=>∃v,W.cell? ⟨b,o,none⟩=some v,W,fun b=>b<W.heap.size,fun _=>False⟩
theorem zSf(W:World):yH (rdG W) (yK (Emp 0) (st0 [])) W:=by
 refine⟨fun _=>⟨fun _=>.inr rfl,fun _=>⟨rfl,id⟩,fun e=>e.elim⟩,⟨0,fun _ _=>rfl⟩,fun _ _ _ h=>?_,fun _ _ _ h=>?_,fun _ _ h=>⟨h,fun i e=>by cases e⟩,fun _ _=>rfl,fun _ h=>?_,fun _ _ _ _ _ _ _ h=>?_,vK.refl _ _,fun _ h=>h⟩
 ·cases h
 ·cases h
 ·cases h
 ·cases h
theorem zPt(W:World):kE (0:Nat) (rdG W):=⟨fun _ _=>⟨rfl,id⟩,fun _=>rfl,fun _ _ ⟨_,h⟩=>World.block_lt_of_cell? W _ h,trivial⟩
theorem S5{W:World}:∀(xs:List AV) (cs:List Value) (b off:Nat),VL (rdG W) W xs cs->(∀i,i<xs.length->W.cell? ⟨b,off+i,none⟩=cs[i]?)->VC (rdG W) W xs b off
 | [],_,_,_,_,_=>by simp only[VC]
 |a::xs,c::cs,b,off,hv,h=>by
  simp only[VL]at hv
  have h0:=h 0 (by simp)
  simp only[Nat.add_zero,List.getElem?_cons_zero]at h0
  simp only[VC]
  refine⟨⟨c,h0⟩,⟨c,h0,hv.1⟩,S5 xs cs b (off+1) hv.2 fun i hi=>?_⟩
  have:=h (i+1) (by simp;omega)
  simpa[Nat.add_assoc,Nat.add_comm 1 i]using this
 |_::_,[],_,_,hv,_=>by simp only[VL]at hv
theorem zCL{W:World}{b:Nat}:∀(n off:Nat),(∀i,i<n->∃(cs:List Value) (t:Tm),(∀j,j<3->W.cell? ⟨b,off+i*3+j,none⟩=cs[j]?)∧VL (rdG W) W (tmL t) cs∧t.Ok) ->
  ∃l:List Tm,l.length=n∧VC (rdG W) W (zK zG l) b off∧OkL l
 |0,off,_=>⟨[],rfl,by simp[zK,VC],by rw[OkL];trivial⟩
 |n+1,off,h=>by
  obtain⟨cs,t,hc,ht,hto⟩:=h 0 (by omega)
  obtain⟨l,hl,hV,hlo⟩:=zCL (W:=W) (b:=b) n (off+3) fun i hi=>by
   obtain⟨cs,t,hc,ht,hto⟩:=h (i+1) (by omega)
   refine⟨cs,t,fun j hj=>?_,ht,hto⟩
   rw[←hc j hj]
   congr 2
   omega
  refine⟨t::l,by simp[hl],?_,by rw[OkL];exact⟨hto,hlo⟩⟩
  have e:zK zG (t::l)=tmL t++zK zG l:=by simp only[zK,List.flatMap_cons,xN]
  rw[e]
  refine VC.append _ _ _ _ (S5 _ cs _ _ ht fun i hi=>?_) (by simpa[tmL]using hV)
  simpa using hc i (by simpa[tmL]using hi)
end Go.Ab
namespace Go.Proofs.YtfbkefchjcocmaaGreat
open Go Go.Ab Go.RowKit Go.Proofs
theorem zPs{H:Type}{enc:TypeId×Value->H}{W:World}{n:Nat}{c2:Value}{x:DataW H×List MemPlace}
  (ih:∀m,n=m+1->∀(cs:List Value) (x:DataW H×List MemPlace),DataW.trod enc Tryz.prog W 0 (fun _=>true) true m 39 cs=some x->∃t:Tm,VL (rdG W) W (tmL t) cs∧t.Ok)
  (f2:DataW.trod enc Tryz.prog W 0 (fun _=>true) true n 24 [c2]=some x):∃l:List Tm,V (rdG W) W (.sl (zK zG l) l.length .no) c2∧OkL l∧l.length<9223372036854775808:=by
 rcases DataW.trod_slice Tryz.underlying24 f2 with⟨e2,-⟩|⟨a,len,cap,elems,rest,m,hm,e2,-,-,hle,hmx,hel,hE,hR,-⟩
 ·cases e2
  exact⟨[],by simp only[V];exact⟨0,Nat.le_refl _,.inl ⟨rfl,rfl,rfl,rfl,trivial⟩⟩,by rw[OkL];trivial,by simp⟩
 ·cases e2
  have rd:∀i,i<cap->∃(cs:List Value) (t:Tm),W.cells? 0 (a.add (i*3)) 3=some cs∧VL (rdG W) W (tmL t) cs∧t.Ok:=by
   intro i hi
   have got:∃y,(W.cells? 0 (a.add (i*3)) 3).bind (DataW.trod enc Tryz.prog W 0 (fun _=>true) true m 39)=some y:=by
    rw[←s7]
    rcases Nat.lt_or_ge i len with hlt|hge
    ·rw[hE i hlt];exact⟨_,List.getElem?_eq_getElem (by omega)⟩
    ·obtain⟨r1,r2⟩:=hR rfl
     have:=r2 (i-len) (by omega)
     rw[show len+(i-len)=i by omega]at this
     rw[this];exact⟨_,List.getElem?_eq_getElem (by omega)⟩
   obtain⟨y,hy⟩:=got
   obtain⟨cs,h1,h2⟩:=Option.bind_eq_some_iff.1 hy
   obtain⟨t,ht⟩:=ih m hm cs y h2
   exact⟨cs,t,h1,ht⟩
  rcases Nat.eq_zero_or_pos cap with e|hpos
  ·subst e
   have:len=0:=by omega
   subst this
   exact⟨[],by simp only[V];exact⟨0,Nat.le_refl _,.inl ⟨rfl,rfl,rfl,rfl,trivial⟩⟩,by rw[OkL];trivial,by simp⟩
  ·obtain⟨b,off,spot⟩:=a
   have hsp:spot=none:=by
    obtain⟨cs,t,h1,h2⟩:=rd 0 hpos
    obtain⟨_,hl,hc⟩:=World.cells?_some h1
    have g0:=hc 0 (by omega)
    obtain⟨c0,hc0⟩:∃c0,cs[0]? = some c0:=⟨_,List.getElem?_eq_getElem (by omega)⟩
    rw[hc0]at g0
    simpa[Addr.add]using World.cell?_spot g0
   subst hsp
   obtain⟨l,hl,hV,hlo⟩:=zCL (W:=W) (b:=b) len off fun i hi=>by
    obtain⟨cs,t,h1,h2⟩:=rd i (by omega)
    obtain⟨_,_,hc⟩:=World.cells?_some h1
    exact⟨cs,t,fun j hj=>by have:=hc j hj;simpa[Addr.add_lit]using this,h2⟩
   refine⟨l,?_,hlo,by have:maxLen=9223372036854775807:=rfl;omega⟩
   simp only[V]
   exact⟨cap,by omega,.inr ⟨b,off,by rw[hl],hV,trivial⟩⟩
theorem zAS{H:Type}{enc:TypeId×Value->H}{W:World}:∀(fuel:Nat) (cs:List Value) (x:DataW H×List MemPlace),DataW.trod enc Tryz.prog W 0 (fun _=>true) true fuel 39 cs=some x->∃t:Tm,VL (rdG W) W (tmL t) cs∧t.Ok:=by
 intro fuel
 induction fuel using Nat.strongRecOn with
 |ind fuel ih=>
  intro cs x h
  obtain⟨xs,n,hn,-,hlen,hxs,hf⟩:=DataW.trod_struct Tryz.underlying39 h
  have hlen:cs.length=3:=hlen.trans s7
  obtain⟨c0,c1,c2,rfl⟩:∃c0 c1 c2,cs=[c0,c1,c2]:=by
   rcases cs with _|⟨a,_|⟨b,_|⟨c,_|⟨e,cs⟩⟩⟩⟩<;>simp only[List.length_nil,List.length_cons]at hlen<;>first|exact⟨a,b,c,rfl⟩|omega
  have c3:Tryz.prog.cellsOf 3=1:=by kernel_rfl
  have c71:Tryz.prog.cellsOf 24=1:=by kernel_rfl
  have f0:DataW.trod enc Tryz.prog W 0 (fun _=>true) true n 3 ((List.drop 0 [c0,c1,c2]).take (Tryz.prog.cellsOf 3))=xs[0]?:=hf 0 _ rfl
  have f1:DataW.trod enc Tryz.prog W 0 (fun _=>true) true n 3 ((List.drop 1 [c0,c1,c2]).take (Tryz.prog.cellsOf 3))=xs[1]?:=hf 1 _ rfl
  have f2:DataW.trod enc Tryz.prog W 0 (fun _=>true) true n 24 ((List.drop 2 [c0,c1,c2]).take (Tryz.prog.cellsOf 24))=xs[2]?:=hf 2 _ rfl
  rw[c3]at f0 f1
  rw[c71]at f2
  replace f0:DataW.trod enc Tryz.prog W 0 (fun _=>true) true n 3 [c0]=xs[0]?:=f0
  replace f1:DataW.trod enc Tryz.prog W 0 (fun _=>true) true n 3 [c1]=xs[1]?:=f1
  replace f2:DataW.trod enc Tryz.prog W 0 (fun _=>true) true n 24 [c2]=xs[2]?:=f2
  have hsz:xs.length=3:=hxs
  obtain⟨y0,y1,y2,rfl⟩:∃y0 y1 y2,xs=[y0,y1,y2]:=by
   rcases xs with _|⟨a,_|⟨b,_|⟨c,_|⟨e,xs⟩⟩⟩⟩<;>simp only[List.length_nil,List.length_cons]at hsz<;>first|exact⟨a,b,c,rfl⟩|omega
  simp only[List.getElem?_cons_zero,List.getElem?_cons_succ]at f0 f1 f2
  obtain⟨k0,e0,-,-⟩:=DataW.trod_int Tryz.underlying3 f0
  obtain⟨k1,e1,-,-⟩:=DataW.trod_int Tryz.underlying3 f1
  cases e0;cases e1
  have key:=zPs (W:=W) (n:=n) (fun m hm cs x hx=>ih m (by omega) cs x hx) f2
  obtain⟨l,hl,ho,hlen⟩:=key
  refine⟨.mk k0 k1 l,?_,by rw[Tm.Ok];exact⟨hlen,ho⟩⟩
  simp only[tmL,Tm.k,Tm.n,Tm.sub,VL]
  exact⟨by simp only[V],by simp only[V],hl,trivial⟩
end Go.Proofs.YtfbkefchjcocmaaGreat
namespace Go.Ab
open Go Go.RowKit
def Wt{H:Type}(P:Program)(t:TypeId)(d:DataW H):Prop:=∀w∈d.weights P t,w≤reachBytes
theorem M8{H:Type}{P:Program}:∀(ts:List TypeId) (ds:List (DataW H)) (i:Nat) (t:TypeId) (d:DataW H),ts[i]? = some t->ds[i]? = some d->∀w∈d.weights P t,w∈DataW.weightsEach P ts ds
 | [],_,i,t,d,h,_,w,_=>by simp at h
 |_::_,[],i,t,d,_,h,w,_=>by simp at h
 |t0::ts,d0::ds,0,t,d,h,k,w,hw=>by
  simp only[List.getElem?_cons_zero,Option.some.injEq]at h k
  subst h;subst k
  rw[DataW.weightsEach];exact List.mem_append_left _ hw
 |t0::ts,d0::ds,i+1,t,d,h,k,w,hw=>by
  rw[DataW.weightsEach]
  exact List.mem_append_right _ (M8 ts ds i t d (by simpa using h) (by simpa using k) w hw)
theorem zFf{H:Type}{P:Program}{e:TypeId}:∀(ds:List (DataW H)) (d:DataW H),d∈ds->∀w∈d.weights P e,w∈DataW.weightsAll P e ds
 |d0::ds,d,h,w,hw=>by
  rw[DataW.weightsAll]
  rcases List.mem_cons.1 h with rfl|h
  ·exact List.mem_append_left _ hw
  ·exact List.mem_append_right _ (zFf ds d h w hw)
theorem aB{H:Type}{P:Program}{t:TypeId}{fs:Array Field}(ht:P.underlying t=some (.struct fs)){parts:List (DataW H)}(h:Wt P t (.agg parts)){i:Nat}{f:Field}{d:DataW H}(hf:fs[i]? = some f)(hd:parts[i]? = some d):Wt P f.type d:=fun w hw=>by
 refine h w ?_
 rw[DataW.weights,ht]
 exact M8 _ _ i f.type d (by rw[List.getElem?_map,Array.getElem?_toList,hf];rfl) hd w hw
theorem zLP{H:Type}{P:Program}{t e:TypeId}(ht:P.underlying t=some (.slice e)){es rs:List (DataW H)}(h:Wt P t (.slice es rs)):(es.length+rs.length)*P.bytesOf e≤reachBytes∧(∀d∈es,Wt P e d)∧∀d∈rs,Wt P e d:=by
 unfold Wt at h
 rw[DataW.weights,ht]at h
 refine⟨h _ (by simp),fun d hd w hw=>h w ?_,fun d hd w hw=>h w ?_⟩
 ·exact List.mem_cons_of_mem _ (List.mem_append_left _ (zFf es d hd w hw))
 ·exact List.mem_cons_of_mem _ (List.mem_append_right _ (zFf rs d hd w hw))
theorem o8{α:Type}(cells:α->List AV)(c:Nat)(hcl:∀x,(cells x).length=c){W:World}{b:Nat}{Q:α->Prop}:∀(n off:Nat),(∀i,i<n->∃(cs:List Value) (x:α),(∀j,j<c->W.cell? ⟨b,off+i*c+j,none⟩=cs[j]?)∧VL (rdG W) W (cells x) cs∧Q x) ->
  ∃l:List α,l.length=n∧VC (rdG W) W (zK cells l) b off∧∀x∈l,Q x
 |0,off,_=>⟨[],rfl,by simp[zK,VC],fun _ h=>nomatch h⟩
 |n+1,off,h=>by
  obtain⟨cs,t,hc,ht,hq⟩:=h 0 (by omega)
  obtain⟨l,hl,hV,hlo⟩:=o8 cells c hcl (W:=W) (b:=b) (Q:=Q) n (off+c) fun i hi=>by
   obtain⟨cs,t,hc,ht,hto⟩:=h (i+1) (by omega)
   refine⟨cs,t,fun j hj=>?_,ht,hto⟩
   rw[←hc j hj]
   congr 2
   rw[Nat.succ_mul];omega
  refine⟨t::l,by simp[hl],?_,fun x hx=>(List.mem_cons.1 hx).elim (fun e=>e▸hq) (hlo x)⟩
  have e:zK cells (t::l)=cells t++zK cells l:=by simp only[zK,List.flatMap_cons]
  rw[e]
  refine VC.append _ _ _ _ (S5 _ cs _ _ ht fun i hi=>?_) (by rw[hcl];exact hV)
  rw[hcl]at hi
  simpa using hc i hi
theorem E2{α:Type}(cells:α->List AV)(c:Nat)(hcl:∀x,(cells x).length=c)(hpos:0<c){H:Type}{enc:TypeId×Value->H}{P:Program}{W:World}{n:Nat}{t e:TypeId}{c2:Value}{x:DataW H×List MemPlace}{Q:α->Prop}
  (ht:P.underlying t=some (.slice e)) (hc:P.cellsOf e=c)
  (ih:∀m,n=m+1->∀(cs:List Value) (x:DataW H×List MemPlace),DataW.trod enc P W 0 (fun _=>true) true m e cs=some x->Wt P e x.1->∃a:α,VL (rdG W) W (cells a) cs∧Q a)
  (f2:DataW.trod enc P W 0 (fun _=>true) true n t [c2]=some x) (hw:Wt P t x.1):∃l:List α,V (rdG W) W (.sl (zK cells l) l.length .no) c2∧(∀a∈l,Q a)∧l.length*P.bytesOf e≤reachBytes:=by
 rcases DataW.trod_slice ht f2 with⟨e2,-⟩|⟨a,len,cap,elems,rest,m,hm,e2,hx,-,hle,hmx,hel,hE,hR,-⟩
 ·cases e2
  exact⟨[],by simp only[V];exact⟨0,Nat.le_refl _,.inl ⟨rfl,rfl,rfl,rfl,trivial⟩⟩,fun _ h=>(nomatch h),by simp⟩
 ·cases e2
  rw[hx]at hw
  obtain⟨w1,w2,w3⟩:=zLP ht hw
  rw[hc]at hE hR
  have rd:∀i,i<cap->∃(cs:List Value) (t:α),W.cells? 0 (a.add (i*c)) c=some cs∧VL (rdG W) W (cells t) cs∧Q t:=by
   intro i hi
   have got:∃y,(W.cells? 0 (a.add (i*c)) c).bind (DataW.trod enc P W 0 (fun _=>true) true m e)=some y∧Wt P e y.1:=by
    rcases Nat.lt_or_ge i len with hlt|hge
    ·rw[hE i hlt];exact⟨_,List.getElem?_eq_getElem (by omega),w2 _ (List.mem_map_of_mem (List.getElem_mem _))⟩
    ·obtain⟨r1,r2⟩:=hR rfl
     have:=r2 (i-len) (by omega)
     rw[show len+(i-len)=i by omega]at this
     rw[this];exact⟨_,List.getElem?_eq_getElem (by omega),w3 _ (List.mem_map_of_mem (List.getElem_mem _))⟩
   obtain⟨y,hy,hyw⟩:=got
   obtain⟨cs,h1,h2⟩:=Option.bind_eq_some_iff.1 hy
   obtain⟨t,ht⟩:=ih m hm cs y h2 hyw
   exact⟨cs,t,h1,ht⟩
  rcases Nat.eq_zero_or_pos cap with e0|hp
  ·subst e0
   have:len=0:=by omega
   subst this
   exact⟨[],by simp only[V];exact⟨0,Nat.le_refl _,.inl ⟨rfl,rfl,rfl,rfl,trivial⟩⟩,fun _ h=>(nomatch h),by simp⟩
  ·obtain⟨b,off,spot⟩:=a
   have hsp:spot=none:=by
    obtain⟨cs,t,h1,h2⟩:=rd 0 hp
    obtain⟨_,hl,hcc⟩:=World.cells?_some h1
    have g0:=hcc 0 (by omega)
    obtain⟨c0,hc0⟩:∃c0,cs[0]? = some c0:=⟨_,List.getElem?_eq_getElem (by omega)⟩
    rw[hc0]at g0
    simpa[Addr.add]using World.cell?_spot g0
   subst hsp
   obtain⟨l,hl,hV,hlo⟩:=o8 cells c hcl (W:=W) (b:=b) (Q:=Q) len off fun i hi=>by
    obtain⟨cs,t,h1,h2⟩:=rd i (by omega)
    obtain⟨_,_,hcc⟩:=World.cells?_some h1
    exact⟨cs,t,fun j hj=>by have:=hcc j hj;simpa[Addr.add_lit]using this,h2⟩
   refine⟨l,?_,hlo,?_⟩
   ·simp only[V]
    exact⟨cap,by omega,.inr ⟨b,off,by rw[hl],hV,trivial⟩⟩
   ·rw[List.length_map,List.length_map,hel]at w1
    rw[hl]
    exact Nat.le_trans (Nat.mul_le_mul_right _ (Nat.le_add_right _ _)) w1
end Go.Ab
namespace Go.Proofs.YtfbkefchjcocmaaGreat
open Go Go.Ab Go.RowKit Go.Proofs
def RdE(e:Ent):Prop:=e.type.Ok∧e.body.Ok∧e.cons.length≤17592186044416∧e.fields.length≤17592186044416
theorem zHq{H:Type}{enc:TypeId×Value->H}{W:World}{n:Nat}{c2:Value}{x:DataW H×List MemPlace}(f2:DataW.trod enc Tryz.prog W 0 (fun _=>true) true n 30 [c2]=some x)(hw:Wt Tryz.prog 30 x.1) :
  ∃l:List Int,V (rdG W) W (.sl (zK yB l) l.length .no) c2∧l.length≤17592186044416:=by
 obtain⟨l,h1,-,h2⟩:=E2 yB 1 (fun _=>rfl) (by omega) (Q:=fun _=>True) Tryz.underlying30 (by kernel_rfl) (fun m _ cs x h _=>by
  obtain⟨k,e,-⟩:=DataW.trod_int Tryz.underlying3 h
  subst e
  exact⟨k,by simp only[yB,VL,V,and_true],trivial⟩) f2 hw
 refine⟨l,h1,?_⟩
 have:Tryz.prog.bytesOf 3=8:=by kernel_rfl
 rw[this]at h2
 have:reachBytes=140737488351232:=rfl
 omega
theorem zSe{α:Type}(l:List α)(h:l.length=15):∃c0 c1 c2 c3 c4 c5 c6 c7 c8 c9 c10 c11 c12 c13 c14,l=[c0,c1,c2,c3,c4,c5,c6,c7,c8,c9,c10,c11,c12,c13,c14]:=by
 rcases l with _|⟨c0,_|⟨c1,_|⟨c2,_|⟨c3,_|⟨c4,_|⟨c5,_|⟨c6,_|⟨c7,_|⟨c8,_|⟨c9,_|⟨c10,_|⟨c11,_|⟨c12,_|⟨c13,_|⟨c14,_|⟨zz,zs⟩⟩⟩⟩⟩⟩⟩⟩⟩⟩⟩⟩⟩⟩⟩⟩<;>simp only[List.length_nil,List.length_cons]at h<;>first|exact⟨c0,c1,c2,c3,c4,c5,c6,c7,c8,c9,c10,c11,c12,c13,c14,rfl⟩|omega
theorem zSd{α:Type}(l:List α)(h:l.length=11):∃y0 y1 y2 y3 y4 y5 y6 y7 y8 y9 y10,l=[y0,y1,y2,y3,y4,y5,y6,y7,y8,y9,y10]:=by
 rcases l with _|⟨y0,_|⟨y1,_|⟨y2,_|⟨y3,_|⟨y4,_|⟨y5,_|⟨y6,_|⟨y7,_|⟨y8,_|⟨y9,_|⟨y10,_|⟨zz,zs⟩⟩⟩⟩⟩⟩⟩⟩⟩⟩⟩⟩<;>simp only[List.length_nil,List.length_cons]at h<;>first|exact⟨y0,y1,y2,y3,y4,y5,y6,y7,y8,y9,y10,rfl⟩|omega
theorem zLQ{H:Type}{enc:TypeId×Value->H}{W:World}(fuel:Nat)(cs:List Value)(x:DataW H×List MemPlace)(h:DataW.trod enc Tryz.prog W 0 (fun _=>true) true fuel 81 cs=some x)(hw:Wt Tryz.prog 81 x.1):∃e:Ent,VL (rdG W) W (yP e) cs∧RdE e:=by
 obtain⟨xs,n,hn,hx,hlen,hxs,hf⟩:=DataW.trod_struct Tryz.underlying81 h
 rw[hx]at hw
 have c15:Tryz.prog.cellsOf 81=15:=by kernel_rfl
 obtain⟨c0,c1,c2,c3,c4,c5,c6,c7,c8,c9,c10,c11,c12,c13,c14,rfl⟩:=zSe cs (hlen.trans c15)
 obtain⟨y0,y1,y2,y3,y4,y5,y6,y7,y8,y9,y10,rfl⟩:=zSd xs hxs
 have kINT:Tryz.prog.cellsOf 3=1:=by kernel_rfl
 have kSTR:Tryz.prog.cellsOf 9=1:=by kernel_rfl
 have kTERM:Tryz.prog.cellsOf 39=3:=by kernel_rfl
 have kINTS:Tryz.prog.cellsOf 30=1:=by kernel_rfl
 have f0:DataW.trod enc Tryz.prog W 0 (fun _=>true) true n 3 ((List.drop 0 [c0,c1,c2,c3,c4,c5,c6,c7,c8,c9,c10,c11,c12,c13,c14]).take (Tryz.prog.cellsOf 3))=some y0:=hf 0 _ rfl
 rw[kINT]at f0
 replace f0:DataW.trod enc Tryz.prog W 0 (fun _=>true) true n 3 [c0]=some y0:=f0
 have f1:DataW.trod enc Tryz.prog W 0 (fun _=>true) true n 9 ((List.drop 1 [c0,c1,c2,c3,c4,c5,c6,c7,c8,c9,c10,c11,c12,c13,c14]).take (Tryz.prog.cellsOf 9))=some y1:=hf 1 _ rfl
 rw[kSTR]at f1
 replace f1:DataW.trod enc Tryz.prog W 0 (fun _=>true) true n 9 [c1]=some y1:=f1
 have f2:DataW.trod enc Tryz.prog W 0 (fun _=>true) true n 39 ((List.drop 2 [c0,c1,c2,c3,c4,c5,c6,c7,c8,c9,c10,c11,c12,c13,c14]).take (Tryz.prog.cellsOf 39))=some y2:=hf 2 _ rfl
 rw[kTERM]at f2
 replace f2:DataW.trod enc Tryz.prog W 0 (fun _=>true) true n 39 [c2,c3,c4]=some y2:=f2
 have f3:DataW.trod enc Tryz.prog W 0 (fun _=>true) true n 39 ((List.drop 5 [c0,c1,c2,c3,c4,c5,c6,c7,c8,c9,c10,c11,c12,c13,c14]).take (Tryz.prog.cellsOf 39))=some y3:=hf 3 _ rfl
 rw[kTERM]at f3
 replace f3:DataW.trod enc Tryz.prog W 0 (fun _=>true) true n 39 [c5,c6,c7]=some y3:=f3
 have f4:DataW.trod enc Tryz.prog W 0 (fun _=>true) true n 3 ((List.drop 8 [c0,c1,c2,c3,c4,c5,c6,c7,c8,c9,c10,c11,c12,c13,c14]).take (Tryz.prog.cellsOf 3))=some y4:=hf 4 _ rfl
 rw[kINT]at f4
 replace f4:DataW.trod enc Tryz.prog W 0 (fun _=>true) true n 3 [c8]=some y4:=f4
 have f5:DataW.trod enc Tryz.prog W 0 (fun _=>true) true n 3 ((List.drop 9 [c0,c1,c2,c3,c4,c5,c6,c7,c8,c9,c10,c11,c12,c13,c14]).take (Tryz.prog.cellsOf 3))=some y5:=hf 5 _ rfl
 rw[kINT]at f5
 replace f5:DataW.trod enc Tryz.prog W 0 (fun _=>true) true n 3 [c9]=some y5:=f5
 have f6:DataW.trod enc Tryz.prog W 0 (fun _=>true) true n 3 ((List.drop 10 [c0,c1,c2,c3,c4,c5,c6,c7,c8,c9,c10,c11,c12,c13,c14]).take (Tryz.prog.cellsOf 3))=some y6:=hf 6 _ rfl
 rw[kINT]at f6
 replace f6:DataW.trod enc Tryz.prog W 0 (fun _=>true) true n 3 [c10]=some y6:=f6
 have f7:DataW.trod enc Tryz.prog W 0 (fun _=>true) true n 3 ((List.drop 11 [c0,c1,c2,c3,c4,c5,c6,c7,c8,c9,c10,c11,c12,c13,c14]).take (Tryz.prog.cellsOf 3))=some y7:=hf 7 _ rfl
 rw[kINT]at f7
 replace f7:DataW.trod enc Tryz.prog W 0 (fun _=>true) true n 3 [c11]=some y7:=f7
 have f8:DataW.trod enc Tryz.prog W 0 (fun _=>true) true n 3 ((List.drop 12 [c0,c1,c2,c3,c4,c5,c6,c7,c8,c9,c10,c11,c12,c13,c14]).take (Tryz.prog.cellsOf 3))=some y8:=hf 8 _ rfl
 rw[kINT]at f8
 replace f8:DataW.trod enc Tryz.prog W 0 (fun _=>true) true n 3 [c12]=some y8:=f8
 have f9:DataW.trod enc Tryz.prog W 0 (fun _=>true) true n 30 ((List.drop 13 [c0,c1,c2,c3,c4,c5,c6,c7,c8,c9,c10,c11,c12,c13,c14]).take (Tryz.prog.cellsOf 30))=some y9:=hf 9 _ rfl
 rw[kINTS]at f9
 replace f9:DataW.trod enc Tryz.prog W 0 (fun _=>true) true n 30 [c13]=some y9:=f9
 have f10:DataW.trod enc Tryz.prog W 0 (fun _=>true) true n 30 ((List.drop 14 [c0,c1,c2,c3,c4,c5,c6,c7,c8,c9,c10,c11,c12,c13,c14]).take (Tryz.prog.cellsOf 30))=some y10:=hf 10 _ rfl
 rw[kINTS]at f10
 replace f10:DataW.trod enc Tryz.prog W 0 (fun _=>true) true n 30 [c14]=some y10:=f10
 obtain⟨n0,e0,-,-⟩:=DataW.trod_int Tryz.underlying3 f0
 cases e0
 obtain⟨n1,e1,-,-⟩:=DataW.trod_string Tryz.underlying9 f1
 cases e1
 obtain⟨t2,v2,o2⟩:=zAS _ _ _ f2
 obtain⟨t3,v3,o3⟩:=zAS _ _ _ f3
 obtain⟨n4,e4,-,-⟩:=DataW.trod_int Tryz.underlying3 f4
 cases e4
 obtain⟨n5,e5,-,-⟩:=DataW.trod_int Tryz.underlying3 f5
 cases e5
 obtain⟨n6,e6,-,-⟩:=DataW.trod_int Tryz.underlying3 f6
 cases e6
 obtain⟨n7,e7,-,-⟩:=DataW.trod_int Tryz.underlying3 f7
 cases e7
 obtain⟨n8,e8,-,-⟩:=DataW.trod_int Tryz.underlying3 f8
 cases e8
 obtain⟨l9,v9,o9⟩:=zHq f9 (aB Tryz.underlying81 hw (i:=9) rfl rfl)
 obtain⟨l10,v10,o10⟩:=zHq f10 (aB Tryz.underlying81 hw (i:=10) rfl rfl)
 simp only[tmL,VL]at v2 v3
 refine⟨Ent.mk n0 n1 t2 t3 n4 n5 n6 n7 n8 l9 l10,?_,o2,o3,o9,o10⟩
 simp only[yP,VL]
 exact⟨by simp only[V],by simp only[V],v2.1,v2.2.1,v2.2.2.1,v3.1,v3.2.1,v3.2.2.1,by simp only[V],by simp only[V],by simp only[V],by simp only[V],by simp only[V],v9,v10,trivial⟩
theorem zPr{H:Type}{enc:TypeId×Value->H}{W:World}{v:Value}{d:DataW H}{p:List MemPlace}(hv:∃(q:Option Addr) (m c:Nat),v = .slice q m c)
  (h:DataW.Trod enc Tryz.prog W 0 (fun _=>true) true 22 v d p) (hw:Wt Tryz.prog 22 d):∃l:List Ent,V (rdG W) W (.sl (zK yP l) l.length .no) v∧∀e∈l,RdE e:=by
 obtain⟨q,m,c,rfl⟩:=hv
 obtain⟨fuel,hf⟩:=h
 obtain⟨l,h1,h2,-⟩:=E2 yP 15 (fun _=>rfl) (by omega) (Q:=RdE) Tryz.underlying22 (by kernel_rfl) (fun m _ cs x h hw=>zLQ m cs x h hw) (n:=fuel) (by simpa[Value.cells]using hf) hw
 exact⟨l,h1,h2⟩
mutual
def zFe:Nat->Tm->Int->Option Int
 |0,_,_=>none
 |qq+1,p0,p1=>
 kM qq p0 (w64 (p1+1)) 0
def kM:Nat->Tm->Int->Int->Option Int
 |0,_,_,_=>none
 |qq+1,p0,v1,v12=>
 if decide (v12<(p0.sub.length:Int))then
 zS p0.sub v12>>=fun x2=>
 if decide (v1>8192)then
 some v1
 else
 zFe qq x2 v1>>=fun r5=>
 kM qq p0 r5 (w64 (v12+1))
 else
 some v1
end
abbrev zUH (p0:Tm) (p1 r:Int) (C:Cf):Prop:=C 142 [] [tmA p0,ai p1] (ai r) [] 0
theorem zCM:∀qq:Nat,(∀ {p0 p1 r},zFe qq p0 p1=some r->zUH p0 p1 r Ct)∧(∀ {p0 v1 v12 r},kM qq p0 v1 v12=some r->(∀j,dL 0 (pt 4021 Tryz.f142) (sp j 23 0 [(1,ai v1),(10,slv zG p0.sub .no),(11,ai (p0.sub.length:Int)),(12,ai v12)]) (⟨[],0,[],0,[]⟩) (fQ 0 (nQ 0 Tryz.f142 (ai r) [] 0) [.blk 0,.seq (pt 63 Tryz.f142)]))):=by
 intro qq
 induction qq with
 |zero=>
  exact⟨fun h=>nn h,fun h=>nn h⟩
 |succ qq ih=>
  obtain⟨zUI,zCN⟩:=ih
  refine⟨?_,?_⟩
  intro p0 p1 r h
  rw[zFe]at h
  exact⟨tH ⟨Tryz.func142,rfl⟩ 3 [] [] [] [1,10,11,12] (oD (dT p0.sub) o0) (zCN h),⟨⟨tv,tv,⟨tv,dT _⟩,tv⟩,tv,tv⟩,zB,tv,zB⟩
  intro p0 v1 v12 r h
  rw[kM]at h
  obtain⟨h1,h⟩|⟨h1,h⟩:=spl h
  obtain⟨x2,h3,h⟩:=zC h
  have k:=oA 0 (xB (o:=.no) h3)<|oB 0 h1 o0
  obtain⟨h4,h⟩|⟨h4,h⟩:=spl h
  obtain rfl:=sj h
  exact fun j=>lF 0 [] (oB 2 h4 k)
  obtain⟨r5,h6,h⟩:=zC h
  exact fun j=>lH 1 [] [] [] [1,10,11,12] (oD (dT p0.sub)<|oC 1 [] (zUI h6)<|oB 2 h4 k) (zCN h)
  obtain rfl:=sj h
  exact fun j=>lF 0 [] (oB 0 h1 o0)
theorem zWb{qq p0 p1 r}(h:zFe qq p0 p1=some r):zUH p0 p1 r Ct:=(zCM _).1 h
def zFd(qq:Nat)(p0:Tm):Option Int:=
 zFe qq p0 0>>=fun r1=>
 some r1
theorem zSc{qq p0 r}(h:zFd qq p0=some r):Ct 106 [] [tmA p0] (ai r) [] 0:=⟨by
 unfold zFd at h
 obtain⟨r1,h2,h⟩:=zC h
 obtain rfl:=sj h
 exact tF ⟨Tryz.func106,rfl⟩ 0 [] (oC 1 [] (zWb h2) o0),⟨⟨tv,tv,⟨tv,dT _⟩,tv⟩,tv⟩,zB,tv,zB⟩
mutual
def zFc:Nat->Tm->Int->Option Int
 |0,_,_=>none
 |qq+1,p0,p1=>
 if decide (p1>128)then
 some p1
 else
 kN qq p0 p1 0 p1
def kN:Nat->Tm->Int->Int->Int->Option Int
 |0,_,_,_,_=>none
 |qq+1,p0,p1,v15,v5=>
 if decide (v15<(p0.sub.length:Int))then
 zS p0.sub v15>>=fun x3=>
 zFc qq x3 (w64 (p1+1))>>=fun r5=>
 kN qq p0 p1 (w64 (v15+1)) (mP v5 r5)
 else
 some v5
end
abbrev zUJ (p0:Tm) (p1 r:Int) (C:Cf):Prop:=C 107 [] [tmA p0,ai p1] (ai r) [] 0
theorem zUK:Qf 107 Tryz.f107:=⟨Tryz.func107,rfl⟩
theorem zCO:∀qq:Nat,(∀ {p0 p1 r},zFc qq p0 p1=some r->zUJ p0 p1 r Ct)∧(∀ {p0 p1 v15 v5 r},kN qq p0 p1 v15 v5=some r->(∀j,dL 0 (pt 16309 Tryz.f107) (sp j 27 0 [(1,ai p1),(5,ai v5),(13,slv zG p0.sub .no),(14,ai (p0.sub.length:Int)),(15,ai v15)]) (⟨[],0,[],0,[]⟩) (fQ 0 (nQ 0 Tryz.f107 (ai r) [] 0) [.blk 0,.seq (pt 255 Tryz.f107)]))):=by
 intro qq
 induction qq with
 |zero=>
  exact⟨fun h=>nn h,fun h=>nn h⟩
 |succ qq ih=>
  obtain⟨zUL,zCP⟩:=ih
  refine⟨?_,?_⟩
  intro p0 p1 r h
  rw[zFc]at h
  obtain⟨h1,h⟩|⟨h1,h⟩:=spl h
  obtain rfl:=sj h
  exact⟨tF zUK 0 [] (oB 0 h1 o0),⟨⟨tv,tv,⟨tv,dT _⟩,tv⟩,tv,tv⟩,zB,tv,zB⟩
  exact⟨tH zUK 2 [] [] [] [1,5,13,14,15] (oD (dT p0.sub)<|oB 0 h1 o0) (zCP h),⟨⟨tv,tv,⟨tv,dT _⟩,tv⟩,tv,tv⟩,zB,tv,zB⟩
  intro p0 p1 v15 v5 r h
  rw[kN]at h
  obtain⟨h2,h⟩|⟨h2,h⟩:=spl h
  obtain⟨x3,h4,h⟩:=zC h
  obtain⟨r5,h6,h⟩:=zC h
  exact fun j=>lH 2 [] [] [] [1,5,13,14,15] (oD (dT p0.sub)<|oC 4 [] (zUL h6)<|oA 0 (xB (o:=.no) h4)<|oB 0 h2 o0) (zCP h)
  obtain rfl:=sj h
  exact fun j=>lF 0 [] (oB 0 h2 o0)
theorem zWa{qq p0 p1 r}(h:zFc qq p0 p1=some r):zUJ p0 p1 r Ct:=(zCO _).1 h
def zLR(qq:Nat)(p0:Tm):Option Bool:=
 if decide (p0.k<1)then
 some false
 else
 if decide (p0.k>8)then
 some false
 else
 zS ([0,0,0,2,2,2,0,1,0]:List Int) p0.k>>=fun x3=>
 zS ([0,1048576,7,0,0,0,1048576,1048576,1048576]:List Int) p0.k>>=fun x5=>
 if (p0.sub.length:Int)==x3 then
 if decide (p0.n≥0)then
 if decide (p0.n≤x5)then
 if p0.k != 7 then
 some true
 else
 zS p0.sub 0>>=fun x11=>
 some (x11.k==2)
 else
 some false
 else
 some false
 else
 some false
theorem zFb:Qf 108 Tryz.f108:=⟨Tryz.func108,rfl⟩
theorem zUM{qq p0 r}(h:zLR qq p0=some r):Ct 108 [] [tmA p0] (ab r) [] 0:=⟨by
 unfold zLR at h
 obtain⟨h1,h⟩|⟨h1,h⟩:=spl h
 cases h
 exact tF zFb 0 [] (oB 1 h1 o0)
 have k:=oB 1 h1 o0
 obtain⟨h2,h⟩|⟨h2,h⟩:=spl h
 cases h
 exact tF zFb 0 [] (oB 1 h2 k)
 obtain⟨x3,h4,h⟩:=zC h
 obtain⟨x5,h6,h⟩:=zC h
 have k:=oA 1 (zCJ h6 rfl)<|oA 1 (zCJ h4 rfl)<|oB 1 h2 k
 obtain⟨h7,h⟩|⟨h7,h⟩:=spl h
 have k:=oB 2 h7 k
 obtain⟨h8,h⟩|⟨h8,h⟩:=spl h
 have k:=oB 1 h8 k
 obtain⟨h9,h⟩|⟨h9,h⟩:=spl h
 have k:=oB 1 h9 k
 obtain⟨h10,h⟩|⟨h10,h⟩:=spl h
 cases h
 exact tF zFb 0 [] (oB 1 h10 k)
 obtain⟨x11,h12,h⟩:=zC h
 cases h
 exact tF zFb 2 [] (oA 1 (xB (o:=.no) h12)<|oB 1 h10 k)
 cases h
 exact tF zFb 0 [] (oB 1 h9 k)
 cases h
 exact tF zFb 0 [] (oB 1 h8 k)
 cases h
 exact tF zFb 0 [] (oB 2 h7 k),⟨⟨tv,tv,⟨tv,dT _⟩,tv⟩,tv⟩,zB,tv,zB⟩
def e75(qq:Nat)(p0:Tm):Option Int:=
 zFd qq p0>>=fun r1=>
 if decide (r1>8192)then
 some 129
 else
 zFc qq p0 1>>=fun r4=>
 some r4
theorem q75:Qf 75 Tryz.f75:=⟨Tryz.func75,rfl⟩
theorem c75{qq p0 r}(h:e75 qq p0=some r):Ct 75 [] [tmA p0] (ai r) [] 0:=⟨by
 unfold e75 at h
 obtain⟨r1,h2,h⟩:=zC h
 have k:=oC 1 [] (zSc h2) o0
 obtain⟨h3,h⟩|⟨h3,h⟩:=spl h
 obtain rfl:=sj h
 exact tF q75 0 [] (oB 0 h3 k)
 obtain⟨r4,h5,h⟩:=zC h
 obtain rfl:=sj h
 exact tF q75 0 [] (oC 1 [] (zWa h5)<|oB 0 h3 k),⟨⟨tv,tv,⟨tv,dT _⟩,tv⟩,tv⟩,zB,tv,zB⟩
mutual
def e76:Nat->Tm->Option Bool
 |0,_=>none
 |qq+1,p0=>
 zLR qq p0>>=fun r1=>
 if r1 then
 dZ qq p0 0
 else
 some false
def dZ:Nat->Tm->Int->Option Bool
 |0,_,_=>none
 |qq+1,p0,v11=>
 if decide (v11<(p0.sub.length:Int))then
 zS p0.sub v11>>=fun x5=>
 e76 qq x5>>=fun r7=>
 if r7 then
 dZ qq p0 (w64 (v11+1))
 else
 some false
 else
 some true
end
abbrev K76 (p0:Tm) (r:Bool) (C:Cf):Prop:=C 76 [] [tmA p0] (ab r) [] 0
theorem q76:Qf 76 Tryz.f76:=⟨Tryz.func76,rfl⟩
theorem zJr:∀qq:Nat,(∀ {p0 r},e76 qq p0=some r->K76 p0 r Ct)∧(∀ {p0 v11 r},dZ qq p0 v11=some r->(∀j,dL 0 (pt 4021 Tryz.f76) (sp j 19 0 [(9,slv zG p0.sub .no),(10,ai (p0.sub.length:Int)),(11,ai v11)]) (⟨[],0,[],0,[]⟩) (fQ 0 (nQ 0 Tryz.f76 (ab r) [] 0) [.blk 0,.seq (pt 63 Tryz.f76)]))):=by
 intro qq
 induction qq with
 |zero=>
  exact⟨fun h=>nn h,fun h=>nn h⟩
 |succ qq ih=>
  obtain⟨zUN,zHp⟩:=ih
  refine⟨?_,?_⟩
  intro p0 r h
  rw[e76]at h
  obtain⟨r1,h2,h⟩:=zC h
  obtain⟨h3,h⟩|⟨h3,h⟩:=spl h
  exact⟨tH q76 3 [] [] [] [9,10,11] (oD (dT p0.sub)<|oK 1 [] h3 (zUM h2) o0) (zHp h),⟨⟨tv,tv,⟨tv,dT _⟩,tv⟩,tv⟩,zB,tv,zB⟩
  cases h
  exact⟨tF q76 1 [] (oK 1 [] h3 (zUM h2) o0),⟨⟨tv,tv,⟨tv,dT _⟩,tv⟩,tv⟩,zB,tv,zB⟩
  intro p0 v11 r h
  rw[dZ]at h
  obtain⟨h4,h⟩|⟨h4,h⟩:=spl h
  obtain⟨x5,h6,h⟩:=zC h
  obtain⟨r7,h8,h⟩:=zC h
  have k:=oA 0 (xB (o:=.no) h6)<|oB 0 h4 o0
  obtain⟨h9,h⟩|⟨h9,h⟩:=spl h
  exact fun j=>lH 2 [] [] [] [9,10,11] (oD (dT p0.sub)<|oK 3 [] h9 (zUN h8) k) (zHp h)
  cases h
  exact fun j=>lF 1 [] (oK 3 [] h9 (zUN h8) k)
  cases h
  exact fun j=>lF 0 [] (oB 0 h4 o0)
theorem c76{qq p0 r}(h:e76 qq p0=some r):K76 p0 r Ct:=(zJr _).1 h
def e52(qq:Nat)(p0:Tm):Option Bool:=
 e75 qq p0>>=fun r1=>
 if decide (r1≤128)then
 e76 qq p0>>=fun r4=>
 some r4
 else
 some false
theorem q52:Qf 52 Tryz.f52:=⟨Tryz.func52,rfl⟩
theorem c52{qq p0 r}(h:e52 qq p0=some r):Ct 52 [] [tmA p0] (ab r) [] 0:=⟨by
 unfold e52 at h
 obtain⟨r1,h2,h⟩:=zC h
 have k:=oC 1 [] (c75 h2) o0
 obtain⟨h3,h⟩|⟨h3,h⟩:=spl h
 obtain⟨r4,h5,h⟩:=zC h
 obtain rfl:=sj h
 exact tF q52 0 [] (oC 1 [] (c76 h5)<|oB 0 h3 k)
 obtain rfl:=sj h
 exact tF q52 0 [] (oB 0 h3 k),⟨⟨tv,tv,⟨tv,dT _⟩,tv⟩,tv⟩,zB,tv,zB⟩
mutual
theorem zHo:∀(t:Tm) (h:Int),t.Ok->0≤h->h≤8192->Evt (fun q=>zFe q t h) (szT t h)
 | .mk k n l,h,ho,h0,h1=>by
  refine Evt.succ ?_
  simp only[zFe]
  rw[yJ (by omega) (by omega),szT]
  exact zCQ l (.mk k n l) 0 (h+1) rfl ho.1 ho.2 (by omega) (by omega)
theorem zCQ:∀(l:List Tm) (p:Tm) (v:Nat) (h:Int),p.sub.drop v=l->p.sub.length<9223372036854775808->OkL l->0≤h->h≤8193->Evt (fun q=>kM q p h (v:Int)) (szL l h)
 | [],p,v,h,hd,hl,ho,h0,h1=>by
  refine Evt.succ ?_
  simp only[kM]
  rw[szL]
  exact Evt.ifF (zZ hd) Evt.ret
 |t::l,p,v,h,hd,hl,ho,h0,h1=>by
  refine Evt.succ ?_
  simp only[kM]
  refine Evt.ifT (zY hd) (Evt.pure (zX hd) ?_)
  rw[szL]
  by_cases h2:h>8192
  ·rw[if_pos h2];exact Evt.ifT (by simpa using h2) Evt.ret
  ·rw[if_neg h2]
   refine Evt.ifF (by simpa using h2) ((zHo t h ho.1 h0 (by omega)).bind ?_)
   rw[zW v (by have:=yC hd;omega)]
   have:=zCK t h h0 (by omega)
   exact zCQ l p (v+1) (szT t h) (zU hd) hl ho.2 (by omega) (by omega)
end
theorem zAT(t:Tm)(ho:t.Ok):Evt (fun q=>zFd q t) (szT t 0):=by
 simp only[zFd]
 exact(zHo t 0 ho (by omega) (by omega)).bind Evt.ret
mutual
theorem zHn:∀(t:Tm) (a:Int),t.Ok->0≤a->a≤129->Evt (fun q=>zFc q t a) (dpT t a)
 | .mk k n l,a,ho,h0,h1=>by
  refine Evt.succ ?_
  simp only[zFc]
  rw[dpT]
  by_cases h2:a>128
  ·rw[if_pos h2];exact Evt.ifT (by simpa using h2) Evt.ret
  ·rw[if_neg h2];exact Evt.ifF (by simpa using h2) (zCR l (.mk k n l) 0 a a rfl ho.1 ho.2 h0 (by omega))
theorem zCR:∀(l:List Tm) (p:Tm) (v:Nat) (a m:Int),p.sub.drop v=l->p.sub.length<9223372036854775808->OkL l->0≤a->a≤128->Evt (fun q=>kN q p a (v:Int) m) (dpL l a m)
 | [],p,v,a,m,hd,hl,ho,h0,h1=>by
  refine Evt.succ ?_
  simp only[kN]
  rw[dpL]
  exact Evt.ifF (zZ hd) Evt.ret
 |t::l,p,v,a,m,hd,hl,ho,h0,h1=>by
  refine Evt.succ ?_
  simp only[kN]
  refine Evt.ifT (zY hd) (Evt.pure (zX hd) ?_)
  rw[dpL,yJ (x:=a+1) (by omega) (by omega)]
  refine(zHn t (a+1) ho.1 (by omega) (by omega)).bind ?_
  rw[zW v (by have:=yC hd;omega)]
  exact zCR l p (v+1) a _ (zU hd) hl ho.2 h0 h1
end
def zLS(t:Tm):Int:=if szT t 0>8192 then 129 else dpT t 1
theorem zLT(t:Tm)(ho:t.Ok):Evt (fun q=>e75 q t) (zLS t):=by
 simp only[e75]
 refine(zAT t ho).bind ?_
 unfold zLS
 by_cases h:szT t 0>8192
 ·rw[if_pos h];exact Evt.ifT (by simpa using h) Evt.ret
 ·rw[if_neg h];exact Evt.ifF (by simpa using h) ((zHn t 1 ho (by omega) (by omega)).bind Evt.ret)
theorem zPq(t:Tm):zLS t≤128↔t.nodes≤8192∧t.high≤128:=by
 have h1:=zLL t 0 (by omega) (by omega)
 have h2:=zLN t 1 (by omega) (by omega)
 unfold zLS
 by_cases h3:t.nodes≤8192
 ·rw[if_neg (by rw[h1.1 (by omega)];omega)]
  by_cases h4:t.high≤128
  ·rw[h2.1 (by omega)];omega
  ·rw[h2.2 (by omega)];omega
 ·rw[if_pos (by rw[h1.2 (by omega)];omega)];omega
theorem zPp(t:Tm):Evt (fun q=>zLR q t) (sB t):=by
 refine Evt.mk fun q=>?_
 unfold zLR sB
 generalize t.k=k
 generalize t.n=n
 generalize t.sub=l
 by_cases h1:k<1
 ·rw[zPy (decide_eq_true h1)];simp;omega
 ·by_cases h2:k>8
  ·rw[zLa (decide_eq_false h1),zPy (decide_eq_true h2)];simp;omega
  ·rw[zLa (decide_eq_false h1),zLa (decide_eq_false h2)]
   have:k=1∨k=2∨k=3∨k=4∨k=5∨k=6∨k=7∨k=8:=by omega
   rcases this with rfl|rfl|rfl|rfl|rfl|rfl|rfl|rfl
   case inr.inr.inr.inr.inr.inr.inl=>
    rcases l with _|⟨x,_|⟨y,l⟩⟩<;>simp[zS]<;>grind
   case inr.inr.inl|inr.inr.inr.inl|inr.inr.inr.inr.inl=>
    by_cases hl:l.length=2
    ·simp[zS,hl];grind
    ·have h':¬((l.length:Int)=2):=by omega
     simp[zS,hl,h']
   all_goals (simp[zS];grind)
mutual
theorem zHm:∀(t:Tm),t.Ok->Evt (fun q=>e76 q t) (xA t)
 | .mk k n l,ho=>by
  refine Evt.succ ?_
  simp only[e76]
  refine(zPp (.mk k n l)).bind ?_
  rw[xA]
  cases sB (.mk k n l)with
  |false=>exact Evt.ifF rfl Evt.ret
  |true=>exact Evt.ifT rfl (zCS l (.mk k n l) 0 rfl ho.1 ho.2)
theorem zCS:∀(l:List Tm) (p:Tm) (v:Nat),p.sub.drop v=l->p.sub.length<9223372036854775808->OkL l->Evt (fun q=>dZ q p (v:Int)) (wK l)
 | [],p,v,hd,hl,ho=>by
  refine Evt.succ ?_
  simp only[dZ]
  rw[wK]
  exact Evt.ifF (zZ hd) Evt.ret
 |t::l,p,v,hd,hl,ho=>by
  refine Evt.succ ?_
  simp only[dZ]
  refine Evt.ifT (zY hd) (Evt.pure (zX hd) ((zHm t ho.1).bind ?_))
  rw[wK]
  cases xA t with
  |false=>exact Evt.ifF rfl Evt.ret
  |true=>
   refine Evt.ifT rfl ?_
   rw[zW v (by have:=yC hd;omega)]
   exact zCS l p (v+1) (zU hd) hl ho.2
end
theorem yO(t:Tm)(ho:t.Ok):Evt (fun q=>e52 q t) (zL t):=by
 simp only[e52]
 refine(zLT t ho).bind ?_
 have h:=zPq t
 unfold zL
 by_cases h1:zLS t≤128
 ·refine Evt.ifT (by simpa using h1) (((zHm t ho).bind Evt.ret).eq ?_)
  have:=h.1 h1
  simp[this.1,this.2]
 ·refine Evt.ifF (by simpa using h1) (Evt.ret.eq ?_)
  by_cases h2:t.nodes≤8192
  ·by_cases h3:t.high≤128
   ·exact absurd (h.2 ⟨h2,h3⟩) h1
   ·simp[h3]
  ·simp[h2]
def zLU(qq:Nat)(p0:Tm)(p1:Int):Option Int:=
 if p1==1 then
 if p0.k==3 then
 some 1
 else
 if p0.k==4 then
 some 1
 else
 some 0
 else
 some 0
theorem zPo:Qf 182 Tryz.f182:=⟨Tryz.func182,rfl⟩
theorem zWA{qq p0 p1 r}(h:zLU qq p0 p1=some r):Ct 182 [] [tmA p0,ai p1] (ai r) [] 0:=⟨by
 unfold zLU at h
 obtain⟨h1,h⟩|⟨h1,h⟩:=spl h
 have k:=oB 0 h1 o0
 obtain⟨h2,h⟩|⟨h2,h⟩:=spl h
 cases h
 exact tF zPo 0 [] (oB 1 h2 k)
 have k:=oB 1 h2 k
 obtain⟨h3,h⟩|⟨h3,h⟩:=spl h
 cases h
 exact tF zPo 0 [] (oB 1 h3 k)
 cases h
 exact tF zPo 0 [] (oB 1 h3 k)
 cases h
 exact tF zPo 0 [] (oB 0 h1 o0),⟨⟨tv,tv,⟨tv,dT _⟩,tv⟩,tv,tv⟩,zB,tv,zB⟩
mutual
def zCT:Nat->Tm->Int->Option Int
 |0,_,_=>none
 |qq+1,p0,p1=>
 if p0.k==1 then
 some (mP 0 (w64 ((w64 (p0.n+1))-p1)))
 else
 kO qq p0 p1 0 0
def kO:Nat->Tm->Int->Int->Int->Option Int
 |0,_,_,_,_=>none
 |qq+1,p0,p1,v20,v5=>
 if decide (v20<(p0.sub.length:Int))then
 zS p0.sub v20>>=fun x3=>
 zLU qq p0 v20>>=fun r5=>
 zCT qq x3 (w64 (p1+r5))>>=fun r7=>
 kO qq p0 p1 (w64 (v20+1)) (mP v5 r7)
 else
 some v5
end
abbrev zUO (p0:Tm) (p1 r:Int) (C:Cf):Prop:=C 145 [] [tmA p0,ai p1] (ai r) [] 0
theorem zUP:Qf 145 Tryz.f145:=⟨Tryz.func145,rfl⟩
theorem zCU:∀qq:Nat,(∀ {p0 p1 r},zCT qq p0 p1=some r->zUO p0 p1 r Ct)∧(∀ {p0 p1 v20 v5 r},kO qq p0 p1 v20 v5=some r->(∀j,dL 0 (pt 16309 Tryz.f145) (sp j 36 0 [(1,ai p1),(2,.mp 0 0),(5,ai v5),(18,slv zG p0.sub .no),(19,ai (p0.sub.length:Int)),(20,ai v20)]) (⟨[(0,.cells [ai p0.k,ai p0.n,slv zG p0.sub .no])],1,[],0,[]⟩) (fQ 0 (nQ 0 Tryz.f145 (ai r) [] 0) [.blk 0,.seq (pt 255 Tryz.f145)]))):=by
 intro qq
 induction qq with
 |zero=>
  exact⟨fun h=>nn h,fun h=>nn h⟩
 |succ qq ih=>
  obtain⟨zUQ,zCV⟩:=ih
  refine⟨?_,?_⟩
  intro p0 p1 r h
  rw[zCT]at h
  obtain⟨h1,h⟩|⟨h1,h⟩:=spl h
  obtain rfl:=sj h
  exact⟨tF zUP 4 [] (oB 1 h1 o0),⟨⟨tv,tv,⟨tv,dT _⟩,tv⟩,tv,tv⟩,zB,tv,zB⟩
  exact⟨tH zUP 2 [] [0] [] [1,2,5,18,19,20] (oD (dT p0.sub)<|oD (dT p0.sub)<|oB 1 h1 o0) (zCV h),⟨⟨tv,tv,⟨tv,dT _⟩,tv⟩,tv,tv⟩,zB,tv,zB⟩
  intro p0 p1 v20 v5 r h
  rw[kO]at h
  obtain⟨h2,h⟩|⟨h2,h⟩:=spl h
  obtain⟨x3,h4,h⟩:=zC h
  obtain⟨r5,h6,h⟩:=zC h
  obtain⟨r7,h8,h⟩:=zC h
  exact fun j=>lH 2 [] [0] [] [1,2,5,18,19,20] (oD (dT p0.sub)<|oD (dT p0.sub)<|oC 1 [] (zUQ h8)<|oC 4 [] (zWA h6)<|oA 0 (xB (o:=.no) h4)<|oB 0 h2 o0) (zCV h)
  obtain rfl:=sj h
  exact fun j=>lF 0 [] (oB 0 h2 o0)
theorem zUR{qq p0 p1 r}(h:zCT qq p0 p1=some r):zUO p0 p1 r Ct:=(zCU _).1 h
mutual
def zCW:Nat->Tm->Int->Int->Option (List Int)
 |0,_,_,_=>none
 |qq+1,p0,p1,p2=>
 if p0.k==p1 then
 yN 8 ([]:List Int) [p0.n]>>=fun l2=>
 pU qq p0 p1 p2 0 l2
 else
 if p0.k==p2 then
 yN 8 ([]:List Int) [p0.n]>>=fun l5=>
 pU qq p0 p1 p2 0 l5
 else
 pU qq p0 p1 p2 0 []
def pU:Nat->Tm->Int->Int->Int->List Int->Option (List Int)
 |0,_,_,_,_,_=>none
 |qq+1,p0,p1,p2,v28,v7=>
 if decide (v28<(p0.sub.length:Int))then
 zS p0.sub v28>>=fun x5=>
 zCW qq x5 p1 p2>>=fun r7=>
 yN 8 v7 r7>>=fun l9=>
 pU qq p0 p1 p2 (w64 (v28+1)) l9
 else
 some v7
end
abbrev zPn (p0:Tm) (p1 p2:Int) (r:List Int) (C:Cf):Prop:=C 172 [] [tmA p0,ai p1,ai p2] (slv yB r (.st 0 1)) [] 1
theorem zSb:Qf 172 Tryz.f172:=⟨Tryz.func172,rfl⟩
theorem zSa{p0 p1 p2 r}(h:zPn p0 p1 p2 r Ci):zPn p0 p1 p2 r Ct:=⟨h,⟨⟨tv,tv,⟨tv,dT _⟩,tv⟩,tv,tv,tv⟩,zB,dI _,zB⟩
theorem zCX:∀qq:Nat,(∀ {p0 p1 p2 r},zCW qq p0 p1 p2=some r->zPn p0 p1 p2 r Ct)∧(∀ {p0 p1 p2 v28 v7 r},pU qq p0 p1 p2 v28 v7=some r->(∀j,dL 0 (pt 16309 Tryz.f172) (sp j 40 0 [(1,ai p1),(2,ai p2),(7,slv yB v7 (.st 0 1)),(26,slv zG p0.sub .no),(27,ai (p0.sub.length:Int)),(28,ai v28)]) (⟨[],0,[0],1,[]⟩) (fQ 0 (nQ 0 Tryz.f172 (slv yB r (.st 0 1)) [] 1) [.blk 0,.seq (pt 255 Tryz.f172)]))∧(∀j,dL 0 (pt 16309 Tryz.f172) (sp j 40 0 [(1,ai p1),(2,ai p2),(7,slv yB v7 .nl),(26,slv zG p0.sub .no),(27,ai (p0.sub.length:Int)),(28,ai v28)]) (⟨[],0,[],0,[]⟩) (fQ 0 (nQ 0 Tryz.f172 (slv yB r (.st 0 1)) [] 1) [.blk 0,.seq (pt 255 Tryz.f172)]))):=by
 intro qq
 induction qq with
 |zero=>
  exact⟨fun h=>nn h,fun h=>nn h⟩
 |succ qq ih=>
  obtain⟨zRI,nD⟩:=ih
  refine⟨?_,?_⟩
  intro p0 p1 p2 r h
  rw[zCW]at h
  obtain⟨h1,h⟩|⟨h1,h⟩:=spl h
  obtain⟨l2,h3,h⟩:=zC h
  exact zSa (tH zSb 2 [] [] [0] [1,2,7,26,27,28] (oD (dT p0.sub)<|oD (dI l2)<|oP 2 (lD h3 (by simp))<|oB 1 h1 o0) ((nD h).1))
  have k:=oB 1 h1 o0
  obtain⟨h4,h⟩|⟨h4,h⟩:=spl h
  obtain⟨l5,h6,h⟩:=zC h
  exact zSa (tH zSb 2 [] [] [0] [1,2,7,26,27,28] (oD (dT p0.sub)<|oD (dI l5)<|oP 2 (lD h6 (by simp))<|oB 1 h4 k) ((nD h).1))
  exact zSa (tH zSb 2 [] [] [] [1,2,7,26,27,28] (oD (dT p0.sub)<|oD (dI ([]:List Int))<|oB 1 h4 k) ((nD h).2))
  intro p0 p1 p2 v28 v7 r h
  rw[pU]at h
  refine⟨?_,?_⟩
  obtain⟨h4,h⟩|⟨h4,h⟩:=spl h
  obtain⟨x5,h6,h⟩:=zC h
  obtain⟨r7,h8,h⟩:=zC h
  obtain⟨l9,h10,h⟩:=zC h
  have k:=oC 3 [] (zRI h8)<|oA 0 (xB (o:=.no) h6)<|oB 0 h4 o0
  by_cases h11:List.length r7=0
  exact fun j=>lH 1 [] [] [0] [1,2,7,26,27,28] (oD (dT p0.sub)<|oD (dI l9)<|oP 0 (zLB h10 h11) k) ((nD h).1)
  exact fun j=>lH 1 [] [] [2] [1,2,7,26,27,28] (oD (dT p0.sub)<|oD (dI l9)<|oP 0 (lD h10 h11) k) ((nD h).1)
  obtain rfl:=sj h
  exact fun j=>lG 0 [] [] [0] true (oD (dI v7)<|oB 0 h4 o0)
  obtain⟨h4,h⟩|⟨h4,h⟩:=spl h
  obtain⟨x5,h6,h⟩:=zC h
  obtain⟨r7,h8,h⟩:=zC h
  obtain⟨l9,h10,h⟩:=zC h
  have k:=oC 3 [] (zRI h8)<|oA 0 (xB (o:=.no) h6)<|oB 0 h4 o0
  by_cases h11:List.length r7=0
  exact fun j=>lH 1 [] [] [] [1,2,7,26,27,28] (oD (dT p0.sub)<|oD (dI l9)<|oP 0 (zLB h10 h11) k) ((nD h).2)
  exact fun j=>lH 1 [] [] [1] [1,2,7,26,27,28] (oD (dT p0.sub)<|oD (dI l9)<|oP 0 (lD h10 h11) k) ((nD h).1)
  obtain rfl:=sj h
  exact fun j=>lG 0 [(none,6,1)] [] [0] true (oD (dI v7)<|oB 0 h4 o0)
theorem zUS{qq p0 p1 p2 r}(h:zCW qq p0 p1 p2=some r):zPn p0 p1 p2 r Ct:=(zCX _).1 h
def zLV(qq:Nat)(p0:Tm):Option (List Int):=
 (e52 qq p0)>>=fun r1=>
 if r1=true then
  (zCW qq p0 6 7)>>=fun r4=>
  if decide (List.length r4<4611686018427387904)=true then some (wG r4)else none
 else
  some []
theorem zWB{qq:Nat}{p0:Tm}{r:List Int}(h:zLV qq p0=some r):CT Tryz.prog 146 [] [tmA p0] (.sl (zK yB r) r.length .no) [] 0:=by
 unfold zLV at h
 obtain⟨r1,h2,h⟩:=zC h
 rcases S3 r1 with h3|h3
 ·replace h:=ifT h3 h
  obtain⟨l,h5,h⟩:=zC h
  rcases S3 (decide (List.length l<4611686018427387904))with h6|h6
  ·replace h:=ifT h6 h
   replace h:=Option.some.inj h
   subst h
   subst h3
   have hsz:List.length l<4611686018427387904:=by simpa using h6
   refine⟨?_,⟨⟨trivial,trivial,⟨trivial,dT _⟩,trivial⟩,trivial⟩,(fun _ h=>nomatch h),dI _,(fun _ h=>nomatch h)⟩
   have k0:knd (bod Tryz.f146)=1:=by kernel_rfl
   have k1:knd (rgt (bod Tryz.f146))=1:=by kernel_rfl
   have k2:knd (rgt (rgt (bod Tryz.f146)))=1:=by kernel_rfl
   have k3:bS (lft (rgt (rgt (bod Tryz.f146))))=true:=by kernel_rfl
   have k4:zAJ (wA (lft (rgt (rgt (bod Tryz.f146)))))[2]? = some (some 8,171,#[.tmp 7]):=by kernel_rfl
   have k5:(Tryz.f171.name == "runtime.NumGoroutine")=false:=by kernel_rfl
   have k6:Tryz.f171.body.isNone=false:=by kernel_rfl
   have x1:qK Tryz.prog rQ 3000 (.run (lft (bod Tryz.f146))) [] ([tmA p0]++List.replicate (Tryz.f146.ntmps-1) (.val undef)) (st0 []) []=some (.fin .normal,[tmA p0,.mp 0 0,.sl [] 0 .nl,.val undef,.val undef,.val undef,.val undef,.val undef,.val undef],⟨[(0,.cells (tmL p0))],1,[],0,[]⟩,[],[]):=by kernel_rfl
   have x2:qK Tryz.prog rQ 3000 (.run (lft (rgt (bod Tryz.f146)))) [] [tmA p0,.mp 0 0,.sl [] 0 .nl,.val undef,.val undef,.val undef,.val undef,.val undef,.val undef] ⟨[(0,.cells (tmL p0))],1,[],0,[]⟩ [.no,.call [] [] 0 (ab true) (some true),.no]=some (.fin .normal,[tmA p0,.mp 0 0,.sl [] 0 .nl,tmA p0,ab true,ab false,.val undef,.val undef,.val undef],⟨[(0,.cells (tmL p0))],1,[],0,[]⟩,[],[.bit true true,.call 52 [] [tmA p0] (ab true) [] 0]):=by kernel_rfl
   have x3:(eF Tryz.prog rQ (wA (lft (rgt (rgt (bod Tryz.f146))))) ((wA (lft (rgt (rgt (bod Tryz.f146))))).toList.take 2) 0 [tmA p0,.mp 0 0,.sl [] 0 .nl,tmA p0,ab true,ab false,.val undef,.val undef,.val undef] ⟨[(0,.cells (tmL p0))],1,[],0,[]⟩ [.no,.call [] [] 1 (.sl (zK yB l) l.length (.st 0 1)) none]).map Prod.snd=some ([tmA p0,.mp 0 0,.sl [] 0 .nl,tmA p0,ab true,ab false,tmA p0,.sl (zK yB l) l.length (.st 0 1),.val undef],⟨[(0,.cells (tmL p0))],1,[0],1,[]⟩,[],[.call 172 [] [tmA p0,ai 6,ai 7] (.sl (zK yB l) l.length (.st 0 1)) [] 1]):=by kernel_rfl
   have x4:∀j:Nat->Value,(eF Tryz.prog rQ (wA (lft (rgt (rgt (bod Tryz.f146))))) ((wA (lft (rgt (rgt (bod Tryz.f146))))).toList.drop 3) 3 (eset (tells [] (mutEnv [] j [tmA p0,.mp 0 0,.sl [] 0 .nl,tmA p0,ab true,ab false,tmA p0,.sl (zK yB l) l.length (.st 0 1),.val undef] 0)) (some 8) (.sl (zK yB (wG l)) (wG l).length .no)) (pM [] ⟨[(0,.cells (tmL p0))],1,[0],1,[]⟩) []).map Prod.snd=some ([.val (j 0),.val (j 1),.sl (zK yB (wG l)) (wG l).length .no,.val (j 3),ab true,ab false,.val (j 6),.val (j 7),.sl (zK yB (wG l)) (wG l).length .no],⟨[],1,[],0,[]⟩,[],[]):=fun j=>by kernel_rfl
   have x5:∀j:Nat->Value,dP Tryz.prog rQ 0 Tryz.f146 3000 (.run (rgt (rgt (rgt (bod Tryz.f146))))) [] [.val (j 0),.val (j 1),.sl (zK yB (wG l)) (wG l).length .no,.val (j 3),ab true,ab false,.val (j 6),.val (j 7),.sl (zK yB (wG l)) (wG l).length .no] ⟨[],1,[],0,[]⟩ [] [] [] [] false=some (.sl (zK yB (wG l)) (wG l).length .no,[],[.data (zK yB (wG l))]):=fun j=>by kernel_rfl
   refine uG.body Tryz.func146 (by kernel_rfl) ?_
   refine Dv.seqP k0 ?_
   refine mA (Q:=_) xX mixed 3000 (.run (lft (bod Tryz.f146))) [] _ _ _ _ _ _ _ _ x1 yD.nil ?_
   refine Dv.seqP k1 ?_
   refine mA (Q:=_) xX mixed 3000 (.run (lft (rgt (bod Tryz.f146)))) [] _ _ _ _ _ _ _ _ x2 (yD.cons (lC rfl) (yD.cons (D6 (c52 h2)) yD.nil)) ?_
   refine Dv.seqP k2 ?_
   obtain⟨id,k7⟩:=zOV k3
   rw[k7]
   refine Dv.mut xX (na:=(0:Nat)) rfl 2 [] [] _ x3 (yD.cons (D6 (zUS h5)) yD.nil) k4 Tryz.func171 k5 k6 (fun i X h=>by cases h) ?_ x4 yD.nil ?_
   ·intro G0 W hB G w hE hR u hu
    refine(o4 hR (by rfl) hsz hu).mono ?_
    rintro e w' ⟨v,b,S,z1,z2,z3,z4,z5,z6⟩
    exact⟨v,b,S,z1,z2,z3,z4,z5,fun G' _ _ hS=>⟨z6 G' hS,fun q hq=>by cases hq⟩⟩
   ·intro j
    exact fM (na:=(0:Nat)) xX mixed (x5 j) (yD.cons (rS (dI _)) yD.nil) (by decide)
  ·replace h:=ifF h6 h
   cases h
 ·replace h:=ifF h3 h
  replace h:=Option.some.inj h
  subst h
  exact⟨uG.toFin xX mixed Tryz.func146 (by kernel_rfl) 3000 [.no,.call [] [] 0 (ab r1) (some false),.no] [] [] [] false (by kernel_rfl) (yD.cons (lC h3) (yD.cons (D6 (c52 h2)) (yD.cons (rS (dI ([]:List Int))) yD.nil))) (by decide),⟨⟨trivial,trivial,⟨trivial,dT _⟩,trivial⟩,trivial⟩,(fun _ h=>nomatch h),dI _,(fun _ h=>nomatch h)⟩
def Z9(qq:Nat)(p0:Tm)(p1 p2:Int):Option Bool:=
 e52 qq p0>>=fun r1=>
 if r1 then
 zCT qq p0 0>>=fun r4=>
 if decide (r4>p1)then
 some false
 else
 zLV qq p0>>=fun r7=>
 if (r7.length:Int)==0 then
 some true
 else
 zS r7 (w64 ((r7.length:Int)-1))>>=fun x10=>
 some (decide (x10<p2))
 else
 some false
theorem zPm:Qf 112 Tryz.f112:=⟨Tryz.func112,rfl⟩
theorem z7{qq p0 p1 p2 r}(h:Z9 qq p0 p1 p2=some r):Ct 112 [] [tmA p0,ai p1,ai p2] (ab r) [] 0:=⟨by
 unfold Z9 at h
 obtain⟨r1,h2,h⟩:=zC h
 obtain⟨h3,h⟩|⟨h3,h⟩:=spl h
 obtain⟨r4,h5,h⟩:=zC h
 have k:=oC 2 [] (zUR h5)<|oK 1 [] h3 (c52 h2) o0
 obtain⟨h6,h⟩|⟨h6,h⟩:=spl h
 cases h
 exact tF zPm 0 [] (oB 0 h6 k)
 obtain⟨r7,h8,h⟩:=zC h
 have k:=oC 1 [] (zWB h8)<|oB 0 h6 k
 obtain⟨h9,h⟩|⟨h9,h⟩:=spl h
 cases h
 exact tF zPm 0 [] (oB 1 h9 k)
 obtain⟨x10,h11,h⟩:=zC h
 cases h
 exact tF zPm 2 [] (oA 2 (nU (o:=.no) h11)<|oB 1 h9 k)
 cases h
 exact tF zPm 1 [] (oK 1 [] h3 (c52 h2) o0),⟨⟨tv,tv,⟨tv,dT _⟩,tv⟩,tv,tv,tv⟩,zB,tv,zB⟩
def z8(qq:Nat)(p0:Tm):Option (List Int):=
 (e52 qq p0)>>=fun r1=>
 if r1=true then
  (zCW qq p0 8 8)>>=fun r4=>
  if decide (List.length r4<4611686018427387904)=true then some (wG r4)else none
 else
  some []
theorem zJq{qq:Nat}{p0:Tm}{r:List Int}(h:z8 qq p0=some r):CT Tryz.prog 134 [] [tmA p0] (.sl (zK yB r) r.length .no) [] 0:=by
 unfold z8 at h
 obtain⟨r1,h2,h⟩:=zC h
 rcases S3 r1 with h3|h3
 ·replace h:=ifT h3 h
  obtain⟨l,h5,h⟩:=zC h
  rcases S3 (decide (List.length l<4611686018427387904))with h6|h6
  ·replace h:=ifT h6 h
   replace h:=Option.some.inj h
   subst h
   subst h3
   have hsz:List.length l<4611686018427387904:=by simpa using h6
   refine⟨?_,⟨⟨trivial,trivial,⟨trivial,dT _⟩,trivial⟩,trivial⟩,(fun _ h=>nomatch h),dI _,(fun _ h=>nomatch h)⟩
   have k0:knd (bod Tryz.f134)=1:=by kernel_rfl
   have k1:knd (rgt (bod Tryz.f134))=1:=by kernel_rfl
   have k2:knd (rgt (rgt (bod Tryz.f134)))=1:=by kernel_rfl
   have k3:bS (lft (rgt (rgt (bod Tryz.f134))))=true:=by kernel_rfl
   have k4:zAJ (wA (lft (rgt (rgt (bod Tryz.f134)))))[2]? = some (some 8,171,#[.tmp 7]):=by kernel_rfl
   have k5:(Tryz.f171.name == "runtime.NumGoroutine")=false:=by kernel_rfl
   have k6:Tryz.f171.body.isNone=false:=by kernel_rfl
   have x1:qK Tryz.prog rQ 3000 (.run (lft (bod Tryz.f134))) [] ([tmA p0]++List.replicate (Tryz.f134.ntmps-1) (.val undef)) (st0 []) []=some (.fin .normal,[tmA p0,.mp 0 0,.sl [] 0 .nl,.val undef,.val undef,.val undef,.val undef,.val undef,.val undef],⟨[(0,.cells (tmL p0))],1,[],0,[]⟩,[],[]):=by kernel_rfl
   have x2:qK Tryz.prog rQ 3000 (.run (lft (rgt (bod Tryz.f134)))) [] [tmA p0,.mp 0 0,.sl [] 0 .nl,.val undef,.val undef,.val undef,.val undef,.val undef,.val undef] ⟨[(0,.cells (tmL p0))],1,[],0,[]⟩ [.no,.call [] [] 0 (ab true) (some true),.no]=some (.fin .normal,[tmA p0,.mp 0 0,.sl [] 0 .nl,tmA p0,ab true,ab false,.val undef,.val undef,.val undef],⟨[(0,.cells (tmL p0))],1,[],0,[]⟩,[],[.bit true true,.call 52 [] [tmA p0] (ab true) [] 0]):=by kernel_rfl
   have x3:(eF Tryz.prog rQ (wA (lft (rgt (rgt (bod Tryz.f134))))) ((wA (lft (rgt (rgt (bod Tryz.f134))))).toList.take 2) 0 [tmA p0,.mp 0 0,.sl [] 0 .nl,tmA p0,ab true,ab false,.val undef,.val undef,.val undef] ⟨[(0,.cells (tmL p0))],1,[],0,[]⟩ [.no,.call [] [] 1 (.sl (zK yB l) l.length (.st 0 1)) none]).map Prod.snd=some ([tmA p0,.mp 0 0,.sl [] 0 .nl,tmA p0,ab true,ab false,tmA p0,.sl (zK yB l) l.length (.st 0 1),.val undef],⟨[(0,.cells (tmL p0))],1,[0],1,[]⟩,[],[.call 172 [] [tmA p0,ai 8,ai 8] (.sl (zK yB l) l.length (.st 0 1)) [] 1]):=by kernel_rfl
   have x4:∀j:Nat->Value,(eF Tryz.prog rQ (wA (lft (rgt (rgt (bod Tryz.f134))))) ((wA (lft (rgt (rgt (bod Tryz.f134))))).toList.drop 3) 3 (eset (tells [] (mutEnv [] j [tmA p0,.mp 0 0,.sl [] 0 .nl,tmA p0,ab true,ab false,tmA p0,.sl (zK yB l) l.length (.st 0 1),.val undef] 0)) (some 8) (.sl (zK yB (wG l)) (wG l).length .no)) (pM [] ⟨[(0,.cells (tmL p0))],1,[0],1,[]⟩) []).map Prod.snd=some ([.val (j 0),.val (j 1),.sl (zK yB (wG l)) (wG l).length .no,.val (j 3),ab true,ab false,.val (j 6),.val (j 7),.sl (zK yB (wG l)) (wG l).length .no],⟨[],1,[],0,[]⟩,[],[]):=fun j=>by kernel_rfl
   have x5:∀j:Nat->Value,dP Tryz.prog rQ 0 Tryz.f134 3000 (.run (rgt (rgt (rgt (bod Tryz.f134))))) [] [.val (j 0),.val (j 1),.sl (zK yB (wG l)) (wG l).length .no,.val (j 3),ab true,ab false,.val (j 6),.val (j 7),.sl (zK yB (wG l)) (wG l).length .no] ⟨[],1,[],0,[]⟩ [] [] [] [] false=some (.sl (zK yB (wG l)) (wG l).length .no,[],[.data (zK yB (wG l))]):=fun j=>by kernel_rfl
   refine uG.body Tryz.func134 (by kernel_rfl) ?_
   refine Dv.seqP k0 ?_
   refine mA (Q:=_) xX mixed 3000 (.run (lft (bod Tryz.f134))) [] _ _ _ _ _ _ _ _ x1 yD.nil ?_
   refine Dv.seqP k1 ?_
   refine mA (Q:=_) xX mixed 3000 (.run (lft (rgt (bod Tryz.f134)))) [] _ _ _ _ _ _ _ _ x2 (yD.cons (lC rfl) (yD.cons (D6 (c52 h2)) yD.nil)) ?_
   refine Dv.seqP k2 ?_
   obtain⟨id,k7⟩:=zOV k3
   rw[k7]
   refine Dv.mut xX (na:=(0:Nat)) rfl 2 [] [] _ x3 (yD.cons (D6 (zUS h5)) yD.nil) k4 Tryz.func171 k5 k6 (fun i X h=>by cases h) ?_ x4 yD.nil ?_
   ·intro G0 W hB G w hE hR u hu
    refine(o4 hR (by rfl) hsz hu).mono ?_
    rintro e w' ⟨v,b,S,z1,z2,z3,z4,z5,z6⟩
    exact⟨v,b,S,z1,z2,z3,z4,z5,fun G' _ _ hS=>⟨z6 G' hS,fun q hq=>by cases hq⟩⟩
   ·intro j
    exact fM (na:=(0:Nat)) xX mixed (x5 j) (yD.cons (rS (dI _)) yD.nil) (by decide)
  ·replace h:=ifF h6 h
   cases h
 ·replace h:=ifF h3 h
  replace h:=Option.some.inj h
  subst h
  exact⟨uG.toFin xX mixed Tryz.func134 (by kernel_rfl) 3000 [.no,.call [] [] 0 (ab r1) (some false),.no] [] [] [] false (by kernel_rfl) (yD.cons (lC h3) (yD.cons (D6 (c52 h2)) (yD.cons (rS (dI ([]:List Int))) yD.nil))) (by decide),⟨⟨trivial,trivial,⟨trivial,dT _⟩,trivial⟩,trivial⟩,(fun _ h=>nomatch h),dI _,(fun _ h=>nomatch h)⟩
theorem aC(a b:Int):mP a b=max a b:=by unfold mP;split<;>omega
theorem wV{k n:Int}{l:List Tm}(h:xA (.mk k n l)=true):sB (.mk k n l)=true∧wK l=true:=by
 rw[xA]at h;simpa using h
theorem xW{t:Tm}{l:List Tm}(h:wK (t::l)=true):xA t=true∧wK l=true:=by
 rw[wK]at h;simpa using h
theorem mS{k n:Int}{l:List Tm}(h:sB (.mk k n l)=true):0≤n∧n≤1048576∧1≤k∧k≤8∧l.length≤2:=by
 have:=uT h
 exact⟨this.2.2.1,this.2.2.2.1,this.1,this.2.1,this.2.2.2.2.1⟩
mutual
theorem rD:∀t:Tm,xA t=true->t.Ok
 | .mk k n l,h=>by
  have h1:=wV h
  rw[Tm.Ok]
  exact⟨by have:=(mS h1.1).2.2.2.2;omega,zCY l h1.2⟩
theorem zCY:∀l:List Tm,wK l=true->OkL l
 | [],_=>by rw[OkL];trivial
 |t::l,h=>by
  have:=xW h
  rw[OkL]
  exact⟨rD t this.1,zCY l this.2⟩
end
mutual
theorem zPl:∀(t:Tm) (b:Int),0≤nC t b
 | .mk k n l,b=>by
  rw[nC];split
  ·omega
  ·exact zAU l k 0 b
theorem zAU:∀(l:List Tm) (k:Int) (i:Nat) (b:Int),0≤iK l k i b
 | [],k,i,b=>by rw[iK];omega
 |t::l,k,i,b=>by rw[iK];have:=zPl t (b+dY k i);omega
end
theorem zLW(t:Tm)(i:Nat):Evt (fun q=>zLU q t (i:Int)) (dY t.k i):=by
 refine Evt.mk fun q=>?_
 simp only[zLU,dY]
 by_cases h1:i=1
 ·subst h1;simp;by_cases h3:t.k=3<;>by_cases h4:t.k=4<;>simp[h3,h4]
 ·have:¬((i:Int)=1):=by omega
  simp[h1,this]
theorem zHl(k:Int)(i:Nat):0≤dY k i∧dY k i≤1:=by unfold dY;split<;>omega
mutual
theorem aD:∀(t:Tm) (b:Int),xA t=true->0≤b->b+t.high≤4611686018427387904->Evt (fun q=>zCT q t b) (nC t b)
 | .mk k n l,b,hg,h0,h1=>by
  refine Evt.succ ?_
  simp only[zCT,Tm.k,Tm.n]
  have hh:=wV hg
  have hn:=mS hh.1
  rw[nC]
  by_cases hk:k=1
  ·rw[if_pos hk]
   rw[Tm.high]at h1
   refine Evt.ifT (by simpa using hk) (Evt.ret.eq ?_)
   rw[yJ (x:=n+1) (by omega) (by omega),yJ (by omega) (by omega),aC]
  ·rw[if_neg hk]
   refine Evt.ifF (by simpa using hk) ?_
   rw[Tm.high]at h1
   exact(n9 l (.mk k n l) 0 b 0 rfl (by have:=hn.2.2.2.2;simp only[Tm.sub];omega) hh.2 h0 (by omega) (by omega)).eq (by have:=zAU l k 0 b;simp only[Tm.k];omega)
theorem n9:∀(l:List Tm) (p:Tm) (v:Nat) (b m:Int),p.sub.drop v=l->p.sub.length<9223372036854775808->wK l=true->0≤b->0≤m->b+1+wY l≤4611686018427387904->Evt (fun q=>kO q p b (v:Int) m) (max m (iK l p.k v b))
 | [],p,v,b,m,hd,hl,ho,h0,hm,h1=>by
  refine Evt.succ ?_
  simp only[kO]
  rw[iK]
  exact Evt.ifF (zZ hd) (Evt.ret.eq (by omega))
 |t::l,p,v,b,m,hd,hl,ho,h0,hm,h1=>by
  refine Evt.succ ?_
  simp only[kO]
  have hg:=xW ho
  have hu:=zHl p.k v
  rw[wY]at h1
  refine Evt.ifT (zY hd) (Evt.pure (zX hd) ((zLW p v).bind ?_))
  rw[yJ (x:=b+dY p.k v) (by omega) (by omega)]
  refine(aD t (b+dY p.k v) hg.1 (by omega) (by omega)).bind ?_
  rw[zW v (by have:=yC hd;omega),aC]
  refine(n9 l p (v+1) b _ (zU hd) hl hg.2 h0 (by omega) (by omega)).eq ?_
  rw[iK];omega
end
mutual
theorem pB:∀(t:Tm) (a b:Int),(sQ t a b).length≤t.nodes
 | .mk k n l,a,b=>by
  rw[sQ,Tm.nodes]
  have:=zCZ l a b
  split<;>simp<;>omega
theorem zCZ:∀(l:List Tm) (a b:Int),(aA l a b).length≤yQ l
 | [],a,b=>by rw[aA,yQ];simp
 |t::l,a,b=>by
  rw[aA,yQ]
  have:=pB t a b
  have:=zCZ l a b
  simp;omega
end
mutual
theorem cA:∀(t:Tm) (a b:Int),t.Ok->t.nodes≤8192->Evt (fun q=>zCW q t a b) (sQ t a b)
 | .mk k n l,a,b,ho,hn=>by
  refine Evt.succ ?_
  simp only[zCW,Tm.k,Tm.n]
  rw[sQ]
  rw[Tm.nodes]at hn
  by_cases ha:k=a
  ·refine Evt.ifT (by simpa using ha) (Evt.pure (yG (by simp)) ?_)
   rw[if_pos (.inl ha)]
   exact mD l (.mk k n l) 0 a b [n] rfl ho.1 ho.2 (by simp;omega)
  ·refine Evt.ifF (by simpa using ha) ?_
   by_cases hb:k=b
   ·refine Evt.ifT (by simpa using hb) (Evt.pure (yG (by simp)) ?_)
    rw[if_pos (.inr hb)]
    exact mD l (.mk k n l) 0 a b [n] rfl ho.1 ho.2 (by simp;omega)
   ·refine Evt.ifF (by simpa using hb) ?_
    rw[if_neg (by simp[ha,hb])]
    exact mD l (.mk k n l) 0 a b [] rfl ho.1 ho.2 (by simp;omega)
theorem mD:∀(l:List Tm) (p:Tm) (v:Nat) (a b:Int) (m:List Int),p.sub.drop v=l->p.sub.length<9223372036854775808->OkL l->m.length+yQ l≤8192->Evt (fun q=>pU q p a b (v:Int) m) (m++aA l a b)
 | [],p,v,a,b,m,hd,hl,ho,hn=>by
  refine Evt.succ ?_
  simp only[pU]
  rw[aA]
  exact Evt.ifF (zZ hd) (Evt.ret.eq (by simp))
 |t::l,p,v,a,b,m,hd,hl,ho,hn=>by
  refine Evt.succ ?_
  simp only[pU]
  rw[yQ]at hn
  have hc:=pB t a b
  refine Evt.ifT (zY hd) (Evt.pure (zX hd) ((cA t a b ho.1 (by omega)).bind (Evt.pure (yG (by omega)) ?_)))
  rw[zW v (by have:=yC hd;omega)]
  refine(mD l p (v+1) a b _ (zU hd) hl ho.2 (by simp;omega)).eq ?_
  rw[aA];simp
end
theorem zQ{t:Tm}(h:zL t=true):t.nodes≤8192∧t.high≤128∧xA t=true:=by
 unfold zL at h;simp at h;exact⟨h.1.1,h.1.2,h.2⟩
def lE(t:Tm)(a b:Int):List Int:=if zL t=true then wG (sQ t a b)else []
theorem lI(t:Tm)(ho:t.Ok):Evt (fun q=>z8 q t) (lE t 8 8):=by
 simp only[z8]
 refine(yO t ho).bind ?_
 unfold lE
 by_cases h:zL t=true
 ·have hs:=zQ h
  have:=pB t 8 8
  rw[if_pos h]
  refine Evt.ifT h ((cA t 8 8 ho hs.1).bind (Evt.mk fun q=>?_))
  rw[if_pos (by simp;omega)]
 ·rw[if_neg h];exact Evt.ifF (by simpa using h) Evt.ret
theorem zFa(t:Tm)(ho:t.Ok):Evt (fun q=>zLV q t) (lE t 6 7):=by
 simp only[zLV]
 refine(yO t ho).bind ?_
 unfold lE
 by_cases h:zL t=true
 ·have hs:=zQ h
  have:=pB t 6 7
  rw[if_pos h]
  refine Evt.ifT h ((cA t 6 7 ho hs.1).bind (Evt.mk fun q=>?_))
  rw[if_pos (by simp;omega)]
 ·rw[if_neg h];exact Evt.ifF (by simpa using h) Evt.ret
theorem S6(x:Int):∀l:List Int,x∈pI l↔x∈l
 | []=>by simp[pI]
 | [y]=>by simp[pI]
 |y::z::l=>by
  rw[qQ]
  have:=S6 x (z::l)
  split
  ·subst_vars;rw[this];simp
  ·rw[List.mem_cons,this];simp
theorem rT(x:Int)(l:List Int):x∈wG l↔x∈l:=by
 unfold wG
 rw[S6]
 exact(kI l).mem_iff
theorem J7:∀l:List Int,l.Pairwise (· ≤ ·)->(pI l).Pairwise (· ≤ ·)
 | [],_=>by simp[pI]
 | [y],_=>by simp[pI]
 |y::z::l,h=>by
  rw[qQ]
  have h2:=J7 (z::l) (List.pairwise_cons.1 h).2
  split
  ·exact h2
  ·refine List.pairwise_cons.2 ⟨fun w hw=>?_,h2⟩
   exact(List.pairwise_cons.1 h).1 w ((S6 w _).1 hw)
theorem zDz(l:List Int):(wG l).Pairwise (· ≤ ·):=J7 _ (kJ l)
theorem zDy:∀(l:List Int) (h:l≠[]),l.Pairwise (· ≤ ·)->∀x∈l,x≤l.getLast h
 | [y],_,_,x,hx=>by simp at hx;simp[hx]
 |y::z::l,_,hp,x,hx=>by
  rw[List.getLast_cons (by simp)]
  have h2:=List.pairwise_cons.1 hp
  rcases List.mem_cons.1 hx with rfl|hx
  ·exact h2.1 _ (List.getLast_mem _)
  ·exact zDy (z::l) (by simp) h2.2 x hx
def sU(t:Tm)(f n:Int):Bool:=zL t&&decide (nC t 0≤f)&&(sQ t 6 7).all fun x=>decide (x<n)
theorem lJ(t:Tm)(f n:Int)(ho:t.Ok):Evt (fun q=>Z9 q t f n) (sU t f n):=by
 simp only[Z9]
 refine(yO t ho).bind ?_
 unfold sU
 by_cases h:zL t=true
 ·have hs:=zQ h
  have hlen:=pB t 6 7
  refine Evt.ifT h ((aD t 0 hs.2.2 (by omega) (by omega)).bind ?_)
  rw[h]
  by_cases h2:nC t 0>f
  ·exact Evt.ifT (by simpa using h2) (Evt.ret.eq (by simp;omega))
  ·refine Evt.ifF (by simpa using h2) ((zFa t ho).bind ?_)
   have h2':decide (nC t 0≤f)=true:=by simp;omega
   rw[h2']
   unfold lE
   rw[if_pos h]
   have hr:=pJ (sQ t 6 7)
   by_cases h3:wG (sQ t 6 7)=[]
   ·refine Evt.ifT (by rw[h3];rfl) (Evt.ret.eq ?_)
    symm
    simp only[Bool.true_and,List.all_eq_true]
    intro x hx
    rw[←rT,h3]at hx;cases hx
   ·have hpos:0<(wG (sQ t 6 7)).length:=List.length_pos_iff.2 h3
    refine Evt.ifF (by simp;omega) (Evt.pure (a:=(wG (sQ t 6 7)).getLast h3) ?_ (Evt.ret.eq ?_))
    ·rw[yJ (by omega) (by omega)]
     unfold zS
     rw[if_pos (by omega),List.getLast_eq_getElem,show ((wG (sQ t 6 7)).length-1:Int).toNat=(wG (sQ t 6 7)).length-1 by omega]
     exact List.getElem?_eq_getElem _
    ·have hm:=zDy _ h3 (zDz _)
     rw[Bool.eq_iff_iff]
     simp only[decide_eq_true_eq,Bool.true_and,List.all_eq_true]
     constructor
     ·intro h4 x hx
      have:=hm x ((rT x _).2 hx)
      omega
     ·intro h4
      exact h4 _ ((rT _ _).1 (List.getLast_mem h3))
 ·exact Evt.ifF (by simpa using h) (Evt.ret.eq (by simp[h]))
abbrev kAP (f:Func):Code:=inn (inn (lft (rgt (rgt (rgt (bod f))))))
abbrev kCP (f:Func):Code:=rgt (rgt (rgt (rgt (bod f))))
abbrev s4P (j:Nat->Value) (ls:List L3) (r:List (Nat×AV)):List AV:=sp j 35 0 ((1,.mp 0 0)::(2,.mp 1 0)::(4,.sl (zK c3 ls) ls.length (.st 0 3))::(5,.mp 2 0)::r)
abbrev sSP (a b:List AV):LSt:=⟨[(0,.cells a),(1,.cells [ai 0,ai 0,.sl [] 0 .nl]),(2,.cells b)],3,[0],1,[]⟩
abbrev lt3 (x:Tm) (q:Option Addr×Nat×Nat):List AV:=[.val (.int .i64 x.k),.val (.int .i64 x.n),.val (.slice q.1 q.2.1 q.2.2)]
abbrev nbG (G0:Gh):Nb:=⟨0,fun G=>G=G0⟩
abbrev lx3 (x:Tm) (vs:List Value) (o:Own):List AV:=[ai x.k,ai x.n,.sl (vs.map .val) x.sub.length o]
theorem zWC(j:Nat->Value)(ls:List L3)(x:Tm)(u:List AV)(vs:List Value)(o:Own):qK Tryz.prog rQ 3000 (.run (kAP Tryz.f123)) [] (s4P j ls []) (sSP u (lx3 x vs o)) [.no,.bit false]=some (.fin (.exit 0),(s4P j ls [(7,.mp 2 0),(8,ai x.k),(9,ab false),(10,ab false),(11,.val undef),(12,.val undef),(13,.val undef),(14,.val undef),(15,ab false)]),(sSP u (lx3 x vs o)),[],[.bit (x.k==5) false]):=by kernel_rfl
theorem zWD(j:Nat->Value)(ls:List L3)(x:Tm)(u:List AV)(vs:List Value)(o:Own):(eF Tryz.prog rQ (wA (lft (kCP Tryz.f123))) ((wA (lft (kCP Tryz.f123))).toList.take 1) 0 (s4P j ls [(7,.mp 2 0),(8,ai x.k),(9,ab false),(10,ab false),(11,.val undef),(12,.val undef),(13,.val undef),(14,.val undef),(15,ab false)]) (sSP u (lx3 x vs o)) []).map Prod.snd=some ((s4P j ls [(7,.mp 2 0),(8,ai x.k),(9,ab false),(10,ab false),(11,.val undef),(12,.val undef),(13,.val undef),(14,.val undef),(15,ab false),(31,.sl (zK c3 ls) ls.length (.st 0 3))]),(sSP u (lx3 x vs o)),[],[]):=by kernel_rfl
theorem zWE(j i:Nat->Value)(ls:List L3)(l:List Tm)(x:Tm)(u:List AV)(vs:List Value)(o:Own):(eF Tryz.prog rQ (wA (lft (kCP Tryz.f123))) ((wA (lft (kCP Tryz.f123))).toList.drop 2) 2 (eset (tells [(4,.sl (zK zG l.reverse) l.length .no)] (mutEnv [1,2] i (s4P j ls [(7,.mp 2 0),(8,ai x.k),(9,ab false),(10,ab false),(11,.val undef),(12,.val undef),(13,.val undef),(14,.val undef),(15,ab false),(31,.sl (zK c3 ls) ls.length (.st 0 3))]) 0)) (some 32) (.tup [])) (pM [1,2] (sSP u (lx3 x vs o))) []).map Prod.snd=some ((sp j 35 0 [(1,.val (i 1)),(2,.mp 1 0),(4,.sl (zK zG l.reverse) l.length .no),(5,.mp 2 0),(7,.mp 2 0),(8,ai x.k),(9,ab false),(10,ab false),(11,.val undef),(12,.val undef),(13,.val undef),(14,.val undef),(15,ab false),(31,.val (i 31)),(32,.tup [])]),⟨[(1,.cells [ai 0,ai 0,.sl [] 0 .nl]),(2,.cells (lx3 x vs o))],3,[],0,[]⟩,[],[]):=by kernel_rfl
theorem zWF(j i:Nat->Value)(l:List Tm)(x:Tm)(vs:List Value)(o:Own):dP Tryz.prog rQ 0 Tryz.f123 3000 (.run (rgt (kCP Tryz.f123))) [] (sp j 35 0 [(1,.val (i 1)),(2,.mp 1 0),(4,.sl (zK zG l.reverse) l.length .no),(5,.mp 2 0),(7,.mp 2 0),(8,ai x.k),(9,ab false),(10,ab false),(11,.val undef),(12,.val undef),(13,.val undef),(14,.val undef),(15,ab false),(31,.val (i 31)),(32,.tup [])]) ⟨[(1,.cells [ai 0,ai 0,.sl [] 0 .nl]),(2,.cells (lx3 x vs o))],3,[],0,[]⟩ [.no,.no] [] [] [] false=some (.tup [.agg [ai x.k,ai x.n,.sl (vs.map .val) x.sub.length .no],.sl (zK zG l.reverse) l.length .no],[],[.data (vs.map .val),.data (zK zG l.reverse)]):=by kernel_rfl
theorem zWG(j:Nat->Value)(ls:List L3)(x:Tm)(u:List AV)(vs:List Value)(o:Own):qK Tryz.prog rQ 3000 (.run (kAP Tryz.f123)) [] (s4P j ls []) (sSP u (lx3 x vs o)) [.no,.bit true,.no,.no,.bit false]=some (.fin (.exit 0),(s4P j ls [(7,.mp 2 0),(8,ai x.k),(9,ab true),(10,ab true),(11,.mp 2 2),(12,.sl (vs.map .val) x.sub.length o),(13,ai (x.sub.length:Int)),(14,ab false),(15,ab false)]),(sSP u (lx3 x vs o)),[],[.bit (x.k==5) true,.bit ((x.sub.length:Int)==2) false]):=by kernel_rfl
theorem zWH(j:Nat->Value)(ls:List L3)(x:Tm)(u:List AV)(vs:List Value)(o:Own):(eF Tryz.prog rQ (wA (lft (kCP Tryz.f123))) ((wA (lft (kCP Tryz.f123))).toList.take 1) 0 (s4P j ls [(7,.mp 2 0),(8,ai x.k),(9,ab true),(10,ab true),(11,.mp 2 2),(12,.sl (vs.map .val) x.sub.length o),(13,ai (x.sub.length:Int)),(14,ab false),(15,ab false)]) (sSP u (lx3 x vs o)) []).map Prod.snd=some ((s4P j ls [(7,.mp 2 0),(8,ai x.k),(9,ab true),(10,ab true),(11,.mp 2 2),(12,.sl (vs.map .val) x.sub.length o),(13,ai (x.sub.length:Int)),(14,ab false),(15,ab false),(31,.sl (zK c3 ls) ls.length (.st 0 3))]),(sSP u (lx3 x vs o)),[],[]):=by kernel_rfl
theorem zWI(j i:Nat->Value)(ls:List L3)(l:List Tm)(x:Tm)(u:List AV)(vs:List Value)(o:Own):(eF Tryz.prog rQ (wA (lft (kCP Tryz.f123))) ((wA (lft (kCP Tryz.f123))).toList.drop 2) 2 (eset (tells [(4,.sl (zK zG l.reverse) l.length .no)] (mutEnv [1,2] i (s4P j ls [(7,.mp 2 0),(8,ai x.k),(9,ab true),(10,ab true),(11,.mp 2 2),(12,.sl (vs.map .val) x.sub.length o),(13,ai (x.sub.length:Int)),(14,ab false),(15,ab false),(31,.sl (zK c3 ls) ls.length (.st 0 3))]) 0)) (some 32) (.tup [])) (pM [1,2] (sSP u (lx3 x vs o))) []).map Prod.snd=some ((sp j 35 0 [(1,.val (i 1)),(2,.mp 1 0),(4,.sl (zK zG l.reverse) l.length .no),(5,.mp 2 0),(7,.mp 2 0),(8,ai x.k),(9,ab true),(10,ab true),(11,.mp 2 2),(12,.val (i 12)),(13,ai (x.sub.length:Int)),(14,ab false),(15,ab false),(31,.val (i 31)),(32,.tup [])]),⟨[(1,.cells [ai 0,ai 0,.sl [] 0 .nl]),(2,.cells (lx3 x vs o))],3,[],0,[]⟩,[],[]):=by kernel_rfl
theorem zWJ(j i:Nat->Value)(l:List Tm)(x:Tm)(vs:List Value)(o:Own):dP Tryz.prog rQ 0 Tryz.f123 3000 (.run (rgt (kCP Tryz.f123))) [] (sp j 35 0 [(1,.val (i 1)),(2,.mp 1 0),(4,.sl (zK zG l.reverse) l.length .no),(5,.mp 2 0),(7,.mp 2 0),(8,ai x.k),(9,ab true),(10,ab true),(11,.mp 2 2),(12,.val (i 12)),(13,ai (x.sub.length:Int)),(14,ab false),(15,ab false),(31,.val (i 31)),(32,.tup [])]) ⟨[(1,.cells [ai 0,ai 0,.sl [] 0 .nl]),(2,.cells (lx3 x vs o))],3,[],0,[]⟩ [.no,.no] [] [] [] false=some (.tup [.agg [ai x.k,ai x.n,.sl (vs.map .val) x.sub.length .no],.sl (zK zG l.reverse) l.length .no],[],[.data (vs.map .val),.data (zK zG l.reverse)]):=by kernel_rfl
theorem spC(j:Nat->Value)(p0:Tm)(q0:Option Addr×Nat×Nat)(ls:List L3)(x:Tm)(vs:List Value)(o:Own):dP Tryz.prog rQ 0 Tryz.f123 3000 (.run (kAP Tryz.f123)) [.loop (kAP Tryz.f123),.blk 0,.seq (kCP Tryz.f123)] (s4P j ls []) (sSP (lt3 p0 q0) (lx3 x vs o)) [.no,.bit true,.no,.no,.bit true,.no,.bit true,.no,.no] [] [] [] false=some (.tup [.agg (lt3 p0 q0),.sl [] 0 .no],[],[.bit (x.k==5) true,.bit ((x.sub.length:Int)==2) true,.bit (decide ((ls.length:Int)≥8192)) true,.data []]):=by kernel_rfl
theorem spD(i j:Nat->Value)(k n:Int)(a b:Tm)(qa qb:Option Addr×Nat×Nat)(u0 u1 u2:Value)(ls ls2:List L3)(o:Own):iW Tryz.prog rQ 0 3000 (.run (kAP Tryz.f123)) [.loop (kAP Tryz.f123),.blk 0,.seq (kCP Tryz.f123)] (s4P j ls []) (sSP [.val u0,.val u1,.val u2] [ai k,ai n,.sl [.val (.int .i64 a.k),.val (.int .i64 a.n),.val (.slice qa.1 qa.2.1 qa.2.2),.val (.int .i64 b.k),.val (.int .i64 b.n),.val (.slice qb.1 qb.2.1 qb.2.2)] 2 o]) [.no,.bit true,.no,.no,.bit true,.no,.bit false,.no,.no,.no,.no,.app (zK c3 ls2) ls2.length 3 false,.no,.no,.no,.no] [] [0,1,2] [1] [1,2,4,5] i=some (inn (inn (lft (rgt (rgt (rgt (bod Tryz.f123)))))),[.blk 0,.seq (kCP Tryz.f123)],(s4P i ls2 []),(sSP [.val u0,.val u1,.val u2] [.val (.int .i64 a.k),.val (.int .i64 a.n),.val (.slice qa.1 qa.2.1 qa.2.2)]),[.bit (k==5) true,.bit ((2:Int)==2) true,.bit (decide ((ls.length:Int)≥8192)) false,.app 24 24 (zK c3 ls) [.val (.int .i64 b.k),.val (.int .i64 b.n),.val (.slice qb.1 qb.2.1 qb.2.2)] (zK c3 ls2) ls.length 1 ls2.length 3 false,.data [],.data (zK c3 ls2)]):=by kernel_rfl
theorem spE(i:Nat->Value)(u0 u1:Int)(u2:Option Addr×Nat×Nat):iW Tryz.prog rQ 0 3000 (.run (bod Tryz.f123)) [] ([.agg [.val (.int .i64 u0),.val (.int .i64 u1),.val (.slice u2.1 u2.2.1 u2.2.2)]]++List.replicate (Tryz.f123.ntmps-1) (.val undef)) (st0 []) [.no,.no] [(none,4,3)] [0,1,2] [0] [1,2,4,5] i=some (inn (inn (lft (rgt (rgt (rgt (bod Tryz.f123)))))),[.blk 0,.seq (kCP Tryz.f123)],(sp i 35 0 [(1,.mp 0 0),(2,.mp 1 0),(4,.sl [] 0 (.st 0 3)),(5,.mp 2 0)]),⟨[(0,.cells [.val (.int .i64 u0),.val (.int .i64 u1),.val (.slice u2.1 u2.2.1 u2.2.2)]),(1,.cells [ai 0,ai 0,.sl [] 0 .nl]),(2,.cells [.val (.int .i64 u0),.val (.int .i64 u1),.val (.slice u2.1 u2.2.1 u2.2.2)])],3,[0],1,[]⟩,[.data [],.data []]):=by kernel_rfl
def sv(x:Tm)(q:Option Addr×Nat×Nat):List Value:=[.int .i64 x.k,.int .i64 x.n,.slice q.1 q.2.1 q.2.2]
def sv3(x:Tm)(q:Option Addr×Nat×Nat):L3:=⟨.int .i64 x.k,.int .i64 x.n,.slice q.1 q.2.1 q.2.2,rfl,rfl,rfl⟩
theorem VL.split{G:Gh}{w:World}:∀(cs bs:List AV) (us:List Value),VL G w (cs++bs) us->∃u1 u2,us=u1++u2∧VL G w cs u1∧VL G w bs u2
 | [],bs,us,h=>⟨[],us,rfl,by simp only[VL],h⟩
 |a::cs,bs,[],h=>by simp only[List.cons_append,VL]at h
 |a::cs,bs,u::us,h=>by
  simp only[List.cons_append,VL]at h
  obtain⟨u1,u2,rfl,h1,h2⟩:=VL.split cs bs us h.2
  exact⟨u::u1,u2,rfl,by simp only[VL];exact⟨h.1,h1⟩,h2⟩
theorem zLX{G:Gh}{w:World}{x:Tm}{us:List Value}(h:VL G w (tmL x) us):∃q,us=sv x q:=by
 unfold tmL at h
 match us,h with
 | [],h=>simp only[VL]at h
 | [_],h=>simp only[VL,and_false]at h
 | [_,_],h=>simp only[VL,and_false]at h
 | [u0,u1,u2],h=>
  simp only[VL,and_true]at h
  obtain⟨h0,h1,h2⟩:=h
  simp only[V]at h0 h1 h2
  obtain⟨cap,_,⟨_,_,_,h,_⟩|⟨b,off,h,_⟩⟩:=h2
  ·obtain⟨p,h⟩:∃p,u2 = .slice p 0 0:=⟨_,h⟩
   exact⟨(p,0,0),by simp[sv,h0,h1,h]⟩
  ·exact⟨(some ⟨b,off,none⟩,x.sub.length,cap),by simp[sv,h0,h1,h]⟩
 |_::_::_::_::_,h=>simp only[VL,and_false]at h
theorem VC.lit{G G':Gh}{w w':World}(b:Nat)(hL:∀o,G.L b o->G'.L b o)(hc:∀o,w'.cell? ⟨b,o,none⟩=w.cell? ⟨b,o,none⟩):∀(vs:List Value) (off:Nat),VC G w (vs.map .val) b off->VC G' w' (vs.map .val) b off
 | [],_,_=>by simp only[List.map_nil,VC]
 |v::vs,off,h=>by
  simp only[List.map_cons,VC]at h ⊢
  obtain⟨h1,⟨u,h2,h3⟩,h4⟩:=h
  exact⟨hL _ h1,⟨u,(hc _).trans h2,by simpa only[V]using h3⟩,VC.lit b hL hc vs (off+1) h4⟩
theorem zUT{G:Gh}{w:World}{vs:List Value}{n:Nat}{o:Own}{u:Value}{es:List AV}(h:V G w (.sl (vs.map .val) n o) u)(he:VL G w es vs):V G w (.sl es n .no) u:=by
 simp only[V]at h ⊢
 obtain⟨cap,hc,⟨h1,h2,h3,h4,_⟩|⟨b,off,h1,h2,_⟩⟩:=h
 ·have hv:vs=[]:=by simpa using h1
  subst hv
  have:=VL.length _ _ he
  exact⟨cap,hc,.inl ⟨List.length_eq_zero_iff.1 this.symm,h2,h3,h4,trivial⟩⟩
 ·refine⟨cap,hc,.inr ⟨b,off,h1,?_,trivial⟩⟩
  obtain⟨us,q1,q2⟩:=VC.cells _ _ _ h2
  have:=VL.litEq _ _ q1
  subst this
  exact VC.of_cells es us b off he (fun i hi=>(VC.cell _ _ _ i (.val us[i]) h2 (by simp[hi])).1) q2
theorem zPk{na:Nb}{G0:Gh}{w:World}(hB:kE na G0){x:Tm}{q:Option Addr×Nat×Nat}(h:VL G0 w (tmL x) (sv x q)) :
  ∃(vs:List Value) (o:Own),VL G0 w (zK zG x.sub) vs∧VL G0 w (lx3 x vs o) (sv x q)∧Blk.lit (.cells (lx3 x vs o)):=by
 unfold tmL sv at h
 simp only[VL,and_true]at h
 obtain⟨_,_,h2⟩:=h
 have key:∃(vs:List Value) (o:Own),VL G0 w (zK zG x.sub) vs∧V G0 w (.sl (vs.map .val) x.sub.length o) (.slice q.1 q.2.1 q.2.2) ∧
   ∀(G G':Gh) (w w':World) (u:Value),G'.F=G.F->(∀b o,G.F b->G.L b o->G'.L b o)->(∀b o,G.F b->w'.cell? ⟨b,o,none⟩=w.cell? ⟨b,o,none⟩)->V G w (.sl (vs.map .val) x.sub.length o) u->V G' w' (.sl (vs.map .val) x.sub.length o) u:=by
  simp only[V]at h2
  obtain⟨cap,hc,⟨h1,h2,h3,h4,_⟩|⟨b,off,h1,h2,_⟩⟩:=h2
  ·refine⟨[],.no,by rw[h1];simp only[VL],?_,?_⟩
   ·simp only[V];exact⟨cap,hc,.inl ⟨rfl,h2,h3,h4,trivial⟩⟩
   ·intro G G' w w' u _ _ _ hu
    rw[h2]at hu ⊢
    exact V.none hu
  ·obtain⟨vs,q1,q2⟩:=VC.cells _ _ _ h2
   have hL:∀i,i<vs.length->G0.L b (off+i):=by
    intro i hi
    have hl:=VL.length _ _ q1
    exact(VC.cell _ _ _ i ((zK zG x.sub)[i]'(by omega)) h2 (by rw[List.getElem?_eq_getElem])).1
   have hcl:VC G0 w (vs.map .val) b off:=VC.of_cells _ vs b off (VL.lits vs) hL q2
   by_cases hs:vs=[]
   ·subst hs
    have hl:=VL.length _ _ q1
    have hfl:=xZ tU.len x.sub
    have h0:x.sub.length=0:=by simp at hl;omega
    refine⟨[],.no,q1,?_,?_⟩
    ·simp only[V];exact⟨cap,hc,.inr ⟨b,off,h1,hcl,trivial⟩⟩
    ·intro G G' w w' u _ _ _ hu
     rw[h0]at hu ⊢
     exact V.none hu
   ·have hF:G0.F b:=hB.LF b (off+0) (hL 0 (List.length_pos_iff.2 hs))
    refine⟨vs,.fr,q1,?_,?_⟩
    ·simp only[V];exact⟨cap,hc,.inr ⟨b,off,h1,hcl,hF⟩⟩
    ·intro G G' w w' u e1 e2 e3 hu
     simp only[V]at hu ⊢
     obtain⟨cap',hc',⟨p1,p2,p3,p4,_⟩|⟨b',off',p1,p2,p3⟩⟩:=hu
     ·exact⟨cap',hc',.inl ⟨p1,p2,p3,p4,trivial⟩⟩
     ·have p3':G.F b':=p3
      exact⟨cap',hc',.inr ⟨b',off',p1,VC.lit b' (fun o h=>e2 b' o p3' h) (fun o=>e3 b' o p3') vs off' p2,by show G'.F b';rw[e1];exact p3'⟩⟩
 obtain⟨vs,o,k1,k2,k3⟩:=key
 refine⟨vs,o,k1,?_,?_⟩
 ·simp only[sv,VL,V];simp only[V]at k2;exact⟨trivial,trivial,k2,trivial⟩
 ·intro G G' w w' us e1 e2 e3 hu
  match us,hu with
  | [],hu=>simp only[VL]at hu
  | [_],hu=>simp only[VL,and_false]at hu
  | [_,_],hu=>simp only[VL,and_false]at hu
  | [u0,u1,u2],hu=>
   simp only[VL,and_true]at hu ⊢
   exact⟨by simpa only[V]using hu.1,by simpa only[V]using hu.2.1,k3 G G' w w' u2 e1 e2 e3 hu.2.2⟩
  |_::_::_::_::_,hu=>simp only[VL,and_false]at hu
theorem zUU:Blk.lit (.cells [ai 0,ai 0,.sl [] 0 .nl]):=by
 intro G G' w w' us e1 e2 e3 hu
 match us,hu with
 | [],hu=>simp only[VL]at hu
 | [_],hu=>simp only[VL,and_false]at hu
 | [_,_],hu=>simp only[VL,and_false]at hu
 | [u0,u1,u2],hu=>
  simp only[VL,and_true]at hu ⊢
  refine⟨by simpa only[V]using hu.1,by simpa only[V]using hu.2.1,?_⟩
  have:=hu.2.2
  simp only[V]at this ⊢
  obtain⟨cap,h1,⟨_,_,h2,h3,h4⟩|⟨b,off,h2,_,h3⟩⟩:=this
  ·exact⟨cap,h1,.inl ⟨trivial,trivial,h2,h3,h4⟩⟩
  ·exact h3.elim
 |_::_::_::_::_,hu=>simp only[VL,and_false]at hu
def zSA(G0:Gh)(res:AV)(r:Tm×List Tm):Prop:=∀W G' W',Ext G0 W G' W'->vK G'.F G'.w0 W'->∀u,V G' W' res u->V G' W' (.tup [tmA r.1,.sl (zK zG r.2) r.2.length .no]) u
def qU(p0:Tm):Tm->List Tm->Option (Tm×List Tm)
 | .mk k n [a,b],l=>
  if (k==5)=true then
   if decide ((l.length:Int)≥8192)=true then some (p0,[])else(yN 40 l [b])>>=fun l2=>qU p0 a l2
  else some (.mk k n [a,b],l.reverse)
 |x,l=>some (x,l.reverse)
def zUV(p0:Tm):Option (Tm×List Tm):=qU p0 p0 []
theorem zLY:∀vs:List Value,AV.DataL (vs.map .val)
 | []=>trivial
 |_::vs=>⟨trivial,zLY vs⟩
theorem VL.rev{G:Gh}{w:World}:∀(l:List Tm) (ls:List L3),VL G w (zK zG l) (sW ls)->ls.length=l.length->VL G w (zK zG l.reverse) (sW ls.reverse)
 | [],[],_,_=>by simp[zK,sW,VL]
 |x::l,y::ls,h,hl=>by
  simp only[zK,sW,List.flatMap_cons]at h
  obtain⟨u1,u2,e,h1,h2⟩:=VL.split _ _ _ h
  have n1:=VL.length _ _ h1
  rw[tU.len]at n1
  obtain⟨rfl,rfl⟩:=List.append_inj e (by rw[n1];rfl)
  have ih:=VL.rev l ls h2 (by simpa using hl)
  simp only[List.reverse_cons,zK,sW,List.flatMap_append,List.flatMap_cons,List.flatMap_nil,List.append_nil]
  exact VL.append _ _ _ _ ih h1
 | [],_::_,_,h=>by simp at h
 |_::_,[],_,h=>by simp at h
theorem m1{na:Nb}{G0:Gh}(hB:kE na G0){x:Tm}{l:List Tm}{vs:List Value}(v1:VL G0 G0.w0 (zK zG x.sub) vs)(hn:na.n=0:=by first|rfl|assumption):zSA G0 (.tup [.agg [ai x.k,ai x.n,.sl (vs.map .val) x.sub.length .no],.sl (zK zG l.reverse) l.length .no]) (x,l.reverse):=by
 intro W G' W' hE hK u hu
 have v:=VL.later hB hE hK v1
 simp only[V,VL]at hu
 obtain⟨us,rfl,hus⟩:=hu
 match us,hus with
 | [],h=>simp only[VL]at h
 | [_],h=>simp only[VL,and_false]at h
 | [ua,ub],h=>
  simp only[VL,and_true]at h
  obtain⟨h1,h2⟩:=h
  simp only[V]at h1
  obtain⟨ws,rfl,hws⟩:=h1
  match ws,hws with
  | [],h=>simp only[VL]at h
  | [_],h=>simp only[VL,and_false]at h
  | [_,_],h=>simp only[VL,and_false]at h
  | [w0,w1,w2],h=>
   simp only[VL,and_true]at h
   obtain⟨g0,g1,g2⟩:=h
   have g3:=zUT g2 v
   simp only[V]
   refine⟨[.agg #[w0,w1,w2],ub],rfl,?_⟩
   simp only[VL,and_true]
   refine⟨?_,by simpa using h2⟩
   simp only[tmA,V]
   exact⟨[w0,w1,w2],rfl,by simp only[tmL,VL,and_true];exact⟨g0,g1,g3⟩⟩
  |_::_::_::_::_,h=>simp only[VL,and_false]at h
 |_::_::_::_,h=>simp only[VL,and_false]at h
theorem zJp{na:Nb}{G0:Gh}(hB:kE na G0){x:Tm}{q:Option Addr×Nat×Nat}(h0:VL G0 G0.w0 (tmL x) (sv x q))(hn:na.n=0:=by first|rfl|assumption):zSA G0 (.tup [.agg (lt3 x q),.sl [] 0 .no]) (x,[]):=by
 intro W G' W' hE hK u hu
 have v:=VL.later hB hE hK h0
 simp only[V,VL]at hu
 obtain⟨us,rfl,hus⟩:=hu
 match us,hus with
 | [],h=>simp only[VL]at h
 | [_],h=>simp only[VL,and_false]at h
 | [ua,ub],h=>
  simp only[VL,and_true]at h
  obtain⟨h1,h2⟩:=h
  simp only[V]at h1
  obtain⟨ws,rfl,hws⟩:=h1
  have hw:ws=sv x q:=VL.litEq (sv x q) ws hws
  subst hw
  simp only[V]
  refine⟨[.agg (sv x q).toArray,ub],rfl,?_⟩
  simp only[VL,and_true]
  refine⟨?_,by simpa[zK]using h2⟩
  simp only[tmA,V]
  exact⟨sv x q,rfl,v⟩
 |_::_::_::_,h=>simp only[VL,and_false]at h
theorem zWK{G0:Gh}{p0 x:Tm}{q0:Option Addr×Nat×Nat}{l:List Tm}{ls:List L3}{vs:List Value}{o:Own}(j:Nat->Value)(hlit:Blk.lit (.cells (lx3 x vs o)))(hl:VL G0 G0.w0 (zK zG l) (sW ls))(hlen:ls.length=l.length)(h8:l.length≤8192) :
  Dv Tryz.prog (nbG G0) (kCP Tryz.f123) (s4P j ls [(7,.mp 2 0),(8,ai x.k),(9,ab false),(10,ab false),(11,.val undef),(12,.val undef),(13,.val undef),(14,.val undef),(15,ab false)]) (sSP (lt3 p0 q0) (lx3 x vs o)) (nQ (nbG G0) Tryz.f123 (.tup [.agg [ai x.k,ai x.n,.sl (vs.map .val) x.sub.length .no],.sl (zK zG l.reverse) l.length .no]) [] 0):=by
 have k1:knd (kCP Tryz.f123)=1:=by kernel_rfl
 have k3:bS (lft (kCP Tryz.f123))=true:=by kernel_rfl
 have k4:zAJ (wA (lft (kCP Tryz.f123)))[1]? = some (some 32,161,#[.tmp 31]):=by kernel_rfl
 have k5:(Tryz.f161.name == "runtime.NumGoroutine")=false:=by kernel_rfl
 have k6:Tryz.f161.body.isNone=false:=by kernel_rfl
 refine Dv.seqP k1 ?_
 obtain⟨id,k7⟩:=zOV k3
 rw[k7]
 refine Dv.mut xX (na:=(nbG G0)) rfl 1 [1,2] [(4,.sl (zK zG l.reverse) l.length .no)] (.tup []) (zWD j ls x _ vs o) yD.nil k4 Tryz.func161 k5 k6 ?_ ?_ (fun i=>zWE j i ls l x _ vs o) yD.nil ?_
 ·intro i X hm hX
  have:i=1∨i=2:=by simpa using wZ.1 hm
  rcases this with rfl|rfl
  ·cases hX;exact zUU
  ·cases hX;exact hlit
 ·intro G1 W hB' G w hE hR u hu
  have e:=hB'.κ
  subst e
  refine(zCb (l:=ls) hR (by rfl) (by omega) hu).mono ?_
  rintro e w' ⟨v,b,S,e1,e2,e3,e4,e5,e6,e7⟩
  refine⟨v,b,S,e1,e2,e3,e4,e5,fun G' hE' hK' hS=>⟨by subst e6;simp only[V];exact⟨[],rfl,by simp only[VL]⟩,?_⟩⟩
  intro p hp u' hu'
  have hp':=List.mem_singleton.1 hp
  subst hp'
  have:=e7 G' hS _ (VL.later hB' hE' hK' (VL.rev l ls hl hlen)) u' hu'
  rw[hlen]at this
  exact this
 ·intro i
  exact fM (na:=(nbG G0)) xX mixed (zWF j i l x vs o) (yD.cons (rS (zLY vs)) (yD.cons (rS (dT _)) yD.nil)) (by decide)
theorem zWL{G0:Gh}{p0 x:Tm}{q0:Option Addr×Nat×Nat}{l:List Tm}{ls:List L3}{vs:List Value}{o:Own}(j:Nat->Value)(hlit:Blk.lit (.cells (lx3 x vs o)))(hl:VL G0 G0.w0 (zK zG l) (sW ls))(hlen:ls.length=l.length)(h8:l.length≤8192) :
  Dv Tryz.prog (nbG G0) (kCP Tryz.f123) (s4P j ls [(7,.mp 2 0),(8,ai x.k),(9,ab true),(10,ab true),(11,.mp 2 2),(12,.sl (vs.map .val) x.sub.length o),(13,ai (x.sub.length:Int)),(14,ab false),(15,ab false)]) (sSP (lt3 p0 q0) (lx3 x vs o)) (nQ (nbG G0) Tryz.f123 (.tup [.agg [ai x.k,ai x.n,.sl (vs.map .val) x.sub.length .no],.sl (zK zG l.reverse) l.length .no]) [] 0):=by
 have k1:knd (kCP Tryz.f123)=1:=by kernel_rfl
 have k3:bS (lft (kCP Tryz.f123))=true:=by kernel_rfl
 have k4:zAJ (wA (lft (kCP Tryz.f123)))[1]? = some (some 32,161,#[.tmp 31]):=by kernel_rfl
 have k5:(Tryz.f161.name == "runtime.NumGoroutine")=false:=by kernel_rfl
 have k6:Tryz.f161.body.isNone=false:=by kernel_rfl
 refine Dv.seqP k1 ?_
 obtain⟨id,k7⟩:=zOV k3
 rw[k7]
 refine Dv.mut xX (na:=(nbG G0)) rfl 1 [1,2] [(4,.sl (zK zG l.reverse) l.length .no)] (.tup []) (zWH j ls x _ vs o) yD.nil k4 Tryz.func161 k5 k6 ?_ ?_ (fun i=>zWI j i ls l x _ vs o) yD.nil ?_
 ·intro i X hm hX
  have:i=1∨i=2:=by simpa using wZ.1 hm
  rcases this with rfl|rfl
  ·cases hX;exact zUU
  ·cases hX;exact hlit
 ·intro G1 W hB' G w hE hR u hu
  have e:=hB'.κ
  subst e
  refine(zCb (l:=ls) hR (by rfl) (by omega) hu).mono ?_
  rintro e w' ⟨v,b,S,e1,e2,e3,e4,e5,e6,e7⟩
  refine⟨v,b,S,e1,e2,e3,e4,e5,fun G' hE' hK' hS=>⟨by subst e6;simp only[V];exact⟨[],rfl,by simp only[VL]⟩,?_⟩⟩
  intro p hp u' hu'
  have hp':=List.mem_singleton.1 hp
  subst hp'
  have:=e7 G' hS _ (VL.later hB' hE' hK' (VL.rev l ls hl hlen)) u' hu'
  rw[hlen]at this
  exact this
 ·intro i
  exact fM (na:=(nbG G0)) xX mixed (zWJ j i l x vs o) (yD.cons (rS (zLY vs)) (yD.cons (rS (dT _)) yD.nil)) (by decide)
theorem zUW{l m r:List L3}(h:yN 40 l m=some r)(hm:m.length≠0):Ob.ok Tryz.prog (.app 24 24 (zK c3 l) (zK c3 m) (zK c3 r) l.length m.length r.length 3 false):=rR zFl Tryz.underlying24 oZ rfl rfl rfl (by decide) rfl (by decide) h hm
theorem m3{p0 x:Tm}{l:List Tm}{r:Tm×List Tm}(h:qU p0 x l=some r)(hx:¬((x.k==5)=true∧x.sub.length=2)):r=(x,l.reverse):=by
 obtain⟨k,n,sub⟩:=x
 unfold qU at h
 split at h
 ·rename_i k' n' a b e
  cases e
  split at h
  ·rename_i hk
   exact(hx ⟨hk,rfl⟩).elim
  ·cases h;rfl
 ·cases h;rfl
theorem zFA{p0:Tm}{q0:Option Addr×Nat×Nat}{G0:Gh}(hB:kE (nbG G0) G0)(h0:VL G0 G0.w0 (tmL p0) (sv p0 q0)):∀(N:Nat) (x:Tm) (l:List Tm) (r:Tm×List Tm) (hN:SizeOf.sizeOf x≤N) (h:qU p0 x l=some r) (h8:l.length≤8192) (q:Option Addr×Nat×Nat) (ls:List L3)
  (hx:VL G0 G0.w0 (tmL x) (sv x q)) (hl:VL G0 G0.w0 (zK zG l) (sW ls)) (hlen:ls.length=l.length),∃res,zSA G0 res r∧∀j:Nat->Value,dL (nbG G0) (kAP Tryz.f123) (s4P j ls []) (sSP (lt3 p0 q0) (lt3 x q)) (fQ (nbG G0) (nQ (nbG G0) Tryz.f123 res [] 0) [.blk 0,.seq (kCP Tryz.f123)]):=by
 intro N
 induction N with
 |zero=>
  intro x l r hN
  obtain⟨k,n,sub⟩:=x
  simp at hN
 |succ N spine_ih=>
 intro x l r hN h h8 q ls hx hl hlen
 obtain⟨vs,o,v1,v2,v3⟩:=zPk hB hx
 have hopen:∀ {res:AV} (j:Nat->Value),dL (nbG G0) (kAP Tryz.f123) (s4P j ls []) (sSP (lt3 p0 q0) (lx3 x vs o)) (fQ (nbG G0) (nQ (nbG G0) Tryz.f123 res [] 0) [.blk 0,.seq (kCP Tryz.f123)])->dL (nbG G0) (kAP Tryz.f123) (s4P j ls []) (sSP (lt3 p0 q0) (lt3 x q)) (fQ (nbG G0) (nQ (nbG G0) Tryz.f123 res [] 0) [.blk 0,.seq (kCP Tryz.f123)]):=by
  intro res j hd
  refine Dl.openB (b:=2) (cs:=(lt3 x q)) (cs':=(lx3 x vs o)) rfl (fun G1 W hB' G w hE hK us hus=>?_) hd
  have e:=hB'.κ
  subst e
  have hu:us=sv x q:=VL.litEq (sv x q) us hus
  subst hu
  exact VL.later hB' hE hK v2
 by_cases hk:(x.k==5)=true
 ·by_cases h2:x.sub.length=2
  ·obtain⟨k,n,sub⟩:=x
   match sub,h2 with
   | [a,b],_=>
   rw[qU]at h
   replace h:=ifT hk h
   rcases S3 (decide ((l.length:Int)≥8192))with h3|h3
   ·replace h:=ifT h3 h
    cases h
    exact⟨_,zJp hB h0,fun j=>hopen j (Dl.toFin (na:=(nbG G0)) xX mixed 3000 _ _ _ _ _ (spC j p0 q0 ls (.mk k n [a,b]) vs o) (yD.cons (lC hk) (yD.cons (lC rfl) (yD.cons (lC (by rw[hlen];exact h3)) (yD.cons (rS trivial) yD.nil)))) (by decide))⟩
   ·replace h:=ifF h3 h
    obtain⟨l2,hg,h⟩:=zC h
    obtain⟨hg1,rfl⟩:=qP hg
    have w1:VL G0 G0.w0 (zG a++(zG b++[])) vs:=v1
    obtain⟨ua,u2,rfl,wa,w2⟩:=VL.split _ _ _ w1
    obtain⟨ub,u3,rfl,wb,w3⟩:=VL.split _ _ _ w2
    have e3:u3=[]:=by
     have:=VL.length _ _ w3
     exact List.length_eq_zero_iff.1 this
    subst e3
    rw[xN]at wa wb
    obtain⟨qa,rfl⟩:=zLX wa
    obtain⟨qb,rfl⟩:=zLX wb
    have h3':List.length l<8192:=by
     have:=of_decide_eq_false h3
     omega
    have hl2:VL G0 G0.w0 (zK zG (l++[b])) (sW (ls++[sv3 b qb])):=by
     simp only[zK,sW,List.flatMap_append,List.flatMap_cons,List.flatMap_nil,List.append_nil]
     refine VL.append _ _ _ _ hl ?_
     rw[xN];exact wb
    have hga:yN 40 ls [sv3 b qb]=some (ls++[sv3 b qb]):=by
     unfold yN
     rw[if_pos]
     simp only[List.length_cons,List.length_nil]at hg1 ⊢
     rw[hlen];exact hg1
    obtain⟨res,hgood,hdl⟩:=spine_ih a (l++[b]) r (by simp at hN;omega) h (by simp;omega) qa (ls++[sv3 b qb]) wa hl2 (by simp[hlen])
    refine⟨res,hgood,fun j=>hopen j (Dl.toHead (na:=(nbG G0)) xX mixed 3000 _ _ _ _ _ (fun i=>spD i j k n a b qa qb _ _ _ ls (ls++[sv3 b qb]) o) ?_ fun i=>hdl i)⟩
    exact yD.cons (lC hk) (yD.cons (lC rfl) (yD.cons (lC (by rw[hlen];exact h3)) (yD.cons (zUW (m:=[sv3 b qb]) hga (by simp)) (yD.cons (rS trivial) (yD.cons (rS (vX zFl.data _)) yD.nil)))))
  ·have hr:=m3 h (fun e=>h2 e.2)
   subst hr
   refine⟨.tup [.agg [ai x.k,ai x.n,.sl (vs.map .val) x.sub.length .no],.sl (zK zG l.reverse) l.length .no],m1 hB v1,fun j=>hopen j (Dl.step ?_)⟩
   have hx1:=zWL (G0:=G0) (p0:=p0) (q0:=q0) j v3 hl hlen h8
   refine mA (Q:=_) xX mixed 3000 (.run (kAP Tryz.f123)) [] _ _ _ _ _ _ _ _ (zWG j ls x _ vs o) (yD.cons (lC hk) (yD.cons (lC (by simp;omega)) yD.nil)) ?_
   simp only[KQ,zFx,vC,D3,if_true]
   exact hx1
 ·have hr:=m3 h (fun e=>hk e.1)
  subst hr
  ·refine⟨.tup [.agg [ai x.k,ai x.n,.sl (vs.map .val) x.sub.length .no],.sl (zK zG l.reverse) l.length .no],m1 hB v1,fun j=>hopen j (Dl.step ?_)⟩
   have hx1:=zWK (G0:=G0) (p0:=p0) (q0:=q0) j v3 hl hlen h8
   refine mA (Q:=_) xX mixed 3000 (.run (kAP Tryz.f123)) [] _ _ _ _ _ _ _ _ (zWC j ls x _ vs o) (yD.cons (lC (by simpa using hk)) yD.nil) ?_
   simp only[KQ,zFx,vC,D3,if_true]
   exact hx1
theorem zUX{p0:Tm}{r:Tm×List Tm}(h:zUV p0=some r):CT Tryz.prog 123 [] [tmA p0] (.tup [tmA r.1,.sl (zK zG r.2) r.2.length .no]) [] 0:=by
 refine⟨?_,⟨⟨trivial,trivial,⟨trivial,dT _⟩,trivial⟩,trivial⟩,(fun _ h=>nomatch h),⟨⟨trivial,trivial,dT _,trivial⟩,dT _,trivial⟩,(fun _ h=>nomatch h)⟩
 intro G0 W cargs hB hR hv
 cases hc:cargs.toList with
 |nil=>rw[hc]at hv;simp only[VL]at hv
 |cons u us=>
  rw[hc]at hv
  simp only[VL]at hv
  obtain⟨hu,hus⟩:=hv
  have hus':us=[]:=by
   have:=VL.length _ _ hus
   exact List.length_eq_zero_iff.1 this
  subst hus'
  simp only[tmA,V]at hu
  obtain⟨ws,rfl,hws⟩:=hu
  obtain⟨q0,rfl⟩:=zLX hws
  have hBK:kE (nbG G0) G0:=⟨hB.ρ,hB.τ,hB.LF,rfl⟩
  have h0:=VL.back hB hR hws
  obtain⟨res,hgood,hdl⟩:=zFA hBK h0 _ p0 [] r (Nat.le_refl _) h (by simp) q0 [] h0 (by simp[zK,sW,VL]) rfl
  have hv2:VL G0 W [.agg (lt3 p0 q0)] cargs.toList:=by
   rw[hc]
   simp only[VL,V,and_true]
   exact⟨sv p0 q0,rfl,VL.lits (sv p0 q0)⟩
  have hb:=zOT (na:=(nbG G0)) (res:=res) (H1:=[]) (nst:=0) rfl Tryz.func123 (by kernel_rfl) (Q8 (na:=(nbG G0)) (m:=.run (bod Tryz.f123)) (fs:=[]) xX mixed (fun i=>spE i p0.k p0.n q0) (yD.cons (rS trivial) (yD.cons (rS trivial) yD.nil)) fun i=>hdl i) hBK hR hv2
  refine hb.mono ?_
  rintro e W' ⟨u,G',s',rfl,hE,hR',hu,h1,h2⟩
  exact⟨u,G',s',rfl,hE,hR',hgood W G' W' hE hR'.below u hu,h1,h2⟩
def L4(_qq:Nat)(p0:Tm):Option (Tm×List Tm):=zUV p0
theorem zDx{qq:Nat}{p0:Tm}{r:Tm×List Tm}(h:L4 qq p0=some r):CT Tryz.prog 123 [] [tmA p0] (.tup [tmA r.1,.sl (zK zG r.2) r.2.length .no]) [] 0:=zUX h
def zAV(qq:Nat)(p0 p1:Int)(p2:List Tm):Option Tm:=
 some (Tm.mk p0 p1 p2)
theorem zFB{qq p0 p1 p2 r}(h:zAV qq p0 p1 p2=some r):Ct 143 [] [ai p0,ai p1,slv zG p2 .no] (tmA r) [] 0:=⟨by
 unfold zAV at h
 cases h
 exact tF ⟨Tryz.func143,rfl⟩ 1 [] (oD (dT p2) o0),⟨tv,tv,⟨tv,dT _⟩,tv⟩,zB,⟨tv,tv,dT _,tv⟩,zB⟩
def S7(qq:Nat)(p0 p1:Tm):Option Tm:=
 zAV qq 5 0 [p0,p1]>>=fun r1=>
 some r1
theorem w5{qq p0 p1 r}(h:S7 qq p0 p1=some r):Ct 167 [] [tmA p0,tmA p1] (tmA r) [] 0:=⟨by
 unfold S7 at h
 obtain⟨r1,h2,h⟩:=zC h
 obtain rfl:=sj h
 exact tF ⟨Tryz.func167,rfl⟩ 1 [] (oD (dT r1.sub)<|oC 0 [] (zFB h2)<|oS 2 (xI xN [p0,p1]) o0),⟨⟨tv,tv,⟨tv,dT _⟩,tv⟩,⟨tv,tv,⟨tv,dT _⟩,tv⟩,tv⟩,zB,⟨tv,tv,dT _,tv⟩,zB⟩
def kP:Nat->List Tm->Int->Int->Int->List Tm->Option Tm
 |0,_,_,_,_,_=>none
 |qq+1,p1,v9,yA,wO,wD=>
 if decide (v9<(p1.length:Int))then
 zS p1 v9>>=fun x2=>
 S7 qq (Tm.mk yA wO wD) x2>>=fun r4=>
 kP qq p1 (w64 (v9+1)) r4.k r4.n r4.sub
 else
 some (Tm.mk yA wO wD)
def gC(qq:Nat)(p0:Tm)(p1:List Tm):Option Tm:=
 kP qq p1 0 p0.k p0.n p0.sub
theorem zPj:∀qq:Nat,(∀ {p1 v9 yA wO wD r},kP qq p1 v9 yA wO wD=some r->(∀j,dL 0 (pt 949 Tryz.f126) (sp j 18 0 [(2,.mp 0 0),(4,.mp 1 0),(7,slv zG p1 .no),(8,ai (p1.length:Int)),(9,ai v9)]) (⟨[(0,.cells [ai yA,ai wO,slv zG wD .no]),(1,.cells [ai 0,ai 0,slv zG ([]:List Tm) .nl])],2,[],0,[]⟩) (fQ 0 (nQ 0 Tryz.f126 (tmA r) [] 0) [.blk 0,.seq (pt 15 Tryz.f126)]))):=by
 intro qq
 induction qq with
 |zero=>
  exact fun h=>nn h
 |succ qq ih=>
  intro p1 v9 yA wO wD r h
  rw[kP]at h
  obtain⟨h1,h⟩|⟨h1,h⟩:=spl h
  obtain⟨x2,h3,h⟩:=zC h
  obtain⟨r4,h5,h⟩:=zC h
  exact fun j=>lH 2 [] [0,1] [] [2,4,7,8,9] (oD (dT p1)<|oD (dT ([]:List Tm))<|oD (dT r4.sub)<|oC 4 [] (w5 h5)<|oA 0 (xB (o:=.no) h3)<|oB 0 h1 o0) (ih h)
  cases h
  exact fun j=>lF 2 [] (oD (dT wD)<|oB 0 h1 o0)
theorem L5{qq p0 p1 r}(h:gC qq p0 p1=some r):Ct 126 [] [tmA p0,slv zG p1 .no] (tmA r) [] 0:=⟨by
 unfold gC at h
 exact tH ⟨Tryz.func126,rfl⟩ 1 [] [0,1] [] [2,4,7,8,9] (oD (dT p1)<|oD (dT ([]:List Tm))<|oD (dT p0.sub) o0) (zPj _ h),⟨⟨tv,tv,⟨tv,dT _⟩,tv⟩,⟨tv,dT _⟩,tv⟩,zB,⟨tv,tv,dT _,tv⟩,zB⟩
mutual
def e77:Nat->Tm->Option Tm
 |0,_=>none
 |qq+1,p0=>
 cB qq p0 0 []
def cB:Nat->Tm->Int->List Tm->Option Tm
 |0,_,_,_=>none
 |qq+1,p0,v14,uF=>
 if decide (v14<(p0.sub.length:Int))then
 zS p0.sub v14>>=fun x2=>
 e77 qq x2>>=fun r4=>
 yN 40 uF [r4]>>=fun l6=>
 cB qq p0 (w64 (v14+1)) l6
 else
 some (Tm.mk p0.k p0.n uF)
end
abbrev K77 (p0 r:Tm) (C:Cf):Prop:=C 77 [] [tmA p0] (tmA r) [] 0
theorem zJo:∀qq:Nat,(∀ {p0 r},e77 qq p0=some r->K77 p0 r Ct)∧(∀ {p0 v14 uF r},cB qq p0 v14 uF=some r->(∀j,dL 0 (pt 4021 Tryz.f77) (sp j 27 0 [(2,.mp 0 0),(3,.mp 1 0),(12,slv zG p0.sub .no),(13,ai (p0.sub.length:Int)),(14,ai v14)]) (⟨[(0,.cells [ai 0,ai 0,slv zG ([]:List Tm) .nl]),(1,.cells [ai p0.k,ai p0.n,slv zG uF (.st 0 3)])],2,[0],1,[]⟩) (fQ 0 (nQ 0 Tryz.f77 (tmA r) [] 0) [.blk 0,.seq (pt 63 Tryz.f77)]))):=by
 intro qq
 induction qq with
 |zero=>
  exact⟨fun h=>nn h,fun h=>nn h⟩
 |succ qq ih=>
  obtain⟨zWM,zHk⟩:=ih
  refine⟨?_,?_⟩
  intro p0 r h
  rw[e77]at h
  exact⟨tH ⟨Tryz.func77,rfl⟩ 5 [(some 2,2,3)] [1,2] [0] [2,3,12,13,14] (oD (dT p0.sub)<|oD (dT ([]:List Tm))<|oD (dT ([]:List Tm)) o0) (zHk h),⟨⟨tv,tv,⟨tv,dT _⟩,tv⟩,tv⟩,zB,⟨tv,tv,dT _,tv⟩,zB⟩
  intro p0 v14 uF r h
  rw[cB]at h
  obtain⟨h1,h⟩|⟨h1,h⟩:=spl h
  obtain⟨x2,h3,h⟩:=zC h
  obtain⟨r4,h5,h⟩:=zC h
  obtain⟨l6,h7,h⟩:=zC h
  exact fun j=>lH 2 [] [0,1] [1] [2,3,12,13,14] (oD (dT p0.sub)<|oD (dT l6)<|oD (dT ([]:List Tm))<|oP 0 (vD h7 (by simp))<|oS 0 (xI xN [r4])<|oC 1 [] (zWM h5)<|oCl 2<|oA 0 (xB (o:=.no) h3)<|oB 0 h1 o0) (zHk h)
  cases h
  exact fun j=>lF 2 [] (oD (dT uF)<|oB 0 h1 o0)
theorem c77{qq p0 r}(h:e77 qq p0=some r):K77 p0 r Ct:=(zJo _).1 h
def e53(qq:Nat)(p0:Tm):Option Tm:=
 e52 qq p0>>=fun r1=>
 if r1 then
 e77 qq p0>>=fun r4=>
 some r4
 else
 some (Tm.mk 0 0 [])
theorem q53:Qf 53 Tryz.f53:=⟨Tryz.func53,rfl⟩
theorem c53{qq p0 r}(h:e53 qq p0=some r):Ct 53 [] [tmA p0] (tmA r) [] 0:=⟨by
 unfold e53 at h
 obtain⟨r1,h2,h⟩:=zC h
 obtain⟨h3,h⟩|⟨h3,h⟩:=spl h
 obtain⟨r4,h5,h⟩:=zC h
 obtain rfl:=sj h
 exact tF q53 1 [] (oD (dT r4.sub)<|oC 2 [] (c77 h5)<|oK 1 [] h3 (c52 h2) o0)
 obtain rfl:=sj h
 exact tF q53 2 [] (oD (dT ([]:List Tm))<|oK 1 [] h3 (c52 h2) o0),⟨⟨tv,tv,⟨tv,dT _⟩,tv⟩,tv⟩,zB,⟨tv,tv,dT _,tv⟩,zB⟩
theorem sC(t:Tm):Tm.mk t.k t.n t.sub=t:=by cases t;rfl
theorem S8{α:Type}{l:List α}{v:Nat}{x:α}{r:List α}(h:l.drop v=x::r):l.take (v+1)=l.take v++[x]:=by
 have:l[v]? = some x:=by
  have:=congrArg (fun z=>z[0]?) h
  simpa using this
 rw[List.take_add_one,this];rfl
mutual
theorem m4:∀(t:Tm),xA t=true->Evt (fun q=>e77 q t) t
 | .mk k n l,hg=>by
  refine Evt.succ ?_
  simp only[e77]
  have hh:=wV hg
  exact S9 l (.mk k n l) 0 [] rfl hh.2 (by have:=(mS hh.1).2.2.2.2;exact this) rfl
theorem S9:∀(l:List Tm) (p:Tm) (v:Nat) (acc:List Tm),p.sub.drop v=l->wK l=true->p.sub.length≤2->acc=p.sub.take v->Evt (fun q=>cB q p (v:Int) acc) p
 | [],p,v,acc,hd,hg,hl,ha=>by
  refine Evt.succ ?_
  simp only[cB]
  refine Evt.ifF (zZ hd) (Evt.ret.eq ?_)
  have:p.sub.length≤v:=List.drop_eq_nil_iff.1 hd
  rw[ha,List.take_of_length_le this,sC]
 |t::l,p,v,acc,hd,hg,hl,ha=>by
  have hlt:=yC hd
  have hc:=xW hg
  refine Evt.succ ?_
  simp only[cB]
  refine Evt.ifT (zY hd) (Evt.pure (zX hd) ((m4 t hc.1).bind (Evt.pure (yG (by rw[ha];simp<;>omega)) ?_)))
  rw[zW v (by omega)]
  exact S9 l p (v+1) _ (zU hd) hc.2 hl (by rw[ha,S8 hd])
end
def nE(t:Tm):Tm:=if zL t=true then t else .mk 0 0 []
theorem sR(t:Tm)(ho:t.Ok):Evt (fun q=>e53 q t) (nE t):=by
 simp only[e53]
 refine(yO t ho).bind ?_
 unfold nE
 by_cases h:zL t=true
 ·rw[if_pos h];exact Evt.ifT h ((m4 t (zQ h).2.2).bind Evt.ret)
 ·rw[if_neg h];exact Evt.ifF (by simpa using h) Evt.ret
def hdT:Tm->Tm
 | .mk k n [a,b]=>if k=5 then hdT a else .mk k n [a,b]
 |x=>x
def arT:Tm->List Tm
 | .mk k _ [a,b]=>if k=5 then arT a++[b]else []
 |_=>[]
theorem zPi{l:List Tm}(h:l.length=2):∃a b,l=[a,b]:=by
 rcases l with _|⟨a,_|⟨b,_|⟨c,l⟩⟩⟩<;>simp at h
 exact⟨a,b,rfl⟩
theorem aE(n:Int)(a b:Tm):hdT (.mk 5 n [a,b])=hdT a:=by rw[hdT];simp
theorem fS(n:Int)(a b:Tm):arT (.mk 5 n [a,b])=arT a++[b]:=by rw[arT];simp
theorem aF{t:Tm}(h:t.k≠5):hdT t=t:=by
 unfold hdT
 split
 ·exact if_neg h
 ·rfl
theorem fT{t:Tm}(h:t.k≠5):arT t=[]:=by
 unfold arT
 split
 ·exact if_neg h
 ·rfl
theorem fU{P:Tm->Prop}(h0:∀t,xA t=true->t.k≠5->P t)(h1:∀n a b,xA (.mk 5 n [a,b])=true->xA a=true->xA b=true->P a->P (.mk 5 n [a,b])):∀t:Tm,xA t=true->P t:=by
 intro t
 induction hn:t.nodes using Nat.strongRecOn generalizing t with
 |ind m ih=>
  intro hg
  by_cases h:t.k=5
  ·obtain⟨k,n,l⟩:=t
   have hh:=wV hg
   have hs:=uT hh.1
   simp only[Tm.k]at h
   subst h
   obtain⟨a,b,rfl⟩:=zPi (hs.2.2.2.2.2.1 (.inr (.inr rfl))).1
   have hc:=xW hh.2
   have hc2:=xW hc.2
   refine h1 n a b hg hc.1 hc2.1 (ih a.nodes ?_ a rfl hc.1)
   rw[Tm.nodes,yQ]at hn;omega
  ·exact h0 t hg h
theorem zLZ(p0:Tm):∀t:Tm,xA t=true->∀l:List Tm,l.length+t.nodes≤8192->qU p0 t l=some (hdT t,arT t++l.reverse):=by
 refine fU ?_ ?_
 ·intro t hg hk l hl
  rw[aF hk,fT hk]
  obtain⟨k,n,ls⟩:=t
  replace hk:¬k=5:=hk
  rcases ls with _|⟨a,_|⟨b,_|⟨c,ls⟩⟩⟩<;>unfold qU<;>simp[hk]
 ·intro n a b hg ha hb ih l hl
  rw[Tm.nodes,yQ,yQ,yQ]at hl
  rw[aE,fS]
  unfold qU
  rw[zPy (show ((5:Int)==5)=true from rfl),zLa (by simp<;>omega),yG (by simp<;>omega)]
  show qU p0 a (l++[b])=_
  rw[ih (l++[b]) (by simp<;>omega)]
  simp
theorem nF(t:Tm)(hs:zL t=true):Evt (fun q=>L4 q t) (hdT t,arT t):=by
 refine Evt.mk fun q=>?_
 have h:=zQ hs
 show qU t t []=_
 rw[zLZ t t h.2.2 [] (by simpa using h.1)];simp
theorem M9:∀t:Tm,xA t=true->xA (hdT t)=true∧(hdT t).k≠5∧(hdT t).nodes≤t.nodes∧(hdT t).high≤t.high∧∀x∈arT t,xA x=true∧x.nodes<t.nodes∧x.high<t.high:=by
 refine fU ?_ ?_
 ·intro t hg hk
  rw[aF hk,fT hk]
  exact⟨hg,hk,Nat.le_refl _,Nat.le_refl _,fun x hx=>by cases hx⟩
 ·intro n a b hg ha hb ih
  rw[aE,fS]
  simp only[Tm.nodes,yQ,Tm.high,wY]
  refine⟨ih.1,ih.2.1,by omega,by omega,fun x hx=>?_⟩
  rcases List.mem_append.1 hx with hx|hx
  ·have:=ih.2.2.2.2 x hx;exact⟨this.1,by omega,by omega⟩
  ·simp at hx;subst hx;exact⟨hb,by omega,by omega⟩
theorem kQ{t:Tm}(h1:t.nodes≤8192)(h2:t.high≤128)(h3:xA t=true):zL t=true:=by
 unfold zL;simp[h1,h2,h3]
theorem yS{t x:Tm}(h:zL t=true)(hx:x∈arT t):zL x=true:=by
 have hs:=zQ h
 have:=(M9 t hs.2.2).2.2.2.2 x hx
 exact kQ (by omega) (by omega) this.1
theorem uU{t:Tm}(h:zL t=true):zL (hdT t)=true:=by
 have hs:=zQ h
 have:=M9 t hs.2.2
 exact kQ (by omega) (by omega) this.1
theorem uV:∀t:Tm,xA t=true->(arT t).length<t.nodes:=by
 refine fU ?_ ?_
 ·intro t hg hk
  rw[fT hk];have:=rJ t;simp;omega
 ·intro n a b hg ha hb ih
  rw[fS,Tm.nodes,yQ,yQ,yQ];simp;omega
def apT(f:Tm):List Tm->Tm
 | []=>f
 |a::l=>apT (.mk 5 0 [f,a]) l
theorem E4(f a:Tm):Evt (fun q=>S7 q f a) (.mk 5 0 [f,a]):=Evt.mk fun _=>rfl
theorem m5:∀(l p:List Tm) (v:Nat) (f:Tm),p.drop v=l->p.length<9223372036854775808->Evt (fun q=>kP q p (v:Int) f.k f.n f.sub) (apT f l)
 | [],p,v,f,hd,hl=>by
  refine Evt.succ ?_
  simp only[kP]
  exact Evt.ifF (zZ hd) (Evt.ret.eq (by rw[sC,apT]))
 |a::l,p,v,f,hd,hl=>by
  have hlt:=yC hd
  refine Evt.succ ?_
  simp only[kP]
  rw[sC]
  refine Evt.ifT (zY hd) (Evt.pure (zX hd) ((E4 f a).bind ?_))
  rw[zW v (by omega),apT]
  exact m5 l p (v+1) (.mk 5 0 [f,a]) (zU hd) hl
theorem sY(f:Tm)(l:List Tm)(h:l.length<9223372036854775808):Evt (fun q=>gC q f l) (apT f l):=by
 simp only[gC]
 exact m5 l l 0 f rfl h
theorem pN:∀(l:List Tm) (f:Tm),f.Ok->(∀x∈l,x.Ok)->(apT f l).Ok
 | [],f,hf,_=>by rw[apT];exact hf
 |a::l,f,hf,hl=>by
  rw[apT]
  refine pN l _ ?_ fun x hx=>hl x (by simp[hx])
  rw[Tm.Ok,OkL,OkL,OkL]
  exact⟨by simp,hf,hl a (by simp),trivial⟩
def w6(qq:Nat)(p0:Int):Option Tm:=
 zAV qq 2 p0 []>>=fun r1=>
 some r1
theorem zFC{qq p0 r}(h:w6 qq p0=some r):Ct 110 [] [ai p0] (tmA r) [] 0:=⟨by
 unfold w6 at h
 obtain⟨r1,h2,h⟩:=zC h
 obtain rfl:=sj h
 exact tF ⟨Tryz.func110,rfl⟩ 1 [] (oD (dT r1.sub)<|oC 0 [] (zFB h2) o0),⟨tv,tv⟩,zB,⟨tv,tv,dT _,tv⟩,zB⟩
def zJn(qq:Nat)(p0:Int):Option Bool:=
 if decide (p0≥0)then
 some (decide (p0≤1048576))
 else
 some false
theorem zUY:Qf 179 Tryz.f179:=⟨Tryz.func179,rfl⟩
theorem zPh{qq p0 r}(h:zJn qq p0=some r):Ct 179 [] [ai p0] (ab r) [] 0:=⟨by
 unfold zJn at h
 obtain⟨h1,h⟩|⟨h1,h⟩:=spl h
 cases h
 exact tF zUY 1 [] (oB 0 h1 o0)
 cases h
 exact tF zUY 0 [] (oB 0 h1 o0),⟨tv,tv⟩,zB,tv,zB⟩
def aG(qq:Nat)(p0 q1 q2:Int):Option Int:=
 if decide (p0<q1)then
 some p0
 else
 some (w64 (p0+q2))
theorem zDw:Qf 181 Tryz.f181:=⟨Tryz.func181,rfl⟩
theorem zMz{qq p0 q1 q2 r}(h:aG qq p0 q1 q2=some r):Ct 181 [.cells [ai q1],.cells [ai q2]] [ai p0,.mp 0 0,.mp 1 0] (ai r) [.cells [ai q1],.cells [ai q2]] 0:=⟨by
 unfold aG at h
 obtain⟨h1,h⟩|⟨h1,h⟩:=spl h
 obtain rfl:=sj h
 exact tF zDw 0 [0,1] (oB 1 h1 o0)
 obtain rfl:=sj h
 exact tF zDw 2 [0,1] (oB 1 h1 o0),⟨tv,(lz rfl),(lz rfl),tv⟩,(zA ⟨tv,tv⟩ (zA ⟨tv,tv⟩ zB)),tv,(zA ⟨tv,tv⟩ (zA ⟨tv,tv⟩ zB))⟩
def zAW(qq:Nat)(p0:Int):Option Tm:=
 zAV qq 1 p0 []>>=fun r1=>
 some r1
theorem zJm{qq p0 r}(h:zAW qq p0=some r):Ct 183 [] [ai p0] (tmA r) [] 0:=⟨by
 unfold zAW at h
 obtain⟨r1,h2,h⟩:=zC h
 obtain rfl:=sj h
 exact tF ⟨Tryz.func183,rfl⟩ 1 [] (oD (dT r1.sub)<|oC 0 [] (zFB h2) o0),⟨tv,tv⟩,zB,⟨tv,tv,dT _,tv⟩,zB⟩
mutual
def rU:Nat->Tm->Int->Int->Int->Option Tm
 |0,_,_,_,_=>none
 |qq+1,p0,p1,q2,q3=>
 if p0.k==1 then
 if decide (p0.n≥p1)then
 aG qq (w64 (p0.n-p1)) q2 q3>>=fun r3=>
 zAW qq (w64 (r3+p1))>>=fun r5=>
 some r5
 else
 zAW qq p0.n>>=fun r7=>
 some r7
 else
 vT qq p0 p1 q2 q3 0 []
def vT:Nat->Tm->Int->Int->Int->Int->List Tm->Option Tm
 |0,_,_,_,_,_,_=>none
 |qq+1,p0,p1,q2,q3,v38,xQ=>
 if decide (v38<(p0.sub.length:Int))then
 zS p0.sub v38>>=fun x10=>
 if v38==1 then
 if p0.k != 5 then
 rU qq x10 (w64 (p1+1)) q2 q3>>=fun r14=>
 yN 40 xQ [r14]>>=fun l16=>
 vT qq p0 p1 q2 q3 (w64 (v38+1)) l16
 else
 rU qq x10 p1 q2 q3>>=fun r18=>
 yN 40 xQ [r18]>>=fun l20=>
 vT qq p0 p1 q2 q3 (w64 (v38+1)) l20
 else
 rU qq x10 p1 q2 q3>>=fun r22=>
 yN 40 xQ [r22]>>=fun l24=>
 vT qq p0 p1 q2 q3 (w64 (v38+1)) l24
 else
 some (Tm.mk p0.k p0.n xQ)
end
abbrev aH (p0:Tm) (p1 q2 q3:Int) (r:Tm) (C:Cf):Prop:=C 180 [.cells [ai q2],.cells [ai q3]] [tmA p0,ai p1,.clo 181 [] [.mp 0 0,.mp 1 0]] (tmA r) [.cells [ai q2],.cells [ai q3]] 0
theorem T3:Qf 180 Tryz.f180:=⟨Tryz.func180,rfl⟩
theorem T4{p0 p1 q2 q3 r}(h:aH p0 p1 q2 q3 r Ci):aH p0 p1 q2 q3 r Ct:=⟨h,⟨⟨tv,tv,⟨tv,dT _⟩,tv⟩,tv,⟨tv,⟨(lz rfl),(lz rfl),tv⟩⟩,tv⟩,(zA ⟨tv,tv⟩ (zA ⟨tv,tv⟩ zB)),⟨tv,tv,dT _,tv⟩,(zA ⟨tv,tv⟩ (zA ⟨tv,tv⟩ zB))⟩
theorem eH:∀qq:Nat,(∀ {p0 p1 q2 q3 r},rU qq p0 p1 q2 q3=some r->aH p0 p1 q2 q3 r Ct)∧(∀ {p0 p1 q2 q3 v38 xQ r},vT qq p0 p1 q2 q3 v38 xQ=some r->(∀j,dL 2 (pt 16309 Tryz.f180) (sp j 64 0 [(1,ai p1),(2,.clo 181 [] [.mp 0 0,.mp 1 0]),(3,.mp 2 0),(6,.mp 3 0),(7,.mp 4 0),(36,slv zG p0.sub .no),(37,ai (p0.sub.length:Int)),(38,ai v38)]) (⟨[(0,.cells [ai q2]),(1,.cells [ai q3]),(2,.cells [ai p0.k,ai p0.n,slv zG p0.sub .no]),(3,.cells [ai 0,ai 0,slv zG ([]:List Tm) .nl]),(4,.cells [ai p0.k,ai p0.n,slv zG xQ (.st 0 3)])],5,[0],1,[]⟩) (fQ 2 (nQ 2 Tryz.f180 (tmA r) [.cells [ai q2],.cells [ai q3]] 0) [.blk 0,.seq (pt 255 Tryz.f180)]))):=by
 intro qq
 induction qq with
 |zero=>
  exact⟨fun h=>nn h,fun h=>nn h⟩
 |succ qq ih=>
  obtain⟨E5,pV⟩:=ih
  refine⟨?_,?_⟩
  intro p0 p1 q2 q3 r h
  rw[rU]at h
  obtain⟨h1,h⟩|⟨h1,h⟩:=spl h
  have k:=oB 1 h1 o0
  obtain⟨h2,h⟩|⟨h2,h⟩:=spl h
  obtain⟨r3,h4,h⟩:=zC h
  obtain⟨r5,h6,h⟩:=zC h
  obtain rfl:=sj h
  exact T4 (tF T3 1 [0,1] (oD (dT r5.sub)<|oC 1 [] (zJm h6)<|oC 2 [0,1] (zMz h4)<|oB 1 h2 k))
  obtain⟨r7,h8,h⟩:=zC h
  obtain rfl:=sj h
  exact T4 (tF T3 1 [0,1] (oD (dT r7.sub)<|oC 1 [] (zJm h8)<|oB 1 h2 k))
  exact T4 (tH T3 5 [(some 4,2,3)] [0,1,2,3,4] [0] [1,2,3,6,7,36,37,38] (oD (dT p0.sub)<|oD (dT ([]:List Tm))<|oD (dT ([]:List Tm))<|oD (dT p0.sub)<|oB 1 h1 o0) (pV h))
  intro p0 p1 q2 q3 v38 xQ r h
  rw[vT]at h
  have z {os ob} (k:Oz os ob):=oD (dT ([]:List Tm))<|oD (dT p0.sub)<|k
  obtain⟨h9,h⟩|⟨h9,h⟩:=spl h
  obtain⟨x10,h11,h⟩:=zC h
  have k:=oA 0 (xB (o:=.no) h11)<|oB 0 h9 o0
  obtain⟨h12,h⟩|⟨h12,h⟩:=spl h
  have k:=oB 2 h12 k
  obtain⟨h13,h⟩|⟨h13,h⟩:=spl h
  obtain⟨r14,h15,h⟩:=zC h
  obtain⟨l16,h17,h⟩:=zC h
  exact fun j=>lH 2 [] [0,1,2,3,4] [1] [1,2,3,6,7,36,37,38] (oD (dT p0.sub)<|oD (dT l16)<|z<|oP 0 (vD h17 (by simp))<|oS 0 (xI xN [r14])<|oC 1 [0,1] (E5 h15)<|oCl 1<|oB 1 h13 k) (pV h)
  obtain⟨r18,h19,h⟩:=zC h
  obtain⟨l20,h21,h⟩:=zC h
  exact fun j=>lH 2 [] [0,1,2,3,4] [1] [1,2,3,6,7,36,37,38] (oD (dT p0.sub)<|oD (dT l20)<|z<|oP 0 (vD h21 (by simp))<|oS 0 (xI xN [r18])<|oC 1 [0,1] (E5 h19)<|oCl 0<|oB 1 h13 k) (pV h)
  obtain⟨r22,h23,h⟩:=zC h
  obtain⟨l24,h25,h⟩:=zC h
  exact fun j=>lH 2 [] [0,1,2,3,4] [1] [1,2,3,6,7,36,37,38] (oD (dT p0.sub)<|oD (dT l24)<|z<|oP 0 (vD h25 (by simp))<|oS 0 (xI xN [r22])<|oC 1 [0,1] (E5 h23)<|oCl 0<|oB 2 h12 k) (pV h)
  obtain rfl:=sj h
  exact fun j=>lF 2 [0,1] (oD (dT xQ)<|oB 0 h9 o0)
theorem zMy{qq p0 p1 q2 q3 r}(h:rU qq p0 p1 q2 q3=some r):aH p0 p1 q2 q3 r Ct:=(eH _).1 h
def zJl(qq:Nat)(p0:Tm)(p1 p2:Int):Option (Tm×Int):=
 e52 qq p0>>=fun r1=>
 if r1 then
 zJn qq p1>>=fun r4=>
 if r4 then
 zJn qq p2>>=fun r7=>
 if r7 then
 rU qq p0 0 p2 p1>>=fun r10=>
 e52 qq r10>>=fun r12=>
 if r12 then
 some (r10,0)
 else
 some ((Tm.mk 0 0 []),2)
 else
 some ((Tm.mk 0 0 []),5)
 else
 some ((Tm.mk 0 0 []),5)
 else
 some ((Tm.mk 0 0 []),5)
theorem zMx:Qf 144 Tryz.f144:=⟨Tryz.func144,rfl⟩
theorem zUZ{qq p0 p1 p2 r}(h:zJl qq p0 p1 p2=some r):Ct 144 [] [tmA p0,ai p1,ai p2] (.tup [tmA r.1,ai r.2]) [] 0:=⟨by
 unfold zJl at h
 obtain⟨r1,h2,h⟩:=zC h
 obtain⟨h3,h⟩|⟨h3,h⟩:=spl h
 obtain⟨r4,h5,h⟩:=zC h
 have k:=oK 1 [] h3 (c52 h2) o0
 obtain⟨h6,h⟩|⟨h6,h⟩:=spl h
 obtain⟨r7,h8,h⟩:=zC h
 have k:=oK 2 [] h6 (zPh h5) k
 obtain⟨h9,h⟩|⟨h9,h⟩:=spl h
 obtain⟨r10,h11,h⟩:=zC h
 obtain⟨r12,h13,h⟩:=zC h
 have k:=oC 2 [2,1] (zMy h11)<|oK 2 [] h9 (zPh h8) k
 obtain⟨h14,h⟩|⟨h14,h⟩:=spl h
 cases h
 exact tF zMx 3 [] (oD (dT r10.sub)<|oK 2 [] h14 (c52 h13) k)
 cases h
 exact tF zMx 2 [] (oD (dT ([]:List Tm))<|oK 2 [] h14 (c52 h13) k)
 cases h
 exact tF zMx 2 [] (oD (dT ([]:List Tm))<|oK 2 [] h9 (zPh h8) k)
 cases h
 exact tF zMx 2 [] (oD (dT ([]:List Tm))<|oK 2 [] h6 (zPh h5) k)
 cases h
 exact tF zMx 2 [] (oD (dT ([]:List Tm))<|oK 1 [] h3 (c52 h2) o0),⟨⟨tv,tv,⟨tv,dT _⟩,tv⟩,tv,tv,tv⟩,zB,⟨⟨tv,tv,dT _,tv⟩,tv,tv⟩,zB⟩
def zDv(qq:Nat)(p0:Tm)(p1:Int):Option (Tm×Int):=
 zJl qq p0 p1 0>>=fun r1=>
 some (r1.1,r1.2)
theorem zPg{qq p0 p1 r}(h:zDv qq p0 p1=some r):Ct 111 [] [tmA p0,ai p1] (.tup [tmA r.1,ai r.2]) [] 0:=⟨by
 unfold zDv at h
 obtain⟨r1,h2,h⟩:=zC h
 cases h
 exact tF ⟨Tryz.func111,rfl⟩ 3 [] (oD (dT r1.1.sub)<|oC 1 [] (zUZ h2) o0),⟨⟨tv,tv,⟨tv,dT _⟩,tv⟩,tv,tv⟩,zB,⟨⟨tv,tv,dT _,tv⟩,tv,tv⟩,zB⟩
def xO(k:Int)(i:Nat)(b:Int):Int:=if i=1∧k≠5 then b+1 else b
mutual
def lfT:Tm->Int->Int->Int->Tm
 | .mk kd n l,b,c,k=>if kd=1 then .mk 1 (if b≤n then(if n-b<c then n-b else n-b+k)+b else n) []else .mk kd n (lfL l kd 0 b c k)
def lfL:List Tm->Int->Nat->Int->Int->Int->List Tm
 | [],_,_,_,_,_=>[]
 |t::l,kd,i,b,c,k=>lfT t (xO kd i b) c k::lfL l kd (i+1) b c k
end
theorem zHj:∀(l:List Tm) (kd:Int) (i:Nat) (b c k:Int),(lfL l kd i b c k).length=l.length
 | [],_,_,_,_,_=>by rw[lfL]
 |t::l,kd,i,b,c,k=>by rw[lfL];exact congrArg (· + 1) (zHj l kd (i+1) b c k)
theorem E6(n:Int):Evt (fun q=>zAW q n) (.mk 1 n []):=Evt.mk fun _=>rfl
theorem fV(n:Int):Evt (fun q=>w6 q n) (.mk 2 n []):=Evt.mk fun _=>rfl
mutual
theorem N0:∀(t:Tm) (b c k:Int),xA t=true->0≤b->b+t.high≤1152921504606846976->0≤c->c≤1048576->0≤k->k≤1048576->Evt (fun q=>rU q t b c k) (lfT t b c k)
 | .mk kd n l,b,c,k,hg,hb,hb2,hc,hc2,hk,hk2=>by
  refine Evt.succ ?_
  simp only[rU]
  have hh:=wV hg
  have hn:=mS hh.1
  rw[Tm.high]at hb2
  rw[lfT]
  by_cases h1:kd=1
  ·rw[if_pos h1]
   refine Evt.ifT (by simpa[Tm.k]using h1) ?_
   simp only[Tm.n]
   by_cases h2:n≥b
   ·refine Evt.ifT (by simpa using h2) ?_
    rw[if_pos h2,yJ (x:=n-b) (by omega) (by omega)]
    refine Evt.bind (a:=if n-b<c then n-b else n-b+k) ?_ ?_
    ·refine Evt.mk fun q=>?_
     unfold aG
     by_cases h3:n-b<c
     ·simp[h3]
     ·simp[h3];exact yJ (by omega) (by omega)
    ·rw[yJ (by split<;>omega) (by split<;>omega)]
     exact(E6 _).bind Evt.ret
   ·refine Evt.ifF (by simpa using h2) ?_
    rw[if_neg h2]
    exact(E6 _).bind Evt.ret
  ·rw[if_neg h1]
   refine Evt.ifF (by simpa[Tm.k]using h1) ?_
   exact zDu l (.mk kd n l) 0 b c k [] rfl hh.2 (by have:=hn.2.2.2.2;exact this) hb (by omega) hc hc2 hk hk2 (by simp)
theorem zDu:∀(l:List Tm) (p:Tm) (v:Nat) (b c k:Int) (acc:List Tm),p.sub.drop v=l->wK l=true->p.sub.length≤2->0≤b->b+1+wY l≤1152921504606846976->0≤c->c≤1048576->0≤k->k≤1048576->acc.length≤v ->
  Evt (fun q=>vT q p b c k (v:Int) acc) (.mk p.k p.n (acc++lfL l p.k v b c k))
 | [],p,v,b,c,k,acc,hd,hg,hl,hb,hb2,hc,hc2,hk,hk2,ha=>by
  refine Evt.succ ?_
  simp only[vT]
  exact Evt.ifF (zZ hd) (Evt.ret.eq (by rw[lfL];simp))
 |t::l,p,v,b,c,k,acc,hd,hg,hl,hb,hb2,hc,hc2,hk,hk2,ha=>by
  have hlt:=yC hd
  have hgc:=xW hg
  rw[wY]at hb2
  refine Evt.succ ?_
  simp only[vT]
  refine Evt.ifT (zY hd) (Evt.pure (zX hd) ?_)
  have next:∀(x:Tm),Evt (fun q=>yN 40 acc [x]>>=fun l16=>vT q p b c k (w64 ((v:Int)+1)) l16) (.mk p.k p.n (acc++x::lfL l p.k (v+1) b c k)):=fun x=>by
   refine Evt.pure (yG (by simp<;>omega)) ?_
   rw[zW v (by omega)]
   refine(zDu l p (v+1) b c k (acc++[x]) (zU hd) hgc.2 hl hb (by omega) hc hc2 hk hk2 (by simp<;>omega)).eq (by simp)
  rw[lfL]
  by_cases h1:v=1
  ·subst h1
   refine Evt.ifT rfl ?_
   by_cases h5:p.k=5
   ·refine Evt.ifF (by simp[h5]) ?_
    have e:xO p.k 1 b=b:=by unfold xO;simp[h5]
    rw[e]
    exact(N0 t b c k hgc.1 hb (by omega) hc hc2 hk hk2).bind (next _)
   ·refine Evt.ifT (by simp[h5]) ?_
    have e:xO p.k 1 b=b+1:=by unfold xO;simp[h5]
    rw[e,yJ (x:=b+1) (by omega) (by omega)]
    exact(N0 t (b+1) c k hgc.1 (by omega) (by omega) hc hc2 hk hk2).bind (next _)
  ·refine Evt.ifF (by simp<;>omega) ?_
   have e:xO p.k v b=b:=by unfold xO;simp[h1]
   rw[e]
   exact(N0 t b c k hgc.1 hb (by omega) hc hc2 hk hk2).bind (next _)
end
mutual
theorem zFD:∀(t:Tm) (b c k:Int),t.Ok->(lfT t b c k).Ok
 | .mk kd n l,b,c,k,h=>by
  rw[lfT]
  split
  ·rw[Tm.Ok,OkL];simp
  ·rw[Tm.Ok]at h ⊢
   rw[zHj]
   exact⟨h.1,zMw l kd 0 b c k h.2⟩
theorem zMw:∀(l:List Tm) (kd:Int) (i:Nat) (b c k:Int),OkL l->OkL (lfL l kd i b c k)
 | [],_,_,_,_,_,_=>by rw[lfL,OkL];trivial
 |t::l,kd,i,b,c,k,h=>by
  rw[OkL]at h
  rw[lfL,OkL]
  exact⟨zFD t _ c k h.1,zMw l kd (i+1) b c k h.2⟩
end
def eW(n:Int):Bool:=decide (0≤n)&&decide (n≤1048576)
theorem zHi(n:Int):Evt (fun q=>zJn q n) (eW n):=by
 refine Evt.mk fun q=>?_
 unfold zJn eW
 by_cases h:n≥0
 ·rw[zPy (decide_eq_true h)];simp[show 0≤n from h]
 ·rw[zLa (decide_eq_false h)];simp[show ¬0≤n from h]
def zT:Tm:=.mk 0 0 []
def vU(t:Tm)(k c:Int):Tm×Int:=
 if zL t=true∧eW k=true∧eW c=true then(if zL (lfT t 0 c k)=true then(lfT t 0 c k,0)else(zT,2))else(zT,5)
theorem zHh(t:Tm)(k c:Int)(ho:t.Ok):Evt (fun q=>zJl q t k c) (vU t k c):=by
 simp only[zJl]
 refine(yO t ho).bind ?_
 unfold vU
 by_cases h1:zL t=true
 ·refine Evt.ifT h1 ((zHi k).bind ?_)
  by_cases h2:eW k=true
  ·refine Evt.ifT h2 ((zHi c).bind ?_)
   by_cases h3:eW c=true
   ·rw[if_pos ⟨h1,h2,h3⟩]
    have hs:=zQ h1
    have h2':=h2;have h3':=h3
    unfold eW at h2' h3'
    simp only[Bool.and_eq_true,decide_eq_true_eq]at h2' h3'
    refine Evt.ifT h3 ((N0 t 0 c k hs.2.2 (by omega) (by omega) h3'.1 h3'.2 h2'.1 h2'.2).bind ((yO _ (zFD t 0 c k ho)).bind ?_))
    by_cases h4:zL (lfT t 0 c k)=true
    ·rw[if_pos h4,if_pos h4];exact Evt.ret
    ·rw[if_neg h4,if_neg h4];exact Evt.ret
   ·rw[if_neg (fun h=>h3 h.2.2)];exact Evt.ifF (by simpa using h3) Evt.ret
  ·rw[if_neg (fun h=>h2 h.2.1)];exact Evt.ifF (by simpa using h2) Evt.ret
 ·rw[if_neg (fun h=>h1 h.1)];exact Evt.ifF (by simpa using h1) Evt.ret
theorem lK(t:Tm)(k c:Int)(ho:t.Ok):(vU t k c).1.Ok:=by
 have hz:zT.Ok:=by unfold zT;rw[Tm.Ok,OkL];simp
 unfold vU
 split
 ·split
  ·exact zFD t 0 c k ho
  ·exact hz
 ·exact hz
theorem zHg(t:Tm)(k:Int)(ho:t.Ok):Evt (fun q=>zDv q t k) (vU t k 0):=by
 simp only[zDv]
 exact(zHh t k 0 ho).bind Evt.ret
def raT(a:Tm)(by' left:Int)(long:Bool):Tm×Int×Bool:=
 if left-szT a 0<0 then(.mk 2 0 [],left-szT a 0,true)
 else if (vU a by' 0).2≠0 then(.mk 2 0 [],left-szT a 0,true)else((vU a by' 0).1,left-szT a 0,long)
mutual
def sbT(ls:List Tm):Tm->Int->Int->Bool->Tm×Int×Bool
 | .mk kd n l,b,left,long=>
  if long=true then(.mk 2 0 [],left,long)
  else if kd=1∧b≤n then
   (if h:(n-b).toNat<ls.length then raT (ls[(n-b).toNat]) b left long else(.mk 1 (n-ls.length) [],left,long))
  else
   let r:=sbL ls l kd 0 b (left-1) (decide (left-1<0))
   (.mk kd n r.1,r.2.1,r.2.2)
def sbL(ls:List Tm):List Tm->Int->Nat->Int->Int->Bool->List Tm×Int×Bool
 | [],_,_,_,left,long=>([],left,long)
 |t::l,kd,i,b,left,long=>
  let x:=sbT ls t (xO kd i b) left long
  let r:=sbL ls l kd (i+1) b x.2.1 x.2.2
  (x.1::r.1,r.2.1,r.2.2)
end
def nG(left:Int)(long:Bool):Prop:=-8193≤left∧left≤8192∧(long=false->0≤left)
theorem zMv{a:Tm}{by' left:Int}(h:nG left false):nG (raT a by' left false).2.1 (raT a by' left false).2.2:=by
 have:=zCK a 0 (by omega) (by omega)
 have h0:=h.2.2 rfl
 have h1:=h.2.1
 unfold raT nG
 split
 ·exact⟨by simp only;omega,by simp only;omega,fun h=>by cases h⟩
 ·split
  ·exact⟨by simp only;omega,by simp only;omega,fun h=>by cases h⟩
  ·exact⟨by simp only;omega,by simp only;omega,fun _=>by simp only;omega⟩
def zMu(qq:Nat)(p0:Tm)(p1:Int):Option Int:=
 if p0.k != 1 then
 some (-1)
 else
 if decide (p0.n<p1)then
 some (-1)
 else
 some (w64 (p0.n-p1))
theorem zSB:Qf 221 Tryz.f221:=⟨Tryz.func221,rfl⟩
theorem zWN{qq p0 p1 r}(h:zMu qq p0 p1=some r):Ct 221 [] [tmA p0,ai p1] (ai r) [] 0:=⟨by
 unfold zMu at h
 obtain⟨h1,h⟩|⟨h1,h⟩:=spl h
 cases h
 exact tF zSB 0 [] (oB 1 h1 o0)
 have k:=oB 1 h1 o0
 obtain⟨h2,h⟩|⟨h2,h⟩:=spl h
 cases h
 exact tF zSB 0 [] (oB 1 h2 k)
 cases h
 exact tF zSB 2 [] (oB 1 h2 k),⟨⟨tv,tv,⟨tv,dT _⟩,tv⟩,tv,tv⟩,zB,tv,zB⟩
def aI(qq:Nat)(q0:Int)(q1:Bool)(q2:List Tm)(p1:Tm)(p2:Int):Option (Tm×Int×Bool):=
 zFd qq p1>>=fun r1=>
 if decide ((w64 (q0-r1))<0)then
 w6 qq 0>>=fun r4=>
 some (r4,(w64 (q0-r1)),true)
 else
 zDv qq p1 p2>>=fun r6=>
 if r6.2 != 0 then
 w6 qq 0>>=fun r9=>
 some (r9,(w64 (q0-r1)),true)
 else
 some (r6.1,(w64 (q0-r1)),q1)
theorem zAX:Qf 82 Tryz.f82:=⟨Tryz.func82,rfl⟩
theorem zPf{qq q0 q1 q2 p1 p2 r}(h:aI qq q0 q1 q2 p1 p2=some r):Ct 82 [.cells [ai q0,ab q1,.clo 220 [] [.mp 1 0,.mp 2 0]],.cells [slv zG q2 .no],.cells [.mp 0 0]] [.mp 0 0,tmA p1,ai p2] (tmA r.1) [.cells [ai r.2.1,ab r.2.2,.clo 220 [] [.mp 1 0,.mp 2 0]],.cells [slv zG q2 .no],.cells [.mp 0 0]] 0:=⟨by
 unfold aI at h
 obtain⟨r1,h2,h⟩:=zC h
 have k:=oC 1 [] (zSc h2)<|oCl 0 o0
 obtain⟨h3,h⟩|⟨h3,h⟩:=spl h
 obtain⟨r4,h5,h⟩:=zC h
 cases h
 exact tF zAX 1 [0,1,2] (oD (dT r4.sub)<|oD (dT q2)<|oC 1 [] (zFC h5)<|oB 3 h3 k)
 obtain⟨r6,h7,h⟩:=zC h
 have k:=oC 1 [] (zPg h7)<|oB 3 h3 k
 obtain⟨h8,h⟩|⟨h8,h⟩:=spl h
 obtain⟨r9,h10,h⟩:=zC h
 cases h
 exact tF zAX 1 [0,1,2] (oD (dT r9.sub)<|oD (dT q2)<|oC 1 [] (zFC h10)<|oB 3 h8 k)
 cases h
 exact tF zAX 2 [0,1,2] (oD (dT r6.1.sub)<|oD (dT q2)<|oB 3 h8 k),⟨(lz rfl),⟨tv,tv,⟨tv,dT _⟩,tv⟩,tv,tv⟩,(zA ⟨tv,tv,⟨tv,⟨(lz rfl),(lz rfl),tv⟩⟩,tv⟩ (zA ⟨⟨tv,dT _⟩,tv⟩ (zA ⟨(lz rfl),tv⟩ zB))),⟨tv,tv,dT _,tv⟩,(zA ⟨tv,tv,⟨tv,⟨(lz rfl),(lz rfl),tv⟩⟩,tv⟩ (zA ⟨dT _,tv⟩ (zA ⟨(lz rfl),tv⟩ zB)))⟩
def nH(qq:Nat)(p0:Tm)(p1:Int)(q2:List Tm)(q3:Int)(q4:Bool):Option (Tm×Bool×Int×Bool):=
 zMu qq p0 p1>>=fun r1=>
 if decide (r1<0)then
 some ((Tm.mk 0 0 []),false,q3,q4)
 else
 if decide (r1<(q2.length:Int))then
 zS q2 r1>>=fun x5=>
 aI qq q3 q4 q2 x5 p1>>=fun r7=>
 some (r7.1,true,r7.2.1,r7.2.2)
 else
 zAW qq (w64 (p0.n-(q2.length:Int)))>>=fun r9=>
 some (r9,true,q3,q4)
theorem T5:Qf 220 Tryz.f220:=⟨Tryz.func220,rfl⟩
theorem zMt{qq p0 p1 q2 q3 q4 r}(h:nH qq p0 p1 q2 q3 q4=some r):Ct 220 [.cells [slv zG q2 .no],.cells [.mp 2 0],.cells [ai q3,ab q4,.clo 220 [] [.mp 0 0,.mp 1 0]]] [tmA p0,ai p1,.mp 0 0,.mp 1 0] (.tup [tmA r.1,ab r.2.1]) [.cells [slv zG q2 .no],.cells [.mp 2 0],.cells [ai r.2.2.1,ab r.2.2.2,.clo 220 [] [.mp 0 0,.mp 1 0]]] 0:=⟨by
 unfold nH at h
 obtain⟨r1,h2,h⟩:=zC h
 have k:=oC 1 [] (zWN h2) o0
 obtain⟨h3,h⟩|⟨h3,h⟩:=spl h
 cases h
 exact tF T5 1 [0,1,2] (oD (dT ([]:List Tm))<|oD (dT q2)<|oB 0 h3 k)
 have k:=oB 0 h3 k
 obtain⟨h4,h⟩|⟨h4,h⟩:=spl h
 obtain⟨x5,h6,h⟩:=zC h
 obtain⟨r7,h8,h⟩:=zC h
 cases h
 exact tF T5 1 [0,1,2] (oD (dT r7.1.sub)<|oD (dT q2)<|oC 1 [2,0,1] (zPf h8)<|oA 2 (xB (o:=.no) h6)<|oB 2 h4 k)
 obtain⟨r9,h10,h⟩:=zC h
 cases h
 exact tF T5 1 [0,1,2] (oD (dT r9.sub)<|oD (dT q2)<|oC 4 [] (zJm h10)<|oB 2 h4 k),⟨⟨tv,tv,⟨tv,dT _⟩,tv⟩,tv,(lz rfl),(lz rfl),tv⟩,(zA ⟨⟨tv,dT _⟩,tv⟩ (zA ⟨(lz rfl),tv⟩ (zA ⟨tv,tv,⟨tv,⟨(lz rfl),(lz rfl),tv⟩⟩,tv⟩ zB))),⟨⟨tv,tv,dT _,tv⟩,tv,tv⟩,(zA ⟨dT _,tv⟩ (zA ⟨(lz rfl),tv⟩ (zA ⟨tv,tv,⟨tv,⟨(lz rfl),(lz rfl),tv⟩⟩,tv⟩ zB)))⟩
mutual
def rV:Nat->Int->Bool->List Tm->Tm->Int->Option (Tm×Int×Bool)
 |0,_,_,_,_,_=>none
 |qq+1,q0,q1,q2,p1,p2=>
 if q1 then
 w6 qq 0>>=fun r2=>
 some (r2,q0,q1)
 else
 nH qq p1 p2 q2 q0 q1>>=fun r4=>
 if r4.2.1 then
 some (r4.1,r4.2.2.1,r4.2.2.2)
 else
 if decide ((w64 (r4.2.2.1-1))<0)then
 wR qq q2 p1 p2 0 (w64 (r4.2.2.1-1)) true []
 else
 wR qq q2 p1 p2 0 (w64 (r4.2.2.1-1)) r4.2.2.2 []
def wR:Nat->List Tm->Tm->Int->Int->Int->Bool->List Tm->Option (Tm×Int×Bool)
 |0,_,_,_,_,_,_,_=>none
 |qq+1,q2,p1,p2,v53,yA,wO,aJ=>
 if decide (v53<(p1.sub.length:Int))then
 zS p1.sub v53>>=fun x9=>
 if v53==1 then
 if p1.k != 5 then
 rV qq yA wO q2 x9 (w64 (p2+1))>>=fun r13=>
 yN 40 aJ [r13.1]>>=fun l15=>
 wR qq q2 p1 p2 (w64 (v53+1)) r13.2.1 r13.2.2 l15
 else
 rV qq yA wO q2 x9 p2>>=fun r17=>
 yN 40 aJ [r17.1]>>=fun l19=>
 wR qq q2 p1 p2 (w64 (v53+1)) r17.2.1 r17.2.2 l19
 else
 rV qq yA wO q2 x9 p2>>=fun r21=>
 yN 40 aJ [r21.1]>>=fun l23=>
 wR qq q2 p1 p2 (w64 (v53+1)) r21.2.1 r21.2.2 l23
 else
 some ((Tm.mk p1.k p1.n aJ),yA,wO)
end
abbrev aK (q0:Int) (q1:Bool) (q2:List Tm) (p1:Tm) (p2:Int) (r:Tm×Int×Bool) (C:Cf):Prop:=C 109 [.cells [ai q0,ab q1,.clo 220 [] [.mp 1 0,.mp 2 0]],.cells [slv zG q2 .no],.cells [.mp 0 0]] [.mp 0 0,tmA p1,ai p2] (tmA r.1) [.cells [ai r.2.1,ab r.2.2,.clo 220 [] [.mp 1 0,.mp 2 0]],.cells [slv zG q2 .no],.cells [.mp 0 0]] 0
theorem aL:Qf 109 Tryz.f109:=⟨Tryz.func109,rfl⟩
theorem aM{q0 q1 q2 p1 p2 r}(h:aK q0 q1 q2 p1 p2 r Ci):aK q0 q1 q2 p1 p2 r Ct:=⟨h,⟨(lz rfl),⟨tv,tv,⟨tv,dT _⟩,tv⟩,tv,tv⟩,(zA ⟨tv,tv,⟨tv,⟨(lz rfl),(lz rfl),tv⟩⟩,tv⟩ (zA ⟨⟨tv,dT _⟩,tv⟩ (zA ⟨(lz rfl),tv⟩ zB))),⟨tv,tv,dT _,tv⟩,(zA ⟨tv,tv,⟨tv,⟨(lz rfl),(lz rfl),tv⟩⟩,tv⟩ (zA ⟨dT _,tv⟩ (zA ⟨(lz rfl),tv⟩ zB)))⟩
theorem eI:∀qq:Nat,(∀ {q0 q1 q2 p1 p2 r},rV qq q0 q1 q2 p1 p2=some r->aK q0 q1 q2 p1 p2 r Ct)∧(∀ {q2 p1 p2 v53 yA wO aJ r},wR qq q2 p1 p2 v53 yA wO aJ=some r->(∀j,dL 3 (pt 262069 Tryz.f109) (sp j 79 0 [(0,.mp 0 0),(2,ai p2),(4,.mp 3 0),(6,.mp 4 0),(9,.mp 5 0),(51,slv zG p1.sub .no),(52,ai (p1.sub.length:Int)),(53,ai v53)]) (⟨[(0,.cells [ai yA,ab wO,.clo 220 [] [.mp 1 0,.mp 2 0]]),(1,.cells [slv zG q2 .no]),(2,.cells [.mp 0 0]),(3,.cells [ai p1.k,ai p1.n,slv zG p1.sub .no]),(4,.cells [ai 0,ai 0,slv zG ([]:List Tm) .nl]),(5,.cells [ai p1.k,ai p1.n,slv zG aJ (.st 0 3)])],6,[0],1,[]⟩) (fQ 3 (nQ 3 Tryz.f109 (tmA r.1) [.cells [ai r.2.1,ab r.2.2,.clo 220 [] [.mp 1 0,.mp 2 0]],.cells [slv zG q2 .no],.cells [.mp 0 0]] 0) [.blk 0,.seq (pt 4095 Tryz.f109)]))):=by
 intro qq
 induction qq with
 |zero=>
  exact⟨fun h=>nn h,fun h=>nn h⟩
 |succ qq ih=>
  obtain⟨E7,rW⟩:=ih
  refine⟨?_,?_⟩
  intro q0 q1 q2 p1 p2 r h
  rw[rV]at h
  have z {os ob} (k:Oz os ob):=oD (dT p1.sub)<|oD (dT ([]:List Tm))<|oD (dT ([]:List Tm))<|oD (dT p1.sub)<|oD (dT q2)<|k
  obtain⟨h1,h⟩|⟨h1,h⟩:=spl h
  obtain⟨r2,h3,h⟩:=zC h
  cases h
  exact aM (tF aL 1 [0,1,2] (oD (dT r2.sub)<|oD (dT q2)<|oC 0 [] (zFC h3)<|oB 0 h1 o0))
  obtain⟨r4,h5,h⟩:=zC h
  have k:=oC 2 [1,2,0] (zMt h5)<|oB 0 h1 o0
  obtain⟨h6,h⟩|⟨h6,h⟩:=spl h
  cases h
  exact aM (tF aL 3 [0,1,2] (oD (dT r4.1.sub)<|oD (dT q2)<|oB 1 h6 k))
  have k:=oB 1 h6 k
  obtain⟨h7,h⟩|⟨h7,h⟩:=spl h
  exact aM (tH aL 6 [(some 6,2,3)] [0,1,2,3,4,6] [0] [0,2,4,6,9,51,52,53] (z<|oB 5 h7 k) (rW h))
  exact aM (tH aL 5 [(some 6,2,3)] [0,1,2,3,4,6] [0] [0,2,4,6,9,51,52,53] (z<|oB 5 h7 k) (rW h))
  intro q2 p1 p2 v53 yA wO aJ r h
  rw[wR]at h
  have z {os ob} (k:Oz os ob):=oD (dT ([]:List Tm))<|oD (dT p1.sub)<|oD (dT q2)<|k
  obtain⟨h8,h⟩|⟨h8,h⟩:=spl h
  obtain⟨x9,h10,h⟩:=zC h
  have k:=oA 0 (xB (o:=.no) h10)<|oB 0 h8 o0
  obtain⟨h11,h⟩|⟨h11,h⟩:=spl h
  have k:=oB 2 h11 k
  obtain⟨h12,h⟩|⟨h12,h⟩:=spl h
  obtain⟨r13,h14,h⟩:=zC h
  obtain⟨l15,h16,h⟩:=zC h
  exact fun j=>lH 2 [] [0,1,2,3,4,5] [1] [0,2,4,6,9,51,52,53] (oD (dT p1.sub)<|oD (dT l15)<|z<|oP 0 (vD h16 (by simp))<|oS 0 (xI xN [r13.1])<|oC 1 [0,1,2] (E7 h14)<|oCl 1<|oB 1 h12 k) (rW h)
  obtain⟨r17,h18,h⟩:=zC h
  obtain⟨l19,h20,h⟩:=zC h
  exact fun j=>lH 2 [] [0,1,2,3,4,5] [1] [0,2,4,6,9,51,52,53] (oD (dT p1.sub)<|oD (dT l19)<|z<|oP 0 (vD h20 (by simp))<|oS 0 (xI xN [r17.1])<|oC 1 [0,1,2] (E7 h18)<|oCl 0<|oB 1 h12 k) (rW h)
  obtain⟨r21,h22,h⟩:=zC h
  obtain⟨l23,h24,h⟩:=zC h
  exact fun j=>lH 2 [] [0,1,2,3,4,5] [1] [0,2,4,6,9,51,52,53] (oD (dT p1.sub)<|oD (dT l23)<|z<|oP 0 (vD h24 (by simp))<|oS 0 (xI xN [r21.1])<|oC 1 [0,1,2] (E7 h22)<|oCl 0<|oB 2 h11 k) (rW h)
  cases h
  exact fun j=>lF 2 [0,1,2] (oD (dT aJ)<|oD (dT q2)<|oB 0 h8 o0)
theorem zMs{qq q0 q1 q2 p1 p2 r}(h:rV qq q0 q1 q2 p1 p2=some r):aK q0 q1 q2 p1 p2 r Ct:=(eI _).1 h
def T6(qq:Nat)(q0:Int)(q1:Bool)(q2:List Tm):Option Unit:=
 some ()
theorem zMr{qq q0 q1 q2 r}(h:T6 qq q0 q1 q2=some r):Ct 219 [.cells [ai q0,ab q1,.val .nilFunc],.cells [slv zG q2 .no]] [.mp 0 0,.mp 1 0] (.clo 220 [] [.mp 1 0,.mp 2 0]) [.cells [ai q0,ab q1,.val .nilFunc],.cells [slv zG q2 .no],.cells [.mp 0 0]] 0:=⟨by
 unfold T6 at h
 cases h
 exact tF ⟨Tryz.func219,rfl⟩ 0 [0,1,2] (oD (dT q2) o0),⟨(lz rfl),(lz rfl),tv⟩,(zA ⟨tv,tv,tv,tv⟩ (zA ⟨⟨tv,dT _⟩,tv⟩ zB)),⟨tv,⟨(lz rfl),(lz rfl),tv⟩⟩,(zA ⟨tv,tv,tv,tv⟩ (zA ⟨dT _,tv⟩ (zA ⟨(lz rfl),tv⟩ zB)))⟩
def aN(qq:Nat)(p0:Tm)(q1:List Tm):Option (Tm×Int):=
 T6 qq 8192 false q1>>=fun r1=>
 rV qq 8192 false q1 p0 0>>=fun r3=>
 if r3.2.2 then
 some ((Tm.mk 0 0 []),2)
 else
 e52 qq r3.1>>=fun r6=>
 if r6 then
 some (r3.1,0)
 else
 some ((Tm.mk 0 0 []),2)
theorem zAY:Qf 79 Tryz.f79:=⟨Tryz.func79,rfl⟩
theorem zPe{qq p0 q1 r}(h:aN qq p0 q1=some r):Ct 79 [.cells [slv zG q1 .no]] [tmA p0,.clo 219 [] [.mp 0 0]] (.tup [tmA r.1,ai r.2]) [.cells [slv zG q1 .no]] 0:=⟨by
 unfold aN at h
 obtain⟨r1,h2,h⟩:=zC h
 obtain⟨r3,h4,h⟩:=zC h
 have k:=oC 2 [3,0,4] (zMs h4)<|oC 0 [3,0] (zMr h2) o0
 obtain⟨h5,h⟩|⟨h5,h⟩:=spl h
 cases h
 exact tF zAY 1 [0] (oD (dT ([]:List Tm))<|oD (dT q1)<|oB 1 h5 k)
 obtain⟨r6,h7,h⟩:=zC h
 have k:=oB 1 h5 k
 obtain⟨h8,h⟩|⟨h8,h⟩:=spl h
 cases h
 exact tF zAY 3 [0] (oD (dT r3.1.sub)<|oD (dT q1)<|oK 1 [] h8 (c52 h7) k)
 cases h
 exact tF zAY 2 [0] (oD (dT ([]:List Tm))<|oD (dT q1)<|oK 1 [] h8 (c52 h7) k),⟨⟨tv,tv,⟨tv,dT _⟩,tv⟩,⟨tv,⟨(lz rfl),tv⟩⟩,tv⟩,(zA ⟨⟨tv,dT _⟩,tv⟩ zB),⟨⟨tv,tv,dT _,tv⟩,tv,tv⟩,(zA ⟨dT _,tv⟩ zB)⟩
def kR:Nat->Tm->List Tm->Int->Option (Tm×Int)
 |0,_,_,_=>none
 |qq+1,p0,p1,v14=>
 if decide (v14<(p1.length:Int))then
 zS p1 v14>>=fun x5=>
 e52 qq x5>>=fun r7=>
 if r7 then
 kR qq p0 p1 (w64 (v14+1))
 else
 some ((Tm.mk 0 0 []),5)
 else
 aN qq p0 p1>>=fun r10=>
 some (r10.1,r10.2)
def eJ(qq:Nat)(p0:Tm)(p1:List Tm):Option (Tm×Int):=
 e52 qq p0>>=fun r1=>
 if r1 then
 kR qq p0 p1 0
 else
 some ((Tm.mk 0 0 []),5)
theorem zVz:Qf 201 Tryz.f201:=⟨Tryz.func201,rfl⟩
theorem zPd:∀qq:Nat,(∀ {p0 p1 v14 r},kR qq p0 p1 v14=some r->(∀j,dL 0 (pt 4021 Tryz.f201) (sp j 28 0 [(2,.mp 0 0),(3,.mp 1 0),(4,.mp 2 0),(12,slv zG p1 .no),(13,ai (p1.length:Int)),(14,ai v14)]) (⟨[(0,.cells [ai p0.k,ai p0.n,slv zG p0.sub .no]),(1,.cells [slv zG p1 .no]),(2,.cells [ai 0,ai 0,slv zG ([]:List Tm) .nl])],3,[],0,[]⟩) (fQ 0 (nQ 0 Tryz.f201 (.tup [tmA r.1,ai r.2]) [] 0) [.blk 0,.seq (pt 63 Tryz.f201)]))):=by
 intro qq
 induction qq with
 |zero=>
  exact fun h=>nn h
 |succ qq ih=>
  intro p0 p1 v14 r h
  rw[kR]at h
  obtain⟨h4,h⟩|⟨h4,h⟩:=spl h
  obtain⟨x5,h6,h⟩:=zC h
  obtain⟨r7,h8,h⟩:=zC h
  have k:=oA 0 (xB (o:=.no) h6)<|oB 0 h4 o0
  obtain⟨h9,h⟩|⟨h9,h⟩:=spl h
  exact fun j=>lH 2 [] [0,1,2] [] [2,3,4,12,13,14] (oD (dT p1)<|oD (dT ([]:List Tm))<|oD (dT p1)<|oD (dT p0.sub)<|oK 3 [] h9 (c52 h8) k) (ih h)
  cases h
  exact fun j=>lF 2 [] (oD (dT ([]:List Tm))<|oK 3 [] h9 (c52 h8) k)
  obtain⟨r10,h11,h⟩:=zC h
  cases h
  exact fun j=>lF 3 [] (oD (dT r10.1.sub)<|oC 1 [1] (zPe h11)<|oB 0 h4 o0)
theorem L6{qq p0 p1 r}(h:eJ qq p0 p1=some r):Ct 201 [] [tmA p0,slv zG p1 .no] (.tup [tmA r.1,ai r.2]) [] 0:=⟨by
 unfold eJ at h
 obtain⟨r1,h2,h⟩:=zC h
 obtain⟨h3,h⟩|⟨h3,h⟩:=spl h
 exact tH zVz 3 [] [0,1,2] [] [2,3,4,12,13,14] (oD (dT p1)<|oD (dT ([]:List Tm))<|oD (dT p1)<|oD (dT p0.sub)<|oK 1 [] h3 (c52 h2) o0) (zPd _ h)
 cases h
 exact tF zVz 2 [] (oD (dT ([]:List Tm))<|oK 1 [] h3 (c52 h2) o0),⟨⟨tv,tv,⟨tv,dT _⟩,tv⟩,⟨tv,dT _⟩,tv⟩,zB,⟨⟨tv,tv,dT _,tv⟩,tv,tv⟩,zB⟩
def zMq(qq:Nat)(p0 p1:Tm):Option (Tm×Int):=
 eJ qq p0 [p1]>>=fun r1=>
 some (r1.1,r1.2)
theorem zWO{qq p0 p1 r}(h:zMq qq p0 p1=some r):Ct 208 [] [tmA p0,tmA p1] (.tup [tmA r.1,ai r.2]) [] 0:=⟨by
 unfold zMq at h
 obtain⟨r1,h2,h⟩:=zC h
 cases h
 exact tF ⟨Tryz.func208,rfl⟩ 3 [] (oD (dT r1.1.sub)<|oC 0 [] (L6 h2)<|oS 2 (xI xN [p1]) o0),⟨⟨tv,tv,⟨tv,dT _⟩,tv⟩,⟨tv,tv,⟨tv,dT _⟩,tv⟩,tv⟩,zB,⟨⟨tv,tv,dT _,tv⟩,tv,tv⟩,zB⟩
theorem zHf:zT.Ok:=by unfold zT;rw[Tm.Ok,OkL];simp
theorem xK(k n:Int):(Tm.mk k n []).Ok:=by rw[Tm.Ok,OkL];simp
theorem zJk(ls:List Tm)(a:Tm)(b left:Int)(long:Bool)(ho:a.Ok)(hl:nG left long):Evt (fun q=>aI q left long ls a b) (raT a b left long):=by
 simp only[aI]
 have hs:=zCK a 0 (by omega) (by omega)
 have h1:=hl.1
 have h2:=hl.2.1
 refine(zAT a ho).bind ?_
 rw[yJ (x:=left-szT a 0) (by omega) (by omega)]
 unfold raT
 by_cases h:left-szT a 0<0
 ·rw[if_pos h];exact Evt.ifT (decide_eq_true h) ((fV 0).bind Evt.ret)
 ·rw[if_neg h]
  refine Evt.ifF (decide_eq_false h) ((zHg a b ho).bind ?_)
  by_cases h3:(vU a b 0).2≠0
  ·rw[if_pos h3];exact Evt.ifT (by simpa using h3) ((fV 0).bind Evt.ret)
  ·rw[if_neg h3];exact Evt.ifF (by simpa using h3) Evt.ret
mutual
theorem N1(ls:List Tm):∀(t:Tm) (b left:Int) (long:Bool),nG left long->nG (sbT ls t b left long).2.1 (sbT ls t b left long).2.2
 | .mk kd n l,b,left,long,h=>by
  rw[sbT]
  cases long with
  |true=>simpa using h
  |false=>
   rw[if_neg (by simp)]
   split
   ·split
    ·exact zMv h
    ·exact h
   ·have h0:=h.2.2 rfl
    have h1:=h.2.1
    refine zDt ls l kd 0 b _ _ ⟨by omega,by omega,fun h2=>?_⟩
    simp at h2;omega
theorem zDt(ls:List Tm):∀(l:List Tm) (kd:Int) (i:Nat) (b left:Int) (long:Bool),nG left long->nG (sbL ls l kd i b left long).2.1 (sbL ls l kd i b left long).2.2
 | [],kd,i,b,left,long,h=>by rw[sbL];exact h
 |t::l,kd,i,b,left,long,h=>by
  rw[sbL]
  exact zDt ls l kd (i+1) b _ _ (N1 ls t _ left long h)
end
theorem zHe(ls:List Tm):∀(l:List Tm) (kd:Int) (i:Nat) (b left:Int) (long:Bool),(sbL ls l kd i b left long).1.length=l.length
 | [],_,_,_,_,_=>by rw[sbL]
 |t::l,kd,i,b,left,long=>by rw[sbL];exact congrArg (· + 1) (zHe ls l kd (i+1) b _ _)
theorem zSC(a:Tm)(b left:Int)(long:Bool)(h:a.Ok):(raT a b left long).1.Ok:=by
 unfold raT
 split
 ·exact xK _ _
 ·split
  ·exact xK _ _
  ·exact lK a b 0 h
mutual
theorem zFE(ls:List Tm)(hls:∀a∈ls,a.Ok):∀(t:Tm) (b left:Int) (long:Bool),t.Ok->(sbT ls t b left long).1.Ok
 | .mk kd n l,b,left,long,h=>by
  rw[sbT]
  split
  ·exact xK _ _
  ·split
   ·split
    ·exact zSC _ _ _ _ (hls _ (List.getElem_mem _))
    ·exact xK _ _
   ·rw[Tm.Ok]at h ⊢
    rw[zHe]
    exact⟨h.1,zMp ls hls l kd 0 b _ _ h.2⟩
theorem zMp(ls:List Tm)(hls:∀a∈ls,a.Ok):∀(l:List Tm) (kd:Int) (i:Nat) (b left:Int) (long:Bool),OkL l->OkL (sbL ls l kd i b left long).1
 | [],_,_,_,_,_,_=>by rw[sbL,OkL];trivial
 |t::l,kd,i,b,left,long,h=>by
  rw[OkL]at h
  rw[sbL,OkL]
  exact⟨zFE ls hls t _ _ _ h.1,zMp ls hls l kd (i+1) b _ _ h.2⟩
end
mutual
theorem zHd(ls:List Tm)(hls:∀a∈ls,a.Ok)(hlen:ls.length≤1152921504606846976):∀(t:Tm) (b left:Int) (long:Bool),xA t=true->0≤b->b+t.high≤1152921504606846976->nG left long->Evt (fun q=>rV q left long ls t b) (sbT ls t b left long)
 | .mk kd n l,b,left,long,hg,hb,hb2,hl=>by
  refine Evt.succ ?_
  simp only[rV]
  have hh:=wV hg
  have hn:=mS hh.1
  rw[Tm.high]at hb2
  rw[sbT]
  cases long with
  |true=>exact Evt.ifT rfl ((fV 0).bind (Evt.ret.eq (by simp)))
  |false=>
   refine Evt.ifF rfl ?_
   rw[if_neg (by simp)]
   have hloose:Evt (fun q=>zMu q (.mk kd n l) b) (if kd=1∧b≤n then n-b else -1):=by
    refine Evt.mk fun q=>?_
    unfold zMu
    simp only[Tm.k,Tm.n]
    by_cases h1:kd=1
    ·by_cases h2:n<b
     ·simp[h1,h2,show ¬b≤n by omega]
     ·simp[h1,h2,show b≤n by omega]
      exact yJ (by omega) (by omega)
    ·simp[h1]
   by_cases h1:kd=1∧b≤n
   ·rw[if_pos h1]at hloose ⊢
    have hleaf:Evt (fun q=>nH q (.mk kd n l) b ls left false) (let r:=(if h:(n-b).toNat<ls.length then raT (ls[(n-b).toNat]) b left false else(.mk 1 (n-ls.length) [],left,false));(r.1,true,r.2.1,r.2.2)):=by
     simp only[nH]
     refine hloose.bind (Evt.ifF (decide_eq_false (by omega)) ?_)
     by_cases h2:(n-b).toNat<ls.length
     ·rw[dif_pos h2]
      refine Evt.ifT (decide_eq_true (by omega)) (Evt.pure (a:=ls[(n-b).toNat]) ?_ ((zJk ls _ b left false (hls _ (List.getElem_mem _)) hl).bind Evt.ret))
      unfold zS
      rw[if_pos (by omega)]
      exact List.getElem?_eq_getElem h2
     ·rw[dif_neg h2]
      refine Evt.ifF (decide_eq_false (by omega)) ?_
      simp only[Tm.n]
      rw[yJ (by omega) (by omega)]
      exact(E6 _).bind Evt.ret
    exact hleaf.bind (Evt.ifT rfl Evt.ret)
   ·rw[if_neg h1]at hloose ⊢
    have hleaf:Evt (fun q=>nH q (.mk kd n l) b ls left false) (.mk 0 0 [],false,left,false):=by
     simp only[nH]
     exact hloose.bind (Evt.ifT rfl Evt.ret)
    refine hleaf.bind (Evt.ifF rfl ?_)
    have h0:=hl.2.2 rfl
    have h3:=hl.2.1
    rw[yJ (x:=left-1) (by omega) (by omega)]
    have go:∀lg:Bool,lg=decide (left-1<0)->Evt (fun q=>wR q ls (.mk kd n l) b 0 (left-1) lg []) (let r:=sbL ls l kd 0 b (left-1) (decide (left-1<0));(.mk kd n r.1,r.2.1,r.2.2)):=fun lg hlg=>by
     subst hlg
     refine(zMo ls hls hlen l (.mk kd n l) 0 b (left-1) _ [] rfl hh.2 (by have:=hn.2.2.2.2;exact this) hb (by omega) ⟨by omega,by omega,fun h2=>?_⟩ (by simp)).eq (by simp[Tm.k,Tm.n])
     simp at h2;omega
    by_cases h4:left-1<0
    ·exact Evt.ifT (decide_eq_true h4) (go true (by simp[h4]))
    ·exact Evt.ifF (decide_eq_false h4) (go false (by simp[h4]))
theorem zMo(ls:List Tm)(hls:∀a∈ls,a.Ok)(hlen:ls.length≤1152921504606846976):∀(l:List Tm) (p:Tm) (v:Nat) (b left:Int) (long:Bool) (acc:List Tm),p.sub.drop v=l->wK l=true->p.sub.length≤2->0≤b->b+1+wY l≤1152921504606846976->nG left long->acc.length≤v ->
  Evt (fun q=>wR q ls p b (v:Int) left long acc) (.mk p.k p.n (acc++(sbL ls l p.k v b left long).1),(sbL ls l p.k v b left long).2.1,(sbL ls l p.k v b left long).2.2)
 | [],p,v,b,left,long,acc,hd,hg,hl2,hb,hb2,hl,ha=>by
  refine Evt.succ ?_
  simp only[wR]
  exact Evt.ifF (zZ hd) (Evt.ret.eq (by rw[sbL];simp))
 |t::l,p,v,b,left,long,acc,hd,hg,hl2,hb,hb2,hl,ha=>by
  have hlt:=yC hd
  have hgc:=xW hg
  rw[wY]at hb2
  refine Evt.succ ?_
  simp only[wR]
  refine Evt.ifT (zY hd) (Evt.pure (zX hd) ?_)
  have next:∀x:Tm×Int×Bool,nG x.2.1 x.2.2->Evt (fun q=>yN 40 acc [x.1]>>=fun l15=>wR q ls p b (w64 ((v:Int)+1)) x.2.1 x.2.2 l15)
    (.mk p.k p.n (acc++x.1::(sbL ls l p.k (v+1) b x.2.1 x.2.2).1),(sbL ls l p.k (v+1) b x.2.1 x.2.2).2.1,(sbL ls l p.k (v+1) b x.2.1 x.2.2).2.2):=fun x hx=>by
   refine Evt.pure (yG (by simp<;>omega)) ?_
   rw[zW v (by omega)]
   exact(zMo ls hls hlen l p (v+1) b x.2.1 x.2.2 (acc++[x.1]) (zU hd) hgc.2 hl2 hb (by omega) hx (by simp<;>omega)).eq (by simp)
  rw[sbL]
  by_cases h1:v=1
  ·subst h1
   refine Evt.ifT rfl ?_
   by_cases h5:p.k=5
   ·refine Evt.ifF (by simp[h5]) ?_
    have e:xO p.k 1 b=b:=by unfold xO;simp[h5]
    rw[e]
    exact(zHd ls hls hlen t b left long hgc.1 hb (by omega) hl).bind (next _ (N1 ls t b left long hl))
   ·refine Evt.ifT (by simp[h5]) ?_
    have e:xO p.k 1 b=b+1:=by unfold xO;simp[h5]
    rw[e,yJ (x:=b+1) (by omega) (by omega)]
    exact(zHd ls hls hlen t (b+1) left long hgc.1 (by omega) (by omega) hl).bind (next _ (N1 ls t (b+1) left long hl))
  ·refine Evt.ifF (by simp<;>omega) ?_
   have e:xO p.k v b=b:=by unfold xO;simp[h1]
   rw[e]
   exact(zHd ls hls hlen t b left long hgc.1 hb (by omega) hl).bind (next _ (N1 ls t b left long hl))
end
def gD(t:Tm)(ls:List Tm):Tm×Int:=
 if zL t=true∧(ls.all zL)=true then
  (if (sbT ls t 0 8192 false).2.2=true then(zT,2)else if zL (sbT ls t 0 8192 false).1=true then((sbT ls t 0 8192 false).1,0)else(zT,2))
 else(zT,5)
theorem zSD(t:Tm)(ls:List Tm)(h:zL t=true)(ho:t.Ok)(hls:∀a∈ls,a.Ok)(hlen:ls.length≤1152921504606846976) :
  Evt (fun q=>aN q t ls) (if (sbT ls t 0 8192 false).2.2=true then(zT,2)else if zL (sbT ls t 0 8192 false).1=true then((sbT ls t 0 8192 false).1,0)else(zT,2)):=by
 simp only[aN]
 have hs:=zQ h
 refine Evt.bind (a:=()) (Evt.mk fun _=>rfl) ((zHd ls hls hlen t 0 8192 false hs.2.2 (by omega) (by omega) ⟨by omega,by omega,fun _=>by omega⟩).bind ?_)
 by_cases h1:(sbT ls t 0 8192 false).2.2=true
 ·rw[if_pos h1];exact Evt.ifT h1 Evt.ret
 ·rw[if_neg h1]
  refine Evt.ifF (by simpa using h1) ((yO _ (zFE ls hls t 0 8192 false ho)).bind ?_)
  by_cases h2:zL (sbT ls t 0 8192 false).1=true
  ·rw[if_pos h2,if_pos h2];exact Evt.ret
  ·rw[if_neg h2,if_neg h2];exact Evt.ret
theorem zDs(t:Tm)(ls:List Tm)(h:zL t=true)(ho:t.Ok)(hls:∀a∈ls,a.Ok)(hlen:ls.length≤1152921504606846976):∀(r:List Tm) (v:Nat),ls.drop v=r ->
  Evt (fun q=>kR q t ls (v:Int)) (if (r.all zL)=true then(if (sbT ls t 0 8192 false).2.2=true then(zT,2)else if zL (sbT ls t 0 8192 false).1=true then((sbT ls t 0 8192 false).1,0)else(zT,2))else(zT,5))
 | [],v,hd=>by
  refine Evt.succ ?_
  simp only[kR]
  exact Evt.ifF (zZ hd) ((zSD t ls h ho hls hlen).bind (Evt.ret.eq (by simp)))
 |x::r,v,hd=>by
  have hlt:=yC hd
  have hx:x∈ls:=by
   have:x∈ls.drop v:=by rw[hd];simp
   exact List.mem_of_mem_drop this
  refine Evt.succ ?_
  simp only[kR]
  refine Evt.ifT (zY hd) (Evt.pure (zX hd) ((yO x (hls x hx)).bind ?_))
  by_cases h1:zL x=true
  ·refine Evt.ifT h1 ?_
   rw[zW v (by omega)]
   exact(zDs t ls h ho hls hlen r (v+1) (zU hd)).eq (by simp[h1])
  ·exact Evt.ifF (by simpa using h1) (Evt.ret.eq (by simp[h1,zT]))
theorem N2(t:Tm)(ls:List Tm)(ho:t.Ok)(hls:∀a∈ls,a.Ok)(hlen:ls.length≤1152921504606846976):Evt (fun q=>eJ q t ls) (gD t ls):=by
 simp only[eJ]
 refine(yO t ho).bind ?_
 unfold gD
 by_cases h:zL t=true
 ·refine Evt.ifT h ((zDs t ls h ho hls hlen ls 0 rfl).eq ?_)
  simp[h]
 ·exact Evt.ifF (by simpa using h) (Evt.ret.eq (by simp[h,zT]))
theorem zSE(t a:Tm)(ho:t.Ok)(ha:a.Ok):Evt (fun q=>zMq q t a) (gD t [a]):=by
 simp only[zMq]
 exact(N2 t [a] ho (by simpa using ha) (by simp)).bind Evt.ret
theorem N3(t:Tm)(ls:List Tm)(ho:t.Ok)(hls:∀a∈ls,a.Ok):(gD t ls).1.Ok:=by
 unfold gD
 split
 ·split
  ·exact zHf
  ·split
   ·exact zFE ls hls t 0 8192 false ho
   ·exact zHf
 ·exact zHf
def kS:Nat->Int->Int->List Tm->Int->Int->List Tm->Option (List Tm×Tm×Int)
 |0,_,_,_,_,_,_=>none
 |qq+1,p1,v25,v7,tM,pK,uF=>
 if decide (v25<p1)then
 if tM != 3 then
 some ([],(Tm.mk 0 0 []),6)
 else
 zS uF 0>>=fun x10=>
 yN 40 v7 [x10]>>=fun l12=>
 zS uF 1>>=fun x14=>
 kS qq p1 (w64 (v25+1)) l12 x14.k x14.n x14.sub
 else
 some (v7,(Tm.mk tM pK uF),0)
def T7(qq:Nat)(p0:Tm)(p1:Int):Option (List Tm×Tm×Int):=
 e52 qq p0>>=fun r1=>
 if r1 then
 if decide (p1<0)then
 some ([],(Tm.mk 0 0 []),5)
 else
 if decide (p1>24)then
 some ([],(Tm.mk 0 0 []),2)
 else
 e53 qq p0>>=fun r6=>
 kS qq p1 0 [] r6.k r6.n r6.sub
 else
 some ([],(Tm.mk 0 0 []),5)
theorem zPc:Qf 190 Tryz.f190:=⟨Tryz.func190,rfl⟩
theorem zPb:∀qq:Nat,(∀ {p1 v25 v7 tM pK uF r},kS qq p1 v25 v7 tM pK uF=some r->(∀j,dL 0 (pt 65461 Tryz.f190) (sp j 45 0 [(5,.mp 0 0),(7,slv zG v7 (.st 0 3)),(8,.mp 1 0),(24,ai p1),(25,ai v25)]) (⟨[(0,.cells [ai 0,ai 0,slv zG ([]:List Tm) .nl]),(1,.cells [ai tM,ai pK,slv zG uF .no])],2,[0],1,[]⟩) (fQ 0 (nQ 0 Tryz.f190 (.tup [.sl (zK zG r.1) r.1.length .no,tmA r.2.1,ai r.2.2]) [] 0) [.blk 1,.seq (pt 1023 Tryz.f190)]))):=by
 intro qq
 induction qq with
 |zero=>
  exact fun h=>nn h
 |succ qq ih=>
  intro p1 v25 v7 tM pK uF r h
  rw[kS]at h
  obtain⟨h8,h⟩|⟨h8,h⟩:=spl h
  have k:=oB 0 h8 o0
  obtain⟨h9,h⟩|⟨h9,h⟩:=spl h
  cases h
  exact fun j=>lF 1 [] (oD (dT ([]:List Tm))<|oD (dT ([]:List Tm))<|oB 1 h9 k)
  obtain⟨x10,h11,h⟩:=zC h
  obtain⟨l12,h13,h⟩:=zC h
  obtain⟨x14,h15,h⟩:=zC h
  exact fun j=>lH 3 [] [0,1] [1] [5,7,8,24,25] (oD (dT l12)<|oD (dT x14.sub)<|oD (dT ([]:List Tm))<|oA 1 (xB (o:=.no) h15)<|oP 0 (vD h13 (by simp))<|oS 1 (xI xN [x10])<|oA 1 (xB (o:=.no) h11)<|oB 1 h9 k) (ih h)
  cases h
  exact fun j=>lF 2 [] (oD (dT uF)<|oD (dT v7)<|oB 0 h8 o0)
theorem zMn{qq p0 p1 r}(h:T7 qq p0 p1=some r):Ct 190 [] [tmA p0,ai p1] (.tup [.sl (zK zG r.1) r.1.length .no,tmA r.2.1,ai r.2.2]) [] 0:=⟨by
 unfold T7 at h
 have z {os ob} (k:Oz os ob):=oD (dT ([]:List Tm))<|oD (dT ([]:List Tm))<|k
 obtain⟨r1,h2,h⟩:=zC h
 obtain⟨h3,h⟩|⟨h3,h⟩:=spl h
 have k:=oK 1 [] h3 (c52 h2) o0
 obtain⟨h4,h⟩|⟨h4,h⟩:=spl h
 cases h
 exact tF zPc 1 [] (z<|oB 1 h4 k)
 have k:=oB 1 h4 k
 obtain⟨h5,h⟩|⟨h5,h⟩:=spl h
 cases h
 exact tF zPc 1 [] (z<|oB 0 h5 k)
 obtain⟨r6,h7,h⟩:=zC h
 exact tH zPc 1 [(none,7,3)] [1,2] [0] [5,7,8,24,25] (oD (dT ([]:List Tm))<|oD (dT r6.sub)<|oD (dT ([]:List Tm))<|oC 1 [] (c53 h7)<|oB 0 h5 k) (zPb _ h)
 cases h
 exact tF zPc 2 [] (z<|oK 1 [] h3 (c52 h2) o0),⟨⟨tv,tv,⟨tv,dT _⟩,tv⟩,tv,tv⟩,zB,⟨dT _,⟨tv,tv,dT _,tv⟩,tv,tv⟩,zB⟩
def kT:Nat->Tm->Int->Int->Int->List Tm->Option (List Tm×Tm×Int)
 |0,_,_,_,_,_=>none
 |qq+1,p0,v5,xC,xR,mE=>
 if xC==3 then
 if (mE.length:Int)==2 then
 if decide (v5≤24)then
 zS mE 1>>=fun x4=>
 kT qq p0 (w64 (v5+1)) x4.k x4.n x4.sub
 else
 T7 qq p0 v5>>=fun r6=>
 some (r6.1,r6.2.1,r6.2.2)
 else
 T7 qq p0 v5>>=fun r8=>
 some (r8.1,r8.2.1,r8.2.2)
 else
 T7 qq p0 v5>>=fun r10=>
 some (r10.1,r10.2.1,r10.2.2)
def zDr(qq:Nat)(p0:Tm):Option (List Tm×Tm×Int):=
 kT qq p0 0 p0.k p0.n p0.sub
theorem zPa:∀qq:Nat,(∀ {p0 v5 xC xR mE r},kT qq p0 v5 xC xR mE=some r->(∀j,dL 0 (pt 4021 Tryz.f158) (sp j 34 0 [(1,.mp 0 0),(3,.mp 1 0),(5,ai v5),(6,.mp 2 0)]) (⟨[(0,.cells [ai p0.k,ai p0.n,slv zG p0.sub .no]),(1,.cells [ai 0,ai 0,slv zG ([]:List Tm) .nl]),(2,.cells [ai xC,ai xR,slv zG mE .no])],3,[],0,[]⟩) (fQ 0 (nQ 0 Tryz.f158 (.tup [.sl (zK zG r.1) r.1.length .no,tmA r.2.1,ai r.2.2]) [] 0) [.blk 0,.seq (pt 63 Tryz.f158)]))):=by
 intro qq
 induction qq with
 |zero=>
  exact fun h=>nn h
 |succ qq ih=>
  intro p0 v5 xC xR mE r h
  rw[kT]at h
  obtain⟨h1,h⟩|⟨h1,h⟩:=spl h
  have k:=oB 1 h1 o0
  obtain⟨h2,h⟩|⟨h2,h⟩:=spl h
  have k:=oB 2 h2 k
  obtain⟨h3,h⟩|⟨h3,h⟩:=spl h
  obtain⟨x4,h5,h⟩:=zC h
  exact fun j=>lH 2 [] [0,1,3] [] [1,3,5,6] (oD (dT x4.sub)<|oD (dT ([]:List Tm))<|oD (dT p0.sub)<|oA 4 (xB (o:=.no) h5)<|oB 0 h3 k) (ih h)
  obtain⟨r6,h7,h⟩:=zC h
  cases h
  exact fun j=>lF 4 [] (oD (dT r6.2.1.sub)<|oD (dT r6.1)<|oC 1 [] (zMn h7)<|oB 0 h3 k)
  obtain⟨r8,h9,h⟩:=zC h
  cases h
  exact fun j=>lF 4 [] (oD (dT r8.2.1.sub)<|oD (dT r8.1)<|oC 1 [] (zMn h9)<|oB 2 h2 k)
  obtain⟨r10,h11,h⟩:=zC h
  cases h
  exact fun j=>lF 4 [] (oD (dT r10.2.1.sub)<|oD (dT r10.1)<|oC 1 [] (zMn h11)<|oB 1 h1 o0)
theorem zPA{qq p0 r}(h:zDr qq p0=some r):Ct 158 [] [tmA p0] (.tup [.sl (zK zG r.1) r.1.length .no,tmA r.2.1,ai r.2.2]) [] 0:=⟨by
 unfold zDr at h
 exact tH ⟨Tryz.func158,rfl⟩ 2 [] [0,1,2] [] [1,3,5,6] (oD (dT p0.sub)<|oD (dT ([]:List Tm))<|oD (dT p0.sub) o0) (zPa _ h),⟨⟨tv,tv,⟨tv,dT _⟩,tv⟩,tv⟩,zB,⟨dT _,⟨tv,tv,dT _,tv⟩,tv,tv⟩,zB⟩
def kU:Nat->Int->Int->(Tm×List Tm)->Int->Option Bool
 |0,_,_,_,_=>none
 |qq+1,p2,p4,r1,v37=>
 if decide (v37<p2)then
 zS r1.2 v37>>=fun x7=>
 if x7.k != 1 then
 some false
 else
 if x7.n != (w64 ((w64 (p4-1))-v37))then
 some false
 else
 kU qq p2 p4 r1 (w64 (v37+1))
 else
 some true
def zFF(qq:Nat)(p0:Tm)(p1 p2 p3 p4:Int):Option Bool:=
 L4 qq p0>>=fun r1=>
 if r1.1.k != 6 then
 some false
 else
 if r1.1.n != p1 then
 some false
 else
 if (r1.2.length:Int) != (w64 (p2+p3))then
 some false
 else
 kU qq p2 p4 r1 0
theorem zPB:Qf 194 Tryz.f194:=⟨Tryz.func194,rfl⟩
theorem zPC:∀qq:Nat,(∀ {p2 p4 r1 v37 r},kU qq p2 p4 r1 v37=some r->(∀j,dL 0 (pt 16309 Tryz.f194) (sp j 59 0 [(4,ai p4),(12,slv zG r1.2 .no),(36,ai p2),(37,ai v37)]) (⟨[],0,[],0,[]⟩) (fQ 0 (nQ 0 Tryz.f194 (ab r) [] 0) [.blk 0,.seq (pt 255 Tryz.f194)]))):=by
 intro qq
 induction qq with
 |zero=>
  exact fun h=>nn h
 |succ qq ih=>
  intro p2 p4 r1 v37 r h
  rw[kU]at h
  obtain⟨h6,h⟩|⟨h6,h⟩:=spl h
  obtain⟨x7,h8,h⟩:=zC h
  have k:=oA 0 (xB (o:=.no) h8)<|oB 0 h6 o0
  obtain⟨h9,h⟩|⟨h9,h⟩:=spl h
  cases h
  exact fun j=>lF 0 [] (oB 1 h9 k)
  have k:=oA 0 (xB (o:=.no) h8)<|oB 1 h9 k
  obtain⟨h10,h⟩|⟨h10,h⟩:=spl h
  cases h
  exact fun j=>lF 0 [] (oB 3 h10 k)
  exact fun j=>lH 1 [] [] [] [4,12,36,37] (oD (dT r1.2)<|oB 3 h10 k) (ih h)
  cases h
  exact fun j=>lF 0 [] (oB 0 h6 o0)
theorem zPD{qq p0 p1 p2 p3 p4 r}(h:zFF qq p0 p1 p2 p3 p4=some r):Ct 194 [] [tmA p0,ai p1,ai p2,ai p3,ai p4] (ab r) [] 0:=⟨by
 unfold zFF at h
 obtain⟨r1,h2,h⟩:=zC h
 have k:=oC 1 [] (zDx h2) o0
 obtain⟨h3,h⟩|⟨h3,h⟩:=spl h
 cases h
 exact tF zPB 0 [] (oB 4 h3 k)
 have k:=oB 4 h3 k
 obtain⟨h4,h⟩|⟨h4,h⟩:=spl h
 cases h
 exact tF zPB 0 [] (oB 1 h4 k)
 have k:=oB 1 h4 k
 obtain⟨h5,h⟩|⟨h5,h⟩:=spl h
 cases h
 exact tF zPB 0 [] (oB 2 h5 k)
 exact tH zPB 0 [] [] [] [4,12,36,37] (oD (dT r1.2)<|oB 2 h5 k) (zPC _ h),⟨⟨tv,tv,⟨tv,dT _⟩,tv⟩,tv,tv,tv,tv,tv⟩,zB,tv,zB⟩
def lL:Nat->Tm->Option (List Tm×Tm)
 |0,t=>some ([],t)
 |n+1,.mk k _ [a,b]=>if k=3 then(lL n b).map fun r=>(a::r.1,r.2)else none
 |_+1,_=>none
theorem N4(n:Nat)(m:Int)(a b:Tm):lL (n+1) (.mk 3 m [a,b])=(lL n b).map fun r=>(a::r.1,r.2):=by rw[lL,if_pos rfl]
theorem aO{n:Nat}{t:Tm}(h:t.k≠3):lL (n+1) t=none:=by
 unfold lL
 split
 ·rename_i h1;cases h1
 ·rename_i h1;exact if_neg h
 ·rfl
theorem fW{t:Tm}(hg:xA t=true)(h:t.k=3):∃a b,t = .mk 3 t.n [a,b]∧xA a=true∧xA b=true:=by
 obtain⟨k,n,l⟩:=t
 have hh:=wV hg
 have hs:=uT hh.1
 replace h:k=3:=h
 subst h
 obtain⟨a,b,rfl⟩:=zPi (hs.2.2.2.2.2.1 (.inl rfl)).1
 have hc:=xW hh.2
 exact⟨a,b,rfl,hc.1,(xW hc.2).1⟩
def zAZ(acc:List Tm):Option (List Tm×Tm)->List Tm×Tm×Int
 |none=>([],zT,6)
 |some r=>(acc++r.1,r.2,0)
theorem zJj(N:Nat)(hN:N≤24):∀(m v:Nat) (acc:List Tm) (x:Tm),v+m=N->xA x=true->acc.length≤v->Evt (fun q=>kS q (N:Int) (v:Int) acc x.k x.n x.sub) (zAZ acc (lL m x)):=by
 intro m
 induction m with
 |zero=>
  intro v acc x hm hg ha
  refine Evt.succ ?_
  simp only[kS]
  refine Evt.ifF (decide_eq_false (by omega)) (Evt.ret.eq ?_)
  rw[lL,zAZ,sC];simp
 |succ m ih=>
  intro v acc x hm hg ha
  refine Evt.succ ?_
  simp only[kS]
  refine Evt.ifT (decide_eq_true (by omega)) ?_
  by_cases h:x.k=3
  ·obtain⟨a,b,hx,hga,hgb⟩:=fW hg h
   refine Evt.ifF (by simp[h]) ?_
   rw[hx,N4]
   refine Evt.pure (a:=a) rfl (Evt.pure (yG (by simp<;>omega)) (Evt.pure (a:=b) rfl ?_))
   rw[zW v (by omega)]
   refine(ih (v+1) (acc++[a]) b (by omega) hgb (by simp<;>omega)).eq ?_
   cases lL m b<;>simp[zAZ]
  ·rw[aO h,zAZ]
   exact Evt.ifT (by simp[h]) Evt.ret
def vQ(t:Tm)(n:Int):List Tm×Tm×Int:=
 if zL t=true then(if n<0 then([],zT,5)else if n>24 then([],zT,2)else zAZ [] (lL n.toNat t))else([],zT,5)
theorem aP(t:Tm)(n:Int)(ho:t.Ok):Evt (fun q=>T7 q t n) (vQ t n):=by
 simp only[T7]
 refine(yO t ho).bind ?_
 unfold vQ
 by_cases h:zL t=true
 ·rw[if_pos h]
  refine Evt.ifT h ?_
  by_cases h1:n<0
  ·rw[if_pos h1];exact Evt.ifT (decide_eq_true h1) Evt.ret
  ·rw[if_neg h1]
   refine Evt.ifF (decide_eq_false h1) ?_
   by_cases h2:n>24
   ·rw[if_pos h2];exact Evt.ifT (decide_eq_true h2) Evt.ret
   ·rw[if_neg h2]
    refine Evt.ifF (decide_eq_false h2) ((sR t ho).bind ?_)
    unfold nE
    rw[if_pos h]
    have:=zJj n.toNat (by omega) n.toNat 0 [] t (by omega) (zQ h).2.2 (by simp)
    rw[show ((n.toNat:Nat):Int)=n by omega]at this
    exact this
 ·rw[if_neg h];exact Evt.ifF (by simpa using h) Evt.ret
def uW:Tm->Nat
 | .mk k _ [_,b]=>if k=3 then uW b+1 else 0
 |_=>0
theorem N5(m:Int)(a b:Tm):uW (.mk 3 m [a,b])=uW b+1:=by rw[uW,if_pos rfl]
theorem zFG{t:Tm}(h:t.k≠3):uW t=0:=by
 unfold uW
 split
 ·exact if_neg h
 ·rfl
theorem zMm{t:Tm}(h:t.sub.length≠2):uW t=0:=by
 unfold uW
 split
 ·exact absurd rfl h
 ·rfl
def yM(t:Tm):List Tm×Tm×Int:=vQ t ((min (uW t) 25:Nat):Int)
theorem zJi(p:Tm)(ho:p.Ok):∀(m v:Nat) (x:Tm),v+m=25->Evt (fun q=>kT q p (v:Int) x.k x.n x.sub) (vQ p ((min (v+uW x) 25:Nat):Int)):=by
 intro m
 induction m with
 |zero=>
  intro v x hm
  refine Evt.succ ?_
  simp only[kT]
  have hv:v=25:=by omega
  subst hv
  have hsp:Evt (fun q=>T7 q p ((25:Nat):Int)>>=fun r6=>some (r6.1,r6.2.1,r6.2.2)) (vQ p ((min (25+uW x) 25:Nat):Int)):=
   ((aP p _ ho).bind Evt.ret).eq (by rw[show min (25+uW x) 25=25 by omega])
  exact Evt.iff (fun _=>Evt.iff (fun _=>Evt.ifF rfl hsp) fun _=>hsp) fun _=>hsp
 |succ m ih=>
  intro v x hm
  refine Evt.succ ?_
  simp only[kT]
  have hsp:uW x=0->Evt (fun q=>T7 q p (v:Int)>>=fun r6=>some (r6.1,r6.2.1,r6.2.2)) (vQ p ((min (v+uW x) 25:Nat):Int)):=fun h=>
   ((aP p _ ho).bind Evt.ret).eq (by rw[h,show min (v+0) 25=v by omega])
  by_cases h3:x.k=3
  ·refine Evt.ifT (by simp[h3]) ?_
   by_cases h2:x.sub.length=2
   ·refine Evt.ifT (by simp[h2]) (Evt.ifT (decide_eq_true (by omega)) ?_)
    obtain⟨k,n,l⟩:=x
    replace h3:k=3:=h3
    subst h3
    obtain⟨a,b,rfl⟩:=zPi h2
    refine Evt.pure (a:=b) rfl ?_
    rw[zW v (by omega),N5]
    exact(ih (v+1) b (by omega)).eq (by rw[show v+1+uW b=v+(uW b+1) by omega])
   ·exact Evt.ifF (by simp<;>omega) (hsp (zMm h2))
  ·exact Evt.ifF (by simp[h3]) (hsp (zFG h3))
theorem aQ(t:Tm)(ho:t.Ok):Evt (fun q=>zDr q t) (yM t):=by
 simp only[zDr]
 exact(zJi t ho 25 0 t rfl).eq (by unfold yM;simp)
theorem m6:∀(n:Nat) (t:Tm) (r:List Tm×Tm),xA t=true->lL n t=some r->r.1.length=n∧uW t=n+uW r.2∧(xA r.2=true∧r.2.nodes≤t.nodes∧r.2.high≤t.high)∧∀x∈r.1,xA x=true∧x.nodes≤t.nodes∧x.high≤t.high
 |0,t,r,hg,h=>by
  rw[lL]at h;cases h
  exact⟨rfl,by simp,⟨hg,Nat.le_refl _,Nat.le_refl _⟩,fun x hx=>by cases hx⟩
 |n+1,t,r,hg,h=>by
  by_cases h3:t.k=3
  ·obtain⟨a,b,hx,hga,hgb⟩:=fW hg h3
   rw[hx]at h ⊢
   rw[N4]at h
   obtain⟨r',h1,rfl⟩:=Option.map_eq_some_iff.1 h
   have ih:=m6 n b r' hgb h1
   rw[N5]
   simp only[Tm.nodes,yQ,Tm.high,wY]
   refine⟨by simp[ih.1],by omega,⟨ih.2.2.1.1,by omega,by omega⟩,fun x hx=>?_⟩
   rcases List.mem_cons.1 hx with rfl|hx
   ·exact⟨hga,by omega,by omega⟩
   ·have:=ih.2.2.2 x hx;exact⟨this.1,by omega,by omega⟩
  ·rw[aO h3]at h;cases h
theorem m7{t:Tm}{n:Int}{l:List Tm}{y:Tm}(h:vQ t n=(l,y,0)):zL t=true∧0≤n∧n≤24∧(l.length:Int)=n∧uW t=l.length+uW y∧zL y=true∧∀x∈l,zL x=true:=by
 unfold vQ at h
 split at h
 ·rename_i hs
  split at h
  ·simp at h
  ·split at h
   ·simp at h
   ·cases hr:lL n.toNat t with
    |none=>rw[hr]at h;simp[zAZ]at h
    |some r=>
     rw[hr]at h
     simp only[zAZ,List.nil_append,Prod.mk.injEq,and_true]at h
     obtain⟨rfl,rfl⟩:=h
     have hsp:=zQ hs
     have:=m6 _ _ _ hsp.2.2 hr
     refine⟨hs,by omega,by omega,by omega,by omega,kQ (by omega) (by omega) this.2.2.1.1,fun x hx=>?_⟩
     have hx:=this.2.2.2 x hx
     exact kQ (by omega) (by omega) hx.1
 ·simp at h
theorem rK{t:Tm}{l:List Tm}{y:Tm}(h:yM t=(l,y,0)):zL t=true∧l.length=uW t∧l.length≤24∧uW y=0∧zL y=true∧∀x∈l,zL x=true:=by
 have:=m7 h
 refine⟨this.1,by omega,by omega,by omega,this.2.2.2.2.2.1,this.2.2.2.2.2.2⟩
def zDq:List Tm->Int->Bool
 | [],_=>true
 |a::l,n=>a.k==1&&a.n==n&&zDq l (n-1)
def rX(t:Tm)(of pars more binders:Int):Bool:=
 (hdT t).k==6&&(hdT t).n==of&&((arT t).length:Int)==pars+more&&zDq ((arT t).take pars.toNat) (binders-1)
theorem zDp(p:Tm×List Tm)(P:Nat)(binders:Int)(hP:P≤p.2.length)(hl:p.2.length≤8192)(hb:-1152921504606846976≤binders∧binders≤1152921504606846976):∀(m v:Nat),v+m=P ->
  Evt (fun q=>kU q (P:Int) binders p (v:Int)) (zDq ((p.2.take P).drop v) (binders-1-v)):=by
 intro m
 induction m with
 |zero=>
  intro v hm
  refine Evt.succ ?_
  simp only[kU]
  refine Evt.ifF (decide_eq_false (by omega)) (Evt.ret.eq ?_)
  rw[List.drop_eq_nil_of_le (by simp<;>omega),zDq]
 |succ m ih=>
  intro v hm
  refine Evt.succ ?_
  simp only[kU]
  have hv:v<(p.2.take P).length:=by simp<;>omega
  have hd:=List.drop_eq_getElem_cons hv
  have hg:zS p.2 (v:Int)=some (p.2.take P)[v]:=by
   unfold zS
   rw[if_pos (by omega),show (v:Int).toNat=v by omega,List.getElem?_eq_getElem (by omega)]
   simp
  generalize (p.2.take P)[v]=x at hd hg
  refine Evt.ifT (decide_eq_true (by omega)) (Evt.pure hg ?_)
  rw[hd,zDq,yJ (x:=binders-1) (by omega) (by omega),yJ (x:=binders-1-v) (by omega) (by omega)]
  by_cases h1:x.k=1
  ·refine Evt.ifF (by simp[h1]) ?_
   by_cases h2:x.n=binders-1-v
   ·refine Evt.ifF (by simp[h2]) ?_
    rw[zW v (by omega)]
    refine(ih (v+1) (by omega)).eq ?_
    rw[show binders-1-((v+1:Nat):Int)=binders-1-v-1 by omega]
    simp[h1,h2]
   ·exact Evt.ifT (by simp[h2]) (Evt.ret.eq (by simp[h2]))
  ·exact Evt.ifT (by simp[h1]) (Evt.ret.eq (by simp[h1]))
theorem cC(t:Tm)(of pars more binders:Int)(hs:zL t=true)(h0:0≤pars∧pars≤1152921504606846976)(h1:0≤more∧more≤1152921504606846976)(hb:-1152921504606846976≤binders∧binders≤1152921504606846976) :
  Evt (fun q=>zFF q t of pars more binders) (rX t of pars more binders):=by
 simp only[zFF]
 refine(nF t hs).bind ?_
 unfold rX
 by_cases h2:(hdT t).k=6
 ·refine Evt.ifF (by simp[h2]) ?_
  by_cases h3:(hdT t).n=of
  ·refine Evt.ifF (by simp[h3]) ?_
   rw[yJ (x:=pars+more) (by omega) (by omega)]
   by_cases h4:((arT t).length:Int)=pars+more
   ·refine Evt.ifF (by simp[h4]) ?_
    have hl:=uV t (zQ hs).2.2
    have hn:=(zQ hs).1
    have:=zDp (hdT t,arT t) pars.toNat binders (by show _≤(arT t).length;omega) (by show (arT t).length≤_;omega) hb pars.toNat 0 (by omega)
    rw[show ((pars.toNat:Nat):Int)=pars by omega]at this
    exact this.eq (by simp[h2,h3,h4])
   ·exact Evt.ifT (by simp[h4]) (Evt.ret.eq (by simp[h4]))
  ·exact Evt.ifT (by simp[h3]) (Evt.ret.eq (by simp[h3]))
 ·exact Evt.ifT (by simp[h2]) (Evt.ret.eq (by simp[h2]))
def kV:Nat->List ByteArray->Int->(List (ByteArray×Int))->Option Bool
 |0,_,_,_=>none
 |qq+1,p0,v9,yA=>
 if decide (v9<(p0.length:Int))then
 zS p0 v9>>=fun x2=>
 if decide ((zCa yA x2)>0)then
 some false
 else
 kV qq p0 (w64 (v9+1)) (R7 yA x2 (w64 ((zCa yA x2)+1)))
 else
 some true
def zJh(qq:Nat)(p0:List ByteArray):Option Bool:=
 kV qq p0 0 ([]:List (ByteArray×Int))
theorem zPE:∀qq:Nat,(∀ {p0 v9 yA r},kV qq p0 v9 yA=some r->(∀j,dL 0 (pt 4021 Tryz.f118) (sp j 22 0 [(3,.obj 0),(7,slv D5 p0 .no),(8,ai (p0.length:Int)),(9,ai v9)]) (⟨[(0,zAM yA)],1,[],0,[]⟩) (fQ 0 (nQ 0 Tryz.f118 (ab r) [] 0) [.blk 0,.seq (pt 63 Tryz.f118)]))):=by
 intro qq
 induction qq with
 |zero=>
  exact fun h=>nn h
 |succ qq ih=>
  intro p0 v9 yA r h
  rw[kV]at h
  obtain⟨h1,h⟩|⟨h1,h⟩:=spl h
  obtain⟨x2,h3,h⟩:=zC h
  have k:=oL 1 (zRE yA x2)<|oA 0 (zUD (o:=.no) h3)<|oB 0 h1 o0
  obtain⟨h4,h⟩|⟨h4,h⟩:=spl h
  cases h
  exact fun j=>lF 0 [] (oB 0 h4 k)
  exact fun j=>lH 1 [] [0] [] [3,7,8,9] (oD (dS p0)<|oU 1 (zUF yA x2 (w64 ((zCa yA x2)+1)))<|oL 0 (zRE yA x2)<|oB 0 h4 k) (ih h)
  cases h
  exact fun j=>lF 0 [] (oB 0 h1 o0)
theorem zVy{qq p0 r}(h:zJh qq p0=some r):Ct 118 [] [slv D5 p0 .no] (ab r) [] 0:=⟨by
 unfold zJh at h
 exact tH ⟨Tryz.func118,rfl⟩ 1 [] [0] [] [3,7,8,9] (oD (dS p0) o0) (zPE _ h),⟨⟨tv,dS _⟩,tv⟩,zB,tv,zB⟩
def zJg(qq:Nat)(p0:Int):Option Bool:=
 if decide (p0≥0)then
 if decide (p0≤1114111)then
 if decide (p0<55296)then
 some true
 else
 some (decide (p0>57343))
 else
 some false
 else
 some false
theorem zPF:Qf 217 Tryz.f217:=⟨Tryz.func217,rfl⟩
theorem zPG{qq p0 r}(h:zJg qq p0=some r):Ct 217 [] [ai p0] (ab r) [] 0:=⟨by
 unfold zJg at h
 obtain⟨h1,h⟩|⟨h1,h⟩:=spl h
 have k:=oB 0 h1 o0
 obtain⟨h2,h⟩|⟨h2,h⟩:=spl h
 have k:=oB 0 h2 k
 obtain⟨h3,h⟩|⟨h3,h⟩:=spl h
 cases h
 exact tF zPF 0 [] (oB 0 h3 k)
 cases h
 exact tF zPF 1 [] (oB 0 h3 k)
 cases h
 exact tF zPF 0 [] (oB 0 h2 k)
 cases h
 exact tF zPF 0 [] (oB 0 h1 o0),⟨tv,tv⟩,zB,tv,zB⟩
def zMl(qq:Nat)(p0:U8):Option (Int×Int):=
 if decide (p0<128)then
 some (1,(w64 (p0)))
 else
 if decide (p0≥192)then
 if decide (p0<224)then
 some (2,(w64 ((IntKind.u8.wrap ((BitVec.ofInt (IntKind.bits .u8) p0 &&& BitVec.ofInt (IntKind.bits .u8) 31).toNat:Nat)))))
 else
 if decide (p0≥224)then
 if decide (p0<240)then
 some (3,(w64 ((IntKind.u8.wrap ((BitVec.ofInt (IntKind.bits .u8) p0 &&& BitVec.ofInt (IntKind.bits .u8) 15).toNat:Nat)))))
 else
 if decide (p0≥240)then
 if decide (p0<248)then
 some (4,(w64 ((IntKind.u8.wrap ((BitVec.ofInt (IntKind.bits .u8) p0 &&& BitVec.ofInt (IntKind.bits .u8) 7).toNat:Nat)))))
 else
 some (0,0)
 else
 some (0,0)
 else
 if decide (p0≥240)then
 if decide (p0<248)then
 some (4,(w64 ((IntKind.u8.wrap ((BitVec.ofInt (IntKind.bits .u8) p0 &&& BitVec.ofInt (IntKind.bits .u8) 7).toNat:Nat)))))
 else
 some (0,0)
 else
 some (0,0)
 else
 if decide (p0≥224)then
 if decide (p0<240)then
 some (3,(w64 ((IntKind.u8.wrap ((BitVec.ofInt (IntKind.bits .u8) p0 &&& BitVec.ofInt (IntKind.bits .u8) 15).toNat:Nat)))))
 else
 if decide (p0≥240)then
 if decide (p0<248)then
 some (4,(w64 ((IntKind.u8.wrap ((BitVec.ofInt (IntKind.bits .u8) p0 &&& BitVec.ofInt (IntKind.bits .u8) 7).toNat:Nat)))))
 else
 some (0,0)
 else
 some (0,0)
 else
 if decide (p0≥240)then
 if decide (p0<248)then
 some (4,(w64 ((IntKind.u8.wrap ((BitVec.ofInt (IntKind.bits .u8) p0 &&& BitVec.ofInt (IntKind.bits .u8) 7).toNat:Nat)))))
 else
 some (0,0)
 else
 some (0,0)
theorem eK:Qf 228 Tryz.f228:=⟨Tryz.func228,rfl⟩
theorem zWP{qq p0 r}(h:zMl qq p0=some r):Ct 228 [] [.val (.int .u8 p0)] (.tup [ai r.1,ai r.2]) [] 0:=⟨by
 unfold zMl at h
 obtain⟨h1,h⟩|⟨h1,h⟩:=spl h
 cases h
 exact tF eK 1 [] (oB 0 h1 o0)
 have k:=oB 0 h1 o0
 obtain⟨h2,h⟩|⟨h2,h⟩:=spl h
 have k:=oB 0 h2 k
 obtain⟨h3,h⟩|⟨h3,h⟩:=spl h
 cases h
 exact tF eK 2 [] (oB 0 h3 k)
 have k:=oB 0 h3 k
 obtain⟨h4,h⟩|⟨h4,h⟩:=spl h
 have k:=oB 0 h4 k
 obtain⟨h5,h⟩|⟨h5,h⟩:=spl h
 cases h
 exact tF eK 2 [] (oB 0 h5 k)
 have k:=oB 0 h5 k
 obtain⟨h6,h⟩|⟨h6,h⟩:=spl h
 have k:=oB 0 h6 k
 obtain⟨h7,h⟩|⟨h7,h⟩:=spl h
 cases h
 exact tF eK 2 [] (oB 0 h7 k)
 cases h
 exact tF eK 0 [] (oB 0 h7 k)
 cases h
 exact tF eK 0 [] (oB 0 h6 k)
 have k:=oB 0 h4 k
 obtain⟨h8,h⟩|⟨h8,h⟩:=spl h
 have k:=oB 0 h8 k
 obtain⟨h9,h⟩|⟨h9,h⟩:=spl h
 cases h
 exact tF eK 2 [] (oB 0 h9 k)
 cases h
 exact tF eK 0 [] (oB 0 h9 k)
 cases h
 exact tF eK 0 [] (oB 0 h8 k)
 have k:=oB 0 h2 k
 obtain⟨h10,h⟩|⟨h10,h⟩:=spl h
 have k:=oB 0 h10 k
 obtain⟨h11,h⟩|⟨h11,h⟩:=spl h
 cases h
 exact tF eK 2 [] (oB 0 h11 k)
 have k:=oB 0 h11 k
 obtain⟨h12,h⟩|⟨h12,h⟩:=spl h
 have k:=oB 0 h12 k
 obtain⟨h13,h⟩|⟨h13,h⟩:=spl h
 cases h
 exact tF eK 2 [] (oB 0 h13 k)
 cases h
 exact tF eK 0 [] (oB 0 h13 k)
 cases h
 exact tF eK 0 [] (oB 0 h12 k)
 have k:=oB 0 h10 k
 obtain⟨h14,h⟩|⟨h14,h⟩:=spl h
 have k:=oB 0 h14 k
 obtain⟨h15,h⟩|⟨h15,h⟩:=spl h
 cases h
 exact tF eK 2 [] (oB 0 h15 k)
 cases h
 exact tF eK 0 [] (oB 0 h15 k)
 cases h
 exact tF eK 0 [] (oB 0 h14 k),⟨tv,tv⟩,zB,⟨tv,tv,tv⟩,zB⟩
def zMk(qq:Nat)(p0:Int):Option Int:=
 if decide (p0≥65536)then
 some 4
 else
 if decide (p0≥2048)then
 some 3
 else
 if decide (p0≥128)then
 some 2
 else
 some 1
theorem zPH:Qf 229 Tryz.f229:=⟨Tryz.func229,rfl⟩
theorem zWQ{qq p0 r}(h:zMk qq p0=some r):Ct 229 [] [ai p0] (ai r) [] 0:=⟨by
 unfold zMk at h
 obtain⟨h1,h⟩|⟨h1,h⟩:=spl h
 cases h
 exact tF zPH 3 [] (oB 0 h1 o0)
 have k:=oB 0 h1 o0
 obtain⟨h2,h⟩|⟨h2,h⟩:=spl h
 cases h
 exact tF zPH 2 [] (oB 0 h2 k)
 have k:=oB 0 h2 k
 obtain⟨h3,h⟩|⟨h3,h⟩:=spl h
 cases h
 exact tF zPH 1 [] (oB 0 h3 k)
 cases h
 exact tF zPH 0 [] (oB 0 h3 k),⟨tv,tv⟩,zB,tv,zB⟩
def kW:Nat->ByteArray->Int->(Int×Int)->Int->Int->Option (Int×Int×Int)
 |0,_,_,_,_,_=>none
 |qq+1,p0,p1,r5,v8,v9=>
 if decide (v9<r5.1)then
 R8 p0 (w64 (p1+v9))>>=fun x10=>
 if (IntKind.u8.wrap ((BitVec.ofInt (IntKind.bits .u8) x10 &&& BitVec.ofInt (IntKind.bits .u8) 192).toNat:Nat)) != 128 then
 some (0,0,1)
 else
 kW qq p0 p1 r5 (IntKind.i64.wrap ((BitVec.ofInt (IntKind.bits .i64) (w64 (v8*2 ^ (min (Int.toNat 6) (IntKind.bits .i64)))) ||| BitVec.ofInt (IntKind.bits .i64) (w64 ((IntKind.u8.wrap ((BitVec.ofInt (IntKind.bits .u8) x10 &&& BitVec.ofInt (IntKind.bits .u8) 63).toNat:Nat))))).toNat:Nat)) (w64 (v9+1))
 else
 zJg qq v8>>=fun r13=>
 if r13 then
 zMk qq v8>>=fun r16=>
 if r16 != r5.1 then
 some (0,0,1)
 else
 some (v8,r5.1,0)
 else
 some (0,0,1)
def zMj(qq:Nat)(p0:ByteArray)(p1:Int):Option (Int×Int×Int):=
 if decide (p1<0)then
 some (0,0,1)
 else
 if decide (p1≥(p0.size:Int))then
 some (0,0,1)
 else
 R8 p0 p1>>=fun x3=>
 zMl qq x3>>=fun r5=>
 if r5.1==0 then
 some (0,0,1)
 else
 if decide (r5.1>(w64 ((p0.size:Int)-p1)))then
 some (0,0,1)
 else
 kW qq p0 p1 r5 r5.2 1
theorem zMi:Qf 215 Tryz.f215:=⟨Tryz.func215,rfl⟩
theorem zPI:∀qq:Nat,(∀ {p0 p1 r5 v8 v9 r},kW qq p0 p1 r5 v8 v9=some r->(∀j,dL 0 (pt 65461 Tryz.f215) (sp j 66 0 [(0,at' p0),(1,ai p1),(7,ai r5.1),(8,ai v8),(9,ai v9)]) (⟨[],0,[],0,[]⟩) (fQ 0 (nQ 0 Tryz.f215 (.tup [ai r.1,ai r.2.1,ai r.2.2]) [] 0) [.blk 0,.seq (pt 1023 Tryz.f215)]))):=by
 intro qq
 induction qq with
 |zero=>
  exact fun h=>nn h
 |succ qq ih=>
  intro p0 p1 r5 v8 v9 r h
  rw[kW]at h
  obtain⟨h9,h⟩|⟨h9,h⟩:=spl h
  obtain⟨x10,h11,h⟩:=zC h
  have k:=oA 1 (zLG h11)<|oB 0 h9 o0
  obtain⟨h12,h⟩|⟨h12,h⟩:=spl h
  cases h
  exact fun j=>lF 0 [] (oB 1 h12 k)
  exact fun j=>lH 5 [] [] [] [0,1,7,8,9] (oB 1 h12 k) (ih h)
  obtain⟨r13,h14,h⟩:=zC h
  have k:=oB 0 h9 o0
  obtain⟨h15,h⟩|⟨h15,h⟩:=spl h
  obtain⟨r16,h17,h⟩:=zC h
  have k:=oC 1 [] (zWQ h17)<|oK 0 [] h15 (zPG h14) k
  obtain⟨h18,h⟩|⟨h18,h⟩:=spl h
  cases h
  exact fun j=>lF 0 [] (oB 0 h18 k)
  cases h
  exact fun j=>lF 0 [] (oB 0 h18 k)
  cases h
  exact fun j=>lF 1 [] (oK 0 [] h15 (zPG h14) k)
theorem zWR{qq p0 p1 r}(h:zMj qq p0 p1=some r):Ct 215 [] [at' p0,ai p1] (.tup [ai r.1,ai r.2.1,ai r.2.2]) [] 0:=⟨by
 unfold zMj at h
 obtain⟨h1,h⟩|⟨h1,h⟩:=spl h
 cases h
 exact tF zMi 0 [] (oB 0 h1 o0)
 have k:=oB 0 h1 o0
 obtain⟨h2,h⟩|⟨h2,h⟩:=spl h
 cases h
 exact tF zMi 0 [] (oB 1 h2 k)
 obtain⟨x3,h4,h⟩:=zC h
 obtain⟨r5,h6,h⟩:=zC h
 have k:=oC 0 [] (zWP h6)<|oA 0 (zLG h4)<|oB 1 h2 k
 obtain⟨h7,h⟩|⟨h7,h⟩:=spl h
 cases h
 exact tF zMi 0 [] (oB 2 h7 k)
 have k:=oB 2 h7 k
 obtain⟨h8,h⟩|⟨h8,h⟩:=spl h
 cases h
 exact tF zMi 0 [] (oB 2 h8 k)
 exact tH zMi 0 [] [] [] [0,1,7,8,9] (oB 2 h8 k) (zPI _ h),⟨tv,tv,tv⟩,zB,⟨tv,tv,tv,tv⟩,zB⟩
def kX:Nat->ByteArray->List Int->Int->Option (List Int×Int×Int)
 |0,_,_,_=>none
 |qq+1,p0,v5,v6=>
 if decide (v6<(p0.size:Int))then
 zMj qq p0 v6>>=fun r3=>
 if r3.2.2 != 0 then
 some ([],v6,r3.2.2)
 else
 yN 8 v5 [r3.1]>>=fun l6=>
 kX qq p0 l6 (w64 (v6+r3.2.1))
 else
 some (v5,(p0.size:Int),0)
def zMh(qq:Nat)(p0:ByteArray):Option (List Int×Int×Int):=
 if decide ((p0.size:Int)>65535)then
 some ([],0,2)
 else
 kX qq p0 [] 0
theorem zVx:Qf 185 Tryz.f185:=⟨Tryz.func185,rfl⟩
theorem zPJ:∀qq:Nat,(∀ {p0 v5 v6 r},kX qq p0 v5 v6=some r->(∀j,dL 0 (pt 16309 Tryz.f185) (sp j 38 0 [(0,at' p0),(5,slv yB v5 (.st 0 1)),(6,ai v6)]) (⟨[],0,[0],1,[]⟩) (fQ 0 (nQ 0 Tryz.f185 (.tup [.sl (zK yB r.1) r.1.length .no,ai r.2.1,ai r.2.2]) [] 0) [.blk 0,.seq (pt 255 Tryz.f185)]))):=by
 intro qq
 induction qq with
 |zero=>
  exact fun h=>nn h
 |succ qq ih=>
  intro p0 v5 v6 r h
  rw[kX]at h
  obtain⟨h2,h⟩|⟨h2,h⟩:=spl h
  obtain⟨r3,h4,h⟩:=zC h
  have k:=oC 0 [] (zWR h4)<|oB 1 h2 o0
  obtain⟨h5,h⟩|⟨h5,h⟩:=spl h
  cases h
  exact fun j=>lF 0 [] (oD (dI ([]:List Int))<|oB 3 h5 k)
  obtain⟨l6,h7,h⟩:=zC h
  exact fun j=>lH 1 [] [] [1] [0,5,6] (oD (dI l6)<|oP 1 (lD h7 (by simp))<|oB 3 h5 k) (ih h)
  cases h
  exact fun j=>lF 1 [] (oD (dI v5)<|oB 1 h2 o0)
theorem zWS{qq p0 r}(h:zMh qq p0=some r):Ct 185 [] [at' p0] (.tup [.sl (zK yB r.1) r.1.length .no,ai r.2.1,ai r.2.2]) [] 0:=⟨by
 unfold zMh at h
 obtain⟨h1,h⟩|⟨h1,h⟩:=spl h
 cases h
 exact tF zVx 0 [] (oD (dI ([]:List Int))<|oB 1 h1 o0)
 exact tH zVx 0 [(none,5,1)] [] [0] [0,5,6] (oD (dI ([]:List Int))<|oB 1 h1 o0) (zPJ _ h),⟨tv,tv⟩,zB,⟨dI _,tv,tv,tv⟩,zB⟩
def zMg(qq:Nat)(p0:ByteArray):Option Bool:=
 if p0.toList==(⟨#[100,97,116,97]⟩:ByteArray).toList then
 some true
 else
 if p0.toList==(⟨#[114,101,99,111,114,100]⟩:ByteArray).toList then
 some true
 else
 if p0.toList==(⟨#[100,101,102]⟩:ByteArray).toList then
 some true
 else
 if p0.toList==(⟨#[83,101,116]⟩:ByteArray).toList then
 some true
 else
 some false
theorem zMf:Qf 186 Tryz.f186:=⟨Tryz.func186,rfl⟩
theorem zVw{qq p0 r}(h:zMg qq p0=some r):Ct 186 [] [at' p0] (ab r) [] 0:=⟨by
 unfold zMg at h
 obtain⟨h1,h⟩|⟨h1,h⟩:=spl h
 cases h
 exact tF zMf 0 [] (oB 0 h1 o0)
 have k:=oB 0 h1 o0
 obtain⟨h2,h⟩|⟨h2,h⟩:=spl h
 cases h
 exact tF zMf 0 [] (oB 0 h2 k)
 have k:=oB 0 h2 k
 obtain⟨h3,h⟩|⟨h3,h⟩:=spl h
 cases h
 exact tF zMf 0 [] (oB 0 h3 k)
 have k:=oB 0 h3 k
 obtain⟨h4,h⟩|⟨h4,h⟩:=spl h
 cases h
 exact tF zMf 0 [] (oB 0 h4 k)
 cases h
 exact tF zMf 0 [] (oB 0 h4 k),⟨tv,tv⟩,zB,tv,zB⟩
def zMe(qq:Nat)(p0:Int):Option Bool:=
 if p0==40 then
 some true
 else
 if p0==41 then
 some true
 else
 if p0==123 then
 some true
 else
 if p0==125 then
 some true
 else
 if p0==58 then
 some true
 else
 if p0==61 then
 some true
 else
 if p0==46 then
 some true
 else
 if p0==44 then
 some true
 else
 if p0==59 then
 some true
 else
 if p0==124 then
 some true
 else
 if p0==92 then
 some true
 else
 if p0==45 then
 some true
 else
 if p0==62 then
 some true
 else
 if p0==955 then
 some true
 else
 if p0==8594 then
 some true
 else
 some false
theorem eL:Qf 218 Tryz.f218:=⟨Tryz.func218,rfl⟩
theorem zVv{qq p0 r}(h:zMe qq p0=some r):Ct 218 [] [ai p0] (ab r) [] 0:=⟨by
 unfold zMe at h
 obtain⟨h1,h⟩|⟨h1,h⟩:=spl h
 cases h
 exact tF eL 0 [] (oB 0 h1 o0)
 have k:=oB 0 h1 o0
 obtain⟨h2,h⟩|⟨h2,h⟩:=spl h
 cases h
 exact tF eL 0 [] (oB 0 h2 k)
 have k:=oB 0 h2 k
 obtain⟨h3,h⟩|⟨h3,h⟩:=spl h
 cases h
 exact tF eL 0 [] (oB 0 h3 k)
 have k:=oB 0 h3 k
 obtain⟨h4,h⟩|⟨h4,h⟩:=spl h
 cases h
 exact tF eL 0 [] (oB 0 h4 k)
 have k:=oB 0 h4 k
 obtain⟨h5,h⟩|⟨h5,h⟩:=spl h
 cases h
 exact tF eL 0 [] (oB 0 h5 k)
 have k:=oB 0 h5 k
 obtain⟨h6,h⟩|⟨h6,h⟩:=spl h
 cases h
 exact tF eL 0 [] (oB 0 h6 k)
 have k:=oB 0 h6 k
 obtain⟨h7,h⟩|⟨h7,h⟩:=spl h
 cases h
 exact tF eL 0 [] (oB 0 h7 k)
 have k:=oB 0 h7 k
 obtain⟨h8,h⟩|⟨h8,h⟩:=spl h
 cases h
 exact tF eL 0 [] (oB 0 h8 k)
 have k:=oB 0 h8 k
 obtain⟨h9,h⟩|⟨h9,h⟩:=spl h
 cases h
 exact tF eL 0 [] (oB 0 h9 k)
 have k:=oB 0 h9 k
 obtain⟨h10,h⟩|⟨h10,h⟩:=spl h
 cases h
 exact tF eL 0 [] (oB 0 h10 k)
 have k:=oB 0 h10 k
 obtain⟨h11,h⟩|⟨h11,h⟩:=spl h
 cases h
 exact tF eL 0 [] (oB 0 h11 k)
 have k:=oB 0 h11 k
 obtain⟨h12,h⟩|⟨h12,h⟩:=spl h
 cases h
 exact tF eL 0 [] (oB 0 h12 k)
 have k:=oB 0 h12 k
 obtain⟨h13,h⟩|⟨h13,h⟩:=spl h
 cases h
 exact tF eL 0 [] (oB 0 h13 k)
 have k:=oB 0 h13 k
 obtain⟨h14,h⟩|⟨h14,h⟩:=spl h
 cases h
 exact tF eL 0 [] (oB 0 h14 k)
 have k:=oB 0 h14 k
 obtain⟨h15,h⟩|⟨h15,h⟩:=spl h
 cases h
 exact tF eL 0 [] (oB 0 h15 k)
 cases h
 exact tF eL 0 [] (oB 0 h15 k),⟨tv,tv⟩,zB,tv,zB⟩
def zJf(qq:Nat)(p0:Int):Option Bool:=
 if decide (p0<128)then
 if decide (p0≥97)then
 if decide (p0≤122)then
 some true
 else
 if decide (p0≥65)then
 some (decide (p0≤90))
 else
 some false
 else
 if decide (p0≥65)then
 some (decide (p0≤90))
 else
 some false
 else
 zJg qq p0>>=fun r6=>
 if r6 then
 zMe qq p0>>=fun r9=>
 if r9 then
 some false
 else
 if p0 != 160 then
 if decide (p0<8192)then
 some true
 else
 some (decide (p0>8303))
 else
 some false
 else
 some false
theorem w7:Qf 188 Tryz.f188:=⟨Tryz.func188,rfl⟩
theorem zPK{qq p0 r}(h:zJf qq p0=some r):Ct 188 [] [ai p0] (ab r) [] 0:=⟨by
 unfold zJf at h
 obtain⟨h1,h⟩|⟨h1,h⟩:=spl h
 have k:=oB 0 h1 o0
 obtain⟨h2,h⟩|⟨h2,h⟩:=spl h
 have k:=oB 0 h2 k
 obtain⟨h3,h⟩|⟨h3,h⟩:=spl h
 cases h
 exact tF w7 0 [] (oB 0 h3 k)
 have k:=oB 0 h3 k
 obtain⟨h4,h⟩|⟨h4,h⟩:=spl h
 cases h
 exact tF w7 1 [] (oB 0 h4 k)
 cases h
 exact tF w7 0 [] (oB 0 h4 k)
 have k:=oB 0 h2 k
 obtain⟨h5,h⟩|⟨h5,h⟩:=spl h
 cases h
 exact tF w7 1 [] (oB 0 h5 k)
 cases h
 exact tF w7 0 [] (oB 0 h5 k)
 obtain⟨r6,h7,h⟩:=zC h
 have k:=oB 0 h1 o0
 obtain⟨h8,h⟩|⟨h8,h⟩:=spl h
 obtain⟨r9,h10,h⟩:=zC h
 have k:=oK 0 [] h8 (zPG h7) k
 obtain⟨h11,h⟩|⟨h11,h⟩:=spl h
 cases h
 exact tF w7 1 [] (oK 0 [] h11 (zVv h10) k)
 have k:=oK 0 [] h11 (zVv h10) k
 obtain⟨h12,h⟩|⟨h12,h⟩:=spl h
 have k:=oB 1 h12 k
 obtain⟨h13,h⟩|⟨h13,h⟩:=spl h
 cases h
 exact tF w7 0 [] (oB 0 h13 k)
 cases h
 exact tF w7 1 [] (oB 0 h13 k)
 cases h
 exact tF w7 0 [] (oB 1 h12 k)
 cases h
 exact tF w7 0 [] (oK 0 [] h8 (zPG h7) k),⟨tv,tv⟩,zB,tv,zB⟩
def zMd(qq:Nat)(p0:Int):Option Bool:=
 if decide (p0≥48)then
 some (decide (p0≤57))
 else
 some false
theorem zVu:Qf 216 Tryz.f216:=⟨Tryz.func216,rfl⟩
theorem zVt{qq p0 r}(h:zMd qq p0=some r):Ct 216 [] [ai p0] (ab r) [] 0:=⟨by
 unfold zMd at h
 obtain⟨h1,h⟩|⟨h1,h⟩:=spl h
 cases h
 exact tF zVu 1 [] (oB 0 h1 o0)
 cases h
 exact tF zVu 0 [] (oB 0 h1 o0),⟨tv,tv⟩,zB,tv,zB⟩
def zMc(qq:Nat)(p0:Int):Option Bool:=
 zJf qq p0>>=fun r1=>
 if r1 then
 some true
 else
 zMd qq p0>>=fun r4=>
 if r4 then
 some true
 else
 if p0==95 then
 some true
 else
 some (p0==39)
theorem zPL:Qf 187 Tryz.f187:=⟨Tryz.func187,rfl⟩
theorem zVs{qq p0 r}(h:zMc qq p0=some r):Ct 187 [] [ai p0] (ab r) [] 0:=⟨by
 unfold zMc at h
 obtain⟨r1,h2,h⟩:=zC h
 obtain⟨h3,h⟩|⟨h3,h⟩:=spl h
 cases h
 exact tF zPL 0 [] (oK 0 [] h3 (zPK h2) o0)
 obtain⟨r4,h5,h⟩:=zC h
 have k:=oK 0 [] h3 (zPK h2) o0
 obtain⟨h6,h⟩|⟨h6,h⟩:=spl h
 cases h
 exact tF zPL 0 [] (oK 0 [] h6 (zVt h5) k)
 have k:=oK 0 [] h6 (zVt h5) k
 obtain⟨h7,h⟩|⟨h7,h⟩:=spl h
 cases h
 exact tF zPL 0 [] (oB 0 h7 k)
 cases h
 exact tF zPL 1 [] (oB 0 h7 k),⟨tv,tv⟩,zB,tv,zB⟩
def kY:Nat->(List Int×Int×Int)->Int->Option Bool
 |0,_,_=>none
 |qq+1,r1,v32=>
 if decide (v32<(r1.1.length:Int))then
 zS r1.1 v32>>=fun x10=>
 zMc qq x10>>=fun r12=>
 if r12 then
 kY qq r1 (w64 (v32+1))
 else
 some false
 else
 zS r1.1 0>>=fun x15=>
 zJf qq x15>>=fun r17=>
 if r17 then
 some true
 else
 if x15==95 then
 some (decide ((r1.1.length:Int)>1))
 else
 some false
def zFH(qq:Nat)(p0:ByteArray):Option Bool:=
 zMh qq p0>>=fun r1=>
 if r1.2.2 != 0 then
 some false
 else
 if (r1.1.length:Int)==0 then
 some false
 else
 if decide ((p0.size:Int)>40)then
 some false
 else
 zMg qq p0>>=fun r6=>
 if r6 then
 some false
 else
 kY qq r1 0
theorem zMb:Qf 152 Tryz.f152:=⟨Tryz.func152,rfl⟩
theorem zPM:∀qq:Nat,(∀ {r1 v32 r},kY qq r1 v32=some r->(∀j,dL 0 (pt 16309 Tryz.f152) (sp j 55 0 [(3,slv yB r1.1 .no),(30,slv yB r1.1 .no),(31,ai (r1.1.length:Int)),(32,ai v32)]) (⟨[],0,[],0,[]⟩) (fQ 0 (nQ 0 Tryz.f152 (ab r) [] 0) [.blk 0,.seq (pt 255 Tryz.f152)]))):=by
 intro qq
 induction qq with
 |zero=>
  exact fun h=>nn h
 |succ qq ih=>
  intro r1 v32 r h
  rw[kY]at h
  obtain⟨h9,h⟩|⟨h9,h⟩:=spl h
  obtain⟨x10,h11,h⟩:=zC h
  obtain⟨r12,h13,h⟩:=zC h
  have k:=oA 0 (nU (o:=.no) h11)<|oB 0 h9 o0
  obtain⟨h14,h⟩|⟨h14,h⟩:=spl h
  exact fun j=>lH 2 [] [] [] [3,30,31,32] (oD (dI r1.1)<|oD (dI r1.1)<|oK 1 [] h14 (zVs h13) k) (ih h)
  cases h
  exact fun j=>lF 1 [] (oK 1 [] h14 (zVs h13) k)
  obtain⟨x15,h16,h⟩:=zC h
  obtain⟨r17,h18,h⟩:=zC h
  have k:=oA 0 (nU (o:=.no) h16)<|oB 0 h9 o0
  obtain⟨h19,h⟩|⟨h19,h⟩:=spl h
  cases h
  exact fun j=>lF 0 [] (oK 1 [] h19 (zPK h18) k)
  have k:=oA 0 (nU (o:=.no) h16)<|oK 1 [] h19 (zPK h18) k
  obtain⟨h20,h⟩|⟨h20,h⟩:=spl h
  cases h
  exact fun j=>lF 2 [] (oB 1 h20 k)
  cases h
  exact fun j=>lF 0 [] (oB 1 h20 k)
theorem zVr{qq p0 r}(h:zFH qq p0=some r):Ct 152 [] [at' p0] (ab r) [] 0:=⟨by
 unfold zFH at h
 obtain⟨r1,h2,h⟩:=zC h
 have k:=oC 0 [] (zWS h2) o0
 obtain⟨h3,h⟩|⟨h3,h⟩:=spl h
 cases h
 exact tF zMb 0 [] (oB 3 h3 k)
 have k:=oB 3 h3 k
 obtain⟨h4,h⟩|⟨h4,h⟩:=spl h
 cases h
 exact tF zMb 0 [] (oB 1 h4 k)
 have k:=oB 1 h4 k
 obtain⟨h5,h⟩|⟨h5,h⟩:=spl h
 cases h
 exact tF zMb 0 [] (oB 1 h5 k)
 obtain⟨r6,h7,h⟩:=zC h
 have k:=oB 1 h5 k
 obtain⟨h8,h⟩|⟨h8,h⟩:=spl h
 cases h
 exact tF zMb 0 [] (oK 0 [] h8 (zVw h7) k)
 exact tH zMb 1 [] [] [] [3,30,31,32] (oD (dI r1.1)<|oD (dI r1.1)<|oK 0 [] h8 (zVw h7) k) (zPM _ h),⟨tv,tv⟩,zB,tv,zB⟩
theorem zMa(c:Int):Tot (fun q=>zMl q c) fun r=>0≤r.1∧r.1≤4:=by
 simp only[zMl]
 repeat' (first|exact Tot.ret ⟨by simp,by simp⟩|refine Tot.ite (fun _=>?_) (fun _=>?_))
theorem zJe(n:Int):Tot (fun q=>zMk q n) fun _=>True:=by
 simp only[zMk]
 repeat' (first|exact Tot.ret trivial|refine Tot.ite (fun _=>?_) (fun _=>?_))
theorem T8(n:Int):Tot (fun q=>zJg q n) fun _=>True:=by
 simp only[zJg]
 repeat' (first|exact Tot.ret trivial|refine Tot.ite (fun _=>?_) (fun _=>?_))
theorem zDo{s:ByteArray}{i:Int}(h0:0≤i)(h1:i<s.size):∃c,R8 s i=some c:=by
 unfold R8
 simp[h0,h1]
theorem zJd(s:ByteArray)(a:Int)(w:Int×Int)(ha:0≤a)(hs:s.size≤65535)(hw:a+w.1≤s.size)(hw1:1≤w.1):∀(m:Nat) (i n:Int),1≤i->i+m=w.1->Tot (fun q=>kW q s a w n i) fun r=>r.2.2=0->r.2.1=w.1:=by
 intro m
 induction m with
 |zero=>
  intro i n hi hm
  refine Tot.succ ?_
  simp only[kW]
  refine Tot.ite (fun h=>absurd (of_decide_eq_true h) (by omega)) fun _=>(T8 n).bind fun b _=>?_
  refine Tot.ite (fun _=>(zJe n).bind fun c _=>Tot.ite (fun _=>Tot.ret (by simp)) fun _=>Tot.ret (by simp)) fun _=>Tot.ret (by simp)
 |succ m ih=>
  intro i n hi hm
  refine Tot.succ ?_
  simp only[kW]
  obtain⟨c,hc⟩:=zDo (s:=s) (i:=a+i) (by omega) (by omega)
  refine Tot.ite (fun _=>Tot.pure (a:=c) (by rw[yJ (by omega) (by omega)];exact hc) (Tot.ite (fun _=>Tot.ret (by simp)) fun _=>?_)) fun h=>absurd (of_decide_eq_false h) (by omega)
  rw[yJ (x:=i+1) (by omega) (by omega)]
  exact ih (i+1) _ (by omega) (by omega)
theorem zMA(s:ByteArray)(a:Int)(ha:0≤a)(hs:s.size≤65535):Tot (fun q=>zMj q s a) fun r=>r.2.2=0->1≤r.2.1∧a+r.2.1≤s.size:=by
 simp only[zMj]
 refine Tot.ite (fun _=>Tot.ret (by simp)) fun _=>Tot.ite (fun _=>Tot.ret (by simp)) fun h=>?_
 have h1:=of_decide_eq_false h
 obtain⟨c,hc⟩:=zDo (s:=s) (i:=a) ha (by omega)
 refine Tot.pure hc ((zMa c).bind fun w hw=>Tot.ite (fun _=>Tot.ret (by simp)) fun h2=>Tot.ite (fun _=>Tot.ret (by simp)) fun h3=>?_)
 have h4:=of_decide_eq_false h3
 rw[yJ (by omega) (by omega)]at h4
 have h5:w.1≠0:=by simpa using h2
 refine(zJd s a w ha hs (by omega) (by omega) (w.1-1).toNat 1 w.2 (by omega) (by omega)).mono fun r hr h6=>?_
 have:=hr h6
 omega
theorem zMB(s:ByteArray)(hs:s.size≤65535):∀(m:Nat) (a:Int) (acc:List Int),0≤a->a≤s.size->(s.size:Int)-a≤m->(acc.length:Int)≤a->Tot (fun q=>kX q s acc a) fun r=>r.1.length≤65535:=by
 intro m
 induction m with
 |zero=>
  intro a acc h0 h1 hm hl
  refine Tot.succ ?_
  simp only[kX]
  refine Tot.ite (fun h=>absurd (of_decide_eq_true h) (by omega)) fun _=>Tot.ret (by show acc.length≤65535;omega)
 |succ m ih=>
  intro a acc h0 h1 hm hl
  refine Tot.succ ?_
  simp only[kX]
  refine Tot.ite (fun _=>(zMA s a h0 hs).bind fun r hr=>Tot.ite (fun _=>Tot.ret (by simp)) fun h=>Tot.pure (yG (by simp<;>omega)) ?_) fun _=>Tot.ret (by show acc.length≤65535;omega)
  have:=hr (by simpa using h)
  rw[yJ (by omega) (by omega)]
  exact ih (a+r.2.1) _ (by omega) (by omega) (by omega) (by simp;omega)
theorem zPN(s:ByteArray):Tot (fun q=>zMh q s) fun r=>r.1.length≤65535:=by
 simp only[zMh]
 refine Tot.ite (fun _=>Tot.ret (by simp)) fun h=>?_
 have:=of_decide_eq_false h
 exact zMB s (by omega) s.size 0 [] (by omega) (by omega) (by omega) (by simp)
theorem zMC(n:Int):Tot (fun q=>zMe q n) fun _=>True:=by
 simp only[zMe]
 repeat' (first|exact Tot.ret trivial|refine Tot.ite (fun _=>?_) (fun _=>?_))
theorem T9(n:Int):Tot (fun q=>zJf q n) fun _=>True:=by
 simp only[zJf]
 repeat' (first|exact Tot.ret trivial|refine Tot.ite (fun _=>?_) (fun _=>?_)|refine Tot.bind (T8 n) (fun _ _=>?_)|refine Tot.bind (zMC n) (fun _ _=>?_))
theorem zJc(n:Int):Tot (fun q=>zMd q n) fun _=>True:=by
 simp only[zMd]
 repeat' (first|exact Tot.ret trivial|refine Tot.ite (fun _=>?_) (fun _=>?_))
theorem zJb(n:Int):Tot (fun q=>zMc q n) fun _=>True:=by
 simp only[zMc]
 repeat' (first|exact Tot.ret trivial|refine Tot.ite (fun _=>?_) (fun _=>?_)|refine Tot.bind (T9 n) (fun _ _=>?_)|refine Tot.bind (zJc n) (fun _ _=>?_))
theorem zDn(s:ByteArray):Tot (fun q=>zMg q s) fun _=>True:=by
 simp only[zMg]
 repeat' (first|exact Tot.ret trivial|refine Tot.ite (fun _=>?_) (fun _=>?_))
theorem J8(r1:List Int×Int×Int)(h0:0<r1.1.length)(h1:r1.1.length≤65535):∀(l:List Int) (v:Nat),r1.1.drop v=l->Tot (fun q=>kY q r1 (v:Int)) fun _=>True
 | [],v,hd=>by
  refine Tot.succ ?_
  simp only[kY]
  obtain⟨y,hy⟩:∃y,zS r1.1 0=some y:=⟨_,by unfold zS;rw[if_pos (by omega)];exact List.getElem?_eq_getElem h0⟩
  refine Tot.ite (fun h=>?_) fun _=>Tot.pure hy ?_
  ·rw[zZ hd]at h;cases h
  ·repeat' (first|exact Tot.ret trivial|refine Tot.ite (fun _=>?_) (fun _=>?_)|refine Tot.bind (T9 y) (fun _ _=>?_))
 |x::l,v,hd=>by
  have hlt:=yC hd
  refine Tot.succ ?_
  simp only[kY]
  refine Tot.ite (fun _=>Tot.pure (zX hd) ((zJb x).bind fun b _=>Tot.ite (fun _=>?_) fun _=>Tot.ret trivial)) fun h=>?_
  ·rw[zW v (by omega)]
   exact J8 r1 h0 h1 l (v+1) (zU hd)
  ·rw[zY hd]at h;cases h
theorem zFI(s:ByteArray):Tot (fun q=>zFH q s) fun _=>True:=by
 simp only[zFH]
 refine(zPN s).bind fun r hr=>Tot.ite (fun _=>Tot.ret trivial) fun _=>Tot.ite (fun _=>Tot.ret trivial) fun h=>Tot.ite (fun _=>Tot.ret trivial) fun _=>(zDn s).bind fun _ _=>Tot.ite (fun _=>Tot.ret trivial) fun _=>?_
 exact J8 r (by simp at h;exact List.length_pos_iff.2 h) hr r.1 0 rfl
theorem eX:∀(r l:List ByteArray) (v:Nat) (m:List (ByteArray×Int)),l.drop v=r->l.length≤65535->Tot (fun q=>kV q l (v:Int) m) fun _=>True
 | [],l,v,m,hd,hl=>by
  refine Tot.succ ?_
  simp only[kV]
  refine Tot.ite (fun h=>?_) fun _=>Tot.ret trivial
  rw[zZ hd]at h;cases h
 |x::r,l,v,m,hd,hl=>by
  have hlt:=yC hd
  refine Tot.succ ?_
  simp only[kV]
  refine Tot.ite (fun _=>Tot.pure (zX hd) (Tot.ite (fun _=>Tot.ret trivial) fun _=>?_)) fun h=>?_
  ·rw[zW v (by omega)]
   exact eX r l (v+1) _ (zU hd) hl
  ·rw[zY hd]at h;cases h
theorem zBz(l:List ByteArray)(hl:l.length≤65535):Tot (fun q=>zJh q l) fun _=>True:=by
 simp only[zJh]
 exact eX l l 0 _ rfl hl
def zJa(qq:Nat)(p0:Tm)(p1:Int):Option Bool:=
 Z9 qq p0 0 p1>>=fun r1=>
 if r1 then
 z8 qq p0>>=fun r4=>
 some ((r4.length:Int)==0)
 else
 some false
theorem zVq:Qf 153 Tryz.f153:=⟨Tryz.func153,rfl⟩
theorem zPO{qq p0 p1 r}(h:zJa qq p0 p1=some r):Ct 153 [] [tmA p0,ai p1] (ab r) [] 0:=⟨by
 unfold zJa at h
 obtain⟨r1,h2,h⟩:=zC h
 obtain⟨h3,h⟩|⟨h3,h⟩:=spl h
 obtain⟨r4,h5,h⟩:=zC h
 cases h
 exact tF zVq 2 [] (oC 1 [] (zJq h5)<|oK 1 [] h3 (z7 h2) o0)
 cases h
 exact tF zVq 0 [] (oK 1 [] h3 (z7 h2) o0),⟨⟨tv,tv,⟨tv,dT _⟩,tv⟩,tv,tv⟩,zB,tv,zB⟩
def zJA(qq:Nat)(p0:Tm):Option Bool:=
 if p0.k==0 then
 if p0.n==0 then
 some ((p0.sub.length:Int)==0)
 else
 some false
 else
 some false
theorem zSF:Qf 189 Tryz.f189:=⟨Tryz.func189,rfl⟩
theorem zPP{qq p0 r}(h:zJA qq p0=some r):Ct 189 [] [tmA p0] (ab r) [] 0:=⟨by
 unfold zJA at h
 obtain⟨h1,h⟩|⟨h1,h⟩:=spl h
 have k:=oB 1 h1 o0
 obtain⟨h2,h⟩|⟨h2,h⟩:=spl h
 cases h
 exact tF zSF 3 [] (oB 1 h2 k)
 cases h
 exact tF zSF 0 [] (oB 1 h2 k)
 cases h
 exact tF zSF 0 [] (oB 1 h1 o0),⟨⟨tv,tv,⟨tv,dT _⟩,tv⟩,tv⟩,zB,tv,zB⟩
def kZ:Nat->List Int->Int->Int->Option Bool
 |0,_,_,_=>none
 |qq+1,p0,p1,v9=>
 if decide (v9<(p0.length:Int))then
 zS p0 v9>>=fun x2=>
 if x2 != (w64 (p1+v9))then
 some false
 else
 kZ qq p0 p1 (w64 (v9+1))
 else
 some true
def zJB(qq:Nat)(p0:List Int)(p1:Int):Option Bool:=
 kZ qq p0 p1 0
theorem zPQ:∀qq:Nat,(∀ {p0 p1 v9 r},kZ qq p0 p1 v9=some r->(∀j,dL 0 (pt 949 Tryz.f191) (sp j 20 0 [(1,ai p1),(7,slv yB p0 .no),(8,ai (p0.length:Int)),(9,ai v9)]) (⟨[],0,[],0,[]⟩) (fQ 0 (nQ 0 Tryz.f191 (ab r) [] 0) [.blk 0,.seq (pt 15 Tryz.f191)]))):=by
 intro qq
 induction qq with
 |zero=>
  exact fun h=>nn h
 |succ qq ih=>
  intro p0 p1 v9 r h
  rw[kZ]at h
  obtain⟨h1,h⟩|⟨h1,h⟩:=spl h
  obtain⟨x2,h3,h⟩:=zC h
  have k:=oA 0 (nU (o:=.no) h3)<|oB 0 h1 o0
  obtain⟨h4,h⟩|⟨h4,h⟩:=spl h
  cases h
  exact fun j=>lF 0 [] (oB 2 h4 k)
  exact fun j=>lH 1 [] [] [] [1,7,8,9] (oD (dI p0)<|oB 2 h4 k) (ih h)
  cases h
  exact fun j=>lF 0 [] (oB 0 h1 o0)
theorem zPR{qq p0 p1 r}(h:zJB qq p0 p1=some r):Ct 191 [] [slv yB p0 .no,ai p1] (ab r) [] 0:=⟨by
 unfold zJB at h
 exact tH ⟨Tryz.func191,rfl⟩ 1 [] [] [] [1,7,8,9] (oD (dI p0) o0) (zPQ _ h),⟨⟨tv,dI _⟩,tv,tv⟩,zB,tv,zB⟩
def zFJ(qq:Nat)(p0:List Ent)(p1 p2:Int):Option Bool:=
 if decide (p1≥0)then
 if decide (p1<(p0.length:Int))then
 zS p0 p1>>=fun x3=>
 some (x3.kind==p2)
 else
 some false
 else
 some false
theorem zSG:Qf 195 Tryz.f195:=⟨Tryz.func195,rfl⟩
theorem zJC{qq p0 p1 p2 r}(h:zFJ qq p0 p1 p2=some r):Ct 195 [] [slv yP p0 .no,ai p1,ai p2] (ab r) [] 0:=⟨by
 unfold zFJ at h
 obtain⟨h1,h⟩|⟨h1,h⟩:=spl h
 have k:=oB 0 h1 o0
 obtain⟨h2,h⟩|⟨h2,h⟩:=spl h
 obtain⟨x3,h4,h⟩:=zC h
 cases h
 exact tF zSG 2 [] (oA 0 (xL (o:=.no) h4)<|oB 1 h2 k)
 cases h
 exact tF zSG 0 [] (oB 1 h2 k)
 cases h
 exact tF zSG 0 [] (oB 0 h1 o0),⟨⟨tv,dE _⟩,tv,tv,tv⟩,zB,tv,zB⟩
def jA:Nat->List Ent->Int->List Int->Int->Int->Option Bool
 |0,_,_,_,_,_=>none
 |qq+1,p0,p1,p2,p3,v13=>
 if decide (v13<(p2.length:Int))then
 zS p2 v13>>=fun x2=>
 zFJ qq p0 x2 p3>>=fun r4=>
 if r4 then
 zS p0 x2>>=fun x7=>
 if x7.fam != p1 then
 some false
 else
 if x7.place != v13 then
 some false
 else
 jA qq p0 p1 p2 p3 (w64 (v13+1))
 else
 some false
 else
 some true
def zJD(qq:Nat)(p0:List Ent)(p1:Int)(p2:List Int)(p3:Int):Option Bool:=
 jA qq p0 p1 p2 p3 0
theorem zPS:∀qq:Nat,(∀ {p0 p1 p2 p3 v13 r},jA qq p0 p1 p2 p3 v13=some r->(∀j,dL 0 (pt 949 Tryz.f192) (sp j 42 0 [(0,slv yP p0 .no),(1,ai p1),(3,ai p3),(11,slv yB p2 .no),(12,ai (p2.length:Int)),(13,ai v13)]) (⟨[],0,[],0,[]⟩) (fQ 0 (nQ 0 Tryz.f192 (ab r) [] 0) [.blk 0,.seq (pt 15 Tryz.f192)]))):=by
 intro qq
 induction qq with
 |zero=>
  exact fun h=>nn h
 |succ qq ih=>
  intro p0 p1 p2 p3 v13 r h
  rw[jA]at h
  obtain⟨h1,h⟩|⟨h1,h⟩:=spl h
  obtain⟨x2,h3,h⟩:=zC h
  obtain⟨r4,h5,h⟩:=zC h
  have k:=oA 0 (nU (o:=.no) h3)<|oB 0 h1 o0
  obtain⟨h6,h⟩|⟨h6,h⟩:=spl h
  obtain⟨x7,h8,h⟩:=zC h
  have k:=oA 1 (xL (o:=.no) h8)<|oK 1 [] h6 (zJC h5) k
  obtain⟨h9,h⟩|⟨h9,h⟩:=spl h
  cases h
  exact fun j=>lF 0 [] (oB 1 h9 k)
  have k:=oA 0 (xL (o:=.no) h8)<|oB 1 h9 k
  obtain⟨h10,h⟩|⟨h10,h⟩:=spl h
  cases h
  exact fun j=>lF 0 [] (oB 1 h10 k)
  exact fun j=>lH 1 [] [] [] [0,1,3,11,12,13] (oD (dI p2)<|oD (dE p0)<|oB 1 h10 k) (ih h)
  cases h
  exact fun j=>lF 1 [] (oK 1 [] h6 (zJC h5) k)
  cases h
  exact fun j=>lF 0 [] (oB 0 h1 o0)
theorem zPT{qq p0 p1 p2 p3 r}(h:zJD qq p0 p1 p2 p3=some r):Ct 192 [] [slv yP p0 .no,ai p1,slv yB p2 .no,ai p3] (ab r) [] 0:=⟨by
 unfold zJD at h
 exact tH ⟨Tryz.func192,rfl⟩ 1 [] [] [] [0,1,3,11,12,13] (oD (dI p2)<|oD (dE p0) o0) (zPS _ h),⟨⟨tv,dE _⟩,tv,⟨tv,dI _⟩,tv,tv⟩,zB,tv,zB⟩
def zMD(qq:Nat)(p0:List Ent)(p1:Int):Option Bool:=
 zS p0 p1>>=fun x1=>
 if decide (x1.pars<0)then
 some false
 else
 if decide (x1.inds<0)then
 some false
 else
 if decide (x1.pars>24)then
 some false
 else
 if decide (x1.inds>(w64 (24-x1.pars)))then
 some false
 else
 if x1.fam != 0 then
 some false
 else
 if x1.place != 0 then
 some false
 else
 zJA qq x1.body>>=fun r9=>
 if r9 then
 T7 qq x1.type (w64 (x1.pars+x1.inds))>>=fun r12=>
 if r12.2.2 != 0 then
 some false
 else
 if r12.2.1.k != 2 then
 some false
 else
 if r12.2.1.n != x1.level then
 some false
 else
 if decide ((x1.cons.length:Int)>16)then
 some false
 else
 zJB qq x1.cons (w64 (p1+1))>>=fun r18=>
 if r18 then
 zJD qq p0 p1 x1.cons 2>>=fun r21=>
 if r21 then
 if (x1.fields.length:Int)==0 then
 some true
 else
 if x1.inds != 0 then
 some false
 else
 if (x1.cons.length:Int) != 1 then
 some false
 else
 zJB qq x1.fields (w64 (p1+2))>>=fun r27=>
 if r27 then
 zJD qq p0 p1 x1.fields 4>>=fun r30=>
 if r30 then
 zS p0 (w64 (p1+1))>>=fun x33=>
 zDr qq x33.type>>=fun r35=>
 if r35.2.2==0 then
 some ((r35.1.length:Int)==(w64 (x1.pars+(x1.fields.length:Int))))
 else
 some false
 else
 some false
 else
 some false
 else
 some false
 else
 some false
 else
 some false
theorem lM:Qf 154 Tryz.f154:=⟨Tryz.func154,rfl⟩
theorem zWT{qq p0 p1 r}(h:zMD qq p0 p1=some r):Ct 154 [] [slv yP p0 .no,ai p1] (ab r) [] 0:=⟨by
 unfold zMD at h
 obtain⟨x1,h2,h⟩:=zC h
 have k:=oA 0 (xL (o:=.no) h2) o0
 obtain⟨h3,h⟩|⟨h3,h⟩:=spl h
 cases h
 exact tF lM 0 [] (oB 3 h3 k)
 have k:=oB 3 h3 k
 obtain⟨h4,h⟩|⟨h4,h⟩:=spl h
 cases h
 exact tF lM 0 [] (oB 1 h4 k)
 have k:=oB 1 h4 k
 obtain⟨h5,h⟩|⟨h5,h⟩:=spl h
 cases h
 exact tF lM 0 [] (oB 1 h5 k)
 have k:=oB 1 h5 k
 obtain⟨h6,h⟩|⟨h6,h⟩:=spl h
 cases h
 exact tF lM 0 [] (oB 3 h6 k)
 have k:=oB 3 h6 k
 obtain⟨h7,h⟩|⟨h7,h⟩:=spl h
 cases h
 exact tF lM 0 [] (oB 1 h7 k)
 have k:=oB 1 h7 k
 obtain⟨h8,h⟩|⟨h8,h⟩:=spl h
 cases h
 exact tF lM 0 [] (oB 1 h8 k)
 obtain⟨r9,h10,h⟩:=zC h
 have k:=oB 1 h8 k
 obtain⟨h11,h⟩|⟨h11,h⟩:=spl h
 obtain⟨r12,h13,h⟩:=zC h
 have k:=oC 5 [] (zMn h13)<|oK 1 [] h11 (zPP h10) k
 obtain⟨h14,h⟩|⟨h14,h⟩:=spl h
 cases h
 exact tF lM 0 [] (oB 4 h14 k)
 have k:=oB 4 h14 k
 obtain⟨h15,h⟩|⟨h15,h⟩:=spl h
 cases h
 exact tF lM 0 [] (oB 1 h15 k)
 have k:=oB 1 h15 k
 obtain⟨h16,h⟩|⟨h16,h⟩:=spl h
 cases h
 exact tF lM 0 [] (oB 2 h16 k)
 have k:=oB 2 h16 k
 obtain⟨h17,h⟩|⟨h17,h⟩:=spl h
 cases h
 exact tF lM 0 [] (oB 2 h17 k)
 obtain⟨r18,h19,h⟩:=zC h
 have k:=oB 2 h17 k
 obtain⟨h20,h⟩|⟨h20,h⟩:=spl h
 obtain⟨r21,h22,h⟩:=zC h
 have k:=oK 2 [] h20 (zPR h19) k
 obtain⟨h23,h⟩|⟨h23,h⟩:=spl h
 have k:=oK 2 [] h23 (zPT h22) k
 obtain⟨h24,h⟩|⟨h24,h⟩:=spl h
 cases h
 exact tF lM 0 [] (oB 3 h24 k)
 have k:=oB 3 h24 k
 obtain⟨h25,h⟩|⟨h25,h⟩:=spl h
 cases h
 exact tF lM 0 [] (oB 1 h25 k)
 have k:=oB 1 h25 k
 obtain⟨h26,h⟩|⟨h26,h⟩:=spl h
 cases h
 exact tF lM 0 [] (oB 2 h26 k)
 obtain⟨r27,h28,h⟩:=zC h
 have k:=oB 2 h26 k
 obtain⟨h29,h⟩|⟨h29,h⟩:=spl h
 obtain⟨r30,h31,h⟩:=zC h
 have k:=oK 2 [] h29 (zPR h28) k
 obtain⟨h32,h⟩|⟨h32,h⟩:=spl h
 obtain⟨x33,h34,h⟩:=zC h
 obtain⟨r35,h36,h⟩:=zC h
 have k:=oC 1 [] (zPA h36)<|oA 2 (xL (o:=.no) h34)<|oK 2 [] h32 (zPT h31) k
 obtain⟨h37,h⟩|⟨h37,h⟩:=spl h
 cases h
 exact tF lM 6 [] (oB 4 h37 k)
 cases h
 exact tF lM 0 [] (oB 4 h37 k)
 cases h
 exact tF lM 1 [] (oK 2 [] h32 (zPT h31) k)
 cases h
 exact tF lM 1 [] (oK 2 [] h29 (zPR h28) k)
 cases h
 exact tF lM 1 [] (oK 2 [] h23 (zPT h22) k)
 cases h
 exact tF lM 1 [] (oK 2 [] h20 (zPR h19) k)
 cases h
 exact tF lM 1 [] (oK 1 [] h11 (zPP h10) k),⟨⟨tv,dE _⟩,tv,tv⟩,zB,tv,zB⟩
end Go.Proofs.YtfbkefchjcocmaaGreat
